/- A text of the proof: the parts E12, E13, E14, E15, E16, E17, E18, E19, E20, E21, E22. -/
import Derived.IntWalk
import Derived.Laws.StructEq
import Derived.MapKept
import Derived.Test.YtgopbbkpcjgihaaGreatK1
set_option linter.unusedSimpArgs false
set_option linter.unusedVariables false
set_option maxHeartbeats 8000000
namespace Go.Vsi
abbrev yae:=@Go.Vsi.Wk.refl
abbrev ybf:=@Go.Vsi.Step.pure
abbrev ycb:=@Go.Vsi.LRel.ext
abbrev ycl:=@Go.Vsi.Ext.refl
abbrev ycx:=@Go.Vsi.VRel.ext
abbrev yc3:=@Go.Vsi.DRel.refl
abbrev yc4:=@Go.Vsi.MRel.ext
abbrev ydk:=@Go.Vsi.MRel.mk
end Go.Vsi
namespace Go.Vsi
section
def Tq1 (B C:Blk):Prop:=B=C∨∃ e sz n n',B=.tok e sz n∧C=.tok e sz n'
def inW:List Nat→Nat→Bool
 | [],_=>false
 | i::W,j=>match Nat.beq i j with
   | true=>true
   | false=>inW W j
def Tq (W:List Nat) (l l':Heap):Prop:=l'.length=l.length∧∀ j B,lget l j=some B→inW W j=false→∃ C,lget l' j=some C∧Tq1 B C
theorem Tq.refl {W:List Nat} (l:Heap):Tq W l l:=⟨rfl,fun _ B h _=>⟨B,h,.inl rfl⟩⟩
theorem Tq.at_ {W:List Nat} {l l':Heap} (h:Tq W l l') (j:Nat) (hj:inW W j=false):(lget l j=none∧lget l' j=none)∨∃ B C,lget l j=some B∧lget l' j=some C∧Tq1 B C:=by
 cases hl:lget l j with
 | none =>
   left
   refine ⟨rfl,?_⟩
   rw [za9] at hl ⊢
   have:=List.getElem?_eq_none_iff.1 hl
   exact List.getElem?_eq_none_iff.2 (by rw [h.1];exact this)
 | some B =>
   obtain ⟨C,h1,h2⟩:=h.2 j B hl hj
   exact .inr ⟨B,C,rfl,h1,h2⟩
def Blk.isTok:Blk→Bool
 | .tok _ _ _=>true
 | _=>false
theorem Tq.set {W:List Nat} {l l':Heap} (h:Tq W l l') (j:Nat) {B C:Blk} (hj:inW W j=false→lget l' j=some B∧Tq1 B C∧B.isTok=true):Tq W l (l'.set j C):=by
 refine ⟨by simpa using h.1,fun i D hi hw=>?_⟩
 obtain ⟨D',h1,h2⟩:=h.2 i D hi hw
 by_cases hij:j=i
 ·subst hij
  obtain ⟨k1,k2,k3⟩:=hj hw
  rw [h1] at k1
  cases k1
  have hlt:j<l'.length:=by rw [za9] at h1;exact (yac.1 h1).1
  refine ⟨C,by rw [za9,List.getElem?_set_self hlt],?_⟩
  rcases h2 with rfl|⟨e,sz,n,n',rfl,rfl⟩
  ·exact k2
  ·rcases k2 with rfl|⟨e2,sz2,m,m',q1,rfl⟩
   ·exact .inr ⟨e,sz,n,n',rfl,rfl⟩
   ·cases q1
    exact .inr ⟨e,sz,n,m',rfl,rfl⟩
 ·exact ⟨D',by rw [za9] at h1 ⊢;rw [ydb hij];exact h1,h2⟩
inductive DK where
 | r
 | m
 | a (B:Blk)
 | w (tm:Bool)
 /-- the memory from place q on becomes X: n blocks more -/
 | f (q n:Nat) (X:Heap)
structure DOp where
 o:Oper
 k:DK
 v:AV
def looks (all:List Oper) (o:Oper):List Nat :=
 (o.op.operands.toList.filterMap fun|.tmp t=>some t|_=>none) ++
 (match o.guard with
  | some (j,_)=>match lget all j with
    | some oj=>match oj.dst with
      | some d=>[d]
      | none=>[]
    | none=>[]
  | none=>[])
def Agree (ts:List Nat) (e e':Env):Prop:=∀ t,t∈ts→get e' t=get e t
section
variable (P:Program) (N:FN)
def XOk [Glob] (hp:Hp) (env:Env) (o:Oper) (v:AV):Prop :=
 ∀ (g:G) (w:World) (a:Act),HRel g w hp→ERel N g w env a→∀ (K:Act→World→Prop) (Qc:Exit→Act→World→Prop),
  (∀ g' w' c,HRel g' w' hp→VRel g' w' v c→Ext g w g' w'→K (a.put o.dst c) w')→o.wpIn (FR (N.fo g)) 0 P a w K Qc
def WOk [Glob] (hp hp':Hp) (env:Env) (o:Oper) (v:AV):Prop :=
 ∀ (g:G) (w:World) (a:Act),HRel g w hp→ERel N g w env a→∀ (K:Act→World→Prop) (Qc:Exit→Act→World→Prop),
  (∀ g' w' c,HRel g' w' hp'→VRel g' w' v c→Ext g w g' w'→K (a.put o.dst c) w')→o.wpIn (FR (N.fo g)) 0 P a w K Qc
def AOk [Glob] (B:Blk) (env:Env) (o:Oper):Prop :=
 ∀ (g:G) (w:World) (a:Act),ERel N g w env a→∃ t l cs,B=.box t l∧LRel g w l cs.toList ∧
  (execOp a.eval o).run P w=.ok (.value (.pointer (some ⟨w.heap.size,0,none⟩))) (w.alloc (.cells cs t))
def AOkV [Glob] (B:Blk) (vf:Nat→AV) (env:Env) (o:Oper):Prop :=
 ∀ (g:G) (w:World) (a:Act),ERel N g w env a→∃ t l cs c,B=.box t l∧LRel g w l cs.toList ∧
  (execOp a.eval o).run P w=.ok (.value c) (w.alloc (.cells cs t))∧∀ (g':G) (w':World) (i:Nat),g'.ok i→g'.blk i=w.heap.size→VRel g' w' (vf i) c
def FOp [Glob] (I:Hp→Prop) (all:List Oper) (d:DOp) (env:Env) (hp hp':Hp):Prop :=
 match gd all env d.o with
 | none=>False
 | some false=>(d.k=.r∧d.v=.tup [])∧hp'=hp
 | some true=>match d.k with
   | .r=>(∀ env',Agree (looks all d.o) env env'→∀ hp,XOk P N hp env' d.o d.v)∧hp'=hp
   | .m=>(∀ env',Agree (looks all d.o) env env'→∀ hp,I hp→XOk P N hp env' d.o d.v)∧hp'=hp
   | .a B=>d.o.dst.isSome=true∧(∃ vf:Nat→AV,d.v=vf (hp.base.length+hp.k)∧∀ env',Agree (looks all d.o) env env'→AOkV P N B vf env' d.o)∧hp'=⟨hp.base,hp.k+1,hp.loc++[B]⟩
   | .w tm=>(tm=true→I hp')∧(∀ env',Agree (looks all d.o) env env'→WOk P N hp hp' env' d.o d.v)
   | .f q n X=>(∀ env',Agree (looks all d.o) env env'→∀ L1:Heap,L1.length=q→I ⟨hp.base,hp.k,L1++hp.loc.drop q⟩→WOk P N ⟨hp.base,hp.k,L1++hp.loc.drop q⟩ ⟨hp.base,hp.k+n,L1++X⟩ env' d.o d.v)∧(q≤hp.loc.length∧X.length=(hp.loc.drop q).length+n)∧hp'=⟨hp.base,hp.k+n,hp.loc.take q++X⟩
def push (d:DOp) (e:Env):Env:=match d.o.dst with
 | some t=>(t,d.v)::e
 | none=>e
def DF [Glob] (I:Hp→Prop) (all:List Oper):List DOp→Env→Hp→(Env→Hp→Prop)→Prop
 | [],e,hp,K=>K e hp
 | d::ds,e,hp,K=>∃ hp',FOp P N I all d e hp hp'∧DF I all ds (push d e) hp' K
end
def lastv (s:Nat→Bool) (t:Nat):Nat→List DOp→AV→AV
 | _,[],x=>x
 | i,d::ds,x=>lastv s t (i+1) ds (if s i=true∧d.o.dst=some t then d.v else x)
theorem ze6 {s s':Nat→Bool} {t:Nat}:∀ (ds:List DOp) (i:Nat) (x:AV),(∀ j d,ds[j]? = some d→d.o.dst=some t→s (i+j)=s' (i+j))→lastv s t i ds x=lastv s' t i ds x
 | [],_,_,_=>rfl
 | d::ds,i,x,h=>by
   simp only [lastv]
   have h0:(s i=true∧d.o.dst=some t)↔(s' i=true∧d.o.dst=some t):=by
    constructor
    ·rintro ⟨h1,h2⟩;exact ⟨by have:=h 0 d (by simp) h2;simp only [yby] at this;rw [← this];exact h1,h2⟩
    ·rintro ⟨h1,h2⟩;exact ⟨by have:=h 0 d (by simp) h2;simp only [yby] at this;rw [this];exact h1,h2⟩
   simp only [h0]
   exact ze6 ds (i+1) _ fun j d' hj hd=>by
    have:=h (j+1) d' (by simpa using hj) hd
    rwa [show i+1+j=i+(j+1) by omega]
theorem zf4 {s:Nat→Bool} {t:Nat}:∀ (ds:List DOp) (i:Nat) (x:AV),(∀ j d,ds[j]? = some d→d.o.dst=some t→s (i+j)=false)→lastv s t i ds x=x
 | [],_,_,_=>rfl
 | d::ds,i,x,h=>by
   simp only [lastv]
   have h0:¬ (s i=true∧d.o.dst=some t):=by
    rintro ⟨h1,h2⟩
    have:=h 0 d (by simp) h2
    simp only [yby] at this
    rw [this] at h1;cases h1
   rw [if_neg h0]
   exact zf4 ds (i+1) x fun j d' hj hd=>by
    have:=h (j+1) d' (by simpa using hj) hd
    rwa [show i+1+j=i+(j+1) by omega]
theorem lastv_at {s:Nat→Bool} {t:Nat}:∀ (ds:List DOp) (i k:Nat) (d:DOp) (x:AV),ds[k]? = some d→d.o.dst=some t→s (i+k)=true→(∀ j d',ds[j]? = some d'→d'.o.dst=some t→k<j→s (i+j)=false)→lastv s t i ds x=d.v
 | [],_,k,_,_,h,_,_,_=>by simp at h
 | d0::ds,i,0,d,x,h,hd,hs,hn=>by
   simp at h
   subst h
   simp only [lastv]
   rw [if_pos ⟨by simpa using hs,hd⟩]
   exact zf4 ds (i+1) _ fun j d' hj hd'=>by
    have:=hn (j+1) d' (by simpa using hj) hd' (by omega)
    rwa [show i+1+j=i+(j+1) by omega]
 | d0::ds,i,k+1,d,x,h,hd,hs,hn=>by
   simp only [lastv]
   refine lastv_at ds (i+1) k d _ (by simpa using h) hd (by rwa [show i+1+k=i+(k+1) by omega]) fun j d' hj hd' hlt=>?_
   have:=hn (j+1) d' (by simpa using hj) hd' (by omega)
   rwa [show i+1+j=i+(j+1) by omega]
def envAt:Nat→List DOp→Env→Env
 | 0,_,e=>e
 | _+1,[],e=>e
 | n+1,d::ds,e=>envAt n ds (push d e)
theorem get_push (d:DOp) (e:Env) (t:Nat):get (push d e) t=if d.o.dst=some t then d.v else get e t:=by
 unfold push
 cases h:d.o.dst with
 | none=>simp
 | some u =>
   by_cases hu:u=t
   ·subst hu;simp [zb3]
   ·rw [zch _ _ hu];simp [hu]
theorem envAt_get (t:Nat):∀ (n i:Nat) (ds:List DOp) (e:Env),get (envAt n ds e) t=lastv (fun j=>decide (j<i+n)) t i ds (get e t)
 | 0,i,ds,e=>by
   rw [zf4]
   ·rfl
   ·intro j d _ _;simp
 | n+1,i,[],e=>rfl
 | n+1,i,d::ds,e=>by
   simp only [envAt,lastv]
   rw [envAt_get t n (i+1) ds (push d e),get_push]
   have h1:i<i+(n+1):=by omega
   simp only [h1,decide_true,true_and]
   rw [show i+1+n=i+(n+1) by omega]
theorem DF.at_ [Glob] {P:Program} {N:FN} {I:Hp→Prop} {all:List Oper} {K:Env→Hp→Prop}:∀ {ds:List DOp} {e:Env} {hp:Hp},DF P N I all ds e hp K→∃ hs:Nat→Hp,hs 0=hp∧(∀ i d,ds[i]? = some d→FOp P N I all d (envAt i ds e) (hs i) (hs (i+1)))∧K (envAt ds.length ds e) (hs ds.length)
 | [],e,hp,h=>⟨fun _=>hp,rfl,fun i d hd=>by simp at hd,h⟩
 | d::ds,e,hp,h=>by
   obtain ⟨hp',h1,h2⟩:=h
   obtain ⟨hs,e0,e1,e2⟩:=h2.at_
   refine ⟨fun i=>match i with|0=>hp|i+1=>hs i,rfl,fun i d' hd=>?_,?_⟩
   ·cases i with
    | zero =>
      simp at hd
      subst hd
      simp only [envAt]
      rw [e0];exact h1
    | succ i=>exact e1 i d' (by simpa using hd)
   ·simpa [envAt] using e2
def kcode:DK→Nat
 | .r=>0
 | .m=>1
 | .a _=>2
 | .w tm=>match tm with
   | false=>3
   | true=>4
 | .f q _ _=>5+q
def DK.wr (k:DK):Prop:=∃ tm,k=.w tm
def names (all:List Oper) (o:Oper):List Nat:=looks all o++o.dst.toList
def bitOf (cl:List Nat) (i j:Nat):Bool:=(cl.getD j 0).testBit i
def pairOk (all:List Oper) (cl:List Nat) (oi oj:Oper) (ki kj i j:Nat):Bool :=
 (match oi.dst with
  | some t=>!(names all oj).contains t || bitOf cl i j
  | none=>true) &&
 (match oj.dst with
  | some t=>!(names all oi).contains t || bitOf cl i j
  | none=>true) &&
 (if kj=3 || kj=4 then ki=0 || bitOf cl i j || (kj=4&&ki=1) else true)&&(if ki=3 || ki=4 then kj=0 || (kj=3 || kj=4) || (ki=4&&kj=1) else true) &&
 (if 5≤ki then !(Nat.beq kj 2)&&(Nat.blt kj 5 || bitOf cl i j) else true)
def drawPairs (all:List Oper) (cl:List Nat) (ks:List Nat):Bool :=
 (List.range all.length).all fun j=>(List.range j).all fun i=>match all[i]?,all[j]? with
   | some oi,some oj=>pairOk all cl oi oj (ks.getD i 0) (ks.getD j 0) i j
   | _,_=>true
def drawClo (all:List Oper) (cl:List Nat):Bool :=
 (List.range all.length).all fun j=>(List.range all.length).all fun i=>!bitOf cl i j ||
   (match all[j]? with
    | some oj=>oj.after.toList.any fun e=>Region.binds .any e&&(e.on==i || bitOf cl i e.on)
    | none=>false)
def zf6 (all:List Oper):Bool :=
 (List.range all.length).all fun j=>match all[j]? with
   | some oj=>oj.after.toList.all fun e=>!Region.binds .any e || decide (e.on<j)
   | none=>true
def tameOk:List Nat→Bool
 | []=>true
 | k::l=>match Nat.beq k 3 with
   | true=>l.all fun j=>Nat.blt j 4
   | false=>tameOk l
theorem tameOk_spec:∀ {l1 l2:List Nat} {c:Nat},4≤c→tameOk (l1++c::l2)=true→3 ∉ l1
 | [],_,_,_,_=>by simp
 | k::l1,l2,c,hc,h=>by
   simp only [yci,tameOk] at h
   split at h
   ·rw [yao] at h
    have:=h c (by simp)
    simp [Nat.blt] at this
    omega
   ·rename_i hk
    rw [yay,not_or]
    exact ⟨fun e=>by subst e;simp at hk,tameOk_spec hc h⟩
def cnt2:List Nat→Nat
 | []=>0
 | k::l=>match Nat.beq k 2 with
   | true=>cnt2 l+1
   | false=>cnt2 l
def lineAt (m:Nat):List Nat→Bool
 | []=>true
 | k::l=>match Nat.ble 5 k with
   | true=>match Nat.ble (5+m) k with
     | true=>lineAt m l
     | false=>false
   | false=>lineAt m l
theorem lineAt_spec {m:Nat}:∀ {l:List Nat},lineAt m l=true→∀ c∈l,5≤c→5+m≤c
 | [],_,c,hc,_=>by cases hc
 | k::l,h,c,hc,h5=>by
   simp only [lineAt] at h
   rcases yay.1 hc with rfl|hc
   ·rw [show Nat.ble 5 c=true by rw [Nat.ble_eq];exact h5] at h
    simp only at h
    split at h
    ·rename_i hb;rw [Nat.ble_eq] at hb;exact hb
    ·cases h
   ·refine lineAt_spec (l:=l) ?_ c hc h5
    split at h
    ·split at h
     ·exact h
     ·cases h
    ·exact h
def zev (n:Nat) (all:List Oper) (cl:List Nat) (ks:List Nat):Bool:=drawPairs all cl ks&&(drawClo all cl&&zf6 all)&&(tameOk ks&&lineAt (n+cnt2 ks) ks)
theorem drawOk_tame {n:Nat} {all:List Oper} {cl l1 l2:List Nat} {c:Nat} (hc:4≤c) (h:zev n all cl (l1++c::l2)=true):3 ∉ l1:=by
 unfold zev at h
 rw [yak,yak (tameOk _)] at h
 exact tameOk_spec hc h.2.1
theorem drawOk_line {n:Nat} {all:List Oper} {cl ks:List Nat} (h:zev n all cl ks=true):∀ c∈ks,5≤c→5+(n+cnt2 ks)≤c:=by
 unfold zev at h
 rw [yak,yak (tameOk _)] at h
 exact lineAt_spec h.2.2
structure Checked (all:List Oper) (cl:List Nat) (k:Nat→Nat):Prop where
 pair:∀ i j oi oj,i<j→all[i]? = some oi→all[j]? = some oj→pairOk all cl oi oj (k i) (k j) i j=true
 clo:∀ i j oj,i<all.length→all[j]? = some oj→bitOf cl i j=true→∃ e∈oj.after.toList,Region.binds .any e=true∧(e.on=i∨bitOf cl i e.on=true)
 back:∀ j oj,all[j]? = some oj→∀ e∈oj.after.toList,Region.binds .any e=true→e.on<j
theorem checked_of {n:Nat} {all:List Oper} {cl ks:List Nat} (h:zev n all cl ks=true):Checked all cl (fun i=>ks.getD i 0):=by
 unfold zev drawPairs drawClo zf6 at h
 simp only [yak,yao,ybo] at h
 obtain ⟨⟨h1,h2,h3⟩,-⟩:=h
 have hlt:∀ {j:Nat} {o:Oper},all[j]? = some o→j<all.length:=fun hj=>(yac.1 hj).1
 refine ⟨fun i j oi oj hij hi hj=>?_,fun i j oj hi hj hb=>?_,fun j oj hj e he hb=>?_⟩
 ·have:=h1 j (hlt hj) i hij
  simpa [hi,hj] using this
 ·have:=h2 j (hlt hj) i hi
  simp only [hb,Bool.not_true,Bool.false_or,hj,yc0,yak] at this
  obtain ⟨e,he,h4,h5⟩:=this
  refine ⟨e,he,h4,?_⟩
  simpa [Bool.or_eq_true,beq_iff_eq] using h5
 ·have:=h3 j (hlt hj)
  simp only [hj,yao] at this
  simpa [hb] using this e he
def restr (ts:List Nat) (e:Env):Env:=ts.map fun t=>(t,get e t)
theorem get_restr (e:Env) (t:Nat):∀ ts:List Nat,get (restr ts e) t=if t∈ts then get e t else .junk
 | []=>by simp [restr,get]
 | u::ts=>by
   have ih:=get_restr e t ts
   unfold restr at ih ⊢
   simp only [ybx]
   by_cases hu:u=t
   ·subst hu;rw [zb3];simp
   ·rw [zch _ _ hu,ih]
    simp [ycq hu]
theorem agree_restr (ts:List Nat) (e:Env):Agree ts e (restr ts e):=fun t ht=>by rw [get_restr,if_pos ht]
def za4 (s:Nat→Bool):Nat→List DOp→Heap
 | _,[]=>[]
 | i,d::ds=>match d.k with
   | .a B=>(if s i=true then B else .dead)::za4 s (i+1) ds
   | _=>za4 s (i+1) ds
def cntA:List DOp→Nat
 | []=>0
 | d::ds=>match d.k with
   | .a _=>cntA ds+1
   | _=>cntA ds
theorem zcl (s:Nat→Bool):∀ (i:Nat) (ds:List DOp),(za4 s i ds).length=cntA ds
 | _,[]=>rfl
 | i,d::ds=>by
   cases hk:d.k <;> simp [za4,cntA,hk,zcl s (i+1) ds]
theorem zdw {s s':Nat→Bool}:∀ (ds:List DOp) (i:Nat),(∀ j d B,ds[j]? = some d→d.k=.a B→s (i+j)=s' (i+j))→za4 s i ds=za4 s' i ds
 | [],_,_=>rfl
 | d::ds,i,h=>by
   have hr:za4 s (i+1) ds=za4 s' (i+1) ds:=zdw ds (i+1) fun j d' B hj hk=>by
    have:=h (j+1) d' B (by simpa using hj) hk
    rwa [show i+1+j=i+(j+1) by omega]
   cases hk:d.k with
   | a B =>
     have:=h 0 d B (by simp) hk
     simp only [yby] at this
     simp [za4,hk,hr,this]
   | r=>simp [za4,hk,hr]
   | m=>simp [za4,hk,hr]
   | w=>simp [za4,hk,hr]
   | f=>simp [za4,hk,hr]
theorem masked_at {s s':Nat→Bool}:∀ (ds:List DOp) (i k:Nat) (d:DOp) (B:Blk),ds[k]? = some d→d.k=.a B→s (i+k)=false→s' (i+k)=true→(∀ j,j≠i+k→s' j=s j) →
  (za4 s i ds)[cntA (ds.take k)]? = some .dead∧za4 s' i ds=(za4 s i ds).set (cntA (ds.take k)) B
 | [],_,_,_,_,h,_,_,_,_=>by simp at h
 | d0::ds,i,0,d,B,h,hk,h0,h1,hne=>by
   simp at h
   subst h
   simp only [yby] at h0 h1 hne
   have hr:za4 s' (i+1) ds=za4 s (i+1) ds:=zdw ds (i+1) fun j d' B' _ _=>hne _ (by omega)
   simp [za4,hk,h0,h1,cntA,hr]
 | d0::ds,i,k+1,d,B,h,hk,h0,h1,hne=>by
   have ih:=masked_at (s:=s) (s':=s') ds (i+1) k d B (by simpa using h) hk (by rwa [show i+1+k=i+(k+1) by omega]) (by rwa [show i+1+k=i+(k+1) by omega]) (fun j hj=>hne j (by omega))
   have hi:s' i=s i:=hne i (by omega)
   cases hk0:d0.k with
   | a B0=>simp [za4,hk0,cntA,ih.1,ih.2,hi]
   | r=>simp [za4,hk0,cntA,ih.1,ih.2]
   | m=>simp [za4,hk0,cntA,ih.1,ih.2]
   | w=>simp [za4,hk0,cntA,ih.1,ih.2]
   | f=>simp [za4,hk0,cntA,ih.1,ih.2]
theorem masked_all {s:Nat→Bool}:∀ (ds:List DOp) (i:Nat),(∀ j d B,ds[j]? = some d→d.k=.a B→s (i+j)=true)→za4 s i ds=za4 (fun _=>true) i ds :=
 fun ds i h=>zdw ds i fun j d B hj hk=>by rw [h j d B hj hk]
def lineS (q0:Nat):DK→Heap→Heap
 | .f q _ X,z=>z.take (q-q0)++X
 | _,z=>z
theorem lineS_id {q0:Nat} {k:DK} (h:∀ q n X,k≠.f q n X) (z:Heap):lineS q0 k z=z:=by
 cases k with
 | f q n X=>exact absurd rfl (h q n X)
 | _=>rfl
def appd (q0:Nat) (s:Nat→Bool):Nat→List DOp→Heap→Heap
 | _,[],z=>z
 | i,d::ds,z=>appd q0 s (i+1) ds (if s i=true then lineS q0 d.k z else z)
theorem zgb {q0:Nat} {s s':Nat→Bool}:∀ (ds:List DOp) (i:Nat) (z:Heap),(∀ j d q n X,ds[j]? = some d→d.k=.f q n X→s (i+j)=s' (i+j))→appd q0 s i ds z=appd q0 s' i ds z
 | [],_,_,_=>rfl
 | d::ds,i,z,h=>by
   have hr:∀ z,appd q0 s (i+1) ds z=appd q0 s' (i+1) ds z:=fun z=>zgb ds (i+1) z fun j d' q n X hj hk=>by
    have:=h (j+1) d' q n X (by simpa using hj) hk
    rwa [show i+1+j=i+(j+1) by omega]
   simp only [appd]
   rw [hr]
   by_cases hk:∃ q n X,d.k=.f q n X
   ·obtain ⟨q,n,X,hk⟩:=hk
    have:=h 0 d q n X (by simp) hk
    simp only [yby] at this
    rw [this]
   ·have e:=lineS_id (q0:=q0) (k:=d.k) (fun q n X hq=>hk ⟨q,n,X,hq⟩) z
    rw [e]
    simp
theorem appd_nil {q0:Nat} {s:Nat→Bool} (ds:List DOp) (i:Nat) (z:Heap) (h:∀ j d q n X,ds[j]? = some d→d.k=.f q n X→s (i+j)=false):appd q0 s i ds z=z:=by
 rw [zgb (s':=fun _=>false) ds i z h]
 clear h
 induction ds generalizing i with
 | nil=>rfl
 | cons d ds ih=>simp only [appd];exact ih (i+1)
theorem zgr {q0:Nat} {s:Nat→Bool} (d:DOp):∀ (ds:List DOp) (j:Nat) (z:Heap),appd q0 s j (ds++[d]) z=if s (j+ds.length)=true then lineS q0 d.k (appd q0 s j ds z) else appd q0 s j ds z
 | [],j,z=>by simp [appd]
 | x::ds,j,z=>by
   have ih:=zgr (q0:=q0) (s:=s) d ds (j+1) (if s j=true then lineS q0 x.k z else z)
   have e:j+1+ds.length=j+(ds.length+1):=by omega
   rw [e] at ih
   simp only [yci,appd,List.length_cons]
   exact ih
theorem zhl {q0:Nat} {s:Nat→Bool}:∀ (ds:List DOp) (i j:Nat) (z:Heap),(∀ p d q n X,ds[p]? = some d→d.k=.f q n X→(p<i→s (j+p)=true)∧(i≤p→s (j+p)=false))→appd q0 s j ds z=appd q0 (fun _=>true) j (ds.take i) z
 | [],i,j,z,_=>by simp [appd]
 | d::ds,0,j,z,h=>by
   rw [List.take_zero,appd_nil (d::ds) j z fun p d' q n X hq hk=>(h p d' q n X hq hk).2 (yah _)]
   rfl
 | d::ds,i+1,j,z,h=>by
   have ih:=fun z=>zhl (q0:=q0) (s:=s) ds i (j+1) z fun p d' q n X hq hk=>by
    have:=h (p+1) d' q n X (by simpa using hq) hk
    rw [show j+1+p=j+(p+1) by omega]
    exact ⟨fun h1=>this.1 (by omega),fun h1=>this.2 (by omega)⟩
   rw [List.take_succ_cons]
   simp only [appd]
   rw [ih]
   by_cases hk:∃ q n X,d.k=.f q n X
   ·obtain ⟨q,n,X,hk⟩:=hk
    have:=(h 0 d q n X (by simp) hk).1 (by omega)
    simp only [yby] at this
    rw [this,if_pos rfl]
    rfl
   ·have e:=lineS_id (q0:=q0) (k:=d.k) (fun q n X hq=>hk ⟨q,n,X,hq⟩) z
    rw [e]
    simp
theorem HRel.revive [Glob] {g:G} {w:World} {hp hp':Hp} (h:HRel g w hp) {i:Nat} (ha:At hp i .dead) (hpe:g.pend i) {t:TypeId} {l:List AV} {cs:Array Value} (hl:LRel g w l cs.toList) (hput:Put hp i (.box t l) hp') :
  ∃ g',HRel g' (w.alloc (.cells cs t)) hp'∧ExtV g w g' (w.alloc (.cells cs t))∧g'.n=g.n∧g'.ok i∧g'.blk i=w.heap.size∧(∀ j,j≠i→(g'.pend j↔g.pend j)) ∧
   (∀ b o,b<w.heap.size→g'.own b o→g.own b o):=by
 let g':G:={ n:=g.n,blk:=fun j=>if j=i then w.heap.size else g.blk j,tk:=g.tk,own:=fun b o=>g.own b o∨b=w.heap.size,pend:=fun j=>g.pend j∧j≠i }
 have hok:∀ j,g.ok j→g'.ok j:=fun j hj=>⟨hj.1,fun q=>hj.2 q.1⟩
 have hne:∀ j,g.ok j→j≠i:=fun j hj e=>hj.2 (e▸hpe)
 have hv:ExtV g w g' (w.alloc (.cells cs t)):=by
  refine ⟨hok,fun j hj=>?_,fun _ _=>.inl rfl,fun {b o c} hc ho=>?_,fun {b es clk} hb0 ho0=>?_⟩
  ·show (if j=i then _ else g.blk j)=_
   rw [if_neg (hne j hj)]
  ·have hb:=World.block_lt_of_cell? w _ hc
   refine ⟨by rw [World.cell?_alloc_lt w _ _ hb];exact hc,?_⟩
   rintro (q|q)
   ·exact ho q
   ·simp only at hb;omega
  ·refine ⟨by rw [hao w _ (zbc hb0)];exact hb0,fun o=>?_⟩
   rintro (q|q)
   ·exact ho0 o q
   ·have:=zbc hb0;omega
 have hold:∀ b,b<w.heap.size→(w.alloc (.cells cs t)).heap[b]? = w.heap[b]? := fun b hb=>hao w _ hb
 have hbi:g'.blk i=w.heap.size:=by show (if i=i then _ else _)=_;rw [if_pos rfl]
 have keep:∀ (j:Nat) (B:Blk),j≠i→BRel g w j B→B≠.dead→g.ok j→BRel g' (w.alloc (.cells cs t)) j B:=by
  intro j B hj hB hd hjk
  exact hB.keepV hv (fun _=>hjk) (fun b hb=>hold _ (hB.loc_lt hb)) rfl (fun _ _ _ ho=>.inl ho)
 refine ⟨g',⟨by rw [hput.base,hput.k];exact h.n,by rw [hput.loc,hput.k];exact h.k,fun j B hj=>?_,fun b o ho=>?_,fun j hj=>?_,fun j1 j2 B C b hj1 hj2 hb1 hb2=>?_,fun pp hpp=>zcu hv _ _ _ (h.glob pp hpp)⟩,hv,rfl,⟨at_lt h ha,fun q=>q.2 rfl⟩,hbi,fun j hj=>⟨fun q=>q.1,fun q=>⟨q,hj⟩⟩,fun b o hb ho=>?_⟩
 ·rcases zb0 hput hj with ⟨rfl,rfl⟩|⟨hij,hj'⟩
  ·exact ⟨cs,by rw [hbi];exact heap_alloc_new w _,zcj hv _ _ hl,fun o=>by rw [hbi];exact .inr rfl⟩
  ·by_cases hd:B=.dead
   ·subst hd;trivial
   ·exact keep j B (ycq hij) (h.rel j B hj') hd (at_ok h hj' hd)
 ·rcases ho with ho|ho
  ·have:=h.lt b o ho
   simp;omega
  ·simp;omega
 ·rw [hput.all,yaw,if_neg (ycq hj.2)]
  exact h.pend j hj.1
 ·have key:∀ (j:Nat) (B:Blk) (b:Nat),hp'.all[j]? = some B→locs g' j B=some b→(j=i∧b=w.heap.size)∨(j≠i∧hp.all[j]? = some B∧locs g j B=some b∧b<w.heap.size):=by
    intro j B b hj hb
    rcases zb0 hput hj with ⟨rfl,rfl⟩|⟨hij,hj'⟩
    ·simp only [locs,yad] at hb
     exact .inl ⟨rfl,by rw [← hb,hbi]⟩
    ·have hloc:locs g' j B=locs g j B:=by
       by_cases hd:B=.dead
       ·subst hd;rfl
       ·exact locs_eq (hv.blk j (at_ok h hj' hd)) rfl
     rw [hloc] at hb
     exact .inr ⟨ycq hij,hj',hb,(h.rel j B hj').loc_lt hb⟩
  rcases key j1 B b hj1 hb1 with ⟨h1,h2⟩|⟨h1,h2,h3,h4⟩ <;> rcases key j2 C b hj2 hb2 with ⟨k1,k2⟩|⟨k1,k2,k3,k4⟩
  ·omega
  ·omega
  ·omega
  ·exact h.inj j1 j2 B C b h2 k2 h3 k3
 ·rcases ho with ho|ho
  ·exact ho
  ·omega
end
section
def cntN (s:Nat→Bool):Nat→Nat
 | 0=>0
 | n+1=>cntN s n+if s n=true then 0 else 1
theorem cntN_same {s s':Nat→Bool}:∀ n,(∀ j,j<n→s' j=s j)→cntN s' n=cntN s n
 | 0,_=>rfl
 | n+1,h=>by simp only [cntN];rw [cntN_same n fun j hj=>h j (by omega),h n (by omega)]
theorem cntN_less {s s':Nat→Bool} {i:Nat} (h0:s i=false) (h1:s' i=true) (hne:∀ j,j≠i→s' j=s j):∀ n,i<n→cntN s' n+1=cntN s n
 | 0,h=>by omega
 | n+1,h=>by
   simp only [cntN]
   by_cases hin:i=n
   ·subst hin
    rw [cntN_same i fun j hj=>hne j (by omega),h0,h1]
    simp
   ·have:=cntN_less h0 h1 hne n (by omega)
    rw [hne n (ycq hin)]
    omega
theorem cntN_zero {s:Nat→Bool}:∀ n,cntN s n=0→∀ i,i<n→s i=true
 | 0,_,i,hi=>by omega
 | n+1,h,i,hi=>by
   simp only [cntN] at h
   by_cases hin:i=n
   ·subst hin
    cases hs:s i
    ·simp [hs] at h
    ·rfl
   ·exact cntN_zero n (by omega) i (by omega)
theorem take_cntA_le (ds:List DOp):∀ i,cntA (ds.take i)≤cntA ds:=by
 induction ds with
 | nil=>intro i;simp [cntA]
 | cons d ds ih =>
   intro i
   cases i with
   | zero=>simp [cntA]
   | succ i =>
     have:=ih i
     cases hk:d.k <;> simp [cntA,hk] <;> omega
theorem zd5 {s:Nat→Bool}:∀ (ds:List DOp) (j i:Nat),(∀ q d B,ds[q]? = some d→i≤q→d.k≠.a B)→za4 s j (ds.take i)=za4 s j ds∧cntA (ds.take i)=cntA ds
 | [],j,i,_=>by simp [za4,cntA]
 | d::ds,j,0,h=>by
   have ih:=zd5 (s:=s) ds (j+1) 0 fun q d' B hq _=>h (q+1) d' B (by simpa using hq) (by omega)
   have h0:=fun B=>h 0 d B (by simp) (by omega)
   simp only [List.take_zero,za4,cntA] at ih ⊢
   cases hk:d.k with
   | a B=>exact absurd hk (h0 B)
   | r=>simp [← ih.1,← ih.2]
   | m=>simp [← ih.1,← ih.2]
   | w=>simp [← ih.1,← ih.2]
   | f=>simp [← ih.1,← ih.2]
 | d::ds,j,i+1,h=>by
   have ih:=zd5 (s:=s) ds (j+1) i fun q d' B hq hle=>h (q+1) d' B (by simpa using hq) (by omega)
   cases hk:d.k <;> simp [za4,cntA,hk,ih.1,ih.2]
theorem take_snoc {α:Type} {l:List α} {i:Nat} {x:α} (h:l[i]? = some x):l.take (i+1)=l.take i++[x]:=by
 have hl:=(yac.1 h)
 rw [ydj hl.1,hl.2]
theorem zg5 {s:Nat→Bool} (d:DOp):∀ (ds:List DOp) (j:Nat),za4 s j (ds++[d])=za4 s j ds++za4 s (j+ds.length) [d]
 | [],j=>by simp [za4]
 | e::ds,j=>by
   have ih:=zg5 (s:=s) d ds (j+1)
   rw [show j+1+ds.length=j+(ds.length+1) by omega] at ih
   cases hk:e.k <;> simp [za4,hk,ih]
theorem ze8 (d:DOp):∀ (ds:List DOp),cntA (ds++[d])=cntA ds+cntA [d]
 | []=>by simp [cntA]
 | e::ds=>by
   have ih:=ze8 d ds
   cases hk:e.k <;> simp [cntA,hk] at ih ⊢ <;> omega
section
variable {P:Program} {N:FN}
theorem fop_same [Glob] {I:Hp→Prop} {all:List Oper} {d:DOp} {e:Env} {hp hp':Hp} (h:FOp P N I all d e hp hp') (hk:d.k=.r∨d.k=.m):hp'=hp:=by
 unfold FOp at h
 cases hg:gd all e d.o with
 | none=>simp [hg] at h
 | some b =>
   cases b with
   | false=>simp only [hg] at h;exact h.2
   | true =>
     simp only [hg] at h
     rcases hk with hk|hk <;> rw [hk] at h <;> exact h.2
theorem fop_box [Glob] {I:Hp→Prop} {all:List Oper} {d:DOp} {e:Env} {hp hp':Hp} {B:Blk} (h:FOp P N I all d e hp hp') (hk:d.k=.a B):hp'=⟨hp.base,hp.k+1,hp.loc++[B]⟩:=by
 unfold FOp at h
 cases hg:gd all e d.o with
 | none=>simp [hg] at h
 | some b =>
   cases b with
   | false=>simp only [hg] at h;rw [hk] at h;cases h.1.1
   | true=>simp only [hg] at h;rw [hk] at h;exact h.2.2
theorem fop_app [Glob] {I:Hp→Prop} {all:List Oper} {d:DOp} {e:Env} {hp hp':Hp} {q n:Nat} {X:Heap} (h:FOp P N I all d e hp hp') (hk:d.k=.f q n X):(q≤hp.loc.length∧X.length=(hp.loc.drop q).length+n)∧hp'=⟨hp.base,hp.k+n,hp.loc.take q++X⟩:=by
 unfold FOp at h
 cases hg:gd all e d.o with
 | none=>simp [hg] at h
 | some b =>
   cases b with
   | false=>simp only [hg] at h;rw [hk] at h;cases h.1.1
   | true=>simp only [hg] at h;rw [hk] at h;exact h.2
theorem line_step {A line X:Heap} {q0 q n k:Nat} (hA:A.length=q0) (hq0:q0≤q) (hq:q≤(A++line).length) (hX:X.length=((A++line).drop q).length+n) :
  (A++line).take q++X=A++lineS q0 (.f q n X) line∧(A++line).drop q=line.drop (q-q0)∧k+line.length+n=k+(lineS q0 (.f q n X) line).length:=by
 have e1:(A++line).take q=A++line.take (q-q0):=by
  rw [List.take_append,hA,yb3 (by omega)]
 have e2:(A++line).drop q=line.drop (q-q0):=by
  rw [List.drop_append,hA,ycy (by omega),ydg]
 refine ⟨by rw [e1];simp [lineS],e2,?_⟩
 rw [e2] at hX
 simp only [ya5,hA] at hq
 simp only [lineS,ya5,yce,hX,List.length_drop]
 omega
theorem zhc [Glob] {I:Hp→Prop} {base:Heap} {k0:Nat} {loc0:Heap} {all:List Oper} {ds:List DOp} {env:Env} {hs:Nat→Hp} (h0:hs 0=⟨base,k0,loc0⟩) (hf:∀ i d,ds[i]? = some d→FOp P N I all d (envAt i ds env) (hs i) (hs (i+1)))
  (hab:∀ (p q:Nat) (dp dq:DOp) (a n:Nat) (X:Heap) (B:Blk),p<q→ds[p]? = some dp→dp.k=.f a n X→ds[q]? = some dq→dq.k≠.a B) (hline:∀ (p:Nat) (d:DOp) (a n:Nat) (X:Heap),ds[p]? = some d→d.k=.f a n X→loc0.length+cntA ds≤a) :
  ∀ i,i≤ds.length→(∀ q d,ds[q]? = some d→q<i→¬ d.k.wr)→hs i=⟨base,k0+cntA (ds.take i)+(appd (loc0.length+cntA ds) (fun _=>true) 0 (ds.take i) []).length,loc0++(za4 (fun _=>true) 0 (ds.take i)++appd (loc0.length+cntA ds) (fun _=>true) 0 (ds.take i) [])⟩
 | 0,_,_=>by simp [h0,cntA,za4,appd]
 | i+1,hi,hw=>by
   have ih:=zhc h0 hf hab hline i (by omega) fun q d hq hlt=>hw q d hq (by omega)
   have hd:ds[i]? = some ds[i]:=yal (by omega)
   have hF:=hf i _ hd
   rw [take_snoc hd,ze8,zg5,zgr,if_pos rfl]
   cases hk:ds[i].k with
   | r=>rw [fop_same hF (.inl hk),ih];simp [cntA,za4,lineS,hk]
   | m=>rw [fop_same hF (.inr hk),ih];simp [cntA,za4,lineS,hk]
   | a B =>
     have hn:appd (loc0.length+cntA ds) (fun _=>true) 0 (ds.take i) []=[]:=by
      rw [appd_nil]
      intro q d a n X hq hkq
      exfalso
      have hqi:q<i:=by
       have:=(yac.1 hq).1
       simp at this
       omega
      rw [List.getElem?_take_of_lt hqi] at hq
      exact hab q i d _ a n X B hqi hq hkq hd hk
     rw [fop_box hF hk,ih,hn];simp [cntA,za4,lineS,hk,ydf]
   | w tm=>exact absurd ⟨tm,hk⟩ (hw i _ hd (by omega))
   | f q n X =>
     have hnoA:∀ p d B,ds[p]? = some d→i≤p→d.k≠.a B:=by
      intro p d B hp hle hkp
      by_cases hpi:p=i
      ·subst hpi;rw [hd] at hp;cases hp;rw [hk] at hkp;cases hkp
      ·exact hab i p _ d q n X B (by omega) hd hk hp hkp
     obtain ⟨-,f2⟩:=zd5 (s:=fun _=>true) ds 0 i hnoA
     obtain ⟨⟨h1,h2⟩,h3⟩:=fop_app hF hk
     rw [h3,ih]
     rw [ih] at h1 h2
     simp only at h1 h2 ⊢
     rw [← ybe] at h1 h2 ⊢
     have hA:(loc0++za4 (fun _=>true) 0 (ds.take i)).length=loc0.length+cntA ds:=by rw [ya5,zcl,f2]
     obtain ⟨e1,-,e3⟩:=line_step (k:=k0+cntA (ds.take i)) hA (hline i _ q n X hd hk) h1 h2
     rw [e1,e3]
     simp [cntA,za4,hk]
theorem hs_calm [Glob] {I:Hp→Prop} {all:List Oper} {ds:List DOp} {env:Env} {hs:Nat→Hp} (hf:∀ i d,ds[i]? = some d→FOp P N I all d (envAt i ds env) (hs i) (hs (i+1))) (p:Nat) :
  ∀ i,p≤i→i≤ds.length→(∀ q d,ds[q]? = some d→p≤q→q<i→d.k=.r∨d.k=.m)→hs i=hs p:=by
 intro i
 induction i with
 | zero=>intro hp _ _;have:p=0:=by omega
         rw [this]
 | succ i ih =>
   intro hpi hi hw
   by_cases hpe:p=i+1
   ·rw [hpe]
   ·have hd:ds[i]? = some ds[i]:=yal (by omega)
    rw [fop_same (hf i _ hd) (hw i _ hd (by omega) (by omega))]
    exact ih (by omega) (by omega) fun q d hq h1 h2=>hw q d hq h1 (by omega)
theorem mem_ready' {ops:Array Oper} {listed:Array Bool} {i:Nat}:i∈Region.ready .any ops listed↔i<ops.size∧listed.getD i true=false∧∃ o,ops[i]? = some o∧∀ e∈o.after.toList,Region.binds .any e=true→listed.getD e.on false=true:=by
 unfold Region.ready
 simp only [List.mem_filter,ybo,yak,Bool.not_eq_true']
 constructor
 ·rintro ⟨h1,h2,h3⟩
  refine ⟨h1,h2,?_⟩
  rw [ybu h1] at h3
  refine ⟨_,ybu h1,fun e he hb=>?_⟩
  simp only [ybb,yct,Array.all_eq_true'] at h3
  have:=h3 e (by simpa using he)
  simpa [hb] using this
 ·rintro ⟨h1,h2,o,h3,h4⟩
  refine ⟨h1,h2,?_⟩
  rw [h3]
  simp only [ybb,yct,Array.all_eq_true']
  intro e he
  cases hb:Region.binds .any e with
  | false=>simp
  | true=>simp [h4 e (by simpa using he) hb]
end
end
section
def dstOk (N:Nat):List Oper→Bool
 | []=>true
 | o::l=>match o.dst with
   | some d=>match Nat.blt d N with
     | true=>dstOk N l
     | false=>false
   | none=>dstOk N l
theorem dstOk_spec {N:Nat}:∀ {l:List Oper},dstOk N l=true→∀ o∈l,∀ d,o.dst=some d→d<N
 | [],_,o,ho=>by cases ho
 | x::l,h,o,ho=>by
   intro d hd
   simp only [dstOk] at h
   cases hx:x.dst with
   | none =>
     simp only [hx] at h
     cases ho with
     | head=>rw [hx] at hd;cases hd
     | tail _ hm=>exact dstOk_spec h o hm d hd
   | some t =>
     simp only [hx] at h
     cases hb:Nat.blt t N with
     | false=>simp [hb] at h
     | true =>
       simp only [hb] at h
       cases ho with
       | head =>
         have h1:t+1≤N:=by simpa [Nat.blt] using hb
         have h2:t=d:=by rw [hx] at hd;exact Option.some.inj hd
         rw [← h2]
         exact h1
       | tail _ hm=>exact dstOk_spec h o hm d hd
structure DInv [Glob] (N:FN) (all:List Oper) (cl:List Nat) (ds:List DOp) (env0:Env) (base:Heap) (k0:Nat) (loc0:Heap) (hs:Nat→Hp) (g0:G) (w0:World) (dfs:List Deferred) (s:Nat→Bool) (g:G) (w:World) (a:Act):Prop where
 down:∀ i j,i<ds.length→j<ds.length→bitOf cl i j=true→s j=true→s i=true
 size:a.tmps.size=N.n
 tm:∀ t,VRel g w (lastv s t 0 ds (get env0 t)) (a.tmps.getD t undef)
 ext:Ext g0 w0 g w
 dfs:a.defers=dfs
 heap:((∀ i d,ds[i]? = some d→d.k.wr→s i=false)∧HRel g w ⟨base,k0+cntA ds+(appd (loc0.length+cntA ds) s 0 ds []).length,loc0++(za4 s 0 ds++appd (loc0.length+cntA ds) s 0 ds [])⟩∧(∀ i d B,ds[i]? = some d→d.k=.a B→s i=false→g.pend (base.length+k0+cntA (ds.take i)))) ∨
  (∃ p d,ds[p]? = some d∧d.k.wr∧s p=true∧(∀ q dq,p<q→ds[q]? = some dq→dq.k.wr→s q=false)∧(∀ q dq,ds[q]? = some dq→dq.k≠.r→¬ dq.k.wr→s q=true∨(dq.k=.m∧d.k=.w true))∧HRel g w (hs (p+1)))
section
variable {P:Program} {N:FN}
theorem kcode_w {k:DK}:(kcode k=3∨kcode k=4)↔k.wr:=by
 cases k with
 | w tm=>cases tm <;> simp [kcode,DK.wr]
 | f q n X=>simp [kcode,DK.wr] <;> omega
 | _=>simp [kcode,DK.wr]
theorem kcode_m {k:DK}:kcode k=1↔k=.m:=by
 cases k with
 | w tm=>cases tm <;> simp [kcode]
 | f q n X=>simp [kcode] <;> omega
 | _=>simp [kcode]
theorem kcode_t {k:DK}:kcode k=4↔k=.w true:=by
 cases k with
 | w tm=>cases tm <;> simp [kcode]
 | f q n X=>simp [kcode] <;> omega
 | _=>simp [kcode]
theorem kcode_r {k:DK}:kcode k=0↔k=.r:=by
 cases k with
 | w tm=>cases tm <;> simp [kcode]
 | f q n X=>simp [kcode] <;> omega
 | _=>simp [kcode]
theorem zes {all:List Oper} {cl:List Nat} {oi oj:Oper} {ki kj i j:Nat} (h:pairOk all cl oi oj ki kj i j=true) :
  (∀ t,oi.dst=some t→t∈names all oj→bitOf cl i j=true)∧(∀ t,oj.dst=some t→t∈names all oi→bitOf cl i j=true)∧(kj=3∨kj=4→ki=0∨bitOf cl i j=true∨(kj=4∧ki=1))∧(ki=3∨ki=4→kj=0∨(kj=3∨kj=4)∨(ki=4∧kj=1)):=by
 unfold pairOk at h
 simp only [yak] at h
 obtain ⟨⟨⟨⟨h1,h2⟩,h3⟩,h4⟩,-⟩:=h
 refine ⟨fun t ht hm=>?_,fun t ht hm=>?_,fun hk=>?_,fun hk=>?_⟩
 ·rw [ht] at h1
  simpa [hm] using h1
 ·rw [ht] at h2
  simpa [hm] using h2
 ·rw [if_pos (by simpa using hk)] at h3
  simpa [or_assoc] using h3
 ·rw [if_pos (by simpa using hk)] at h4
  simpa [or_assoc] using h4
theorem pair_f {all:List Oper} {cl:List Nat} {oi oj:Oper} {ki kj i j:Nat} (h:pairOk all cl oi oj ki kj i j=true):5≤ki→kj≠2∧(5≤kj→bitOf cl i j=true):=by
 intro hk
 unfold pairOk at h
 simp only [yak] at h
 obtain ⟨-,h5⟩:=h
 rw [if_pos hk] at h5
 simp only [yak,Bool.or_eq_true,Bool.not_eq_true'] at h5
 refine ⟨fun e=>?_,fun e=>?_⟩
 ·rw [e] at h5;exact absurd h5.1 (by decide)
 ·rcases h5.2 with h6|h6
  ·simp [Nat.blt] at h6;omega
  ·exact h6
theorem fop_tame [Glob] {I:Hp→Prop} {all:List Oper} {d:DOp} {e:Env} {hp hp':Hp} (h:FOp P N I all d e hp hp') (hk:d.k=.w true):I hp':=by
 unfold FOp at h
 cases hg:gd all e d.o with
 | none=>simp [hg] at h
 | some b =>
   cases b with
   | false=>simp only [hg] at h;rw [hk] at h;cases h.1.1
   | true=>simp only [hg] at h;rw [hk] at h;exact h.1 rfl
theorem draw_core [Glob] {I:Hp→Prop} {all:List Oper} {cl:List Nat} {ds:List DOp} {env0:Env} {base:Heap} {k0:Nat} {loc0:Heap} {hs:Nat→Hp} {g0:G} {w0:World} {dfs:List Deferred} {Qc:Exit→Act→World→Prop} {tl:List Oper} (hall:ds.map (·.o)++tl=all) (htl:∀ j oj,ds.length≤j→all[j]? = some oj→(∀ i,i<ds.length→∃ e∈oj.after.toList,Region.binds .any e=true∧e.on=i)∨(∃ e∈oj.after.toList,Region.binds .any e=true∧ds.length≤e.on)) {kk:Nat→Nat} (hkk:∀ i d,ds[i]? = some d→kk i=kcode d.k)
  (hI:∀ X:Heap,I ⟨base,k0+X.length,loc0++X⟩) (hck:Checked all cl kk) (hln:∀ (p:Nat) (d:DOp) (a n:Nat) (X:Heap),ds[p]? = some d→d.k=.f a n X→loc0.length+cntA ds≤a) (hN:dstOk N.n all=true) (hro:∀ i,N.r=some i→g0.ok i) (hglob:∀ p∈Glob.gl,MRel g0 w0 p.2 p.1 0) (hk0:loc0.length=k0) (hg0:g0.n=base.length+k0) (h0:hs 0=⟨base,k0,loc0⟩) (hf:∀ i d,ds[i]? = some d→FOp P N I all d (envAt i ds env0) (hs i) (hs (i+1)))
  (hfin:∀ g w a (fuel:Nat) (listed:Array Bool),listed.size=all.length→(∀ i,i<ds.length→listed.getD i false=true)→(∀ i,ds.length≤i→listed.getD i false=false)→tl.length≤fuel→HRel g w (hs ds.length)→ERel N g w (envAt ds.length ds env0) a→Ext g0 w0 g w→a.defers=dfs→wpAnyIn (FR (N.fo g0)) 0 P .any all.toArray Qc fuel listed a w) :
  ∀ (fuel:Nat) (listed:Array Bool) (a:Act) (w:World) (g:G),listed.size=all.length→(∀ i,ds.length≤i→listed.getD i false=false)→cntN (fun i=>listed.getD i false) ds.length+tl.length≤fuel →
   DInv N all cl ds env0 base k0 loc0 hs g0 w0 dfs (fun i=>listed.getD i false) g w a→wpAnyIn (FR (N.fo g0)) 0 P .any all.toArray Qc fuel listed a w:=by
 have hfo:∀ g w,Ext g0 w0 g w→N.fo g=N.fo g0:=by
  intro g w hx
  cases hr:N.r with
  | none=>simp [FN.fo,hr]
  | some i=>simp only [FN.fo,hr,ybb,yad];exact hx.blk i (hro i hr)
 have hlen:all.length=ds.length+tl.length:=by rw [← hall];simp
 have hget:∀ (i:Nat) (o:Oper),i<ds.length→all[i]? = some o→∃ d,ds[i]? = some d∧d.o=o:=by
  intro i o hlt hi
  rw [← hall,yaj (by simpa using hlt)] at hi
  simpa using hi
 have hget':∀ (i:Nat) (d:DOp),ds[i]? = some d→all[i]? = some d.o:=by
  intro i d hi
  rw [← hall,yaj (by simpa using (yac.1 hi).1)]
  simp [hi]
 have pair:∀ (i j:Nat) (di dj:DOp),i<j→ds[i]? = some di→ds[j]? = some dj→pairOk all cl di.o dj.o (kcode di.k) (kcode dj.k) i j=true:=by
  intro i j di dj hij hi hj
  have:=hck.pair i j di.o dj.o hij (hget' i di hi) (hget' j dj hj)
  rwa [hkk i di hi,hkk j dj hj] at this
 have hltd:∀ {i:Nat} {d:DOp},ds[i]? = some d→i<ds.length:=fun hi=>(yac.1 hi).1
 have hab:∀ (p q:Nat) (dp dq:DOp) (a n:Nat) (X:Heap) (B:Blk),p<q→ds[p]? = some dp→dp.k=.f a n X→ds[q]? = some dq→dq.k≠.a B:=by
  intro p q dp dq a n X B hpq hp hkp hq hkq
  have:=(pair_f (pair p q dp dq hpq hp hq) (by rw [hkp];exact ycz _ _)).1
  rw [hkq] at this
  exact this rfl
 -- nothing is left
 have hdone:∀ (s:Nat→Bool) g w a,(∀ i,i<ds.length→s i=true)→DInv N all cl ds env0 base k0 loc0 hs g0 w0 dfs s g w a→HRel g w (hs ds.length)∧ERel N g w (envAt ds.length ds env0) a∧Ext g0 w0 g w∧a.defers=dfs:=by
  intro s g w a hs1 inv
  have hheap:HRel g w (hs ds.length):=by
   rcases inv.heap with ⟨hnw,hH,-⟩|⟨p,d,hp,hk,-,hafter,-,hH⟩
   ·rw [zhc h0 hf hab hln ds.length (yax _) fun q d hq _ hk=>by have:=hnw q d hq hk;rw [hs1 q (hltd hq)] at this;cases this]
    rw [ya2]
    have:za4 s 0 ds=za4 (fun _=>true) 0 ds:=masked_all ds 0 fun j d B hj _=>by simpa using hs1 j (hltd hj)
    have this2:appd (loc0.length+cntA ds) s 0 ds []=appd (loc0.length+cntA ds) (fun _=>true) 0 ds []:=zgb ds 0 [] fun j d _ _ B hj _=>by simpa using hs1 j (hltd hj)
    rwa [this,this2] at hH
   ·rw [hs_calm hf (p+1) ds.length (by have:=hltd hp;omega) (yax _) fun q dq hq h1 h2=>?_]
    ·exact hH
    ·have hpr:=pair p q d dq (by omega) hp hq
     rcases (zes hpr).2.2.2 (kcode_w.2 hk) with h3|h3
     ·exact .inl (kcode_r.1 h3)
     ·rcases h3 with h3|h3
      ·exfalso
       have:=hafter q dq (by omega) hq (kcode_w.1 h3)
       rw [hs1 q h2] at this;cases this
      ·exact .inr (kcode_m.1 h3.2)
  refine ⟨hheap,⟨inv.size,fun t=>?_,fun i hi=>inv.ext.ok i (hro i hi),fun p hp=>yc4 inv.ext _ _ _ (hglob p hp)⟩,inv.ext,inv.dfs⟩
  rw [envAt_get t ds.length 0 ds env0]
  rw [← ze6 (s:=s) ds 0 _ fun j d hj _=>by
   have hl:=hltd hj
   simp only [ybr]
   rw [hs1 j hl]
   simp [hl]]
  exact inv.tm t
 -- nothing may come up: nothing is left
 have hempty:∀ (listed:Array Bool),listed.size=all.length→Region.ready .any all.toArray listed=[]→∀ i,i<ds.length→listed.getD i false=true:=by
  intro listed hsz hr i
  induction i using Nat.strongRecOn with
  | _ i ih =>
    intro hi
    cases hl:listed.getD i false with
    | true=>rfl
    | false =>
      exfalso
      have hmem:i∈Region.ready .any all.toArray listed:=by
       rw [mem_ready']
       have hi':i<all.length:=by omega
       refine ⟨by simpa using hi',?_,all[i],by simp [hi'],fun e he hb=>?_⟩
       ·have hls:i<listed.size:=by omega
        simpa [hls] using hl
       ·have hlt:=hck.back i all[i] (yal hi') e he hb
        exact ih e.on hlt (by omega)
      rw [hr] at hmem
      cases hmem
 -- one operation that may come up
 have hstep:∀ (listed:Array Bool) (a:Act) (w:World) (g:G) (K:Act→World→Prop),listed.size=all.length→DInv N all cl ds env0 base k0 loc0 hs g0 w0 dfs (fun i=>listed.getD i false) g w a →
   ∀ i,i<ds.length→i∈Region.ready .any all.toArray listed→listed.getD i false=false∧((∀ a' w' g',DInv N all cl ds env0 base k0 loc0 hs g0 w0 dfs (fun j=>(listed.setIfInBounds i true).getD j false) g' w' a'→K a' w')→wpOpIn (FR (N.fo g0)) 0 P all.toArray Qc i K a w):=by
  intro listed a w g K hsz inv i hil hi
  rw [mem_ready'] at hi
  obtain ⟨hi1,hi2,o,hi3,hi4⟩:=hi
  have hsi:listed.getD i false=false:=by
   have hls:i<listed.size:=by omega
   simpa [hls] using hi2
  refine ⟨hsi,fun hK=>?_⟩
  obtain ⟨d,hd,hdo⟩:=hget i o hil (by simpa using hi3)
  subst hdo
  -- the list with i
  have hs'i:(listed.setIfInBounds i true).getD i false=true:=by
   have hls:i<listed.size:=by omega
   simp [hls]
  have hs'ne:∀ j,j≠i→(listed.setIfInBounds i true).getD j false=listed.getD j false:=by
   intro j hj
   simp [yb2 (ycq hj)]
  generalize hsdef:(fun j=>listed.getD j false)=s at inv
  generalize hs'def:(fun j=>(listed.setIfInBounds i true).getD j false)=s' at hK
  have e0:s i=false:=by rw [← hsdef];exact hsi
  have e1:s' i=true:=by rw [← hs'def];exact hs'i
  have ene:∀ j,j≠i→s' j=s j:=fun j hj=>by rw [← hs'def,← hsdef];exact hs'ne j hj
  -- all that must be ahead of it is
  have hpre:∀ j,j<ds.length→bitOf cl j i=true→s j=true:=by
   intro j hj hb
   obtain ⟨e,he,hb1,hb2⟩:=hck.clo j i d.o (by omega) (hget' i d hd) hb
   have hse:s e.on=true:=by rw [← hsdef];exact hi4 e he hb1
   rcases hb2 with rfl|hb2
   ·exact hse
   ·have:=hck.back i d.o (hget' i d hd) e he hb1
    exact inv.down j e.on hj (by omega) hb2 hse
  have hdown':∀ p q,p<ds.length→q<ds.length→bitOf cl p q=true→s' q=true→s' p=true:=by
   intro p q hp hq hb hsq
   by_cases hpi:p=i
   ·rw [hpi];exact e1
   ·rw [ene p hpi]
    by_cases hqi:q=i
    ·subst hqi;exact hpre p hp hb
    ·rw [ene q hqi] at hsq
     exact inv.down p q hp hq hb hsq
  -- what it looks at is what the text's walk shows
  have hlook:∀ t,t∈looks all d.o→lastv s t 0 ds (get env0 t)=get (envAt i ds env0) t:=by
   intro t ht
   rw [envAt_get t i 0 ds env0]
   refine ze6 ds 0 _ fun j dj hj hjd=>?_
   simp only [ybr]
   rcases Nat.lt_trichotomy j i with h|h|h
   ·have:=(zes (pair j i dj d h hj hd)).1 t hjd (by unfold names;simp [ht])
    rw [hpre j (by omega) this]
    simp [h]
   ·subst h;rw [e0];simp
   ·have:=(zes (pair i j d dj h hd hj)).2.1 t hjd (by unfold names;simp [ht])
    cases hsj:s j with
    | false=>simp;omega
    | true =>
      have:=inv.down i j hil (hltd hj) this hsj
      rw [e0] at this;cases this
  have hE:ERel N g w (restr (looks all d.o) (envAt i ds env0)) a:=by
   refine ⟨inv.size,fun t=>?_,fun i hi=>inv.ext.ok i (hro i hi),fun p hp=>yc4 inv.ext _ _ _ (hglob p hp)⟩
   rw [get_restr]
   by_cases ht:t∈looks all d.o
   ·rw [if_pos ht,← hlook t ht]
    exact inv.tm t
   ·rw [if_neg ht];simp [VRel]
  have hagree:=agree_restr (looks all d.o) (envAt i ds env0)
  have hgd:gd all (restr (looks all d.o) (envAt i ds env0)) d.o=gd all (envAt i ds env0) d.o:=by
   unfold gd
   cases hgu:d.o.guard with
   | none=>rfl
   | some jw =>
     obtain ⟨j,want⟩:=jw
     simp only
     cases hj:lget all j with
     | none=>rfl
     | some oj =>
       simp only
       cases hdj:oj.dst with
       | none=>rfl
       | some t =>
         simp only
         rw [hagree t (by unfold looks;simp [hgu,hj,hdj])]
  -- the slots behind it
  have htm':∀ (g':G) (w':World) (c:Value),(∀ v c,VRel g w v c→VRel g' w' v c)→(∀ u,d.o.dst=some u→VRel g' w' d.v c)→∀ t,VRel g' w' (lastv s' t 0 ds (get env0 t)) ((a.put d.o.dst c).tmps.getD t undef):=by
   intro g' w' c hmono hv t
   by_cases ht:d.o.dst=some t
   ·rw [lastv_at ds 0 i d _ hd ht (by simpa using e1) fun j dj hj hjd hlt=>?_]
    ·have htN:=dstOk_spec hN d.o (ycj (hget' i d hd)) t ht
     have:(a.put d.o.dst c).tmps.getD t undef=c:=by
      rw [ht]
      have:t<a.tmps.size:=by rw [inv.size];exact htN
      simp [Act.put,this]
     rw [this];exact hv t ht
    ·simp only [ybr]
     rw [ene j (by omega)]
     cases hsj:s j with
     | false=>rfl
     | true =>
       have:=(zes (pair i j d dj hlt hd hj)).1 t ht (by unfold names;simp [hjd])
       have:=inv.down i j hil (hltd hj) this hsj
       rw [e0] at this;cases this
   ·rw [ze6 (s':=s) ds 0 _ fun j dj hj hjd=>by
      simp only [ybr]
      refine ene j fun e=>?_
      subst e
      rw [hd] at hj
      cases hj
      exact ht hjd]
    have:(a.put d.o.dst c).tmps.getD t undef=a.tmps.getD t undef:=by
     cases hdd:d.o.dst with
     | none=>simp [Act.put]
     | some u =>
       have hut:u≠t:=fun e=>ht (by rw [hdd,e])
       simp [Act.put,yb2 hut]
    rw [this]
    exact hmono _ _ (inv.tm t)
  have hsize':∀ c,(a.put d.o.dst c).tmps.size=N.n:=by
   intro c
   cases d.o.dst <;> simp [Act.put,inv.size]
  have hdfs':∀ c,(a.put d.o.dst c).defers=dfs:=by
   intro c
   rw [← inv.dfs]
   cases d.o.dst <;> rfl
  have hmask:(d.k=.r∨d.k=.m)→za4 s' 0 ds=za4 s 0 ds:=fun hk=>zdw ds 0 fun j dj B hj hjk=>by
   simp only [ybr]
   refine ene j fun e=>?_
   subst e
   rw [hd] at hj
   cases hj
   rcases hk with hk|hk <;> rw [hk] at hjk <;> cases hjk
  have happ:(d.k=.r∨d.k=.m∨∃ B,d.k=.a B)→appd (loc0.length+cntA ds) s' 0 ds []=appd (loc0.length+cntA ds) s 0 ds []:=fun hk=>zgb ds 0 [] fun j dj _ _ B hj hjk=>by
   simp only [ybr]
   refine ene j fun e=>?_
   subst e
   rw [hd] at hj
   cases hj
   rcases hk with hk|hk|⟨B,hk⟩ <;> rw [hk] at hjk <;> cases hjk
  have hph1:(d.k=.r∨d.k=.m)→∀ (g':G) (w':World),Ext g w g' w' →
    ((∀ i d,ds[i]? = some d→d.k.wr→s i=false)∧HRel g w ⟨base,k0+cntA ds+(appd (loc0.length+cntA ds) s 0 ds []).length,loc0++(za4 s 0 ds++appd (loc0.length+cntA ds) s 0 ds [])⟩∧(∀ i d B,ds[i]? = some d→d.k=.a B→s i=false→g.pend (base.length+k0+cntA (ds.take i)))) →
    HRel g' w' ⟨base,k0+cntA ds+(appd (loc0.length+cntA ds) s 0 ds []).length,loc0++(za4 s 0 ds++appd (loc0.length+cntA ds) s 0 ds [])⟩ →
    ((∀ i d,ds[i]? = some d→d.k.wr→s' i=false)∧HRel g' w' ⟨base,k0+cntA ds+(appd (loc0.length+cntA ds) s' 0 ds []).length,loc0++(za4 s' 0 ds++appd (loc0.length+cntA ds) s' 0 ds [])⟩∧(∀ i d B,ds[i]? = some d→d.k=.a B→s' i=false→g'.pend (base.length+k0+cntA (ds.take i)))):=by
   rintro hk g' w' hx ⟨hnw,hH,hpe⟩ hH'
   refine ⟨fun j dj hj hjk=>?_,by rw [hmask hk,happ (hk.imp id .inl)];exact hH',fun j dj B hj hjk hsj=>?_⟩
   ·by_cases hji:j=i
    ·subst hji;rw [hd] at hj;cases hj;obtain ⟨tm,hjk⟩:=hjk;rcases hk with hk|hk <;> rw [hk] at hjk <;> cases hjk
    ·rw [ene j hji];exact hnw j dj hj hjk
   ·have hq:g.pend (base.length+k0+cntA (ds.take j)):=by
      refine hpe j dj B hj hjk ?_
      by_cases hji:j=i
      ·subst hji;rw [e1] at hsj;cases hsj
      ·rw [ene j hji] at hsj;exact hsj
    refine hx.pend _ ?_ hq
    rw [← zbe hH]
    exact (yac.1 (hH.pend _ hq)).1
  have hph2:(d.k=.r∨d.k=.m)→∀ (g':G) (w':World) (p:Nat) (dp:DOp),ds[p]? = some dp→dp.k.wr→s p=true→(∀ q dq,p<q→ds[q]? = some dq→dq.k.wr→s q=false)→(∀ q dq,ds[q]? = some dq→dq.k≠.r→¬ dq.k.wr→s q=true∨(dq.k=.m∧dp.k=.w true))→HRel g' w' (hs (p+1)) →
    (∃ p d,ds[p]? = some d∧d.k.wr∧s' p=true∧(∀ q dq,p<q→ds[q]? = some dq→dq.k.wr→s' q=false)∧(∀ q dq,ds[q]? = some dq→dq.k≠.r→¬ dq.k.wr→s' q=true∨(dq.k=.m∧d.k=.w true))∧HRel g' w' (hs (p+1))):=by
   intro hk g' w' p dp hp hkp hsp hafter hbefore hH
   refine ⟨p,dp,hp,hkp,?_,fun q dq hpq hq hkq=>?_,fun q dq hq h1 h2=>?_,hH⟩
   ·by_cases hpi:p=i
    ·rw [hpi];exact e1
    ·rw [ene p hpi];exact hsp
   ·by_cases hqi:q=i
    ·subst hqi;rw [hd] at hq;cases hq;obtain ⟨tm,hkq⟩:=hkq;rcases hk with hk|hk <;> rw [hk] at hkq <;> cases hkq
    ·rw [ene q hqi];exact hafter q dq hpq hq hkq
   ·by_cases hqi:q=i
    ·rw [hqi];exact .inl e1
    ·rw [ene q hqi];exact hbefore q dq hq h1 h2
  have hF:=hf i d hd
  unfold wpOpIn
  rw [hi3]
  simp only
  unfold FOp at hF
  cases hgv:gd all (envAt i ds env0) d.o with
  | none=>simp [hgv] at hF
  | some b =>
  have hwant:=zdf hE (hgd.trans hgv)
  cases b with
  | false =>
    rw [hwant]
    simp only [hgv] at hF
    obtain ⟨⟨hk,hv⟩,-⟩:=hF
    simp only [ya9,if_false]
    refine ⟨fun _ _=>trivial,?_⟩
    refine hK _ w g ⟨hdown',hsize' _,htm' g w undef (fun _ _ h=>h) (fun _ _=>by rw [hv];simp only [VRel];exact ⟨#[],rfl,by simp [LRel]⟩),inv.ext,hdfs' _,?_⟩
    rcases inv.heap with hp1|hp2
    ·exact .inl (hph1 (.inl hk) g w (ycl g w) hp1 hp1.2.1)
    ·obtain ⟨p,dp,hp,hkp,hsp,hafter,hbefore,hH⟩:=hp2
     exact .inr (hph2 (.inl hk) g w p dp hp hkp hsp hafter hbefore hH)
  | true =>
    rw [hwant]
    simp only [if_true]
    simp only [hgv] at hF
    have hquiet:(d.k=.r∨d.k=.m)→(∀ hp,HRel g w hp→(I hp∨d.k=.r)→XOk P N hp (restr (looks all d.o) (envAt i ds env0)) d.o d.v)→d.o.wpIn (FR (N.fo g0)) 0 P a w K Qc:=by
     intro hk hX
     rw [← hfo g w inv.ext]
     rcases inv.heap with hp1|hp2
     ·have hH:=hp1.2.1
      refine hX _ hH (.inl (by have:=hI (za4 s 0 ds++appd (loc0.length+cntA ds) s 0 ds []);rwa [ya5,zcl,← ydf] at this)) g w a hH hE K Qc fun g' w' c hH' hv hx=>?_
      exact hK _ w' g' ⟨hdown',hsize' _,htm' g' w' c (fun v c=>ycx hx v c) (fun _ _=>hv),inv.ext.trans hx,hdfs' _,.inl (hph1 hk g' w' hx hp1 hH')⟩
     ·obtain ⟨p,dp,hp,hkp,hsp,hafter,hbefore,hH⟩:=hp2
      have hkr:I (hs (p+1))∨d.k=.r:=by
       rcases hk with hk|hk
       ·exact .inr hk
       ·rcases hbefore i d hd (by rw [hk];simp) (by rw [hk];rintro ⟨tm,h⟩;cases h) with this|⟨-,hpt⟩
        ·rw [e0] at this;cases this
        ·exact .inl (fop_tame (hf p dp hp) hpt)
      refine hX _ hH hkr g w a hH hE K Qc fun g' w' c hH' hv hx=>?_
      exact hK _ w' g' ⟨hdown',hsize' _,htm' g' w' c (fun v c=>ycx hx v c) (fun _ _=>hv),inv.ext.trans hx,hdfs' _,.inr (hph2 hk g' w' p dp hp hkp hsp hafter hbefore hH')⟩
    cases hk:d.k with
    | r =>
      rw [hk] at hF
      exact hquiet (.inl hk) fun hp _ _=>hF.1 _ hagree hp
    | m =>
      rw [hk] at hF
      refine hquiet (.inr hk) fun hp _ hq=>?_
      rcases hq with hq|hq
      ·exact hF.1 _ hagree hp hq
      ·rw [hk] at hq;cases hq
    | a B =>
      rw [hk] at hF
      obtain ⟨hdst,⟨vf,hdv,hA⟩,-⟩:=hF
      rcases inv.heap with ⟨hnw,hH,hpe⟩|⟨p,dp,hp,hkp,hsp,hafter,hbefore,hH⟩
      rotate_left
      ·exfalso
       rcases hbefore i d hd (by rw [hk];simp) (by rw [hk];rintro ⟨tm,h⟩;cases h) with this|⟨this,-⟩
       ·rw [e0] at this;cases this
       ·rw [hk] at this;cases this
      obtain ⟨t,l,cs,c0,rfl,hlr,hrun,hvc⟩:=hA _ hagree g w a hE
      have hnoW:∀ q dq,ds[q]? = some dq→q<i→¬ dq.k.wr:=by
       intro q dq hq hlt hkq
       have:=(zes (pair q i dq d hlt hq hd)).2.2.2 (kcode_w.2 hkq)
       rw [hk] at this
       simp [kcode] at this
      have hnf:appd (loc0.length+cntA ds) (fun _=>true) 0 (ds.take i) []=[]:=by
       rw [appd_nil]
       intro q dq a n X hq hkq
       exfalso
       have hqi:q<i:=by
        have:=(yac.1 hq).1
        simp at this
        omega
       rw [List.getElem?_take_of_lt hqi] at hq
       exact hab q i dq d a n X _ hqi hq hkq hd hk
      have hsi':=zhc h0 hf hab hln i (by omega) hnoW
      rw [hnf] at hsi'
      simp only [List.length_nil,yby,yat] at hsi'
      have happ':=happ (.inr (.inr ⟨_,hk⟩))
      obtain ⟨hm1,hm2⟩:=masked_at (s:=s) (s':=s') ds 0 i d _ hd hk (by simpa using e0) (by simpa using e1) (fun j hj=>ene j (by omega))
      have hidx:cntA (ds.take i)<(za4 s 0 ds).length:=(yac.1 hm1).1
      have hpi:=hpe i d _ hd hk e0
      have hat:At ⟨base,k0+cntA ds+(appd (loc0.length+cntA ds) s 0 ds []).length,loc0++(za4 s 0 ds++appd (loc0.length+cntA ds) s 0 ds [])⟩ (base.length+k0+cntA (ds.take i)) .dead:=by
       unfold At Hp.all
       simp only
       rw [← ybe,yam (by simp;omega)]
       simp only [ya5,hk0]
       rw [show base.length+k0+cntA (ds.take i)-(base.length+k0)=cntA (ds.take i) by omega]
       rw [yaj hidx]
       exact hm1
      have hput:Put ⟨base,k0+cntA ds+(appd (loc0.length+cntA ds) s 0 ds []).length,loc0++(za4 s 0 ds++appd (loc0.length+cntA ds) s 0 ds [])⟩ (base.length+k0+cntA (ds.take i)) (.box t l) ⟨base,k0+cntA ds+(appd (loc0.length+cntA ds) s' 0 ds []).length,loc0++(za4 s' 0 ds++appd (loc0.length+cntA ds) s' 0 ds [])⟩:=by
       refine ⟨?_,rfl,by simp only [happ'],by simp [zcl,happ']⟩
       simp only [Hp.all]
       rw [hm2,happ',← ybe,← ybe base,yb0 _ _ (by simp;omega)]
       simp only [ya5,hk0]
       rw [show base.length+k0+cntA (ds.take i)-(base.length+k0)=cntA (ds.take i) by omega]
       rw [ycm _ _ hidx]
      obtain ⟨g',hH',hv',hn',hok',hblk',hpend',hown'⟩:=hH.revive hat hpi (t:=t) hlr hput
      have hx:Ext g0 w0 g' (w.alloc (.cells cs t)):=by
       have ie:=inv.ext
       have hold:∀ b,b<w.heap.size→(w.alloc (.cells cs t)).heap[b]? = w.heap[b]? := fun b hb=>hao w _ hb
       refine ⟨by rw [hn'];exact ie.n,fun j hj hq=>(hpend' j (by omega)).2 (ie.pend j hj hq),fun j hj=>hv'.ok j (ie.ok j hj),fun j hj=>(hv'.blk j (ie.ok j hj)).trans (ie.blk j hj),fun j hj=>?_,fun b o hb ho=>ie.own b o hb (hown' b o (ybs hb ie.size) ho),
        ie.os,ie.tape,ie.output,(by have:=ie.drawn;simpa using this),by have:=ie.size;simp;omega,fun b hb ho=>by rw [hold b (ybs hb ie.size)];exact ie.same b hb ho,fun b ds' u fz hb=>?_⟩
       ·rcases ie.tk j hj with h1|h1 <;> rcases hv'.tk j (ie.ok j hj) with h2|h2
        ·exact .inl (h2.trans h1)
        ·exact .inr (h1▸h2)
        ·exact .inr (h2▸h1)
        ·exact .inr ⟨Nat.lt_trans h1.1 h2.1,h2.2.trans h1.2⟩
       ·obtain ⟨cs',q1,q2,q3⟩:=ie.cells b ds' u fz hb
        exact ⟨cs',by rw [hold b (zbc q1),q1],q2,q3⟩
      refine zb4 hrun ?_
      refine hK _ _ g' ⟨hdown',hsize' _,htm' g' _ _ (fun v c=>zc5 hv' v c) (fun _ _=>?_),hx,hdfs' _,.inl ⟨fun j dj hj hjk=>?_,hH',fun j dj B' hj hjk hsj=>?_⟩⟩
      ·rw [hdv,hsi']
       simp only
       rw [show base.length+(k0+cntA (ds.take i))=base.length+k0+cntA (ds.take i) by omega]
       exact hvc _ _ _ hok' hblk'
      ·by_cases hji:j=i
       ·subst hji;rw [hd] at hj;cases hj;obtain ⟨tm,hjk⟩:=hjk;rw [hk] at hjk;cases hjk
       ·rw [ene j hji];exact hnw j dj hj hjk
      ·have hji:j≠i:=fun e=>by rw [e,e1] at hsj;cases hsj
       have hq:g.pend (base.length+k0+cntA (ds.take j)):=hpe j dj B' hj hjk (by rw [← ene j hji];exact hsj)
       refine (hpend' _ fun e=>?_).2 hq
       have hlt2:∀ (p q:Nat) (dp:DOp) (Bp:Blk),p<q→q≤ds.length→ds[p]? = some dp→dp.k=.a Bp→cntA (ds.take p)<cntA (ds.take q):=by
        intro p q dp Bp hpq hq hp hkp
        have h1:cntA ((ds.take q).take (p+1))≤cntA (ds.take q):=take_cntA_le _ _
        rw [ydq,ycd (by omega),take_snoc hp,ze8] at h1
        simp only [cntA,hkp] at h1
        omega
       rcases Nat.lt_or_gt_of_ne hji with h1|h1
       ·have:=hlt2 j i dj B' h1 (by omega) hj hjk
        omega
       ·have:=hlt2 i j d _ h1 (by have:=hltd hj;omega) hd hk
        omega
    | w tm =>
      rw [hk] at hF
      obtain ⟨-,hW⟩:=hF
      have hwr:d.k.wr:=⟨tm,hk⟩
      have hnoA:∀ q dq B',ds[q]? = some dq→i≤q→dq.k≠.a B':=by
       intro q dq B' hq hle hkq
       by_cases hqi:q=i
       ·subst hqi;rw [hd] at hq;cases hq;rw [hk] at hkq;cases hkq
       ·have:=(zes (pair i q d dq (by omega) hd hq)).2.2.2 (kcode_w.2 hwr)
        rw [hkq] at this
        simp [kcode] at this
      have hbef:∀ q dq,ds[q]? = some dq→q<i→dq.k≠.r→s q=true∨(dq.k=.m∧d.k=.w true):=by
       intro q dq hq hlt hne
       rcases (zes (pair q i dq d hlt hq hd)).2.2.1 (kcode_w.2 hwr) with h1|h1|h1
       ·exact absurd (kcode_r.1 h1) hne
       ·exact .inl (hpre q (hltd hq) h1)
       ·exact .inr ⟨kcode_m.1 h1.2,kcode_t.1 h1.1⟩
      have hbefw:∀ q dq,ds[q]? = some dq→q<i→dq.k≠.r→dq.k≠.m→s q=true:=by
       intro q dq hq hlt hne hnm
       rcases hbef q dq hq hlt hne with h1|⟨h1,-⟩
       ·exact h1
       ·exact absurd h1 hnm
      have wr_ne:∀ k:DK,k.wr→k≠.r∧k≠.m:=by
       rintro k ⟨tm,rfl⟩
       exact ⟨by simp,by simp⟩
      have hHi:HRel g w (hs i):=by
       rcases inv.heap with ⟨hnw,hH,hpe⟩|⟨p,dp,hp,hkp,hsp,hafter,hbefore,hH⟩
       ·have hnoW:∀ q dq,ds[q]? = some dq→q<i→¬ dq.k.wr:=by
          intro q dq hq hlt hkq
          have h1:=hbefw q dq hq hlt (wr_ne _ hkq).1 (wr_ne _ hkq).2
          rw [hnw q dq hq hkq] at h1;cases h1
        rw [zhc h0 hf hab hln i (by omega) hnoW]
        obtain ⟨f1,f2⟩:=zd5 (s:=fun _=>true) ds 0 i hnoA
        rw [f1,f2,← zhl (s:=s) ds i 0 [] fun q dq _ _ X hq hkq=>⟨fun hqi=>by rw [ybr];exact hbefw q dq hq hqi (by rw [hkq];simp) (by rw [hkq];simp),fun hqi=>by
         exfalso
         rcases yag i q with h1|h1
         ·have:=(zes (pair i q d dq h1 hd hq)).2.2.2 (kcode_w.2 hwr)
          rw [hkq] at this
          simp only [kcode] at this
          omega
         ·have:q=i:=by omega
          subst this
          rw [hd] at hq
          cases hq
          rw [hk] at hkq
          cases hkq⟩]
        have:za4 s 0 ds=za4 (fun _=>true) 0 ds:=masked_all ds 0 fun q dq B' hq hkq=>by
         simp only [ybr]
         have hqi:q<i:=by
          rcases yag q i with h1|h1
          ·exact h1
          ·exact absurd hkq (hnoA q dq B' hq h1)
         exact hbefw q dq hq hqi (by rw [hkq];simp) (by rw [hkq];simp)
        rwa [this] at hH
       ·have hpi:p≠i:=fun e=>by rw [e,e0] at hsp;cases hsp
        have hlt:p<i:=by
         rcases Nat.lt_or_gt_of_ne hpi with h1|h1
         ·exact h1
         ·exfalso
          rcases (zes (pair i p d dp h1 hd hp)).2.2.1 (kcode_w.2 hkp) with h2|h2|h2
          ·exact (wr_ne _ hwr).1 (kcode_r.1 h2)
          ·have:=inv.down i p hil (hltd hp) h2 hsp
           rw [e0] at this;cases this
          ·exact (wr_ne _ hwr).2 (kcode_m.1 h2.2)
        rw [hs_calm hf (p+1) i (by omega) (by omega) fun q dq hq h1 h2=>?_]
        ·exact hH
        ·rcases (zes (pair p q dp dq (by omega) hp hq)).2.2.2 (kcode_w.2 hkp) with h3|h3|h3
         ·exact .inl (kcode_r.1 h3)
         ·exfalso
          have hkq:=kcode_w.1 h3
          have h4:=hbefw q dq hq h2 (wr_ne _ hkq).1 (wr_ne _ hkq).2
          rw [hafter q dq (by omega) hq hkq] at h4;cases h4
         ·exact .inr (kcode_m.1 h3.2)
      rw [← hfo g w inv.ext]
      refine hW _ hagree g w a hHi hE K Qc fun g' w' c hH' hv hx=>?_
      refine hK _ w' g' ⟨hdown',hsize' _,htm' g' w' c (fun v c=>ycx hx v c) (fun u hu=>hv),inv.ext.trans hx,hdfs' _,.inr ⟨i,d,hd,hwr,e1,fun q dq hlt hq hkq=>?_,fun q dq hq h1 h2=>?_,hH'⟩⟩
      ·rw [ene q (by omega)]
       cases hsq:s q with
       | false=>rfl
       | true =>
         exfalso
         rcases (zes (pair i q d dq hlt hd hq)).2.2.1 (kcode_w.2 hkq) with h3|h3|h3
         ·exact (wr_ne _ hwr).1 (kcode_r.1 h3)
         ·have:=inv.down i q hil (hltd hq) h3 hsq
          rw [e0] at this;cases this
         ·exact (wr_ne _ hwr).2 (kcode_m.1 h3.2)
      ·by_cases hqi:q=i
       ·rw [hqi];exact .inl e1
       ·rw [ene q hqi]
        rcases yag q i with h3|h3
        ·exact hbef q dq hq h3 h1
        ·rcases (zes (pair i q d dq (by omega) hd hq)).2.2.2 (kcode_w.2 hwr) with h4|h4|h4
         ·exact absurd (kcode_r.1 h4) h1
         ·exact absurd (kcode_w.1 h4) h2
         ·exact .inr ⟨kcode_m.1 h4.2,kcode_t.1 h4.1⟩
    | f qa na X =>
      rw [hk] at hF
      obtain ⟨hW,-,-⟩:=hF
      rcases inv.heap with ⟨hnw,hH,hpe⟩|⟨p,dp,hp,hkp,hsp,hafter,hbefore,hH⟩
      rotate_left
      ·exfalso
       rcases hbefore i d hd (by rw [hk];simp) (by rw [hk];rintro ⟨tm,h⟩;cases h) with this|⟨this,-⟩
       ·rw [e0] at this;cases this
       ·rw [hk] at this;cases this
      have hnoW:∀ q dq,ds[q]? = some dq→q<i→¬ dq.k.wr:=by
       intro q dq hq hlt hkq
       have:=(zes (pair q i dq d hlt hq hd)).2.2.2 (kcode_w.2 hkq)
       rw [hk] at this
       simp only [kcode] at this
       omega
      have hsi':=zhc h0 hf hab hln i (by omega) hnoW
      have hnoA:∀ q dq B',ds[q]? = some dq→i≤q→dq.k≠.a B':=by
       intro q dq B' hq hle hkq
       by_cases hqi:q=i
       ·subst hqi;rw [hd] at hq;cases hq;rw [hk] at hkq;cases hkq
       ·exact hab i q d dq qa na X B' (by omega) hd hk hq hkq
      obtain ⟨f1,f2⟩:=zd5 (s:=fun _=>true) ds 0 i hnoA
      have hfq:∀ q dq a b Y,ds[q]? = some dq→dq.k=.f a b Y→(q<i→s q=true)∧(i≤q→s q=false):=fun q dq a b Y hq hkq=>⟨fun hqi=>hpre q (hltd hq) ((pair_f (pair q i dq d hqi hq hd) (by rw [hkq];exact ycz _ _)).2 (by rw [hk];exact ycz _ _)),fun hqi=>by
       rcases yag i q with h1|h1
       ·have hb:=(pair_f (pair i q d dq h1 hd hq) (by rw [hk];exact ycz _ _)).2 (by rw [hkq];exact ycz _ _)
        cases hsq:s q with
        | false=>rfl
        | true =>
          have:=inv.down i q hil (hltd hq) hb hsq
          rw [e0] at this;cases this
       ·have:q=i:=by omega
        subst this
        exact e0⟩
      have hap:appd (loc0.length+cntA ds) s 0 ds []=appd (loc0.length+cntA ds) (fun _=>true) 0 (ds.take i) []:=zhl ds i 0 [] fun q dq a b Y hq hkq=>by
       rw [ybr]
       exact hfq q dq a b Y hq hkq
      have hap':appd (loc0.length+cntA ds) s' 0 ds []=lineS (loc0.length+cntA ds) (.f qa na X) (appd (loc0.length+cntA ds) s 0 ds []):=by
       have e2:appd (loc0.length+cntA ds) s' 0 ds []=appd (loc0.length+cntA ds) (fun _=>true) 0 (ds.take (i+1)) []:=zhl ds (i+1) 0 [] fun q dq a b Y hq hkq=>by
        rw [ybr]
        refine ⟨fun hqi=>?_,fun hqi=>?_⟩
        ·by_cases he:q=i
         ·rw [he];exact e1
         ·rw [ene q he];exact (hfq q dq a b Y hq hkq).1 (by omega)
        ·rw [ene q (by omega)];exact (hfq q dq a b Y hq hkq).2 (by omega)
       rw [e2,take_snoc hd,zgr,← hap,if_pos rfl,hk]
      have hmask':za4 s' 0 ds=za4 s 0 ds:=zdw ds 0 fun j dj B hj hjk=>by
       simp only [ybr]
       refine ene j fun e=>?_
       subst e
       rw [hd] at hj
       cases hj
       rw [hk] at hjk
       cases hjk
      have hIh:I ⟨base,k0+cntA ds+(appd (loc0.length+cntA ds) s 0 ds []).length,loc0++(za4 s 0 ds++appd (loc0.length+cntA ds) s 0 ds [])⟩:=by
       have:=hI (za4 s 0 ds++appd (loc0.length+cntA ds) s 0 ds [])
       rwa [ya5,zcl,← ydf] at this
      obtain ⟨⟨b1,b2⟩,-⟩:=fop_app (hf i d hd) hk
      rw [hsi',f2,← hap] at b1 b2 hW
      simp only at b1 b2 hW
      rw [← ybe] at b1 b2 hW
      have hA:(loc0++za4 (fun _=>true) 0 (ds.take i)).length=(loc0.length+cntA ds):=by rw [ya5,zcl,f2]
      have hB:(loc0++za4 s 0 ds).length=(loc0.length+cntA ds):=by rw [ya5,zcl]
      have hq0:=hln i d qa na X hd hk
      obtain ⟨-,c2,c3⟩:=line_step (k:=k0+cntA ds) hA hq0 b1 b2
      rw [c2] at b2 hW
      have hW:=hW _ hagree (loc0++za4 s 0 ds++(appd (loc0.length+cntA ds) s 0 ds []).take (qa-(loc0.length+cntA ds))) (by
       rw [ya5,hB,yce]
       rw [ya5,hA] at b1
       omega)
      rw [ybe,yck,c3,ybe (loc0++za4 s 0 ds),ybe loc0,ybe loc0] at hW
      have e4:(appd (loc0.length+cntA ds) s 0 ds []).take (qa-(loc0.length+cntA ds))++X=lineS (loc0.length+cntA ds) (.f qa na X) (appd (loc0.length+cntA ds) s 0 ds []):=rfl
      rw [e4,← hap'] at hW
      have hW:=hW hIh
      rw [← hfo g w inv.ext]
      refine hW g w a hH hE K Qc fun g' w' c hH' hv hx=>?_
      refine hK _ w' g' ⟨hdown',hsize' _,htm' g' w' c (fun v c=>ycx hx v c) (fun u hu=>hv),inv.ext.trans hx,hdfs' _,.inl ⟨fun j dj hj hjk=>?_,?_,fun j dj B hj hjk hsj=>?_⟩⟩
      ·by_cases hji:j=i
       ·subst hji;rw [hd] at hj;cases hj;obtain ⟨tm,hjk⟩:=hjk;rw [hk] at hjk;cases hjk
       ·rw [ene j hji];exact hnw j dj hj hjk
      ·rw [hmask']
       exact hH'
      ·have hq:g.pend (base.length+k0+cntA (ds.take j)):=by
         refine hpe j dj B hj hjk ?_
         by_cases hji:j=i
         ·subst hji;rw [e1] at hsj;cases hsj
         ·rw [ene j hji] at hsj;exact hsj
       refine hx.pend _ ?_ hq
       rw [← zbe hH]
       exact (yac.1 (hH.pend _ hq)).1
 intro fuel
 induction fuel with
 | zero =>
   intro listed a w g hsz hta hc inv
   have hz:=cntN_zero (s:=fun i=>listed.getD i false) ds.length (by omega)
   obtain ⟨q1,q2,q3,q4⟩:=hdone _ g w a hz inv
   exact hfin g w a 0 listed hsz hz hta (by omega) q1 q2 q3 q4
 | succ fuel ih =>
   intro listed a w g hsz hta hc inv
   by_cases hz:∀ i,i<ds.length→listed.getD i false=true
   ·obtain ⟨q1,q2,q3,q4⟩:=hdone _ g w a hz inv
    exact hfin g w a _ listed hsz hz hta (by omega) q1 q2 q3 q4
   ·refine ⟨fun hr=>absurd (hempty listed hsz hr) hz,fun i hi=>?_⟩
    have hil:i<ds.length:=by
     rcases yag i ds.length with h|h
     ·exact h
     ·exfalso
      have hi':=hi
      rw [mem_ready'] at hi'
      obtain ⟨hi1,hi2,o,hi3,hi4⟩:=hi'
      rcases htl i o h (by simpa using hi3) with q|⟨e,he,hb,hon⟩
      ·refine hz fun j hj=>?_
       obtain ⟨e,he,hb,rfl⟩:=q j hj
       exact hi4 e he hb
      ·have:=hi4 e he hb
       rw [hta _ hon] at this
       cases this
    obtain ⟨h2,h3⟩:=hstep listed a w g (wpAnyIn (FR (N.fo g0)) 0 P .any all.toArray Qc fuel (listed.setIfInBounds i true)) hsz inv i hil hi
    refine h3 fun a' w' g' inv'=>ih _ a' w' g' (by simpa using hsz) (fun j hj=>?_) ?_ inv'
    ·have:=hta j hj
     simp only [Array.getD_eq_getD_getElem?] at this ⊢
     rw [yb2 (by omega)]
     exact this
    ·have hls:i<listed.size:=by omega
     have:=cntN_less (s:=fun j=>listed.getD j false) (s':=fun j=>(listed.setIfInBounds i true).getD j false) (i:=i) h2 (by simp [hls]) (fun j hj=>by simp [yb2 (ycq hj)]) ds.length hil
     omega
end
end
section
theorem HRel.room [Glob] {g:G} {w:World} {base loc:Heap} {k:Nat} (h:HRel g w ⟨base,k,loc⟩) (m:Nat) :
  ∃ g',HRel g' w ⟨base,k+m,loc++List.replicate m .dead⟩∧Ext g w g' w∧(∀ i,i<m→g'.pend (base.length+k+i)):=by
 have hall:(⟨base,k+m,loc++List.replicate m Blk.dead⟩:Hp).all=(⟨base,k,loc⟩:Hp).all++List.replicate m .dead:=by simp [Hp.all]
 have hlen:=zbe h
 have hn:=h.n
 simp only at hn
 let g':G:={ g with n:=g.n+m,pend:=fun i=>g.pend i∨(g.n≤i∧i<g.n+m) }
 have hpl:∀ i,g.pend i→i<g.n:=fun i hi=>by rw [← hlen];exact (yac.1 (h.pend i hi)).1
 have hx:Ext g w g' w:=⟨ycz _ _,fun i _ hq=>.inl hq,fun i hi=>⟨ybs hi.1 (ycz _ _),fun q=>by
  rcases q with q|q
  ·exact hi.2 q
  ·have:=hi.1;omega⟩,fun _ _=>rfl,fun _ _=>.inl rfl,fun _ _ _ h=>h,rfl,rfl,rfl,(by first|exact yax _|exact yca _|(simp;done)),yax _,fun _ _ _=>rfl,fun _ ds _ _ hb=>⟨ds,hb,rfl,fun _ _=>rfl⟩⟩
 have key:∀ (i:Nat) (B:Blk),((⟨base,k,loc⟩:Hp).all++List.replicate m .dead)[i]? = some B→(⟨base,k,loc⟩:Hp).all[i]? = some B∨B=.dead:=by
  intro i B hi
  rcases yag i (⟨base,k,loc⟩:Hp).all.length with hlt|hge
  ·rw [yaj hlt] at hi;exact .inl hi
  ·rw [yam hge] at hi
   have:=yac.1 hi
   right
   obtain ⟨q1,q2⟩:=this
   simp at q2
   exact q2.symm
 refine ⟨g',⟨?_,by simp [h.k],fun i B hi=>?_,h.lt,fun i hi=>?_,fun i j B C b hi hj hb hc=>?_,fun p hp=>yc4 hx _ _ _ (h.glob p hp)⟩,hx,fun i hi=>.inr ⟨by omega,by omega⟩⟩
 ·show g.n+m=_
  rw [hn];simp [ydf]
 ·rw [hall] at hi
  rcases key i B hi with h1|rfl
  ·exact (h.rel i B h1).keep hx (at_ok h h1) (fun _ _=>rfl) rfl (fun _ _ _ ho=>ho)
  ·trivial
 ·rw [hall]
  rcases hi with hi|hi
  ·have:=h.pend i hi
   rw [yaj (yac.1 this).1,this]
  ·rw [yam (by omega),hlen]
   simp only [List.getElem?_replicate]
   rw [if_pos (by omega)]
 ·rw [hall] at hi hj
  rcases key i B hi with h1|rfl
  ·rcases key j C hj with h2|rfl
   ·exact h.inj i j B C b h1 h2 (by cases B <;> exact hb) (by cases C <;> exact hc)
   ·cases hc
  ·cases hb
def DR [Glob] (P:Program) (N:FN) (I:Hp→Prop) (all:List Oper) (rest:List Oper) (ks:List Nat) (env:Env) (hp:Hp) (K:Env→Hp→Prop):Prop :=
 ∃ ds:List DOp,ds.map (·.o)=rest∧ds.map (fun d=>kcode d.k)=ks∧DF P N I all ds env hp K
section
variable {P:Program} {N:FN} {Q:Exit→Env→Hp→Prop} {env:Env}
theorem masked_none {s:Nat→Bool} (hs:∀ i,s i=false):∀ (ds:List DOp) (i:Nat),za4 s i ds=List.replicate (cntA ds) .dead
 | [],_=>rfl
 | d::ds,i=>by
   have ih:=masked_none hs ds (i+1)
   cases hk:d.k <;> simp [za4,cntA,hk,ih,hs,List.replicate_succ]
theorem cnt2_map:∀ ds:List DOp,cnt2 (ds.map fun d=>kcode d.k)=cntA ds
 | []=>rfl
 | d::ds=>by
   have ih:=cnt2_map ds
   simp only [ybx]
   generalize ds.map (fun d=>kcode d.k)=l at ih ⊢
   cases hk:d.k with
   | a B=>simp only [cnt2,cntA,hk,ih,kcode]
   | r=>simp only [cnt2,cntA,hk,ih,kcode]
   | m=>simp only [cnt2,cntA,hk,ih,kcode]
   | w tm=>cases tm <;> (simp only [cnt2,cntA,hk,ih,kcode])
   | f q n X =>
     have e:Nat.beq (5+q) 2=false:=by
      cases h:Nat.beq (5+q) 2 with
      | false=>rfl
      | true=>have:=yap h;omega
     simp only [hk,kcode,cnt2,cntA,e]
     exact ih
theorem zhi [Glob] {l tl:List Oper} {base loc:Heap} {k:Nat} {I:Hp→Prop} (hI:∀ X:Heap,I ⟨base,k+X.length,loc++X⟩) (cl ks:List Nat) (hck:zev loc.length (l++tl) cl ks=true) (hN:dstOk N.n (l++tl)=true)
  (htl:∀ j oj,l.length≤j→(l++tl)[j]? = some oj→(∀ i,i<l.length→∃ e∈oj.after.toList,Region.binds .any e=true∧e.on=i)∨(∃ e∈oj.after.toList,Region.binds .any e=true∧l.length≤e.on))
  {K:Env→Hp→Prop} (h:DR P N I (l++tl) l ks env ⟨base,k,loc⟩ K) {g:G} {w:World} {a:Act} (hH:HRel g w ⟨base,k,loc⟩) (hE:ERel N g w env a) {Qc:Exit→Act→World→Prop}
  (hfin:∀ env' hp' g' w' a' (fuel:Nat) (listed:Array Bool),K env' hp'→listed.size=(l++tl).length→(∀ i,i<l.length→listed.getD i false=true)→(∀ i,l.length≤i→listed.getD i false=false)→tl.length≤fuel→HRel g' w' hp'→ERel N g' w' env' a'→Ext g w g' w'→a'.defers=a.defers →
    wpAnyIn (FR (N.fo g)) 0 P .any (l++tl).toArray Qc fuel listed a' w') :
  wpAnyIn (FR (N.fo g)) 0 P .any (l++tl).toArray Qc (l++tl).length (Array.replicate (l++tl).length false) a w.drew:=by
 obtain ⟨ds,h1,h2,h3⟩:=h
 obtain ⟨hs,f0,f1,f2⟩:=h3.at_
 have hck':=checked_of hck
 have hkk:∀ (i:Nat) d,ds[i]? = some d→(fun i=>ks.getD i 0) i=kcode d.k:=by
  intro i d hi
  simp only
  rw [← h2]
  simp [hi]
 have hln:∀ (p:Nat) (d:DOp) (a n:Nat) (X:Heap),ds[p]? = some d→d.k=.f a n X→loc.length+cntA ds≤a:=by
  intro p d a n X hp hk
  have:=drawOk_line hck (kcode d.k) (by rw [← h2];exact ybq.2 ⟨d,ycj hp,rfl⟩) (by rw [hk];exact ycz _ _)
  rw [← h2,cnt2_map,hk] at this
  simp only [kcode] at this
  omega
 obtain ⟨g1,hH1,hx1,hp1⟩:=hH.room (cntA ds)
 have hx0:Ext g w g w.drew:=⟨yax _,fun _ _ h=>h,fun _ h=>h,fun _ _=>rfl,fun _ _=>.inl rfl,fun _ _ _ h=>h,rfl,rfl,rfl,(by first|exact yax _|exact yca _|(simp;done)),yax _,fun _ _ _=>rfl,fun _ ds _ _ hb=>⟨ds,hb,rfl,fun _ _=>rfl⟩⟩
 have hx2:Ext g1 w g1 w.drew:=⟨yax _,fun _ _ h=>h,fun _ h=>h,fun _ _=>rfl,fun _ _=>.inl rfl,fun _ _ _ h=>h,rfl,rfl,rfl,(by first|exact yax _|exact yca _|(simp;done)),yax _,fun _ _ _=>rfl,fun _ ds _ _ hb=>⟨ds,hb,rfl,fun _ _=>rfl⟩⟩
 have hH2:HRel g1 w.drew ⟨base,k+cntA ds,loc++List.replicate (cntA ds) .dead⟩:=hH1.keepAll hx2 fun _ _=>rfl
 have hlen:l.length=ds.length:=by rw [← h1];simp
 have hfalse:∀ i,(Array.replicate (l++tl).length false).getD i false=false:=by
  intro i
  simp [Array.getElem?_replicate]
  split <;> rfl
 rw [hlen] at htl
 have hcore:=draw_core (Qc:=Qc) (g0:=g) (w0:=w) (dfs:=a.defers) (tl:=tl) (by rw [h1]) htl hkk hI hck' hln hN hE.ro hE.glob hH.k (by rw [hH.n]) f0 f1
  (fun g' w' a' fuel listed q1 q2 q3 q4 hH' hE' hx' hd'=>hfin _ _ g' w' a' fuel listed f2 q1 (by rw [hlen];exact q2) (by rw [hlen];exact q3) q4 hH' hE' hx' hd')
 refine hcore _ (Array.replicate (l++tl).length false) a _ g1 (by simp) (fun i _=>hfalse i) ?_ ⟨fun i j _ _ _ hj=>?_,hE.1,fun t=>?_,hx1.trans hx2,rfl,.inl ⟨fun i d _ _=>hfalse i,?_,fun i d B hi hk _=>hp1 _ ?_⟩⟩
 ·have:∀ (s:Nat→Bool) n,cntN s n≤n:=by
    intro s n
    induction n with
    | zero=>simp [cntN]
    | succ n ih=>simp only [cntN];split <;> omega
  have:=this (fun i=>(Array.replicate (l++tl).length false).getD i false) ds.length
  simp only [ya5] at this ⊢
  omega
 ·rw [hfalse j] at hj;cases hj
 ·rw [zf4 ds 0 _ fun j d _ _=>hfalse _]
  exact ycx (hx1.trans hx2) _ _ (hE.rel t)
 ·rw [masked_none hfalse,appd_nil ds 0 [] fun j d _ _ X _ _=>hfalse _,yat]
  exact hH2
 ·have hl:=(yac.1 hi).1
  have h4:cntA (ds.take (i+1))≤cntA ds:=take_cntA_le ds (i+1)
  rw [take_snoc hi,ze8] at h4
  simp only [cntA,hk] at h4
  omega
theorem ready_done {l:List Oper} {listed:Array Bool} (hsz:listed.size=l.length) (h:∀ i,i<l.length→listed.getD i false=true):Region.ready .any l.toArray listed=[]:=by
 rw [List.eq_nil_iff_forall_not_mem]
 intro i hi
 rw [mem_ready'] at hi
 obtain ⟨h1,h2,-⟩:=hi
 have h1:i<l.length:=by simpa using h1
 have h3:=h i h1
 have hls:i<listed.size:=by omega
 simp [hls] at h2 h3
 rw [h2] at h3
 cases h3
theorem vw_draw [Glob] {id:Nat} {l:List Oper} {base loc:Heap} {k:Nat} {I:Hp→Prop} (hI:∀ X:Heap,I ⟨base,k+X.length,loc++X⟩) (cl ks:List Nat) (hm:P.follows .mixedOrders=true) (hck:zev loc.length l cl ks=true) (hN:dstOk N.n l=true)
  (h:DR P N I l l ks env ⟨base,k,loc⟩ (Q .normal)):VW P N (.region id l.toArray true) Q env ⟨base,k,loc⟩:=by
 intro g w a hH hE
 refine wpIn_region_any hm ?_
 have key:=zhi (tl:=[]) (Qc:=Lift N Q g w a.defers) hI cl ks (by rw [yat];exact hck) (by rw [yat];exact hN) (fun j oj hj ho=>by
  rw [yat] at ho
  have:=(yac.1 ho).1
  omega) (by rw [yat];exact h) hH hE (fun env' hp' g' w' a' fuel listed hK q1 q2 _ _ hH' hE' hx' hd'=>by
   rw [yat] at q1 ⊢
   have hr:=ready_done q1 q2
   have hQ:Lift N Q g w a.defers .normal a' w':=⟨_,_,g',hK,hH',hE',hx',DRel.of_eq hd'⟩
   cases fuel with
   | zero=>exact ⟨hr,hQ⟩
   | succ fuel=>exact ⟨fun _=>hQ,fun i hi=>by rw [hr] at hi;cases hi⟩)
 rw [yat] at key
 simpa using key
variable {I:Hp→Prop} {hp hp':Hp} {all rest:List Oper} {ks:List Nat} {o:Oper} {K:Env→Hp→Prop} {T:TypeId→Option TI}
theorem dr_nil [Glob] (h:K env hp):DR P N I all [] [] env hp K:=⟨[],rfl,rfl,h⟩
theorem zed [Glob] {v:AV} {k:DK} {kc:Nat} (hk:kcode k=kc) (hF:FOp P N I all ⟨o,k,v⟩ env hp hp') (h:DR P N I all rest ks (push ⟨o,k,v⟩ env) hp' K):DR P N I all (o::rest) (kc::ks) env hp K:=by
 obtain ⟨ds,h1,h2,h3⟩:=h
 exact ⟨⟨o,k,v⟩::ds,by simp [h1],by simp [hk,h2],hp',hF,h3⟩
theorem zdv {d:Nat} {v:AV} {k:DK} (hd:o.dst=some d):push ⟨o,k,v⟩ env=(d,v)::env:=by simp [push,hd]
theorem push_none {v:AV} {k:DK} (hd:o.dst=none):push ⟨o,k,v⟩ env=env:=by simp [push,hd]
theorem zgf [Glob] {v:AV} (h:Step P N hp env o v hp):XOk P N hp env o v:=by
 intro g w a hH hE K Qc k
 obtain ⟨c,g',w',h1,h2,h3,h4⟩:=h g w a hH hE
 exact zb4 h1 (k g' w' c h2 h3 h4)
theorem ev_agree [Glob] {ts:List Nat} {e e':Env} (h:Agree ts e e') {x:Operand} (hx:∀ t,x=.tmp t→t∈ts):ev e' x=ev e x:=by
 cases x with
 | tmp t=>exact h t (hx t rfl)
 | _=>rfl
def opTs (op:Op):List Nat:=op.operands.toList.filterMap fun|.tmp t=>some t|_=>none
theorem opTs_looks (all:List Oper) (o:Oper):∀ t,t∈opTs o.op→t∈looks all o:=fun t ht=>by
 unfold looks
 exact ybh.2 (.inl ht)
theorem ev_agree_op [Glob] {e e':Env} {op:Op} (h:Agree (opTs op) e e') {x:Operand} (hx:x∈op.operands.toList):ev e' x=ev e x :=
 ev_agree h fun t ht=>by
  subst ht
  unfold opTs
  exact List.mem_filterMap.2 ⟨_,hx,rfl⟩
end
end
section
section
variable {P:Program} {N:FN} {env:Env} {I:Hp→Prop} {hp0 hp hp':Hp} {all rest:List Oper} {ks:List Nat} {o:Oper} {K:Env→Hp→Prop} {T:TypeId→Option TI}
theorem zd2 {e e':Env} (h:Agree (looks all o) e e'):Agree (opTs o.op) e e':=fun t ht=>h t (opTs_looks all o t ht)
theorem dr_r [Glob] {d:Nat} {v:AV} (h1:∀ env',Agree (opTs o.op) env env'→∀ hp,Step P N hp env' o v hp) (hg:gd all env o=some true) (hd:o.dst=some d)
  (h:DR P N I all rest ks ((d,v)::env) hp K):DR P N I all (o::rest) (0::ks) env hp K:=by
 refine zed (v:=v) (k:=.r) (hp':=hp) rfl ?_ (by rw [zdv hd];exact h)
 unfold FOp
 simp only [hg]
 exact ⟨fun env' ha hp=>zgf (h1 env' (zd2 ha) hp),trivial⟩
theorem dr_skipped [Glob] {d:Nat} (hg:gd all env o=some false) (hd:o.dst=some d) (h:DR P N I all rest ks ((d,.tup [])::env) hp K):DR P N I all (o::rest) (0::ks) env hp K:=by
 refine zed (v:=.tup []) (k:=.r) (hp':=hp) rfl ?_ (by rw [zdv hd];exact h)
 unfold FOp
 simp only [hg]
 exact ⟨⟨trivial,trivial⟩,trivial⟩
theorem at_ext {i:Nat} {B:Blk} (h:At hp0 i B) (X:Heap):At ⟨hp0.base,hp0.k+X.length,hp0.loc++X⟩ i B:=by
 unfold At Hp.all at h ⊢
 simp only
 rw [← ybe,yaj (yac.1 h).1,h]
theorem dr_m [Glob] {d:Nat} {v:AV} (h1:∀ env',Agree (opTs o.op) env env'→∀ hp,I hp→XOk P N hp env' o v) (hg:gd all env o=some true) (hd:o.dst=some d)
  (h:DR P N I all rest ks ((d,v)::env) hp K):DR P N I all (o::rest) (1::ks) env hp K:=by
 refine zed (v:=v) (k:=.m) (hp':=hp) rfl ?_ (by rw [zdv hd];exact h)
 unfold FOp
 simp only [hg]
 exact ⟨fun env' ha hp hI=>h1 env' (zd2 ha) hp hI,trivial⟩
theorem dr_av [Glob] {d:Nat} {base loc loc':Heap} {k:Nat} {B:Blk} {vf:Nat→AV} (h1:∀ env',Agree (opTs o.op) env env'→AOkV P N B vf env' o) (hl:snocC loc B=some loc') (hg:gd all env o=some true) (hd:o.dst=some d)
  (h:DR P N I all rest ks ((d,vf (base.length+k))::env) ⟨base,k+1,loc'⟩ K):DR P N I all (o::rest) (2::ks) env ⟨base,k,loc⟩ K:=by
 refine zed (v:=vf (base.length+k)) (k:=.a B) (hp':=⟨base,k+1,loc'⟩) rfl ?_ (by rw [zdv hd];exact h)
 unfold FOp
 simp only [hg]
 exact ⟨by rw [hd];rfl,⟨vf,rfl,fun env' ha=>h1 env' (zd2 ha)⟩,by rw [zcx _ _ _ hl]⟩
theorem dr_a [Glob] {d:Nat} {base loc loc':Heap} {k:Nat} {B:Blk} (h1:∀ env',Agree (opTs o.op) env env'→AOk P N B env' o) (hl:snocC loc B=some loc') (hg:gd all env o=some true) (hd:o.dst=some d)
  (h:DR P N I all rest ks ((d,.ptr (base.length+k) 0)::env) ⟨base,k+1,loc'⟩ K):DR P N I all (o::rest) (2::ks) env ⟨base,k,loc⟩ K:=by
 refine dr_av (vf:=fun i=>.ptr i 0) (fun env' ha g w a hE=>?_) hl hg hd h
 obtain ⟨t,l,cs,h2,h3,h4⟩:=h1 env' ha g w a hE
 exact ⟨t,l,cs,_,h2,h3,h4,fun g' w' i hi hb=>by simp only [VRel];exact ⟨hi,by rw [hb]⟩⟩
theorem dr_w [Glob] (h1:∀ env',Agree (opTs o.op) env env'→StepU P N hp env' o hp') (hg:gd all env o=some true) (hd:o.dst=none)
  (h:DR P N I all rest ks env hp' K):DR P N I all (o::rest) (3::ks) env hp K:=by
 refine zed (v:=.junk) (k:=.w false) (hp':=hp') rfl ?_ (by rw [push_none hd];exact h)
 unfold FOp
 simp only [hg]
 refine ⟨(fun h=>by cases h),fun env' ha g w a hH hE K Qc k=>?_⟩
 obtain ⟨g',w',e1,e2,e3⟩:=h1 env' (zd2 ha) g w a hH hE
 exact zfr e1 (k g' w' undef e2 (by simp [VRel]) e3)
theorem dr_wt [Glob] (h1:∀ env',Agree (opTs o.op) env env'→StepU P N hp env' o hp') (hX:I hp') (hg:gd all env o=some true) (hd:o.dst=none)
  (h:DR P N I all rest ks env hp' K):DR P N I all (o::rest) (4::ks) env hp K:=by
 refine zed (v:=.junk) (k:=.w true) (hp':=hp') rfl ?_ (by rw [push_none hd];exact h)
 unfold FOp
 simp only [hg]
 refine ⟨(fun _=>hX),fun env' ha g w a hH hE K Qc k=>?_⟩
 obtain ⟨g',w',e1,e2,e3⟩:=h1 env' (zd2 ha) g w a hH hE
 exact zfr e1 (k g' w' undef e2 (by simp [VRel]) e3)
theorem dr_g [Glob] {d:Nat} {v:AV} (h1:∀ env',Agree (opTs o.op) env env'→WOk P N hp hp' env' o v) (hg:gd all env o=some true) (hd:o.dst=some d)
  (h:DR P N I all rest ks ((d,v)::env) hp' K):DR P N I all (o::rest) (3::ks) env hp K:=by
 refine zed (v:=v) (k:=.w false) (hp':=hp') rfl ?_ (by rw [zdv hd];exact h)
 unfold FOp
 simp only [hg]
 exact ⟨(fun h=>by cases h),fun env' ha=>h1 env' (zd2 ha)⟩
theorem dr_f [Glob] {d q n:Nat} {v:AV} {X:Heap} (h1:∀ env',Agree (opTs o.op) env env'→∀ L1:Heap,L1.length=q→I ⟨hp.base,hp.k,L1++hp.loc.drop q⟩→WOk P N ⟨hp.base,hp.k,L1++hp.loc.drop q⟩ ⟨hp.base,hp.k+n,L1++X⟩ env' o v) (hq:q≤hp.loc.length) (hX:X.length=(hp.loc.drop q).length+n) (hg:gd all env o=some true) (hd:o.dst=some d)
  (h:DR P N I all rest ks ((d,v)::env) ⟨hp.base,hp.k+n,hp.loc.take q++X⟩ K):DR P N I all (o::rest) ((5+q)::ks) env hp K:=by
 refine zed (v:=v) (k:=.f q n X) (hp':=⟨hp.base,hp.k+n,hp.loc.take q++X⟩) rfl ?_ (by rw [zdv hd];exact h)
 unfold FOp
 simp only [hg]
 exact ⟨fun env' ha=>h1 env' (zd2 ha),⟨hq,hX⟩,trivial⟩
theorem dr_fapp [Glob] {d:Nat} {v:AV} {X:Heap} (h1:∀ env',Agree (opTs o.op) env env'→∀ hp1,I hp1→hp1.k=hp.k→hp1.loc.length=hp.loc.length→WOk P N hp1 ⟨hp1.base,hp1.k+X.length,hp1.loc++X⟩ env' o v) (hg:gd all env o=some true) (hd:o.dst=some d)
  (h:DR P N I all rest ks ((d,v)::env) ⟨hp.base,hp.k+X.length,hp.loc++X⟩ K):DR P N I all (o::rest) ((5+hp.loc.length)::ks) env hp K:=by
 refine dr_f (n:=X.length) (X:=X) (fun env' ha L1 hL hI=>?_) (yax _) (by simp) hg hd (by rw [ya2];exact h)
 rw [List.drop_length,yat] at hI ⊢
 exact h1 env' ha ⟨hp.base,hp.k,L1⟩ hI rfl hL
theorem dr_x [Glob] {d:Nat} {v:AV} (h1:∀ env',Agree (opTs o.op) env env'→Step P N hp env' o v hp') (hX:I hp') (hg:gd all env o=some true) (hd:o.dst=some d)
  (h:DR P N I all rest ks ((d,v)::env) hp' K):DR P N I all (o::rest) (4::ks) env hp K:=by
 refine zed (v:=v) (k:=.w true) (hp':=hp') rfl ?_ (by rw [zdv hd];exact h)
 unfold FOp
 simp only [hg]
 refine ⟨(fun _=>hX),fun env' ha g w a hH hE K Qc k=>?_⟩
 obtain ⟨c,g',w',e1,e2,e3,e4⟩:=h1 env' (zd2 ha) g w a hH hE
 exact zb4 e1 (k g' w' c e2 e3 e4)
end
end
section
def slOf:AV→Option (Nat×List AV)
 | .sl _ n l=>some (n,l)
 | .sx n l=>some (n,l)
 | .sk n _ l=>some (n,l)
 | .nils=>some (0,[])
 | _=>none
theorem zc6 {g:G} {w:World} {v:AV} {c:Value} {n:Nat} {l:List AV} (h:VRel g w v c) (hs:slOf v=some (n,l)):∃ A cap,c=.slice A n cap∧n≤cap∧(l=[]∨∃ b o,A=some ⟨b,o,none⟩∧MRel g w l b o):=by
 cases v <;> simp only [slOf,yad,yb7,reduceCtorEq] at hs
 case nils=>obtain ⟨rfl,rfl⟩:=hs;simp only [VRel] at h;exact ⟨none,0,h,yax _,.inl rfl⟩
 case sl=>obtain ⟨rfl,rfl⟩:=hs;simp only [VRel] at h;obtain ⟨A,cap,h1,h2,h3,-⟩:=h;exact ⟨A,cap,h1,h2,h3⟩
 case sx=>obtain ⟨rfl,rfl⟩:=hs;simp only [VRel] at h;obtain ⟨A,h1,h2⟩:=h;exact ⟨A,_,h1,yax _,h2⟩
 case sk=>obtain ⟨rfl,rfl⟩:=hs;simp only [VRel] at h;obtain ⟨A,cap,h1,h2,h2',h3⟩:=h;exact ⟨A,cap,h1,ybg h2 h2',h3⟩
def skOf:AV→Option (Nat×List AV)
 | .sl (some _) n l=>some (n,l)
 | .sk _ m l=>some (m,l)
 | _=>none
theorem skOf_rel {g:G} {w:World} {v:AV} {c:Value} {m:Nat} {l:List AV} (h:VRel g w v c) (hs:skOf v=some (m,l)):∃ A n cap,c=.slice A n cap∧m≤cap∧(l=[]∨∃ b o,A=some ⟨b,o,none⟩∧MRel g w l b o):=by
 unfold skOf at hs
 split at hs
 ·cases hs
  simp only [VRel] at h
  obtain ⟨A,cap,h1,h2,h3,-⟩:=h
  exact ⟨A,_,cap,h1,h2,h3⟩
 ·cases hs
  simp only [VRel] at h
  obtain ⟨A,cap,h1,h2,h2',h3⟩:=h
  exact ⟨A,_,cap,h1,h2',h3⟩
 ·cases hs
section
variable {P:Program} {N:FN} {env:Env} {hp hp':Hp} {o:Oper} {T:TypeId→Option TI}
theorem st_lenS [Glob] (hT:TOk P T) {t e:TypeId} {x:Operand} {ti:TI} {n:Nat} {l:List AV} (ho:o.op=.call { callee:=.builtin .len,args:=#[x],argTypes:=#[t] }) (ht:T t=some ti)
  (hk:ti.kind=.sl e) (hx:slOf (ev env x)=some (n,l)):Step P N hp env o (.int .i64 n) hp :=
 ybf fun g w a _ hE=>by
  obtain ⟨A,cap,hc,-⟩:=zc6 (zar hE x) hx
  obtain ⟨d,i',e1,e2,e3,-⟩:=zaj (hT _ _ ht)
  rw [hk] at e3
  have hd:d=.slice e:=by cases d <;> simp [tkOf] at e3;rw [e3]
  subst hd
  refine ⟨.int .i64 n,?_,by simp [VRel]⟩
  simp [execOp,ho,resolve,invoke,builtin,Builtin.len_,hc,run_underlying e1,goInt]
theorem st_indexS [Glob] (hT:TOk P T) {t e:TypeId} {x y:Operand} {ti ei:TI} {n:Nat} {l l':List AV} {k:IntKind} {i:Int} (ho:o.op=.indexAddr t x y) (ht:T t=some ti)
  (hk:ti.kind=.sl e) (he:T e=some ei) (hx:slOf (ev env x)=some (n,l)) (hy:ev env y=.int k i) (h0:0≤i) (hn:i<n) (hl:Seg l (i.toNat * ei.sz) l') (hne:l'≠[]):Step P N hp env o (.rptr l') hp :=
 ybf fun g w a hH hE=>by
  obtain ⟨A,cap,hc,hcap,hm⟩:=zc6 (zar hE x) hx
  have hry:=zar hE y
  rw [hy] at hry
  simp only [VRel] at hry
  obtain ⟨d,i',e1,e2,e3,-⟩:=zaj (hT _ _ ht)
  rw [hk] at e3
  have hd:d=.slice e:=by cases d <;> simp [tkOf] at e3;rw [e3]
  subst hd
  obtain ⟨d2,i2,f1,f2,f3,f4,-⟩:=zaj (hT _ _ he)
  obtain ⟨r,hseg⟩:=hl
  have hlne:l≠[]:=by
   rintro rfl
   simp at hseg
   exact hne hseg.1
  obtain ⟨b,k',rfl,hm'⟩:=hm.resolve_left hlne
  refine ⟨.pointer (some ⟨b,k'+i.toNat * ei.sz,none⟩),?_,?_⟩
  ·simp [execOp,ho,hc,hry,Instr.indexAt,asIntOf,run_underlying e1,h0,hn,za2 f2,Addr.add_lit,f4]
  ·simp only [VRel]
   refine ⟨b,_,rfl,?_⟩
   have:=hm'.drop (i.toNat * ei.sz)
   rw [hseg] at this
   exact this.front
theorem zel [Glob] (hT:TOk P T) {t e:TypeId} {ti ei:TI} {n:Nat} {parts:List (Nat×Operand)} {z l:List AV} (ho:o.op=.buildSlice t n parts.toArray) (ht:T t=some ti)
  (hk:ti.kind=.sl e) (he:T e=some ei) (hz:ei.zero=some z) (hzl:Nat.beq z.length ei.sz=true) (hsmall:Nat.ble (n * ei.sz) 16777216=true) (h1:allOA (zb7 env parts)=true) (hl:fillC (zds ei.sz) (repC n z) (zb7 env parts)=some l) :
  Step P N hp env o (.sx n l) hp:=by
 intro g w a hH hE
 obtain ⟨c,g',w',e1,e2,e3,e4⟩:=st_buildSlice hT ho ht hk he hz hzl hsmall h1 hl g w a hH hE
 refine ⟨c,g',w',e1,e2,?_,e4⟩
 simp only [VRel] at e3 ⊢
 obtain ⟨A,cap,rfl,hc,hm,-⟩:=e3
 have hcap:cap=n:=by
  have:∀ {x:Except Unit Unit},True:=fun {_}=>trivial
  unfold execOp at e1
  simp only [ho,Instr.buildSlice] at e1
  obtain ⟨d,i0,q1,-,q3,-⟩:=zaj (hT _ _ ht)
  rw [hk] at q3
  have hd:d=.slice e:=by cases d <;> simp [tkOf] at q3;rw [q3]
  subst hd
  obtain ⟨d2,i,-,f2,-,f4,f5,f6⟩:=zaj (hT _ _ he)
  rw [hz] at f6
  cases hiz:i.zero with
  | none=>rw [hiz] at f6;cases f6
  | some zv =>
  have hle:n * i.size≤16777216:=by rw [← f4];exact ybv hsmall
  simp only [Sem.run_bind,run_underlying q1,Result.andThen_ok,za2 f2] at e1
  rw [if_neg (by omega)] at e1
  by_cases h0:n * i.size=0
  ·simp only [h0,if_true,Sem.run_bind,Sem.run_pure,Result.andThen_ok] at e1
   split at e1
   ·simp [newRow] at e1
    exact e1.1.2.symm
   ·simp at e1
  ·simp only [h0,if_false,Sem.run_bind,zeroValue,typeInfo,f2,hiz,run_program,Result.andThen_ok,Sem.run_pure] at e1
   split at e1
   ·simp [newRow] at e1
    exact e1.1.2.symm
   ·simp at e1
 subst hcap
 exact ⟨A,rfl,hm⟩
def Bd [Glob] (env:Env) (x:Option Operand) (d m:Nat):Prop:=match x with
 | none=>m=d
 | some y=>∃ k,ev env y=.int k (m:Int)
def SubL (l:List AV) (o n:Nat) (l':List AV):Prop:=(∃ r,l.drop o=l'++r)∧l'.length=n
theorem zb6 [Glob] {g:G} {w:World} {a:Act} {y:Operand} {k:IntKind} {m c:Nat} {code:BoundsCode} (hE:ERel N g w env a) (hy:ev env y=.int k (m:Int)) (h:m≤c) :
  (Instr.sliceBound (a.eval y) c code).run P w=.ok m w:=by
 have hr:=zar hE y
 rw [hy] at hr
 simp only [VRel] at hr
 have h2:(0:Int)≤m∧(m:Int)≤c:=⟨by omega,by omega⟩
 simp [Instr.sliceBound,hr,asIntOf,h2]
theorem st_sliceS [Glob] (hT:TOk P T) {t e:TypeId} {x:Operand} {low high:Option Operand} {ti ei:TI} {n lo hi:Nat} {l l':List AV} (ho:o.op=.slice t x low high none) (ht:T t=some ti)
  (hk:ti.kind=.sl e) (he:T e=some ei) (hx:slOf (ev env x)=some (n,l)) (hlo:Bd env low 0 lo) (hhi:Bd env high n hi) (h1:lo≤hi) (h2:hi≤n) (hl:SubL l (lo * ei.sz) ((hi-lo) * ei.sz) l'):Step P N hp env o (.sl none (hi-lo) l') hp :=
 ybf fun g w a hH hE=>by
  obtain ⟨A,cap,hc,hcap,hm⟩:=zc6 (zar hE x) hx
  obtain ⟨d,i',e1,e2,e3,-⟩:=zaj (hT _ _ ht)
  rw [hk] at e3
  have hd:d=.slice e:=by cases d <;> simp [tkOf] at e3;rw [e3]
  subst hd
  obtain ⟨d2,i2,f1,f2,f3,f4,-⟩:=zaj (hT _ _ he)
  have hb:(Instr.sliceBounds true n cap (low.map a.eval) (high.map a.eval) none).run P w=.ok (lo,hi,cap) w:=by
   unfold Instr.sliceBounds
   cases low with
   | none =>
     simp only [Bd] at hlo;subst hlo
     cases high with
     | none=>simp only [Bd] at hhi;subst hhi;simp
     | some y=>simp only [Bd] at hhi;obtain ⟨kk,hy⟩:=hhi;simp [zb6 (P:=P) hE hy (by omega:hi≤cap)]
   | some z =>
     simp only [Bd] at hlo;obtain ⟨kz,hz⟩:=hlo
     cases high with
     | none=>simp only [Bd] at hhi;subst hhi;simp [zb6 (P:=P) hE hz h1]
     | some y=>simp only [Bd] at hhi;obtain ⟨kk,hy⟩:=hhi;simp [zb6 (P:=P) hE hy (by omega:hi≤cap),zb6 (P:=P) hE hz h1]
  refine ⟨.slice (if cap=lo then A else A.map (·.add (lo * i2.size))) (hi-lo) (cap-lo),?_,?_⟩
  ·simp only [execOp,ho,hc,yc5]
   unfold Instr.sliceAt Instr.slice
   simp [run_underlying e1,hb,za2 f2]
  ·simp only [VRel]
   refine ⟨_,_,rfl,by omega,?_,fun t h=>by cases h⟩
   obtain ⟨⟨r,hr⟩,hlen⟩:=hl
   by_cases hc2:cap=lo
   ·left
    have:hi-lo=0:=by omega
    rw [this,Nat.zero_mul] at hlen
    exact ya3 hlen
   ·by_cases hl0:l'=[]
    ·exact .inl hl0
    ·right
     rw [if_neg hc2]
     have hlne:l≠[]:=by
      rintro rfl
      simp at hr
      exact hl0 hr.1
     obtain ⟨b,k',rfl,hm'⟩:=hm.resolve_left hlne
     refine ⟨b,k'+lo * i2.size,by simp [Addr.add_lit],?_⟩
     have:=hm'.drop (lo * ei.sz)
     rw [hr] at this
     rw [← f4]
     exact this.front
theorem st_sliceK [Glob] (hT:TOk P T) {t e:TypeId} {x y:Operand} {ti ei:TI} {k:IntKind} {m hi:Nat} {l:List AV} (ho:o.op=.slice t x none (some y) none) (ht:T t=some ti)
  (hk:ti.kind=.sl e) (he:T e=some ei) (hx:skOf (ev env x)=some (m,l)) (hy:ev env y=.int k (hi:Int)) (h2:hi≤m):Step P N hp env o (.sk hi m l) hp :=
 ybf fun g w a hH hE=>by
  obtain ⟨A,n,cap,hc,hcap,hm⟩:=skOf_rel (zar hE x) hx
  obtain ⟨d,i',e1,e2,e3,-⟩:=zaj (hT _ _ ht)
  rw [hk] at e3
  have hd:d=.slice e:=by cases d <;> simp [tkOf] at e3;rw [e3]
  subst hd
  obtain ⟨d2,i2,f1,f2,f3,f4,-⟩:=zaj (hT _ _ he)
  have hb:(Instr.sliceBounds true n cap none (some (a.eval y)) none).run P w=.ok (0,hi,cap) w:=by
   unfold Instr.sliceBounds
   simp [zb6 (P:=P) hE hy (by omega:hi≤cap)]
  refine ⟨.slice (if cap=0 then A else A.map (·.add (0 * i2.size))) (hi-0) (cap-0),?_,?_⟩
  ·simp only [execOp,ho,hc,yc5,ybb]
   unfold Instr.sliceAt Instr.slice
   simp [run_underlying e1,hb,za2 f2]
  ·simp only [VRel]
   have hA:(if cap=0 then A else A.map (·.add (0 * i2.size)))=A:=by
    split
    ·rfl
    ·cases A with
     | none=>rfl
     | some p=>simp [Addr.add]
   rw [hA]
   exact ⟨A,cap-0,rfl,by omega,by omega,hm⟩
theorem st_sliceX [Glob] (hT:TOk P T) {t e:TypeId} {x ym:Operand} {low high:Option Operand} {ti ei:TI} {n lo hi:Nat} {l l':List AV} (ho:o.op=.slice t x low high (some ym)) (ht:T t=some ti)
  (hk:ti.kind=.sl e) (he:T e=some ei) (hx:slOf (ev env x)=some (n,l)) (hlo:Bd env low 0 lo) {yh:Operand} (hhs:high=some yh) {kh km:IntKind} (hhi:ev env yh=.int kh (hi:Int)) (hmx:ev env ym=.int km (hi:Int)) (h1:lo≤hi) (h2:hi≤n) (hl:SubL l (lo * ei.sz) ((hi-lo) * ei.sz) l'):Step P N hp env o (.sx (hi-lo) l') hp :=
 ybf fun g w a hH hE=>by
  subst hhs
  obtain ⟨A,cap,hc,hcap,hm⟩:=zc6 (zar hE x) hx
  obtain ⟨d,i',e1,e2,e3,-⟩:=zaj (hT _ _ ht)
  rw [hk] at e3
  have hd:d=.slice e:=by cases d <;> simp [tkOf] at e3;rw [e3]
  subst hd
  obtain ⟨d2,i2,f1,f2,f3,f4,-⟩:=zaj (hT _ _ he)
  have hb:(Instr.sliceBounds true n cap (low.map a.eval) (some (a.eval yh)) (some (a.eval ym))).run P w=.ok (lo,hi,hi) w:=by
   unfold Instr.sliceBounds
   cases low with
   | none =>
     simp only [Bd] at hlo;subst hlo
     simp [zb6 (P:=P) hE hmx (by omega:hi≤cap),zb6 (P:=P) hE hhi (yax _)]
   | some z =>
     simp only [Bd] at hlo;obtain ⟨kz,hz⟩:=hlo
     simp [zb6 (P:=P) hE hmx (by omega:hi≤cap),zb6 (P:=P) hE hhi (yax _),zb6 (P:=P) hE hz h1]
  refine ⟨.slice (if hi=lo then A else A.map (·.add (lo * i2.size))) (hi-lo) (hi-lo),?_,?_⟩
  ·simp only [execOp,ho,hc,ybb]
   unfold Instr.sliceAt Instr.slice
   simp [run_underlying e1,hb,za2 f2]
  ·simp only [VRel]
   refine ⟨_,rfl,?_⟩
   obtain ⟨⟨r,hr⟩,hlen⟩:=hl
   by_cases hc2:hi=lo
   ·left
    have:hi-lo=0:=by omega
    rw [this,Nat.zero_mul] at hlen
    exact ya3 hlen
   ·by_cases hl0:l'=[]
    ·exact .inl hl0
    ·right
     rw [if_neg hc2]
     have hlne:l≠[]:=by
      rintro rfl
      simp at hr
      exact hl0 hr.1
     obtain ⟨b,k',rfl,hm'⟩:=hm.resolve_left hlne
     refine ⟨b,k'+lo * i2.size,by simp [Addr.add_lit],?_⟩
     have:=hm'.drop (lo * ei.sz)
     rw [hr] at this
     rw [← f4]
     exact this.front
theorem st_sliceStr [Glob] (hT:TOk P T) {t:TypeId} {x:Operand} {low high:Option Operand} {ti:TI} {lo hi:Nat} {s:ByteArray} (ho:o.op=.slice t x low high none) (ht:T t=some ti)
  (hk:ti.kind=.str) (hx:ev env x=.str s) (hlo:Bd env low 0 lo) (hhi:Bd env high s.size hi) (h1:lo≤hi) (h2:hi≤s.size):Step P N hp env o (.str (s.extract lo hi)) hp :=
 ybf fun g w a hH hE=>by
  have hc:=zar hE x
  rw [hx] at hc
  simp only [VRel] at hc
  obtain ⟨d,i',e1,e2,e3,-⟩:=zaj (hT _ _ ht)
  rw [hk] at e3
  have hd:d=.string:=by cases d <;> simp [tkOf] at e3;rfl
  subst hd
  have hb:(Instr.sliceBounds false s.size s.size (low.map a.eval) (high.map a.eval) none).run P w=.ok (lo,hi,s.size) w:=by
   unfold Instr.sliceBounds
   cases low with
   | none =>
     simp only [Bd] at hlo;subst hlo
     cases high with
     | none=>simp only [Bd] at hhi;subst hhi;simp
     | some y=>simp only [Bd] at hhi;obtain ⟨kk,hy⟩:=hhi;simp [zb6 (P:=P) hE hy (by omega:hi≤s.size)]
   | some z =>
     simp only [Bd] at hlo;obtain ⟨kz,hz⟩:=hlo
     cases high with
     | none=>simp only [Bd] at hhi;subst hhi;simp [zb6 (P:=P) hE hz h1]
     | some y=>simp only [Bd] at hhi;obtain ⟨kk,hy⟩:=hhi;simp [zb6 (P:=P) hE hy (by omega:hi≤s.size),zb6 (P:=P) hE hz h1]
  refine ⟨.string (s.extract lo hi),?_,by simp [VRel]⟩
  simp only [execOp,ho,hc,yc5]
  unfold Instr.sliceAt Instr.slice
  simp [run_underlying e1,hb]
theorem st_indexStr [Glob] (hT:TOk P T) {t:TypeId} {x y:Operand} {ti:TI} {s:ByteArray} {k:IntKind} {i:Int} {b:UInt8} (ho:o.op=.index t x y) (ht:T t=some ti) (hk:ti.kind=.str)
  (hx:ev env x=.str s) (hy:ev env y=.int k i) (h0:0≤i) (hb:s[i.toNat]? = some b):Step P N hp env o (.int .u8 b.toNat) hp :=
 ybf fun g w a hH hE=>by
  have hc:=zar hE x
  rw [hx] at hc
  simp only [VRel] at hc
  have hry:=zar hE y
  rw [hy] at hry
  simp only [VRel] at hry
  obtain ⟨d,i',e1,e2,e3,-⟩:=zaj (hT _ _ ht)
  rw [hk] at e3
  have hd:d=.string:=by cases d <;> simp [tkOf] at e3;rfl
  subst hd
  refine ⟨.int .u8 b.toNat,?_,by simp [VRel]⟩
  simp [execOp,ho,hc,hry,Instr.index,asIntOf,run_underlying e1,h0,hb]
theorem make_run [Glob] (hT:TOk P T) {t e:TypeId} {x y:Operand} {ti ei:TI} {k k':IntKind} {n:Nat} {z:List AV} {g:G} {w:World} {a:Act} (hE:ERel N g w env a) (ho:o.op=.makeSlice t x y) (ht:T t=some ti) (hk:ti.kind=.sl e) (he:T e=some ei) (hz:ei.zero=some z) (hzl:z.length=ei.sz)
  (hx:ev env x=.int k (n:Int)) (hy:ev env y=.int k' (n:Int)) (hn:(n:Int)≤9223372036854775807) (hb:n * ei.bytes≤281474976710656) :
  ∃ cs:Array Value,(execOp a.eval o).run P w=.ok (.value (.slice (some ⟨w.heap.size,0,none⟩) n n)) (w.alloc (.cells cs e))∧∀ g' w',LRel g' w' (repC n z) cs.toList:=by
 have hrx:=zar hE x
 rw [hx] at hrx
 have hry:=zar hE y
 rw [hy] at hry
 simp only [VRel] at hrx hry
 obtain ⟨d,i0,e1,-,e3,-⟩:=zaj (hT _ _ ht)
 rw [hk] at e3
 have hd:d=.slice e:=by cases d <;> simp [tkOf] at e3;rw [e3]
 subst hd
 obtain ⟨d2,i,-,f2,-,f4,f5,f6⟩:=zaj (hT _ _ he)
 rw [hz] at f6
 cases hiz:i.zero with
 | none=>rw [hiz] at f6;cases f6
 | some zv =>
 rw [hiz] at f6
 simp only [ybb,yad] at f6
 have hzs:zv.cells.size=i.size:=by
  have:(zv.cells.toList.map av1).length=i.size:=by rw [← f6,hzl,f4]
  simpa using this
 have hw:IntKind.i64.wrap (n:Int)=n:=IntWalk.i64_in _ ⟨by omega,by omega⟩
 have hbn:¬ (281474976710656<(i.bytes:Int) * (n:Int)):=by
  rw [← f5]
  have:((n * ei.bytes:Nat):Int)≤281474976710656:=by omega
  rw [Int.natCast_mul,Int.mul_comm] at this
  omega
 have hn0:¬ ((n:Int)<0):=by omega
 have hr0:Array.range 0=(#[]:Array Nat):=rfl
 by_cases h0:n * i.size=0
 ·refine ⟨#[],?_,fun g' w'=>?_⟩
  ·simp [execOp,ho,hrx,hry,Instr.makeSlice,run_underlying e1,asInt,asIntOf,typeInfo,f2,hw,hbn,za2 f2,h0,newRow,hn0,hr0]
  ·have:(repC n z).length=0:=by rw [ze4,hzl,f4];exact h0
   rw [ya3 this]
   simp [LRel]
 ·refine ⟨_,?_,fun g' w'=>zeros_rel (by rw [f6];exact zej g' w' _) n⟩
  rw [hzs]
  simp [execOp,ho,hrx,hry,Instr.makeSlice,run_underlying e1,asInt,asIntOf,typeInfo,f2,hw,hbn,za2 f2,h0,newRow,zeroValue,hiz,hzs,hn0]
theorem st_len_mp [Glob] (hT:TOk P T) {t kt et:TypeId} {x:Operand} {ti:TI} {ks vs:List AV} (ho:o.op=.call { callee:=.builtin .len,args:=#[x],argTypes:=#[t] }) (ht:T t=some ti)
  (hk:ti.kind=.mp kt et) (hx:ev env x=.rmp ks vs):Step P N hp env o (.int .i64 ks.length) hp :=
 ybf fun g w a _ hE=>by
  have hr:=zar hE x
  rw [hx] at hr
  simp only [VRel] at hr
  obtain ⟨b,es,clk,hc,hb,-,-,h1,-⟩:=hr
  obtain ⟨d,i',e1,e2,e3,-⟩:=zaj (hT _ _ ht)
  rw [hk] at e3
  have hd:d=.map kt et:=by cases d <;> simp [tkOf] at e3;rw [e3.1,e3.2]
  subst hd
  have hl:=h1.length
  simp only [yav,ych] at hl
  refine ⟨.int .i64 ks.length,?_,by simp [VRel]⟩
  simp [execOp,ho,resolve,invoke,builtin,Builtin.len_,hc,run_underlying e1,goInt,Go.MapKept.run_getObj_map hb,hl]
theorem st_len_ms [Glob] (hT:TOk P T) {t e:TypeId} {x:Operand} {ti:TI} {b q n:Nat} (ho:o.op=.call { callee:=.builtin .len,args:=#[x],argTypes:=#[t] }) (ht:T t=some ti)
  (hk:ti.kind=.sl e) (hx:ev env x=.ms b q n):Step P N hp env o (.int .i64 n) hp :=
 ybf fun g w a _ hE=>by
  have hr:=zar hE x
  rw [hx] at hr
  simp only [VRel] at hr
  obtain ⟨-,cap,-,hc⟩:=hr
  obtain ⟨d,i',e1,e2,e3,-⟩:=zaj (hT _ _ ht)
  rw [hk] at e3
  have hd:d=.slice e:=by cases d <;> simp [tkOf] at e3;rw [e3]
  subst hd
  refine ⟨.int .i64 n,?_,by simp [VRel]⟩
  simp [execOp,ho,resolve,invoke,builtin,Builtin.len_,hc,run_underlying e1,goInt]
theorem st_index_ms [Glob] (hT:TOk P T) {t e:TypeId} {x y:Operand} {ti ei:TI} {b q n:Nat} {k:IntKind} {i:Int} (ho:o.op=.indexAddr t x y) (ht:T t=some ti)
  (hk:ti.kind=.sl e) (he:T e=some ei) (hx:ev env x=.ms b q n) (hy:ev env y=.int k i) (h0:0≤i) (hn:i<n):Step P N hp env o (.ptr b (q+i.toNat * ei.sz)) hp :=
 ybf fun g w a _ hE=>by
  have hr:=zar hE x
  rw [hx] at hr
  simp only [VRel] at hr
  obtain ⟨hok,cap,-,hc⟩:=hr
  have hry:=zar hE y
  rw [hy] at hry
  simp only [VRel] at hry
  obtain ⟨d,i',e1,e2,e3,-⟩:=zaj (hT _ _ ht)
  rw [hk] at e3
  have hd:d=.slice e:=by cases d <;> simp [tkOf] at e3;rw [e3]
  subst hd
  obtain ⟨d2,i2,f1,f2,f3,f4,-⟩:=zaj (hT _ _ he)
  refine ⟨.pointer (some ⟨g.blk b,q+i.toNat * ei.sz,none⟩),?_,by simp only [VRel,and_true];exact hok⟩
  simp [execOp,ho,hc,hry,Instr.indexAt,asIntOf,run_underlying e1,h0,hn,za2 f2,Addr.add_lit,f4]
theorem st_buildArr [Glob] (hT:TOk P T) {t e:TypeId} {ti ei:TI} {n:Nat} {parts:List (Nat×Operand)} {z l:List AV} (ho:o.op=.build t parts.toArray) (ht:T t=some ti)
  (hk:ti.kind=.arr n e) (he:T e=some ei) (hz:ti.zero=some z) (h1:allOA (zb7 env parts)=true) (hl:fillC (zds ei.sz) z (zb7 env parts)=some l) :
  Step P N hp env o (.agg l) hp :=
 ybf fun g w a hH hE=>by
  obtain ⟨d,i,e1,e2,e3,e4,e5,e6⟩:=zaj (hT _ _ ht)
  rw [hk] at e3
  have hd:d=.array n e:=by cases d <;> simp [tkOf] at e3;rw [e3.1,e3.2]
  subst hd
  obtain ⟨d2,i2,f1,f2,f3,f4,-⟩:=zaj (hT _ _ he)
  rw [hz] at e6
  cases hiz:i.zero with
  | none=>rw [hiz] at e6;cases e6
  | some zv =>
  rw [hiz] at e6
  simp only [ybb,yad] at e6
  obtain ⟨cs',g1,g2⟩:=zhf (g:=g) (w:=w) (place:=zds ei.sz) (zb7 env parts) (parts.map fun p=>(p.1,a.eval p.2)) z l zv.cells (zfx _ h1) (by simp [zdo]) (zg3 hE parts)
   (by rw [e6];exact zej g w _) hl
  refine ⟨.agg cs',?_,by simp only [VRel];exact ⟨cs',rfl,g2⟩⟩
  have hfill:Instr.fill (fun j=>some (j * i2.size,i2.size)) zv.cells (parts.map fun p=>(p.1,a.eval p.2))=some cs':=by
   rw [← f4];exact g1
  unfold execOp
  simp only [ho]
  simp only [Instr.build,zeroValue,typeInfo,Sem.run_bind,run_program,Result.andThen_ok,e2,Sem.run_pure,hiz,run_underlying e1,za2 f2]
  simp [hfill]
end
end
section
section
variable {P:Program} {N:FN} {env:Env} {hp hp':Hp} {o:Oper} {T:TypeId→Option TI}
theorem st_makeX [Glob] (hT:TOk P T) {t e:TypeId} {x y:Operand} {ti ei:TI} {k k':IntKind} {n:Nat} {z:List AV} (ho:o.op=.makeSlice t x y) (ht:T t=some ti) (hk:ti.kind=.sl e) (he:T e=some ei) (hz:ei.zero=some z) (hzl:z.length=ei.sz)
  (hx:ev env x=.int k (n:Int)) (hy:ev env y=.int k' (n:Int)) (hn:(n:Int)≤9223372036854775807) (hb:n * ei.bytes≤281474976710656):Step P N hp env o (.sx n (repC n z)) hp:=by
 intro g w a hH hE
 obtain ⟨cs,h1,h2⟩:=make_run hT hE ho ht hk he hz hzl hx hy hn hb
 refine ⟨_,g,_,h1,hH.fresh _,?_,Ext.fresh g w _⟩
 simp only [VRel]
 refine ⟨_,rfl,.inr ⟨w.heap.size,0,rfl,ydk fun j v hj=>?_⟩⟩
 obtain ⟨c,q1,q2⟩:=(h2 g (w.alloc (.cells cs e))).get hj
 exact ⟨c,cell_iff.2 ⟨cs,e,_,heap_alloc_new w _,by simpa using q1⟩,q2,fun ho=>absurd (hH.lt _ _ ho) (yc7 _)⟩
theorem st_makeB [Glob] (hT:TOk P T) {base loc:Heap} {q:Nat} {t e:TypeId} {x y:Operand} {ti ei:TI} {k k':IntKind} {n:Nat} {z:List AV} (ho:o.op=.makeSlice t x y) (ht:T t=some ti) (hk:ti.kind=.sl e) (he:T e=some ei) (hz:ei.zero=some z) (hzl:z.length=ei.sz)
  (hx:ev env x=.int k (n:Int)) (hy:ev env y=.int k' (n:Int)) (hn:(n:Int)≤9223372036854775807) (hb:n * ei.bytes≤281474976710656):Step P N ⟨base,q,loc⟩ env o (.ms (base.length+q) 0 n) ⟨base,q+1,loc++[.box e (repC n z)]⟩:=by
 intro g w a hH hE
 obtain ⟨cs,h1,h2⟩:=make_run hT hE ho ht hk he hz hzl hx hy hn hb
 obtain ⟨g',e1,e2,e3,e4⟩:=hH.newBox (t:=e) (l:=repC n z) (cs:=cs) (h2 g w)
 refine ⟨_,g',_,h1,e3,?_,e4⟩
 simp only [VRel]
 have hn':=hH.n
 simp only at hn'
 exact ⟨by rw [← hn'];exact e1,n,yax _,by rw [← hn',e2]⟩
theorem aok_makeB [Glob] (hT:TOk P T) {t e:TypeId} {x y:Operand} {ti ei:TI} {k k':IntKind} {n:Nat} {z:List AV} (ho:o.op=.makeSlice t x y) (ht:T t=some ti) (hk:ti.kind=.sl e) (he:T e=some ei) (hz:ei.zero=some z) (hzl:z.length=ei.sz)
  (hx:ev env x=.int k (n:Int)) (hy:ev env y=.int k' (n:Int)) (hn:(n:Int)≤9223372036854775807) (hb:n * ei.bytes≤281474976710656):AOkV P N (.box e (repC n z)) (fun i=>.ms i 0 n) env o:=by
 intro g w a hE
 obtain ⟨cs,h1,h2⟩:=make_run hT hE ho ht hk he hz hzl hx hy hn hb
 refine ⟨_,_,cs,_,rfl,h2 g w,h1,fun g' w' i hi hbk=>?_⟩
 simp only [VRel]
 exact ⟨hi,n,yax _,by rw [hbk]⟩
theorem st_append_x [Glob] (hT:TOk P T) {base loc:Heap} {k:Nat} {t e:TypeId} {x y:Operand} {ti ei:TI} {z:List AV} {n m sz:Nat} {l l2:List AV} (ho:o.op=.call { callee:=.builtin .append,args:=#[x,y],argTypes:=#[t,t] })
  (ht:T t=some ti) (hk:ti.kind=.sl e) (he:T e=some ei) (hez:ei.zero=some z) (hesz:ei.sz=sz+1) (hzl:z.length=ei.sz)
  (hx:ev env x=.sx n l∨(ev env x=.nils∧n=0∧l=[])) (hy:slOf (ev env y)=some (m,l2)) (hl:l.length=n * (sz+1)) (hl2:l2.length=m * (sz+1)) (hm0:0<m)
  (hbytes:(n+m) * ei.bytes≤140737488355328) (hmax:n+m≤maxLen) :
  Step P N ⟨base,k,loc⟩ env o (.sl (some (base.length+k)) (n+m) (l++l2)) ⟨base,k+1,loc++[.tok e (sz+1) (l.length+l2.length)]⟩:=by
 generalize hhp:(⟨base,k,loc⟩:Hp)=hp
 have q1:base=hp.base:=by rw [← hhp]
 have q2:k=hp.k:=by rw [← hhp]
 have q3:loc=hp.loc:=by rw [← hhp]
 rw [q1,q2,q3]
 clear q1 q2 q3 hhp
 intro g w a hH hE
 have hr:=zar hE x
 obtain ⟨A,hc,hm⟩:∃ A,a.eval x=.slice A n n∧(l=[]∨∃ b o,A=some ⟨b,o,none⟩∧MRel g w l b o):=by
  rcases hx with hx|⟨hx,rfl,rfl⟩
  ·rw [hx] at hr;simp only [VRel] at hr;exact hr
  ·rw [hx] at hr;simp only [VRel] at hr;exact ⟨none,hr,.inl rfl⟩
 obtain ⟨A2,cap2,hc2,-,hm2⟩:=zc6 (zar hE y) hy
 obtain ⟨d,i0,e1,-,e3,-⟩:=zaj (hT _ _ ht)
 rw [hk] at e3
 have hd:d=.slice e:=by cases d <;> simp [tkOf] at e3;rw [e3]
 subst hd
 obtain ⟨d2,i,-,f2,-,f4,f5,f6⟩:=zaj (hT _ _ he)
 rw [hez] at f6
 cases hiz:i.zero with
 | none=>rw [hiz] at f6;cases f6
 | some zv =>
 rw [hiz] at f6
 simp only [ybb,yad] at f6
 have hisz:i.size=sz+1:=by rw [← f4,hesz]
 have hzs:zv.cells.size=sz+1:=by
  have:(zv.cells.toList.map av1).length=sz+1:=by rw [← f6,hzl,hesz]
  simpa using this
 obtain ⟨g1,n1,n2,n3,n4⟩:=hH.nilTok e (sz+1)
 have hat:At ⟨hp.base,hp.k+1,hp.loc++[.tok e (sz+1) 0]⟩ (hp.base.length+hp.k) (.tok e (sz+1) 0):=by
  unfold At Hp.all
  simp only
  rw [yam (by omega),ybk,← hH.k]
  simp
 have hput:Put ⟨hp.base,hp.k+1,hp.loc++[.tok e (sz+1) 0]⟩ (hp.base.length+hp.k) (.tok e (sz+1) (l.length+l2.length)) ⟨hp.base,hp.k+1,hp.loc++[.tok e (sz+1) (l.length+l2.length)]⟩:=by
  refine ⟨?_,rfl,rfl,by simp⟩
  simp only [Hp.all]
  rw [yb0 _ _ (by omega),ybk,← hH.k,yb0 _ _ (by omega)]
  simp
 have hl2pos:0<l2.length:=by rw [hl2];exact ycw hm0 (by omega)
 have hl2ne:l2≠[]:=by rintro rfl;simp at hl2pos
 obtain ⟨s2,o2,rfl,hm2'⟩:=hm2.resolve_left hl2ne
 obtain ⟨news,hnews,hnc⟩:=hm2'.list
 have hnewsl:=hnews.length
 have hnewsz:news.length=m * i.size:=by rw [hnewsl,hl2,hisz]
 have hnc':∀ (j:Nat) u,news[j]? = some u→w.cell? ((⟨s2,o2,none⟩:Addr).add j)=some u:=fun j u hu=>by rw [Addr.add_lit];exact hnc j u hu
 have hnl':l.length+l2.length=(n+m) * (sz+1):=by rw [hl,hl2,yb4]
 have h63:n+m≤9223372036854775807:=by simp only [maxLen] at hmax;omega
 have hgc:n+m≤grownCap w (n+m) n e∧grownCap w (n+m) n e≤maxLen:=⟨grownCap_ge w _ _ e,grownCap_le_maxLen w _ _ e hmax⟩
 have fin:∀ (xs:List Value),LRel g w l xs→∃ g',HRel g' (w.drew.alloc (.cells (xs.toArray++news.toArray++Builtin.zeroCells zv.cells (grownCap w (n+m) n e-(n+m))) e)) ⟨hp.base,hp.k+1,hp.loc++[.tok e (sz+1) (l.length+l2.length)]⟩ ∧
   VRel g' (w.drew.alloc (.cells (xs.toArray++news.toArray++Builtin.zeroCells zv.cells (grownCap w (n+m) n e-(n+m))) e)) (.sl (some (hp.base.length+hp.k)) (n+m) (l++l2)) (.slice (some ⟨w.heap.size,0,none⟩) (n+m) (grownCap w (n+m) n e))∧Ext g w g' (w.drew.alloc (.cells (xs.toArray++news.toArray++Builtin.zeroCells zv.cells (grownCap w (n+m) n e-(n+m))) e)):=by
  intro xs hxs
  have hxl:=hxs.length
  have hsz:(xs.toArray++news.toArray++Builtin.zeroCells zv.cells (grownCap w (n+m) n e-(n+m))).size=grownCap w (n+m) n e * (sz+1):=by
   simp only [ydl,ybm,size_zeroCells,hzs,hxl,hnewsl,hnl',← yb4]
   congr 1
   have:=hgc.1
   omega
  have hrel:LRel g1 w (l++l2) ((xs.toArray++news.toArray++Builtin.zeroCells zv.cells (grownCap w (n+m) n e-(n+m))).toList.take (l.length+l2.length)):=by
   have:(xs.toArray++news.toArray++Builtin.zeroCells zv.cells (grownCap w (n+m) n e-(n+m))).toList.take (l.length+l2.length)=xs++news:=by
    simp only [yc9]
    rw [← hxl,← hnewsl,← ya5,yc6]
    simp
   rw [this]
   exact ycb n4 _ _ (hxs.append hnews)
  obtain ⟨g',r1,r2,r3⟩:=zga (n:=n+m) (cap':=grownCap w (n+m) n e) (l':=l++l2) n3 hat (len':=l.length+l2.length) (by omega) (by simp) hnl' hgc.1 hgc.2 hsz hrel hput
  exact ⟨g',r1,r2,n4.trans r3⟩
 have hexec:∀ c w',(Builtin.append_ #[t,t] o.type #[a.eval x,.slice (some ⟨s2,o2,none⟩) m cap2]).run P w=.ok c w'→(execOp a.eval o).run P w=.ok (.value c) w':=by
  intro c w' h2
  simp [execOp,ho,resolve,invoke,builtin,hc2,h2]
 by_cases hln:l=[]
 ·subst hln
  have hn0:n=0:=by
   rcases yc1 n with h|h
   ·exact h
   ·have:=ycw h (show 0<sz+1 by omega)
    simp at hl
    omega
  subst hn0
  cases A with
  | none =>
    have hrun:=run_append_nil (P:=P) w t o.type e i zv e1 f2 hiz ⟨s2,o2,none⟩ m cap2 news hnewsz hnc' hm0 (by omega) (by rw [f5] at hbytes;simp only [ybr] at hbytes;omega)
    obtain ⟨g',r1,r2,r3⟩:=fin [] (by simp [LRel])
    refine ⟨_,g',_,hexec _ _ (by rw [hc];exact hrun),?_,?_,?_⟩
    ·simpa using r1
    ·simpa using r2
    ·simpa using r3
  | some p =>
    have hrun:=run_append_grow (P:=P) w t o.type e i zv e1 f2 hiz p 0 0 [] (by simp) (by simp) ⟨s2,o2,none⟩ m cap2 news hnewsz hnc' (by omega) (by omega) (growslice_fits (by omega) (by rw [← f5];exact hbytes))
    obtain ⟨g',r1,r2,r3⟩:=fin [] (by simp [LRel])
    exact ⟨_,g',_,hexec _ _ (by rw [hc];exact hrun),r1,r2,r3⟩
 ·obtain ⟨b,o',rfl,hm'⟩:=hm.resolve_left hln
  obtain ⟨xs,hxs,hxc⟩:=hm'.list
  have hxl:=hxs.length
  have hrun:=run_append_grow (P:=P) w t o.type e i zv e1 f2 hiz ⟨b,o',none⟩ n n xs (by rw [hxl,hl,hisz]) (fun j u hu=>by rw [Addr.add_lit];exact hxc j u hu) ⟨s2,o2,none⟩ m cap2 news hnewsz hnc' (by omega) (by omega) (growslice_fits (by omega) (by rw [← f5];exact hbytes))
  obtain ⟨g',r1,r2,r3⟩:=fin xs hxs
  exact ⟨_,g',_,hexec _ _ (by rw [hc];exact hrun),r1,r2,r3⟩
theorem LRel.junk {g:G} {w:World}:∀ cs:List Value,LRel g w (List.replicate cs.length .junk) cs
 | []=>by simp [LRel]
 | c::cs=>by
   simp only [List.length_cons,List.replicate_succ,LRel]
   exact ⟨c,cs,rfl,by simp [VRel],LRel.junk cs⟩
theorem st_append_c [Glob] (hT:TOk P T) {base loc:Heap} {k:Nat} {t e:TypeId} {x y:Operand} {ti ei:TI} {z:List AV} {n m sz:Nat} {l l2:List AV} (ho:o.op=.call { callee:=.builtin .append,args:=#[x,y],argTypes:=#[t,t] })
  (ht:T t=some ti) (hk:ti.kind=.sl e) (he:T e=some ei) (hez:ei.zero=some z) (hesz:ei.sz=sz+1) (hzl:z.length=ei.sz)
  (hx:ev env x=.sx n l∨(ev env x=.nils∧n=0∧l=[])) (hy:slOf (ev env y)=some (m,l2)) (hl:l.length=n * (sz+1)) (hl2:l2.length=m * (sz+1)) (hm0:0<m)
  (hbytes:(n+m) * ei.bytes≤140737488355328) (hmax:n+m≤maxLen) :
  ∀ g w a,HRel g w ⟨base,k,loc⟩→ERel N g w env a→∃ s c g' w',(execOp a.eval o).run P w=.ok (.value c) w'∧HRel g' w' ⟨base,k+1,loc++[.box e (l++l2++List.replicate s .junk)]⟩∧VRel g' w' (.ms (base.length+k) 0 (n+m)) c∧Ext g w g' w':=by
 generalize hhp:(⟨base,k,loc⟩:Hp)=hp
 have q1:base=hp.base:=by rw [← hhp]
 have q2:k=hp.k:=by rw [← hhp]
 have q3:loc=hp.loc:=by rw [← hhp]
 rw [q1,q2,q3]
 clear q1 q2 q3 hhp
 intro g w a hH hE
 have hr:=zar hE x
 obtain ⟨A,hc,hm⟩:∃ A,a.eval x=.slice A n n∧(l=[]∨∃ b o,A=some ⟨b,o,none⟩∧MRel g w l b o):=by
  rcases hx with hx|⟨hx,rfl,rfl⟩
  ·rw [hx] at hr;simp only [VRel] at hr;exact hr
  ·rw [hx] at hr;simp only [VRel] at hr;exact ⟨none,hr,.inl rfl⟩
 obtain ⟨A2,cap2,hc2,-,hm2⟩:=zc6 (zar hE y) hy
 obtain ⟨d,i0,e1,-,e3,-⟩:=zaj (hT _ _ ht)
 rw [hk] at e3
 have hd:d=.slice e:=by cases d <;> simp [tkOf] at e3;rw [e3]
 subst hd
 obtain ⟨d2,i,-,f2,-,f4,f5,f6⟩:=zaj (hT _ _ he)
 rw [hez] at f6
 cases hiz:i.zero with
 | none=>rw [hiz] at f6;cases f6
 | some zv =>
 rw [hiz] at f6
 simp only [ybb,yad] at f6
 have hisz:i.size=sz+1:=by rw [← f4,hesz]
 have hzs:zv.cells.size=sz+1:=by
  have:(zv.cells.toList.map av1).length=sz+1:=by rw [← f6,hzl,hesz]
  simpa using this
 have hl2pos:0<l2.length:=by rw [hl2];exact ycw hm0 (by omega)
 have hl2ne:l2≠[]:=by rintro rfl;simp at hl2pos
 obtain ⟨s2,o2,rfl,hm2'⟩:=hm2.resolve_left hl2ne
 obtain ⟨news,hnews,hnc⟩:=hm2'.list
 have hnewsl:=hnews.length
 have hnewsz:news.length=m * i.size:=by rw [hnewsl,hl2,hisz]
 have hnc':∀ (j:Nat) u,news[j]? = some u→w.cell? ((⟨s2,o2,none⟩:Addr).add j)=some u:=fun j u hu=>by rw [Addr.add_lit];exact hnc j u hu
 have hnl':l.length+l2.length=(n+m) * (sz+1):=by rw [hl,hl2,yb4]
 have h63:n+m≤9223372036854775807:=by simp only [maxLen] at hmax;omega
 have hgc:n+m≤grownCap w (n+m) n e∧grownCap w (n+m) n e≤maxLen:=⟨grownCap_ge w _ _ e,grownCap_le_maxLen w _ _ e hmax⟩
 have hxd:Ext g w g w.drew:=⟨yax _,fun _ _ h=>h,fun _ h=>h,fun _ _=>rfl,fun _ _=>.inl rfl,fun _ _ _ h=>h,rfl,rfl,rfl,(by first|exact yax _|exact yca _|(simp;done)),yax _,fun _ _ _=>rfl,fun _ ds _ _ hb=>⟨ds,hb,rfl,fun _ _=>rfl⟩⟩
 have hHd:HRel g w.drew hp:=hH.keepAll hxd fun _ _=>rfl
 have fin:∀ (xs:List Value),LRel g w l xs→∃ s g',HRel g' (w.drew.alloc (.cells (xs.toArray++news.toArray++Builtin.zeroCells zv.cells (grownCap w (n+m) n e-(n+m))) e)) ⟨hp.base,hp.k+1,hp.loc++[.box e (l++l2++List.replicate s .junk)]⟩ ∧
   VRel g' (w.drew.alloc (.cells (xs.toArray++news.toArray++Builtin.zeroCells zv.cells (grownCap w (n+m) n e-(n+m))) e)) (.ms (hp.base.length+hp.k) 0 (n+m)) (.slice (some ⟨w.heap.size,0,none⟩) (n+m) (grownCap w (n+m) n e))∧Ext g w g' (w.drew.alloc (.cells (xs.toArray++news.toArray++Builtin.zeroCells zv.cells (grownCap w (n+m) n e-(n+m))) e)):=by
  intro xs hxs
  have hrel:LRel g w.drew (l++l2++List.replicate (Builtin.zeroCells zv.cells (grownCap w (n+m) n e-(n+m))).toList.length .junk) (xs.toArray++news.toArray++Builtin.zeroCells zv.cells (grownCap w (n+m) n e-(n+m))).toList:=by
   simp only [yc9]
   exact ((ycb hxd _ _ hxs).append (ycb hxd _ _ hnews)).append (LRel.junk _)
  obtain ⟨g',r1,r2,r3,r4⟩:=hHd.newBox (t:=e) hrel
  refine ⟨_,g',r3,?_,hxd.trans r4⟩
  simp only [VRel]
  rw [← hH.n]
  exact ⟨r1,_,hgc.1,by rw [r2];rfl⟩
 have hexec:∀ c w',(Builtin.append_ #[t,t] o.type #[a.eval x,.slice (some ⟨s2,o2,none⟩) m cap2]).run P w=.ok c w'→(execOp a.eval o).run P w=.ok (.value c) w':=by
  intro c w' h2
  simp [execOp,ho,resolve,invoke,builtin,hc2,h2]
 by_cases hln:l=[]
 ·subst hln
  have hn0:n=0:=by
   rcases yc1 n with h|h
   ·exact h
   ·have:=ycw h (show 0<sz+1 by omega)
    simp at hl
    omega
  subst hn0
  cases A with
  | none =>
    have hrun:=run_append_nil (P:=P) w t o.type e i zv e1 f2 hiz ⟨s2,o2,none⟩ m cap2 news hnewsz hnc' hm0 (by omega) (by rw [f5] at hbytes;simp only [ybr] at hbytes;omega)
    obtain ⟨s,g',r1,r2,r3⟩:=fin [] (by simp [LRel])
    refine ⟨s,_,g',_,hexec _ _ (by rw [hc];exact hrun),?_,?_,?_⟩
    ·simpa using r1
    ·simpa using r2
    ·simpa using r3
  | some p =>
    have hrun:=run_append_grow (P:=P) w t o.type e i zv e1 f2 hiz p 0 0 [] (by simp) (by simp) ⟨s2,o2,none⟩ m cap2 news hnewsz hnc' (by omega) (by omega) (growslice_fits (by omega) (by rw [← f5];exact hbytes))
    obtain ⟨s,g',r1,r2,r3⟩:=fin [] (by simp [LRel])
    exact ⟨s,_,g',_,hexec _ _ (by rw [hc];exact hrun),r1,r2,r3⟩
 ·obtain ⟨b,o',rfl,hm'⟩:=hm.resolve_left hln
  obtain ⟨xs,hxs,hxc⟩:=hm'.list
  have hxl:=hxs.length
  have hrun:=run_append_grow (P:=P) w t o.type e i zv e1 f2 hiz ⟨b,o',none⟩ n n xs (by rw [hxl,hl,hisz]) (fun j u hu=>by rw [Addr.add_lit];exact hxc j u hu) ⟨s2,o2,none⟩ m cap2 news hnewsz hnc' (by omega) (by omega) (growslice_fits (by omega) (by rw [← f5];exact hbytes))
  obtain ⟨s,g',r1,r2,r3⟩:=fin xs hxs
  exact ⟨s,_,g',_,hexec _ _ (by rw [hc];exact hrun),r1,r2,r3⟩
theorem st_append_f [Glob] (hT:TOk P T) {t e:TypeId} {x y:Operand} {ti ei:TI} {z:List AV} {n m sz:Nat} {l l2:List AV} (ho:o.op=.call { callee:=.builtin .append,args:=#[x,y],argTypes:=#[t,t] })
  (ht:T t=some ti) (hk:ti.kind=.sl e) (he:T e=some ei) (hez:ei.zero=some z) (hesz:ei.sz=sz+1) (hzl:z.length=ei.sz)
  (hx:ev env x=.sx n l∨(ev env x=.nils∧n=0∧l=[])) (hy:slOf (ev env y)=some (m,l2)) (hl:l.length=n * (sz+1)) (hl2:l2.length=m * (sz+1)) (hm0:0<m)
  (hbytes:(n+m) * ei.bytes≤140737488355328) (hmax:n+m≤maxLen):Step P N hp env o (.sl none (n+m) (l++l2)) hp:=by
 intro g w a hH hE
 have hr:=zar hE x
 obtain ⟨A,hc,hm⟩:∃ A,a.eval x=.slice A n n∧(l=[]∨∃ b o,A=some ⟨b,o,none⟩∧MRel g w l b o):=by
  rcases hx with hx|⟨hx,rfl,rfl⟩
  ·rw [hx] at hr;simp only [VRel] at hr;exact hr
  ·rw [hx] at hr;simp only [VRel] at hr;exact ⟨none,hr,.inl rfl⟩
 obtain ⟨A2,cap2,hc2,-,hm2⟩:=zc6 (zar hE y) hy
 obtain ⟨d,i0,e1,-,e3,-⟩:=zaj (hT _ _ ht)
 rw [hk] at e3
 have hd:d=.slice e:=by cases d <;> simp [tkOf] at e3;rw [e3]
 subst hd
 obtain ⟨d2,i,-,f2,-,f4,f5,f6⟩:=zaj (hT _ _ he)
 rw [hez] at f6
 cases hiz:i.zero with
 | none=>rw [hiz] at f6;cases f6
 | some zv =>
 rw [hiz] at f6
 simp only [ybb,yad] at f6
 have hisz:i.size=sz+1:=by rw [← f4,hesz]
 have hzs:zv.cells.size=sz+1:=by
  have:(zv.cells.toList.map av1).length=sz+1:=by rw [← f6,hzl,hesz]
  simpa using this
 have hl2pos:0<l2.length:=by rw [hl2];exact ycw hm0 (by omega)
 have hl2ne:l2≠[]:=by rintro rfl;simp at hl2pos
 obtain ⟨s2,o2,rfl,hm2'⟩:=hm2.resolve_left hl2ne
 obtain ⟨news,hnews,hnc⟩:=hm2'.list
 have hnewsl:=hnews.length
 have hnewsz:news.length=m * i.size:=by rw [hnewsl,hl2,hisz]
 have hnc':∀ (j:Nat) u,news[j]? = some u→w.cell? ((⟨s2,o2,none⟩:Addr).add j)=some u:=fun j u hu=>by rw [Addr.add_lit];exact hnc j u hu
 have hnl':l.length+l2.length=(n+m) * (sz+1):=by rw [hl,hl2,yb4]
 have h63:n+m≤9223372036854775807:=by simp only [maxLen] at hmax;omega
 have hgc:n+m≤grownCap w (n+m) n e∧grownCap w (n+m) n e≤maxLen:=⟨grownCap_ge w _ _ e,grownCap_le_maxLen w _ _ e hmax⟩
 have hxd:Ext g w g w.drew:=⟨yax _,fun _ _ h=>h,fun _ h=>h,fun _ _=>rfl,fun _ _=>.inl rfl,fun _ _ _ h=>h,rfl,rfl,rfl,(by first|exact yax _|exact yca _|(simp;done)),yax _,fun _ _ _=>rfl,fun _ ds _ _ hb=>⟨ds,hb,rfl,fun _ _=>rfl⟩⟩
 have hHd:HRel g w.drew hp:=hH.keepAll hxd fun _ _=>rfl
 have fin:∀ (xs:List Value),LRel g w l xs→∃ g',HRel g' (w.drew.alloc (.cells (xs.toArray++news.toArray++Builtin.zeroCells zv.cells (grownCap w (n+m) n e-(n+m))) e)) hp ∧
   VRel g' (w.drew.alloc (.cells (xs.toArray++news.toArray++Builtin.zeroCells zv.cells (grownCap w (n+m) n e-(n+m))) e)) (.sl none (n+m) (l++l2)) (.slice (some ⟨w.heap.size,0,none⟩) (n+m) (grownCap w (n+m) n e))∧Ext g w g' (w.drew.alloc (.cells (xs.toArray++news.toArray++Builtin.zeroCells zv.cells (grownCap w (n+m) n e-(n+m))) e)):=by
  intro xs hxs
  have hrel:LRel g w.drew (l++l2) (xs++news):=(ycb hxd _ _ hxs).append (ycb hxd _ _ hnews)
  refine ⟨g,hHd.fresh _,?_,hxd.trans (Ext.fresh g w.drew _)⟩
  simp only [VRel]
  refine ⟨_,_,rfl,hgc.1,.inr ⟨w.heap.size,0,rfl,ydk fun j v hj=>?_⟩,fun t h=>by cases h⟩
  obtain ⟨c,q1,q2⟩:=(ycb (Ext.fresh g w.drew _) _ _ hrel).get hj
  refine ⟨c,cell_iff.2 ⟨_,e,_,heap_alloc_new w.drew _,?_⟩,q2,fun ho=>absurd (hHd.lt _ _ ho) (yc7 _)⟩
  have hlt:=(yac.1 q1).1
  rw [ybr,Array.getElem?_append_left (by simpa using hlt),← ybw]
  simpa using q1
 have hexec:∀ c w',(Builtin.append_ #[t,t] o.type #[a.eval x,.slice (some ⟨s2,o2,none⟩) m cap2]).run P w=.ok c w'→(execOp a.eval o).run P w=.ok (.value c) w':=by
  intro c w' h2
  simp [execOp,ho,resolve,invoke,builtin,hc2,h2]
 by_cases hln:l=[]
 ·subst hln
  have hn0:n=0:=by
   rcases yc1 n with h|h
   ·exact h
   ·have:=ycw h (show 0<sz+1 by omega)
    simp at hl
    omega
  subst hn0
  cases A with
  | none =>
    have hrun:=run_append_nil (P:=P) w t o.type e i zv e1 f2 hiz ⟨s2,o2,none⟩ m cap2 news hnewsz hnc' hm0 (by omega) (by rw [f5] at hbytes;simp only [ybr] at hbytes;omega)
    obtain ⟨g',r1,r2,r3⟩:=fin [] (by simp [LRel])
    refine ⟨_,g',_,hexec _ _ (by rw [hc];exact hrun),?_,?_,?_⟩
    ·simpa using r1
    ·simpa using r2
    ·simpa using r3
  | some p =>
    have hrun:=run_append_grow (P:=P) w t o.type e i zv e1 f2 hiz p 0 0 [] (by simp) (by simp) ⟨s2,o2,none⟩ m cap2 news hnewsz hnc' (by omega) (by omega) (growslice_fits (by omega) (by rw [← f5];exact hbytes))
    obtain ⟨g',r1,r2,r3⟩:=fin [] (by simp [LRel])
    exact ⟨_,g',_,hexec _ _ (by rw [hc];exact hrun),r1,r2,r3⟩
 ·obtain ⟨b,o',rfl,hm'⟩:=hm.resolve_left hln
  obtain ⟨xs,hxs,hxc⟩:=hm'.list
  have hxl:=hxs.length
  have hrun:=run_append_grow (P:=P) w t o.type e i zv e1 f2 hiz ⟨b,o',none⟩ n n xs (by rw [hxl,hl,hisz]) (fun j u hu=>by rw [Addr.add_lit];exact hxc j u hu) ⟨s2,o2,none⟩ m cap2 news hnewsz hnc' (by omega) (by omega) (growslice_fits (by omega) (by rw [← f5];exact hbytes))
  obtain ⟨g',r1,r2,r3⟩:=fin xs hxs
  exact ⟨_,g',_,hexec _ _ (by rw [hc];exact hrun),r1,r2,r3⟩
theorem zgj [Glob] (hT:TOk P T) {t e:TypeId} {x y:Operand} {ti ei:TI} {l2:List AV} {v:AV} {n:Nat} {l:List AV} (ho:o.op=.call { callee:=.builtin .append,args:=#[x,y],argTypes:=#[t,t] })
  (ht:T t=some ti) (hk:ti.kind=.sl e) (he:T e=some ei) (hx:ev env x=v) (hs:slOf v=some (n,l)) (hy:slOf (ev env y)=some (0,l2)):Step P N hp env o v hp:=by
 intro g w a hH hE
 have hr:=zar hE x
 rw [hx] at hr
 obtain ⟨A,cap,hc,hcap,hm⟩:=zc6 hr hs
 obtain ⟨A2,cap2,hc2,-,-⟩:=zc6 (zar hE y) hy
 obtain ⟨d,i0,e1,-,e3,-⟩:=zaj (hT _ _ ht)
 rw [hk] at e3
 have hd:d=.slice e:=by cases d <;> simp [tkOf] at e3;rw [e3]
 subst hd
 obtain ⟨d2,i,-,f2,-⟩:=zaj (hT _ _ he)
 have hrun:=zgq (P:=P) (w:=w) (t:=t) (ty:=o.type) e1 f2 (A:=A) (A2:=A2) (c2:=cap2) hcap
 exact ⟨.slice A n cap,g,w,by simp [execOp,ho,resolve,invoke,builtin,hc,hc2,hrun],hH,by rw [← hc];exact hr,ycl g w⟩
theorem sl_of_slOf {g:G} {w:World} {v:AV} {c:Value} {m:Nat} {l2:List AV} (h:VRel g w v c) (hs:slOf v=some (m,l2)):VRel g w (.sl none m l2) c:=by
 obtain ⟨A,cap,h1,h2,h3⟩:=zc6 h hs
 simp only [VRel]
 exact ⟨A,cap,h1,h2,h3,fun t e=>by cases e⟩
theorem st_append_t [Glob] (hT:TOk P T) {t e:TypeId} {x y:Operand} {ti ei:TI} {z:List AV} {k n m sz:Nat} {l l2:List AV} {L:Nat} (ho:o.op=.call { callee:=.builtin .append,args:=#[x,y],argTypes:=#[t,t] })
  (ht:T t=some ti) (hk:ti.kind=.sl e) (he:T e=some ei) (hez:ei.zero=some z) (hesz:ei.sz=sz+1) (hzl:z.length=ei.sz)
  (hx:ev env x=.sl (some k) n l) (hy:slOf (ev env y)=some (m,l2)) (hat:At hp k (.tok e (sz+1) L)) (hL:L=l.length) (h1:zcd l2=true) (hl2:l2.length=m * (sz+1))
  (hbytes:(n+m) * ei.bytes≤140737488355328) (hmax:n+m≤maxLen) (hput:Put hp k (.tok e (sz+1) (l.length+l2.length)) hp') :
  Step P N hp env o (.sl (some k) (n+m) (l++l2)) hp':=by
 intro g w a hH hE
 subst hL
 have hr:=zar hE x
 rw [hx] at hr
 have hry:=sl_of_slOf (zar hE y) hy
 obtain ⟨c',g',w',h2,h3,h4,h5⟩:=append_core (ty:=o.type) hT hH ht hk he hez hesz hzl hat hr hry h1 hl2 hbytes hmax hput
 refine ⟨c',g',w',?_,h3,h4,h5⟩
 simp [execOp,ho,resolve,invoke,builtin,h2]
end
theorem HRel.newTokM [Glob] {g:G} {w:World} {hp:Hp} (h:HRel g w hp) (e:TypeId) (sz cap:Nat) (cs:Array Value) (hcs:cs.size=cap * sz) (hcap:cap≤maxLen) :
  ∃ g',g'.ok g.n∧g'.tk g.n=⟨0,sz,cap,some w.heap.size⟩∧HRel g' (w.alloc (.cells cs e)) ⟨hp.base,hp.k+1,hp.loc++[.tok e sz 0]⟩∧Ext g w g' (w.alloc (.cells cs e)):=by
 let g':G:={ n:=g.n+1,blk:=g.blk,tk:=fun i=>if i=g.n then ⟨0,sz,cap,some w.heap.size⟩ else g.tk i,own:=fun b o=>g.own b o∨b=w.heap.size,pend:=g.pend }
 have hok:∀ i,g.ok i→g'.ok i:=fun i hi=>⟨Nat.lt_succ_of_lt hi.1,hi.2⟩
 have htk':∀ i,i<g.n→g'.tk i=g.tk i:=fun i hi=>by
  show (if i=g.n then _ else _)=_
  rw [if_neg (by omega)]
 have htk:g'.tk g.n=⟨0,sz,cap,some w.heap.size⟩:=by show (if g.n=g.n then _ else _)=_;rw [if_pos rfl]
 have hold:∀ b,b<w.heap.size→(w.alloc (.cells cs e)).heap[b]? = w.heap[b]? := fun b hb=>hao w _ hb
 have hsz:(w.alloc (.cells cs e)).heap.size=w.heap.size+1:=by show (w.heap.push _).size=_;rw [Array.size_push]
 have hx:Ext g w g' (w.alloc (.cells cs e)):=by
  refine ⟨yca _,fun _ _ h=>h,hok,fun i hi=>rfl,fun i hi=>.inl (htk' i hi.1),fun b o hb ho=>?_,rfl,rfl,rfl,(by first|exact yax _|exact yca _|(simp;done)),?_,fun b hb _=>hold b hb,fun b ds u fz hb=>⟨ds,?_,rfl,fun _ _=>rfl⟩⟩
  ·rcases ho with ho|ho
   ·exact ho
   ·omega
  ·show w.heap.size≤(w.alloc (.cells cs e)).heap.size
   rw [hsz];omega
  ·rw [hold _ (zbc hb),hb]
 have hokn:g'.ok g.n:=⟨Nat.lt_succ_self _,fun hp'=>yc7 g.n (by have:=(yac.1 (h.pend _ hp')).1;rw [zbe h] at this;exact this)⟩
 have hall:(⟨hp.base,hp.k+1,hp.loc++[.tok e sz 0]⟩:Hp).all=hp.all++[.tok e sz 0]:=by simp [Hp.all]
 have hlen:=zbe h
 refine ⟨g',hokn,htk,⟨?_,by simp [h.k],?_,?_,?_,?_,fun p hp'=>yc4 hx _ _ _ (h.glob p hp')⟩,hx⟩
 ·show g.n+1=_
  rw [h.n];simp [ydf]
 ·intro i C hi
  rw [hall] at hi
  rcases yag i hp.all.length with hlt|hge
  ·rw [yaj hlt] at hi
   have hC:=h.rel i C hi
   exact hC.keep hx (at_ok h hi) (fun b hb=>hold b (hC.loc_lt hb)) (htk' i (by omega)) (fun _ _ _ ho=>.inl ho)
  ·rw [yam hge] at hi
   have:i=hp.all.length:=by
    have:=(yac.1 hi).1
    simp at this;omega
   subst this
   simp at hi
   subst hi
   rw [hlen]
   refine ⟨by rw [htk],by rw [htk],.inr ⟨w.heap.size,cs,by rw [htk],heap_alloc_new w _,by rw [htk];exact hcs,by rw [htk];exact hcap,yah _,fun o _=>.inr rfl⟩⟩
 ·rintro b o (ho|ho)
  ·have:=h.lt b o ho
   rw [hsz];omega
  ·rw [hsz];omega
 ·intro i hi
  have:=h.pend i hi
  rw [hall,yaj (yac.1 this).1,this]
 ·intro i j C D b hi hj hbi hbj
  rw [hall] at hi hj
  have key:∀ (i:Nat) (C:Blk) (b:Nat),(hp.all++[.tok e sz 0])[i]? = some C→locs g' i C=some b →
    (i<hp.all.length∧hp.all[i]? = some C∧locs g i C=some b∧b<w.heap.size)∨(i=hp.all.length∧b=w.heap.size):=by
   intro i C b hi hb
   rcases yag i hp.all.length with hlt|hge
   ·rw [yaj hlt] at hi
    rw [zde hx (at_ok h hi) (htk' i (by omega))] at hb
    exact .inl ⟨hlt,hi,hb,(h.rel i C hi).loc_lt hb⟩
   ·rw [yam hge] at hi
    have:i=hp.all.length:=by
     have:=(yac.1 hi).1
     simp at this;omega
    subst this
    simp at hi
    subst hi
    refine .inr ⟨rfl,?_⟩
    simp only [locs] at hb
    rw [hlen,htk,yad] at hb
    exact hb.symm
  rcases key i C b hi hbi with ⟨h1,h2,h3,h4⟩|⟨h1,h2⟩ <;> rcases key j D b hj hbj with ⟨k1,k2,k3,k4⟩|⟨k1,k2⟩
  ·exact h.inj i j C D b h2 k2 h3 k3
  ·omega
  ·omega
  ·omega
section
variable {P:Program} {N:FN} {env:Env} {hp hp':Hp} {o:Oper} {T:TypeId→Option TI}
theorem make_run0 [Glob] (hT:TOk P T) {t e:TypeId} {x y:Operand} {ti ei:TI} {k k':IntKind} {n:Nat} {z:List AV} {g:G} {w:World} {a:Act} (hE:ERel N g w env a) (ho:o.op=.makeSlice t x y) (ht:T t=some ti) (hk:ti.kind=.sl e) (he:T e=some ei) (hz:ei.zero=some z) (hzl:z.length=ei.sz)
  (hx:ev env x=.int k 0) (hy:ev env y=.int k' (n:Int)) (hn:(n:Int)≤9223372036854775807) (hb:n * ei.bytes≤281474976710656) :
  ∃ cs:Array Value,(execOp a.eval o).run P w=.ok (.value (.slice (some ⟨w.heap.size,0,none⟩) 0 n)) (w.alloc (.cells cs e))∧cs.size=n * ei.sz:=by
 have hrx:=zar hE x
 rw [hx] at hrx
 have hry:=zar hE y
 rw [hy] at hry
 simp only [VRel] at hrx hry
 obtain ⟨d,i0,e1,-,e3,-⟩:=zaj (hT _ _ ht)
 rw [hk] at e3
 have hd:d=.slice e:=by cases d <;> simp [tkOf] at e3;rw [e3]
 subst hd
 obtain ⟨d2,i,-,f2,-,f4,f5,f6⟩:=zaj (hT _ _ he)
 rw [hz] at f6
 cases hiz:i.zero with
 | none=>rw [hiz] at f6;cases f6
 | some zv =>
 rw [hiz] at f6
 simp only [ybb,yad] at f6
 have hzs:zv.cells.size=i.size:=by
  have:(zv.cells.toList.map av1).length=i.size:=by rw [← f6,hzl,f4]
  simpa using this
 have hw:IntKind.i64.wrap (n:Int)=n:=IntWalk.i64_in _ ⟨by omega,by omega⟩
 have hw0:IntKind.i64.wrap (0:Int)=0:=IntWalk.i64_in _ ⟨by omega,by omega⟩
 have hbn:¬ (281474976710656<(i.bytes:Int) * (n:Int)):=by
  rw [← f5]
  have:((n * ei.bytes:Nat):Int)≤281474976710656:=by omega
  rw [Int.natCast_mul,Int.mul_comm] at this
  omega
 have hn0:¬ ((n:Int)<0):=by omega
 have hr0:Array.range 0=(#[]:Array Nat):=rfl
 by_cases h0:n * i.size=0
 ·refine ⟨#[],?_,?_⟩
  ·simp [execOp,ho,hrx,hry,Instr.makeSlice,run_underlying e1,asInt,asIntOf,typeInfo,f2,hw,hw0,hbn,za2 f2,h0,newRow,hn0,hr0]
  ·rw [f4,h0];rfl
 ·refine ⟨(Array.range (n * i.size)).map fun j=>zv.cells[j % zv.cells.size]!,?_,by simp [f4]⟩
  rw [hzs]
  simp [execOp,ho,hrx,hry,Instr.makeSlice,run_underlying e1,asInt,asIntOf,typeInfo,f2,hw,hw0,hbn,za2 f2,h0,newRow,zeroValue,hiz,hzs,hn0]
theorem st_makeC [Glob] (hT:TOk P T) {base loc:Heap} {q:Nat} {t e:TypeId} {x y:Operand} {ti ei:TI} {k k':IntKind} {n:Nat} {z:List AV} (ho:o.op=.makeSlice t x y) (ht:T t=some ti) (hk:ti.kind=.sl e) (he:T e=some ei) (hz:ei.zero=some z) (hzl:z.length=ei.sz)
  (hx:ev env x=.int k 0) (hy:ev env y=.int k' (n:Int)) (hn:(n:Int)≤9223372036854775807) (hb:n * ei.bytes≤281474976710656):Step P N ⟨base,q,loc⟩ env o (.sl (some (base.length+q)) 0 []) ⟨base,q+1,loc++[.tok e ei.sz 0]⟩:=by
 intro g w a hH hE
 obtain ⟨cs,h1,h2⟩:=make_run0 hT hE ho ht hk he hz hzl hx hy hn hb
 obtain ⟨g',e1,e2,e3,e4⟩:=hH.newTokM e ei.sz n cs h2 (by unfold maxLen;omega)
 refine ⟨_,g',_,h1,e3,?_,e4⟩
 have hn':=hH.n
 simp only at hn'
 simp only [VRel]
 refine ⟨_,_,rfl,yah _,.inl trivial,fun t ht=>?_⟩
 cases ht
 rw [← hn']
 refine ⟨e1,yah _,fun _=>?_⟩
 rw [e2]
 exact ⟨rfl,rfl,by simp⟩
end
end
section
def eqFs (eq:TypeId→AV→AV→Option Bool) (T:TypeId→Option TI) (l m:List AV):List (TypeId×Nat×Nat×Bool)→Option Bool
 | []=>some true
 | (ft,off,_,bl)::fs=>match bl with
   | true=>eqFs eq T l m fs
   | false=>match T ft with
     | some fi=>match dropC off l with
       | some l'=>match loadC fi l' with
         | some x=>match dropC off m with
           | some m'=>match loadC fi m' with
             | some y=>match eq ft x y with
               | some b=>match eqFs eq T l m fs with
                 | some c=>some (b&&c)
                 | none=>none
               | none=>none
             | none=>none
           | none=>none
         | none=>none
       | none=>none
     | none=>none
def eqV (kn:TypeId→Nat) (T:TypeId→Option TI):Nat→TypeId→AV→AV→Option Bool
 | 0,_,_,_=>none
 | n+1,t,x,y=>match T t with
   | some ti=>match ti.kind with
     | .int _=>match x,y with
       | .int k a,.int k' b=>match ikEq k k' with
         | true=>some (a==b)
         | false=>none
       | _,_=>none
     | .bool=>match x,y with
       | .bool a,.bool b=>some (a==b)
       | _,_=>none
     | .str=>match x,y with
       | .str a,.str b=>some (a.toList==b.toList)
       | _,_=>none
     | .st fs=>match kn t with
       | _+2=>match x,y with
         | .agg l,.agg m=>eqFs (eqV kn T n) T l m fs
         | _,_=>none
       | _=>none
     | _=>none
   | none=>none
section
variable {P:Program} {T:TypeId→Option TI} {kn:TypeId→Nat}
theorem eqFs_run (hT:TOk P T) {eq:TypeId→AV→AV→Option Bool} {d:Nat} {g:G} {w:World} (ih:∀ {t:TypeId} {x y:AV} {b:Bool} {c e:Value},eq t x y=some b→VRel g w x c→VRel g w y e→(Op.equalIn d t c e).run P w=.ok b w)
  {l m:List AV} {cs ds:Array Value} (hl:LRel g w l cs.toList) (hm:LRel g w m ds.toList):∀ {fs:List Field} {b:Bool},eqFs eq T l m (fs.map fun f=>(f.type,f.offset,isz P f.type,f.name == "_"))=some b→(Op.eqFields d cs ds fs).run P w=.ok b w
 | [],b,h=>by
   simp only [yde,eqFs,yad] at h;subst h
   simp [Op.eqFields]
 | f::fs,b,h=>by
   simp only [ybx,eqFs] at h
   split at h
   ·rename_i hb
    have hn:f.name = "_" := by simpa using hb
    simp only [Op.eqFields,hn,ne_eq,not_true_eq_false,if_false]
    exact eqFs_run hT ih hl hm h
   ·rename_i hb
    have hn:f.name ≠ "_" := by simpa using hb
    split at h
    case h_2=>cases h
    rename_i fi hfi
    split at h
    case h_2=>cases h
    rename_i l' hl'
    split at h
    case h_2=>cases h
    rename_i x hx
    split at h
    case h_2=>cases h
    rename_i m' hm'
    split at h
    case h_2=>cases h
    rename_i y hy
    split at h
    case h_2=>cases h
    rename_i b1 hb1
    split at h
    case h_2=>cases h
    rename_i b2 hb2
    simp only [yad] at h
    subst h
    obtain ⟨c,p1,p2⟩:=part_run (hT _ _ hfi) hl (zc0 _ _ _ hl').1 hx
    obtain ⟨e,p3,p4⟩:=part_run (hT _ _ hfi) hm (zc0 _ _ _ hm').1 hy
    have hr:=ih hb1 p2 p4
    have hrest:=eqFs_run hT ih hl hm hb2
    simp only [Op.eqFields]
    rw [if_pos hn]
    simp only [Sem.run_bind,p1,Result.andThen_ok,p3,hr]
    cases b1 with
    | true=>simpa using hrest
    | false=>simp
theorem eqV_run (hT:TOk P T) (hk:∀ t n,kn t=n+2→P.stoodInHeld t=false∧P.eqGuardType P.depth t=false):∀ (n d:Nat),n≤d→∀ {g:G} {w:World} {t:TypeId} {x y:AV} {b:Bool} {c e:Value},eqV kn T n t x y=some b→VRel g w x c→VRel g w y e→(Op.equalIn d t c e).run P w=.ok b w
 | 0,_,_,_,_,_,_,_,_,_,_,h,_,_=>by cases h
 | n+1,0,h0,_,_,_,_,_,_,_,_,_,_,_=>by omega
 | n+1,d+1,h0,g,w,t,x,y,b,c,e,h,hx,hy=>by
   simp only [eqV] at h
   split at h
   case h_2=>cases h
   rename_i ti ht
   obtain ⟨dd,i,e1,e2,e3,-⟩:=zaj (hT _ _ ht)
   split at h
   ·rename_i k0 hkd
    rw [hkd] at e3
    have hd:dd=.int k0:=by cases dd <;> simp [tkOf] at e3;rw [e3]
    subst hd
    split at h
    ·rename_i k a k' b'
     split at h
     ·rename_i hke
      obtain rfl:=zc4 hke
      simp only [yad] at h;subst h
      simp only [VRel] at hx hy
      subst hx hy
      simp [Op.equalIn,run_underlying e1]
     ·cases h
    ·cases h
   ·rename_i hkd
    rw [hkd] at e3
    have hd:dd=.bool:=by cases dd <;> simp [tkOf] at e3;rfl
    subst hd
    split at h
    ·simp only [yad] at h;subst h
     simp only [VRel] at hx hy
     subst hx hy
     simp [Op.equalIn,run_underlying e1]
    ·cases h
   ·rename_i hkd
    rw [hkd] at e3
    have hd:dd=.string:=by cases dd <;> simp [tkOf] at e3;rfl
    subst hd
    split at h
    ·simp only [yad] at h;subst h
     simp only [VRel] at hx hy
     subst hx hy
     simp [Op.equalIn,run_underlying e1,beq_toListBytes]
    ·cases h
   ·rename_i fs hkd
    rw [hkd] at e3
    obtain ⟨fields,rfl,hfs⟩:=zcb e3
    split at h
    ·rename_i q hq
     obtain ⟨s1,-⟩:=hk t q hq
     split at h
     ·rename_i l m
      simp only [VRel] at hx hy
      obtain ⟨cs,rfl,hl⟩:=hx
      obtain ⟨ds,rfl,hm⟩:=hy
      have hfo:P.fieldsOf t=fields:=by simp [Program.fieldsOf,e1]
      rw [run_equalIn_struct w d t cs ds (by rw [hfo];exact e1) s1,hfo]
      rw [hfs] at h
      exact eqFs_run hT (fun h1 h2 h3=>eqV_run hT hk n d (by omega) h1 h2 h3) hl hm h
     ·cases h
    ·cases h
   ·cases h
variable {N:FN} {env:Env} {hp:Hp} {o:Oper}
theorem st_eqAgg [Glob] (hT:TOk P T) (hk:∀ t n,kn t=n+2→P.stoodInHeld t=false∧P.eqGuardType P.depth t=false) {op:BinOp} {t u:TypeId} {x y:Operand} {l m:List AV} {b:Bool} {q:Nat} (hop:op=.eql∨op=.neq) (ho:o.op=.binOp op t x y u)
  (hx:ev env x=.agg l) (hy:ev env y=.agg m) (hq:kn t=q+2) (hv:eqV kn T 20 t (.agg l) (.agg m)=some b):Step P N hp env o (.bool (match op with
    | .neq=>!b
    | _=>b)) hp :=
 ybf fun g w a _ hE=>by
  have h1:=zar hE x
  have h2:=zar hE y
  rw [hx] at h1
  rw [hy] at h2
  have hr:=eqV_run hT hk 20 9999 (by omega) hv h1 h2
  have hr':(Op.equal t (a.eval x) (a.eval y)).run P w=.ok b w:=eqV_run hT hk 20 10000 (by omega) hv h1 h2
  simp only [VRel] at h1 h2
  obtain ⟨cs,hc,-⟩:=h1
  obtain ⟨ds,hd,-⟩:=h2
  have hg:(eqGuard op t x y (a.eval x) (a.eval y)).run P w=.ok () w:=by
   rw [hc,hd]
   rcases hop with rfl|rfl <;> simp [eqGuard,(hk t q hq).2]
  rw [hc,hd] at hr' hg
  unfold execOp
  simp only [ho,hc,hd]
  rcases hop with rfl|rfl
  ·refine ⟨.bool b,?_,by simp [VRel]⟩
   have:binOp .eql t (.agg cs) (.agg ds)=(do pure (.bool (← Op.equal t (.agg cs) (.agg ds)))):=rfl
   rw [this]
   simp [hg,hr']
  ·refine ⟨.bool (!b),?_,by simp [VRel]⟩
   have:binOp .neq t (.agg cs) (.agg ds)=(do pure (.bool (!(← Op.equal t (.agg cs) (.agg ds))))):=rfl
   rw [this]
   simp [hg,hr']
end
end
section
section
variable {g:G} {w:World} {hp:Hp} {P:Program} {N:FN} {env:Env} {o:Oper} {T:TypeId→Option TI}
theorem st_makeMap [Glob] {base loc:Heap} {q:Nat} {t:TypeId} (ho:o.op=.makeMap t none):Step P N ⟨base,q,loc⟩ env o (.mp (base.length+q)) ⟨base,q+1,loc++[.mp [] []]⟩:=by
 intro g w a hH hE
 obtain ⟨g',e1,e2,e3,e4⟩:=hH.newMap
 refine ⟨.map (some w.heap.size),g',w.alloc (.map #[] 0),?_,e3,?_,e4⟩
 ·simp [execOp,ho,Instr.makeMap]
 ·simp only [VRel]
  have hn':=hH.n
  simp only at hn'
  exact ⟨by rw [← hn'];exact e1,by rw [← hn',e2]⟩
theorem bytes_beq (a b:ByteArray):(a=b→(a==b)=true)∧(¬a=b→(a==b)=false):=by
 first
 | (refine ⟨fun h=>by simp [h],fun h=>by simp [h]⟩;done)
 | (obtain ⟨x⟩:=a;obtain ⟨y⟩:=b
    refine ⟨fun h=>?_,fun h=>?_⟩
    ·cases h;show (x==x)=true;simp
    ·show (x==y)=false
     have:x≠y:=fun e=>h (by rw [e])
     simpa using this)
def MapAt (hp:Hp) (m:AV) (ks vs:List AV):Prop:=(∃ i,m=.mp i∧At hp i (.mp ks vs))∨m=.rmp ks vs
theorem mapAt_rel [Glob] (hH:HRel g w hp) {m:AV} {ks vs:List AV} {c:Value} (hm:MapAt hp m ks vs) (hv:VRel g w m c) :
  ∃ b es clk,c=.map (some b)∧w.heap[b]? = some (.map es clk)∧LRel g w ks (es.toList.map (·.key))∧LRel g w vs (es.toList.map (·.val)):=by
 rcases hm with ⟨i,rfl,ha⟩|rfl
 ·simp only [VRel] at hv
  obtain ⟨-,rfl⟩:=hv
  obtain ⟨es,clk,h1,-,h2,h3,-⟩:=hH.rel _ _ ha
  exact ⟨_,es,clk,rfl,h1,h2,h3⟩
 ·simp only [VRel] at hv
  obtain ⟨b,es,clk,rfl,h1,-,-,h2,h3⟩:=hv
  exact ⟨b,es,clk,rfl,h1,h2,h3⟩
end
end
section
section
variable {P:Program} {N:FN} {env:Env} {hp:Hp}
def VYield [Glob] (P:Program) (i:Nat) (as:List AV) (H:Heap) (R:AV→Heap→Prop):Prop :=
 ∀ (g:G) (w:World) (asv:Array Value),HRel g w (Hp.of H)→LRel g w as asv.toList→g.ok i →
  ∃ f tmps assign body,(Instr.yield (g.blk i) asv).run P w=.ok (.round (g.blk i) f tmps assign body) w ∧
   RoundIn (FR none) 0 P (g.blk i) f tmps assign body w fun e w'=>∃ r H' g' c,e=.returned c∧R r H'∧HRel g' w' (Hp.of H')∧VRel g' w' r c∧Ext g w g' w'
def VFn [Glob] (P:Program):Fn→List AV→Heap→(AV→Heap→Prop)→Prop
 | .func F,as,H,R=>VCall P F as H R
 | .yield i,as,H,R=>VYield P i as H R
 | _,_,_,_=>False
theorem VFn.some [Glob] {fn:Fn} {as:List AV} {H:Heap} {R:AV→Heap→Prop} (h:VFn P fn as H R) {g:G} {w:World} {asv:Array Value} (hH:HRel g w (Hp.of H)) (hl:LRel g w as asv.toList) (hok:fnOk g fn):∃ r H',R r H':=by
 cases fn with
 | func F =>
   obtain ⟨e,w',fr,⟨r,H',g',c,-,hR,-⟩,-⟩:=h.2 g w asv hH hl []
   exact ⟨r,H',hR⟩
 | yield i =>
   obtain ⟨f,tmps,assign,body,-,h2⟩:=h g w asv hH hl hok
   obtain ⟨e,w',⟨r,H',g',c,-,hR,-⟩,-⟩:=h2.2 default [] (FR_room _ _)
   exact ⟨r,H',hR⟩
 | _=>exact h.elim
def zfq:List Tmp→List AV→Env→Env
 | p::ps,v::vs,env=>zfq ps vs ((p,v)::env)
 | _,_,env=>env
theorem par_rel {g:G} {w:World} {N:Nat}:∀ (ps:List Tmp) (vs:List AV) (cs:List Value) (env:Env) (tmps:Array Value),(∀ p∈ps,p<N)→tmps.size=N→LRel g w vs cs →
  (∀ s,VRel g w (get env s) (tmps.getD s undef)) →
  ((ps.zip cs).foldl (fun t x=>t.setIfInBounds x.1 x.2) tmps).size=N∧∀ s,VRel g w (get (zfq ps vs env) s) (((ps.zip cs).foldl (fun t x=>t.setIfInBounds x.1 x.2) tmps).getD s undef)
 | [],vs,cs,env,tmps,_,hs,_,h=>by simpa [zfq,hs] using h
 | p::ps,[],cs,env,tmps,_,hs,hl,h=>by
   simp only [LRel] at hl
   subst hl
   simpa [zfq,hs] using h
 | p::ps,v::vs,cs,env,tmps,hp,hs,hl,h=>by
   simp only [LRel] at hl
   obtain ⟨c,r,rfl,h1,h2⟩:=hl
   simp only [zfq,List.zip_cons_cons,ydi]
   refine par_rel ps vs r _ _ (fun q hq=>hp q (ya4 _ hq)) (by simpa using hs) h2 (fun s=>?_)
   have hpN:=hp p (ybc ..)
   by_cases hps:p=s
   ·subst hps
    rw [zb3]
    have:(tmps.setIfInBounds p c).getD p undef=c:=by simp [Array.getD,hs,hpN]
    rw [this];exact h1
   ·rw [zch _ _ hps]
    have:(tmps.setIfInBounds p c).getD s undef=tmps.getD s undef:=by
     simp [yb2 hps]
    rw [this];exact h s
inductive RndEx:Exit→Option Code→Bool→LoopState→Prop where
 | normal:RndEx .normal none true .ready
 | ret:RndEx .ret (some .ret) false .done
 | exit (id:Nat):RndEx (.exit id) (some (.exit id)) false .done
structure RndEnd (H:Heap) (i:Nat) (env:Env) (L:LCode) (R:AV→Heap→Prop) (e:Exit) (base:Heap):Prop where
 h:∃ jp jp' b st base',RndEx e jp' b st∧base[i]? = some (.loop .busy jp env L)∧base.set i (.loop st jp' env L)=base'∧base.length=H.length ∧
  (∀ (j:Nat) B,base'[j]? = some B→H[j]? = some B∨B.below H.length)∧R (.bool b) base'
theorem put_hp {hp:Hp} {i:Nat} {B B':Blk} (h:hp.base[i]? = some B'):Put hp i B ⟨hp.base.set i B,hp.k,hp.loc⟩:=by
 obtain ⟨base,k,loc⟩:=hp
 exact zd1 h
theorem at_hp {hp:Hp} {i:Nat} {B:Blk} (h:hp.base[i]? = some B):At hp i B:=by
 obtain ⟨base,k,loc⟩:=hp
 exact zdg h
theorem HRel.setLoop [Glob] {g:G} {w:World} {hp hp':Hp} {i:Nat} {st st':LoopState} {jp jp':Option Code} {env:Env} {L:LCode} (h:HRel g w hp) (ha:At hp i (.loop st jp env L)) (hput:Put hp i (.loop st' jp' env L) hp') :
  ∃ r:Loop,w.heap[g.blk i]? = some (.loop r)∧r.state=st∧r.pending=jp∧HRel g (w.putObj (g.blk i) (.loop { r with state:=st',pending:=jp' })) hp'∧Ext g w g (w.putObj (g.blk i) (.loop { r with state:=st',pending:=jp' })):=by
 obtain ⟨⟨r,h1,h2,h3,h4,h5,h6,h7,h8⟩,h9⟩:=h.rel i _ ha
 refine ⟨r,h1,h2,h3,?_⟩
 refine h.setObj ha rfl rfl h1 (fun _ _ _ e=>by cases e) h9 hput fun hx=>?_
 exact ⟨⟨{ r with state:=st',pending:=jp' },World.putObj_heap_same (zbc h1),rfl,rfl,h4,h5,h6,h7,fun s=>ycx hx _ _ (h8 s)⟩,h9⟩
theorem vround [Glob] {i:Nat} {H:Heap} {jp0:Option Code} {env:Env} {L:LCode} {as:List AV} {R:AV→Heap→Prop} (hi:H[i]? = some (.loop .ready jp0 env L)) (hps:∀ p∈L.ps.toList,p<L.N) (hlen:as.length=L.ps.size)
  (h:VW P ⟨L.N,some i⟩ L.assign (fun e env1 hp1=>e=.normal∧∃ jp,hp1.base[i]? = some (.loop .ready jp env L)∧VW P ⟨L.N,some i⟩ L.body (fun e _ hp3=>RndEnd H i env L R e hp3.base) env1 ⟨hp1.base.set i (.loop .busy jp env L),hp1.k,hp1.loc⟩) (zfq L.ps.toList as env) (Hp.of H)):VYield P i as H R:=by
 intro g w asv hH hl hok
 have ha:At (Hp.of H) i (.loop .ready jp0 env L):=by simpa [At,Hp.all,Hp.of] using hi
 obtain ⟨⟨r,h1,h2,h3,h4,h5,h6,h7,h8⟩,h9⟩:=hH.rel i _ ha
 have hasz:asv.size=r.params.size:=by
  have:=hl.length
  simp only [ych] at this
  rw [this,hlen,h4]
 refine ⟨_,_,_,_,run_yield h1 hasz,?_⟩
 have hfold:(r.params.zip asv).foldl (fun tmps (x:Tmp×Value)=>tmps.setIfInBounds x.1 x.2) r.tmps=(L.ps.toList.zip asv.toList).foldl (fun t x=>t.setIfInBounds x.1 x.2) r.tmps:=by
  rw [← Array.foldl_toList,Array.toList_zip,h4]
 have hpar:=par_rel L.ps.toList as asv.toList env r.tmps hps h7 hl h8
 rw [← hfold] at hpar
 have hE:ERel ⟨L.N,some i⟩ g w (zfq L.ps.toList as env) { tmps:=(r.params.zip asv).foldl (fun tmps (x:Tmp×Value)=>tmps.setIfInBounds x.1 x.2) r.tmps,defers:=[] } :=
  ⟨hpar.1,hpar.2,fun j hj=>by cases hj;exact hok,hH.glob⟩
 refine roundIn_of_wpIn (F:=FR none) trivial ?_
 rw [h5,h6]
 refine Code.wpIn_mono ?_ (h g w _ hH hE)
 rintro e a1 w1 ⟨env1,hp1,g1,⟨rfl,jp1,hb1,hbody⟩,hH1,hE1,hx1,-⟩
 obtain ⟨r1,q1,q2,q3,hH2,hx2⟩:=hH1.setLoop (st':=.busy) (jp':=jp1) (at_hp hb1) (put_hp hb1)
 have hbi:g1.blk i=g.blk i:=hx1.blk i hok
 rw [hbi] at q1
 have hrb:=run_beginRound (P:=P) q1 q2
 have er1:({ r1 with state:=.busy,pending:=jp1 }:Loop)={ r1 with state:=.busy }:=by rw [← q3]
 rw [er1,hbi] at hH2 hx2
 refine ⟨_,hrb,?_⟩
 have hE2:ERel ⟨L.N,some i⟩ g1 (w1.putObj (g.blk i) (.loop { r1 with state:=.busy })) env1 a1:=hE1.ext hx2
 have hb:=hbody g1 _ a1 hH2 hE2
 have hfo:(⟨L.N,some i⟩:FN).fo g1=some (g.blk i):=by simp [FN.fo,hbi]
 rw [hfo] at hb
 refine Code.wpIn_mono ?_ hb
 rintro e a3 w3 ⟨env3,hp3,g3,⟨jp3,jp',b,st,base',hex,hb3,hset,hl3,hlow,hR⟩,hH3,hE3,hx3,-⟩
 have hx13:=(hx1.trans hx2).trans hx3
 have hbi3:g3.blk i=g.blk i:=hx13.blk i hok
 obtain ⟨r3,p1,p2,p3,hH4,hx4⟩:=hH3.setLoop (st':=st) (jp':=jp') (at_hp hb3) (put_hp hb3)
 rw [hbi3] at p1 hH4 hx4
 rw [hset] at hH4
 have hcut:=HRel.cutBase (hp:=⟨base',hp3.k,hp3.loc⟩) hH hH4 (by simp only [← hset,List.length_set];exact hl3) hlow
 have hgn:g.n=H.length:=by rw [hH.n];simp [Hp.of]
 have hfin:∀ v,v=Value.bool b→∃ r H' g' c,Ending.returned v=.returned c∧R r H'∧HRel g' (w3.putObj (g.blk i) (.loop { r3 with state:=st,pending:=jp' })) (Hp.of H')∧VRel g' (w3.putObj (g.blk i) (.loop { r3 with state:=st,pending:=jp' })) r c∧Ext g w g' (w3.putObj (g.blk i) (.loop { r3 with state:=st,pending:=jp' })):=by
  rintro v rfl
  exact ⟨.bool b,base',g3.cut H.length,.bool b,rfl,hR,hcut,by simp [VRel],(hx13.trans hx4).cut (by omega)⟩
 cases hex with
 | normal=>exact ⟨_,_,run_endRound none p1,hfin _ rfl⟩
 | ret=>exact ⟨_,_,run_endRound (some .ret) p1,hfin _ rfl⟩
 | exit id=>exact ⟨_,_,run_endRound (some (.exit id)) p1,hfin _ rfl⟩
theorem HRel.kill [Glob] {g:G} {w:World} {hp hp':Hp} (h:HRel g w hp) {i:Nat} (hput:Put hp i .dead hp'):HRel g w hp':=by
 refine ⟨by rw [hput.base,hput.k,h.n],by rw [hput.loc,hput.k,h.k],fun j B hj=>?_,h.lt,fun j hj=>?_,fun j1 j2 B C b hj1 hj2 hb1 hb2=>?_,h.glob⟩
 ·rw [hput.all,yaw] at hj
  split at hj
  ·split at hj
   ·cases hj;trivial
   ·cases hj
  ·exact h.rel j B hj
 ·have hd:=h.pend j hj
  rw [hput.all,yaw]
  split
  ·subst_vars
   rw [if_pos (yac.1 hd).1]
  ·exact hd
 ·rw [hput.all,yaw] at hj1 hj2
  have key:∀ (j:Nat) (B:Blk),(if i=j then if i<hp.all.length then some Blk.dead else none else hp.all[j]?)=some B→locs g j B=some b→hp.all[j]? = some B:=by
   intro j B hj hb
   by_cases hij:i=j
   ·subst hij
    simp only [if_true] at hj
    split at hj
    ·cases hj;simp [locs] at hb
    ·cases hj
   ·rw [if_neg hij] at hj;exact hj
  exact h.inj j1 j2 B C b (key _ _ hj1 hb1) (key _ _ hj2 hb2) hb1 hb2
theorem zgk {w:World} (fn:FuncId) (tmps:Array Value) (ps:Array Tmp) (assign body:Code) {l0:Nat} {r0:Loop} (h0:w.heap[l0]? = some (.loop r0)) :
  (Instr.enterLoop fn tmps ps assign body (some l0)).run P w =
    .ok (w.heap.size,[]) (w.alloc (.loop { state:=.ready,pending:=none,fn,tmps,params:=ps,assign,body,defers:=r0.defers })):=by
 simp [Instr.enterLoop,run_getLoop h0]
def jumpQ (Q:Exit→Env→Hp→Prop) (env:Env) (hp:Hp):Option Code→Prop
 | none=>Q .normal env hp
 | some .ret=>Q .ret env hp
 | some (.exit id)=>Q (.exit id) env hp
 | _=>False
theorem vw_range [Glob] {Q:Exit→Env→Hp→Prop} {f:Operand} {gf:FuncId} {fs cs:List AV} {ps:Array Tmp} {assign body:Code} {R:AV→Heap→Prop} {benv:Env} (hf:ev env f=.clo (.func gf) fs cs) (hbe:∀ s,Wk (get env s) (get benv s))
  (hro:∀ i,N.r=some i→∃ st jp e L,At hp i (.loop st jp e L))
  (hc:VCall P gf ((fs++[.clo (.yield (hp.base.length+hp.k)) [] []])++cs) (hp.all++[.loop .ready none benv ⟨N.n,ps,assign,body⟩]) R)
  (h:∀ r H',R r H'→∃ hp2,(∀ g w,HRel g w ⟨hp.base,hp.k+1,hp.loc++[.loop .ready none benv ⟨N.n,ps,assign,body⟩]⟩→Sees ⟨hp.base,hp.k+1,hp.loc++[.loop .ready none benv ⟨N.n,ps,assign,body⟩]⟩ H' hp2) ∧
    ∃ st jp,At hp2 (hp.base.length+hp.k) (.loop st jp benv ⟨N.n,ps,assign,body⟩)∧st≠.busy∧∃ hp3 hp4,Put hp2 (hp.base.length+hp.k) (.loop .exhausted jp benv ⟨N.n,ps,assign,body⟩) hp3∧Put hp3 (hp.base.length+hp.k) .dead hp4∧jumpQ Q env hp4 jp) :
  VW P N (.rangeFunc f ps assign body) Q env hp:=by
 intro g w a hH hE
 have hn:=hH.n
 -- the record is laid
 have lay:∀ fn,∃ (l:Nat) (mk:List Deferred) (w1:World) (g1:G),(Instr.enterLoop fn a.tmps ps assign body (FR (N.fo g)).round).run P w=.ok (l,mk) w1 ∧
   g1.ok g.n∧g1.blk g.n=l∧HRel g1 w1 ⟨hp.base,hp.k+1,hp.loc++[.loop .ready none benv ⟨N.n,ps,assign,body⟩]⟩∧Ext g w g1 w1∧DRel w a.defers g1 w1 (mk++a.defers):=by
  intro fn
  have newL:∀ (w:World) (r0:Nat),HRel g w hp→ERel N g w env a→∃ g',g'.ok g.n∧g'.blk g.n=w.heap.size∧HRel g' (w.alloc (.loop { state:=.ready,pending:=none,fn,tmps:=a.tmps,params:=ps,assign,body,defers:=r0 })) ⟨hp.base,hp.k+1,hp.loc++[.loop .ready none benv ⟨N.n,ps,assign,body⟩]⟩ ∧
    Ext g w g' (w.alloc (.loop { state:=.ready,pending:=none,fn,tmps:=a.tmps,params:=ps,assign,body,defers:=r0 })):=fun w r0 hH hE =>
   hH.newObj (fun _ _=>rfl) fun g' _ hb ho hx=>⟨⟨_,by rw [hb];exact heap_alloc_new w _,rfl,rfl,rfl,rfl,rfl,hE.size,fun s=>ycx hx _ _ (hbe s _ _ _ (hE.rel s))⟩,fun o=>by rw [hb];exact ho o⟩
  cases hr:N.r with
  | none =>
    have hfo:N.fo g=none:=by simp [FN.fo,hr]
    rw [hfo]
    obtain ⟨g1,e1,e2,e3,e4⟩:=newL (w.alloc (.deferred (some []))) w.heap.size (hH.fresh _) (hE.ext (Ext.fresh g w _))
    have hsz:(w.alloc (.deferred (some []))).heap.size=w.heap.size+1:=by simp
    rw [hsz] at e2
    refine ⟨_,_,_,g1,run_enterLoop_outer fn a.tmps ps assign body,e1,e2,e3,(Ext.fresh g w _).trans e4,[w.heap.size],rfl,by simp,?_⟩
    intro r hr'
    simp only [yaz] at hr'
    subst hr'
    have hno:∀ o,¬ g.own w.heap.size o:=fun o ho=>yc7 _ (hH.lt _ o ho)
    refine ⟨yax _,?_,fun o ho=>hno o (e4.own _ o (by simp) ho)⟩
    rw [hao _ _ (by simp)]
    exact heap_alloc_new w _
  | some i =>
    obtain ⟨st,jp,e,L,hat⟩:=hro i hr
    obtain ⟨⟨r,h1,-⟩,-⟩:=hH.rel i _ hat
    have hfo:N.fo g=some (g.blk i):=by simp [FN.fo,hr]
    rw [hfo]
    obtain ⟨g1,e1,e2,e3,e4⟩:=newL w r.defers hH hE
    exact ⟨_,_,_,g1,zgk fn a.tmps ps assign body h1,e1,e2,e3,e4,yc3 _ _ _ _⟩
 refine wpIn_rangeFunc fun fn _=>?_
 obtain ⟨l,mk,w1,g1,hen,hok1,hbl1,hH1,hx1,hd1⟩:=lay fn
 have hr:=zar hE f
 rw [hf] at hr
 simp only [VRel] at hr
 obtain ⟨_,f',c',hfv,hfs,hcs⟩:=hr
 obtain ⟨⟨fd,q1,q2,q3⟩,hcall⟩:=hc
 have hfv':a.eval f=.func (.func gf) f' c':=hfv
 have hargs:LRel g1 w1 ((fs++[.clo (.yield (hp.base.length+hp.k)) [] []])++cs) (f'++#[Value.func (.yield l) #[] #[]]++c').toList:=by
  have:=(((ycb hx1 _ _ hfs).append (show LRel g1 w1 [.clo (.yield (hp.base.length+hp.k)) [] []] [Value.func (.yield l) #[] #[]] from by
   simp only [LRel,VRel,fnOk,fnCap,fnG]
   rw [← hn]
   exact ⟨_,_,rfl,⟨⟨hok1,trivial⟩,_,_,by rw [hbl1],rfl,rfl⟩,rfl⟩)).append (ycb hx1 _ _ hcs))
  simpa using this
 have hall:(⟨hp.base,hp.k+1,hp.loc++[.loop .ready none benv ⟨N.n,ps,assign,body⟩]⟩:Hp).all=hp.all++[.loop .ready none benv ⟨N.n,ps,assign,body⟩]:=by simp [Hp.all]
 have h2':fd.name ≠ "runtime.NumGoroutine" := by simpa using q2
 have h3':fd.body≠none:=by intro h0;simp [h0] at q3
 refine ⟨l,mk,w1,{ target:=.fn (.func gf) c',args:=f'++#[Value.func (.yield l) #[] #[]] },w1,gf,f'++#[Value.func (.yield l) #[] #[]]++c',w1,hen,?_,fun _ _=>trivial,?_,FR_depth _ _,?_⟩
 ·simp only [resolve]
  rw [hfv']
  simp [Deferred.ofValue,Act.eval]
 ·simp [invoke,callFunc,q1,h2',h3']
 ·refine calls_FR ((hcall g1 w1 _ (by rw [← hall];exact hH1.of) hargs).mono ?_)
  rintro e w2 ⟨r,H',g2,c,rfl,hR,hH2,hv,hx2⟩
  obtain ⟨hp2,hs,st,jp,hat,hst,hp3,hp4,hput,hput4,hj⟩:=h r H' hR
  have hH2':=hH2.see (hs g1 w1 hH1)
  obtain ⟨r2,p1,p2,p3,hH3,hx3⟩:=hH2'.setLoop hat hput
  have hidx:hp.base.length+hp.k=g.n:=hn.symm
  have hblk2:g2.blk (hp.base.length+hp.k)=l:=by rw [hidx,hx2.blk _ hok1,hbl1]
  rw [hblk2] at p1 hH3 hx3
  have er:({ r2 with state:=.exhausted,pending:=jp }:Loop)={ r2 with state:=.exhausted }:=by rw [← p3]
  rw [er] at hH3 hx3
  have hx:=(hx1.trans hx2).trans hx3
  have hH4:=hH3.kill hput4
  have hE4:ERel N g2 (w2.putObj l (.loop { r2 with state:=.exhausted })) env { a with defers:=mk++a.defers }:=by
   have:=hE.ext hx
   exact ⟨this.1,this.2,this.3,this.4⟩
  have hD:DRel w a.defers g2 (w2.putObj l (.loop { r2 with state:=.exhausted })) (mk++a.defers):=hd1.ext (hx2.trans hx3)
  refine ⟨jp,_,by rw [← p3];exact run_endLoop p1 (by rw [p2];exact hst),?_⟩
  cases jp with
  | none=>exact ⟨env,hp4,g2,hj,hH4,hE4,hx,hD⟩
  | some c =>
    cases c with
    | ret=>exact wpIn_ret ⟨env,hp4,g2,hj,hH4,hE4,hx,hD⟩
    | exit id=>exact wpIn_exit ⟨env,hp4,g2,hj,hH4,hE4,hx,hD⟩
    | _=>exact hj.elim
end
end
section
theorem BRel.loc_obj {g:G} {w:World} {i:Nat} {B:Blk} (h:BRel g w i B) {b:Nat} (hl:locs g i B=some b):∃ x,w.heap[b]? = some x∧∀ d,x≠.deferred d:=by
 cases B with
 | box t l =>
   obtain ⟨cs,h1,-⟩:=h
   simp only [locs,yad] at hl
   subst hl
   exact ⟨_,h1,by simp⟩
 | tok e sz len =>
   obtain ⟨-,-,h|⟨b',cs,h1,h2,-⟩⟩:=h
   ·simp [locs,h.1] at hl
   ·simp only [locs,h1,yad] at hl
    subst hl
    exact ⟨_,h2,by simp⟩
 | mp ks vs =>
   obtain ⟨es,clk,h1,-⟩:=h
   simp only [locs,yad] at hl
   subst hl
   exact ⟨_,h1,by simp⟩
 | loop st jp env L =>
   obtain ⟨⟨r,h1,-⟩,-⟩:=h
   simp only [locs,yad] at hl
   subst hl
   exact ⟨_,h1,by simp⟩
 | it src n seen =>
   obtain ⟨⟨b',a,h1,-⟩,-⟩:=h
   simp only [locs,yad] at hl
   subst hl
   exact ⟨_,h1,by simp⟩
 | vec e sz l =>
   obtain ⟨-,-,h|⟨b',cs,h1,h2,-⟩⟩:=h
   ·simp [locs,h.1] at hl
   ·simp only [locs,h1,yad] at hl
    subst hl
    exact ⟨_,h2,by simp⟩
 | dead=>simp [locs] at hl
section
variable {g:G} {w:World} {r:Nat}
theorem zdk {b:Nat} (h:b≠r):(w.putObj r (.deferred none)).heap[b]? = w.heap[b]? := World.putObj_heap_other h
theorem shut_extV (h:w.heap[r]? = some (.deferred (some []))):ExtV g w g (w.putObj r (.deferred none)):=by
 refine ⟨fun _ h=>h,fun _ _=>rfl,fun _ _=>.inl rfl,fun {b o c} hc ho=>?_,fun {b es clk} hb ho=>?_⟩
 ·obtain ⟨cs,t,fz,h1,h2⟩:=cell_iff.1 hc
  refine ⟨cell_iff.2 ⟨cs,t,fz,?_,h2⟩,ho⟩
  rw [zdk (fun e=>by rw [e,h] at h1;cases h1)]
  exact h1
 ·rw [zdk (fun e=>by rw [e,h] at hb;cases hb)]
  exact ⟨hb,ho⟩
theorem HRel.shut [Glob] {hp:Hp} (hH:HRel g w hp) (h:w.heap[r]? = some (.deferred (some []))):HRel g (w.putObj r (.deferred none)) hp:=by
 have hx:=shut_extV (g:=g) h
 refine ⟨hH.n,hH.k,fun i B hi=>(hH.rel i B hi).keepV hx (at_ok hH hi) (fun b hb=>zdk fun e=>?_) rfl (fun _ _ _ ho=>ho),fun b o ho=>by simpa using hH.lt b o ho,hH.pend,hH.inj,fun p hp=>zcu hx _ _ _ (hH.glob p hp)⟩
 obtain ⟨x,q1,q2⟩:=(hH.rel i B hi).loc_obj hb
 rw [e,h] at q1
 cases q1
 exact q2 _ rfl
theorem Ext.shut {g0:G} {w0:World} (hx:Ext g0 w0 g w) (hr:w0.heap.size≤r):Ext g0 w0 g (w.putObj r (.deferred none)):=by
 refine ⟨hx.n,hx.pend,hx.ok,hx.blk,hx.tk,hx.own,hx.os,hx.tape,hx.output,hx.drawn,by simpa using hx.size,fun b hb ho=>?_,fun b cs t fz hb=>?_⟩
 ·rw [zdk (by omega)];exact hx.same b hb ho
 ·obtain ⟨cs',h1,h2,h3⟩:=hx.cells b cs t fz hb
  have:=zbc hb
  exact ⟨cs',by rw [zdk (by omega)];exact h1,h2,h3⟩
end
def ze2:List Nat→World→World
 | [],w=>w
 | r::rs,w=>ze2 rs (w.putObj r (.deferred none))
theorem shutAll_ok [Glob] {g0 g:G} {w0:World}:∀ {rs:List Nat} {w:World},rs.Nodup→(∀ r∈rs,w0.heap.size≤r∧w.heap[r]? = some (.deferred (some [])))→Ext g0 w0 g w →
  Ext g0 w0 g (ze2 rs w)∧ExtV g w g (ze2 rs w)∧∀ hp,HRel g w hp→HRel g (ze2 rs w) hp
 | [],w,_,_,hx=>⟨hx,(ycl g w).v,fun _ h=>h⟩
 | r::rs,w,hn,h,hx=>by
   rw [List.nodup_cons] at hn
   obtain ⟨h1,h2⟩:=h r (ybc ..)
   obtain ⟨e1,e2,e3⟩:=shutAll_ok (rs:=rs) (w:=w.putObj r (.deferred none)) hn.2 (fun q hq=>by
    obtain ⟨q1,q2⟩:=h q (ya4 _ hq)
    exact ⟨q1,by rw [zdk (fun e:q=r=>hn.1 (e▸hq))];exact q2⟩) (hx.shut h1)
   have hv:=shut_extV (g:=g) h2
   exact ⟨e1,⟨fun i hi=>e2.ok i (hv.ok i hi),fun i hi=>(e2.blk i (hv.ok i hi)).trans (hv.blk i hi),fun i hi=>e2.tk i hi,fun hc ho=>by
    obtain ⟨q1,q2⟩:=hv.cell hc ho
    exact e2.cell q1 q2,fun hc ho=>by
    obtain ⟨q1,q2⟩:=hv.same hc ho
    exact e2.same q1 q2⟩,fun hp hH=>e3 hp (hH.shut h2)⟩
theorem leaves_marks {P:Program} {fn:Func} {tmps:Array Value} {R:Ending→World→Prop}:∀ {rs:List Nat} {w:World},rs.Nodup→(∀ r∈rs,w.heap[r]? = some (.deferred (some []))) →
  (∃ v,(results fn tmps).run P (ze2 rs w)=.ok v (ze2 rs w)∧R (.returned v) (ze2 rs w))→LeavesInM (FR none) 0 P fn tmps R (rs.map mark) .returning w
 | [],w,_,_,h=>by simpa [LeavesInM,LeavesIn,ze2] using h
 | r::rs,w,hn,hm,h=>by
   rw [List.nodup_cons] at hn
   refine ⟨by simp,.inl ⟨r,_,rfl,run_takeDeferred (hm r (ybc ..)),?_⟩⟩
   exact leaves_marks hn.2 (fun q hq=>by rw [zdk (fun e:q=r=>hn.1 (e▸hq))];exact hm q (ya4 _ hq)) h
end
end Go.Vsi
