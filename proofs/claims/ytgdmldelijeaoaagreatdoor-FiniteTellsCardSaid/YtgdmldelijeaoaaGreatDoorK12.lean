/- A text of the proof: the parts PI41, PJ41, PK41, PL41, PN41, PO41, VP41, PW41, AZ41, BA41, BB41, BC41, BD41, BE41, BF41. -/
import Derived.Test.YtgdmldelijeaoaaGreatDoorK11
set_option linter.unusedSimpArgs false
set_option linter.unusedVariables false
set_option maxHeartbeats 8000000
namespace Go.Proofs.YtgdmldelijeaoaaGreatDoor
open Go.Vsi
def msF (c q:Nat):Fq→Nat
 | .at_ _ _=>c
 | .fa=>c
 | .f1 a=>msF c q a+c
 | .f2 _ a b=>msF c q a+msF c q b+c
 | .qn _ _ a=>msF c q a+c+q
def dF:Fq→Nat
 | .at_ _ _=>1
 | .fa=>1
 | .f1 a=>dF a+1
 | .f2 _ a b=>max (dF a) (dF b)+1
 | .qn _ _ a=>dF a+1
def wT:Tq→Nat
 | .vr _=>1
 | .cn _=>1
 | .ap _ t=>wT t+1
def stdT:Tq→Prop
 | .vr s=>isVar s=true
 | .cn s=>isFun s=true
 | .ap s t=>isFun s=true∧stdT t
def wF:Fq→Nat
 | .at_ _ l=>(l.map wT).sum+1
 | .fa=>1
 | .f1 a=>wF a+1
 | .f2 _ a b=>wF a+wF b+1
 | .qn _ _ a=>wF a+1
def stdF:Fq→Prop
 | .at_ s l=>ze8 s=true∧l.length≤2∧∀ t∈l,stdT t∧wT t≤3
 | .fa=>True
 | .f1 a=>stdF a
 | .f2 k a b=>(k=4∨k=5∨k=6∨k=7)∧stdF a∧stdF b
 | .qn k x a=>(k=8∨k=9)∧isVar x=true∧stdF a
theorem jT_ok:∀ (t:Tq) (d:Nat) (L:Int),stdT t→(wT t:Int)≤L→d+wT t≤41→jT d t.tm L=(L-wT t,true)
 | .vr s,d,L,h,h1,h2=>by
   have h1:(1:Int)≤L:=h1
   have h2:d+1≤41:=h2
   show jT d (.mk true s []) L=(L-1,true)
   unfold jT
   rw [if_neg (by omega),if_pos rfl,show isVar s=true from h]
   rfl
 | .cn s,d,L,h,h1,h2=>by
   have h1:(1:Int)≤L:=h1
   have h2:d+1≤41:=h2
   show jT d (.mk false s []) L=(L-1,true)
   unfold jT
   rw [if_neg (by omega),if_neg (by decide),if_pos ⟨yah _,h⟩,zgk]
 | .ap s t,d,L,h,h1,h2=>by
   have h1:((wT t+1:Nat):Int)≤L:=h1
   have h2:d+(wT t+1)≤41:=h2
   have ih:=jT_ok t (d+1) (L-1) h.2 (by omega) (by omega)
   show jT d (.mk false s [t.tm]) L=(L-((wT t+1:Nat):Int),true)
   unfold jT
   rw [if_neg (by omega),if_neg (by decide),if_pos ⟨by show 1≤4;omega,h.1⟩,zh9,ih,if_pos rfl,zgk]
   simp only [ycf,and_true]
   omega
theorem jTs_ok:∀ (l:List Tq) (d:Nat) (L:Int),(∀ t∈l,stdT t∧wT t≤3)→(((l.map wT).sum:Nat):Int)≤L→d≤38→jTs d (l.map Tq.tm) L=(L-((l.map wT).sum:Nat),true)
 | [],d,L,_,_,_=>by
   rw [yd2,zgk]
   simp
 | t::l,d,L,h,h1,h2=>by
   have e:((t::l).map wT).sum=wT t+(l.map wT).sum:=by simp
   rw [e] at h1 ⊢
   obtain ⟨q1,q2⟩:=h t ybd
   rw [yb4,zh9,jT_ok t d L q1 (by omega) (by omega),if_pos rfl,jTs_ok l d _ (fun x hx=>h x (ya5 _ hx)) (by simp only;omega) h2]
   simp only [ycf,and_true]
   omega
theorem jF_ok:∀ (p:Fq) (d:Nat) (L:Int),stdF p→(wF p:Int)≤L→d+dF p≤38→jF d p.fo L=(L-wF p,true)
 | .at_ s l,d,L,h,h1,h2=>by
   have h1:(((l.map wT).sum+1:Nat):Int)≤L:=h1
   have h2:d+1≤38:=h2
   show jF d (.mk 1 s (l.map Tq.tm) []) L=(L-(((l.map wT).sum+1:Nat):Int),true)
   unfold jF
   rw [if_neg (by omega),if_neg (by decide),if_neg (fun hn=>hn ⟨h.1,by rw [yav];exact ybk h.2.1 (by decide),rfl⟩),jTs_ok l (d+1) (L-1) h.2.2 (by omega) (by omega),if_pos rfl,zho]
   simp only [ycf,and_true]
   omega
 | .fa,d,L,h,h1,h2=>by
   have h1:(1:Int)≤L:=h1
   have h2:d+1≤38:=h2
   show jF d (.mk 2 .empty [] []) L=(L-1,true)
   unfold jF
   rw [if_neg (by omega),if_neg (by decide),if_neg (fun hn=>hn ⟨by kernel_rfl,yah _,rfl⟩),zgk,if_pos rfl,zho]
 | .f1 a,d,L,h,h1,h2=>by
   have h1:((wF a+1:Nat):Int)≤L:=h1
   have h2:d+(dF a+1)≤38:=h2
   have ih:=jF_ok a (d+1) (L-1) h (by omega) (by omega)
   show jF d (.mk 3 .empty [] [a.fo]) L=(L-((wF a+1:Nat):Int),true)
   unfold jF
   rw [if_neg (by omega),if_neg (by decide),if_neg (fun hn=>hn ⟨by kernel_rfl,yah _,rfl⟩),zgk,if_pos rfl,zeq,ih,if_pos rfl,zho]
   simp only [ycf,and_true]
   omega
 | .f2 k a b,d,L,h,h1,h2=>by
   have h1:((wF a+wF b+1:Nat):Int)≤L:=h1
   have h2:d+(max (dF a) (dF b)+1)≤38:=h2
   have ih:=jF_ok a (d+1) (L-1) h.2.1 (by omega) (by omega)
   have ih2:=jF_ok b (d+1) (L-1-wF a) h.2.2 (by omega) (by omega)
   obtain ⟨r1,r2,r3⟩:rowK k=true∧rowN k=0∧rowS k=2:=by rcases h.1 with rfl|rfl|rfl|rfl <;> decide
   have hk:k<17:=by have:=h.1;omega
   show jF d (.mk k .empty [] [a.fo,b.fo]) L=(L-((wF a+wF b+1:Nat):Int),true)
   unfold jF
   rw [if_neg (by omega),r1,if_neg (by decide),r2,r3,if_neg (fun hn=>hn ⟨by kernel_rfl,yah _,rfl⟩),zgk,if_pos rfl,zeq,ih,if_pos rfl,zeq,ih2,if_pos rfl,zho]
   simp only [ycf,and_true]
   omega
 | .qn k x a,d,L,h,h1,h2=>by
   have h1:((wF a+1:Nat):Int)≤L:=h1
   have h2:d+(dF a+1)≤38:=h2
   have ih:=jF_ok a (d+1) (L-1) h.2.2 (by omega) (by omega)
   obtain ⟨r1,r2,r3⟩:rowK k=true∧rowN k=2∧rowS k=1:=by rcases h.1 with rfl|rfl <;> decide
   have hk:k<17:=by have:=h.1;omega
   show jF d (.mk k x [] [a.fo]) L=(L-((wF a+1:Nat):Int),true)
   unfold jF
   rw [if_neg (by omega),r1,if_neg (by decide),r2,r3,if_neg (fun hn=>hn ⟨h.2.1,yah _,rfl⟩),zgk,if_pos rfl,zeq,ih,if_pos rfl,zho]
   simp only [ycf,and_true]
   omega
theorem wF_le:∀ p:Fq,stdF p→wF p≤7 * msF 1 0 p
 | .at_ s l,h=>by
   show (l.map wT).sum+1≤7 * 1
   match l,h with
   | [],_=>show 0+1≤7;omega
   | [t],h =>
     have:=(h.2.2 t ybd).2
     simp
     omega
   | [t,u],h =>
     have:=(h.2.2 t ybd).2
     have:=(h.2.2 u (ya5 _ ybd)).2
     simp
     omega
   | _::_::_::_,h=>exact absurd h.2.1 (by simp)
 | .fa,_=>by show 1≤7 * 1;omega
 | .f1 a,h=>by
   have:=wF_le a h
   show wF a+1≤7 * (msF 1 0 a+1)
   omega
 | .f2 _ a b,h=>by
   have:=wF_le a h.2.1
   have:=wF_le b h.2.2
   show wF a+wF b+1≤7 * (msF 1 0 a+msF 1 0 b+1)
   omega
 | .qn _ _ a,h=>by
   have:=wF_le a h.2.2
   show wF a+1≤7 * (msF 1 0 a+1+0)
   omega
theorem zfq {α:Type}:∀ (M l:List α),l.Nodup→(∀ x∈l,x∈M)→l.length≤M.length:=by
 classical
 intro M
 induction M with
 | nil =>
   intro l _ h
   cases l with
   | nil=>exact yax _
   | cons x l=>exact absurd (h x ybd) (by simp)
 | cons a M ih =>
   intro l hn h
   by_cases ha:a∈l
   ·have h1:=ih (l.erase a) (hn.erase a) fun x hx=>by
     have hx:=(List.Nodup.mem_erase_iff hn).1 hx
     rcases yay.1 (h x hx.2) with e|e
     ·exact absurd e hx.1
     ·exact e
    rw [List.length_erase_of_mem ha] at h1
    rw [ybu]
    omega
   ·have h1:=ih l hn fun x hx=>by
     rcases yay.1 (h x hx) with e|e
     ·exact absurd (e▸hx) ha
     ·exact e
    rw [ybu]
    omega
def inP (s:ByteArray) (a:Int):Prop:=(s=nP∧a=1)∨(s=nQ∧a=0)∨(s=nR∧a=2)
def inC (s:ByteArray) (a:Int):Prop:=(s=nA∧a=0)∨(s=nF∧a=1)
def inV (x:ByteArray):Prop:=x=nX∨x=nY∨x=nZ
structure symF (q:Fq):Prop where
 p:∀ s a,q.hasP s a→inP s a
 c:∀ s a,q.hasC s a→inC s a
 v:∀ x,q.free x→inV x
theorem zez:∀ p:Fq,stdF p→p.Ok
 | .at_ _ _,h=>h.2.1
 | .fa,_=>trivial
 | .f1 a,h=>zez a h
 | .f2 _ a b,h=>⟨h.1,zez a h.2.1,zez b h.2.2⟩
 | .qn _ _ a,h=>⟨h.1,zez a h.2.2⟩
theorem name_sz {p q:UInt8→Bool} {s:ByteArray} (h:nameB p q s=true):s.size≤maxLen:=by
 unfold nameB at h
 rw [yak,decide_eq_true_eq] at h
 exact ybk h.1.2 (by decide)
theorem good_t:∀ t:Tq,stdT t→t.tm.good
 | .vr s,h=>⟨name_sz h,yah _,trivial⟩
 | .cn s,h=>⟨name_sz h,yah _,trivial⟩
 | .ap s t,h=>⟨name_sz h.1,by show 1≤maxLen;decide,good_t t h.2,trivial⟩
theorem good_f:∀ p:Fq,stdF p→p.fo.good
 | .at_ s l,h=>⟨by decide,name_sz h.1,by rw [yav];exact ybk h.2.1 (by decide),zfz _ fun x hx=>by
   obtain ⟨t,ht,rfl⟩:=ybx.1 hx
   exact good_t t (h.2.2 t ht).1,yah _,trivial⟩
 | .fa,_=>⟨by decide,by decide,yah _,trivial,yah _,trivial⟩
 | .f1 a,h=>⟨by decide,by decide,yah _,trivial,by show 1≤maxLen;decide,good_f a h,trivial⟩
 | .f2 k a b,h=>⟨by rcases h.1 with rfl|rfl|rfl|rfl <;> decide,by decide,yah _,trivial,by show 2≤maxLen;decide,good_f a h.2.1,good_f b h.2.2,trivial⟩
 | .qn k x a,h=>⟨by rcases h.1 with rfl|rfl <;> decide,name_sz h.2.1,yah _,trivial,by show 1≤maxLen;decide,good_f a h.2.2,trivial⟩
theorem tmR_ok:∀ t:Tq,tmR t.tm=true
 | .vr _=>rfl
 | .cn _=>rfl
 | .ap s t=>by
   show (decide (1≤1)&&(tmR t.tm&&true))=true
   rw [tmR_ok t]
   rfl
theorem foR_ok:∀ p:Fq,p.Ok→foR p.fo=true
 | .at_ s l,h=>by
   show (decide (1≤1∧1≤9∧(l.map Tq.tm).length≤2)&&(tmRs (l.map Tq.tm)&&true))=true
   rw [yav,decide_eq_true ⟨by omega,by omega,h⟩,zef,yao.2 fun x hx=>by
    obtain ⟨t,-,rfl⟩:=ybx.1 hx
    exact tmR_ok t]
   rfl
 | .fa,_=>rfl
 | .f1 a,h=>by
   show (decide (1≤3∧3≤9∧0≤2)&&(true&&(foR a.fo&&true)))=true
   rw [foR_ok a h]
   rfl
 | .f2 k a b,h=>by
   show (decide (1≤k∧k≤9∧0≤2)&&(true&&(foR a.fo&&(foR b.fo&&true))))=true
   have hk:=h.1
   rw [foR_ok a h.2.1,foR_ok b h.2.2,decide_eq_true (by omega)]
   rfl
 | .qn k x a,h=>by
   show (decide (1≤k∧k≤9∧0≤2)&&(true&&(foR a.fo&&true)))=true
   have hk:=h.1
   rw [foR_ok a h.2,decide_eq_true (by omega)]
   rfl
mutual
theorem frT_nd (c:ByteArray→Int):∀ (t:Tm) (ns:List ByteArray),ns.Nodup→(frT c ns t).Nodup
 | .mk v s l,ns,h=>by
   rw [frT_mk]
   refine frTs_nd c l _ ?_
   split
   ·exact nd_insG _ _ h
   ·exact h
theorem frTs_nd (c:ByteArray→Int):∀ (l:List Tm) (ns:List ByteArray),ns.Nodup→(frTs c ns l).Nodup
 | [],ns,h=>by rw [zcw];exact h
 | x::l,ns,h=>by rw [zdt];exact frTs_nd c l _ (frT_nd c x ns h)
end
mutual
theorem frF_nd:∀ (x:Fo) (c:ByteArray→Int) (ns:List ByteArray),ns.Nodup→(frF c ns x).Nodup
 | .mk op s l m,c,ns,h=>by
   rw [frF_mk]
   exact frFs_nd m _ _ (frTs_nd c l ns h)
theorem frFs_nd:∀ (l:List Fo) (c:ByteArray→Int) (ns:List ByteArray),ns.Nodup→(frFs c ns l).Nodup
 | [],c,ns,h=>by rw [zd4];exact h
 | x::l,c,ns,h=>by rw [zea];exact frFs_nd l c _ (frF_nd x c ns h)
end
theorem freeF_nd (f:Fo):(freeF f).Nodup:=frF_nd f _ _ ydx
structure Gd (p:Fq):Prop where
 std:stdF p
 dep:dF p≤30
 nod:msF 1 0 p≤55
 sym:symF p
theorem Gd.right {p:Fq} (h:Gd p):zee p.fo=true:=by
 have h1:=wF_le p h.std
 have h2:=h.nod
 have h3:=h.dep
 unfold zee
 rw [jF_ok p 1 400 h.std (by omega) (by omega),foR_ok p (zez p h.std)]
 rfl
theorem predY_len {p:Fq} (h:Gd p):(predY p.fo).length≤3:=by
 refine zfq [(nP,1),(nQ,0),(nR,2)] _ (predY_nd _) fun x hx=>?_
 have h1:=(zh5 (zez p h.std) x).1 hx
 obtain ⟨s,a⟩:=x
 rcases h.sym.p _ _ h1 with ⟨e1,e2⟩|⟨e1,e2⟩|⟨e1,e2⟩
 ·have e1:s=nP:=e1
  have e2:((a:Nat):Int)=1:=e2
  have e3:a=1:=by omega
  rw [e1,e3];simp
 ·have e1:s=nQ:=e1
  have e2:((a:Nat):Int)=0:=e2
  have e3:a=0:=by omega
  rw [e1,e3];simp
 ·have e1:s=nR:=e1
  have e2:((a:Nat):Int)=2:=e2
  have e3:a=2:=by omega
  rw [e1,e3];simp
theorem funY_len {p:Fq} (h:Gd p):(funY p.fo).length≤2:=by
 refine zfq [(nA,0),(nF,1)] _ (funY_nd _) fun x hx=>?_
 have h1:=(mem_funY (zez p h.std) x).1 hx
 obtain ⟨s,a⟩:=x
 rcases h.sym.c _ _ h1 with ⟨e1,e2⟩|⟨e1,e2⟩
 ·have e1:s=nA:=e1
  have e2:((a:Nat):Int)=0:=e2
  have e3:a=0:=by omega
  rw [e1,e3];simp
 ·have e1:s=nF:=e1
  have e2:((a:Nat):Int)=1:=e2
  have e3:a=1:=by omega
  rw [e1,e3];simp
theorem freeF_len {p:Fq} (h:Gd p):(freeF p.fo).length≤3:=by
 refine zfq [nX,nY,nZ] _ (freeF_nd _) fun x hx=>?_
 rcases h.sym.v _ ((zh6 (zez p h.std) x).1 hx) with e|e|e <;> rw [e] <;> simp
theorem Gd.sm {p:Fq} (h:Gd p):FqSm p :=
 ⟨good_f p h.std,zez p h.std,ybk (predY_len h) (by omega),ybk (funY_len h) (by omega),ybk (freeF_len h) (by omega)⟩
theorem filter_find {α:Type} {p q:α→Bool}:∀ l:List α,(∀ x∈l,q x=true→p x=true)→(l.filter p).find? q=l.find? q
 | [],_=>rfl
 | x::l,h=>by
   have ih:=filter_find (p:=p) (q:=q) l fun y hy=>h y (ya5 _ hy)
   rw [List.filter_cons]
   cases hq:q x
   ·rw [List.find?_cons_of_neg (by rw [hq];decide)]
    cases p x
    ·exact ih
    ·rw [if_pos rfl,List.find?_cons_of_neg (by rw [hq];decide)]
     exact ih
   ·rw [h x ybd hq,if_pos rfl,List.find?_cons_of_pos hq,List.find?_cons_of_pos hq]
theorem zig {s:ByteArray} {b:Bnd}:bindP s b=true↔b.nm=s:=ba_eq
section
attribute [local irreducible] VW VCall VO bits
theorem rv_tv (m:Mdl):∀ (t:Tq) (a:Int),rvB m t=some a→tv m (bindF m) t=a
 | .vr s,a,h=>by
   unfold rvB at h
   obtain ⟨b,h1,rfl⟩:=ybb.1 h
   show bindF m s=_
   unfold bindF
   rw [h1]
   rfl
 | .cn s,a,h=>by
   unfold rvB at h
   obtain ⟨f,h1,rfl⟩:=ybb.1 h
   show (funcF m s 0).vl.getD 0 0=_
   unfold funcF
   rw [h1]
   rfl
 | .ap s t,a,h=>by
   unfold rvB at h
   obtain ⟨b,hb,h⟩:=yd4.1 h
   obtain ⟨f,h1,rfl⟩:=ybb.1 h
   show (funcF m s 1).vl.getD (tv m (bindF m) t).toNat 0=_
   rw [rv_tv m t b hb]
   unfold funcF
   rw [h1]
   rfl
theorem zej (x:ByteArray) (a:Int) (l:List Bnd) (y:ByteArray):(bindL x a l).find? (bindP y)=if x=y then some ⟨x,a⟩ else l.find? (bindP y):=by
 unfold bindL
 rw [yc8]
 by_cases h:x=y
 ·rw [if_pos h,(zig (s:=y) (b:=⟨x,a⟩)).2 h]
 ·rw [if_neg h,show bindP y ⟨x,a⟩=false from ybj.2 fun e=>h ((zig (s:=y) (b:=⟨x,a⟩)).1 e)]
  refine filter_find l fun b _ hb=>?_
  rw [show bindP x b=false from ybj.2 fun e=>h (((zig (s:=x) (b:=b)).1 e).symm.trans ((zig (s:=y) (b:=b)).1 hb))]
  rfl
theorem bindF_M (m:Mdl) (x:ByteArray) (a:Int):bindF (bindM m x a)=upd (bindF m) x a:=by
 funext y
 show ((List.find? (bindP y) (bindL x a m.binds)).getD bnd0).at_=_
 rw [zej]
 unfold upd
 by_cases h:x=y
 ·rw [if_pos h,if_pos h.symm]
  rfl
 ·rw [if_neg h,if_neg (fun e=>h e.symm)]
  rfl
theorem hv_M (m:Mdl) (x:ByteArray) (a:Int) (p:Fq) (r:Val):hv (bindM m x a) p r=hv m p r :=
 zib (m:=bindM m x a) (m':=m) rfl p r r (fun _ _=>rfl) (fun _ _ _=>rfl) (fun _ _ _=>rfl)
theorem rvB_some (m m':Mdl) (h1:m.funcs=m'.funcs) (h2:∀ x,(m.binds.find? (bindP x)).isSome=(m'.binds.find? (bindP x)).isSome):∀ t:Tq,(rvB m t).isSome=(rvB m' t).isSome
 | .vr s=>by
   unfold rvB
   rw [ydk,ydk]
   exact h2 s
 | .cn s=>by
   unfold rvB
   rw [h1]
 | .ap s t=>by
   have ih:=rvB_some m m' h1 h2 t
   unfold rvB
   rw [h1]
   cases ho:rvB m t with
   | none =>
     rw [ho] at ih
     cases ho2:rvB m' t with
     | none=>rfl
     | some b=>rw [ho2] at ih;cases ih
   | some a =>
     rw [ho] at ih
     cases ho2:rvB m' t with
     | none=>rw [ho2] at ih;cases ih
     | some b =>
       rw [ycz,ycz,ydk,ydk]
theorem zf6:∀ (p:Fq) (m m':Mdl),m.facts=m'.facts→m.funcs=m'.funcs→(∀ x,(m.binds.find? (bindP x)).isSome=(m'.binds.find? (bindP x)).isSome)→rhas p m=rhas p m'
 | .at_ s l,m,m',h0,h1,h2=>by
   unfold rhas
   rw [h0,show (fun t=>(rvB m t).isSome)=(fun t=>(rvB m' t).isSome) from funext fun t=>rvB_some m m' h1 h2 t]
 | .fa,_,_,_,_,_=>rfl
 | .f1 a,m,m',h0,h1,h2=>zf6 a m m' h0 h1 h2
 | .f2 _ a b,m,m',h0,h1,h2=>by
   unfold rhas
   rw [zf6 a m m' h0 h1 h2,zf6 b m m' h0 h1 h2]
 | .qn _ x a,m,m',h0,h1,h2=>zf6 a _ _ h0 h1 fun y=>by
   show ((bindL x 0 m.binds).find? (bindP y)).isSome=((bindL x 0 m'.binds).find? (bindP y)).isSome
   rw [zej,zej]
   split
   ·rfl
   ·exact h2 y
theorem rhas_M (p:Fq) (m:Mdl) (x:ByteArray) (a b:Int):rhas p (bindM m x a)=rhas p (bindM m x b):=zf6 p _ _ rfl rfl fun y=>by
 show ((bindL x a m.binds).find? (bindP y)).isSome=((bindL x b m.binds).find? (bindP y)).isSome
 rw [zej,zej]
 split <;> rfl
def HdC (p:Fo) (m:Mdl) (b:Bool):Prop:=∀ H,VDet Tryz.prog 125 [.agg m.cells,.agg p.cells] H (.bool b)
theorem hold_at (m:Mdl) (hm:m.Sm) (n:Nat) (hv:VM m n) (s:ByteArray) (l:List Tq) (hl2:l.length≤2) (hh:rhas (.at_ s l) m=true):HdC (Fo.mk 1 s (l.map Tq.tm) []) m (av m (bindF m) s l):=by
 intro H
 have hfl:=hm.facts
 unfold rhas at hh
 rw [yak,yao] at hh
 obtain ⟨hh1,hh2⟩:=hh
 have hval:∀ t∈l,∀ H,VDet Tryz.prog 128 [.agg m.cells,.agg t.tm.cells] H (.tup [.int .i64 (tv m (bindF m) t),.bool true]):=fun t ht H=>by
  have:=rvalue_c m hm n hv t H
  have h1:=hh1 t ht
  obtain ⟨a,ha⟩:=yc3.1 h1
  unfold optA at this
  rw [ha] at this
  rw [rv_tv m t a ha]
  exact this
 have hin:∀ t∈l,0≤tv m (bindF m) t∧tv m (bindF m) t<n:=fun t ht=>by
  obtain ⟨a,ha⟩:=yc3.1 (hh1 t ht)
  rw [rv_tv m t a ha]
  exact rvB_in hv t a ha
 obtain ⟨F,hF⟩:=yc3.1 hh2
 have hFF:factF m s l.length=F:=by unfold factF;rw [hF];rfl
 obtain ⟨-,ht0,ht1⟩:=hv.facts F (yct hF)
 have hFa:=yea hF
 unfold factP at hFa
 rw [beq_iff_eq.1 (ybn.1 hFa).2] at ht1
 have hav:av m (bindF m) s l=bitAt F.tr (bitF m.size (l.map (tv m (bindF m)))):=by unfold av;rw [hFF]
 rw [hav]
 have hns:=hv.size
 have hn3:0<n∧n≤3:=⟨hv.pos,hv.le⟩
 have hpow:n ^ l.length≤9:=ybk (yd0 hn3.2 _) (ybk (ycb (by decide) hl2) (by decide:3 ^ 2≤9))
 have hp2:2 ^ n ^ l.length≤2 ^ 9:=ycb (by decide) hpow
 simp only [ybp] at ht1
 have hTb:F.tr.toNat<512:=ybz ht1 hp2
 rw [zaq]
 have hmc:m.cells=[.int .u8 m.kind,.int .i64 m.size,.sl none m.rel.length (m.rel.flatMap enc64),.int .i64 m.loop,.sl none m.facts.length (m.facts.flatMap Fct.cells),.sl none m.funcs.length (m.funcs.flatMap Fnc.cells),.sl none m.binds.length (m.binds.flatMap Bnd.cells)]:=rfl
 rw [hmc] at hval ⊢
 simp only [hns] at hval ⊢
 simp only [ybg,ybh,yav]
 have hbd:∀ j,j≤l.length→0≤bitF n ((l.take j).map (tv m (bindF m)))∧bitF n ((l.take j).map (tv m (bindF m)))≤8:=fun j hj=>bitF_bd hn3 _ (fun v hv2=>by
  obtain ⟨t,ht,rfl⟩:=ybx.1 hv2
  exact hin t (yei ht)) (by rw [yav,ycm];omega)
 generalize hrr:bindF m=r at *
 refine fdD Tryz.func125 ⟨rfl,rfl,rfl⟩ fun hcl hbl=>?_
 (repeat' ((conv=>whnf);(first|refine yaq rfl ?_|fail)));conv=>whnf
 refine zax Tryz.E0 zag (σ:=Nat) (fun j=>j≤l.length) (fun j=>l.length-j) (fun j=>[(5,.v (.int .i64 (bitF n ((l.take j).map (tv m r))))),(6,.v (.int .i64 j))]) (fun _=>_) _ 0 rfl hcl [2,3] rfl (yah _) ⟨⟨_,rfl,yae _⟩,⟨_,rfl,yae _⟩,trivial⟩ rfl (fun _ _=>rfl) ?_
 intro j hj
 rcases yag j l.length with hlt|hge
 ·have hts:=zbm l (Tq.vr .empty) j hlt
  have htm:=zar l j (.vr .empty) hlt
  have hvt:=hval _ htm
  have hit:=hin _ htm
  have h0:=hbd j hj
  have h5:=hbd (j+1) (by omega)
  have hst:bitF n ((l.take (j+1)).map (tv m r))=bitF n ((l.take j).map (tv m r)) * n+tv m r (l.getD j (.vr .empty)):=by
   rw [hts,yd7,← bitF_snoc]
   rfl
  have hg:=map_getD_tm l j hlt
  obtain ⟨w1,w2,w3,w4,hw,hwb⟩:=zc1 (l.getD j (.vr .empty)).tm
  have hw2:((l.map Tq.tm).getD j tm0).cells=[.bool w1,.str w2,.sl none w3 w4]:=by rw [hg];exact hw
  rw [hw] at hvt
  rw [hst] at h5
  generalize tv m r (l.getD j (.vr .empty))=vt at *
  generalize hB:bitF n ((l.take j).map (tv m r))=B at *
  have hmul:0≤B * (n:Int)∧B * (n:Int)≤8:=by
   constructor
   ·exact Int.mul_nonneg h0.1 (by omega)
   ·omega
  (repeat' ((conv=>whnf);(first|refine yar (by omega) ?_|(refine yc0 ?_;first|(refine zad _ _ Cst.h Cst.h ?_ ?_;· omega)|refine yco (by omega) ?_|fail)|(refine yaf ?_ ?_;· first|kernel_rfl|omega|exact yaa _ _|fail)|refine yan _ (fun _ hq X=>hvt _) ?_|refine zaa tm0 j rfl (by rw [yav];omega) zba hw2 ?_|refine zae [] ?_|fail)));conv=>whnf
  rw [← hst]
  (refine ⟨⟨j+1,by show j+1≤_;omega,by omega,?_,.inl ⟨rfl,rfl⟩,rfl,_,rfl,?_⟩⟩;rotate_left 1;exact .inl rfl;exact ⟨⟨_,rfl,yae _⟩,⟨_,rfl,yae _⟩,trivial⟩)
 ·have:j=l.length:=by omega
  subst this
  have h0:=hbd l.length hj
  rw [ya3] at h0 ⊢
  obtain ⟨B,hB⟩:∃ B:Nat,bitF n (l.map (tv m r))=B:=⟨(bitF n (l.map (tv m r))).toNat,by omega⟩
  rw [hB] at h0 ⊢
  (repeat' ((conv=>whnf);(first|refine ya1 (by omega) ?_|fail)));conv=>whnf
  refine zax Tryz.E0 zag (σ:=Nat) (fun k=>k≤m.facts.length∧some F=(m.facts.drop k).find? (factP s l.length)) (fun k=>m.facts.length-k) (fun k=>[(9,.v (.int .i64 k))]) (fun _=>_) _ 0 rfl hcl [2,3,5] rfl ⟨yah _,hF.symm⟩ ⟨⟨_,rfl,yae _⟩,trivial⟩ rfl (fun _ _=>rfl) ?_
  rintro k ⟨hk,hinv⟩
  rcases yag k m.facts.length with hlt|hge
  ·have hd:=zbn m.facts k fct0 hlt
   rw [hd,yc8] at hinv
   obtain ⟨u,v,z,hx,e1⟩:=zhc (f:=m.facts.getD k fct0) rfl
   have hpe:factP s l.length (m.facts.getD k fct0)=((u.toList==s.toList)&&(v==(l.length:Int))):=by rw [hx];rfl
   cases hq2:(u.toList==s.toList) with
   | true =>
     by_cases hva:v=(l.length:Int)
     ·have hp:factP s l.length (m.facts.getD k fct0)=true:=by rw [hpe,hq2,ya9,beq_iff_eq];exact hva
      rw [hp] at hinv
      have hFe:F=⟨u,v,z⟩:=by rw [← hx];exact Option.some.inj hinv
      have hFz:F.tr=z:=by rw [hFe]
      obtain ⟨T,hT⟩:∃ T:Nat,z=T:=⟨z.toNat,by omega⟩
      rw [hFz,hT,ybp] at hTb
      have hbt:bitAt F.tr (B:Int)=T.testBit B:=by
       rw [hFz,hT]
       unfold bitAt
       rw [ybp,ybp]
      rw [hbt]
      have hbi:=bit_iff T B
      rw [hT] at e1
      (repeat' ((conv=>whnf);(first|(refine yai ?_;first|refine yaq hq2 ?_|refine yar (by omega) ?_|fail)|(refine yc0 ?_;first|(refine EqN.shrN _ _ Cst.h Cst.h rfl ?_ ?_;· (repeat' (first|omega|refine yb6 ?_ ?_|exact za1 (by omega)|exact zby (by omega)|refine zdc ?_ ?_|refine zbx ?_ ?_|refine zcf ?_ ?_|refine zbj ?_ ?_|refine zcg ?_|refine zch ?_ ?_|refine zci ?_|refine za1 ?_|fail)))|refine EqN.remN _ _ Cst.h Cst.h ?_|fail)|(refine yaf ?_ ?_;· first|kernel_rfl|omega|exact yaa _ _|fail)|refine zaa fct0 k rfl (by omega) zbr e1 ?_|refine zae [] ?_|fail)));conv=>whnf
      refine ya2 trivial (zaf (congrArg AV.bool ?_))
      rw [ycd,beq_iff_eq,← hbi]
      rw [Nat.and_one_is_mod]
      omega
     ·have hp:factP s l.length (m.facts.getD k fct0)=false:=by rw [hpe,hq2,ya9,beq_eq_false_iff_ne];exact hva
      rw [hp] at hinv
      (repeat' ((conv=>whnf);(first|(refine yai ?_;first|refine yaq hq2 ?_|refine yar (by omega) ?_|refine ya1 (by omega) ?_|fail)|(refine zad _ _ Cst.h Cst.h ?_ ?_;· omega)|(refine yaf ?_ ?_;· first|kernel_rfl|omega|exact yaa _ _|fail)|refine zaa fct0 k rfl (by omega) zbr e1 ?_|refine zae [] ?_|fail)));conv=>whnf
      (refine ⟨⟨k+1,⟨by omega,hinv⟩,by omega,?_,.inl ⟨rfl,rfl⟩,rfl,_,rfl,?_⟩⟩;rotate_left 1;exact .inl rfl;exact ⟨⟨_,rfl,yae _⟩,trivial⟩)
   | false =>
     have hp:factP s l.length (m.facts.getD k fct0)=false:=by rw [hpe,hq2];rfl
     rw [hp] at hinv
     (repeat' ((conv=>whnf);(first|(refine yai ?_;first|refine yau hq2 ?_|refine yar (by omega) ?_|fail)|(refine zad _ _ Cst.h Cst.h ?_ ?_;· omega)|(refine yaf ?_ ?_;· first|kernel_rfl|omega|exact yaa _ _|fail)|refine zaa fct0 k rfl (by omega) zbr e1 ?_|refine zae [] ?_|fail)));conv=>whnf
     (refine ⟨⟨k+1,⟨by omega,hinv⟩,by omega,?_,.inl ⟨rfl,rfl⟩,rfl,_,rfl,?_⟩⟩;rotate_left 1;exact .inl rfl;exact ⟨⟨_,rfl,yae _⟩,trivial⟩)
  ·have:k=m.facts.length:=by omega
   subst this
   rw [ybo] at hinv
   cases hinv
theorem hold_fa (m:Mdl) (s:ByteArray):HdC (Fo.mk 2 s [] []) m false:=by
 intro H
 rw [zaq]
 have hmc:m.cells=[.int .u8 m.kind,.int .i64 m.size,.sl none m.rel.length (m.rel.flatMap enc64),.int .i64 m.loop,.sl none m.facts.length (m.facts.flatMap Fct.cells),.sl none m.funcs.length (m.funcs.flatMap Fnc.cells),.sl none m.binds.length (m.binds.flatMap Bnd.cells)]:=rfl
 rw [hmc]
 simp only [ybg,ybh]
 refine fdD Tryz.func125 ⟨rfl,rfl,rfl⟩ fun hcl hbl=>?_
 (repeat' ((conv=>whnf);(first|refine yau rfl ?_|fail)));conv=>whnf
 exact eT trivial
theorem hold_1 (m:Mdl) (s:ByteArray) (f:Fo) (b:Bool) (hf:HdC f m b):HdC (Fo.mk 3 s [] [f]) m (!b):=by
 intro H
 unfold HdC at hf
 rw [zaq]
 have hmc:m.cells=[.int .u8 m.kind,.int .i64 m.size,.sl none m.rel.length (m.rel.flatMap enc64),.int .i64 m.loop,.sl none m.facts.length (m.facts.flatMap Fct.cells),.sl none m.funcs.length (m.funcs.flatMap Fnc.cells),.sl none m.binds.length (m.binds.flatMap Bnd.cells)]:=rfl
 obtain ⟨w1,w2,w3,w4,w5,w6,hw,hwb⟩:=zbz f
 rw [hw] at hf
 rw [hmc] at hf ⊢
 have e0:(([f]:List Fo).getD 0 fo0).cells=[.int .u8 (w1:Nat),.str w2,.sl none w3 w4,.sl none w5 w6]:=hw
 simp only [ybg,ybh]
 refine fdD Tryz.func125 ⟨rfl,rfl,rfl⟩ fun hcl hbl=>?_
 (repeat' ((conv=>whnf);(first|(refine yai ?_;first|refine yaq rfl ?_|refine yau rfl ?_|fail)|(refine yaf ?_ ?_;· first|kernel_rfl|exact yaa _ _|(simp;done)|fail)|refine yan _ (fun _ hq X=>hf _) ?_|refine zaa fo0 0 rfl (by simp) za4 e0 ?_|refine zae [] ?_|fail)));conv=>whnf
 exact eT trivial
theorem hold_2 (k:Nat) (hk:k=4∨k=5∨k=6∨k=7) (m:Mdl) (s:ByteArray) (f g:Fo) (b c:Bool) (hf:HdC f m b) (hg:HdC g m c):HdC (Fo.mk k s [] [f,g]) m (op2 k b c):=by
 intro H
 unfold HdC at hf hg
 rw [zaq]
 have hmc:m.cells=[.int .u8 m.kind,.int .i64 m.size,.sl none m.rel.length (m.rel.flatMap enc64),.int .i64 m.loop,.sl none m.facts.length (m.facts.flatMap Fct.cells),.sl none m.funcs.length (m.funcs.flatMap Fnc.cells),.sl none m.binds.length (m.binds.flatMap Bnd.cells)]:=rfl
 obtain ⟨w1,w2,w3,w4,w5,w6,hw,hwb⟩:=zbz f
 obtain ⟨v1,v2,v3,v4,v5,v6,hw2,hwb2⟩:=zbz g
 rw [hw] at hf
 rw [hw2] at hg
 rw [hmc] at hf hg ⊢
 have e0:(([f,g]:List Fo).getD 0 fo0).cells=[.int .u8 (w1:Nat),.str w2,.sl none w3 w4,.sl none w5 w6]:=hw
 have e1:(([f,g]:List Fo).getD 1 fo0).cells=[.int .u8 (v1:Nat),.str v2,.sl none v3 v4,.sl none v5 v6]:=hw2
 simp only [ybg,ybh]
 cases b <;> cases c <;> rcases hk with rfl|rfl|rfl|rfl <;>
 (refine fdD Tryz.func125 ⟨rfl,rfl,rfl⟩ fun hcl hbl=>?_;((repeat' ((conv=>whnf);(first|(refine yai ?_;first|refine yas ?_|refine yaq rfl ?_|refine yau rfl ?_|fail)|(refine yaf ?_ ?_;· first|kernel_rfl|exact yaa _ _|(simp;done)|fail)|(refine yck ?_;first|refine yan _ (fun _ hq X=>hf _) ?_|refine yan _ (fun _ hq X=>hg _) ?_|fail)|refine zaa fo0 0 rfl (by simp) za4 e0 ?_|refine zaa fo0 1 rfl (by simp) za4 e1 ?_|refine zae [] ?_|fail)));all_goals (conv=>whnf));exact eT trivial)
theorem hold_all (m:Mdl) (hm:m.Sm) (n:Nat) (hsz:m.size=n) (hn3:n≤3) (x:ByteArray) (f:Fo) (b:Nat→Bool) (hf:∀ i,i<n→HdC f (bindM m x i) (b i)):HdC (Fo.mk 8 x [] [f]) m ((List.range n).all b):=by
 intro H
 unfold HdC at hf
 rw [zaq]
 have hmc:m.cells=[.int .u8 m.kind,.int .i64 m.size,.sl none m.rel.length (m.rel.flatMap enc64),.int .i64 m.loop,.sl none m.facts.length (m.facts.flatMap Fct.cells),.sl none m.funcs.length (m.funcs.flatMap Fnc.cells),.sl none m.binds.length (m.binds.flatMap Bnd.cells)]:=rfl
 obtain ⟨w1,w2,w3,w4,w5,w6,hw,hwb⟩:=zbz f
 rw [hw] at hf
 have hbi:∀ i:Nat,∀ H,VDet Tryz.prog 181 [.agg m.cells,.str x,.int .i64 (i:Nat)] H (.agg (bindM m x i).cells):=fun i=>bind_c m hm x i
 rw [hmc,hsz] at hbi
 rw [hmc,hsz]
 have e0:(([f]:List Fo).getD 0 fo0).cells=[.int .u8 (w1:Nat),.str w2,.sl none w3 w4,.sl none w5 w6]:=hw
 simp only [ybg,ybh]
 refine fdD Tryz.func125 ⟨rfl,rfl,rfl⟩ fun hcl hbl=>?_
 (repeat' ((conv=>whnf);(first|(refine yai ?_;first|refine yaq rfl ?_|refine yau rfl ?_|fail)|fail)));conv=>whnf
 refine zax Tryz.E0 zag (σ:=Nat) (fun k=>k≤n∧∀ i,i<k→b i=true) (fun k=>n-k) (fun k=>[(10,.v (.int .i64 k))]) (fun _=>_) _ 0 rfl hcl [2,3] rfl ⟨yah _,fun i h=>by omega⟩ ⟨⟨_,rfl,yae _⟩,trivial⟩ rfl (fun _ _=>rfl) ?_
 rintro k ⟨hk,hinv⟩
 rcases yag k n with hlt|hge
 ·have hbk:=hbi k
  have hfk:=hf k hlt
  obtain ⟨e1,e2,e3,e4,e5,e6,e7,e8,e9,e10,e11,hmb,hb⟩:=zdq (bindM m x k)
  rw [hmb] at hbk hfk
  cases hbb:b k with
  | false =>
    rw [hbb] at hfk
    rw [show (List.range n).all b=false from ybj.2 fun h=>by have:=yao.1 h k (ybv.2 hlt);rw [hbb] at this;cases this]
    (repeat' ((conv=>whnf);(first|(refine yai ?_;first|refine yas ?_|refine yau rfl ?_|refine yar (by omega) ?_|fail)|(refine yaf ?_ ?_;· first|kernel_rfl|exact yaa _ _|(simp;done)|fail)|(refine yck ?_;first|refine yan _ (fun _ hq X=>hbk _) ?_|refine yan _ (fun _ hq X=>hfk _) ?_|fail)|refine zaa fo0 0 rfl (by simp) za4 e0 ?_|refine zae [] ?_|fail)));conv=>whnf
    exact eT trivial
  | true =>
    rw [hbb] at hfk
    (repeat' ((conv=>whnf);(first|(refine yai ?_;first|refine yas ?_|refine yaq rfl ?_|refine yar (by omega) ?_|fail)|(refine zad _ _ Cst.h Cst.h ?_ ?_;· omega)|(refine yaf ?_ ?_;· first|kernel_rfl|exact yaa _ _|(simp;done)|fail)|(refine yck ?_;first|refine yan _ (fun _ hq X=>hbk _) ?_|refine yan _ (fun _ hq X=>hfk _) ?_|fail)|refine zaa fo0 0 rfl (by simp) za4 e0 ?_|refine zae [] ?_|fail)));conv=>whnf
    (refine ⟨⟨k+1,⟨by omega,fun i hi=>by
     rcases yag i k with h2|h2
     ·exact hinv i h2
     ·rw [show i=k by omega]
      exact hbb⟩,by omega,?_,.inl ⟨rfl,rfl⟩,rfl,_,rfl,?_⟩⟩;rotate_left 1;exact .inl rfl;exact ⟨⟨_,rfl,yae _⟩,trivial⟩)
 ·have:k=n:=by omega
  subst this
  rw [show (List.range k).all b=true from yao.2 fun i hi=>hinv i (ybv.1 hi)]
  (repeat' ((conv=>whnf);(first|refine ya1 (by omega) ?_|fail)));conv=>whnf
  exact eT trivial
theorem hold_any (m:Mdl) (hm:m.Sm) (n:Nat) (hsz:m.size=n) (hn3:n≤3) (x:ByteArray) (f:Fo) (b:Nat→Bool) (hf:∀ i,i<n→HdC f (bindM m x i) (b i)):HdC (Fo.mk 9 x [] [f]) m ((List.range n).any b):=by
 intro H
 unfold HdC at hf
 rw [zaq]
 have hmc:m.cells=[.int .u8 m.kind,.int .i64 m.size,.sl none m.rel.length (m.rel.flatMap enc64),.int .i64 m.loop,.sl none m.facts.length (m.facts.flatMap Fct.cells),.sl none m.funcs.length (m.funcs.flatMap Fnc.cells),.sl none m.binds.length (m.binds.flatMap Bnd.cells)]:=rfl
 obtain ⟨w1,w2,w3,w4,w5,w6,hw,hwb⟩:=zbz f
 rw [hw] at hf
 have hbi:∀ i:Nat,∀ H,VDet Tryz.prog 181 [.agg m.cells,.str x,.int .i64 (i:Nat)] H (.agg (bindM m x i).cells):=fun i=>bind_c m hm x i
 rw [hmc,hsz] at hbi
 rw [hmc,hsz]
 have e0:(([f]:List Fo).getD 0 fo0).cells=[.int .u8 (w1:Nat),.str w2,.sl none w3 w4,.sl none w5 w6]:=hw
 simp only [ybg,ybh]
 refine fdD Tryz.func125 ⟨rfl,rfl,rfl⟩ fun hcl hbl=>?_
 (repeat' ((conv=>whnf);(first|(refine yai ?_;first|refine yaq rfl ?_|refine yau rfl ?_|fail)|fail)));conv=>whnf
 refine zax Tryz.E0 zag (σ:=Nat) (fun k=>k≤n∧∀ i,i<k→b i=false) (fun k=>n-k) (fun k=>[(11,.v (.int .i64 k))]) (fun _=>_) _ 0 rfl hcl [2,3] rfl ⟨yah _,fun i h=>by omega⟩ ⟨⟨_,rfl,yae _⟩,trivial⟩ rfl (fun _ _=>rfl) ?_
 rintro k ⟨hk,hinv⟩
 rcases yag k n with hlt|hge
 ·have hbk:=hbi k
  have hfk:=hf k hlt
  obtain ⟨e1,e2,e3,e4,e5,e6,e7,e8,e9,e10,e11,hmb,hb⟩:=zdq (bindM m x k)
  rw [hmb] at hbk hfk
  cases hbb:b k with
  | true =>
    rw [hbb] at hfk
    rw [show (List.range n).any b=true from ydc.2 ⟨k,ybv.2 hlt,hbb⟩]
    (repeat' ((conv=>whnf);(first|(refine yai ?_;first|refine yaq rfl ?_|refine yar (by omega) ?_|fail)|(refine yaf ?_ ?_;· first|kernel_rfl|exact yaa _ _|(simp;done)|fail)|(refine yck ?_;first|refine yan _ (fun _ hq X=>hbk _) ?_|refine yan _ (fun _ hq X=>hfk _) ?_|fail)|refine zaa fo0 0 rfl (by simp) za4 e0 ?_|refine zae [] ?_|fail)));conv=>whnf
    exact eT trivial
  | false =>
    rw [hbb] at hfk
    (repeat' ((conv=>whnf);(first|(refine yai ?_;first|refine yau rfl ?_|refine yar (by omega) ?_|fail)|(refine zad _ _ Cst.h Cst.h ?_ ?_;· omega)|(refine yaf ?_ ?_;· first|kernel_rfl|exact yaa _ _|(simp;done)|fail)|(refine yck ?_;first|refine yan _ (fun _ hq X=>hbk _) ?_|refine yan _ (fun _ hq X=>hfk _) ?_|fail)|refine zaa fo0 0 rfl (by simp) za4 e0 ?_|refine zae [] ?_|fail)));conv=>whnf
    (refine ⟨⟨k+1,⟨by omega,fun i hi=>by
     rcases yag i k with h2|h2
     ·exact hinv i h2
     ·rw [show i=k by omega]
      exact hbb⟩,by omega,?_,.inl ⟨rfl,rfl⟩,rfl,_,rfl,?_⟩⟩;rotate_left 1;exact .inl rfl;exact ⟨⟨_,rfl,yae _⟩,trivial⟩)
 ·have:k=n:=by omega
  subst this
  rw [show (List.range k).any b=false from ybj.2 fun h=>by obtain ⟨i,hi,hb2⟩:=ydc.1 h;rw [hinv i (ybv.1 hi)] at hb2;cases hb2]
  (repeat' ((conv=>whnf);(first|refine ya1 (by omega) ?_|fail)));conv=>whnf
  exact eT trivial
theorem rhold_c:∀ (p:Fq) (m:Mdl),p.Ok→m.Sm→∀ n,VM m n→m.binds.length+rankF p≤1000000→rhas p m=true→HdC p.fo m (hv m p (bindF m))
 | .at_ s l,m,hp,hm,n,hv,_,hh=>hold_at m hm n hv s l hp hh
 | .fa,m,_,_,_,_,_,_=>hold_fa m .empty
 | .f1 a,m,hp,hm,n,hv,hr,hh=>hold_1 m .empty a.fo _ (rhold_c a m hp hm n hv hr hh)
 | .f2 k a b,m,hp,hm,n,hv,hr,hh=>by
   have hr:m.binds.length+max (rankF a) (rankF b)≤1000000:=hr
   unfold rhas at hh
   rw [yak] at hh
   exact hold_2 k hp.1 m .empty a.fo b.fo _ _ (rhold_c a m hp.2.1 hm n hv (by omega) hh.1) (rhold_c b m hp.2.2 hm n hv (by omega) hh.2)
 | .qn k x a,m,hp,hm,n,hv,hr,hh=>by
   have hr:m.binds.length+(rankF a+1)≤1000000:=hr
   have hsz:=hv.size
   have hn3:=hv.le
   have hc:∀ i,i<n→HdC a.fo (bindM m x (i:Nat)) (Go.Proofs.YtgdmldelijeaoaaGreatDoor.hv m a (upd (bindF m) x (i:Nat))):=fun i hi=>by
    have hl:=zih x (i:Nat) m.binds
    have:=rhold_c a (bindM m x (i:Nat)) hp.2 (bindM_sm hm x _ (by omega)) n (bindM_vm hv x _ ⟨by omega,by omega⟩) (by show (bindL x (i:Nat) m.binds).length+_≤_;omega) ((rhas_M a m x _ 0).trans hh)
    rw [bindF_M,hv_M] at this
    exact this
   unfold Go.Proofs.YtgdmldelijeaoaaGreatDoor.hv
   rw [hsz,ybp]
   rcases hp.1 with rfl|rfl
   ·rw [if_pos rfl]
    exact hold_all m hm n hsz hn3 x a.fo _ hc
   ·rw [if_neg (by decide)]
    exact hold_any m hm n hsz hn3 x a.fo _ hc
end
theorem jT_def (d:Nat) (v:Bool) (s:ByteArray) (l:List Tm) (L:Int):jT d (.mk v s l) L=if ¬ (1≤L∧d≤40) then (L-1,false) else if v then (L-1,decide (l.length=0)&&isVar s) else if l.length≤4∧isFun s=true then jTs (d+1) l (L-1) else (L-1,false):=by rw [jT.eq_def]
mutual
theorem jT_iff (d:Nat):∀ (x:Tm) (L:Int),0≤L→((jT d x L).2=true↔rT x=true∧(szzT x:Int)≤L∧d+dT x≤41)∧((jT d x L).2=true→(jT d x L).1=L-(szzT x:Int))
 | .mk v s l,L,h=>by
   have e1:rT (.mk v s l)=if v then decide (l.length=0)&&isVar s else rTs l&&(isFun s&&decide (l.length≤4)):=by rw [rT.eq_def]
   have e2:szzT (.mk v s l)=szzTs l+1:=by rw [szzT.eq_def]
   have e3:dT (.mk v s l)=dTs l+1:=by rw [dT.eq_def]
   rw [jT_def,e1,e2,e3]
   by_cases h1:1≤L∧d≤40
   ·rw [if_neg (not_not_intro h1)]
    cases v with
    | true =>
      rw [if_pos rfl,if_pos rfl]
      refine ⟨⟨fun h2=>⟨h2,?_⟩,fun h2=>h2.1⟩,fun h2=>?_⟩
      ·have h3:l.length=0:=of_decide_eq_true (ybn.1 h2).1
       have h4:l=[]:=yd8.1 h3
       subst h4
       unfold szzTs dTs
       omega
      ·have h3:l.length=0:=of_decide_eq_true (ybn.1 h2).1
       have h4:l=[]:=yd8.1 h3
       subst h4
       unfold szzTs
       show L-1=_
       omega
    | false =>
      simp only [yba,if_false]
      have ih:=jTs_iff (d+1) l (L-1) (by omega) (by omega)
      by_cases h2:l.length≤4∧isFun s=true
      ·rw [if_pos h2,h2.2,decide_eq_true h2.1]
       refine ⟨ih.1.trans ⟨fun h3=>⟨by rw [h3.1];rfl,by omega,by omega⟩,fun h3=>⟨(ybn.1 h3.1).1,by omega,by omega⟩⟩,fun h3=>?_⟩
       rw [ih.2 h3]
       omega
      ·rw [if_neg h2]
       refine ⟨⟨fun h3=>(by cases h3),fun h3=>?_⟩,fun h3=>(by cases h3)⟩
       have h4:=ybn.1 (ybn.1 h3.1).2
       exact absurd ⟨of_decide_eq_true h4.2,h4.1⟩ h2
   ·rw [if_pos h1]
    refine ⟨⟨fun h3=>(by cases h3),fun h3=>?_⟩,fun h3=>(by cases h3)⟩
    exact absurd ⟨by omega,by omega⟩ h1
theorem jTs_iff (d:Nat):∀ (l:List Tm) (L:Int),0≤L→d≤41→((jTs d l L).2=true↔rTs l=true∧(szzTs l:Int)≤L∧d+dTs l≤41)∧((jTs d l L).2=true→(jTs d l L).1=L-(szzTs l:Int))
 | [],L,h,hd=>by
   unfold jTs rTs szzTs dTs
   refine ⟨⟨fun _=>⟨rfl,by omega,by omega⟩,fun _=>rfl⟩,fun _=>?_⟩
   show L=_
   omega
 | x::l,L,h,hd=>by
   have e1:rTs (x::l)=(rT x&&rTs l):=by rw [rTs.eq_def]
   have e2:szzTs (x::l)=szzT x+szzTs l:=by rw [szzTs.eq_def]
   have e3:dTs (x::l)=max (dT x) (dTs l):=by rw [dTs.eq_def]
   rw [zh9,e1,e2,e3]
   have h1:=jT_iff d x L h
   by_cases hj:(jT d x L).2=true
   ·have h2:=h1.1.1 hj
    have h3:=h1.2 hj
    rw [if_pos hj,h3,h2.1]
    have ih:=jTs_iff d l (L-szzT x) (by omega) hd
    refine ⟨ih.1.trans ⟨fun h4=>⟨by rw [h4.1];rfl,by omega,by omega⟩,fun h4=>⟨(ybn.1 h4.1).2,by omega,by omega⟩⟩,fun h4=>?_⟩
    rw [ih.2 h4]
    omega
   ·rw [if_neg hj]
    refine ⟨⟨fun h3=>(by cases h3),fun h3=>?_⟩,fun h3=>(by cases h3)⟩
    exact absurd (h1.1.2 ⟨(ybn.1 h3.1).1,by omega,by omega⟩) hj
end
theorem jF_def (d:Nat) (op:Nat) (s:ByteArray) (l:List Tm) (m:List Fo) (L:Int):jF d (.mk op s l m) L=if ¬ (1≤L∧d≤40)∨17≤op then (L-1,false) else if rowK op=false then (L-1,false) else if ¬ (zg9 (rowN op) s=true∧l.length≤rowA op∧m.length=rowS op) then (L-1,false) else if (jTs (d+1) l (L-1)).2 then jFs (d+1) m (jTs (d+1) l (L-1)).1 else ((jTs (d+1) l (L-1)).1,false):=by rw [jF.eq_def]
theorem rowB_iff (op:Nat) (s:ByteArray) (n k:Nat):rowB op s n k=true↔op<17∧rowK op=true∧zg9 (rowN op) s=true∧n≤rowA op∧k=rowS op:=by
 unfold rowB
 simp only [yak,decide_eq_true_eq]
mutual
theorem jF_iff (d:Nat):∀ (x:Fo) (L:Int),0≤L→((jF d x L).2=true↔rfF x=true∧(szzF x:Int)≤L∧d+dpF x≤41)∧((jF d x L).2=true→(jF d x L).1=L-(szzF x:Int))
 | .mk op s l m,L,h=>by
   have e1:(rfF (.mk op s l m)=true)=(rowB op s l.length m.length=true∧rTs l=true∧rfFs m=true):=by rw [rfF.eq_def];simp only [yak]
   have e2:szzF (.mk op s l m)=1+szzTs l+szzFs m:=by rw [szzF.eq_def]
   have e3:dpF (.mk op s l m)=max (dTs l) (dpFs m)+1:=by rw [dpF.eq_def]
   rw [jF_def,e1,e2,e3,rowB_iff]
   by_cases h1:¬ (1≤L∧d≤40)∨17≤op
   ·rw [if_pos h1]
    refine ⟨⟨fun h3=>(by cases h3),fun h3=>?_⟩,fun h3=>(by cases h3)⟩
    exfalso
    have:=h3.1.1.1
    omega
   ·rw [if_neg h1]
    by_cases h2:rowK op=false
    ·rw [if_pos h2]
     refine ⟨⟨fun h3=>(by cases h3),fun h3=>?_⟩,fun h3=>(by cases h3)⟩
     have:=h3.1.1.2.1
     rw [h2] at this
     cases this
    ·rw [if_neg h2]
     by_cases h4:zg9 (rowN op) s=true∧l.length≤rowA op∧m.length=rowS op
     ·rw [if_neg (not_not_intro h4)]
      have hr:op<17∧rowK op=true∧zg9 (rowN op) s=true∧l.length≤rowA op∧m.length=rowS op:=⟨by omega,by simpa using h2,h4⟩
      have h5:=jTs_iff (d+1) l (L-1) (by omega) (by omega)
      by_cases hj:(jTs (d+1) l (L-1)).2=true
      ·have h6:=h5.1.1 hj
       rw [if_pos hj,h5.2 hj]
       have ih:=jFs_iff (d+1) m (L-1-szzTs l) (by omega) (by omega)
       refine ⟨ih.1.trans ⟨fun h7=>⟨⟨hr,h6.1,h7.1⟩,by omega,by omega⟩,fun h7=>⟨h7.1.2.2,by omega,by omega⟩⟩,fun h7=>?_⟩
       rw [ih.2 h7]
       omega
      ·rw [if_neg hj]
       refine ⟨⟨fun h3=>(by cases h3),fun h3=>?_⟩,fun h3=>(by cases h3)⟩
       exact absurd (h5.1.2 ⟨h3.1.2.1,by omega,by omega⟩) hj
     ·rw [if_pos h4]
      refine ⟨⟨fun h3=>(by cases h3),fun h3=>?_⟩,fun h3=>(by cases h3)⟩
      exact absurd h3.1.1.2.2 h4
theorem jFs_iff (d:Nat):∀ (l:List Fo) (L:Int),0≤L→d≤41→((jFs d l L).2=true↔rfFs l=true∧(szzFs l:Int)≤L∧d+dpFs l≤41)∧((jFs d l L).2=true→(jFs d l L).1=L-(szzFs l:Int))
 | [],L,h,hd=>by
   unfold jFs rfFs szzFs dpFs
   refine ⟨⟨fun _=>⟨rfl,by omega,by omega⟩,fun _=>rfl⟩,fun _=>?_⟩
   show L=_
   omega
 | x::l,L,h,hd=>by
   have e1:rfFs (x::l)=(rfF x&&rfFs l):=by rw [rfFs.eq_def]
   have e2:szzFs (x::l)=szzF x+szzFs l:=by rw [szzFs.eq_def]
   have e3:dpFs (x::l)=max (dpF x) (dpFs l):=by rw [dpFs.eq_def]
   rw [zeq,e1,e2,e3]
   have h1:=jF_iff d x L h
   by_cases hj:(jF d x L).2=true
   ·have h2:=h1.1.1 hj
    have h3:=h1.2 hj
    rw [if_pos hj,h3,h2.1]
    have ih:=jFs_iff d l (L-szzF x) (by omega) hd
    refine ⟨ih.1.trans ⟨fun h4=>⟨by rw [h4.1];rfl,by omega,by omega⟩,fun h4=>⟨(ybn.1 h4.1).2,by omega,by omega⟩⟩,fun h4=>?_⟩
    rw [ih.2 h4]
    omega
   ·rw [if_neg hj]
    refine ⟨⟨fun h3=>(by cases h3),fun h3=>?_⟩,fun h3=>(by cases h3)⟩
    exact absurd (h1.1.2 ⟨(ybn.1 h3.1).1,by omega,by omega⟩) hj
end
theorem refR_eq (x:Fo):refR x=(jF 1 x 400).2:=by
 have h:=(jF_iff 1 x 400 (by omega)).1
 apply ycd.2
 rw [h]
 unfold refR
 simp only [yak,decide_eq_true_eq]
 refine ⟨fun h=>⟨h.1,by omega,by omega⟩,fun h=>⟨h.1,by omega,by omega⟩⟩
theorem ref11R_eq (x:Fo):(refR x&&foR x)=zee x:=by
 rw [refR_eq]
 rfl
section
attribute [local irreducible] VW VCall VO bits
theorem encN_below (n:Nat) (l:List Nat):zab n (l.flatMap encN):=zbl _ fun x=>by simp [encN,zab,below]
theorem EqN.quoB {m n:Nat} {x y:Int} {k:Int→Prop} (hx:x=m) (hy:y=n) (hn:1≤n) (hm:m≤9223372036854775807) (a:k ((m / n:Nat):Int)):EqN (IntKind.i64.wrap (x.tdiv y)) k:=by
 subst hx
 subst hy
 refine EqN.quo ⟨by omega,by omega,by omega⟩ ?_
 rwa [← Int.natCast_ediv]
theorem digits_w (n b k:Nat) (hb:1≤b) (hn:n≤9223372036854775807) (hk:k≤3) (H:Heap) (i:Nat) (hi:H.length=i):VCall Tryz.prog 92 [.int .i64 (n:Nat),.int .i64 (b:Nat),.int .i64 (k:Nat)] H (fun r H'=>r=.ms i 0 k∧H'=H++[.box 3 ((digN b k n).flatMap encN)]):=by
 subst hi
 have d1:=Nat.div_le_self n b
 have d2:=Nat.div_le_self (n / b) b
 have d3:=Nat.div_le_self (n / b / b) b
 have:k=0∨k=1∨k=2∨k=3:=by omega
 rcases this with rfl|rfl|rfl|rfl
 all_goals
  refine fdG Tryz.func92 ⟨rfl,rfl,rfl⟩ fun hcl hbl=>?_
  (repeat' ((conv=>whnf);(first|refine OrN.natL ?_|(refine yc0 ?_;first|(refine zb5 _ _ Cst.h Cst.h ?_ ?_;· omega)|refine yco (by omega) ?_|fail)|(refine yaf ?_ ?_;· first|omega|(simp;done)|fail)|refine ydh _ rfl ?_|refine OrN.r ?_|fail)));all_goals (conv=>whnf)
  refine ybe Tryz.E0 zag 4 rfl ?_
  (repeat' ((conv=>whnf);(first|(refine yai ?_;first|refine yaq rfl ?_|refine yau rfl ?_|fail)|(refine yc0 ?_;first|with_reducible refine EqN.quoB rfl rfl hb (by omega) ?_|(refine zb5 _ _ Cst.h Cst.h ?_ ?_;· omega)|refine EqN.remN _ _ Cst.h Cst.h ?_|refine yco (by omega) ?_|fail)|refine yaf (by omega) ?_|refine yce _ rfl ?_|refine OfsN.at_ (by omega) ?_|fail)));all_goals (conv=>whnf)
  exact yem _ (yae _) ⟨rfl,rfl⟩
theorem digits_c (n b k:Nat) (hb:1≤b) (hn:n≤9223372036854775807) (hk:k≤3) (H:Heap):VDet Tryz.prog 92 [.int .i64 (n:Nat),.int .i64 (b:Nat),.int .i64 (k:Nat)] H (.sl none k ((digN b k n).flatMap encN)):=by
 have d1:=Nat.div_le_self n b
 have d2:=Nat.div_le_self (n / b) b
 have d3:=Nat.div_le_self (n / b / b) b
 have:k=0∨k=1∨k=2∨k=3:=by omega
 rcases this with rfl|rfl|rfl|rfl
 all_goals
  refine fdD Tryz.func92 ⟨rfl,rfl,rfl⟩ fun hcl hbl=>?_
  (repeat' ((conv=>whnf);(first|refine OrN.natL ?_|(refine yc0 ?_;first|(refine zb5 _ _ Cst.h Cst.h ?_ ?_;· omega)|refine yco (by omega) ?_|fail)|(refine yaf ?_ ?_;· first|omega|(simp;done)|fail)|refine ydh _ rfl ?_|refine OrN.r ?_|fail)));all_goals (conv=>whnf)
  refine ybe Tryz.E0 zag 4 rfl ?_
  (repeat' ((conv=>whnf);(first|(refine yai ?_;first|refine yaq rfl ?_|refine yau rfl ?_|fail)|(refine yc0 ?_;first|with_reducible refine EqN.quoB rfl rfl hb (by omega) ?_|(refine zb5 _ _ Cst.h Cst.h ?_ ?_;· omega)|refine EqN.remN _ _ Cst.h Cst.h ?_|refine yco (by omega) ?_|fail)|refine yaf (by omega) ?_|refine yce _ rfl ?_|refine OfsN.at_ (by omega) ?_|fail)));all_goals (conv=>whnf)
  exact ydy (u':=.sl none _ _) (by simp [below,encN_below]) (Frz.ms (by exact rfl) (by exact rfl) (ydu _)) (yae _)
theorem SubN.tail {x:AV} {cs:List AV} {o n m:Nat} {k:List AV→Prop} (ho:o=1) (hn:n=m) (hc:cs.length=m) (a:k cs):SubN (x::cs) o n k:=by
 subst ho
 subst hn
 exact ⟨cs,⟨⟨[],by simp⟩,hc⟩,a⟩
theorem next_c (q n:Nat) (c:Int) (cs:List AV) (hc:cs.length=n) (hcs:∀ m,zab m cs) (H:Heap) (hq:H[q]? = some (.box 32 [.sl none (n+1) (.int .i64 c::cs)])):VCall Tryz.prog 91 [.ptr q 0] H (setR H q (.box 32 [.sl none n cs]) (.int .i64 c)):=by
 refine fdG Tryz.func91 ⟨rfl,rfl,rfl⟩ fun hcl hbl=>?_
 (repeat' ((conv=>whnf);(first|(refine yaf ?_ ?_;· first|omega|exact yaa _ _|(simp;done)|fail)|refine yeh _ rfl ?_|refine ydh _ rfl ?_|refine SubN.tail rfl (by show (n+1-1) * 1=n;omega) hc ?_|refine ych _ (by (repeat' (first|assumption|exact zbc _ rfl|exact za2 rfl|refine za9 (B':=?_) ?_|refine zat ?_|fail))) ?_|refine ydq _ (zcm rfl) ?_|fail)));conv=>whnf
 exact za0 (by simp [Blk.below,below,zab,hcs]) trivial (yae _)
end
end Go.Proofs.YtgdmldelijeaoaaGreatDoor
