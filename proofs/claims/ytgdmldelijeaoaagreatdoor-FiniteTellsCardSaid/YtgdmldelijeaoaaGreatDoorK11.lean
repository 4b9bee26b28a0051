/- A text of the proof: the parts AM41, AN41, VK41, VL41, VN41, AO41, AP41, AQ41, AR41, AS41, AT41, AU41, AV41, AW41, PM41, AX41, AY41, PF41, PG41, PH41. -/
import Derived.Test.YtgdmldelijeaoaaGreatDoorK10
set_option linter.unusedSimpArgs false
set_option linter.unusedVariables false
set_option maxHeartbeats 8000000
namespace Go.Proofs.YtgdmldelijeaoaaGreatDoor
open Go.Vsi
section
attribute [local irreducible] VW VCall VO bits
def hasB (m:Mdl) (s:Sig):Bool:=s.preds.all (fun p=>(m.facts.find? (factP p.1 p.2)).isSome)&&(s.funcs.all (fun p=>(m.funcs.find? (funcP p.1 p.2)).isSome)&&s.vars.all (fun x=>(m.binds.find? (bindP x)).isSome))
theorem symI_ex (x:SymI):∃ u v,x=(u,v)∧symI x=[.str u,.int .i64 v]:=⟨x.1,x.2,rfl,rfl⟩
theorem encS_ex (x:ByteArray):∃ u,x=u∧encS x=[.str u]:=⟨x,rfl,rfl⟩
theorem has_c (m:Mdl) (hm:m.Sm) (s:Sig) (h1:s.preds.length≤1000000) (h2:s.funcs.length≤1000000) (h3:s.vars.length≤1000000) (H:Heap):VDet Tryz.prog 73 [.agg m.cells,.agg s.cells] H (.bool (hasB m s)):=by
 have hf1:=fun u v H=>find139_c m.facts (by have:=hm.facts;omega) u v H
 have hf2:=fun u v H=>find141_c m.funcs (by have:=hm.funcs;omega) u v H
 have hf3:=fun u H=>find143_c m.binds (by have:=hm.binds;omega) u H
 have hmc:m.cells=[.int .u8 m.kind,.int .i64 m.size,.sl none m.rel.length (m.rel.flatMap enc64),.int .i64 m.loop,.sl none m.facts.length (m.facts.flatMap Fct.cells),.sl none m.funcs.length (m.funcs.flatMap Fnc.cells),.sl none m.binds.length (m.binds.flatMap Bnd.cells)]:=rfl
 rw [hmc]
 unfold Sig.cells hasB
 refine fdD Tryz.func73 ⟨rfl,rfl,rfl⟩ fun hcl hbl=>?_
 conv=>whnf
 refine zax Tryz.E0 zag (σ:=Nat) (fun k=>k≤s.preds.length∧∀ y∈s.preds.take k,(fun p=>(m.facts.find? (factP p.1 p.2)).isSome) y=true) (fun k=>s.preds.length-k) (fun k=>[(20,.v (.int .i64 k))]) (fun _=>_) _ 0 rfl hcl [2,3,18,19] rfl ⟨yah _,fun y hy=>(by cases hy)⟩ ⟨⟨_,rfl,yae _⟩,trivial⟩ rfl (fun _ _=>rfl) ?_
 rintro k ⟨hk,hinv⟩
 rcases yag k s.preds.length with hlt|hge
 ·obtain ⟨u,v,hx,e1⟩:=symI_ex (s.preds.getD k symI0)
  have hfc:=hf1 u v
  have hbv:(fun p=>(m.facts.find? (factP p.1 p.2)).isSome) (s.preds.getD k symI0)=(m.facts.find? (factP u v)).isSome:=by rw [hx]
  obtain ⟨x1,x2,x3,hxx,hxc⟩:=zhc (f:=(m.facts.find? (factP u v)).getD fct0) rfl
  rw [hxc] at hfc
  cases hb:(m.facts.find? (factP u v)).isSome <;> rw [hb] at hfc hbv
  ·rw [zcj symI0 hlt hbv,ya0]
   (repeat' ((conv=>whnf);(first|(refine yai ?_;first|refine yas ?_|refine yau rfl ?_|refine yar (by omega) ?_|fail)|(refine yaf ?_ ?_;· first|omega|exact yaa _ _|fail)|refine yab _ (hfc _) ?_|refine zaa symI0 k rfl (by omega) za6 e1 ?_|fail)));conv=>whnf
   exact eT trivial
  ·(repeat' ((conv=>whnf);(first|(refine yai ?_;first|refine yas ?_|refine yaq rfl ?_|refine yar (by omega) ?_|fail)|(refine zad _ _ Cst.h Cst.h ?_ ?_;· omega)|(refine yaf ?_ ?_;· first|omega|exact yaa _ _|fail)|refine yab _ (hfc _) ?_|refine zaa symI0 k rfl (by omega) za6 e1 ?_|fail)));conv=>whnf
   (refine ⟨⟨k+1,⟨by omega,zbt symI0 hlt hinv hbv⟩,by omega,?_,.inl ⟨rfl,rfl⟩,rfl,_,rfl,?_⟩⟩;rotate_left 1;exact .inr ⟨by simp [zaw,below,zab,tr,zah,zak,zai,zam,zal,zan,zaj,zao],by simp [zbe,Blk.below,zab,below,zah,zak,zai,zam,zal,zan,zaj,zao]⟩;exact ⟨⟨_,rfl,yae _⟩,trivial⟩)
 ·have hke:k=s.preds.length:=by omega
  subst hke
  rw [ya3] at hinv
  rw [yao.2 hinv,ya9]
  (repeat' ((conv=>whnf);(first|refine ya1 (by omega) ?_|fail)));conv=>whnf
  refine zax Tryz.E0 zag (σ:=Nat) (fun k=>k≤s.funcs.length∧∀ y∈s.funcs.take k,(fun p=>(m.funcs.find? (funcP p.1 p.2)).isSome) y=true) (fun k=>s.funcs.length-k) (fun k=>[(37,.v (.int .i64 k))]) (fun _=>_) _ 0 rfl hcl [2,3,35,36] rfl ⟨yah _,fun y hy=>(by cases hy)⟩ ⟨⟨_,rfl,yae _⟩,trivial⟩ rfl (fun _ _=>rfl) ?_
  rintro k ⟨hk,hinv⟩
  rcases yag k s.funcs.length with hlt|hge
  ·obtain ⟨u,v,hx,e1⟩:=symI_ex (s.funcs.getD k symI0)
   have hfc:=hf2 u v
   have hbv:(fun p=>(m.funcs.find? (funcP p.1 p.2)).isSome) (s.funcs.getD k symI0)=(m.funcs.find? (funcP u v)).isSome:=by rw [hx]
   obtain ⟨x1,x2,x3,hxx,hxc⟩:=zha (f:=(m.funcs.find? (funcP u v)).getD fnc0) rfl
   rw [hxc] at hfc
   cases hb:(m.funcs.find? (funcP u v)).isSome <;> rw [hb] at hfc hbv
   ·rw [zcj symI0 hlt hbv,ya0]
    (repeat' ((conv=>whnf);(first|(refine yai ?_;first|refine yas ?_|refine yau rfl ?_|refine yar (by omega) ?_|fail)|(refine yaf ?_ ?_;· first|omega|exact yaa _ _|fail)|refine yab _ (hfc _) ?_|refine zaa symI0 k rfl (by omega) za6 e1 ?_|fail)));conv=>whnf
    exact eT trivial
   ·(repeat' ((conv=>whnf);(first|(refine yai ?_;first|refine yas ?_|refine yaq rfl ?_|refine yar (by omega) ?_|fail)|(refine zad _ _ Cst.h Cst.h ?_ ?_;· omega)|(refine yaf ?_ ?_;· first|omega|exact yaa _ _|fail)|refine yab _ (hfc _) ?_|refine zaa symI0 k rfl (by omega) za6 e1 ?_|fail)));conv=>whnf
    (refine ⟨⟨k+1,⟨by omega,zbt symI0 hlt hinv hbv⟩,by omega,?_,.inl ⟨rfl,rfl⟩,rfl,_,rfl,?_⟩⟩;rotate_left 1;exact .inr ⟨by simp [zaw,below,zab,tr,zah,zak,zai,zam,zal,zan,zaj,zao],by simp [zbe,Blk.below,zab,below,zah,zak,zai,zam,zal,zan,zaj,zao]⟩;exact ⟨⟨_,rfl,yae _⟩,trivial⟩)
  ·have hke:k=s.funcs.length:=by omega
   subst hke
   rw [ya3] at hinv
   rw [yao.2 hinv,ya9]
   (repeat' ((conv=>whnf);(first|refine ya1 (by omega) ?_|fail)));conv=>whnf
   refine zax Tryz.E0 zag (σ:=Nat) (fun k=>k≤s.vars.length∧∀ y∈s.vars.take k,(fun x=>(m.binds.find? (bindP x)).isSome) y=true) (fun k=>s.vars.length-k) (fun k=>[(54,.v (.int .i64 k))]) (fun _=>_) _ 0 rfl hcl [2,52,53] rfl ⟨yah _,fun y hy=>(by cases hy)⟩ ⟨⟨_,rfl,yae _⟩,trivial⟩ rfl (fun _ _=>rfl) ?_
   rintro k ⟨hk,hinv⟩
   rcases yag k s.vars.length with hlt|hge
   ·obtain ⟨u,hx,e1⟩:=encS_ex (s.vars.getD k ByteArray.empty)
    have hfc:=hf3 u
    have hbv:(fun x=>(m.binds.find? (bindP x)).isSome) (s.vars.getD k ByteArray.empty)=(m.binds.find? (bindP u)).isSome:=by rw [hx]
    obtain ⟨x1,x2,hxx,hxc⟩:=zf4 (f:=(m.binds.find? (bindP u)).getD bnd0) rfl
    rw [hxc] at hfc
    cases hb:(m.binds.find? (bindP u)).isSome <;> rw [hb] at hfc hbv
    ·rw [zcj ByteArray.empty hlt hbv]
     (repeat' ((conv=>whnf);(first|(refine yai ?_;first|refine yas ?_|refine yau rfl ?_|refine yar (by omega) ?_|fail)|(refine yaf ?_ ?_;· first|omega|exact yaa _ _|fail)|refine yab _ (hfc _) ?_|refine zaa ByteArray.empty k rfl (by omega) zb4 e1 ?_|fail)));conv=>whnf
     exact eT trivial
    ·(repeat' ((conv=>whnf);(first|(refine yai ?_;first|refine yas ?_|refine yaq rfl ?_|refine yar (by omega) ?_|fail)|(refine zad _ _ Cst.h Cst.h ?_ ?_;· omega)|(refine yaf ?_ ?_;· first|omega|exact yaa _ _|fail)|refine yab _ (hfc _) ?_|refine zaa ByteArray.empty k rfl (by omega) zb4 e1 ?_|fail)));conv=>whnf
     (refine ⟨⟨k+1,⟨by omega,zbt ByteArray.empty hlt hinv hbv⟩,by omega,?_,.inl ⟨rfl,rfl⟩,rfl,_,rfl,?_⟩⟩;rotate_left 1;exact .inr ⟨by simp [zaw,below,zab,tr,zah,zak,zai,zam,zal,zan,zaj,zao],by simp [zbe,Blk.below,zab,below,zah,zak,zai,zam,zal,zan,zaj,zao]⟩;exact ⟨⟨_,rfl,yae _⟩,trivial⟩)
   ·have hke:k=s.vars.length:=by omega
    subst hke
    rw [ya3] at hinv
    rw [yao.2 hinv]
    (repeat' ((conv=>whnf);(first|refine ya1 (by omega) ?_|fail)));conv=>whnf
    exact eT trivial
theorem frT_mem (c:ByteArray→Int) (x:ByteArray):∀ (t:Tq) (ns:List ByteArray),x∈frT c ns t.tm↔x∈ns∨(t.hasV x∧c x=0)
 | .vr s,ns=>by
   show x∈frT c ns (.mk true s [])↔x∈ns∨(s=x∧c x=0)
   rw [frT_mk,zcw]
   by_cases h:c s=0
   ·rw [if_pos ⟨rfl,h⟩,zgx]
    constructor
    ·rintro (h2|rfl)
     ·exact .inl h2
     ·exact .inr ⟨rfl,h⟩
    ·rintro (h2|⟨rfl,-⟩)
     ·exact .inl h2
     ·exact .inr rfl
   ·rw [if_neg (fun q=>h q.2)]
    exact ⟨.inl,fun q=>q.elim id fun q=>absurd (q.1▸q.2) h⟩
 | .cn s,ns=>by
   show x∈frT c ns (.mk false s [])↔x∈ns∨(False∧c x=0)
   rw [frT_mk,zcw,if_neg (fun q=>by cases q.1)]
   simp
 | .ap s t,ns=>by
   show x∈frT c ns (.mk false s [t.tm])↔x∈ns∨(t.hasV x∧c x=0)
   rw [frT_mk,zdt,zcw,if_neg (fun q=>by cases q.1)]
   exact frT_mem c x t ns
theorem frTs_mem (c:ByteArray→Int) (x:ByteArray):∀ (l:List Tq) (ns:List ByteArray),x∈frTs c ns (l.map Tq.tm)↔x∈ns∨((∃ t∈l,t.hasV x)∧c x=0)
 | [],ns=>by rw [yd2,zcw];simp
 | t::l,ns=>by
   rw [yb4,zdt,frTs_mem c x l,frT_mem,zed]
   constructor
   ·rintro ((h|⟨h1,h2⟩)|⟨h1,h2⟩)
    ·exact .inl h
    ·exact .inr ⟨.inl h1,h2⟩
    ·exact .inr ⟨.inr h1,h2⟩
   ·rintro (h|⟨h1|h1,h2⟩)
    ·exact .inl (.inl h)
    ·exact .inl (.inr ⟨h1,h2⟩)
    ·exact .inr ⟨h1,h2⟩
theorem frF_mem (x:ByteArray):∀ (p:Fq) (c:ByteArray→Int) (ns:List ByteArray),p.Ok→(∀ y,0≤c y)→(x∈frF c ns p.fo↔x∈ns∨(p.free x∧c x=0))
 | .at_ s l,c,ns,_,_=>by
   show x∈frF c ns (.mk 1 s (l.map Tq.tm) [])↔x∈ns∨((∃ t∈l,t.hasV x)∧c x=0)
   rw [frF_mk,zd4,frTs_mem]
 | .fa,c,ns,_,_=>by
   show x∈frF c ns (.mk 2 .empty [] [])↔x∈ns∨(False∧c x=0)
   rw [frF_mk,zd4,zcw]
   simp
 | .f1 a,c,ns,h,hc=>by
   show x∈frF c ns (.mk 3 .empty [] [a.fo])↔x∈ns∨(a.free x∧c x=0)
   rw [frF_mk,zea,zd4,zcw]
   exact frF_mem x a c ns h hc
 | .f2 k a b,c,ns,h,hc=>by
   have hq:isQ k=false:=by rcases h.1 with rfl|rfl|rfl|rfl <;> rfl
   show x∈frF c ns (.mk k .empty [] [a.fo,b.fo])↔x∈ns∨((a.free x∨b.free x)∧c x=0)
   rw [frF_mk,zea,zea,zd4,zcw,hq]
   simp only [yba,if_false]
   rw [frF_mem x b c _ h.2.2 hc,frF_mem x a c _ h.2.1 hc]
   constructor
   ·rintro ((h|⟨h1,h2⟩)|⟨h1,h2⟩)
    ·exact .inl h
    ·exact .inr ⟨.inl h1,h2⟩
    ·exact .inr ⟨.inr h1,h2⟩
   ·rintro (h|⟨h1|h1,h2⟩)
    ·exact .inl (.inl h)
    ·exact .inl (.inr ⟨h1,h2⟩)
    ·exact .inr ⟨h1,h2⟩
 | .qn k y a,c,ns,h,hc=>by
   have hq:isQ k=true:=by rcases h.1 with rfl|rfl <;> rfl
   show x∈frF c ns (.mk k y [] [a.fo])↔x∈ns∨((a.free x∧x≠y)∧c x=0)
   rw [frF_mk,zea,zd4,zcw,hq]
   simp only [if_true]
   rw [frF_mem x a _ _ h.2 (fun z=>by
    unfold updC
    split
    ·have:=hc y;omega
    ·exact hc z)]
   have hcy:=hc y
   unfold updC
   by_cases hxy:x=y
   ·subst hxy
    rw [if_pos rfl]
    constructor
    ·rintro (h|⟨-,h2⟩)
     ·exact .inl h
     ·omega
    ·rintro (h|⟨⟨-,h1⟩,-⟩)
     ·exact .inl h
     ·exact absurd rfl h1
   ·rw [if_neg hxy]
    exact ⟨fun q=>q.elim .inl fun q=>.inr ⟨⟨q.1,hxy⟩,q.2⟩,fun q=>q.elim .inl fun q=>.inr ⟨q.1.1,q.2⟩⟩
theorem zh6 {p:Fq} (h:p.Ok) (x:ByteArray):x∈freeF p.fo↔p.free x:=by
 unfold freeF
 rw [frF_mem x p _ _ h (fun _=>Int.le_refl _)]
 simp
theorem vm_of {m:Mdl} (h:zb0 m=true):VM m m.size.toNat∧m.kind=2∧m.rel.length=0∧m.loop=0:=by
 unfold zb0 at h
 rw [yak,yak,yak,yak,decide_eq_true_eq] at h
 obtain ⟨⟨q1,q2,q3,q4,q5⟩,hs,h1,h2,h3⟩:=h
 unfold sigR at hs
 rw [yak,yak] at hs
 rw [yao] at h1 h2 h3
 refine ⟨⟨by omega,by omega,by omega,fun f hf=>?_,fun f hf=>?_,fun b hb=>?_⟩,q1,q4,q5⟩
 ·have hp:=inc_p hs.1 (f.nm,f.ar) (ybx.2 ⟨f,hf,rfl⟩)
  unfold predO at hp
  simp only [yak,decide_eq_true_eq] at hp
  have ho:=h1 f hf
  unfold okFct at ho
  simp only [yak,decide_eq_true_eq] at ho
  exact ⟨by omega,ho.1,by have:=ho.2;omega⟩
 ·have hp:=inc_p hs.2.1 (f.nm,f.ar) (ybx.2 ⟨f,hf,rfl⟩)
  unfold funcO at hp
  simp only [yak,decide_eq_true_eq] at hp
  have ho:=h2 f hf
  unfold okFnc at ho
  rw [yak,decide_eq_true_eq,yao] at ho
  refine ⟨by omega,ho.1,fun v hv=>?_⟩
  have he:=ho.2 v hv
  unfold elB at he
  simp only [yak,decide_eq_true_eq] at he
  omega
 ·have he:=h3 b hb
  unfold okBnd elB at he
  simp only [yak,decide_eq_true_eq] at he
  omega
theorem has_of {m:Mdl} {p:Fq} (hok:p.Ok) (h:hasB m (sigF p.fo)=true):(∀ s a,p.hasP s a→hasFct m s a)∧(∀ s a,p.hasC s a→zgl m s a)∧∀ x,p.free x→zic m x:=by
 unfold hasB at h
 rw [yak,yak,yao,yao,yao] at h
 have nn:∀ (q:Fq) (s:ByteArray) (a:Int),q.hasP s a→0≤a:=by
  intro q
  induction q with
  | at_ c l=>intro s a h;have:=h.2;omega
  | fa=>intro s a h;exact h.elim
  | f1 q ih=>exact fun s a h=>ih s a h
  | f2 k q r ih1 ih2=>exact fun s a h=>h.elim (ih1 s a) (ih2 s a)
  | qn k x q ih=>exact fun s a h=>ih s a h
 have nt:∀ (t:Tq) (s:ByteArray) (a:Int),t.hasC s a→0≤a:=by
  intro t
  induction t with
  | vr c=>intro s a h;exact h.elim
  | cn c=>intro s a h;have:=h.2;omega
  | ap c t ih=>exact fun s a h=>h.elim (fun h=>by have:=h.2;omega) (ih s a)
 have nc:∀ (q:Fq) (s:ByteArray) (a:Int),q.hasC s a→0≤a:=by
  intro q
  induction q with
  | at_ c l=>exact fun s a ⟨t,_,h⟩=>nt t s a h
  | fa=>intro s a h;exact h.elim
  | f1 q ih=>exact fun s a h=>ih s a h
  | f2 k q r ih1 ih2=>exact fun s a h=>h.elim (ih1 s a) (ih2 s a)
  | qn k x q ih=>exact fun s a h=>ih s a h
 refine ⟨fun s a hp=>?_,fun s a hp=>?_,fun x hp=>?_⟩
 ·obtain ⟨n,rfl⟩:∃ n:Nat,a=n:=⟨a.toNat,by have:=nn p s a hp;omega⟩
  exact h.1 (s,(n:Int)) (ybx.2 ⟨(s,n),(zbp _).mem_iff.2 ((zh5 hok (s,n)).2 hp),rfl⟩)
 ·obtain ⟨n,rfl⟩:∃ n:Nat,a=n:=⟨a.toNat,by have:=nc p s a hp;omega⟩
  exact h.2.1 (s,(n:Int)) (ybx.2 ⟨(s,n),(zbp _).mem_iff.2 ((mem_funY hok (s,n)).2 hp),rfl⟩)
 ·exact h.2.2 x ((zc6 _).mem_iff.2 ((zh6 hok x).2 hp))
theorem qd_rank:∀ p:Fq,p.Ok→qdF p.fo=rankF p
 | .at_ s l,_=>by show qdF (.mk 1 s (l.map Tq.tm) [])=0;rw [qdF_mk];rw [qdFs.eq_def];rfl
 | .fa,_=>by show qdF (.mk 2 .empty [] [])=0;rw [qdF_mk,qdFs.eq_def];rfl
 | .f1 a,h=>by
   show qdF (.mk 3 .empty [] [a.fo])=rankF a
   rw [qdF_mk,zgc,qdFs.eq_def,qd_rank a h]
   show 0+max (rankF a) 0=rankF a
   omega
 | .f2 k a b,h=>by
   have hq:isQ k=false:=by rcases h.1 with rfl|rfl|rfl|rfl <;> rfl
   show qdF (.mk k .empty [] [a.fo,b.fo])=max (rankF a) (rankF b)
   rw [qdF_mk,zgc,zgc,qdFs.eq_def,qd_rank a h.2.1,qd_rank b h.2.2,hq]
   show 0+max (rankF a) (max (rankF b) 0)=_
   omega
 | .qn k x a,h=>by
   have hq:isQ k=true:=by rcases h.1 with rfl|rfl <;> rfl
   show qdF (.mk k x [] [a.fo])=rankF a+1
   rw [qdF_mk,zgc,qdFs.eq_def,qd_rank a h.2,hq]
   show 1+max (rankF a) 0=_
   omega
structure FqSm (p:Fq):Prop where
 good:p.fo.good
 ok:p.Ok
 lp:(predY p.fo).length≤1000000
 lu:(funY p.fo).length≤1000000
 lv:(freeF p.fo).length≤1000000
theorem eval_bad (m:Mdl) (hm:m.Sm) (hn:m.Nm) (f:Fo) (hg:f.good) (h:zb0 m=false∨zee f=false) (H:Heap):VDet Tryz.prog 18 [.agg m.cells,.agg f.cells] H (.tup [.bool false,.int .i64 2]):=by
 have h1:=fun H=>zf5 m hm hn H
 have h2:=fun H=>rightQ_c f hg H
 obtain ⟨e1,e2,e3,e4,e5,e6,e7,e8,e9,e10,e11,hmc,hb⟩:=zdq m
 obtain ⟨w1,w2,w3,w4,w5,w6,hw,hwb⟩:=zbz f
 rw [hmc] at h1 ⊢
 rw [hw] at h2 ⊢
 cases hv:zb0 m <;> rw [hv] at h1
 ·refine fdD Tryz.func18 ⟨rfl,rfl,rfl⟩ fun hcl hbl=>?_
  (repeat' ((conv=>whnf);(first|(refine yai ?_;first|refine yas ?_|refine yau rfl ?_|fail)|refine yab _ (h1 _) ?_|fail)));conv=>whnf
  exact eT (by simp [below,zab])
 ·rw [hv] at h
  rw [h.resolve_left (by decide)] at h2
  refine fdD Tryz.func18 ⟨rfl,rfl,rfl⟩ fun hcl hbl=>?_
  (repeat' ((conv=>whnf);(first|(refine yai ?_;first|refine yas ?_|refine yaq rfl ?_|refine yau rfl ?_|fail)|(refine ybm ?_;first|refine yab _ (h1 _) ?_|refine yab _ (h2 _) ?_|fail)|fail)));conv=>whnf
  exact eT (by simp [below,zab])
theorem eval_c (m:Mdl) (hm:m.Sm) (hn:m.Nm) (p:Fq) (hp:FqSm p) (hva:zb0 m=true) (hr:zee p.fo=true) (H:Heap):VDet Tryz.prog 18 [.agg m.cells,.agg p.fo.cells] H (if 6<rankF p then .tup [.bool false,.int .i64 3] else if hasB m (sigF p.fo) then .tup [.bool (hv m p (bindF m)),.int .i64 0] else .tup [.bool false,.int .i64 6]):=by
 obtain ⟨hg,hok,l1,l2,l3⟩:=hp
 have hrk:rankF p≤40:=by
  have hh:(jF 1 p.fo 400).2=true:=by
   unfold zee at hr
   rw [yak] at hr
   exact hr.1
  have:=rank_bd p 1 400 hok hh
  omega
 have g1:=fun H=>zf5 m hm hn H
 have g2:=fun H=>rightQ_c p.fo hg H
 have g3:=rank_c p hok (by omega)
 have g4:=fun H=>symbols_c p.fo hg l1 l2 l3 (by rw [qd_rank p hok];omega) H
 have g5:=fun H=>has_c m hm (sigF p.fo) (by show ((sortY _).map _).length≤_;rw [yav,(zbp _).length_eq];exact l1) (by show ((sortY _).map _).length≤_;rw [yav,(zbp _).length_eq];exact l2) (by show (sortB _).length≤_;rw [(zc6 _).length_eq];exact l3) H
 obtain ⟨vm,-,-,-⟩:=vm_of hva
 have g6:=fun H=>valuesOf_c m H
 have g7:hasB m (sigF p.fo)=true→∀ H,VDet Tryz.prog 75 [.agg m.cells,.agg p.fo.cells,.clo (.func 155) [] [.rptr m.cells]] H (.bool (hv m p (bindF m))):=fun hh H=>by
  obtain ⟨q1,q2,q3⟩:=has_of hok hh
  exact holds_c m hm _ vm p hok (values_c m hm) (fun x hx=>by
   obtain ⟨b,hb,-,he⟩:=bind_in (q3 x hx)
   rw [he]
   exact vm.binds b hb) q2 q1 H
 rw [hva] at g1
 rw [hr] at g2
 obtain ⟨sp,sc,sfu,sfc,sv,svc,hsc,hsb⟩:∃ a b c d e f,(sigF p.fo).cells=[.sl none a b,.sl none c d,.sl none e f]∧∀ n,zab n b∧zab n d∧zab n f:=⟨_,_,_,_,_,_,rfl,fun n=>⟨zaj n _,zaj n _,zao n _⟩⟩
 obtain ⟨e1,e2,e3,e4,e5,e6,e7,e8,e9,e10,e11,hmc,hb⟩:=zdq m
 obtain ⟨w1,w2,w3,w4,w5,w6,hw,hwb⟩:=zbz p.fo
 generalize hv m p (bindF m)=hV at g7 ⊢
 generalize hasB m (sigF p.fo)=hB at g5 g7 ⊢
 rw [hmc] at g1 g5 g6 g7 ⊢
 rw [hw] at g2 g3 g4 g7 ⊢
 rw [hsc] at g4 g5
 have g4:∀ H,VDet Tryz.prog 74 [.sx 1 [.int .u8 (w1:Nat),.str w2,.sl none w3 w4,.sl none w5 w6]] H (.agg [.sl none sp sc,.sl none sfu sfc,.sl none sv svc]):=fun H=>zbq (g4 H) ⟨wk_sx _ _,trivial⟩
 by_cases hc:6<rankF p
 ·rw [if_pos hc]
  refine fdD Tryz.func18 ⟨rfl,rfl,rfl⟩ fun hcl hbl=>?_
  (repeat' ((conv=>whnf);(first|(refine yai ?_;first|refine yas ?_|refine yaq rfl ?_|refine yar (by omega) ?_|fail)|(refine ybm ?_;first|refine yab _ (g1 _) ?_|refine yab _ (g2 _) ?_|refine yab _ (g3 _) ?_|fail)|fail)));conv=>whnf
  exact eT (by simp [below,zab])
 ·rw [if_neg hc]
  cases hB
  ·refine fdD Tryz.func18 ⟨rfl,rfl,rfl⟩ fun hcl hbl=>?_
   (repeat' ((conv=>whnf);(first|(refine yai ?_;first|refine yas ?_|refine yaq rfl ?_|refine yau rfl ?_|refine ya1 (by omega) ?_|fail)|refine yaf (by kernel_rfl) ?_|(refine ybm ?_;first|refine yab _ (g1 _) ?_|refine yab _ (g2 _) ?_|refine yab _ (g3 _) ?_|fail)|(refine yck ?_;first|refine yan _ (fun _ hq X=>g4 _) ?_|refine yan _ (fun _ hq X=>g5 _) ?_|fail)|refine zae [] ?_|fail)));conv=>whnf
   exact eT (by simp [below,zab])
  ·have g8:=g7 rfl
   refine fdD Tryz.func18 ⟨rfl,rfl,rfl⟩ fun hcl hbl=>?_
   (repeat' ((conv=>whnf);(first|(refine yai ?_;first|refine yas ?_|refine yaq rfl ?_|refine ya1 (by omega) ?_|fail)|refine yaf (by kernel_rfl) ?_|(refine ybm ?_;first|refine yab _ (g1 _) ?_|refine yab _ (g2 _) ?_|refine yab _ (g3 _) ?_|fail)|(refine yck ?_;first|refine yan _ (fun _ hq X=>g4 _) ?_|refine yan _ (fun _ hq X=>g5 _) ?_|refine yan _ (fun _ hq X=>g6 _) ?_|refine yan _ (fun _ hq X=>g8 _) ?_|fail)|refine zae [] ?_|fail)));conv=>whnf
   exact eT (by simp [below,zab])
def rvB (m:Mdl):Tq→Option Int
 | .vr s=>(m.binds.find? (bindP s)).map Bnd.at_
 | .cn s=>(m.funcs.find? (funcP s 0)).map fun f=>f.vl.getD 0 0
 | .ap s t=>(rvB m t).bind fun a=>(m.funcs.find? (funcP s 1)).map fun f=>f.vl.getD a.toNat 0
def optA (o:Option Int):AV:=.tup [.int .i64 (o.getD 0),.bool o.isSome]
theorem rvB_in {m:Mdl} {n:Nat} (hm:VM m n):∀ (t:Tq) (a:Int),rvB m t=some a→0≤a∧a<n
 | .vr s,a,h=>by
   unfold rvB at h
   obtain ⟨b,h1,rfl⟩:=ybb.1 h
   exact hm.binds b (yct h1)
 | .cn s,a,h=>by
   unfold rvB at h
   obtain ⟨f,h1,rfl⟩:=ybb.1 h
   obtain ⟨-,hl,hv⟩:=hm.funcs f (yct h1)
   have h2:=yea h1
   unfold funcP at h2
   rw [beq_iff_eq.1 (ybn.1 h2).2] at hl
   have hl:f.vl.length=1:=hl
   exact hv _ (zar f.vl 0 0 (by omega))
 | .ap s t,a,h=>by
   unfold rvB at h
   obtain ⟨b,hb,h⟩:=yd4.1 h
   obtain ⟨f,h1,rfl⟩:=ybb.1 h
   have hin:=rvB_in hm t b hb
   obtain ⟨-,hl,hv⟩:=hm.funcs f (yct h1)
   have h2:=yea h1
   unfold funcP at h2
   rw [beq_iff_eq.1 (ybn.1 h2).2] at hl
   have hl:f.vl.length=n:=hl.trans (Nat.pow_one n)
   exact hv _ (zar f.vl b.toNat 0 (by omega))
theorem rvar_c (m:Mdl) (hm:m.Sm) (s:ByteArray) (H:Heap):VDet Tryz.prog 128 [.agg m.cells,.agg (Tm.mk true s []).cells] H (optA (rvB m (.vr s))):=by
 have hbl2:=hm.binds
 rw [zav]
 rw [show rvB m (.vr s)=(m.binds.find? (bindP s)).map Bnd.at_ from rfl]
 have hmc:m.cells=[.int .u8 m.kind,.int .i64 m.size,.sl none m.rel.length (m.rel.flatMap enc64),.int .i64 m.loop,.sl none m.facts.length (m.facts.flatMap Fct.cells),.sl none m.funcs.length (m.funcs.flatMap Fnc.cells),.sl none m.binds.length (m.binds.flatMap Bnd.cells)]:=rfl
 rw [hmc]
 unfold optA
 simp only [ybg,ybh]
 refine fdD Tryz.func128 ⟨rfl,rfl,rfl⟩ fun hcl hbl=>?_
 (repeat' ((conv=>whnf);(first|refine yaq rfl ?_|fail)));conv=>whnf
 refine zax Tryz.E0 zag (σ:=Nat) (fun k=>k≤m.binds.length∧m.binds.find? (bindP s)=(m.binds.drop k).find? (bindP s)) (fun k=>m.binds.length-k) (fun k=>[(6,.v (.int .i64 k))]) (fun _=>_) _ 0 rfl hcl [2,3] rfl ⟨yah _,rfl⟩ ⟨⟨_,rfl,yae _⟩,trivial⟩ rfl (fun _ _=>rfl) ?_
 rintro k ⟨hk,hinv⟩
 rcases yag k m.binds.length with hlt|hge
 ·have hd:=zbn m.binds k bnd0 hlt
  rw [hd,yc8] at hinv
  obtain ⟨u,v,hx,e1⟩:=zf4 (f:=m.binds.getD k bnd0) rfl
  cases hp:bindP s (m.binds.getD k bnd0) with
  | true =>
    rw [hp] at hinv
    rw [hx] at hp hinv
    have hp2:(u.toList==s.toList)=true:=by simpa [bindP] using hp
    rw [hinv]
    (repeat' ((conv=>whnf);(first|(refine yai ?_;first|refine yaq hp2 ?_|refine yar (by omega) ?_|fail)|(refine yaf ?_ ?_;· first|kernel_rfl|omega|exact yaa _ _|fail)|refine zaa bnd0 k rfl (by omega) zbs e1 ?_|refine zae [] ?_|fail)));conv=>whnf
    exact eT (by simp [below,zab])
  | false =>
    rw [hp] at hinv
    rw [hx] at hp
    have hp2:(u.toList==s.toList)=false:=by simpa [bindP] using hp
    (repeat' ((conv=>whnf);(first|(refine yai ?_;first|refine yau hp2 ?_|refine yar (by omega) ?_|fail)|(refine zad _ _ Cst.h Cst.h ?_ ?_;· omega)|(refine yaf ?_ ?_;· first|kernel_rfl|omega|exact yaa _ _|fail)|refine zaa bnd0 k rfl (by omega) zbs e1 ?_|refine zae [] ?_|fail)));conv=>whnf
    (refine ⟨⟨k+1,⟨by omega,hinv⟩,by omega,?_,.inl ⟨rfl,rfl⟩,rfl,_,rfl,?_⟩⟩;rotate_left 1;exact .inl rfl;exact ⟨⟨_,rfl,yae _⟩,trivial⟩)
 ·have:k=m.binds.length:=by omega
  subst this
  rw [ybo] at hinv
  rw [hinv]
  (repeat' ((conv=>whnf);(first|refine ya1 (by omega) ?_|fail)));conv=>whnf
  exact eT (by simp [below,zab])
theorem rcon_c (m:Mdl) (hm:m.Sm) (n:Nat) (hv:VM m n) (s:ByteArray) (H:Heap):VDet Tryz.prog 128 [.agg m.cells,.agg (Tm.mk false s []).cells] H (optA (rvB m (.cn s))):=by
 have hul:=hm.funcs
 rw [zav]
 rw [show rvB m (.cn s)=(m.funcs.find? (funcP s 0)).map fun f=>f.vl.getD 0 0 from rfl]
 have hmc:m.cells=[.int .u8 m.kind,.int .i64 m.size,.sl none m.rel.length (m.rel.flatMap enc64),.int .i64 m.loop,.sl none m.facts.length (m.facts.flatMap Fct.cells),.sl none m.funcs.length (m.funcs.flatMap Fnc.cells),.sl none m.binds.length (m.binds.flatMap Bnd.cells)]:=rfl
 rw [hmc]
 unfold optA
 simp only [ybg,ybh]
 refine fdD Tryz.func128 ⟨rfl,rfl,rfl⟩ fun hcl hbl=>?_
 (repeat' ((conv=>whnf);(first|refine yau rfl ?_|fail)));conv=>whnf
 refine zax Tryz.E0 zag (σ:=Nat) (fun k=>k≤m.funcs.length∧m.funcs.find? (funcP s 0)=(m.funcs.drop k).find? (funcP s 0)) (fun k=>m.funcs.length-k) (fun k=>[(10,.v (.int .i64 k))]) (fun _=>_) _ 0 rfl hcl [2,3,7] rfl ⟨yah _,rfl⟩ ⟨⟨_,rfl,yae _⟩,trivial⟩ rfl (fun _ _=>rfl) ?_
 rintro k ⟨hk,hinv⟩
 rcases yag k m.funcs.length with hlt|hge
 ·have hd:=zbn m.funcs k fnc0 hlt
  rw [hd,yc8] at hinv
  have hfo:=hv.funcs _ (zar m.funcs k fnc0 hlt)
  obtain ⟨u,v,z,hx,e1⟩:=zha (f:=m.funcs.getD k fnc0) rfl
  have hpe:funcP s 0 (m.funcs.getD k fnc0)=((u.toList==s.toList)&&(v==0)):=by rw [hx];rfl
  rw [hx] at hfo
  obtain ⟨-,hl,-⟩:=hfo
  simp only at hl
  cases hp2:(u.toList==s.toList) with
  | true =>
    by_cases hva:v=0
    ·have hp:funcP s 0 (m.funcs.getD k fnc0)=true:=by rw [hpe,hp2,hva];rfl
     rw [hp,hx] at hinv
     rw [hva] at hl
     have hl:z.length=1:=hl
     have ez:enc64 (z.getD 0 0)=[.int .i64 (z.getD 0 0)]:=rfl
     rw [hinv]
     subst hva
     (repeat' ((conv=>whnf);(first|(refine yai ?_;first|refine yaq hp2 ?_|refine yaq rfl ?_|refine yar (by omega) ?_|fail)|(refine yaf ?_ ?_;· first|kernel_rfl|omega|exact yaa _ _|fail)|refine zaa fnc0 k rfl (by omega) zbw e1 ?_|refine zaa 0 0 rfl (by omega) zcu ez ?_|refine zae [] ?_|fail)));conv=>whnf
     exact eT (by simp [below,zab])
    ·have hp:funcP s 0 (m.funcs.getD k fnc0)=false:=by rw [hpe,hp2,ya9,beq_eq_false_iff_ne];exact hva
     rw [hp] at hinv
     (repeat' ((conv=>whnf);(first|(refine yai ?_;first|refine yaq hp2 ?_|refine yar (by omega) ?_|refine ya1 (by omega) ?_|fail)|(refine zad _ _ Cst.h Cst.h ?_ ?_;· omega)|(refine yaf ?_ ?_;· first|kernel_rfl|omega|exact yaa _ _|fail)|refine zaa fnc0 k rfl (by omega) zbw e1 ?_|refine zae [] ?_|fail)));conv=>whnf
     (refine ⟨⟨k+1,⟨by omega,hinv⟩,by omega,?_,.inl ⟨rfl,rfl⟩,rfl,_,rfl,?_⟩⟩;rotate_left 1;exact .inl rfl;exact ⟨⟨_,rfl,yae _⟩,trivial⟩)
  | false =>
    have hp:funcP s 0 (m.funcs.getD k fnc0)=false:=by rw [hpe,hp2];rfl
    rw [hp] at hinv
    (repeat' ((conv=>whnf);(first|(refine yai ?_;first|refine yau hp2 ?_|refine yar (by omega) ?_|fail)|(refine zad _ _ Cst.h Cst.h ?_ ?_;· omega)|(refine yaf ?_ ?_;· first|kernel_rfl|omega|exact yaa _ _|fail)|refine zaa fnc0 k rfl (by omega) zbw e1 ?_|refine zae [] ?_|fail)));conv=>whnf
    (refine ⟨⟨k+1,⟨by omega,hinv⟩,by omega,?_,.inl ⟨rfl,rfl⟩,rfl,_,rfl,?_⟩⟩;rotate_left 1;exact .inl rfl;exact ⟨⟨_,rfl,yae _⟩,trivial⟩)
 ·have:k=m.funcs.length:=by omega
  subst this
  rw [ybo] at hinv
  rw [hinv]
  (repeat' ((conv=>whnf);(first|refine ya1 (by omega) ?_|fail)));conv=>whnf
  exact eT (by simp [below,zab])
theorem rap_c (m:Mdl) (hm:m.Sm) (n:Nat) (hv:VM m n) (s:ByteArray) (t:Tq) (ih:∀ H,VDet Tryz.prog 128 [.agg m.cells,.agg t.tm.cells] H (optA (rvB m t))) (H:Heap):VDet Tryz.prog 128 [.agg m.cells,.agg (Tm.mk false s [t.tm]).cells] H (optA (rvB m (.ap s t))):=by
 have hul:=hm.funcs
 have hin:=rvB_in hv t
 rw [zav]
 rw [show rvB m (.ap s t)=(rvB m t).bind fun a=>(m.funcs.find? (funcP s 1)).map fun f=>f.vl.getD a.toNat 0 from rfl]
 have hmc:m.cells=[.int .u8 m.kind,.int .i64 m.size,.sl none m.rel.length (m.rel.flatMap enc64),.int .i64 m.loop,.sl none m.facts.length (m.facts.flatMap Fct.cells),.sl none m.funcs.length (m.funcs.flatMap Fnc.cells),.sl none m.binds.length (m.binds.flatMap Bnd.cells)]:=rfl
 rw [hmc] at ih ⊢
 have ht1:Tm.cells (([t.tm]:List Tm).getD 0 tm0)=t.tm.cells:=rfl
 obtain ⟨w1,w2,w3,w4,hw,hwb⟩:=zc1 t.tm
 rw [hw] at ih ht1
 generalize rvB m t=o at *
 unfold optA at *
 cases o with
 | none =>
   simp only [ydz,yds,Option.bind_none] at ih ⊢
   refine fdD Tryz.func128 ⟨rfl,rfl,rfl⟩ fun hcl hbl=>?_
   (repeat' ((conv=>whnf);(first|(refine yai ?_;first|refine yas ?_|refine yaq rfl ?_|refine yau rfl ?_|fail)|(refine yaf ?_ ?_;· first|kernel_rfl|exact yaa _ _|(simp;done)|fail)|refine yan _ (fun _ hq X=>ih _) ?_|refine zaa tm0 0 rfl (by simp) zba ht1 ?_|refine zae [] ?_|fail)));conv=>whnf
   exact eT (by simp [below,zab])
 | some a =>
   have hin:=hin a rfl
   obtain ⟨i,hi⟩:∃ i:Nat,a=i:=⟨a.toNat,by omega⟩
   subst hi
   simp only [yc4,ydr,ycz,ybp] at ih ⊢
   refine fdD Tryz.func128 ⟨rfl,rfl,rfl⟩ fun hcl hbl=>?_
   (repeat' ((conv=>whnf);(first|(refine yai ?_;first|refine yas ?_|refine yaq rfl ?_|refine yau rfl ?_|fail)|(refine yaf ?_ ?_;· first|kernel_rfl|exact yaa _ _|(simp;done)|fail)|refine yan _ (fun _ hq X=>ih _) ?_|refine zaa tm0 0 rfl (by simp) zba ht1 ?_|refine zae [] ?_|fail)));conv=>whnf
   refine zax Tryz.E0 zag (σ:=Nat) (fun k=>k≤m.funcs.length∧m.funcs.find? (funcP s 1)=(m.funcs.drop k).find? (funcP s 1)) (fun k=>m.funcs.length-k) (fun k=>[(10,.v (.int .i64 k))]) (fun _=>_) _ 0 rfl hcl [2,3,7] rfl ⟨yah _,rfl⟩ ⟨⟨_,rfl,yae _⟩,trivial⟩ rfl (fun _ _=>rfl) ?_
   rintro k ⟨hk,hinv⟩
   rcases yag k m.funcs.length with hlt|hge
   ·have hd:=zbn m.funcs k fnc0 hlt
    rw [hd,yc8] at hinv
    have hfo:=hv.funcs _ (zar m.funcs k fnc0 hlt)
    obtain ⟨u,v,z,hx,e1⟩:=zha (f:=m.funcs.getD k fnc0) rfl
    have hpe:funcP s 1 (m.funcs.getD k fnc0)=((u.toList==s.toList)&&(v==1)):=by rw [hx];rfl
    rw [hx] at hfo
    obtain ⟨-,hl,-⟩:=hfo
    simp only at hl
    cases hp2:(u.toList==s.toList) with
    | true =>
      by_cases hva:v=1
      ·have hp:funcP s 1 (m.funcs.getD k fnc0)=true:=by rw [hpe,hp2,hva];rfl
       rw [hp,hx] at hinv
       rw [hva] at hl
       have hl:z.length=n:=hl.trans (Nat.pow_one n)
       have ez:enc64 (z.getD i 0)=[.int .i64 (z.getD i 0)]:=rfl
       rw [hinv]
       subst hva
       (repeat' ((conv=>whnf);(first|(refine yai ?_;first|refine yaq hp2 ?_|refine yaq rfl ?_|refine yar (by omega) ?_|fail)|(refine yaf ?_ ?_;· first|kernel_rfl|omega|exact yaa _ _|fail)|refine zaa fnc0 k rfl (by omega) zbw e1 ?_|refine zaa 0 i rfl (by omega) zcu ez ?_|refine zae [] ?_|fail)));conv=>whnf
       exact eT (by simp [below,zab])
      ·have hp:funcP s 1 (m.funcs.getD k fnc0)=false:=by rw [hpe,hp2,ya9,beq_eq_false_iff_ne];exact hva
       rw [hp] at hinv
       (repeat' ((conv=>whnf);(first|(refine yai ?_;first|refine yaq hp2 ?_|refine yar (by omega) ?_|refine ya1 (by omega) ?_|fail)|(refine zad _ _ Cst.h Cst.h ?_ ?_;· omega)|(refine yaf ?_ ?_;· first|kernel_rfl|omega|exact yaa _ _|fail)|refine zaa fnc0 k rfl (by omega) zbw e1 ?_|refine zae [] ?_|fail)));conv=>whnf
       (refine ⟨⟨k+1,⟨by omega,hinv⟩,by omega,?_,.inl ⟨rfl,rfl⟩,rfl,_,rfl,?_⟩⟩;rotate_left 1;exact .inl rfl;exact ⟨⟨_,rfl,yae _⟩,trivial⟩)
    | false =>
      have hp:funcP s 1 (m.funcs.getD k fnc0)=false:=by rw [hpe,hp2];rfl
      rw [hp] at hinv
      (repeat' ((conv=>whnf);(first|(refine yai ?_;first|refine yau hp2 ?_|refine yar (by omega) ?_|fail)|(refine zad _ _ Cst.h Cst.h ?_ ?_;· omega)|(refine yaf ?_ ?_;· first|kernel_rfl|omega|exact yaa _ _|fail)|refine zaa fnc0 k rfl (by omega) zbw e1 ?_|refine zae [] ?_|fail)));conv=>whnf
      (refine ⟨⟨k+1,⟨by omega,hinv⟩,by omega,?_,.inl ⟨rfl,rfl⟩,rfl,_,rfl,?_⟩⟩;rotate_left 1;exact .inl rfl;exact ⟨⟨_,rfl,yae _⟩,trivial⟩)
   ·have:k=m.funcs.length:=by omega
    subst this
    rw [ybo] at hinv
    rw [hinv]
    (repeat' ((conv=>whnf);(first|refine ya1 (by omega) ?_|fail)));conv=>whnf
    exact eT (by simp [below,zab])
theorem rvalue_c (m:Mdl) (hm:m.Sm) (n:Nat) (hv:VM m n):∀ (t:Tq) (H:Heap),VDet Tryz.prog 128 [.agg m.cells,.agg t.tm.cells] H (optA (rvB m t))
 | .vr s,H=>rvar_c m hm s H
 | .cn s,H=>rcon_c m hm n hv s H
 | .ap s t,H=>rap_c m hm n hv s t (rvalue_c m hm n hv t) H
def bindL (x:ByteArray) (a:Int) (l:List Bnd):List Bnd:=⟨x,a⟩::l.filter fun b=>!bindP x b
def bindM (m:Mdl) (x:ByteArray) (a:Int):Mdl:=⟨m.kind,m.size,m.rel,m.loop,m.facts,m.funcs,bindL x a m.binds⟩
theorem bindL_step (x:ByteArray) (a:Int) (l:List Bnd) (k:Nat) (h:k<l.length):bindL x a (l.take (k+1))=bindL x a (l.take k)++(if bindP x (l.getD k bnd0) then [] else [l.getD k bnd0]):=by
 unfold bindL
 rw [zbm l bnd0 k h,List.filter_append]
 generalize l.getD k bnd0=e
 cases hb:bindP x e <;> simp [hb]
theorem zih (x:ByteArray) (a:Int) (l:List Bnd):(bindL x a l).length≤l.length+1:=by
 unfold bindL
 rw [ybu]
 have:=List.length_filter_le (fun b=>!bindP x b) l
 omega
theorem bind_c (m:Mdl) (hm:m.Sm) (x:ByteArray) (a:Int) (H:Heap):VDet Tryz.prog 181 [.agg m.cells,.str x,.int .i64 a] H (.agg (bindM m x a).cells):=by
 have hbl2:=hm.binds
 have hmc:m.cells=[.int .u8 m.kind,.int .i64 m.size,.sl none m.rel.length (m.rel.flatMap enc64),.int .i64 m.loop,.sl none m.facts.length (m.facts.flatMap Fct.cells),.sl none m.funcs.length (m.funcs.flatMap Fnc.cells),.sl none m.binds.length (m.binds.flatMap Bnd.cells)]:=rfl
 have hmb:(bindM m x a).cells=[.int .u8 m.kind,.int .i64 m.size,.sl none m.rel.length (m.rel.flatMap enc64),.int .i64 m.loop,.sl none m.facts.length (m.facts.flatMap Fct.cells),.sl none m.funcs.length (m.funcs.flatMap Fnc.cells),.sl none (bindL x a (m.binds.take m.binds.length)).length ((bindL x a (m.binds.take m.binds.length)).flatMap Bnd.cells)]:=by rw [ya3];rfl
 rw [hmc,hmb]
 have hs1:∀ k,k<m.binds.length→bindP x (m.binds.getD k bnd0)=true→(bindL x a (m.binds.take (k+1))).flatMap Bnd.cells=(bindL x a (m.binds.take k)).flatMap Bnd.cells∧(bindL x a (m.binds.take (k+1))).length=(bindL x a (m.binds.take k)).length:=fun k hk hp=>by
  rw [bindL_step x a _ k hk,hp]
  simp
 have hs2:∀ k,k<m.binds.length→bindP x (m.binds.getD k bnd0)=false→(bindL x a (m.binds.take (k+1))).flatMap Bnd.cells=(bindL x a (m.binds.take k)).flatMap Bnd.cells++(m.binds.getD k bnd0).cells∧(bindL x a (m.binds.take (k+1))).length=(bindL x a (m.binds.take k)).length+1:=fun k hk hp=>by
  rw [bindL_step x a _ k hk,hp,yb0]
  simp
 have hle:∀ k,(bindL x a (m.binds.take k)).length≤1000001:=fun k=>by
  have h1:=zih x a (m.binds.take k)
  rw [ycm] at h1
  omega
 have hcl2:∀ k,((bindL x a (m.binds.take k)).flatMap Bnd.cells).length=(bindL x a (m.binds.take k)).length * 2:=fun k=>zbh zbs _
 have hcb:∀ n k,zab n ((bindL x a (m.binds.take k)).flatMap Bnd.cells):=fun n k=>zai n _
 have h00:(bindL x a (m.binds.take 0)).flatMap Bnd.cells=[.str x,.int .i64 a]∧(bindL x a (m.binds.take 0)).length=1:=⟨rfl,rfl⟩
 generalize hCd:(fun k=>(bindL x a (m.binds.take k)).flatMap Bnd.cells)=C at *
 generalize hNd:(fun k=>(bindL x a (m.binds.take k)).length)=N at *
 have hC:∀ k,(bindL x a (m.binds.take k)).flatMap Bnd.cells=C k:=fun k=>by rw [← hCd]
 have hN:∀ k,(bindL x a (m.binds.take k)).length=N k:=fun k=>by rw [← hNd]
 simp only [hC,hN] at hs1 hs2 hle hcl2 hcb h00 ⊢
 refine fdD Tryz.func181 ⟨rfl,rfl,rfl⟩ fun hcl hbl=>?_
 conv=>whnf
 refine loop_K Tryz.E0 zag (σ:=Bool×Nat) (fun p=>p.2≤m.binds.length∧(p.1=false→C p.2=[.str x,.int .i64 a]∧N p.2=1)) (fun p=>m.binds.length-p.2) (fun p=>[(7,@Bool.rec (fun _=>RG) (.v (.sx 1 [.str x,.int .i64 a])) (.v (.sl (some (H.length+2)) (N p.2) (C p.2))) p.1),(8,.v (.int .i64 p.2))]) (fun _=>H) (fun p=>@Bool.rec (fun _=>Heap) [.box 37 [.int .u8 m.kind,.int .i64 m.size,.sl none m.rel.length (m.rel.flatMap enc64),.int .i64 m.loop,.sl none m.facts.length (m.facts.flatMap Fct.cells),.sl none m.funcs.length (m.funcs.flatMap Fnc.cells),.sl none m.binds.length (m.binds.flatMap Bnd.cells)],.box 37 [.int .u8 0,.int .i64 0,.nils,.int .i64 0,.nils,.nils,.nils]] [.box 37 [.int .u8 m.kind,.int .i64 m.size,.sl none m.rel.length (m.rel.flatMap enc64),.int .i64 m.loop,.sl none m.facts.length (m.facts.flatMap Fct.cells),.sl none m.funcs.length (m.funcs.flatMap Fnc.cells),.sl none m.binds.length (m.binds.flatMap Bnd.cells)],.box 37 [.int .u8 0,.int .i64 0,.nils,.int .i64 0,.nils,.nils,.nils],.tok 99 2 (C p.2).length] p.1) (fun p=>@Bool.rec (fun _=>Nat) 2 3 p.1) _ (false,0) (fun _ _=>rfl) (fun _ _=>hcl) [1,3,6] rfl ⟨yah _,fun _=>h00⟩ ⟨⟨_,rfl,yae _⟩,⟨_,rfl,yae _⟩,trivial⟩ rfl rfl rfl (fun p _=>by obtain ⟨_|_,_⟩:=p;(· exact yax 2);(· exact (by decide:2≤3))) (fun p _=>by obtain ⟨_|_,_⟩:=p <;> rfl) ?_
 rintro ⟨b,k⟩ ⟨hk,hb⟩
 simp only at hk hb
 clear hbl
 have hlk:=hle k
 cases b with
 | false =>
   obtain ⟨hb1,hb2⟩:=hb rfl
   rcases yag k m.binds.length with hlt|hge
   ·obtain ⟨u,v,hx,e1⟩:=zf4 (f:=m.binds.getD k bnd0) rfl
    have hpe:bindP x (m.binds.getD k bnd0)=(u.toList==x.toList):=by rw [hx];rfl
    cases hp:(u.toList==x.toList) with
    | true =>
      obtain ⟨q1,q2⟩:=hs1 k hlt (hpe.trans hp)
      have hp3:(!(u.toList==x.toList))=false:=by rw [hp];rfl
      (repeat' ((conv=>whnf);(first|(refine yai ?_;first|refine yau hp3 ?_|refine yar (by omega) ?_|fail)|(refine zad _ _ Cst.h Cst.h ?_ ?_;· omega)|(refine yaf ?_ ?_;· first|omega|exact yaa _ _|fail)|refine zaa bnd0 k rfl (by omega) zbs e1 ?_|fail)));conv=>whnf
      exact ⟨⟨(false,k+1),⟨by show k+1≤_;omega,fun _=>⟨q1.trans hb1,q2.trans hb2⟩⟩,by show m.binds.length-(k+1)<m.binds.length-k;omega,⟨⟨_,rfl,yae _⟩,⟨_,rfl,zaf (congrArg (AV.int _) (by show _=(((k+1:Nat)):Int);omega))⟩,trivial⟩,.inl ⟨rfl,rfl⟩,rfl,[],rfl,.inl rfl⟩⟩
    | false =>
      obtain ⟨q1,q2⟩:=hs2 k hlt (hpe.trans hp)
      rw [e1,hb1] at q1
      rw [hb2] at q2
      have hp3:(!(u.toList==x.toList))=true:=by rw [hp];rfl
      (repeat' ((conv=>whnf);(first|(refine yai ?_;first|refine yaq hp3 ?_|refine yar (by omega) ?_|fail)|(refine zad _ _ Cst.h Cst.h ?_ ?_;· omega)|(refine yaf ?_ ?_;· first|omega|exact yaa _ _|fail)|refine zaa bnd0 k rfl (by omega) zbs e1 ?_|refine OrN.l ?_|refine yaf ⟨by decide,rfl,rfl,by decide,by decide⟩ ?_|fail)));conv=>whnf
      refine ⟨⟨(true,k+1),⟨by show k+1≤_;omega,fun h=>by cases h⟩,by show m.binds.length-(k+1)<m.binds.length-k;omega,⟨⟨_,rfl,?_⟩,⟨_,rfl,zaf (congrArg (AV.int _) (by show _=(((k+1:Nat)):Int);omega))⟩,trivial⟩,.inl ⟨rfl,rfl⟩,rfl,[],?_,.inl rfl⟩⟩
      ·refine zaf ?_
       show _=AV.sl (some (H.length+2)) (N (k+1)) (C (k+1))
       rw [q1,q2]
       rfl
      ·show _=([_,_,Blk.tok 99 2 (C (k+1)).length]:Heap)++[]
       rw [q1]
       rfl
   ·obtain rfl:k=m.binds.length:=by omega
    rw [hb1,hb2]
    (repeat' ((conv=>whnf);(first|refine ya1 (by omega) ?_|fail)));conv=>whnf
    refine ya2 (by simp [below,zab,zam,zah,zak]) ?_
    (repeat' (first|exact trivial|refine yb6 ?_ ?_|exact yae _|exact wk_sx _ _|refine zb9 ?_|fail));done
 | true =>
   rcases yag k m.binds.length with hlt|hge
   ·obtain ⟨u,v,hx,e1⟩:=zf4 (f:=m.binds.getD k bnd0) rfl
    have hpe:bindP x (m.binds.getD k bnd0)=(u.toList==x.toList):=by rw [hx];rfl
    have hck:=hcl2 k
    have hbt:(N k+1) * 24≤140737488355328:=by omega
    have hmx:N k+1≤maxLen:=ybk (show N k+1≤1000002 by omega) (by decide)
    cases hp:(u.toList==x.toList) with
    | true =>
      obtain ⟨q1,q2⟩:=hs1 k hlt (hpe.trans hp)
      have hp3:(!(u.toList==x.toList))=false:=by rw [hp];rfl
      rw [← q1,← q2]
      (repeat' ((conv=>whnf);(first|(refine yai ?_;first|refine yau hp3 ?_|refine yar (by omega) ?_|fail)|(refine zad _ _ Cst.h Cst.h ?_ ?_;· omega)|(refine yaf ?_ ?_;· first|omega|exact yaa _ _|fail)|refine zaa bnd0 k rfl (by omega) zbs e1 ?_|fail)));conv=>whnf
      exact ⟨⟨(true,k+1),⟨by show k+1≤_;omega,fun h=>by cases h⟩,by show m.binds.length-(k+1)<m.binds.length-k;omega,⟨⟨_,rfl,yae _⟩,⟨_,rfl,zaf (congrArg (AV.int _) (by show _=(((k+1:Nat)):Int);omega))⟩,trivial⟩,.inl ⟨rfl,rfl⟩,rfl,[],rfl,.inl rfl⟩⟩
    | false =>
      obtain ⟨q1,q2⟩:=hs2 k hlt (hpe.trans hp)
      rw [e1] at q1
      have hp3:(!(u.toList==x.toList))=true:=by rw [hp];rfl
      (repeat' ((conv=>whnf);(first|(refine yai ?_;first|refine yaq hp3 ?_|refine yar (by omega) ?_|fail)|(refine zad _ _ Cst.h Cst.h ?_ ?_;· omega)|(refine yaf ?_ ?_;· first|omega|exact yaa _ _|fail)|refine zaa bnd0 k rfl (by omega) zbs e1 ?_|refine yaf ⟨rfl,rfl,rfl,hbt,hmx⟩ ?_|refine yce _ rfl ?_|fail)));conv=>whnf
      rw [← q1,← q2]
      exact ⟨⟨(true,k+1),⟨by show k+1≤_;omega,fun h=>by cases h⟩,by show m.binds.length-(k+1)<m.binds.length-k;omega,⟨⟨_,rfl,yae _⟩,⟨_,rfl,zaf (congrArg (AV.int _) (by show _=(((k+1:Nat)):Int);omega))⟩,trivial⟩,.inl ⟨rfl,rfl⟩,rfl,[],rfl,.inl rfl⟩⟩
   ·obtain rfl:k=m.binds.length:=by omega
    have hcb2:=fun n=>hcb n m.binds.length
    (repeat' ((conv=>whnf);(first|refine ya1 (by omega) ?_|fail)));conv=>whnf
    refine ya2 (by simp [below,zab,zam,zah,zak,hcb2]) ?_
    (repeat' (first|exact trivial|refine yb6 ?_ ?_|exact yae _|exact wk_sl _ _ _|refine zb9 ?_|fail));done
def rhas:Fq→Mdl→Bool
 | .at_ s l,m=>l.all (fun t=>(rvB m t).isSome)&&(m.facts.find? (factP s l.length)).isSome
 | .fa,_=>true
 | .f1 a,m=>rhas a m
 | .f2 _ a b,m=>rhas a m&&rhas b m
 | .qn _ x a,m=>rhas a (bindM m x 0)
theorem bindM_sm {m:Mdl} (hm:m.Sm) (x:ByteArray) (a:Int) (h:m.binds.length+1≤1000000):(bindM m x a).Sm:=⟨hm.rel,hm.facts,hm.funcs,ybk (zih x a m.binds) h,hm.vals⟩
theorem bindM_vm {m:Mdl} {n:Nat} (hv:VM m n) (x:ByteArray) (a:Int) (ha:0≤a∧a<n):VM (bindM m x a) n:=⟨hv.size,hv.pos,hv.le,hv.facts,hv.funcs,fun b hb=>by
 rcases yay.1 hb with e|hb
 ·rw [e]
  exact ha
 ·exact hv.binds b (List.mem_filter.1 hb).1⟩
theorem map_getD_tm (l:List Tq) (k:Nat) (h:k<l.length):(l.map Tq.tm).getD k tm0=(l.getD k (.vr .empty)).tm:=by
 simp [yal h]
theorem has_at (m:Mdl) (hm:m.Sm) (n:Nat) (hv:VM m n) (s:ByteArray) (l:List Tq) (hl:l.length≤1000000) (H:Heap):VDet Tryz.prog 124 [.agg m.cells,.agg (Fo.mk 1 s (l.map Tq.tm) []).cells] H (.bool (rhas (.at_ s l) m)):=by
 have hfl:=hm.facts
 have hr:rhas (.at_ s l) m=(l.all (fun t=>(rvB m t).isSome)&&(m.facts.find? (factP s l.length)).isSome):=rfl
 have hval:=fun t H=>rvalue_c m hm n hv t H
 rw [hr,zaq]
 have hmc:m.cells=[.int .u8 m.kind,.int .i64 m.size,.sl none m.rel.length (m.rel.flatMap enc64),.int .i64 m.loop,.sl none m.facts.length (m.facts.flatMap Fct.cells),.sl none m.funcs.length (m.funcs.flatMap Fnc.cells),.sl none m.binds.length (m.binds.flatMap Bnd.cells)]:=rfl
 rw [hmc] at hval ⊢
 simp only [ybg,ybh,yav]
 refine fdD Tryz.func124 ⟨rfl,rfl,rfl⟩ fun hcl hbl=>?_
 conv=>whnf
 refine zax Tryz.E0 zag (σ:=Nat) (fun k=>k≤l.length∧∀ y∈l.take k,(fun t=>(rvB m t).isSome) y=true) (fun k=>l.length-k) (fun k=>[(5,.v (.int .i64 k))]) (fun _=>_) _ 0 rfl hcl [2,3] rfl ⟨yah _,fun y hy=>(by cases hy)⟩ ⟨⟨_,rfl,yae _⟩,trivial⟩ rfl (fun _ _=>rfl) ?_
 rintro k ⟨hk,hinv⟩
 rcases yag k l.length with hlt|hge
 ·have hc:=hval (l.getD k (.vr .empty))
  have hg:=map_getD_tm l k hlt
  obtain ⟨w1,w2,w3,w4,hw,hwb⟩:=zc1 (l.getD k (.vr .empty)).tm
  have hw2:((l.map Tq.tm).getD k tm0).cells=[.bool w1,.str w2,.sl none w3 w4]:=by rw [hg];exact hw
  rw [hw] at hc
  have hp:(fun t=>(rvB m t).isSome) (l.getD k (.vr .empty))=(rvB m (l.getD k (.vr .empty))).isSome:=rfl
  unfold optA at hc
  cases ho:rvB m (l.getD k (.vr .empty)) with
  | none =>
    rw [ho] at hc hp
    rw [zcj (.vr .empty) hlt hp,ya0]
    simp only [ydz,yds] at hc
    (repeat' ((conv=>whnf);(first|(refine yai ?_;first|refine yas ?_|refine yau rfl ?_|refine yar (by omega) ?_|fail)|(refine yaf ?_ ?_;· first|kernel_rfl|omega|exact yaa _ _|fail)|refine yan _ (fun _ hq X=>hc _) ?_|refine zaa tm0 k rfl (by rw [yav];omega) zba hw2 ?_|refine zae [] ?_|fail)));conv=>whnf
    exact eT trivial
  | some a =>
    rw [ho] at hc hp
    simp only [yc4,ydr] at hc
    (repeat' ((conv=>whnf);(first|(refine yai ?_;first|refine yas ?_|refine yaq rfl ?_|refine yar (by omega) ?_|fail)|(refine zad _ _ Cst.h Cst.h ?_ ?_;· omega)|(refine yaf ?_ ?_;· first|kernel_rfl|omega|exact yaa _ _|fail)|refine yan _ (fun _ hq X=>hc _) ?_|refine zaa tm0 k rfl (by rw [yav];omega) zba hw2 ?_|refine zae [] ?_|fail)));conv=>whnf
    (refine ⟨⟨k+1,⟨by omega,zbt (.vr .empty) hlt hinv hp⟩,by omega,?_,.inl ⟨rfl,rfl⟩,rfl,_,rfl,?_⟩⟩;rotate_left 1;exact .inl rfl;exact ⟨⟨_,rfl,yae _⟩,trivial⟩)
 ·have:k=l.length:=by omega
  subst this
  rw [ya3] at hinv
  rw [yao.2 hinv,ya9]
  (repeat' ((conv=>whnf);(first|(refine yai ?_;first|refine yau rfl ?_|refine ya1 (by omega) ?_|fail)|fail)));conv=>whnf
  refine ybe Tryz.E0 zag 1 rfl ?_
  (repeat' ((conv=>whnf);(first|(refine yai ?_;first|refine yas ?_|refine yaq rfl ?_|refine yau rfl ?_|fail)|fail)));conv=>whnf
  refine zax Tryz.E0 zag (σ:=Nat) (fun k=>k≤m.facts.length∧m.facts.find? (factP s l.length)=(m.facts.drop k).find? (factP s l.length)) (fun k=>m.facts.length-k) (fun k=>[(9,.v (.int .i64 k))]) (fun _=>_) _ 0 rfl hcl [2,3] rfl ⟨yah _,rfl⟩ ⟨⟨_,rfl,yae _⟩,trivial⟩ rfl (fun _ _=>rfl) ?_
  rintro k ⟨hk,hinv⟩
  rcases yag k m.facts.length with hlt|hge
  ·have hd:=zbn m.facts k fct0 hlt
   rw [hd,yc8] at hinv
   obtain ⟨u,v,z,hx,e1⟩:=zhc (f:=m.facts.getD k fct0) rfl
   have hpe:factP s l.length (m.facts.getD k fct0)=((u.toList==s.toList)&&(v==(l.length:Int))):=by rw [hx];rfl
   cases hp2:(u.toList==s.toList) with
   | true =>
     by_cases hva:v=(l.length:Int)
     ·have hp:factP s l.length (m.facts.getD k fct0)=true:=by rw [hpe,hp2,ya9,beq_iff_eq];exact hva
      rw [hp] at hinv
      rw [hinv]
      (repeat' ((conv=>whnf);(first|(refine yai ?_;first|refine yaq hp2 ?_|refine yar (by omega) ?_|fail)|(refine yaf ?_ ?_;· first|kernel_rfl|omega|exact yaa _ _|fail)|refine zaa fct0 k rfl (by omega) zbr e1 ?_|refine zae [] ?_|fail)));conv=>whnf
      exact eT trivial
     ·have hp:factP s l.length (m.facts.getD k fct0)=false:=by rw [hpe,hp2,ya9,beq_eq_false_iff_ne];exact hva
      rw [hp] at hinv
      (repeat' ((conv=>whnf);(first|(refine yai ?_;first|refine yaq hp2 ?_|refine yar (by omega) ?_|refine ya1 (by omega) ?_|fail)|(refine zad _ _ Cst.h Cst.h ?_ ?_;· omega)|(refine yaf ?_ ?_;· first|kernel_rfl|omega|exact yaa _ _|fail)|refine zaa fct0 k rfl (by omega) zbr e1 ?_|refine zae [] ?_|fail)));conv=>whnf
      (refine ⟨⟨k+1,⟨by omega,hinv⟩,by omega,?_,.inl ⟨rfl,rfl⟩,rfl,_,rfl,?_⟩⟩;rotate_left 1;exact .inl rfl;exact ⟨⟨_,rfl,yae _⟩,trivial⟩)
   | false =>
     have hp:factP s l.length (m.facts.getD k fct0)=false:=by rw [hpe,hp2];rfl
     rw [hp] at hinv
     (repeat' ((conv=>whnf);(first|(refine yai ?_;first|refine yau hp2 ?_|refine yar (by omega) ?_|fail)|(refine zad _ _ Cst.h Cst.h ?_ ?_;· omega)|(refine yaf ?_ ?_;· first|kernel_rfl|omega|exact yaa _ _|fail)|refine zaa fct0 k rfl (by omega) zbr e1 ?_|refine zae [] ?_|fail)));conv=>whnf
     (refine ⟨⟨k+1,⟨by omega,hinv⟩,by omega,?_,.inl ⟨rfl,rfl⟩,rfl,_,rfl,?_⟩⟩;rotate_left 1;exact .inl rfl;exact ⟨⟨_,rfl,yae _⟩,trivial⟩)
  ·have:k=m.facts.length:=by omega
   subst this
   rw [ybo] at hinv
   rw [hinv]
   (repeat' ((conv=>whnf);(first|refine ya1 (by omega) ?_|fail)));conv=>whnf
   exact eT trivial
def HsC (p:Fo) (m:Mdl) (b:Bool):Prop:=∀ H,VDet Tryz.prog 124 [.agg m.cells,.agg p.cells] H (.bool b)
theorem has_fa (m:Mdl) (s:ByteArray):HsC (Fo.mk 2 s [] []) m true:=by
 intro H
 rw [zaq]
 have hmc:m.cells=[.int .u8 m.kind,.int .i64 m.size,.sl none m.rel.length (m.rel.flatMap enc64),.int .i64 m.loop,.sl none m.facts.length (m.facts.flatMap Fct.cells),.sl none m.funcs.length (m.funcs.flatMap Fnc.cells),.sl none m.binds.length (m.binds.flatMap Bnd.cells)]:=rfl
 rw [hmc]
 simp only [ybg,ybh]
 refine fdD Tryz.func124 ⟨rfl,rfl,rfl⟩ fun hcl hbl=>?_
 conv=>whnf
 refine ybe Tryz.E0 zag 1 rfl ?_
 (repeat' ((conv=>whnf);(first|refine yau rfl ?_|fail)));conv=>whnf
 refine ybe Tryz.E0 zag 1 rfl ?_
 (repeat' ((conv=>whnf);(first|(refine yai ?_;first|refine yas ?_|refine yau rfl ?_|fail)|fail)));conv=>whnf
 exact eT trivial
theorem has_1 (m:Mdl) (s:ByteArray) (f:Fo) (b:Bool) (hf:HsC f m b):HsC (Fo.mk 3 s [] [f]) m b:=by
 intro H
 unfold HsC at hf
 rw [zaq]
 have hmc:m.cells=[.int .u8 m.kind,.int .i64 m.size,.sl none m.rel.length (m.rel.flatMap enc64),.int .i64 m.loop,.sl none m.facts.length (m.facts.flatMap Fct.cells),.sl none m.funcs.length (m.funcs.flatMap Fnc.cells),.sl none m.binds.length (m.binds.flatMap Bnd.cells)]:=rfl
 obtain ⟨w1,w2,w3,w4,w5,w6,hw,hwb⟩:=zbz f
 rw [hw] at hf
 rw [hmc] at hf ⊢
 have e0:(([f]:List Fo).getD 0 fo0).cells=[.int .u8 (w1:Nat),.str w2,.sl none w3 w4,.sl none w5 w6]:=hw
 simp only [ybg,ybh]
 cases b <;>
 (refine fdD Tryz.func124 ⟨rfl,rfl,rfl⟩ fun hcl hbl=>?_;(all_goals (conv=>whnf));refine ybe Tryz.E0 zag 1 rfl ?_;((repeat' ((conv=>whnf);(first|refine yau rfl ?_|fail)));all_goals (conv=>whnf));refine ybe Tryz.E0 zag 2 rfl ?_;((repeat' ((conv=>whnf);(first|(refine yai ?_;first|refine yas ?_|refine yaq rfl ?_|refine yau rfl ?_|fail)|(refine zad _ _ Cst.h Cst.h ?_ ?_;· omega)|(refine yaf ?_ ?_;· first|kernel_rfl|exact yaa _ _|(simp;done)|fail)|refine yan _ (fun _ hq X=>hf _) ?_|refine zaa fo0 0 rfl (by simp) za4 e0 ?_|refine zae [] ?_|fail)));all_goals (conv=>whnf));exact eT trivial)
theorem has_2 (k:Nat) (hk:k=4∨k=5∨k=6∨k=7) (m:Mdl) (s:ByteArray) (f g:Fo) (b c:Bool) (hf:HsC f m b) (hg:b=true→HsC g m c):HsC (Fo.mk k s [] [f,g]) m (b&&c):=by
 intro H
 unfold HsC at hf hg
 rw [zaq]
 have hmc:m.cells=[.int .u8 m.kind,.int .i64 m.size,.sl none m.rel.length (m.rel.flatMap enc64),.int .i64 m.loop,.sl none m.facts.length (m.facts.flatMap Fct.cells),.sl none m.funcs.length (m.funcs.flatMap Fnc.cells),.sl none m.binds.length (m.binds.flatMap Bnd.cells)]:=rfl
 obtain ⟨w1,w2,w3,w4,w5,w6,hw,hwb⟩:=zbz f
 obtain ⟨v1,v2,v3,v4,v5,v6,hw2,hwb2⟩:=zbz g
 rw [hw] at hf
 rw [hw2] at hg
 rw [hmc] at hf hg ⊢
 have e0:(([f,g]:List Fo).getD 0 fo0).cells=[.int .u8 (w1:Nat),.str w2,.sl none w3 w4,.sl none w5 w6]:=hw
 have e1:(([f,g]:List Fo).getD 1 fo0).cells=[.int .u8 (v1:Nat),.str v2,.sl none v3 v4,.sl none v5 v6]:=hw2
 simp only [ybg,ybh]
 cases b with
 | false =>
   rw [ya0]
   rcases hk with rfl|rfl|rfl|rfl <;>
   (refine fdD Tryz.func124 ⟨rfl,rfl,rfl⟩ fun hcl hbl=>?_;(all_goals (conv=>whnf));refine ybe Tryz.E0 zag 1 rfl ?_;((repeat' ((conv=>whnf);(first|refine yau rfl ?_|fail)));all_goals (conv=>whnf));refine ybe Tryz.E0 zag 3 rfl ?_;((repeat' ((conv=>whnf);(first|(refine yai ?_;first|refine yas ?_|refine yaq rfl ?_|refine yau rfl ?_|fail)|(refine yaf ?_ ?_;· first|kernel_rfl|exact yaa _ _|(simp;done)|fail)|refine yan _ (fun _ hq X=>hf _) ?_|refine zaa fo0 0 rfl (by simp) za4 e0 ?_|refine zae [] ?_|fail)));all_goals (conv=>whnf));exact eT trivial)
 | true =>
   have hg:=hg rfl
   rw [ya9]
   cases c <;> rcases hk with rfl|rfl|rfl|rfl <;>
   (refine fdD Tryz.func124 ⟨rfl,rfl,rfl⟩ fun hcl hbl=>?_;(all_goals (conv=>whnf));refine ybe Tryz.E0 zag 1 rfl ?_;((repeat' ((conv=>whnf);(first|refine yau rfl ?_|fail)));all_goals (conv=>whnf));refine ybe Tryz.E0 zag 3 rfl ?_;((repeat' ((conv=>whnf);(first|(refine yai ?_;first|refine yas ?_|refine yaq rfl ?_|refine yau rfl ?_|fail)|(refine zad _ _ Cst.h Cst.h ?_ ?_;· omega)|(refine yaf ?_ ?_;· first|kernel_rfl|exact yaa _ _|(simp;done)|fail)|(refine yck ?_;first|refine yan _ (fun _ hq X=>hf _) ?_|refine yan _ (fun _ hq X=>hg _) ?_|fail)|refine zaa fo0 0 rfl (by simp) za4 e0 ?_|refine zaa fo0 1 rfl (by simp) za4 e1 ?_|refine zae [] ?_|fail)));all_goals (conv=>whnf));exact eT trivial)
theorem has_q (k:Nat) (hk:k=8∨k=9) (m:Mdl) (hm:m.Sm) (x:ByteArray) (f:Fo) (b:Bool) (hf:HsC f (bindM m x 0) b):HsC (Fo.mk k x [] [f]) m b:=by
 intro H
 unfold HsC at hf
 have hbi:=bind_c m hm x 0
 obtain ⟨e1,e2,e3,e4,e5,e6,e7,e8,e9,e10,e11,hmb,hb⟩:=zdq (bindM m x 0)
 rw [hmb] at hf hbi
 rw [zaq]
 have hmc:m.cells=[.int .u8 m.kind,.int .i64 m.size,.sl none m.rel.length (m.rel.flatMap enc64),.int .i64 m.loop,.sl none m.facts.length (m.facts.flatMap Fct.cells),.sl none m.funcs.length (m.funcs.flatMap Fnc.cells),.sl none m.binds.length (m.binds.flatMap Bnd.cells)]:=rfl
 obtain ⟨w1,w2,w3,w4,w5,w6,hw,hwb⟩:=zbz f
 rw [hw] at hf
 rw [hmc] at hbi ⊢
 have e0:(([f]:List Fo).getD 0 fo0).cells=[.int .u8 (w1:Nat),.str w2,.sl none w3 w4,.sl none w5 w6]:=hw
 simp only [ybg,ybh]
 cases b <;> rcases hk with rfl|rfl <;>
 (refine fdD Tryz.func124 ⟨rfl,rfl,rfl⟩ fun hcl hbl=>?_;(all_goals (conv=>whnf));refine ybe Tryz.E0 zag 1 rfl ?_;((repeat' ((conv=>whnf);(first|(refine yai ?_;first|refine yaq rfl ?_|refine yau rfl ?_|fail)|refine yab _ (hbi _) ?_|fail)));all_goals (conv=>whnf));refine ybe Tryz.E0 zag 2 rfl ?_;((repeat' ((conv=>whnf);(first|(refine yai ?_;first|refine yas ?_|refine yaq rfl ?_|refine yau rfl ?_|fail)|(refine zad _ _ Cst.h Cst.h ?_ ?_;· omega)|(refine yaf ?_ ?_;· first|kernel_rfl|exact yaa _ _|(simp;done)|fail)|refine yan _ (fun _ hq X=>hf _) ?_|refine zaa fo0 0 rfl (by simp) za4 e0 ?_|refine zae [] ?_|fail)));all_goals (conv=>whnf));exact eT trivial)
theorem rhas_c:∀ (p:Fq) (m:Mdl),p.Ok→m.Sm→∀ n,VM m n→m.binds.length+rankF p≤1000000→HsC p.fo m (rhas p m)
 | .at_ s l,m,hp,hm,n,hv,_=>fun H=>has_at m hm n hv s l (ybk hp (by decide)) H
 | .fa,m,_,_,_,_,_=>has_fa m .empty
 | .f1 a,m,hp,hm,n,hv,hr=>has_1 m .empty a.fo _ (rhas_c a m hp hm n hv hr)
 | .f2 k a b,m,hp,hm,n,hv,hr=>by
   have hr:m.binds.length+max (rankF a) (rankF b)≤1000000:=hr
   exact has_2 k hp.1 m .empty a.fo b.fo _ _ (rhas_c a m hp.2.1 hm n hv (by omega)) fun _=>rhas_c b m hp.2.2 hm n hv (by omega)
 | .qn k x a,m,hp,hm,n,hv,hr=>by
   have hr:m.binds.length+(rankF a+1)≤1000000:=hr
   have hl:=zih x 0 m.binds
   have hpos:=hv.pos
   exact has_q k hp.1 m hm x a.fo _ (rhas_c a (bindM m x 0) hp.2 (bindM_sm hm x 0 (by omega)) n (bindM_vm hv x 0 ⟨by omega,by omega⟩) (by show (bindL x 0 m.binds).length+_≤_;omega))
theorem atom132_c (s:ByteArray) (n:Nat) (l:List AV) (hb:∀ m,zab m l) (H:Heap):VDet Tryz.prog 132 [.str s,.sl none n l] H (.agg [.int .u8 1,.str s,.sl none n l,.sl none 0 []]):=by
 refine fdD Tryz.func132 ⟨rfl,rfl,rfl⟩ fun hcl hbl=>?_
 conv=>whnf
 refine ya2 (by simp [below,zab,hb]) ?_
 (repeat' (first|exact trivial|refine yb6 ?_ ?_|exact yae _|exact zc0|refine zb9 ?_|fail));done
theorem zii (s:ByteArray) (n:Nat) (l:List AV) (hb:∀ m,zab m l) (H:Heap):VDet Tryz.prog 14 [.str s,.sl none n l] H (.agg [.int .u8 1,.str s,.sl none n l,.sl none 0 []]):=by
 refine fdD Tryz.func14 ⟨rfl,rfl,rfl⟩ fun hcl hbl=>?_
 conv=>whnf
 refine ya2 (by simp [below,zab,hb]) ?_
 (repeat' (first|exact trivial|refine yb6 ?_ ?_|exact yae _|exact zc0|refine zb9 ?_|fail));done
theorem v22_c (s:ByteArray) (H:Heap):VDet Tryz.prog 22 [.str s] H (.agg [.bool true,.str s,.sl none 0 []]):=by
 refine fdD Tryz.func22 ⟨rfl,rfl,rfl⟩ fun hcl hbl=>?_
 conv=>whnf
 refine ya2 (by simp [below,zab]) ?_
 (repeat' (first|exact trivial|refine yb6 ?_ ?_|exact yae _|exact zc0|refine zb9 ?_|fail));done
theorem fn68_c (s:ByteArray) (n:Nat) (l:List AV) (hb:∀ m,zab m l) (H:Heap):VDet Tryz.prog 68 [.str s,.sl none n l] H (.agg [.bool false,.str s,.sl none n l]):=by
 refine fdD Tryz.func68 ⟨rfl,rfl,rfl⟩ fun hcl hbl=>?_
 conv=>whnf
 refine ya2 (by simp [below,zab,hb]) ?_
 exact yae _
theorem bound_c (k:Nat) (x:ByteArray) (f:Fo) (H:Heap):VDet Tryz.prog 24 [.int .u8 k,.str x,.agg f.cells] H (.agg [.int .u8 k,.str x,.sl none 0 [],.sl none 1 f.cells]):=by
 obtain ⟨w1,w2,w3,w4,w5,w6,hw,hb⟩:=zbz f
 rw [hw]
 refine fdD Tryz.func24 ⟨rfl,rfl,rfl⟩ fun hcl hbl=>?_
 conv=>whnf
 refine ya2 (by simp [below,zab,hb]) ?_
 (repeat' (first|exact trivial|refine yb6 ?_ ?_|exact yae _|exact wk_sx _ _|exact zc0|refine zb9 ?_|fail));done
def nX:ByteArray:=⟨#[120]⟩
def nY:ByteArray:=⟨#[121]⟩
def nZ:ByteArray:=⟨#[122]⟩
def nA:ByteArray:=⟨#[97]⟩
def nF:ByteArray:=⟨#[102]⟩
def nP:ByteArray:=⟨#[80]⟩
def nQ:ByteArray:=⟨#[81]⟩
def nR:ByteArray:=⟨#[82]⟩
def tqc (t:Tq):List AV:=t.tm.cells
def tqb:Tq→Bool
 | .vr _=>true
 | _=>false
def tqs:Tq→ByteArray
 | .vr s=>s
 | .cn s=>s
 | .ap s _=>s
def tqn:Tq→Nat
 | .ap _ _=>1
 | _=>0
def tql:Tq→List AV
 | .ap _ t=>t.tm.cells
 | _=>[]
theorem tqc_eq (t:Tq):tqc t=[.bool (tqb t),.str (tqs t),.sl none (tqn t) (tql t)]:=by
 cases t with
 | vr s=>rfl
 | cn s=>rfl
 | ap s t =>
   show (Tm.mk false s [t.tm]).cells=_
   rw [zav]
   show [AV.bool false,AV.str s,AV.sl none 1 ([t.tm].flatMap Tm.cells)]=_
   rw [ya7,ybh,yat]
   rfl
theorem tql_below (n:Nat) (t:Tq):zab n (tql t):=by
 cases t with
 | vr s=>trivial
 | cn s=>trivial
 | ap s t =>
   have:=zal n [t.tm]
   rwa [ya7,ybh,yat] at this
def fop:Fq→Nat
 | .at_ _ _=>1
 | .fa=>2
 | .f1 _=>3
 | .f2 k _ _=>k
 | .qn k _ _=>k
def fnm:Fq→ByteArray
 | .at_ s _=>s
 | .qn _ x _=>x
 | _=>.empty
def ftn:Fq→Nat
 | .at_ _ l=>l.length
 | _=>0
def ftl:Fq→List AV
 | .at_ _ l=>(l.map Tq.tm).flatMap Tm.cells
 | _=>[]
def fsn:Fq→Nat
 | .f1 _=>1
 | .f2 _ _ _=>2
 | .qn _ _ _=>1
 | _=>0
def fsl:Fq→List AV
 | .f1 a=>a.fo.cells
 | .f2 _ a b=>a.fo.cells++b.fo.cells
 | .qn _ _ a=>a.fo.cells
 | _=>[]
def fqx (p:Fq):List AV:=[.int .u8 (fop p:Nat),.str (fnm p),.sl none (ftn p) (ftl p),.sl none (fsn p) (fsl p)]
def tqx (t:Tq):List AV:=[.bool (tqb t),.str (tqs t),.sl none (tqn t) (tql t)]
theorem atR (t u:Tq) (H:Heap):VDet Tryz.prog 132 [.str nR,.sx 2 (tqx t++tqx u)] H (.agg (fqx (.at_ nR [t,u]))):=by
 have h:VDet Tryz.prog 132 [.str nR,.sx 2 (tqx t++tqx u)] H (.agg [.int .u8 (1:Nat),.str nR,.sl none 2 (tqx t++tqx u),.sl none 0 []]):=zbq (atom132_c nR 2 (tqx t++tqx u) (fun m=>by simp [tqx,below,zab,tql_below,zau]) H) ⟨yae _,wk_sx _ _,trivial⟩
 show VDet _ _ _ _ (.agg [.int .u8 (1:Nat),.str nR,.sl none 2 (([t,u].map Tq.tm).flatMap Tm.cells),.sl none 0 []])
 rw [yb4,yb4,yd2,ya7,ya7,ybh,yat,show t.tm.cells=tqx t from tqc_eq t,show u.tm.cells=tqx u from tqc_eq u]
 exact h
theorem wk_sxL {n:Nat} {l l':List AV} (h:WkL l l'):Wk (.sx n l) (.sl none n l'):=Wk.trans (wk_sx n l) (wk_slL h)
def encN (x:Nat):List AV:=[.int .i64 (x:Nat)]
end
end Go.Proofs.YtgdmldelijeaoaaGreatDoor
