/- A text of the proof: the parts BG41, VQ41, VR41, BI41, BH41, BJ41, BK41, VS41, VT41, VA41, VB41, VC41. -/
import Derived.Test.YtgdmldelijeaoaaGreatDoorK12
set_option linter.unusedSimpArgs false
set_option linter.unusedVariables false
set_option maxHeartbeats 8000000
namespace Go.Proofs.YtgdmldelijeaoaaGreatDoor
open Go.Vsi
section
attribute [local irreducible] VW VCall VO bits
theorem has_mk {m:Mdl} {p:Fq} (hok:p.Ok) (h1:∀ s a,p.hasP s a→hasFct m s a) (h2:∀ s a,p.hasC s a→zgl m s a) (h3:∀ x,p.free x→zic m x):hasB m (sigF p.fo)=true:=by
 unfold hasB
 rw [yak,yak,yao,yao,yao]
 refine ⟨fun x hx=>?_,fun x hx=>?_,fun x hx=>?_⟩
 ·obtain ⟨y,hy,rfl⟩:=ybx.1 hx
  exact h1 _ _ ((zh5 hok y).1 ((zbp _).mem_iff.1 hy))
 ·obtain ⟨y,hy,rfl⟩:=ybx.1 hx
  exact h2 _ _ ((mem_funY hok y).1 ((zbp _).mem_iff.1 hy))
 ·exact h3 _ ((zh6 hok x).1 ((zc6 _).mem_iff.1 hx))
theorem evalG_c (m:Mdl) (hm:m.Sm) (hn:m.Nm) (hva:zb0 m=true) (p:Fq) (hp:Gd p) (hr:rankF p≤6) (hh:hasB m (sigF p.fo)=true) (H:Heap):VDet Tryz.prog 18 [.agg m.cells,.agg p.fo.cells] H (.tup [.bool (hv m p (bindF m)),.int .i64 0]):=by
 have:=eval_c m hm hn p hp.sm hva hp.right H
 rwa [if_neg (by omega),if_pos hh] at this
def mAw:Mdl:=⟨2,2,[],0,[⟨nR,2,6⟩],[⟨nF,1,[1,0]⟩],[⟨nX,1⟩]⟩
theorem mAw_sm:mAw.Sm:=⟨by decide,by decide,by decide,by decide,fun f hf=>by rw [yaz.1 hf];decide⟩
theorem mAw_nm:mAw.Nm:=⟨fun f hf=>by rw [yaz.1 hf];decide,fun f hf=>by rw [yaz.1 hf];decide,fun f hf=>by rw [yaz.1 hf];decide⟩
theorem mAw_v:zb0 mAw=true:=by kernel_rfl
def aw1:Fq:=.qn 8 nX (.qn 9 nY (.at_ nR [.vr nX,.vr nY]))
def aw2:Fq:=.qn 9 nY (.qn 8 nX (.at_ nR [.vr nX,.vr nY]))
def aw3:Fq:=.qn 8 nX (.at_ nR [.vr nX,.ap nF (.vr nX)])
def aw4:Fq:=.at_ nR [.vr nX,.ap nF (.ap nF (.vr nX))]
theorem awR {s:ByteArray} {a:Int} (h:nR=s∧a=2):inP s a∧hasFct mAw s a:=by
 obtain ⟨rfl,rfl⟩:=h
 exact ⟨.inr (.inr ⟨rfl,rfl⟩),by show (mAw.facts.find? (factP nR 2)).isSome=true;kernel_rfl⟩
theorem awF {s:ByteArray} {a:Int} (h:nF=s∧a=1):inC s a∧zgl mAw s a:=by
 obtain ⟨rfl,rfl⟩:=h
 exact ⟨.inr ⟨rfl,rfl⟩,by show (mAw.funcs.find? (funcP nF 1)).isSome=true;kernel_rfl⟩
theorem awX {x:ByteArray} (h:nX=x):inV x∧zic mAw x:=by
 subst h
 exact ⟨.inl rfl,by show (mAw.binds.find? (bindP nX)).isSome=true;kernel_rfl⟩
theorem aw1_std:stdF aw1:=⟨.inl rfl,by kernel_rfl,.inr rfl,by kernel_rfl,by kernel_rfl,by decide,fun t ht=>by
  rcases yay.1 ht with h|h
  ·rw [h];exact ⟨by show isVar nX=true;kernel_rfl,by decide⟩
  ·rw [yaz.1 h];exact ⟨by show isVar nY=true;kernel_rfl,by decide⟩⟩
theorem aw1_p (s:ByteArray) (a:Int) (h:aw1.hasP s a):nR=s∧a=2:=h
theorem aw1_c (s:ByteArray) (a:Int) (h:aw1.hasC s a):nF=s∧a=1:=by
 obtain ⟨t,ht,h⟩:=h
 rcases yay.1 ht with e|e
 ·rw [e] at h;exact h.elim
 ·rw [yaz.1 e] at h
  exact h.elim
theorem aw1_v (x:ByteArray) (h:aw1.free x):nX=x:=by
 obtain ⟨⟨⟨t,ht,h⟩,h1⟩,h2⟩:=h
 rcases yay.1 ht with e|e
 ·rw [e] at h;exact h
 ·rw [yaz.1 e] at h;exact absurd (Eq.symm h) h1
theorem aw1_gd:Gd aw1:=⟨aw1_std,by decide,by decide,fun s a h=>(awR (aw1_p s a h)).1,fun s a h=>(awF (aw1_c s a h)).1,fun x h=>(awX (aw1_v x h)).1⟩
theorem aw1_e (H:Heap):VDet Tryz.prog 18 [.agg [.int .u8 2,.int .i64 2,.nils,.int .i64 0,.sx 1 [.str nR,.int .i64 2,.int .i64 6],.sx 1 [.str nF,.int .i64 1,.sx 2 [.int .i64 1,.int .i64 0]],.sx 1 [.str nX,.int .i64 1]],.agg [.int .u8 8,.str nX,.sl none 0 [],.sl none 1 [.int .u8 9,.str nY,.sl none 0 [],.sl none 1 [.int .u8 1,.str nR,.sl none 2 [.bool true,.str nX,.sl none 0 [],.bool true,.str nY,.sl none 0 []],.sl none 0 []]]]] H (.tup [.bool true,.int .i64 0]):=by
 have h:=evalG_c mAw mAw_sm mAw_nm mAw_v aw1 aw1_gd (by decide) (has_mk (zez _ aw1_std) (fun s a h=>(awR (aw1_p s a h)).2) (fun s a h=>(awF (aw1_c s a h)).2) fun x h=>(awX (aw1_v x h)).2) H
 have hb:hv mAw aw1 (bindF mAw)=true:=by kernel_rfl
 rw [hb] at h
 exact zbq h ⟨zb9 ⟨yae _,yae _,zc0,yae _,wk_sx _ _,wk_sxL ⟨yae _,yae _,wk_sx _ _,trivial⟩,wk_sx _ _,trivial⟩,yae _,trivial⟩
theorem aw2_std:stdF aw2:=⟨.inr rfl,by kernel_rfl,.inl rfl,by kernel_rfl,by kernel_rfl,by decide,fun t ht=>by
  rcases yay.1 ht with h|h
  ·rw [h];exact ⟨by show isVar nX=true;kernel_rfl,by decide⟩
  ·rw [yaz.1 h];exact ⟨by show isVar nY=true;kernel_rfl,by decide⟩⟩
theorem aw2_p (s:ByteArray) (a:Int) (h:aw2.hasP s a):nR=s∧a=2:=h
theorem aw2_c (s:ByteArray) (a:Int) (h:aw2.hasC s a):nF=s∧a=1:=by
 obtain ⟨t,ht,h⟩:=h
 rcases yay.1 ht with e|e
 ·rw [e] at h;exact h.elim
 ·rw [yaz.1 e] at h
  exact h.elim
theorem aw2_v (x:ByteArray) (h:aw2.free x):nX=x:=by
 obtain ⟨⟨⟨t,ht,h⟩,h2⟩,h1⟩:=h
 rcases yay.1 ht with e|e
 ·rw [e] at h;exact h
 ·rw [yaz.1 e] at h;exact absurd (Eq.symm h) h1
theorem aw2_gd:Gd aw2:=⟨aw2_std,by decide,by decide,fun s a h=>(awR (aw2_p s a h)).1,fun s a h=>(awF (aw2_c s a h)).1,fun x h=>(awX (aw2_v x h)).1⟩
theorem aw2_e (H:Heap):VDet Tryz.prog 18 [.agg [.int .u8 2,.int .i64 2,.nils,.int .i64 0,.sx 1 [.str nR,.int .i64 2,.int .i64 6],.sx 1 [.str nF,.int .i64 1,.sx 2 [.int .i64 1,.int .i64 0]],.sx 1 [.str nX,.int .i64 1]],.agg [.int .u8 9,.str nY,.sl none 0 [],.sl none 1 [.int .u8 8,.str nX,.sl none 0 [],.sl none 1 [.int .u8 1,.str nR,.sl none 2 [.bool true,.str nX,.sl none 0 [],.bool true,.str nY,.sl none 0 []],.sl none 0 []]]]] H (.tup [.bool false,.int .i64 0]):=by
 have h:=evalG_c mAw mAw_sm mAw_nm mAw_v aw2 aw2_gd (by decide) (has_mk (zez _ aw2_std) (fun s a h=>(awR (aw2_p s a h)).2) (fun s a h=>(awF (aw2_c s a h)).2) fun x h=>(awX (aw2_v x h)).2) H
 have hb:hv mAw aw2 (bindF mAw)=false:=by kernel_rfl
 rw [hb] at h
 exact zbq h ⟨zb9 ⟨yae _,yae _,zc0,yae _,wk_sx _ _,wk_sxL ⟨yae _,yae _,wk_sx _ _,trivial⟩,wk_sx _ _,trivial⟩,yae _,trivial⟩
theorem aw3_std:stdF aw3:=⟨.inl rfl,by kernel_rfl,by kernel_rfl,by decide,fun t ht=>by
  rcases yay.1 ht with h|h
  ·rw [h];exact ⟨by show isVar nX=true;kernel_rfl,by decide⟩
  ·rw [yaz.1 h];exact ⟨⟨by kernel_rfl,by show isVar nX=true;kernel_rfl⟩,by decide⟩⟩
theorem aw3_p (s:ByteArray) (a:Int) (h:aw3.hasP s a):nR=s∧a=2:=h
theorem aw3_c (s:ByteArray) (a:Int) (h:aw3.hasC s a):nF=s∧a=1:=by
 obtain ⟨t,ht,h⟩:=h
 rcases yay.1 ht with e|e
 ·rw [e] at h;exact h.elim
 ·rw [yaz.1 e] at h
  exact h.elim id fun h=>h.elim
theorem aw3_v (x:ByteArray) (h:aw3.free x):nX=x:=by
 obtain ⟨⟨t,ht,h⟩,h2⟩:=h
 rcases yay.1 ht with e|e
 ·rw [e] at h;exact h
 ·rw [yaz.1 e] at h;exact h
theorem aw3_gd:Gd aw3:=⟨aw3_std,by decide,by decide,fun s a h=>(awR (aw3_p s a h)).1,fun s a h=>(awF (aw3_c s a h)).1,fun x h=>(awX (aw3_v x h)).1⟩
theorem aw3_e (H:Heap):VDet Tryz.prog 18 [.agg [.int .u8 2,.int .i64 2,.nils,.int .i64 0,.sx 1 [.str nR,.int .i64 2,.int .i64 6],.sx 1 [.str nF,.int .i64 1,.sx 2 [.int .i64 1,.int .i64 0]],.sx 1 [.str nX,.int .i64 1]],.agg [.int .u8 8,.str nX,.sl none 0 [],.sl none 1 [.int .u8 1,.str nR,.sl none 2 [.bool true,.str nX,.sl none 0 [],.bool false,.str nF,.sl none 1 [.bool true,.str nX,.sl none 0 []]],.sl none 0 []]]] H (.tup [.bool true,.int .i64 0]):=by
 have h:=evalG_c mAw mAw_sm mAw_nm mAw_v aw3 aw3_gd (by decide) (has_mk (zez _ aw3_std) (fun s a h=>(awR (aw3_p s a h)).2) (fun s a h=>(awF (aw3_c s a h)).2) fun x h=>(awX (aw3_v x h)).2) H
 have hb:hv mAw aw3 (bindF mAw)=true:=by kernel_rfl
 rw [hb] at h
 exact zbq h ⟨zb9 ⟨yae _,yae _,zc0,yae _,wk_sx _ _,wk_sxL ⟨yae _,yae _,wk_sx _ _,trivial⟩,wk_sx _ _,trivial⟩,yae _,trivial⟩
theorem aw4_std:stdF aw4:=⟨by kernel_rfl,by decide,fun t ht=>by
  rcases yay.1 ht with h|h
  ·rw [h];exact ⟨by show isVar nX=true;kernel_rfl,by decide⟩
  ·rw [yaz.1 h];exact ⟨⟨by kernel_rfl,by kernel_rfl,by show isVar nX=true;kernel_rfl⟩,by decide⟩⟩
theorem aw4_p (s:ByteArray) (a:Int) (h:aw4.hasP s a):nR=s∧a=2:=h
theorem aw4_c (s:ByteArray) (a:Int) (h:aw4.hasC s a):nF=s∧a=1:=by
 obtain ⟨t,ht,h⟩:=h
 rcases yay.1 ht with e|e
 ·rw [e] at h;exact h.elim
 ·rw [yaz.1 e] at h
  exact h.elim id fun h=>h.elim id fun h=>h.elim
theorem aw4_v (x:ByteArray) (h:aw4.free x):nX=x:=by
 obtain ⟨t,ht,h⟩:=h
 rcases yay.1 ht with e|e
 ·rw [e] at h;exact h
 ·rw [yaz.1 e] at h;exact h
theorem aw4_gd:Gd aw4:=⟨aw4_std,by decide,by decide,fun s a h=>(awR (aw4_p s a h)).1,fun s a h=>(awF (aw4_c s a h)).1,fun x h=>(awX (aw4_v x h)).1⟩
theorem aw4_e (H:Heap):VDet Tryz.prog 18 [.agg [.int .u8 2,.int .i64 2,.nils,.int .i64 0,.sx 1 [.str nR,.int .i64 2,.int .i64 6],.sx 1 [.str nF,.int .i64 1,.sx 2 [.int .i64 1,.int .i64 0]],.sx 1 [.str nX,.int .i64 1]],.agg [.int .u8 1,.str nR,.sl none 2 [.bool true,.str nX,.sl none 0 [],.bool false,.str nF,.sl none 1 [.bool false,.str nF,.sl none 1 [.bool true,.str nX,.sl none 0 []]]],.sl none 0 []]] H (.tup [.bool false,.int .i64 0]):=by
 have h:=evalG_c mAw mAw_sm mAw_nm mAw_v aw4 aw4_gd (by decide) (has_mk (zez _ aw4_std) (fun s a h=>(awR (aw4_p s a h)).2) (fun s a h=>(awF (aw4_c s a h)).2) fun x h=>(awX (aw4_v x h)).2) H
 have hb:hv mAw aw4 (bindF mAw)=false:=by kernel_rfl
 rw [hb] at h
 exact zbq h ⟨zb9 ⟨yae _,yae _,zc0,yae _,wk_sx _ _,wk_sxL ⟨yae _,yae _,wk_sx _ _,trivial⟩,wk_sx _ _,trivial⟩,yae _,trivial⟩
def sAw:Sig:=⟨[(nP,1)],[(nA,0)],[]⟩
theorem sAw_sm:sAw.Sm:=⟨by decide,by decide,by decide,fun f hf=>by rw [yaz.1 hf];decide,fun f hf=>by rw [yaz.1 hf];decide,fun f hf=>by cases hf⟩
theorem sAw_r:sigR sAw=true:=by kernel_rfl
def fiveM:Mdl:=⟨2,2,[],0,[⟨nP,1,2⟩],[⟨nA,0,[1]⟩],[]⟩
theorem five_sm:fiveM.Sm:=⟨by decide,by decide,by decide,by decide,fun f hf=>by rw [yaz.1 hf];decide⟩
theorem five_nm:fiveM.Nm:=⟨fun f hf=>by rw [yaz.1 hf];decide,fun f hf=>by rw [yaz.1 hf];decide,fun f hf=>by cases hf⟩
theorem five_v:zb0 fiveM=true:=by kernel_rfl
def twoM:Mdl:=⟨2,2,[],0,[⟨nP,1,1⟩],[⟨nA,0,[0]⟩],[]⟩
theorem two_sm:twoM.Sm:=⟨by decide,by decide,by decide,by decide,fun f hf=>by rw [yaz.1 hf];decide⟩
theorem two_nm:twoM.Nm:=⟨fun f hf=>by rw [yaz.1 hf];decide,fun f hf=>by rw [yaz.1 hf];decide,fun f hf=>by cases hf⟩
theorem two_v:zb0 twoM=true:=by kernel_rfl
theorem wkSAW:Wk (.agg [.sx 1 [.str nP,.int .i64 1],.sx 1 [.str nA,.int .i64 0],.nils]) (.agg sAw.cells):=zb9 ⟨wk_sx _ _,wk_sx _ _,zc0,trivial⟩
theorem rvB_iff (m:Mdl):∀ t:Tq,(rvB m t).isSome=true↔(∀ x,t.hasV x→zic m x)∧∀ s a,t.hasC s a→zgl m s a
 | .vr s=>by
   unfold rvB
   rw [ydk]
   exact ⟨fun h=>⟨fun x hx=>by cases hx;exact h,fun _ _ h=>h.elim⟩,fun h=>h.1 s rfl⟩
 | .cn s=>by
   unfold rvB
   rw [ydk]
   exact ⟨fun h=>⟨fun _ h=>h.elim,fun c a hc=>by obtain ⟨rfl,rfl⟩:=hc;exact h⟩,fun h=>h.2 s 0 ⟨rfl,rfl⟩⟩
 | .ap s t=>by
   have ih:=rvB_iff m t
   have e:(rvB m (.ap s t)).isSome=((rvB m t).isSome&&(m.funcs.find? (funcP s 1)).isSome):=by
    show ((rvB m t).bind _).isSome=_
    cases rvB m t with
    | none=>rfl
    | some a=>rw [ycz,ydk];rfl
   rw [e,yak,ih]
   constructor
   ·rintro ⟨⟨h1,h2⟩,h3⟩
    exact ⟨h1,fun c a hc=>by
     rcases hc with ⟨rfl,rfl⟩|hc
     ·exact h3
     ·exact h2 c a hc⟩
   ·rintro ⟨h1,h2⟩
    exact ⟨⟨h1,fun c a hc=>h2 c a (.inr hc)⟩,h2 s 1 (.inl ⟨rfl,rfl⟩)⟩
theorem zh3:∀ (p:Fq) (m:Mdl),rhas p m=true↔(∀ s a,p.hasP s a→hasFct m s a)∧(∀ s a,p.hasC s a→zgl m s a)∧∀ x,p.free x→zic m x
 | .at_ s l,m=>by
   unfold rhas
   rw [yak,yao]
   constructor
   ·rintro ⟨h1,h2⟩
    refine ⟨fun c a hc=>by obtain ⟨rfl,rfl⟩:=hc;exact h2,fun c a hc=>?_,fun x hx=>?_⟩
    ·obtain ⟨t,ht,hc⟩:=hc
     exact ((rvB_iff m t).1 (h1 t ht)).2 c a hc
    ·obtain ⟨t,ht,hx⟩:=hx
     exact ((rvB_iff m t).1 (h1 t ht)).1 x hx
   ·rintro ⟨h1,h2,h3⟩
    exact ⟨fun t ht=>(rvB_iff m t).2 ⟨fun x hx=>h3 x ⟨t,ht,hx⟩,fun c a hc=>h2 c a ⟨t,ht,hc⟩⟩,h1 s _ ⟨rfl,rfl⟩⟩
 | .fa,m=>⟨fun _=>⟨fun _ _ h=>h.elim,fun _ _ h=>h.elim,fun _ h=>h.elim⟩,fun _=>rfl⟩
 | .f1 a,m=>zh3 a m
 | .f2 _ a b,m=>by
   unfold rhas
   rw [yak,zh3 a m,zh3 b m]
   constructor
   ·rintro ⟨⟨h1,h2,h3⟩,h4,h5,h6⟩
    exact ⟨fun s n h=>h.elim (h1 s n) (h4 s n),fun s n h=>h.elim (h2 s n) (h5 s n),fun x h=>h.elim (h3 x) (h6 x)⟩
   ·rintro ⟨h1,h2,h3⟩
    exact ⟨⟨fun s n h=>h1 s n (.inl h),fun s n h=>h2 s n (.inl h),fun x h=>h3 x (.inl h)⟩,fun s n h=>h1 s n (.inr h),fun s n h=>h2 s n (.inr h),fun x h=>h3 x (.inr h)⟩
 | .qn _ y a,m=>by
   have hB:∀ x,zic (bindM m y 0) x↔(x=y∨zic m x):=fun x=>by
    show ((bindL y 0 m.binds).find? (bindP x)).isSome=true↔_
    rw [zej]
    by_cases h:y=x
    ·rw [if_pos h]
     exact ⟨fun _=>.inl h.symm,fun _=>rfl⟩
    ·rw [if_neg h]
     exact ⟨fun h2=>.inr h2,fun h2=>h2.resolve_left fun e=>h e.symm⟩
   show rhas a (bindM m y 0)=true↔_
   rw [zh3 a]
   constructor
   ·rintro ⟨h1,h2,h3⟩
    exact ⟨h1,h2,fun x hx=>((hB x).1 (h3 x hx.1)).resolve_left hx.2⟩
   ·rintro ⟨h1,h2,h3⟩
    exact ⟨h1,h2,fun x hx=>(hB x).2 (by
     by_cases e:x=y
     ·exact .inl e
     ·exact .inr (h3 x ⟨hx,e⟩))⟩
theorem rhas_eq {m:Mdl} {p:Fq} (hok:p.Ok):rhas p m=hasB m (sigF p.fo):=by
 apply ycd.2
 rw [zh3]
 exact ⟨fun h=>has_mk hok h.1 h.2.1 h.2.2,fun h=>has_of hok h⟩
theorem rk_fo:∀ p:Fq,p.Ok→rkF p.fo=rankF p
 | .at_ s l,_=>by unfold Fq.fo rkF rkFs;rfl
 | .fa,_=>by unfold Fq.fo rkF rkFs;rfl
 | .f1 a,h=>by
   have ih:=rk_fo a h
   unfold Fq.fo rkF rkFs rkFs
   rw [ih]
   show (if isQ 3=true then _ else _)=rankF a
   rw [show isQ 3=false from rfl]
   simp
 | .f2 k a b,h=>by
   have ih1:=rk_fo a h.2.1
   have ih2:=rk_fo b h.2.2
   unfold Fq.fo rkF rkFs rkFs rkFs
   rw [ih1,ih2,show isQ k=false by rcases h.1 with rfl|rfl|rfl|rfl <;> rfl]
   show (if false=true then _ else _)=max (rankF a) (rankF b)
   simp
 | .qn k x a,h=>by
   have ih:=rk_fo a h.2
   unfold Fq.fo rkF rkFs rkFs
   rw [ih,show isQ k=true by rcases h.1 with rfl|rfl <;> rfl]
   show (if true=true then _ else _)=rankF a+1
   simp
theorem reval_bad (m:Mdl) (hm:m.Sm) (hn:m.Nm) (f:Fo) (hg:f.good) (hs:szzF f≤100000) (h:zb0 m=false∨zee f=false) (H:Heap):VDet Tryz.prog 62 [.agg m.cells,.agg f.cells] H (.tup [.bool false,.int .i64 2]):=by
 have h1:=fun H=>zh2 m hm hn H
 have h2:=fun H=>zgb f hg hs H
 rw [ref11R_eq] at h2
 obtain ⟨e1,e2,e3,e4,e5,e6,e7,e8,e9,e10,e11,hmc,hb⟩:=zdq m
 obtain ⟨w1,w2,w3,w4,w5,w6,hw,hwb⟩:=zbz f
 rw [hmc] at h1 ⊢
 rw [hw] at h2 ⊢
 cases hv:zb0 m <;> rw [hv] at h1
 ·refine fdD Tryz.func62 ⟨rfl,rfl,rfl⟩ fun hcl hbl=>?_
  (repeat' ((conv=>whnf);(first|(refine yai ?_;first|refine yas ?_|refine yau rfl ?_|fail)|refine yab _ (h1 _) ?_|fail)));conv=>whnf
  exact eT (by simp [below,zab])
 ·rw [hv] at h
  rw [h.resolve_left (by decide)] at h2
  refine fdD Tryz.func62 ⟨rfl,rfl,rfl⟩ fun hcl hbl=>?_
  (repeat' ((conv=>whnf);(first|(refine yai ?_;first|refine yas ?_|refine yaq rfl ?_|refine yau rfl ?_|fail)|(refine ybm ?_;first|refine yab _ (h1 _) ?_|refine yab _ (h2 _) ?_|fail)|fail)));conv=>whnf
  exact eT (by simp [below,zab])
theorem reval_c (m:Mdl) (hm:m.Sm) (hn:m.Nm) (hbn:m.binds.length≤1000) (p:Fq) (hok:p.Ok) (hg:p.fo.good) (hs:szzF p.fo≤100000) (hva:zb0 m=true) (hr:zee p.fo=true) (H:Heap):VDet Tryz.prog 62 [.agg m.cells,.agg p.fo.cells] H (if 6<rankF p then .tup [.bool false,.int .i64 3] else if hasB m (sigF p.fo) then .tup [.bool (hv m p (bindF m)),.int .i64 0] else .tup [.bool false,.int .i64 6]):=by
 have hrk:=(dpF_le p.fo).2
 rw [rk_fo p hok] at hrk
 obtain ⟨vm,-,-,-⟩:=vm_of hva
 have h1:=fun H=>zh2 m hm hn H
 have h2:=fun H=>zgb p.fo hg hs H
 rw [ref11R_eq,hr] at h2
 rw [hva] at h1
 have h3:∀ H,VDet Tryz.prog 55 [.agg p.fo.cells] H (.int .i64 (rkF p.fo:Nat)):=(msr_c p.fo hg hs).2.1
 rw [rk_fo p hok] at h3
 have h4:∀ H,VDet Tryz.prog 124 [.agg m.cells,.agg p.fo.cells] H (.bool (rhas p m)):=rhas_c p m hok hm _ vm (by omega)
 have h5:rhas p m=true→∀ H,VDet Tryz.prog 125 [.agg m.cells,.agg p.fo.cells] H (.bool (hv m p (bindF m))):=fun hh=>rhold_c p m hok hm _ vm (by omega) hh
 rw [← rhas_eq hok]
 obtain ⟨e1,e2,e3,e4,e5,e6,e7,e8,e9,e10,e11,hmc,hb⟩:=zdq m
 obtain ⟨w1,w2,w3,w4,w5,w6,hw,hwb⟩:=zbz p.fo
 rw [hmc] at h1 h4 h5 ⊢
 rw [hw] at h2 h3 h4 h5 ⊢
 generalize rankF p=R at *
 generalize rhas p m=B at *
 generalize hv m p (bindF m)=V at *
 by_cases q1:6<R
 ·rw [if_pos q1]
  refine fdD Tryz.func62 ⟨rfl,rfl,rfl⟩ fun hcl hbl=>?_
  (repeat' ((conv=>whnf);(first|(refine yai ?_;first|refine yas ?_|refine yaq rfl ?_|refine yar (by omega) ?_|fail)|(refine ybm ?_;first|refine yab _ (h1 _) ?_|refine yab _ (h2 _) ?_|refine yab _ (h3 _) ?_|fail)|fail)));conv=>whnf
  exact eT (by simp [below,zab])
 ·rw [if_neg q1]
  cases B with
  | false =>
    simp only [yba,if_false]
    refine fdD Tryz.func62 ⟨rfl,rfl,rfl⟩ fun hcl hbl=>?_
    (repeat' ((conv=>whnf);(first|(refine yai ?_;first|refine yas ?_|refine yaq rfl ?_|refine yau rfl ?_|refine ya1 (by omega) ?_|fail)|(refine ybm ?_;first|refine yab _ (h1 _) ?_|refine yab _ (h2 _) ?_|refine yab _ (h3 _) ?_|refine yab _ (h4 _) ?_|fail)|fail)));conv=>whnf
    exact eT (by simp [below,zab])
  | true =>
    have h5:=h5 rfl
    simp only [if_true]
    refine fdD Tryz.func62 ⟨rfl,rfl,rfl⟩ fun hcl hbl=>?_
    (repeat' ((conv=>whnf);(first|(refine yai ?_;first|refine yas ?_|refine yaq rfl ?_|refine ya1 (by omega) ?_|fail)|(refine ybm ?_;first|refine yab _ (h1 _) ?_|refine yab _ (h2 _) ?_|refine yab _ (h3 _) ?_|refine yab _ (h4 _) ?_|refine yab _ (h5 _) ?_|fail)|fail)));conv=>whnf
    exact eT (by simp [below,zab])
theorem rval_bad (m:Mdl) (hm:m.Sm) (hn:m.Nm) (t:Tm) (hg:t.good) (h:zb0 m=false∨(rT t&&tmR t)=false) (H:Heap):VDet Tryz.prog 63 [.agg m.cells,.agg t.cells] H (.tup [.int .i64 0,.int .i64 2]):=by
 have h1:=fun H=>zh2 m hm hn H
 have h2:=fun H=>refTerm_c t hg H
 have h3:∀ H,VDet Tryz.prog 127 [.agg t.cells] H (.bool (tmR t)):=fun H=>sml_c t hg H
 obtain ⟨e1,e2,e3,e4,e5,e6,e7,e8,e9,e10,e11,hmc,hb⟩:=zdq m
 obtain ⟨w1,w2,w3,w4,hw,hwb⟩:=zc1 t
 rw [hmc] at h1 ⊢
 rw [hw] at h2 h3 ⊢
 generalize rT t=b2 at *
 generalize tmR t=b3 at *
 cases hv:zb0 m <;> rw [hv] at h1
 ·refine fdD Tryz.func63 ⟨rfl,rfl,rfl⟩ fun hcl hbl=>?_
  (repeat' ((conv=>whnf);(first|(refine yai ?_;first|refine yas ?_|refine yau rfl ?_|fail)|refine yab _ (h1 _) ?_|fail)));conv=>whnf
  exact eT (by simp [below,zab])
 ·rw [hv] at h
  have h:=h.resolve_left (by decide)
  cases b2 <;> cases b3 <;> first|cases h|skip
  all_goals
   refine fdD Tryz.func63 ⟨rfl,rfl,rfl⟩ fun hcl hbl=>?_
   (repeat' ((conv=>whnf);(first|(refine yai ?_;first|refine yas ?_|refine yaq rfl ?_|refine yau rfl ?_|fail)|(refine ybm ?_;first|refine yab _ (h1 _) ?_|refine yab _ (h2 _) ?_|refine yab _ (h3 _) ?_|fail)|fail)));all_goals (conv=>whnf)
   exact eT (by simp [below,zab])
theorem rval_c (m:Mdl) (hm:m.Sm) (hn:m.Nm) (t:Tq) (hg:t.tm.good) (hva:zb0 m=true) (hr:(rT t.tm&&tmR t.tm)=true) (H:Heap):VDet Tryz.prog 63 [.agg m.cells,.agg t.tm.cells] H (if (rvB m t).isSome then .tup [.int .i64 (tv m (bindF m) t),.int .i64 0] else .tup [.int .i64 0,.int .i64 6]):=by
 rw [yak] at hr
 obtain ⟨vm,-,-,-⟩:=vm_of hva
 have h1:=fun H=>zh2 m hm hn H
 have h2:=fun H=>refTerm_c t.tm hg H
 have h3:∀ H,VDet Tryz.prog 127 [.agg t.tm.cells] H (.bool (tmR t.tm)):=fun H=>sml_c t.tm hg H
 have h4:=fun H=>rvalue_c m hm _ vm t H
 have htv:=rv_tv m t
 rw [hva] at h1
 rw [hr.1] at h2
 rw [hr.2] at h3
 obtain ⟨e1,e2,e3,e4,e5,e6,e7,e8,e9,e10,e11,hmc,hb⟩:=zdq m
 obtain ⟨w1,w2,w3,w4,hw,hwb⟩:=zc1 t.tm
 rw [hmc] at h1 h4 ⊢
 rw [hw] at h2 h3 h4 ⊢
 unfold optA at h4
 generalize rvB m t=o at *
 cases o with
 | none =>
   simp only [ydz,yds,yba,if_false] at h4 ⊢
   refine fdD Tryz.func63 ⟨rfl,rfl,rfl⟩ fun hcl hbl=>?_
   (repeat' ((conv=>whnf);(first|(refine yai ?_;first|refine yas ?_|refine yaq rfl ?_|refine yau rfl ?_|fail)|(refine ybm ?_;first|refine yab _ (h1 _) ?_|refine yab _ (h2 _) ?_|refine yab _ (h3 _) ?_|refine yab _ (h4 _) ?_|fail)|fail)));conv=>whnf
   exact eT (by simp [below,zab])
 | some a =>
   rw [htv a rfl]
   simp only [yc4,ydr,if_true] at h4 ⊢
   refine fdD Tryz.func63 ⟨rfl,rfl,rfl⟩ fun hcl hbl=>?_
   (repeat' ((conv=>whnf);(first|(refine yai ?_;first|refine yas ?_|refine yaq rfl ?_|fail)|(refine ybm ?_;first|refine yab _ (h1 _) ?_|refine yab _ (h2 _) ?_|refine yab _ (h3 _) ?_|refine yab _ (h4 _) ?_|fail)|fail)));conv=>whnf
   exact eT (by simp [below,zab])
theorem mxN_mem {α:Type} (f:α→Nat):∀ (l:List α) (x:α),x∈l→f x≤mxN f l
 | [],x,h=>by cases h
 | y::l,x,h=>by
   show f x≤max (f y) (mxN f l)
   rcases yay.1 h with e|h
   ·rw [e];omega
   ·have:=mxN_mem f l x h;omega
def jX (L:Int):Blk:=.box 208 [.bool false,.int .i64 L,.int .i64 9223372036854775807]
theorem jX_below (L:Int) (n:Nat):(jX L).below n:=by simp [jX,Blk.below,zab,below]
mutual
def jY (d:Nat):Tm→Int→Int×Bool
 | .mk v s l,L=>if ¬ (1≤L) then (L-1,false) else if v then (L-1,decide (l.length=0)&&isVar s) else if l.length≤4∧isFun s=true then jYs (d+1) l (L-1) else (L-1,false)
def jYs (d:Nat):List Tm→Int→Int×Bool
 | [],L=>(L,true)
 | x::l,L=>match jY d x L with
   | (M,true)=>jYs d l M
   | (M,false)=>(M,false)
end
mutual
theorem jY_bd (d:Nat):∀ (x:Tm) (L:Int),0≤L→-1≤(jY d x L).1∧(jY d x L).1≤L∧((jY d x L).2=true→0≤(jY d x L).1)
 | .mk v s l,L,h=>by
   unfold jY
   split
   ·exact ⟨by simp only;omega,by simp only;omega,fun h=>by cases h⟩
   ·split
    ·exact ⟨by simp only;omega,by simp only;omega,fun _=>by simp only;omega⟩
    ·split
     ·have:=jYs_bd (d+1) l (L-1) (by omega)
      exact ⟨this.1,by omega,this.2.2⟩
     ·exact ⟨by simp only;omega,by simp only;omega,fun h=>by cases h⟩
theorem jYs_bd (d:Nat):∀ (l:List Tm) (L:Int),0≤L→-1≤(jYs d l L).1∧(jYs d l L).1≤L∧((jYs d l L).2=true→0≤(jYs d l L).1)
 | [],L,h=>by unfold jYs;exact ⟨by simp only;omega,by simp only;omega,fun _=>h⟩
 | x::l,L,h=>by
   have h1:=jY_bd d x L h
   unfold jYs
   split
   ·rename_i M hM
    rw [hM] at h1
    have h2:=jYs_bd d l M (h1.2.2 rfl)
    exact ⟨h2.1,by have:=h1.2.1;simp only at this;omega,h2.2.2⟩
   ·rename_i M hM
    rw [hM] at h1
    exact ⟨h1.1,h1.2.1,fun h=>by cases h⟩
end
theorem jYs_nil (d:Nat) (L:Int):jYs d [] L=(L,true):=by unfold jYs;rfl
theorem jYs_cons (d:Nat) (x:Tm) (l:List Tm) (L:Int):jYs d (x::l) L=if (jY d x L).2 then jYs d l (jY d x L).1 else ((jY d x L).1,false):=by
 rw [jYs.eq_def]
 simp only
 split
 ·rename_i M h;rw [h];rfl
 ·rename_i M h;rw [h];rfl
theorem nodeX_g (H:Heap) (i:Nat) (L:Int) (d:Nat) (hi:H[i]? = some (jX L)) (hL:0≤L∧L≤9223372036854775807) (hd:d≤1000000):VCall Tryz.prog 220 [.ptr i 0,.int .i64 d] H (setR H i (jX (L-1)) (.bool (decide (1≤L)))):=by
 unfold jX at hi ⊢
 by_cases h:1≤L
 ·rw [decide_eq_true h]
  refine fdG Tryz.func220 ⟨rfl,rfl,rfl⟩ fun hcl hbl=>?_
  (repeat' ((conv=>whnf);(first|refine yar (by omega) ?_|refine yco (by omega) ?_|refine yeh _ rfl ?_|refine ych _ (by (repeat' (first|assumption|exact zbc _ rfl|exact za2 rfl|refine za9 (B':=?_) ?_|refine zat ?_|fail))) ?_|fail)));conv=>whnf
  all_goals exact za0 (by simp [Blk.below,zab,below]) trivial (zaf (by simp;try omega))
 ·rw [decide_eq_false h]
  refine fdG Tryz.func220 ⟨rfl,rfl,rfl⟩ fun hcl hbl=>?_
  (repeat' ((conv=>whnf);(first|refine ya1 (by omega) ?_|refine yco (by omega) ?_|refine yeh _ rfl ?_|refine ych _ (by (repeat' (first|assumption|exact zbc _ rfl|exact za2 rfl|refine za9 (B':=?_) ?_|refine zat ?_|fail))) ?_|fail)));conv=>whnf
  all_goals exact za0 (by simp [Blk.below,zab,below]) trivial (zaf (by simp;try omega))
def TerXP (x:Tm):Prop:=∀ (H:Heap) (i:Nat) (L:Int) (d:Nat),H[i]? = some (jX L)→0≤L∧L≤9223372036854775807→d+dT x≤1000000→VCall Tryz.prog 179 [.ptr i 0,.agg x.cells,.int .i64 d] H (setR H i (jX (jY d x L).1) (.bool (jY d x L).2))
def TerXsP (l:List Tm):Prop:=∀ (H:Heap) (i:Nat) (L:Int) (d:Nat),H[i]? = some (jX L)→0≤L∧L≤9223372036854775807→d+dTs l≤1000000→VCall Tryz.prog 222 [.ptr i 0,.sl none l.length (l.flatMap Tm.cells),.int .i64 d] H (setR H i (jX (jYs d l L).1) (.bool (jYs d l L).2))
theorem termsX_g (l:List Tm) (hlen:l.length≤9223372036854775807) (hl:∀ x∈l,TerXP x):TerXsP l:=by
 intro H i L d hi hL hd
 rw [dTs_eq] at hd
 refine fdG Tryz.func222 ⟨rfl,rfl,rfl⟩ fun hcl hbl=>?_
 conv=>whnf
 refine zd8 Tryz.E0 zag (σ:=Nat×Int) (fun p=>p.1≤l.length∧(0≤p.2∧p.2≤9223372036854775807)∧jYs d l L=jYs d (l.drop p.1) p.2) (fun p=>l.length-p.1) (fun p=>[(11,.v (.int .i64 p.1))]) (fun p=>H.set i (jX p.2)) (fun _=>[]) _ (0,L) (fun p _=>by simp) (fun p _=>zcq hcl i _ (jX_below _ _)) [0,2,9,10] rfl ⟨yah _,hL,rfl⟩ ⟨⟨_,rfl,yae _⟩,trivial⟩ (zfk hi).symm rfl (fun _ _=>rfl) ?_
 rintro ⟨k,M⟩ ⟨hk,hM,hj⟩
 simp only at hk hM hj
 have hN:(H.set i (jX M)).length=H.length:=by simp
 by_cases hlt:k<l.length
 ·have hmem:=zar l k (Tm.mk false .empty []) hlt
  rw [zbn l k (Tm.mk false .empty []) hlt] at hj
  have hx:=fun X=>hl _ hmem (H.set i (jX M)++X) i M d (zat (za9 hi)) hM (by have:=mxN_mem dT l _ hmem;omega)
  have hbd:=jY_bd d (l.getD k (Tm.mk false .empty [])) M hM.1
  rw [jYs_cons] at hj
  obtain ⟨v,s,ar,hxe⟩:∃ v s ar,l.getD k (Tm.mk false .empty [])=Tm.mk v s ar:=by
   cases l.getD k (Tm.mk false .empty []) with
   | mk v s ar=>exact ⟨v,s,ar,rfl⟩
  have hce:(l.getD k (Tm.mk false .empty [])).cells=[.bool v,.str s,.sl none ar.length (ar.flatMap Tm.cells)]:=by rw [hxe,zav]
  rw [hce] at hx
  generalize hr:jY d (l.getD k (Tm.mk false .empty [])) M=r at *
  obtain ⟨M',b⟩:=r
  simp only at hx hbd hj
  generalize hB2:jX M'=B2 at *
  cases b with
  | true =>
    (repeat' ((conv=>whnf);(first|(refine yai ?_;first|refine yas ?_|refine yaq rfl ?_|refine yar (by omega) ?_|fail)|(refine zad _ _ Cst.h Cst.h ?_ ?_;· omega)|(refine yaf ?_ ?_;· first|omega|exact yaa _ _|fail)|refine zaa (Tm.mk false .empty []) k rfl hlt zba hce ?_|refine zay i _ _ _ _ (za9 hi) (by simp) rfl (hx _) (ycn ..) ?_|fail)));conv=>whnf
    subst hB2
    (refine ⟨⟨(k+1,M'),⟨by simp only;omega,⟨hbd.2.2 rfl,by simp only;omega⟩,by simpa using hj⟩,by omega,?_,.inl ⟨rfl,rfl⟩,rfl,_,rfl,?_⟩⟩;rotate_left 1;exact .inr ⟨by simp [zaw,below,zab,tr,zah,zak,zai,zam,zal,zan],by simp [zbe,Blk.below,zab,below,zah,zak,zai,zam,zal,zan]⟩;exact ⟨⟨_,rfl,yae _⟩,trivial⟩)
  | false =>
    (repeat' ((conv=>whnf);(first|(refine yai ?_;first|refine yas ?_|refine yau rfl ?_|refine yar (by omega) ?_|fail)|(refine yaf ?_ ?_;· first|omega|exact yaa _ _|fail)|refine zaa (Tm.mk false .empty []) k rfl hlt zba hce ?_|refine zay i _ _ _ _ (za9 hi) (by simp) rfl (hx _) (ycn ..) ?_|fail)));conv=>whnf
    subst hB2
    simp only [yba,if_false] at hj
    rw [hj]
    exact za0 (jX_below _ _) trivial (yae _)
 ·have hke:k=l.length:=by omega
  subst hke
  rw [ybo,jYs_nil] at hj
  rw [hj]
  (repeat' ((conv=>whnf);(first|refine ya1 (by omega) ?_|fail)));conv=>whnf
  exact za0 (jX_below _ _) trivial (yae _)
theorem termX_step (v:Bool) (s:ByteArray) (l:List Tm) (hs:s.size≤9223372036854775807) (hl:TerXsP l):TerXP (.mk v s l):=by
 intro H i L d hi hL hd
 rw [show dT (.mk v s l)=dTs l+1 by unfold dT;rfl] at hd
 have hn:=fun X=>nodeX_g (H++X) i L d (zat hi) hL (by omega)
 have hv:=zgs s hs
 have hf:=function_g s hs
 rw [zav]
 unfold jY
 by_cases h:1≤L
 ·rw [if_neg (not_not_intro h)]
  rw [decide_eq_true h] at hn
  have ht:=fun X=>hl (H.set i (jX (L-1))++X) i (L-1) (d+1) (zat (za9 hi)) (by omega) (by omega)
  generalize isVar s=bv at *
  generalize isFun s=bf at *
  generalize hr:jYs (d+1) l (L-1)=r at *
  obtain ⟨M,b⟩:=r
  simp only at ht
  generalize l.flatMap Tm.cells=lc at *
  generalize l.length=n at *
  unfold jX at hi hn ht ⊢
  cases v with
  | true =>
    simp only [if_true]
    cases bv with
    | true =>
      refine fdG Tryz.func179 ⟨rfl,rfl,rfl⟩ fun hcl hbl=>?_
      (repeat' ((conv=>whnf);(first|(refine yai ?_;first|refine yas ?_|refine yaq rfl ?_|refine zcy (fun _=>?_) (fun _=>?_)|fail)|refine yab _ (hv _) ?_|refine zay i _ _ _ _ hi rfl rfl (hn _) rfl ?_|fail)));all_goals (conv=>whnf)
      all_goals exact za0 (by simp [Blk.below,zab,below]) trivial (zaf (by simp;try omega))
    | false =>
      refine fdG Tryz.func179 ⟨rfl,rfl,rfl⟩ fun hcl hbl=>?_
      (repeat' ((conv=>whnf);(first|(refine yai ?_;first|refine yas ?_|refine yaq rfl ?_|refine yau rfl ?_|refine zcy (fun _=>?_) (fun _=>?_)|fail)|refine yab _ (hv _) ?_|refine zay i _ _ _ _ hi rfl rfl (hn _) rfl ?_|refine ych _ (by (repeat' (first|assumption|exact zbc _ rfl|exact za2 rfl|refine za9 (B':=?_) ?_|refine zat ?_|fail))) ?_|fail)));all_goals (conv=>whnf)
      all_goals exact za0 (by simp [Blk.below,zab,below]) trivial (zaf (by simp;try omega))
  | false =>
    simp only [yba,if_false]
    by_cases h4:n≤4∧bf=true
    ·obtain ⟨h4,rfl⟩:=h4
     rw [if_pos ⟨h4,rfl⟩]
     refine fdG Tryz.func179 ⟨rfl,rfl,rfl⟩ fun hcl hbl=>?_
     (repeat' ((conv=>whnf);(first|(refine yai ?_;first|refine yas ?_|refine yaq rfl ?_|refine yau rfl ?_|refine yar (by omega) ?_|fail)|(refine zad _ _ Cst.h Cst.h ?_ ?_;· omega)|refine yab _ (hf _) ?_|refine zay i _ _ _ _ hi rfl rfl (hn _) rfl ?_|refine zay i _ _ _ _ (za9 hi) (by simp) rfl (ht _) (ycn ..) ?_|fail)));conv=>whnf
     all_goals exact za0 (by simp [Blk.below,zab,below]) trivial (zaf (by simp;try omega))
    ·rw [if_neg h4]
     cases bf with
     | true =>
       have h4:¬ n≤4:=fun e=>h4 ⟨e,rfl⟩
       refine fdG Tryz.func179 ⟨rfl,rfl,rfl⟩ fun hcl hbl=>?_
       (repeat' ((conv=>whnf);(first|(refine yai ?_;first|refine yas ?_|refine yaq rfl ?_|refine yau rfl ?_|refine ya1 (by omega) ?_|fail)|refine zay i _ _ _ _ hi rfl rfl (hn _) rfl ?_|fail)));conv=>whnf
       all_goals exact za0 (by simp [Blk.below,zab,below]) trivial (zaf (by simp;try omega))
     | false =>
       refine fdG Tryz.func179 ⟨rfl,rfl,rfl⟩ fun hcl hbl=>?_
       (repeat' ((conv=>whnf);(first|(refine yai ?_;first|refine yas ?_|refine yaq rfl ?_|refine yau rfl ?_|refine zcy (fun _=>?_) (fun _=>?_)|fail)|refine yab _ (hf _) ?_|refine zay i _ _ _ _ hi rfl rfl (hn _) rfl ?_|fail)));all_goals (conv=>whnf)
       all_goals exact za0 (by simp [Blk.below,zab,below]) trivial (zaf (by simp;try omega))
 ·rw [if_pos h]
  rw [decide_eq_false h] at hn
  unfold jX at hi hn ⊢
  refine fdG Tryz.func179 ⟨rfl,rfl,rfl⟩ fun hcl hbl=>?_
  (repeat' ((conv=>whnf);(first|(refine yai ?_;first|refine yas ?_|refine yau rfl ?_|fail)|refine zay i _ _ _ _ hi rfl rfl (hn _) rfl ?_|fail)));conv=>whnf
  exact za0 (by simp [Blk.below,zab,below]) trivial (yae _)
mutual
theorem termX_g:∀ x:Tm,x.good→TerXP x
 | .mk v s l,h=>termX_step v s l (by have:=h.1;exact zaz this) (termsX_g l (zaz h.2.1) (termsX_all l h.2.2))
theorem termsX_all:∀ l:List Tm,Tm.goodL l→∀ x∈l,TerXP x
 | [],_,x,h=>by cases h
 | y::l,hg,x,h=>by
   have h1:=termX_g y hg.1
   have h2:=termsX_all l hg.2
   rcases yay.1 h with e|h
   ·exact e▸h1
   ·exact h2 x h
end
theorem jYs_ok (d:Nat):∀ (l:List Tm),(∀ x∈l,∀ L:Int,(szzT x:Int)≤L→(jY d x L).2=rT x∧(rT x=true→(jY d x L).1=L-szzT x))→∀ L:Int,(szzTs l:Int)≤L→(jYs d l L).2=rTs l∧(rTs l=true→(jYs d l L).1=L-szzTs l)
 | [],_,L,_=>by
   rw [jYs_nil]
   unfold rTs szzTs
   exact ⟨rfl,fun _=>by show L=_;omega⟩
 | x::l,h,L,hL=>by
   have e1:rTs (x::l)=(rT x&&rTs l):=by rw [rTs.eq_def]
   have e2:szzTs (x::l)=szzT x+szzTs l:=by rw [szzTs.eq_def]
   rw [e2] at hL
   rw [jYs_cons,e1,e2]
   obtain ⟨h1,h2⟩:=h x (ybd ..) L (by omega)
   cases hr:rT x with
   | false =>
     rw [hr] at h1
     rw [h1]
     exact ⟨rfl,fun h=>by cases h⟩
   | true =>
     rw [hr] at h1
     rw [h1,if_pos rfl,h2 hr,ya9]
     obtain ⟨h3,h4⟩:=jYs_ok d l (fun y hy=>h y (ya5 _ hy)) (L-szzT x) (by omega)
     exact ⟨h3,fun h=>by rw [h4 h];omega⟩
mutual
theorem jY_ok:∀ (x:Tm) (d:Nat) (L:Int),(szzT x:Int)≤L→(jY d x L).2=rT x∧(rT x=true→(jY d x L).1=L-szzT x)
 | .mk v s l,d,L,hL=>by
   have e1:rT (.mk v s l)=if v then decide (l.length=0)&&isVar s else rTs l&&(isFun s&&decide (l.length≤4)):=by rw [rT.eq_def]
   have e2:szzT (.mk v s l)=szzTs l+1:=by rw [szzT.eq_def]
   have e3:jY d (.mk v s l) L=if ¬ (1≤L) then (L-1,false) else if v then (L-1,decide (l.length=0)&&isVar s) else if l.length≤4∧isFun s=true then jYs (d+1) l (L-1) else (L-1,false):=by rw [jY.eq_def]
   rw [e2] at hL
   rw [e1,e2,e3,if_neg (not_not_intro (by omega))]
   cases v with
   | true =>
     rw [if_pos rfl,if_pos rfl]
     refine ⟨rfl,fun h=>?_⟩
     have h3:l=[]:=yd8.1 (of_decide_eq_true (ybn.1 h).1)
     subst h3
     unfold szzTs
     show L-1=_
     omega
   | false =>
     simp only [yba,if_false]
     obtain ⟨h3,h4⟩:=jYs_ok (d+1) l (fun y hy L hL=>jYm_ok l y hy (d+1) L hL) (L-1) (by omega)
     by_cases h2:l.length≤4∧isFun s=true
     ·rw [if_pos h2,h2.2,decide_eq_true h2.1,Bool.and_true,Bool.and_true]
      exact ⟨h3,fun h=>by rw [h4 h];omega⟩
     ·rw [if_neg h2]
      have:(isFun s&&decide (l.length≤4))=false:=ybj.2 fun h=>h2 ⟨of_decide_eq_true (ybn.1 h).2,(ybn.1 h).1⟩
      rw [this,yc6]
      exact ⟨rfl,fun h=>by cases h⟩
theorem jYm_ok:∀ (l:List Tm) (y:Tm),y∈l→∀ (d:Nat) (L:Int),(szzT y:Int)≤L→(jY d y L).2=rT y∧(rT y=true→(jY d y L).1=L-szzT y)
 | [],y,h,_,_,_=>by cases h
 | x::l,y,h,d,L,hL=>by
   rcases yay.1 h with e|h
   ·rw [e] at hL ⊢
    exact jY_ok x d L hL
   ·exact jYm_ok l y h d L hL
end
theorem termG_c (x:Tm) (hg:x.good) (hs:szzT x≤100000) (H:Heap):VDet Tryz.prog 117 [.agg x.cells] H (.bool (rT x)):=by
 have hd:=dT_le x
 have h1:=fun X=>termX_g x hg (H++X)
 have hok:=(jY_ok x 1 9223372036854775807 (by omega)).1
 have hc:∀ B,VCall Tryz.prog 179 [.ptr (H.length+1) 0,.agg x.cells,.int .i64 1] (H++[B,jX 9223372036854775807]) (setR (H++[B,jX 9223372036854775807]) (H.length+1) (jX (jY 1 x 9223372036854775807).1) (.bool (rT x))):=fun B=>by
  have:=termX_g x hg (H++[B,jX 9223372036854775807]) (H.length+1) 9223372036854775807 1 (by simp) (by omega) (by omega)
  rw [hok] at this
  exact this
 generalize (jY 1 x 9223372036854775807).1=M at *
 generalize rT x=b at *
 obtain ⟨w1,w2,w3,w4,hw,hb⟩:=zc1 x
 rw [hw] at hc ⊢
 unfold jX at hc
 refine fdD Tryz.func117 ⟨rfl,rfl,rfl⟩ fun hcl hbl=>?_
 (repeat' ((conv=>whnf);(first|refine CallN.setL 1 _ _ _ rfl rfl (hc _) rfl ?_|fail)));conv=>whnf
 exact eT trivial
def fT (t:Tq):Fo:=.mk 0 .empty ([t].map Tq.tm) []
theorem predY_fT (t:Tq) (s:Sym):s ∉ predY (fT t):=by
 intro h
 unfold predY at h
 rw [foldY_mem] at h
 rcases h with h|⟨x,hx,h⟩
 ·cases h
 ·unfold fT at hx
  rw [zcz,zb1] at hx
  rw [yaz.1 hx] at h
  exact absurd h.1 (by decide)
theorem funY_fT (t:Tq) (s:Sym):s∈funY (fT t)↔t.hasC s.1 s.2:=by
 unfold funY fT
 rw [foldZ_mem,zcz,zb1,zed,no_ex,or_false]
 constructor
 ·rintro (h|h)
  ·cases h
  ·obtain ⟨u,hu,h⟩:=(tqs_parts [t] s).1 h
   rw [yaz.1 hu] at h
   exact h
 ·intro h
  exact .inr ((tqs_parts [t] s).2 ⟨t,yaz.2 rfl,h⟩)
theorem freeF_fT (t:Tq) (x:ByteArray):x∈freeF (fT t)↔t.hasV x:=by
 unfold freeF fT
 rw [frF_mk,zd4,frTs_mem]
 constructor
 ·rintro (h|⟨⟨u,hu,h⟩,-⟩)
  ·cases h
  ·rw [yaz.1 hu] at h
   exact h
 ·intro h
  exact .inr ⟨⟨t,yaz.2 rfl,h⟩,rfl⟩
theorem tq_ofR:∀ t:Tm,rT t=true→tmR t=true→∃ q:Tq,t=q.tm
 | .mk v s l,h1,h2=>by
   have e1:rT (.mk v s l)=if v then decide (l.length=0)&&isVar s else rTs l&&(isFun s&&decide (l.length≤4)):=by rw [rT.eq_def]
   rw [e1] at h1
   have e2:tmR (.mk v s l)=(decide (l.length≤1)&&l.all tmR):=by
    rw [← zef]
    unfold tmR
    rfl
   rw [e2,yak,decide_eq_true_eq] at h2
   cases v with
   | true =>
     rw [if_pos rfl] at h1
     have h3:l=[]:=yd8.1 (of_decide_eq_true (ybn.1 h1).1)
     subst h3
     exact ⟨.vr s,rfl⟩
   | false =>
     simp only [yba,if_false] at h1
     match l,h1,h2 with
     | [],_,_=>exact ⟨.cn s,rfl⟩
     | [u],h1,h2 =>
       have h3:rT u=true:=by
        have:=(ybn.1 h1).1
        rw [rTs_all] at this
        exact yao.1 this u (yaz.2 rfl)
       have h4:=yao.1 h2.2 u (yaz.2 rfl)
       obtain ⟨q,hq⟩:=tq_ofR u h3 h4
       exact ⟨.ap s q,by rw [hq];rfl⟩
     | _::_::_,_,h2 =>
       exfalso
       have:=h2.1
       simp only [ybu] at this
       omega
def tqC:Tq→List Sym
 | .vr _=>[]
 | .cn s=>[(s,0)]
 | .ap s t=>(s,1)::tqC t
def tqV:Tq→List ByteArray
 | .vr s=>[s]
 | .cn _=>[]
 | .ap _ t=>tqV t
theorem tqC_mem:∀ (t:Tq) (x:Sym),t.hasC x.1 x.2→x∈tqC t
 | .vr _,_,h=>h.elim
 | .cn s,(c,a),h=>by
   obtain ⟨h1,h2⟩:=h
   have h1:s=c:=h1
   have h2:((a:Nat):Int)=0:=h2
   have h3:a=0:=by omega
   rw [h3,h1]
   exact yaz.2 rfl
 | .ap s t,(c,a),h=>by
   rcases h with ⟨h1,h2⟩|h
   ·have h1:s=c:=h1
    have h2:((a:Nat):Int)=1:=h2
    have h3:a=1:=by omega
    rw [h3,h1]
    exact ybd ..
   ·exact ya5 _ (tqC_mem t _ h)
theorem tqV_mem:∀ (t:Tq) (x:ByteArray),t.hasV x→x∈tqV t
 | .vr s,x,h=>by
   have h:s=x:=h
   rw [h]
   exact yaz.2 rfl
 | .cn _,_,h=>h.elim
 | .ap _ t,x,h=>tqV_mem t x h
theorem tq_len:∀ t:Tq,(tqC t).length≤szzT t.tm∧(tqV t).length≤1
 | .vr s=>⟨yah _,yax _⟩
 | .cn s=>⟨by unfold Tq.tm szzT;show 1≤_;omega,yah _⟩
 | .ap s t=>by
   have ih:=tq_len t
   refine ⟨?_,ih.2⟩
   unfold Tq.tm szzT szzTs szzTs
   show (tqC t).length+1≤_
   omega
theorem has_fT (m:Mdl) (t:Tq):hasB m (sigF (fT t))=(rvB m t).isSome:=by
 apply ycd.2
 rw [rvB_iff]
 unfold hasB
 rw [yak,yak,yao,yao,yao]
 constructor
 ·rintro ⟨-,h2,h3⟩
  refine ⟨fun x hx=>h3 x ((zc6 _).mem_iff.2 ((freeF_fT t x).2 hx)),fun s a hc=>?_⟩
  have ha:0≤a:=by
   clear h2 h3
   induction t with
   | vr _=>exact hc.elim
   | cn c=>rw [hc.2];decide
   | ap c u ih =>
     rcases hc with ⟨-,h⟩|h
     ·rw [h];decide
     ·exact ih h
  obtain ⟨k,rfl⟩:∃ k:Nat,a=k:=⟨a.toNat,by omega⟩
  exact h2 _ (ybx.2 ⟨(s,k),(zbp _).mem_iff.2 ((funY_fT t (s,k)).2 hc),rfl⟩)
 ·rintro ⟨h1,h2⟩
  refine ⟨fun x hx=>?_,fun x hx=>?_,fun x hx=>?_⟩
  ·obtain ⟨y,hy,rfl⟩:=ybx.1 hx
   exact absurd ((zbp _).mem_iff.1 hy) (predY_fT t y)
  ·obtain ⟨y,hy,rfl⟩:=ybx.1 hx
   exact h2 _ _ ((funY_fT t y).1 ((zbp _).mem_iff.1 hy))
  ·exact h1 _ ((freeF_fT t x).1 ((zc6 _).mem_iff.1 hx))
theorem value58G_c (m:Mdl) (hm:m.Sm) (hnm:m.Nm) (hva:zb0 m=true) (t:Tq) (hg:t.tm.good) (hs:szzT t.tm≤100000) (hrt:rT t.tm=true) (H:Heap):VDet Tryz.prog 58 [.agg m.cells,.agg (tqx t)] H (if (rvB m t).isSome then .tup [.int .i64 (tv m (bindF m) t),.int .i64 0] else .tup [.int .i64 0,.int .i64 6]):=by
 obtain ⟨vm,-,-,-⟩:=vm_of hva
 have hln:=tq_len t
 have g1:=fun H=>zf5 m hm hnm H
 rw [hva] at g1
 have g2:=fun H=>termG_c t.tm hg hs H
 rw [hrt] at g2
 have g3:∀ H,VDet Tryz.prog 118 [.agg t.tm.cells] H (.bool (tmR t.tm)):=fun H=>tr_c t.tm hg H
 have l1:(predY (fT t)).length≤0:=zfq [] _ (predY_nd _) fun x hx=>absurd hx (predY_fT t x)
 have l2:(funY (fT t)).length≤(tqC t).length:=zfq (tqC t) _ (funY_nd _) fun x hx=>tqC_mem t x ((funY_fT t x).1 hx)
 have l3:(freeF (fT t)).length≤(tqV t).length:=zfq (tqV t) _ (freeF_nd _) fun x hx=>tqV_mem t x ((freeF_fT t x).1 hx)
 have hgood:(fT t).good:=⟨by decide,by decide,by show 1≤maxLen;decide,⟨hg,trivial⟩,yah _,trivial⟩
 have hqd:qdF (fT t)≤1000000:=by
  unfold fT
  rw [qdF_mk,qdFs.eq_def]
  decide
 have g4:=fun H=>symbols_c (fT t) hgood (by omega) (by omega) (by omega) hqd H
 have g5:=fun H=>has_c m hm (sigF (fT t)) (by show ((sortY _).map _).length≤_;rw [yav,(zbp _).length_eq];omega) (by show ((sortY _).map _).length≤_;rw [yav,(zbp _).length_eq];omega) (by show (sortB _).length≤_;rw [(zc6 _).length_eq];omega) H
 rw [has_fT] at g5
 rw [tmR_ok t,show t.tm.cells=tqx t from tqc_eq t] at g3
 rw [show t.tm.cells=tqx t from tqc_eq t] at g2
 have g6:=fun H=>valuesOf_c m H
 have g7:(rvB m t).isSome=true→∀ H,VDet Tryz.prog 119 [.agg m.cells,.agg t.tm.cells,.clo (.func 155) [] [.rptr m.cells]] H (.int .i64 (tv m (bindF m) t)):=fun hh H=>by
  have h0:=(rvB_iff m t).1 hh
  exact value_c m hm _ vm t (values_c m hm) (fun x hx=>by
   obtain ⟨b,hb,-,he⟩:=bind_in (h0.1 x hx)
   rw [he]
   exact vm.binds b hb) (fun s a h=>h0.2 s a h) H
 rw [show t.tm.cells=tqx t from tqc_eq t] at g7
 have hfc:(fT t).cells=[.int .u8 (0:Nat),.str .empty,.sl none 1 (tqx t),.sl none 0 []]:=by
  unfold fT
  rw [zaq]
  show [AV.int .u8 (0:Nat),AV.str .empty,AV.sl none 1 ([t.tm].flatMap Tm.cells),AV.sl none 0 []]=_
  rw [ya7,ybh,yat,show t.tm.cells=tqx t from tqc_eq t]
 rw [hfc] at g4
 obtain ⟨sp,sc,sfu,sfc,sv,svc,hsc,hsb⟩:∃ a b c d e f,(sigF (fT t)).cells=[.sl none a b,.sl none c d,.sl none e f]∧∀ n,zab n b∧zab n d∧zab n f:=⟨_,_,_,_,_,_,rfl,fun n=>⟨zaj n _,zaj n _,zao n _⟩⟩
 rw [hsc] at g4 g5
 have hwb:∀ n,zab n (tql t):=fun n=>tql_below n t
 have g4:∀ H,VDet Tryz.prog 74 [.sx 1 [.int .u8 0,.str .empty,.sx 1 (tqx t),.nils]] H (.agg [.sl none sp sc,.sl none sfu sfc,.sl none sv svc]):=fun H=>zbq (g4 H) ⟨wk_sxL ⟨yae _,yae _,wk_sx _ _,zc0,trivial⟩,trivial⟩
 obtain ⟨e1,e2,e3,e4,e5,e6,e7,e8,e9,e10,e11,hmc,hb⟩:=zdq m
 generalize tv m (bindF m) t=V at g7 ⊢
 generalize (rvB m t).isSome=B at g5 g7 ⊢
 rw [hmc] at g1 g5 g6 g7 ⊢
 unfold tqx at g2 g3 g4 g7 ⊢
 generalize tql t=tl at g2 g3 g4 g7 hwb ⊢
 cases B with
 | false =>
   simp only [yba,if_false]
   refine fdD Tryz.func58 ⟨rfl,rfl,rfl⟩ fun hcl hbl=>?_
   (repeat' ((conv=>whnf);(first|(refine yai ?_;first|refine yas ?_|refine yaq rfl ?_|refine yau rfl ?_|fail)|refine yaf (by kernel_rfl) ?_|(refine ybm ?_;first|refine yab _ (g1 _) ?_|refine yab _ (g2 _) ?_|refine yab _ (g3 _) ?_|fail)|(refine yck ?_;first|refine yan _ (fun _ hq X=>g4 _) ?_|refine yan _ (fun _ hq X=>g5 _) ?_|fail)|refine zae [] ?_|fail)));conv=>whnf
   exact eT (by simp [below,zab])
 | true =>
   have g7:=g7 rfl
   simp only [if_true]
   refine fdD Tryz.func58 ⟨rfl,rfl,rfl⟩ fun hcl hbl=>?_
   (repeat' ((conv=>whnf);(first|(refine yai ?_;first|refine yas ?_|refine yaq rfl ?_|fail)|refine yaf (by kernel_rfl) ?_|(refine ybm ?_;first|refine yab _ (g1 _) ?_|refine yab _ (g2 _) ?_|refine yab _ (g3 _) ?_|fail)|(refine yck ?_;first|refine yan _ (fun _ hq X=>g4 _) ?_|refine yan _ (fun _ hq X=>g5 _) ?_|refine yan _ (fun _ hq X=>g6 _) ?_|refine yan _ (fun _ hq X=>g7 _) ?_|fail)|refine zae [] ?_|fail)));conv=>whnf
   exact eT (by simp [below,zab])
theorem val58_no (m:Mdl) (hm:m.Sm) (hn:m.Nm) (t:Tm) (hg:t.good) (hs:szzT t≤100000) (h:(rT t&&tmR t)=false) (H:Heap):VDet Tryz.prog 58 [.agg m.cells,.agg t.cells] H (.tup [.int .i64 0,.int .i64 2]):=by
 have g1:=fun H=>zf5 m hm hn H
 have g2:=fun H=>termG_c t hg hs H
 have g3:∀ H,VDet Tryz.prog 118 [.agg t.cells] H (.bool (tmR t)):=fun H=>tr_c t hg H
 obtain ⟨e1,e2,e3,e4,e5,e6,e7,e8,e9,e10,e11,hmc,hb⟩:=zdq m
 obtain ⟨w1,w2,w3,w4,hw,hwb⟩:=zc1 t
 rw [hmc] at g1 ⊢
 rw [hw] at g2 g3 ⊢
 generalize rT t=b2 at *
 generalize tmR t=b3 at *
 generalize zb0 m=b1 at *
 cases b1 <;> cases b2 <;> cases b3 <;> first|cases h|skip
 all_goals
  refine fdD Tryz.func58 ⟨rfl,rfl,rfl⟩ fun hcl hbl=>?_
  (repeat' ((conv=>whnf);(first|(refine yai ?_;first|refine yas ?_|refine yaq rfl ?_|refine yau rfl ?_|fail)|(refine ybm ?_;first|refine yab _ (g1 _) ?_|refine yab _ (g2 _) ?_|refine yab _ (g3 _) ?_|fail)|fail)));all_goals (conv=>whnf)
  exact eT (by simp [below,zab])
def capN (a M:Nat):Nat:=min a (M+1)
def TzP (x:Tm):Prop:=∀ (M:Nat),M≤1000→∀ H,VDet Tryz.prog 214 [.agg x.cells,.int .i64 (M:Nat)] H (.int .i64 (capN (szzT x) M:Nat))
def FzP (x:Fo):Prop:=∀ (M:Nat),M≤1000→∀ H,VDet Tryz.prog 156 [.agg x.cells,.int .i64 (M:Nat)] H (.int .i64 (capN (szzF x) M:Nat))
theorem tz_step (v:Bool) (s:ByteArray) (l:List Tm) (hll:l.length≤9223372036854775807) (ih:∀ x∈l,TzP x):TzP (.mk v s l):=by
 intro M hM H
 rw [show szzT (.mk v s l)=1+smN szzT l by rw [← szzTs_eq];unfold szzT;omega,zav]
 refine fdD Tryz.func214 ⟨rfl,rfl,rfl⟩ fun hcl hbl=>?_
 conv=>whnf
 refine zax Tryz.E0 zag (σ:=Nat) (fun k=>k≤l.length) (fun k=>l.length-k) (fun k=>[(5,.v (.int .i64 (capN (1+smN szzT (l.take k)) M:Nat))),(6,.v (.int .i64 k))]) (fun _=>_) _ 0 rfl hcl [1,2] rfl (yah _) ⟨⟨_,rfl,zaf (congrArg (AV.int _) (by show _=((capN (1+0) M:Nat):Int);unfold capN;omega))⟩,⟨_,rfl,yae _⟩,trivial⟩ rfl (fun _ _=>rfl) ?_
 intro k hk
 have hle:=zh1 szzT l k
 rcases yag k l.length with hlt|hge
 ·rcases yag M (capN (1+smN szzT (l.take k)) M) with hM1|hM1
  ·have hcap:capN (1+smN szzT (l.take k)) M=capN (1+smN szzT l) M:=by unfold capN at *;omega
   rw [hcap] at hM1 ⊢
   (repeat' ((conv=>whnf);(first|(refine yai ?_;first|refine yar (by omega) ?_|refine ya1 (by omega) ?_|fail)|fail)));conv=>whnf
   exact eT trivial
  ·have hc:=ih _ (zar l k tm0 hlt)
   have hs:=zfj szzT tm0 l k hlt
   unfold TzP at hc
   obtain ⟨w1,w2,w3,w4,hw,hb⟩:=zc1 (l.getD k tm0)
   rw [hw] at hc
   have hc:=hc (M-capN (1+smN szzT (l.take k)) M) (by omega)
   have hst:capN (1+smN szzT (l.take (k+1))) M=capN (1+smN szzT (l.take k)) M+capN (szzT (l.getD k tm0)) (M-capN (1+smN szzT (l.take k)) M):=by unfold capN at *;omega
   have hst2:capN (1+smN szzT (l.take (k+1))) M≤M+1:=by unfold capN;omega
   generalize capN (1+smN szzT (l.take k)) M=N0 at *
   generalize capN (szzT (l.getD k tm0)) (M-N0)=N1 at *
   (repeat' ((conv=>whnf);(first|refine yar (by omega) ?_|(refine yc0 ?_;first|(refine zad _ _ Cst.h Cst.h ?_ ?_;· omega)|(refine zb5 _ _ Cst.h Cst.h ?_ ?_;· omega)|fail)|(refine yaf ?_ ?_;· first|omega|exact yaa _ _|fail)|refine yab _ (hc _) ?_|refine zaa tm0 k rfl (by omega) zba hw ?_|fail)));conv=>whnf
   (refine ⟨⟨k+1,by show k+1≤_;omega,by omega,?_,.inl ⟨rfl,rfl⟩,rfl,_,rfl,?_⟩⟩;rotate_left 1;exact .inl rfl;(repeat' (first|exact trivial|refine ⟨⟨_,rfl,?_⟩,?_⟩|fail));all_goals (first|exact yae _|exact zaf (congrArg (AV.int _) (by omega))|fail))
 ·have:k=l.length:=by omega
  subst this
  rw [ya3]
  (repeat' ((conv=>whnf);(first|refine ya1 (by omega) ?_|fail)));conv=>whnf
  exact eT trivial
mutual
theorem tz_c:∀ x:Tm,x.good→TzP x
 | .mk v s l,h=>tz_step v s l (zaz h.2.1) (tzs_all l h.2.2)
theorem tzs_all:∀ l:List Tm,Tm.goodL l→∀ x∈l,TzP x
 | [],_,x,hx=>by cases hx
 | y::l,h,x,hx=>by
   rcases yay.1 hx with e|hx
   ·rw [e]
    exact tz_c y h.1
   ·exact tzs_all l h.2 x hx
end
theorem fz_step (op:Nat) (hop:op≤255) (s:ByteArray) (l:List Tm) (m:List Fo) (hll:l.length≤9223372036854775807) (hml:m.length≤9223372036854775807) (iht:∀ x∈l,TzP x) (ih:∀ x∈m,FzP x):FzP (.mk op s l m):=by
 intro M hM H
 rw [show szzF (.mk op s l m)=1+smN szzF m+smN szzT l by rw [← szzTs_eq,← szzFs_eq];unfold szzF;omega,zaq]
 refine fdD Tryz.func156 ⟨rfl,rfl,rfl⟩ fun hcl hbl=>?_
 conv=>whnf
 refine zax Tryz.E0 zag (σ:=Nat) (fun k=>k≤m.length) (fun k=>m.length-k) (fun k=>[(5,.v (.int .i64 (capN (1+smN szzF (m.take k)) M:Nat))),(6,.v (.int .i64 k))]) (fun _=>_) _ 0 rfl hcl [1,2] rfl (yah _) ⟨⟨_,rfl,zaf (congrArg (AV.int _) (by show _=((capN (1+0) M:Nat):Int);unfold capN;omega))⟩,⟨_,rfl,yae _⟩,trivial⟩ rfl (fun _ _=>rfl) ?_
 intro k hk
 have hle:=zh1 szzF m k
 rcases yag k m.length with hlt|hge
 ·rcases yag M (capN (1+smN szzF (m.take k)) M) with hM1|hM1
  ·have hcap:capN (1+smN szzF (m.take k)) M=capN (1+smN szzF m) M:=by unfold capN at *;omega
   rw [hcap] at hM1 ⊢
   (repeat' ((conv=>whnf);(first|(refine yai ?_;first|refine yar (by omega) ?_|refine ya1 (by omega) ?_|fail)|fail)));conv=>whnf
   refine zax Tryz.E0 zag (σ:=Nat) (fun k=>k≤l.length) (fun k=>l.length-k) (fun k=>[(5,.v (.int .i64 (capN ((1+smN szzF m)+smN szzT (l.take k)) M:Nat))),(7,.v (.int .i64 k))]) (fun _=>_) _ 0 rfl hcl [1,2] rfl (yah _) ⟨⟨_,rfl,zaf (congrArg (AV.int _) (by show _=((capN ((1+smN szzF m)+0) M:Nat):Int);unfold capN;omega))⟩,⟨_,rfl,yae _⟩,trivial⟩ rfl (fun _ _=>rfl) ?_
   intro k hk
   have hle:=zh1 szzT l k
   rcases yag k l.length with hlt|hge
   ·rcases yag M (capN ((1+smN szzF m)+smN szzT (l.take k)) M) with hM1|hM1
    ·have hcap:capN ((1+smN szzF m)+smN szzT (l.take k)) M=capN ((1+smN szzF m)+smN szzT l) M:=by unfold capN at *;omega
     rw [hcap] at hM1 ⊢
     (repeat' ((conv=>whnf);(first|(refine yai ?_;first|refine yar (by omega) ?_|refine ya1 (by omega) ?_|fail)|fail)));conv=>whnf
     exact eT trivial
    ·have hc:=iht _ (zar l k tm0 hlt)
     have hs:=zfj szzT tm0 l k hlt
     unfold TzP at hc
     obtain ⟨w1,w2,w3,w4,hw,hb⟩:=zc1 (l.getD k tm0)
     rw [hw] at hc
     have hc:=hc (M-capN ((1+smN szzF m)+smN szzT (l.take k)) M) (by omega)
     have hst:capN ((1+smN szzF m)+smN szzT (l.take (k+1))) M=capN ((1+smN szzF m)+smN szzT (l.take k)) M+capN (szzT (l.getD k tm0)) (M-capN ((1+smN szzF m)+smN szzT (l.take k)) M):=by unfold capN at *;omega
     have hst2:capN ((1+smN szzF m)+smN szzT (l.take (k+1))) M≤M+1:=by unfold capN;omega
     generalize capN ((1+smN szzF m)+smN szzT (l.take k)) M=N0 at *
     generalize capN (szzT (l.getD k tm0)) (M-N0)=N1 at *
     (repeat' ((conv=>whnf);(first|refine yar (by omega) ?_|(refine yc0 ?_;first|(refine zad _ _ Cst.h Cst.h ?_ ?_;· omega)|(refine zb5 _ _ Cst.h Cst.h ?_ ?_;· omega)|fail)|(refine yaf ?_ ?_;· first|omega|exact yaa _ _|fail)|refine yab _ (hc _) ?_|refine zaa tm0 k rfl (by omega) zba hw ?_|fail)));conv=>whnf
     (refine ⟨⟨k+1,by show k+1≤_;omega,by omega,?_,.inl ⟨rfl,rfl⟩,rfl,_,rfl,?_⟩⟩;rotate_left 1;exact .inl rfl;(repeat' (first|exact trivial|refine ⟨⟨_,rfl,?_⟩,?_⟩|fail));all_goals (first|exact yae _|exact zaf (congrArg (AV.int _) (by omega))|fail))
   ·have:k=l.length:=by omega
    subst this
    rw [ya3]
    (repeat' ((conv=>whnf);(first|refine ya1 (by omega) ?_|fail)));conv=>whnf
    exact eT trivial
  ·have hc:=ih _ (zar m k fo0 hlt)
   have hs:=zfj szzF fo0 m k hlt
   unfold FzP at hc
   obtain ⟨w1,w2,w3,w4,w5,w6,hw,hb⟩:=zbz (m.getD k fo0)
   rw [hw] at hc
   have hc:=hc (M-capN (1+smN szzF (m.take k)) M) (by omega)
   have hst:capN (1+smN szzF (m.take (k+1))) M=capN (1+smN szzF (m.take k)) M+capN (szzF (m.getD k fo0)) (M-capN (1+smN szzF (m.take k)) M):=by unfold capN at *;omega
   have hst2:capN (1+smN szzF (m.take (k+1))) M≤M+1:=by unfold capN;omega
   generalize capN (1+smN szzF (m.take k)) M=N0 at *
   generalize capN (szzF (m.getD k fo0)) (M-N0)=N1 at *
   (repeat' ((conv=>whnf);(first|refine yar (by omega) ?_|(refine yc0 ?_;first|(refine zad _ _ Cst.h Cst.h ?_ ?_;· omega)|(refine zb5 _ _ Cst.h Cst.h ?_ ?_;· omega)|fail)|(refine yaf ?_ ?_;· first|omega|exact yaa _ _|fail)|refine yab _ (hc _) ?_|refine zaa fo0 k rfl (by omega) za4 hw ?_|fail)));conv=>whnf
   (refine ⟨⟨k+1,by show k+1≤_;omega,by omega,?_,.inl ⟨rfl,rfl⟩,rfl,_,rfl,?_⟩⟩;rotate_left 1;exact .inl rfl;(repeat' (first|exact trivial|refine ⟨⟨_,rfl,?_⟩,?_⟩|fail));all_goals (first|exact yae _|exact zaf (congrArg (AV.int _) (by omega))|fail))
 ·have:k=m.length:=by omega
  subst this
  rw [ya3]
  (repeat' ((conv=>whnf);(first|refine ya1 (by omega) ?_|fail)));conv=>whnf
  refine zax Tryz.E0 zag (σ:=Nat) (fun k=>k≤l.length) (fun k=>l.length-k) (fun k=>[(5,.v (.int .i64 (capN ((1+smN szzF m)+smN szzT (l.take k)) M:Nat))),(7,.v (.int .i64 k))]) (fun _=>_) _ 0 rfl hcl [1,2] rfl (yah _) ⟨⟨_,rfl,zaf (congrArg (AV.int _) (by show _=((capN ((1+smN szzF m)+0) M:Nat):Int);unfold capN;omega))⟩,⟨_,rfl,yae _⟩,trivial⟩ rfl (fun _ _=>rfl) ?_
  intro k hk
  have hle:=zh1 szzT l k
  rcases yag k l.length with hlt|hge
  ·rcases yag M (capN ((1+smN szzF m)+smN szzT (l.take k)) M) with hM1|hM1
   ·have hcap:capN ((1+smN szzF m)+smN szzT (l.take k)) M=capN ((1+smN szzF m)+smN szzT l) M:=by unfold capN at *;omega
    rw [hcap] at hM1 ⊢
    (repeat' ((conv=>whnf);(first|(refine yai ?_;first|refine yar (by omega) ?_|refine ya1 (by omega) ?_|fail)|fail)));conv=>whnf
    exact eT trivial
   ·have hc:=iht _ (zar l k tm0 hlt)
    have hs:=zfj szzT tm0 l k hlt
    unfold TzP at hc
    obtain ⟨w1,w2,w3,w4,hw,hb⟩:=zc1 (l.getD k tm0)
    rw [hw] at hc
    have hc:=hc (M-capN ((1+smN szzF m)+smN szzT (l.take k)) M) (by omega)
    have hst:capN ((1+smN szzF m)+smN szzT (l.take (k+1))) M=capN ((1+smN szzF m)+smN szzT (l.take k)) M+capN (szzT (l.getD k tm0)) (M-capN ((1+smN szzF m)+smN szzT (l.take k)) M):=by unfold capN at *;omega
    have hst2:capN ((1+smN szzF m)+smN szzT (l.take (k+1))) M≤M+1:=by unfold capN;omega
    generalize capN ((1+smN szzF m)+smN szzT (l.take k)) M=N0 at *
    generalize capN (szzT (l.getD k tm0)) (M-N0)=N1 at *
    (repeat' ((conv=>whnf);(first|refine yar (by omega) ?_|(refine yc0 ?_;first|(refine zad _ _ Cst.h Cst.h ?_ ?_;· omega)|(refine zb5 _ _ Cst.h Cst.h ?_ ?_;· omega)|fail)|(refine yaf ?_ ?_;· first|omega|exact yaa _ _|fail)|refine yab _ (hc _) ?_|refine zaa tm0 k rfl (by omega) zba hw ?_|fail)));conv=>whnf
    (refine ⟨⟨k+1,by show k+1≤_;omega,by omega,?_,.inl ⟨rfl,rfl⟩,rfl,_,rfl,?_⟩⟩;rotate_left 1;exact .inl rfl;(repeat' (first|exact trivial|refine ⟨⟨_,rfl,?_⟩,?_⟩|fail));all_goals (first|exact yae _|exact zaf (congrArg (AV.int _) (by omega))|fail))
  ·have:k=l.length:=by omega
   subst this
   rw [ya3]
   (repeat' ((conv=>whnf);(first|refine ya1 (by omega) ?_|fail)));conv=>whnf
   exact eT trivial
mutual
theorem fz_c:∀ x:Fo,x.good→FzP x
 | .mk op s l m,h=>fz_step op h.1 s l m (zaz h.2.2.1) (zaz h.2.2.2.2.1) (tzs_all l h.2.2.2.1) (fzs_all m h.2.2.2.2.2)
theorem fzs_all:∀ l:List Fo,Fo.goodL l→∀ x∈l,FzP x
 | [],_,x,hx=>by cases hx
 | y::l,h,x,hx=>by
   rcases yay.1 hx with e|hx
   ·rw [e]
    exact fz_c y h.1
   ·exact fzs_all l h.2 x hx
end
def fewF (l:List Fo):Bool:=decide (smN szzF l≤600)
theorem fewForms_c (l:List Fo) (hl:l.length≤9223372036854775807) (hg:Fo.goodL l) (H:Heap):VDet Tryz.prog 79 [.sl none l.length (l.flatMap Fo.cells)] H (.bool (fewF l)):=by
 unfold fewF
 have hx:=fun x hx=>fzs_all l hg x hx
 refine fdD Tryz.func79 ⟨rfl,rfl,rfl⟩ fun hcl hbl=>?_
 conv=>whnf
 refine zax Tryz.E0 zag (σ:=Nat) (fun k=>k≤l.length∧smN szzF (l.take k)≤600) (fun k=>l.length-k) (fun k=>[(3,.v (.int .i64 (smN szzF (l.take k):Nat))),(4,.v (.int .i64 k))]) (fun _=>_) _ 0 rfl hcl [0] rfl ⟨yah _,yah _⟩ ⟨⟨_,rfl,yae _⟩,⟨_,rfl,yae _⟩,trivial⟩ rfl (fun _ _=>rfl) ?_
 rintro k ⟨hk,hi⟩
 rcases yag k l.length with hlt|hge
 ·have hc0:=hx _ (zar l k fo0 hlt)
  have hs:=zfj szzF fo0 l k hlt
  have hle2:=zh1 szzF l (k+1)
  unfold FzP at hc0
  obtain ⟨w1,w2,w3,w4,w5,w6,hw,hb⟩:=zbz (l.getD k fo0)
  rw [hw] at hc0
  have hc:∀ H,VDet Tryz.prog 156 [.agg [.int .u8 (w1:Nat),.str w2,.sl none w3 w4,.sl none w5 w6],.int .i64 600] H (.int .i64 (capN (szzF (l.getD k fo0)) 600:Nat)):=hc0 600 (by decide)
  clear hc0
  have hcap:capN (szzF (l.getD k fo0)) 600≤601:=by unfold capN;omega
  have hcap2:capN (szzF (l.getD k fo0)) 600=szzF (l.getD k fo0)∨(capN (szzF (l.getD k fo0)) 600=601∧601≤szzF (l.getD k fo0)):=by unfold capN;omega
  generalize capN (szzF (l.getD k fo0)) 600=N1 at *
  generalize szzF (l.getD k fo0)=z at *
  generalize smN szzF (l.take k)=S0 at *
  rcases yag 600 (S0+N1) with h6|h6
  ·rw [decide_eq_false (by omega)]
   (repeat' ((conv=>whnf);(first|refine yar (by omega) ?_|(refine zad _ _ Cst.h Cst.h ?_ ?_;· omega)|(refine yaf ?_ ?_;· first|omega|exact yaa _ _|fail)|refine yab _ (hc _) ?_|refine zaa fo0 k rfl (by omega) za4 hw ?_|fail)));conv=>whnf
   exact eT trivial
  ·have hN:N1=z:=by omega
   (repeat' ((conv=>whnf);(first|(refine yai ?_;first|refine yar (by omega) ?_|refine ya1 (by omega) ?_|fail)|(refine zad _ _ Cst.h Cst.h ?_ ?_;· omega)|(refine yaf ?_ ?_;· first|omega|exact yaa _ _|fail)|refine yab _ (hc _) ?_|refine zaa fo0 k rfl (by omega) za4 hw ?_|fail)));conv=>whnf
   (refine ⟨⟨k+1,⟨by show k+1≤_;omega,by omega⟩,by omega,?_,.inl ⟨rfl,rfl⟩,rfl,_,rfl,?_⟩⟩;rotate_left 1;exact .inl rfl;(repeat' (first|exact trivial|refine ⟨⟨_,rfl,?_⟩,?_⟩|fail));all_goals (first|exact yae _|exact zaf (congrArg (AV.int _) (by omega))|fail))
 ·have:k=l.length:=by omega
  subst this
  rw [ya3] at hi
  rw [decide_eq_true hi]
  (repeat' ((conv=>whnf);(first|refine ya1 (by omega) ?_|fail)));conv=>whnf
  exact eT trivial
theorem few26_c (l:List Fo) (hl:l.length≤9223372036854775807) (hg:Fo.goodL l) (H:Heap):VDet Tryz.prog 26 [.sl none l.length (l.flatMap Fo.cells)] H (.bool (fewF l)):=by
 have h1:=fewForms_c l hl hg
 have hb:=fun n=>zan n l
 generalize fewF l=b at *
 generalize l.flatMap Fo.cells=lc at *
 refine fdD Tryz.func26 ⟨rfl,rfl,rfl⟩ fun hcl hbl=>?_
 (repeat' ((conv=>whnf);(first|refine yab _ (h1 _) ?_|fail)));conv=>whnf
 exact eT trivial
def mkB (i:Nat):ByteArray:=strOfB [35,1,0,0,47,(i:Nat),0,0]
theorem mark_c (i:Nat) (hi:i<100) (H:Heap):VDet Tryz.prog 102 [.int .i64 1,.int .i64 (i:Nat)] H (.int .i64 ((8000024+i:Nat):Int)):=by
 refine fdD Tryz.func102 ⟨rfl,rfl,rfl⟩ fun hcl hbl=>?_
 (repeat' ((conv=>whnf);(first|refine yco (by omega) ?_|fail)));conv=>whnf
 exact ya2 trivial (zaf (congrArg (AV.int _) (by omega)))
theorem ze4 (i:Nat) (hi:i<12) (H:Heap):VDet Tryz.prog 84 [.int .i64 1,.int .i64 (i:Nat)] H (.str (mkB i)):=by
 have h:i=0∨i=1∨i=2∨i=3∨i=4∨i=5∨i=6∨i=7∨i=8∨i=9∨i=10∨i=11:=by omega
 rcases h with rfl|rfl|rfl|rfl|rfl|rfl|rfl|rfl|rfl|rfl|rfl|rfl
 all_goals
  refine fdD Tryz.func84 ⟨rfl,rfl,rfl⟩ fun hcl hbl=>?_
  (repeat' ((conv=>whnf);(first|(refine yc0 ?_;first|(refine EqN.shrN _ _ Cst.h Cst.h rfl ?_ ?_;· (repeat' (first|omega|refine yb6 ?_ ?_|exact za1 (by omega)|exact zby (by omega)|refine zdc ?_ ?_|refine zbx ?_ ?_|refine zcf ?_ ?_|refine zbj ?_ ?_|refine zcg ?_|refine zch ?_ ?_|refine zci ?_|refine za1 ?_|fail)))|refine EqN.remN _ _ Cst.h Cst.h ?_|refine EqN.mk _ rfl ?_|fail)|refine yaf (by omega) ?_|fail)));all_goals (conv=>whnf)
  exact ya2 trivial (zaf rfl)
def mkTm (i:Nat):Tm:=.mk false (mkB i) []
theorem ze2 (i:Nat):(mkTm i).cells=[.bool false,.str (mkB i),.sl none 0 []]:=by
 unfold mkTm
 rw [zav]
 rfl
theorem markTerm_c (i:Nat) (hi:i<12) (H:Heap):VDet Tryz.prog 178 [.int .i64 1,.int .i64 (i:Nat)] H (.agg (mkTm i).cells):=by
 have h1:=fun H=>ze4 i hi H
 rw [ze2]
 generalize mkB i=s at *
 refine fdD Tryz.func178 ⟨rfl,rfl,rfl⟩ fun hcl hbl=>?_
 (repeat' ((conv=>whnf);(first|refine yab _ (h1 _) ?_|fail)));conv=>whnf
 exact ya2 (by simp [below,zab]) (by (repeat' (first|exact trivial|refine yb6 ?_ ?_|exact yae _|exact zc0|refine zb9 ?_|fail));done)
def mkFo (i:Nat):Fo:=.mk 0 (mkB i) [] []
theorem ze3 (i:Nat):(mkFo i).cells=[.int .u8 0,.str (mkB i),.sl none 0 [],.sl none 0 []]:=by
 unfold mkFo
 rw [zaq]
 rfl
theorem markForm_c (i:Nat) (hi:i<12) (H:Heap):VDet Tryz.prog 80 [.int .i64 1,.int .i64 (i:Nat)] H (.agg (mkFo i).cells):=by
 have h1:=fun H=>ze4 i hi H
 rw [ze3]
 generalize mkB i=s at *
 refine fdD Tryz.func80 ⟨rfl,rfl,rfl⟩ fun hcl hbl=>?_
 (repeat' ((conv=>whnf);(first|refine yab _ (h1 _) ?_|fail)));conv=>whnf
 exact ya2 (by simp [below,zab]) (by (repeat' (first|exact trivial|refine yb6 ?_ ?_|exact yae _|exact zc0|refine zb9 ?_|fail));done)
def mksT (i:Nat):List AV:=(List.range i).flatMap fun j=>(mkTm j).cells
def mksF (i:Nat):List AV:=(List.range i).flatMap fun j=>(mkFo j).cells
theorem mksT_succ (i:Nat):mksT (i+1)=mksT i++(mkTm i).cells:=by
 unfold mksT
 rw [List.range_succ,yb0]
 simp
theorem mksF_succ (i:Nat):mksF (i+1)=mksF i++(mkFo i).cells:=by
 unfold mksF
 rw [List.range_succ,yb0]
 simp
theorem zcn (n:Nat):∀ i,zab n (mksT i)
 | 0=>trivial
 | i+1=>by rw [mksT_succ,ze2];exact (zau _ _).2 ⟨zcn n i,by simp [below,zab]⟩
theorem zdj (n:Nat):∀ i,zab n (mksF i)
 | 0=>trivial
 | i+1=>by rw [mksF_succ,ze3];exact (zau _ _).2 ⟨zdj n i,by simp [below,zab]⟩
mutual
def lnT:Tm→List AV
 | .mk v s l=>[.bool v,.str s,.sk l.length (l.length+12) (lnTs l++mksT 12)]
def lnTs:List Tm→List AV
 | []=>[]
 | x::l=>lnT x++lnTs l
end
theorem lnT_mk (v:Bool) (s:ByteArray) (l:List Tm):lnT (.mk v s l)=[.bool v,.str s,.sk l.length (l.length+12) (lnTs l++mksT 12)]:=by rw [lnT.eq_def]
theorem lnTs_nil:lnTs []=[]:=by rw [lnTs.eq_def]
theorem lnTs_cons (x:Tm) (l:List Tm):lnTs (x::l)=lnT x++lnTs l:=by rw [lnTs.eq_def]
theorem lnTs_flat:∀ l:List Tm,lnTs l=l.flatMap lnT
 | []=>lnTs_nil
 | x::l=>by rw [lnTs_cons,lnTs_flat l,ya7]
theorem lnT_len (x:Tm):(lnT x).length=3:=by
 cases x
 rw [lnT_mk]
 rfl
mutual
theorem lnT_below (n:Nat):∀ x:Tm,zab n (lnT x)
 | .mk v s l=>by
   rw [lnT_mk]
   exact ⟨trivial,trivial,(zau _ _).2 ⟨zco n l,zcn n 12⟩,trivial⟩
theorem zco (n:Nat):∀ l:List Tm,zab n (lnTs l)
 | []=>by rw [lnTs_nil];exact trivial
 | x::l=>by rw [lnTs_cons];exact (zau _ _).2 ⟨lnT_below n x,zco n l⟩
end
mutual
def lnF:Fo→List AV
 | .mk op s l m=>[.int .u8 op,.str s,.sk l.length (l.length+12) (lnTs l++mksT 12),.sk m.length (m.length+12) (lnFs m++mksF 12)]
def lnFs:List Fo→List AV
 | []=>[]
 | x::l=>lnF x++lnFs l
end
theorem lnF_mk (op:Nat) (s:ByteArray) (l:List Tm) (m:List Fo):lnF (.mk op s l m)=[.int .u8 op,.str s,.sk l.length (l.length+12) (lnTs l++mksT 12),.sk m.length (m.length+12) (lnFs m++mksF 12)]:=by rw [lnF.eq_def]
theorem lnFs_nil:lnFs []=[]:=by rw [lnFs.eq_def]
theorem lnFs_cons (x:Fo) (l:List Fo):lnFs (x::l)=lnF x++lnFs l:=by rw [lnFs.eq_def]
theorem lnFs_flat:∀ l:List Fo,lnFs l=l.flatMap lnF
 | []=>lnFs_nil
 | x::l=>by rw [lnFs_cons,lnFs_flat l,ya7]
theorem lnF_len (x:Fo):(lnF x).length=4:=by
 cases x
 rw [lnF_mk]
 rfl
mutual
theorem lnF_below (n:Nat):∀ x:Fo,zab n (lnF x)
 | .mk op s l m=>by
   rw [lnF_mk]
   exact ⟨trivial,trivial,(zau _ _).2 ⟨zco n l,zcn n 12⟩,(zau _ _).2 ⟨zdk n m,zdj n 12⟩,trivial⟩
theorem zdk (n:Nat):∀ l:List Fo,zab n (lnFs l)
 | []=>by rw [lnFs_nil];exact trivial
 | x::l=>by rw [lnFs_cons];exact (zau _ _).2 ⟨lnF_below n x,zdk n l⟩
end
theorem wk_skL {n m:Nat} {l l' r:List AV} (h:WkL l l'):Wk (.sk n m (l++r)) (.sl none n l'):=Wk.trans (wk_sk n m l r) (wk_slL h)
mutual
theorem lnT_wk:∀ x:Tm,WkL (lnT x) x.cells
 | .mk v s l=>by
   rw [lnT_mk,zav]
   exact ⟨yae _,yae _,wk_skL (lnTs_wk l),trivial⟩
theorem lnTs_wk:∀ l:List Tm,WkL (lnTs l) (l.flatMap Tm.cells)
 | []=>by rw [lnTs_nil];exact trivial
 | x::l=>by rw [lnTs_cons,ya7];exact WkL.app (lnT_wk x) (lnTs_wk l)
end
mutual
theorem lnF_wk:∀ x:Fo,WkL (lnF x) x.cells
 | .mk op s l m=>by
   rw [lnF_mk,zaq]
   exact ⟨yae _,yae _,wk_skL (lnTs_wk l),wk_skL (lnFs_wk m),trivial⟩
theorem lnFs_wk:∀ l:List Fo,WkL (lnFs l) (l.flatMap Fo.cells)
 | []=>by rw [lnFs_nil];exact trivial
 | x::l=>by rw [lnFs_cons,ya7];exact WkL.app (lnF_wk x) (lnFs_wk l)
end
theorem lnTm_ex (x:Tm):∃ v s a,x.cells=[.bool v,.str s,.sl none a.length (a.flatMap Tm.cells)]∧lnT x=[.bool v,.str s,.sk a.length (a.length+12) (lnTs a++mksT 12)]:=by
 obtain ⟨v,s,a⟩:=x
 exact ⟨v,s,a,zav v s a,lnT_mk v s a⟩
theorem ze6 (n:Nat) (l:List Tm):zab n (l.flatMap lnT):=zbl l fun x=>lnT_below n x
theorem ze7 (n:Nat) (l:List Fo):zab n (l.flatMap lnF):=zbl l fun x=>lnF_below n x
def appC (m:Nat→List AV) (C:List AV):Nat→List AV
 | 0=>C
 | j+1=>appC m C j++m j
theorem appC_T (C:List AV):∀ j,appC (fun i=>(mkTm i).cells) C j=C++mksT j
 | 0=>(yat C).symm
 | j+1=>by rw [appC,appC_T C j,mksT_succ,ybf]
theorem appC_F (C:List AV):∀ j,appC (fun i=>(mkFo i).cells) C j=C++mksF j
 | 0=>(yat C).symm
 | j+1=>by rw [appC,appC_F C j,mksF_succ,ybf]
theorem zb7 (n:Nat) {m:Nat→List AV} {C:List AV} (hm:∀ i,zab n (m i)) (hC:zab n C):∀ j,zab n (appC m C j)
 | 0=>hC
 | j+1=>(zau _ _).2 ⟨zb7 n hm hC j,hm j⟩
theorem zfv {m:Nat→List AV} {C:List AV} {a sz:Nat} (hm:∀ i,(m i).length=sz) (hC:C.length=a * sz):∀ j,(appC m C j).length=(a+j) * sz
 | 0=>hC
 | j+1=>by rw [appC,ya6,zfv hm hC j,hm,← Nat.succ_mul];rfl
theorem mkTm_below (n i:Nat):zab n (mkTm i).cells:=by rw [ze2];simp [below,zab]
theorem mkFo_below (n i:Nat):zab n (mkFo i).cells:=by rw [ze3];simp [below,zab]
def LnTP (x:Tm):Prop:=∀ H,VDet Tryz.prog 57 [.agg x.cells] H (.agg (lnT x))
theorem lentTerms_c (l:List Tm) (hl:l.length≤1000) (h:∀ x∈l,LnTP x) (H:Heap):VDet Tryz.prog 116 [.sl none l.length (l.flatMap Tm.cells)] H (.sk l.length (l.length+12) (lnTs l++mksT 12)):=by
 have hEb:=True.intro
 rw [lnTs_flat]
 refine fdD Tryz.func116 ⟨rfl,rfl,rfl⟩ fun hcl hbl=>?_
 (repeat' ((conv=>whnf);(first|(refine zg5 ?_;refine ydh (l.length+12) (by omega) ?_;refine yaf ⟨rfl,by omega,by dsimp only;omega⟩ ?_)|refine yco (by omega) ?_|fail)));conv=>whnf
 refine zax Tryz.E0 zag (σ:=Nat) (fun i=>i≤l.length) (fun i=>l.length-i) (fun i=>[(3,.v (.sl (some (H.length+0)) i ((l.take i).flatMap lnT))),(4,.v (.int .i64 i))]) (fun i=>[.tok 51 3 ((l.take i).flatMap lnT).length]) _ 0 rfl hcl [0] rfl (yah _) ⟨⟨_,rfl,yae _⟩,⟨_,rfl,yae _⟩,trivial⟩ rfl (fun _ _=>rfl) ?_
 intro i hi
 rcases yag i l.length with hlt|hge
 ·have hx:=h _ (zar l i tm0 hlt)
  obtain ⟨v,s,a,q1,q2⟩:=lnTm_ex (l.getD i tm0)
  unfold LnTP at hx
  rw [q1,q2] at hx
  have hns:(l.take (i+1)).flatMap lnT=(l.take i).flatMap lnT++[.bool v,.str s,.sk a.length (a.length+12) (lnTs a++mksT 12)]:=by
   rw [zbm l tm0 i hlt,yb0,ya7,ybh,yat,q2]
  have hml:((l.take i).flatMap lnT).length=i * 3:=by
   rw [zbh (f:=lnT) (sz:=3) lnT_len,ycm,ycl (by omega)]
  (repeat' ((conv=>whnf);(first|refine yar (by omega) ?_|(refine zad _ _ Cst.h Cst.h ?_ ?_;· omega)|(refine yaf ?_ ?_;· first|omega|exact yaa _ _|fail)|refine yab _ (hx _) ?_|refine zaa tm0 i rfl (by omega) zba q1 ?_|refine yaf ⟨rfl,rfl,rfl,by dsimp only;omega,by simp only [maxLen];omega⟩ ?_|refine yce _ rfl ?_|fail)));conv=>whnf
  rw [← hns]
  (refine ⟨⟨i+1,by show i+1≤_;omega,by omega,?_,.inl ⟨rfl,rfl⟩,rfl,_,rfl,?_⟩⟩;rotate_left 1;exact .inr ⟨by simp [zaw,below,zab,tr,zal,zan,zcn,zdj,zco,zdk,ze6,ze7,hEb],by simp [zbe,Blk.below,zab,below,zal,zan,zcn,zdj,zco,zdk,ze6,ze7,hEb]⟩;exact ⟨⟨_,rfl,yae _⟩,⟨_,rfl,yae _⟩,trivial⟩)
 ·have hie:i=l.length:=by omega
  subst hie
  rw [ya3]
  have hml:(l.flatMap lnT).length=l.length * 3:=zbh (f:=lnT) (sz:=3) lnT_len l
  have hCb:=fun n=>ze6 n l
  rw [← appC_T]
  generalize l.flatMap lnT=C at *
  (repeat' ((conv=>whnf);(first|refine ya1 (by omega) ?_|fail)));conv=>whnf
  refine zax Tryz.E0 zag (σ:=Nat) (fun j=>j≤12) (fun j=>12-j) (fun j=>[(3,.v (.sl (some (H.length+0)) (l.length+j) (appC (fun i=>(mkTm i).cells) C j))),(6,.v (.int .i64 j))]) (fun j=>[.tok 51 3 (appC (fun i=>(mkTm i).cells) C j).length]) _ 0 rfl hcl [0] rfl (yah _) ⟨⟨_,rfl,yae _⟩,⟨_,rfl,yae _⟩,trivial⟩ rfl (fun _ _=>rfl) ?_
  intro j hj
  have hDl:=zfv (m:=fun i=>(mkTm i).cells) (fun i=>zba _) hml j
  have hDb:=fun n=>zb7 n (m:=fun i=>(mkTm i).cells) (fun i=>mkTm_below n i) (hCb n) j
  rcases yag j 12 with hlt|hge
  ·have hm:=fun H=>markTerm_c j hlt H
   have hns:appC (fun i=>(mkTm i).cells) C (j+1)=appC (fun i=>(mkTm i).cells) C j++(mkTm j).cells:=rfl
   clear hEb
   have hEb:=fun n=>zb7 n (m:=fun i=>(mkTm i).cells) (fun i=>mkTm_below n i) (hCb n) (j+1)
   rw [ze2] at hm hns
   generalize appC (fun i=>(mkTm i).cells) C j=D at *
   (repeat' ((conv=>whnf);(first|refine yar (by omega) ?_|(refine zad _ _ Cst.h Cst.h ?_ ?_;· omega)|refine yab _ (hm _) ?_|refine yaf ⟨rfl,rfl,rfl,by dsimp only;omega,by simp only [maxLen];omega⟩ ?_|refine yce _ rfl ?_|fail)));conv=>whnf
   rw [← hns]
   (refine ⟨⟨j+1,by show j+1≤_;omega,by omega,?_,.inl ⟨rfl,rfl⟩,rfl,_,rfl,?_⟩⟩;rotate_left 1;exact .inl rfl;exact ⟨⟨_,rfl,yae _⟩,⟨_,rfl,yae _⟩,trivial⟩)
  ·have hje:j=12:=by omega
   subst hje
   (repeat' ((conv=>whnf);(first|(refine OrN.r ?_;(conv=>whnf);refine ydh l.length rfl ?_;(conv=>whnf);refine yaf (by omega) ?_)|refine yau rfl ?_|fail)));conv=>whnf
   exact eT (by simp [below,zab,hDb])
mutual
def smT:Tm→Prop
 | .mk _ _ l=>l.length≤1000∧smTs l
def smTs:List Tm→Prop
 | []=>True
 | x::l=>smT x∧smTs l
end
mutual
def smF:Fo→Prop
 | .mk op _ l m=>op≤255∧(l.length≤1000∧smTs l)∧(m.length≤1000∧smFs m)
def smFs:List Fo→Prop
 | []=>True
 | x::l=>smF x∧smFs l
end
theorem lentT_step (v:Bool) (s:ByteArray) (l:List Tm) (hl:l.length≤1000) (h:∀ x∈l,LnTP x):LnTP (.mk v s l):=by
 intro H
 have h1:=fun H=>lentTerms_c l hl h H
 have hC:=fun n=>(zau _ _).2 ⟨zco n l,zcn n 12⟩
 rw [zav,lnT_mk]
 generalize lnTs l++mksT 12=C at *
 generalize l.flatMap Tm.cells=c at *
 refine fdD Tryz.func57 ⟨rfl,rfl,rfl⟩ fun hcl hbl=>?_
 (repeat' ((conv=>whnf);(first|refine yab _ (h1 _) ?_|fail)));conv=>whnf
 exact eT (by simp [below,zab,hC])
mutual
theorem lentT_g:∀ x:Tm,smT x→LnTP x
 | .mk v s l,h=>by
   unfold smT at h
   exact lentT_step v s l h.1 (lentTs_g l h.2)
theorem lentTs_g:∀ l:List Tm,smTs l→∀ x∈l,LnTP x
 | [],_,x,hx=>by cases hx
 | y::l,h,x,hx=>by
   unfold smTs at h
   rcases yay.1 hx with e|hx
   ·rw [e]
    exact lentT_g y h.1
   ·exact lentTs_g l h.2 x hx
end
theorem lnFo_ex (x:Fo):∃ o s a b,x.cells=[.int .u8 (o:Nat),.str s,.sl none a.length (a.flatMap Tm.cells),.sl none b.length (b.flatMap Fo.cells)]∧lnF x=[.int .u8 (o:Nat),.str s,.sk a.length (a.length+12) (lnTs a++mksT 12),.sk b.length (b.length+12) (lnFs b++mksF 12)]:=by
 obtain ⟨o,s,a,b⟩:=x
 exact ⟨o,s,a,b,zaq o s a b,lnF_mk o s a b⟩
def LnFP (x:Fo):Prop:=∀ H,VDet Tryz.prog 56 [.agg x.cells] H (.agg (lnF x))
theorem lentForms_c (l:List Fo) (hl:l.length≤1000) (h:∀ x∈l,LnFP x) (H:Heap):VDet Tryz.prog 28 [.sl none l.length (l.flatMap Fo.cells)] H (.sk l.length (l.length+12) (lnFs l++mksF 12)):=by
 have hEb:=True.intro
 rw [lnFs_flat]
 refine fdD Tryz.func28 ⟨rfl,rfl,rfl⟩ fun hcl hbl=>?_
 (repeat' ((conv=>whnf);(first|(refine zg5 ?_;refine ydh (l.length+12) (by omega) ?_;refine yaf ⟨rfl,by omega,by dsimp only;omega⟩ ?_)|refine yco (by omega) ?_|fail)));conv=>whnf
 refine zax Tryz.E0 zag (σ:=Nat) (fun i=>i≤l.length) (fun i=>l.length-i) (fun i=>[(3,.v (.sl (some (H.length+0)) i ((l.take i).flatMap lnF))),(4,.v (.int .i64 i))]) (fun i=>[.tok 29 4 ((l.take i).flatMap lnF).length]) _ 0 rfl hcl [0] rfl (yah _) ⟨⟨_,rfl,yae _⟩,⟨_,rfl,yae _⟩,trivial⟩ rfl (fun _ _=>rfl) ?_
 intro i hi
 rcases yag i l.length with hlt|hge
 ·have hx:=h _ (zar l i fo0 hlt)
  obtain ⟨o,s,a,b,q1,q2⟩:=lnFo_ex (l.getD i fo0)
  unfold LnFP at hx
  rw [q1,q2] at hx
  have hns:(l.take (i+1)).flatMap lnF=(l.take i).flatMap lnF++[.int .u8 (o:Nat),.str s,.sk a.length (a.length+12) (lnTs a++mksT 12),.sk b.length (b.length+12) (lnFs b++mksF 12)]:=by
   rw [zbm l fo0 i hlt,yb0,ya7,ybh,yat,q2]
  have hml:((l.take i).flatMap lnF).length=i * 4:=by
   rw [zbh (f:=lnF) (sz:=4) lnF_len,ycm,ycl (by omega)]
  (repeat' ((conv=>whnf);(first|refine yar (by omega) ?_|(refine zad _ _ Cst.h Cst.h ?_ ?_;· omega)|(refine yaf ?_ ?_;· first|omega|exact yaa _ _|fail)|refine yab _ (hx _) ?_|refine zaa fo0 i rfl (by omega) za4 q1 ?_|refine yaf ⟨rfl,rfl,rfl,by dsimp only;omega,by simp only [maxLen];omega⟩ ?_|refine yce _ rfl ?_|fail)));conv=>whnf
  rw [← hns]
  (refine ⟨⟨i+1,by show i+1≤_;omega,by omega,?_,.inl ⟨rfl,rfl⟩,rfl,_,rfl,?_⟩⟩;rotate_left 1;exact .inr ⟨by simp [zaw,below,zab,tr,zal,zan,zcn,zdj,zco,zdk,ze6,ze7,hEb],by simp [zbe,Blk.below,zab,below,zal,zan,zcn,zdj,zco,zdk,ze6,ze7,hEb]⟩;exact ⟨⟨_,rfl,yae _⟩,⟨_,rfl,yae _⟩,trivial⟩)
 ·have hie:i=l.length:=by omega
  subst hie
  rw [ya3]
  have hml:(l.flatMap lnF).length=l.length * 4:=zbh (f:=lnF) (sz:=4) lnF_len l
  have hCb:=fun n=>ze7 n l
  rw [← appC_F]
  generalize l.flatMap lnF=C at *
  (repeat' ((conv=>whnf);(first|refine ya1 (by omega) ?_|fail)));conv=>whnf
  refine zax Tryz.E0 zag (σ:=Nat) (fun j=>j≤12) (fun j=>12-j) (fun j=>[(3,.v (.sl (some (H.length+0)) (l.length+j) (appC (fun i=>(mkFo i).cells) C j))),(6,.v (.int .i64 j))]) (fun j=>[.tok 29 4 (appC (fun i=>(mkFo i).cells) C j).length]) _ 0 rfl hcl [0] rfl (yah _) ⟨⟨_,rfl,yae _⟩,⟨_,rfl,yae _⟩,trivial⟩ rfl (fun _ _=>rfl) ?_
  intro j hj
  have hDl:=zfv (m:=fun i=>(mkFo i).cells) (fun i=>za4 _) hml j
  have hDb:=fun n=>zb7 n (m:=fun i=>(mkFo i).cells) (fun i=>mkFo_below n i) (hCb n) j
  rcases yag j 12 with hlt|hge
  ·have hm:=fun H=>markForm_c j hlt H
   have hns:appC (fun i=>(mkFo i).cells) C (j+1)=appC (fun i=>(mkFo i).cells) C j++(mkFo j).cells:=rfl
   clear hEb
   have hEb:=fun n=>zb7 n (m:=fun i=>(mkFo i).cells) (fun i=>mkFo_below n i) (hCb n) (j+1)
   rw [ze3] at hm hns
   generalize appC (fun i=>(mkFo i).cells) C j=D at *
   (repeat' ((conv=>whnf);(first|refine yar (by omega) ?_|(refine zad _ _ Cst.h Cst.h ?_ ?_;· omega)|refine yab _ (hm _) ?_|refine yaf ⟨rfl,rfl,rfl,by dsimp only;omega,by simp only [maxLen];omega⟩ ?_|refine yce _ rfl ?_|fail)));conv=>whnf
   rw [← hns]
   (refine ⟨⟨j+1,by show j+1≤_;omega,by omega,?_,.inl ⟨rfl,rfl⟩,rfl,_,rfl,?_⟩⟩;rotate_left 1;exact .inl rfl;exact ⟨⟨_,rfl,yae _⟩,⟨_,rfl,yae _⟩,trivial⟩)
  ·have hje:j=12:=by omega
   subst hje
   (repeat' ((conv=>whnf);(first|(refine OrN.r ?_;(conv=>whnf);refine ydh l.length rfl ?_;(conv=>whnf);refine yaf (by omega) ?_)|refine yau rfl ?_|fail)));conv=>whnf
   exact eT (by simp [below,zab,hDb])
theorem lentF_step (op:Nat) (hop:op≤255) (s:ByteArray) (l:List Tm) (m:List Fo) (hl:l.length≤1000) (hlt:∀ x∈l,LnTP x) (hm:m.length≤1000) (h:∀ x∈m,LnFP x):LnFP (.mk op s l m):=by
 intro H
 have h1:=fun H=>lentTerms_c l hl hlt H
 have h2:=fun H=>lentForms_c m hm h H
 have hC:=fun n=>(zau _ _).2 ⟨zco n l,zcn n 12⟩
 have hD:=fun n=>(zau _ _).2 ⟨zdk n m,zdj n 12⟩
 rw [zaq,lnF_mk]
 generalize lnTs l++mksT 12=C at *
 generalize lnFs m++mksF 12=D at *
 generalize l.flatMap Tm.cells=c at *
 generalize m.flatMap Fo.cells=d at *
 refine fdD Tryz.func56 ⟨rfl,rfl,rfl⟩ fun hcl hbl=>?_
 (repeat' ((conv=>whnf);(first|(refine ybm ?_;first|refine yab _ (h1 _) ?_|refine yab _ (h2 _) ?_|fail)|fail)));conv=>whnf
 exact eT (by simp [below,zab,hC,hD])
mutual
theorem lentF_g:∀ x:Fo,smF x→LnFP x
 | .mk op s l m,h=>by
   unfold smF at h
   exact lentF_step op h.1 s l m h.2.1.1 (lentTs_g l h.2.1.2) h.2.2.1 (lentFs_g m h.2.2.2)
theorem lentFs_g:∀ l:List Fo,smFs l→∀ x∈l,LnFP x
 | [],_,x,hx=>by cases hx
 | y::l,h,x,hx=>by
   unfold smFs at h
   rcases yay.1 hx with e|hx
   ·rw [e]
    exact lentF_g y h.1
   ·exact lentFs_g l h.2 x hx
end
theorem allOne_app:∀ a b:List AV,zbk a=true→zbk b=true→zbk (a++b)=true
 | [],b,_,h=>h
 | v::a,b,h1,h2=>by
   unfold zbk at h1
   show zbk (v::(a++b))=true
   unfold zbk
   split at h1
   ·first|exact allOne_app a b h1 h2|(rename_i hv;rw [hv];exact allOne_app a b h1 h2)|fail
   ·cases h1
theorem allOne_flat {α:Type} {f:α→List AV} (hf:∀ x,zbk (f x)=true):∀ l:List α,zbk (l.flatMap f)=true
 | []=>rfl
 | x::l=>by rw [ya7];exact allOne_app _ _ (hf x) (allOne_flat hf l)
def mkI (i:Nat):Int:=((8000024+i:Nat):Int)
def mkFc (i:Nat):Fct:=⟨mkB i,0,0⟩
def mkBd (i:Nat):Bnd:=⟨mkB i,0⟩
def mkFn (i:Nat):Fnc:=⟨mkB i,0,[]⟩
theorem markInt_c (i:Nat) (hi:i<12) (H:Heap):VDet Tryz.prog 102 [.int .i64 1,.int .i64 (i:Nat)] H (.int .i64 (mkI i)):=mark_c i (by omega) H
theorem markFact_c (i:Nat) (hi:i<12) (H:Heap):VDet Tryz.prog 172 [.int .i64 1,.int .i64 (i:Nat)] H (.agg (mkFc i).cells):=by
 have h1:=fun H=>ze4 i hi H
 show VDet _ _ _ _ (.agg [.str (mkB i),.int .i64 0,.int .i64 0])
 generalize mkB i=s at *
 refine fdD Tryz.func172 ⟨rfl,rfl,rfl⟩ fun hcl hbl=>?_
 (repeat' ((conv=>whnf);(first|refine yab _ (h1 _) ?_|fail)));conv=>whnf
 exact ya2 (by simp [below,zab]) (by exact yae _)
theorem markBind_c (i:Nat) (hi:i<12) (H:Heap):VDet Tryz.prog 175 [.int .i64 1,.int .i64 (i:Nat)] H (.agg (mkBd i).cells):=by
 have h1:=fun H=>ze4 i hi H
 show VDet _ _ _ _ (.agg [.str (mkB i),.int .i64 0])
 generalize mkB i=s at *
 refine fdD Tryz.func175 ⟨rfl,rfl,rfl⟩ fun hcl hbl=>?_
 (repeat' ((conv=>whnf);(first|refine yab _ (h1 _) ?_|fail)));conv=>whnf
 exact ya2 (by simp [below,zab]) (by exact yae _)
theorem markFunc_c (i:Nat) (hi:i<12) (H:Heap):VDet Tryz.prog 174 [.int .i64 1,.int .i64 (i:Nat)] H (.agg (mkFn i).cells):=by
 have h1:=fun H=>ze4 i hi H
 show VDet _ _ _ _ (.agg [.str (mkB i),.int .i64 0,.sl none 0 []])
 generalize mkB i=s at *
 refine fdD Tryz.func174 ⟨rfl,rfl,rfl⟩ fun hcl hbl=>?_
 (repeat' ((conv=>whnf);(first|refine yab _ (h1 _) ?_|fail)));conv=>whnf
 exact ya2 (by simp [below,zab]) (by (repeat' (first|exact trivial|refine yb6 ?_ ?_|exact yae _|exact zc0|refine zb9 ?_|fail));done)
def mks {α:Type} (f:α→List AV) (m:Nat→α) (i:Nat):List AV:=(List.range i).flatMap fun j=>f (m j)
theorem mks_succ {α:Type} (f:α→List AV) (m:Nat→α) (i:Nat):mks f m (i+1)=mks f m i++f (m i):=by
 unfold mks
 rw [List.range_succ,yb0]
 simp
theorem appC_G {α:Type} (f:α→List AV) (m:Nat→α) (C:List AV):∀ j,appC (fun i=>f (m i)) C j=C++mks f m j
 | 0=>(yat C).symm
 | j+1=>by rw [appC,appC_G f m C j,mks_succ,ybf]
theorem zc9 {α:Type} {f:α→List AV} {m:Nat→α} (n:Nat) (h:∀ x,zab n (f x)) (i:Nat):zab n (mks f m i):=zbl _ fun j=>h (m j)
theorem lentInts_c (l:List Int) (hl:l.length≤1000000) (H:Heap):VDet Tryz.prog 44 [.sl none l.length (l.flatMap enc64)] H (.sk l.length (l.length+12) (l.flatMap enc64++mks enc64 mkI 12)):=by
 have hml:(l.flatMap enc64).length=l.length * 1:=zbh (f:=enc64) (sz:=1) zcu l
 have hone:zbk (l.flatMap enc64)=true:=allOne_flat (fun x=>rfl) l
 have hCb:∀ n,zab n (l.flatMap enc64):=fun n=>zbl l fun x=>by simp [enc64,below,zab]
 have hmb:∀ n (i:Nat),zab n (enc64 (mkI i)):=fun n i=>by simp [enc64,below,zab]
 rw [← appC_G]
 generalize l.flatMap enc64=C at *
 refine fdD Tryz.func44 ⟨rfl,rfl,rfl⟩ fun hcl hbl=>?_
 (repeat' ((conv=>whnf);(first|(refine zg5 ?_;refine ydh (l.length+12) (by omega) ?_;refine yaf ⟨rfl,by omega,by dsimp only;omega⟩ ?_)|refine yco (by omega) ?_|refine yaf ⟨rfl,hone,by dsimp only;omega,by dsimp only;omega,by simp only [maxLen];omega⟩ ?_|refine yce _ rfl ?_|fail)));conv=>whnf
 refine zax Tryz.E0 zag (σ:=Nat) (fun j=>j≤12) (fun j=>12-j) (fun j=>[(3,.v (.sl (some (H.length+0)) (0+l.length+j) ([]++appC (fun i=>enc64 (mkI i)) C j))),(4,.v (.int .i64 j))]) (fun j=>[.tok 3 1 ([]++appC (fun i=>enc64 (mkI i)) C j).length]) _ 0 rfl hcl [0] rfl (yah _) ⟨⟨_,rfl,yae _⟩,⟨_,rfl,yae _⟩,trivial⟩ rfl (fun _ _=>rfl) ?_
 intro j hj
 have hDl:=zfv (m:=fun i=>enc64 (mkI i)) (fun i=>zcu _) hml j
 have hDb:=fun n=>zb7 n (m:=fun i=>enc64 (mkI i)) (hmb n) (hCb n) j
 rcases yag j 12 with hlt|hge
 ·have hm:=fun H=>markInt_c j hlt H
  have hns:appC (fun i=>enc64 (mkI i)) C (j+1)=appC (fun i=>enc64 (mkI i)) C j++[.int .i64 (mkI j)]:=rfl
  have hEb:=fun n=>zb7 n (m:=fun i=>enc64 (mkI i)) (hmb n) (hCb n) (j+1)
  generalize mkI j=mj at hm hns
  generalize appC (fun i=>enc64 (mkI i)) C j=D at *
  (repeat' ((conv=>whnf);(first|refine yar (by omega) ?_|(refine zad _ _ Cst.h Cst.h ?_ ?_;· omega)|refine yab _ (hm _) ?_|refine yaf ⟨rfl,rfl,rfl,by dsimp only;omega,by simp only [maxLen];omega⟩ ?_|refine yce _ rfl ?_|fail)));conv=>whnf
  rw [ybf,← hns]
  (refine ⟨⟨j+1,by show j+1≤_;omega,by omega,?_,.inl ⟨rfl,rfl⟩,rfl,_,rfl,?_⟩⟩;rotate_left 1;exact .inl rfl;exact ⟨⟨_,rfl,yae _⟩,⟨_,rfl,yae _⟩,trivial⟩)
 ·have hje:j=12:=by omega
  subst hje
  (repeat' ((conv=>whnf);(first|(refine OrN.r ?_;(conv=>whnf);refine ydh l.length rfl ?_;(conv=>whnf);refine yaf (by omega) ?_)|refine yau rfl ?_|fail)));conv=>whnf
  rw [yby]
  exact eT (by simp [below,zab,hDb])
theorem lentFacts_c (l:List Fct) (hl:l.length≤1000000) (H:Heap):VDet Tryz.prog 99 [.sl none l.length (l.flatMap Fct.cells)] H (.sk l.length (l.length+12) (l.flatMap Fct.cells++mks Fct.cells mkFc 12)):=by
 have hml:(l.flatMap Fct.cells).length=l.length * 3:=zbh (f:=Fct.cells) (sz:=3) zbr l
 have hone:zbk (l.flatMap Fct.cells)=true:=allOne_flat (fun x=>rfl) l
 have hCb:∀ n,zab n (l.flatMap Fct.cells):=fun n=>zbl l fun x=>by simp [Fct.cells,below,zab]
 have hmb:∀ n (i:Nat),zab n (Fct.cells (mkFc i)):=fun n i=>by simp [Fct.cells,below,zab]
 rw [← appC_G]
 generalize l.flatMap Fct.cells=C at *
 refine fdD Tryz.func99 ⟨rfl,rfl,rfl⟩ fun hcl hbl=>?_
 (repeat' ((conv=>whnf);(first|(refine zg5 ?_;refine ydh (l.length+12) (by omega) ?_;refine yaf ⟨rfl,by omega,by dsimp only;omega⟩ ?_)|refine yco (by omega) ?_|refine yaf ⟨rfl,hone,by dsimp only;omega,by dsimp only;omega,by simp only [maxLen];omega⟩ ?_|refine yce _ rfl ?_|fail)));conv=>whnf
 refine zax Tryz.E0 zag (σ:=Nat) (fun j=>j≤12) (fun j=>12-j) (fun j=>[(3,.v (.sl (some (H.length+0)) (0+l.length+j) ([]++appC (fun i=>Fct.cells (mkFc i)) C j))),(4,.v (.int .i64 j))]) (fun j=>[.tok 95 3 ([]++appC (fun i=>Fct.cells (mkFc i)) C j).length]) _ 0 rfl hcl [0] rfl (yah _) ⟨⟨_,rfl,yae _⟩,⟨_,rfl,yae _⟩,trivial⟩ rfl (fun _ _=>rfl) ?_
 intro j hj
 have hDl:=zfv (m:=fun i=>Fct.cells (mkFc i)) (fun i=>zbr _) hml j
 have hDb:=fun n=>zb7 n (m:=fun i=>Fct.cells (mkFc i)) (hmb n) (hCb n) j
 rcases yag j 12 with hlt|hge
 ·have hm:=fun H=>markFact_c j hlt H
  have hns:appC (fun i=>Fct.cells (mkFc i)) C (j+1)=appC (fun i=>Fct.cells (mkFc i)) C j++[.str (mkB j),.int .i64 0,.int .i64 0]:=rfl
  have hEb:=fun n=>zb7 n (m:=fun i=>Fct.cells (mkFc i)) (hmb n) (hCb n) (j+1)
  have hm:∀ H,VDet Tryz.prog 172 [.int .i64 1,.int .i64 (j:Nat)] H (.agg [.str (mkB j),.int .i64 0,.int .i64 0]):=hm
  generalize mkB j=sj at hm hns
  generalize appC (fun i=>Fct.cells (mkFc i)) C j=D at *
  (repeat' ((conv=>whnf);(first|refine yar (by omega) ?_|(refine zad _ _ Cst.h Cst.h ?_ ?_;· omega)|refine yab _ (hm _) ?_|refine yaf ⟨rfl,rfl,rfl,by dsimp only;omega,by simp only [maxLen];omega⟩ ?_|refine yce _ rfl ?_|fail)));conv=>whnf
  rw [ybf,← hns]
  (refine ⟨⟨j+1,by show j+1≤_;omega,by omega,?_,.inl ⟨rfl,rfl⟩,rfl,_,rfl,?_⟩⟩;rotate_left 1;exact .inl rfl;exact ⟨⟨_,rfl,yae _⟩,⟨_,rfl,yae _⟩,trivial⟩)
 ·have hje:j=12:=by omega
  subst hje
  (repeat' ((conv=>whnf);(first|(refine OrN.r ?_;(conv=>whnf);refine ydh l.length rfl ?_;(conv=>whnf);refine yaf (by omega) ?_)|refine yau rfl ?_|fail)));conv=>whnf
  rw [yby]
  exact eT (by simp [below,zab,hDb])
theorem lentBinds_c (l:List Bnd) (hl:l.length≤1000000) (H:Heap):VDet Tryz.prog 101 [.sl none l.length (l.flatMap Bnd.cells)] H (.sk l.length (l.length+12) (l.flatMap Bnd.cells++mks Bnd.cells mkBd 12)):=by
 have hml:(l.flatMap Bnd.cells).length=l.length * 2:=zbh (f:=Bnd.cells) (sz:=2) zbs l
 have hone:zbk (l.flatMap Bnd.cells)=true:=allOne_flat (fun x=>rfl) l
 have hCb:∀ n,zab n (l.flatMap Bnd.cells):=fun n=>zbl l fun x=>by simp [Bnd.cells,below,zab]
 have hmb:∀ n (i:Nat),zab n (Bnd.cells (mkBd i)):=fun n i=>by simp [Bnd.cells,below,zab]
 rw [← appC_G]
 generalize l.flatMap Bnd.cells=C at *
 refine fdD Tryz.func101 ⟨rfl,rfl,rfl⟩ fun hcl hbl=>?_
 (repeat' ((conv=>whnf);(first|(refine zg5 ?_;refine ydh (l.length+12) (by omega) ?_;refine yaf ⟨rfl,by omega,by dsimp only;omega⟩ ?_)|refine yco (by omega) ?_|refine yaf ⟨rfl,hone,by dsimp only;omega,by dsimp only;omega,by simp only [maxLen];omega⟩ ?_|refine yce _ rfl ?_|fail)));conv=>whnf
 refine zax Tryz.E0 zag (σ:=Nat) (fun j=>j≤12) (fun j=>12-j) (fun j=>[(3,.v (.sl (some (H.length+0)) (0+l.length+j) ([]++appC (fun i=>Bnd.cells (mkBd i)) C j))),(4,.v (.int .i64 j))]) (fun j=>[.tok 99 2 ([]++appC (fun i=>Bnd.cells (mkBd i)) C j).length]) _ 0 rfl hcl [0] rfl (yah _) ⟨⟨_,rfl,yae _⟩,⟨_,rfl,yae _⟩,trivial⟩ rfl (fun _ _=>rfl) ?_
 intro j hj
 have hDl:=zfv (m:=fun i=>Bnd.cells (mkBd i)) (fun i=>zbs _) hml j
 have hDb:=fun n=>zb7 n (m:=fun i=>Bnd.cells (mkBd i)) (hmb n) (hCb n) j
 rcases yag j 12 with hlt|hge
 ·have hm:=fun H=>markBind_c j hlt H
  have hns:appC (fun i=>Bnd.cells (mkBd i)) C (j+1)=appC (fun i=>Bnd.cells (mkBd i)) C j++[.str (mkB j),.int .i64 0]:=rfl
  have hEb:=fun n=>zb7 n (m:=fun i=>Bnd.cells (mkBd i)) (hmb n) (hCb n) (j+1)
  have hm:∀ H,VDet Tryz.prog 175 [.int .i64 1,.int .i64 (j:Nat)] H (.agg [.str (mkB j),.int .i64 0]):=hm
  generalize mkB j=sj at hm hns
  generalize appC (fun i=>Bnd.cells (mkBd i)) C j=D at *
  (repeat' ((conv=>whnf);(first|refine yar (by omega) ?_|(refine zad _ _ Cst.h Cst.h ?_ ?_;· omega)|refine yab _ (hm _) ?_|refine yaf ⟨rfl,rfl,rfl,by dsimp only;omega,by simp only [maxLen];omega⟩ ?_|refine yce _ rfl ?_|fail)));conv=>whnf
  rw [ybf,← hns]
  (refine ⟨⟨j+1,by show j+1≤_;omega,by omega,?_,.inl ⟨rfl,rfl⟩,rfl,_,rfl,?_⟩⟩;rotate_left 1;exact .inl rfl;exact ⟨⟨_,rfl,yae _⟩,⟨_,rfl,yae _⟩,trivial⟩)
 ·have hje:j=12:=by omega
  subst hje
  (repeat' ((conv=>whnf);(first|(refine OrN.r ?_;(conv=>whnf);refine ydh l.length rfl ?_;(conv=>whnf);refine yaf (by omega) ?_)|refine yau rfl ?_|fail)));conv=>whnf
  rw [yby]
  exact eT (by simp [below,zab,hDb])
def lnU (f:Fnc):List AV:=[.str f.nm,.int .i64 f.ar,.sk f.vl.length (f.vl.length+12) (f.vl.flatMap enc64++mks enc64 mkI 12)]
theorem lnU_size (f:Fnc):(lnU f).length=3:=rfl
theorem lnU_below (n:Nat) (f:Fnc):zab n (lnU f):=⟨trivial,trivial,(zau _ _).2 ⟨zam n _,zc9 n (fun x=>by simp [enc64,below,zab]) 12⟩,trivial⟩
theorem ze5 (n:Nat) (l:List Fnc):zab n (l.flatMap lnU):=zbl l fun x=>lnU_below n x
theorem lnU_wk (f:Fnc):WkL (lnU f) f.cells:=⟨yae _,yae _,wk_sk _ _ _ _,trivial⟩
theorem lnUs_wk:∀ l:List Fnc,WkL (l.flatMap lnU) (l.flatMap Fnc.cells)
 | []=>trivial
 | x::l=>by rw [ya7,ya7];exact WkL.app (lnU_wk x) (lnUs_wk l)
theorem lentFunc_c (f:Fnc) (hf:f.vl.length≤1000000) (H:Heap):VDet Tryz.prog 173 [.agg f.cells] H (.agg (lnU f)):=by
 have h1:=fun H=>lentInts_c f.vl hf H
 have hC:=fun n=>(zau _ _).2 ⟨zam n f.vl,zc9 (f:=enc64) (m:=mkI) n (fun x=>by simp [enc64,below,zab]) 12⟩
 obtain ⟨u,v,z⟩:=f
 unfold lnU Fnc.cells
 simp only at h1 hC ⊢
 generalize z.flatMap enc64++mks enc64 mkI 12=C at *
 generalize z.flatMap enc64=c at *
 refine fdD Tryz.func173 ⟨rfl,rfl,rfl⟩ fun hcl hbl=>?_
 (repeat' ((conv=>whnf);(first|refine yab _ (h1 _) ?_|fail)));conv=>whnf
 exact eT (by simp [below,zab,hC])
theorem lnFnc_ex (x:Fnc):∃ v s,∃ z:List Int,x.cells=[.str v,.int .i64 s,.sl none z.length (z.flatMap enc64)]∧lnU x=[.str v,.int .i64 s,.sk z.length (z.length+12) (z.flatMap enc64++mks enc64 mkI 12)]:=by
 obtain ⟨u,v,z⟩:=x
 exact ⟨u,v,z,rfl,rfl⟩
theorem lentFuncs_c (l:List Fnc) (hl:l.length≤1000000) (h:∀ x∈l,x.vl.length≤1000000) (H:Heap):VDet Tryz.prog 100 [.sl none l.length (l.flatMap Fnc.cells)] H (.sk l.length (l.length+12) (l.flatMap lnU++mks Fnc.cells mkFn 12)):=by
 have hEb:=True.intro
 refine fdD Tryz.func100 ⟨rfl,rfl,rfl⟩ fun hcl hbl=>?_
 (repeat' ((conv=>whnf);(first|(refine zg5 ?_;refine ydh (l.length+12) (by omega) ?_;refine yaf ⟨rfl,by omega,by dsimp only;omega⟩ ?_)|refine yco (by omega) ?_|fail)));conv=>whnf
 refine zax Tryz.E0 zag (σ:=Nat) (fun i=>i≤l.length) (fun i=>l.length-i) (fun i=>[(3,.v (.sl (some (H.length+0)) i ((l.take i).flatMap lnU))),(4,.v (.int .i64 i))]) (fun i=>[.tok 97 3 ((l.take i).flatMap lnU).length]) _ 0 rfl hcl [0] rfl (yah _) ⟨⟨_,rfl,yae _⟩,⟨_,rfl,yae _⟩,trivial⟩ rfl (fun _ _=>rfl) ?_
 intro i hi
 rcases yag i l.length with hlt|hge
 ·have hx:=fun H=>lentFunc_c (l.getD i fnc0) (h _ (zar l i fnc0 hlt)) H
  obtain ⟨v,s,z,q1,q2⟩:=lnFnc_ex (l.getD i fnc0)
  rw [q1,q2] at hx
  have hns:(l.take (i+1)).flatMap lnU=(l.take i).flatMap lnU++[.str v,.int .i64 s,.sk z.length (z.length+12) (z.flatMap enc64++mks enc64 mkI 12)]:=by
   rw [zbm l fnc0 i hlt,yb0,ya7,ybh,yat,q2]
  have hml:((l.take i).flatMap lnU).length=i * 3:=by
   rw [zbh (f:=lnU) (sz:=3) lnU_size,ycm,ycl (by omega)]
  (repeat' ((conv=>whnf);(first|refine yar (by omega) ?_|(refine zad _ _ Cst.h Cst.h ?_ ?_;· omega)|(refine yaf ?_ ?_;· first|omega|exact yaa _ _|fail)|refine yab _ (hx _) ?_|refine zaa fnc0 i rfl (by omega) zbw q1 ?_|refine yaf ⟨rfl,rfl,rfl,by dsimp only;omega,by simp only [maxLen];omega⟩ ?_|refine yce _ rfl ?_|fail)));conv=>whnf
  rw [← hns]
  (refine ⟨⟨i+1,by show i+1≤_;omega,by omega,?_,.inl ⟨rfl,rfl⟩,rfl,_,rfl,?_⟩⟩;rotate_left 1;exact .inr ⟨by simp [zaw,below,zab,tr,zam,zah,zai,lnU_below,ze5,hEb],by simp [zbe,Blk.below,zab,below,zam,zah,zai,lnU_below,ze5,hEb]⟩;exact ⟨⟨_,rfl,yae _⟩,⟨_,rfl,yae _⟩,trivial⟩)
 ·have hie:i=l.length:=by omega
  subst hie
  rw [ya3]
  have hml:(l.flatMap lnU).length=l.length * 3:=zbh (f:=lnU) (sz:=3) lnU_size l
  have hCb:=fun n=>ze5 n l
  have hmb:∀ n (i:Nat),zab n (Fnc.cells (mkFn i)):=fun n i=>by simp [mkFn,Fnc.cells,below,zab]
  rw [← appC_G]
  generalize l.flatMap lnU=C at *
  (repeat' ((conv=>whnf);(first|refine ya1 (by omega) ?_|fail)));conv=>whnf
  refine zax Tryz.E0 zag (σ:=Nat) (fun j=>j≤12) (fun j=>12-j) (fun j=>[(3,.v (.sl (some (H.length+0)) (l.length+j) (appC (fun i=>Fnc.cells (mkFn i)) C j))),(6,.v (.int .i64 j))]) (fun j=>[.tok 97 3 (appC (fun i=>Fnc.cells (mkFn i)) C j).length]) _ 0 rfl hcl [0] rfl (yah _) ⟨⟨_,rfl,yae _⟩,⟨_,rfl,yae _⟩,trivial⟩ rfl (fun _ _=>rfl) ?_
  intro j hj
  have hDl:=zfv (m:=fun i=>Fnc.cells (mkFn i)) (fun i=>zbw _) hml j
  have hDb:=fun n=>zb7 n (m:=fun i=>Fnc.cells (mkFn i)) (hmb n) (hCb n) j
  rcases yag j 12 with hlt|hge
  ·have hm:∀ H,VDet Tryz.prog 174 [.int .i64 1,.int .i64 (j:Nat)] H (.agg [.str (mkB j),.int .i64 0,.sl none 0 []]):=fun H=>markFunc_c j hlt H
   have hns:appC (fun i=>Fnc.cells (mkFn i)) C (j+1)=appC (fun i=>Fnc.cells (mkFn i)) C j++[.str (mkB j),.int .i64 0,.sl none 0 []]:=rfl
   clear hEb
   have hEb:=fun n=>zb7 n (m:=fun i=>Fnc.cells (mkFn i)) (hmb n) (hCb n) (j+1)
   generalize mkB j=sj at hm hns
   generalize appC (fun i=>Fnc.cells (mkFn i)) C j=D at *
   (repeat' ((conv=>whnf);(first|refine yar (by omega) ?_|(refine zad _ _ Cst.h Cst.h ?_ ?_;· omega)|refine yab _ (hm _) ?_|refine yaf ⟨rfl,rfl,rfl,by dsimp only;omega,by simp only [maxLen];omega⟩ ?_|refine yce _ rfl ?_|fail)));conv=>whnf
   rw [← hns]
   (refine ⟨⟨j+1,by show j+1≤_;omega,by omega,?_,.inl ⟨rfl,rfl⟩,rfl,_,rfl,?_⟩⟩;rotate_left 1;exact .inl rfl;exact ⟨⟨_,rfl,yae _⟩,⟨_,rfl,yae _⟩,trivial⟩)
  ·have hje:j=12:=by omega
   subst hje
   (repeat' ((conv=>whnf);(first|(refine OrN.r ?_;(conv=>whnf);refine ydh l.length rfl ?_;(conv=>whnf);refine yaf (by omega) ?_)|refine yau rfl ?_|fail)));conv=>whnf
   exact eT (by simp [below,zab,hDb])
def lnM (m:Mdl):List AV:=[.int .u8 m.kind,.int .i64 m.size,.sk m.rel.length (m.rel.length+12) (m.rel.flatMap enc64++mks enc64 mkI 12),.int .i64 m.loop,.sk m.facts.length (m.facts.length+12) (m.facts.flatMap Fct.cells++mks Fct.cells mkFc 12),.sk m.funcs.length (m.funcs.length+12) (m.funcs.flatMap lnU++mks Fnc.cells mkFn 12),.sk m.binds.length (m.binds.length+12) (m.binds.flatMap Bnd.cells++mks Bnd.cells mkBd 12)]
theorem lnM_wk (m:Mdl):WkL (lnM m) m.cells:=⟨yae _,yae _,wk_sk _ _ _ _,yae _,wk_sk _ _ _ _,wk_skL (lnUs_wk _),wk_sk _ _ _ _,trivial⟩
structure Mdl.Few (m:Mdl):Prop where
 rel:m.rel.length≤1000000
 facts:m.facts.length≤1000000
 funcs:m.funcs.length≤1000000
 binds:m.binds.length≤1000000
 vals:∀ f∈m.funcs,f.vl.length≤1000000
theorem lentModel_c (m:Mdl) (hm:m.Few) (H:Heap):VDet Tryz.prog 43 [.agg m.cells] H (.agg (lnM m)):=by
 have h1:=fun H=>lentInts_c m.rel hm.rel H
 have h2:=fun H=>lentFacts_c m.facts hm.facts H
 have h3:=fun H=>lentFuncs_c m.funcs hm.funcs hm.vals H
 have h4:=fun H=>lentBinds_c m.binds hm.binds H
 have b1:=fun n=>(zau _ _).2 ⟨zam n m.rel,zc9 (f:=enc64) (m:=mkI) n (fun x=>by simp [enc64,below,zab]) 12⟩
 have b2:=fun n=>(zau _ _).2 ⟨zah n m.facts,zc9 (f:=Fct.cells) (m:=mkFc) n (fun x=>by simp [Fct.cells,below,zab]) 12⟩
 have b3:=fun n=>(zau _ _).2 ⟨ze5 n m.funcs,zc9 (f:=Fnc.cells) (m:=mkFn) n (fun x=>by simp [Fnc.cells,below,zab,zam]) 12⟩
 have b4:=fun n=>(zau _ _).2 ⟨zai n m.binds,zc9 (f:=Bnd.cells) (m:=mkBd) n (fun x=>by simp [Bnd.cells,below,zab]) 12⟩
 unfold lnM Mdl.cells
 generalize m.rel.flatMap enc64++mks enc64 mkI 12=C1 at *
 generalize m.facts.flatMap Fct.cells++mks Fct.cells mkFc 12=C2 at *
 generalize m.funcs.flatMap lnU++mks Fnc.cells mkFn 12=C3 at *
 generalize m.binds.flatMap Bnd.cells++mks Bnd.cells mkBd 12=C4 at *
 generalize m.rel.flatMap enc64=c1 at *
 generalize m.facts.flatMap Fct.cells=c2 at *
 generalize m.funcs.flatMap Fnc.cells=c3 at *
 generalize m.binds.flatMap Bnd.cells=c4 at *
 refine fdD Tryz.func43 ⟨rfl,rfl,rfl⟩ fun hcl hbl=>?_
 (repeat' ((conv=>whnf);(first|(refine ybm ?_;first|refine yab _ (h1 _) ?_|refine yab _ (h2 _) ?_|refine yab _ (h3 _) ?_|refine yab _ (h4 _) ?_|fail)|fail)));conv=>whnf
 exact eT (by simp [below,zab,b1,b2,b3,b4])
end
end Go.Proofs.YtgdmldelijeaoaaGreatDoor
