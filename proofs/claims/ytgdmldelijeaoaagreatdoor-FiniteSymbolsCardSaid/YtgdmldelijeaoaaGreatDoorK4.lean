/- A text of the proof: the parts R3, R4, R5, R15, R17, R18, R6, R7, R8, R9, R10, R11. -/
import Derived.IntWalk
import Derived.Test.YtgdmldelijeaoaaGreatDoorK3
set_option linter.unusedSimpArgs false
set_option linter.unusedVariables false
/-! text R3 -/
namespace Go.Vsi
section
variable {P:Program} {N:FN} {n0:Nat} {base:Heap} {k:Nat} {loc:Heap} {top bot:RE} {o:Oper} {T:TypeId→Option TI} {kn:TypeId→Nat} {r:SR}
structure Env0 (P:Program) (T:TypeId→Option TI) (kn:TypeId→Nat):Prop where
 zr:∀ t ti,T t=some ti→zeroShape P t=true
 T:TOk P T
 fk:∀ t n,kn t=n+1→fieldsKnown P t=true
 eq:∀ t n,kn t=n+2→P.stoodInHeld t=false∧P.eqGuardType P.depth t=false
theorem step_leaf [Glob] (he:Env0 P T kn) (hn:base.length=n0) {op:Op} (ho:o.op=op) (h:Res n0 base (stepS kn T n0 top bot loc op) r) (hl:leaf r=true):LeafOk P N n0 base k loc (trE n0 (top++bot)) o r:=by
 unfold stepS at h
 split at h
 ·exact leaf_move (.inl ho) h hl
 ·exact leaf_move (.inr ho) h hl
 ·exact leaf_bin he.T he.eq ho h hl
 ·exact leaf_not ho h hl
 ·exact leaf_neg ho h hl
 ·exact leaf_com ho h hl
 ·rename_i s t x
  refine ofI_step h hl fun v hv hp=>?_
  generalize hx:av n0 top bot x=vx at hv
  refine stepV_sound he.T ho ?_
  simp only [stepV]
  rw [av_ev hx (by rintro rfl;cases hv)]
  exact hv
 ·exact leaf_extract ho h hl
 ·exact leaf_field he.T ho h hl
 ·exact leaf_fieldPart he.T ho h hl
 ·exact leaf_nil ho h hl
 ·exact leaf_load he.T hn ho h hl
 ·exact leaf_store he.T hn ho h hl
 ·exact leaf_alloc he.T ho h hl
 ·obtain ⟨a,ha,h⟩:=res_withV h hl
  rw [← avF_av ha] at h
  exact leaf_box ho h hl
 ·obtain ⟨a,ha,h⟩:=res_withL h hl
  rw [← avPF_eq ha] at h
  exact leaf_build he.T he.fk ho h hl
 ·obtain ⟨a,ha,h⟩:=res_withL h hl
  rw [← avPF_eq ha] at h
  exact leaf_buildSlice he.T ho h hl
 ·exact leaf_indexX he.T hn ho h hl
 ·obtain ⟨a,ha,h⟩:=res_withL h hl
  obtain ⟨b,hb,h⟩:=res_withL h hl
  rw [← avLF_eq ha,← avLF_eq hb] at h
  exact leaf_func ho h
 ·exact leaf_slice he.T ho h hl
 ·exact leaf_indexV he.T ho h hl
 ·exact leaf_make he.T hn ho h hl
 ·exact leaf_makeMap hn ho h
 ·obtain ⟨a,ha,h⟩:=res_withV h hl
  exact leaf_look he.T he.eq he.zr hn ho (avF_ev ha) h hl
 ·obtain ⟨a,ha,h⟩:=res_withV h hl
  obtain ⟨b,hb,h⟩:=res_withV h hl
  exact leaf_put he.T he.eq hn (.inl ho) (avF_ev ha) (avF_ev hb) h hl
 ·obtain ⟨a,ha,h⟩:=res_withV h hl
  obtain ⟨b,hb,h⟩:=res_withV h hl
  exact leaf_put he.T he.eq hn (.inr ho) (avF_ev ha) (avF_ev hb) h hl
 ·exact leaf_range he.T hn ho h hl
 ·split at h
  ·exact leaf_next hn ho h hl
  ·exact (res_fail h hl).elim
 ·exact leaf_entry hn ho h hl
 ·obtain ⟨a,ha,h⟩:=res_withV h hl
  exact leaf_ent he.T he.eq he.zr hn ho (avF_ev ha) h hl
 ·obtain ⟨b,hb,h⟩:=res_withV h hl
  exact leaf_ents hn ho (avF_ev hb) h hl
 ·exact leaf_len he.T ho h hl
 ·split at h
  ·rename_i hb
   have hb:=Nat.eq_of_beq_eq_true hb
   subst hb
   exact leaf_append he.T hn ho h hl
  ·exact (res_fail h hl).elim
 ·rename_i x y ts
  refine ofV_step h hl fun v hv hp=>?_
  generalize hx:av n0 top bot x=vx at hv
  generalize hy:av n0 top bot y=vy at hv
  refine stepV_sound he.T ho ?_
  simp only [stepV]
  rw [av_ev hx (by rintro rfl;cases hv),av_ev hy (by rintro rfl;cases vx <;> cases hv)]
  exact hv
 ·rename_i x y ts
  refine ofV_step h hl fun v hv hp=>?_
  generalize hx:av n0 top bot x=vx at hv
  generalize hy:av n0 top bot y=vy at hv
  refine stepV_sound he.T ho ?_
  simp only [stepV]
  rw [av_ev hx (by rintro rfl;cases hv),av_ev hy (by rintro rfl;cases vx <;> cases hv)]
  exact hv
 ·rename_i f xs ts
  obtain ⟨a,ha,h⟩:=res_withL h hl
  rw [← avLF_eq ha] at h
  obtain ⟨F,as,rfl,fs,cs,h1,h2⟩:=leaf_call h hl
  exact ⟨f,xs,ts,fs,cs,_,ho,h1,h2,fun g w a hE=>avL_rel hE xs⟩
 ·exact (res_fail h hl).elim
structure IfN (b:Bool) (A B:Prop):Prop where
 t:b=true→A
 f:b=false→B
theorem IfN.tt {b:Bool} {A B:Prop} (h:b=true) (a:A):IfN b A B:=⟨fun _=>a,fun e=>by rw [h] at e;cases e⟩
theorem IfN.ff {b:Bool} {A B:Prop} (h:b=false) (a:B):IfN b A B:=⟨(fun e=>by rw [h] at e;cases e),fun _=>a⟩
structure SideN (p A:Prop):Prop where
 side:p
 rest:A
inductive PtrN (n0:Nat) (base:Heap) (i:Nat) (kl:Nat→Prop) (kb:Blk→Prop):Prop where
 | loc (j:Nat) (h:i=n0+j) (a:kl j)
 | base (B:Blk) (h:base[i]? = some B) (a:kb B)
inductive SegN (l:List AV) (o:Nat) (k:List AV→Prop):Prop where
 | mk (l':List AV) (h:Seg l o l') (a:k l')
inductive SubN (l:List AV) (o n:Nat) (k:List AV→Prop):Prop where
 | mk (l':List AV) (h:SubL l o n l') (a:k l')
inductive NatN (i:Int) (k:Nat→Prop):Prop where
 | mk (m:Nat) (h:i=(m:Int)) (a:k m)
inductive ByteN (s:ByteArray) (i:Int) (k:UInt8→Prop):Prop where
 | mk (b:UInt8) (h:s[i.toNat]? = some b) (a:k b)
inductive OrN (A B:Prop):Prop where
 | l (a:A)
 | r (b:B)
inductive OfsN (i:Int) (n:Nat) (k:Nat→Prop):Prop where
 | mk (m:Nat) (h:i=(m:Int)) (hm:m<n) (a:k m)
inductive EqN (x:Int) (k:Int→Prop):Prop where
 | mk (y:Int) (h:x=y) (a:k y)
theorem IfN.not {b:Bool} {A B:Prop} (h:IfN b B A):IfN (!b) A B:=⟨(fun e=>h.f (by simpa using e)),fun e=>h.t (by simpa using e)⟩
theorem IfN.dec {p:Prop} [Decidable p] {A B:Prop} (h1:p→A) (h2:¬p→B):IfN (decide p) A B:=⟨(fun e=>h1 (by simpa using e)),fun e=>h2 (by simpa using e)⟩
theorem IfN.dT {p:Prop} [Decidable p] {A B:Prop} (h:p) (a:A):IfN (decide p) A B:=.tt (by simpa using h) a
theorem IfN.dF {p:Prop} [Decidable p] {A B:Prop} (h:¬p) (a:B):IfN (decide p) A B:=.ff (by simpa using h) a
inductive SetN (base:Heap) (i:Nat) (B:Blk) (k:Heap→Prop):Prop where
 | mk (base':Heap) (h:base.set i B=base') (a:k base')
inductive RelN (S:List AV→List AV→Prop) (k:List AV→List AV→Prop):Prop where
 | mk (a b:List AV) (h:S a b) (c:k a b)
inductive CallN [Glob] (P:Program) (F:Fn) (as:List AV) (n0:Nat) (base:Heap) (k:Nat) (loc:Heap) (K:AV→Heap→Nat→Heap→Prop):Prop where
 | detF (v:AV) (h:VFn P F as (base++loc) fun r H'=>H'=base++loc∧r=v) (a:K v base k loc)
 | genF (R:AV→Heap→Prop) (h:VFn P F as (base++loc) R)
   (a:∀ r H',R r H'→∃ base' k' loc',base'++loc'=H'∧loc'.length=k'∧base'.length=n0∧K r base' k' loc')
theorem CallN.det [Glob] {F:FuncId} {as:List AV} {K:AV→Heap→Nat→Heap→Prop} (v:AV) (h:VDet P F as (base++loc) v) (a:K v base k loc):CallN P (.func F) as n0 base k loc K:=.detF v h a
theorem CallN.gen [Glob] {F:FuncId} {as:List AV} {K:AV→Heap→Nat→Heap→Prop} (R:AV→Heap→Prop) (h:VCall P F as (base++loc) R)
  (a:∀ r H',R r H'→∃ base' k' loc',base'++loc'=H'∧loc'.length=k'∧base'.length=n0∧K r base' k' loc'):CallN P (.func F) as n0 base k loc K:=.genF R h a
structure BlkUN (S:Blk→Prop) (k:Blk→Prop):Prop where
 h:∀ B,S B→k B
structure AnyVN (S:AV→Prop) (k:AV→Prop):Prop where
 h:∀ v,S v→k v
def wpS [Glob] (P:Program) (n0:Nat) (base:Heap) (k:Nat) (loc:Heap) (K:Option RG→Heap→Nat→Heap→Prop) (s:SR):Prop :=
 @SR.rec (fun _=>Prop) False
  (fun v=>K (some v) base k loc)
  (fun v=>K (some v) base k loc)
  (fun t l=>match snocC loc (.box t l) with
   | some loc'=>K (some (.lp k 0)) base (k+1) loc'
   | none=>False)
  (fun j B v=>match lset loc j B with
   | some loc'=>K v base k loc'
   | none=>False)
  (fun i B v=>SetN base i B fun base'=>K v base' k loc)
  (fun B v=>match snocC loc B with
   | some loc'=>K (some (v k)) base (k+1) loc'
   | none=>False)
  (fun p _ ih=>SideN p ih)
  (fun i _ _ ihl ihb=>PtrN n0 base i ihl ihb)
  (fun l o _ ih=>SegN l o ih)
  (fun i n _ ih=>OfsN i n ih)
  (fun x _ ih=>EqN x ih)
  (fun l o n _ ih=>SubN l o n ih)
  (fun i _ ih=>NatN i ih)
  (fun s i _ ih=>ByteN s i ih)
  (fun _ _ iha ihb=>OrN iha ihb)
  (fun f as=>CallN P f as n0 base k loc (fun r=>K (some (.v r))))
  (fun S _ ih=>RelN S ih)
  (fun j S=>∀ B v,S B v→match lset loc j B with
   | some loc'=>K (some (.v v)) base k loc'
   | none=>False)
  (fun S v=>BlkUN S fun B=>match snocC loc B with
   | some loc'=>K (some (v k)) base (k+1) loc'
   | none=>False)
  (fun S=>AnyVN S fun v=>K (some (.v v)) base k loc) s
theorem wpS_leaf [Glob] {K:Option RG→Heap→Nat→Heap→Prop}:∀ (s:SR),wpS P n0 base k loc K s→∃ r,Res n0 base s r∧leaf r=true∧wpS P n0 base k loc K r
 | .fail,h=>h.elim
 | .reg v,h=>⟨_,.refl _,rfl,h⟩
 | .mem v,h=>⟨_,.refl _,rfl,h⟩
 | .box t l,h=>⟨_,.refl _,rfl,h⟩
 | .upd j B v,h=>⟨_,.refl _,rfl,h⟩
 | .updB i B v,h=>⟨_,.refl _,rfl,h⟩
 | .blk B v,h=>⟨_,.refl _,rfl,h⟩
 | .call f as,h=>⟨_,.refl _,rfl,h⟩
 | .anyU j S,h=>⟨_,.refl _,rfl,h⟩
 | .blkU S v,h=>⟨_,.refl _,rfl,h⟩
 | .anyV S,h=>⟨_,.refl _,rfl,h⟩
 | .rel S kk,h=>by
   obtain ⟨y,z,h1,h2⟩:=h
   obtain ⟨r,h3,h4⟩:=wpS_leaf (kk y z) h2
   exact ⟨r,.rel h1 h3,h4⟩
 | .side p s,h=>by
   obtain ⟨r,h1,h2⟩:=wpS_leaf s h.rest
   exact ⟨r,.side h.side h1,h2⟩
 | .ptr i kl kb,h=>by
   cases h with
   | loc j h1 h2 =>
     obtain ⟨r,h3,h4⟩:=wpS_leaf (kl j) h2
     exact ⟨r,.ptrL h1 h3,h4⟩
   | base B h1 h2 =>
     obtain ⟨r,h3,h4⟩:=wpS_leaf (kb B) h2
     exact ⟨r,.ptrB h1 h3,h4⟩
 | .seg l o kk,h=>by
   obtain ⟨l',h1,h2⟩:=h
   obtain ⟨r,h3,h4⟩:=wpS_leaf (kk l') h2
   exact ⟨r,.seg h1 h3,h4⟩
 | .ofs i n kk,h=>by
   obtain ⟨m,h1,h2,h3⟩:=h
   obtain ⟨r,h4,h5⟩:=wpS_leaf (kk m) h3
   exact ⟨r,.ofs h1 h2 h4,h5⟩
 | .eqv x kk,h=>by
   obtain ⟨y,h1,h2⟩:=h
   obtain ⟨r,h3,h4⟩:=wpS_leaf (kk y) h2
   exact ⟨r,.eqv h1 h3,h4⟩
 | .sub l o n kk,h=>by
   obtain ⟨y,h1,h2⟩:=h
   obtain ⟨r,h3,h4⟩:=wpS_leaf (kk y) h2
   exact ⟨r,.sub h1 h3,h4⟩
 | .nat i kk,h=>by
   obtain ⟨y,h1,h2⟩:=h
   obtain ⟨r,h3,h4⟩:=wpS_leaf (kk y) h2
   exact ⟨r,.nat h1 h3,h4⟩
 | .byte s i kk,h=>by
   obtain ⟨y,h1,h2⟩:=h
   obtain ⟨r,h3,h4⟩:=wpS_leaf (kk y) h2
   exact ⟨r,.byte h1 h3,h4⟩
 | .or a b,h=>by
   rcases h with h|h
   ·obtain ⟨r,h3,h4⟩:=wpS_leaf a h
    exact ⟨r,.orl h3,h4⟩
   ·obtain ⟨r,h3,h4⟩:=wpS_leaf b h
    exact ⟨r,.orr h3,h4⟩
def putN (N:Nat) (d:Option Nat) (v:Option RG) (top:RE) (K:RE→Prop):Prop:=match d with
 | some d=>match v with
   | some v=>match Nat.blt d N with
     | true=>K ((d,v)::top)
     | false=>False
   | none=>False
 | none=>match v with
   | none=>K top
   | some _=>False
theorem call_wp [Glob] {f:Operand} {fn:Fn} {xs:List Operand} {ts:Array TypeId} {fs cs ws as:List AV} {env:Env} {H:Heap} {R:AV→Heap→Prop} {g:G} {w:World} {a:Act} {K:Act→World→Prop} {Qc:Exit→Act→World→Prop} (ho:o.op=.call { callee:=.value f,args:=xs.toArray,argTypes:=ts })
  (hf:ev env f=.clo fn fs cs) (hw:LRel g w ws (xs.map a.eval)) (has:(fs++ws)++cs=as) (hc:VFn P fn as H R) (hH:HRel g w (Hp.of H)) (hE:ERel N g w env a)
  (fin:∀ r H' g' w' c,R r H'→HRel g' w' (Hp.of H')→VRel g' w' r c→Ext g w g' w'→K (a.put o.dst c) w'):o.wpIn (FR (N.fo g)) 0 P a w K Qc:=by
 have hr:=ev_rel hE f
 rw [hf] at hr
 simp only [VRel] at hr
 obtain ⟨hok,f',c',hfv,hfs,hcs⟩:=hr
 have hargs:=((hfs.append hw).append hcs)
 rw [has] at hargs
 cases fn with
 | func F =>
   obtain ⟨⟨fn,h1,h2,h3⟩,hcall⟩:=hc
   have hrun:(execOp a.eval o).run P w=.ok (.enter F ((f'++(xs.map a.eval).toArray)++c')) w:=by
    have h2':fn.name ≠ "runtime.NumGoroutine" := by simpa using h2
    have h3':fn.body≠none:=by intro h0;simp [h0] at h3
    simp [execOp,ho,resolve,hfv,fnG,Deferred.ofValue,invoke,callFunc,h1,h2',h3']
   refine opIn_enter hrun ((hcall g w _ hH (by simpa using hargs)).mono ?_)
   rintro e w' ⟨r,H',g',c,rfl,hR,hH',hv,hx'⟩
   exact fin r H' g' w' c hR hH' hv hx'
 | yield i =>
   have hcs0:cs=[]:=hok.2
   subst hcs0
   have hc0:c'.toList=[]:=by simpa [LRel] using hcs
   have hargs':LRel g w as (f'++(xs.map a.eval).toArray).toList:=by rw [hc0] at hargs;simpa using hargs
   obtain ⟨f0,tmps,assign,body,hy,hround⟩:=hc g w _ hH hargs' hok.1
   have hrun:(execOp a.eval o).run P w=.ok (.round (g.blk i) f0 tmps assign body) w:=by
    simp only [execOp,ho,resolve]
    rw [hfv]
    simpa [Deferred.ofValue,invoke,fnG] using hy
   refine opIn_round hrun (hround.mono ?_)
   rintro e w' ⟨r,H',g',c,rfl,hR,hH',hv,hx'⟩
   exact fin r H' g' w' c hR hH' hv hx'
 | _=>exact hc.elim
theorem vcall_conv [Glob] {f:Operand} {fn:Fn} {xs:List Operand} {ts:Array TypeId} {fs cs ws as:List AV} {d:Nat} {env:Env} {hp:Hp} {all rest:List Oper} {Q:Env→Hp→Prop} {R:AV→Heap→Prop} (ho:o.op=.call { callee:=.value f,args:=xs.toArray,argTypes:=ts }) (hg:gd all env o=some true) (hd:o.dst=some d) (hN:Nat.blt d N.n=true)
  (hf:ev env f=.clo fn fs cs) (hw:∀ g w a,ERel N g w env a→LRel g w ws (xs.map a.eval)) (has:(fs++ws)++cs=as)
  (hc:VFn P fn as hp.all R) (h:∀ r H',R r H'→∃ hp',(∀ g w,HRel g w hp→Sees hp H' hp')∧VO P N all rest Q ((d,r)::env) hp'):VO P N all (o::rest) Q env hp:=by
 intro g0 w0 g w a Qc hH hE hx k
 unfold wpListIn
 rw [if_pos (gd_wanted hE hg)]
 refine call_wp ho hf (hw g w a hE) has hc hH.of hE fun r H' g' w' c hR hH' hv hx'=>?_
 obtain ⟨hp',hs,hvo⟩:=h r H' hR
 rw [hd]
 have:=hvo g0 w0 g' w' _ Qc (hH'.see (hs g w hH)) ((hE.ext hx').put hN hv) (hx.trans hx') (fun e1 h1 g1 a1 w1 q1 q2 q3 q4 q5=>k e1 h1 g1 a1 w1 q1 q2 q3 q4 (by rw [q5];rfl))
 rw [hE.fo hx'] at this
 exact this
theorem step_of_aok [Glob] {t:TypeId} {l:List AV} {env:Env} (h:AOk P N (.box t l) env o):Step P N ⟨base,k,loc⟩ env o (.ptr (base.length+k) 0) ⟨base,k+1,loc++[.box t l]⟩:=by
 intro g w a hH hE
 obtain ⟨t',l',cs,h1,h2,h3⟩:=h g w a hE
 cases h1
 obtain ⟨g',e1,e2,e3,e4⟩:=hH.newBox (t:=t) (l:=l) (cs:=cs) h2
 refine ⟨_,g',_,h3,e3,?_,e4⟩
 simp only [VRel]
 have hn:=hH.n
 simp only at hn
 exact ⟨by rw [← hn];exact e1,by rw [← hn,e2]⟩
theorem vo_R [Glob] (he:Env0 P T kn) (hn:base.length=n0) {all rest:List Oper} {Q:Env→Hp→Prop} {K:RE→Heap→Nat→Heap→Prop}
  (hg:gd all (trE n0 (top++bot)) o=some true)
  (h:wpS P n0 base k loc (fun v base k loc=>putN N.n o.dst v top fun top=>K top base k loc) (stepS kn T n0 top bot loc o.op))
  (hK:∀ top base k loc,base.length=n0→K top base k loc→VO P N all rest Q (trE n0 (top++bot)) ⟨base,k,loc⟩) :
  VO P N all (o::rest) Q (trE n0 (top++bot)) ⟨base,k,loc⟩:=by
 obtain ⟨r,h1,h2,h3⟩:=wpS_leaf _ h
 have hlf:=step_leaf (N:=N) (k:=k) (loc:=loc) he hn rfl h1 h2
 have puts:∀ {v:RG} {base' k' loc'},putN N.n o.dst (some v) top (fun top=>K top base' k' loc')→∃ d,o.dst=some d∧Nat.blt d N.n=true∧K ((d,v)::top) base' k' loc':=by
  intro v base' k' loc' hp
  unfold putN at hp
  split at hp
  ·rename_i d hd
   simp only at hp
   split at hp
   ·rename_i hb;exact ⟨d,hd,hb,hp⟩
   ·exact hp.elim
  ·exact hp.elim
 have putU:∀ {base' k' loc'},putN N.n o.dst none top (fun top=>K top base' k' loc')→o.dst=none∧K top base' k' loc':=by
  intro base' k' loc' hp
  unfold putN at hp
  split at hp
  ·exact hp.elim
  ·rename_i hd;exact ⟨hd,hp⟩
 cases r with
 | reg v =>
   obtain ⟨d,hd,hb,hk⟩:=puts h3
   exact vo_step (hlf ⟨base,k,loc⟩) hg hd hb (hK ((d,v)::top) _ _ _ hn hk)
 | mem v =>
   obtain ⟨d,hd,hb,hk⟩:=puts h3
   have hs:=hlf []
   simp only [List.length_nil,Nat.add_zero,List.append_nil] at hs
   exact vo_step hs hg hd hb (hK ((d,v)::top) _ _ _ hn hk)
 | box t l =>
   simp only [wpS] at h3
   split at h3
   ·rename_i loc' hl
    obtain ⟨d,hd,hb,hk⟩:=puts h3
    have hs:=step_of_aok (base:=base) (k:=k) (loc:=loc) hlf
    rw [← snocC_eq _ _ _ hl,hn] at hs
    exact vo_step hs hg hd hb (hK ((d,_)::top) _ _ _ hn hk)
   ·exact h3.elim
 | upd j B v =>
   simp only [wpS] at h3
   split at h3
   ·rename_i loc' hl
    cases v with
    | none =>
      obtain ⟨hd,hk⟩:=putU h3
      exact vo_stepU (hlf loc' hl) hg hd (hK _ _ _ _ hn hk)
    | some v =>
      obtain ⟨d,hd,hb,hk⟩:=puts h3
      exact vo_step (hlf loc' hl) hg hd hb (hK ((d,v)::top) _ _ _ hn hk)
   ·exact h3.elim
 | updB i B v =>
   simp only [wpS] at h3
   obtain ⟨base',hset,h3⟩:=h3
   subst hset
   cases v with
   | none =>
     obtain ⟨hd,hk⟩:=putU h3
     exact vo_stepU hlf hg hd (hK _ _ _ _ (by simpa using hn) hk)
   | some v =>
     obtain ⟨d,hd,hb,hk⟩:=puts h3
     exact vo_step hlf hg hd hb (hK ((d,v)::top) _ _ _ (by simpa using hn) hk)
 | anyU j S =>
   simp only [wpS] at h3
   intro g0 w0 g w a Qc hH hE hx kk
   unfold wpListIn
   rw [if_pos (gd_wanted hE hg)]
   obtain ⟨B,v,c,g',w',hS,hrun,hH',hv,hx'⟩:=hlf g w a hH hE
   have h4:=h3 B v hS
   split at h4
   ·rename_i loc' hl
    obtain ⟨d,hd,hb,hk⟩:=puts h4
    refine opIn_value hrun ?_
    rw [hd]
    have:=hK ((d,.v v)::top) _ _ _ hn hk g0 w0 g' w' _ Qc (hH' loc' hl) ((hE.ext hx').put hb hv) (hx.trans hx') (fun e1 h1 g1 a1 w1 q1 q2 q3 q4 q5=>kk e1 h1 g1 a1 w1 q1 q2 q3 q4 (by rw [q5];rfl))
    rw [hE.fo hx'] at this
    exact this
   ·exact h4.elim
 | anyV S =>
   simp only [wpS] at h3
   intro g0 w0 g w a Qc hH hE hx kk
   unfold wpListIn
   rw [if_pos (gd_wanted hE hg)]
   obtain ⟨v,c,hS,hrun,hv⟩:=hlf g w a hE
   have h4:=h3.h v hS
   obtain ⟨d,hd,hb,hk⟩:=puts h4
   refine opIn_value hrun ?_
   rw [hd]
   exact hK ((d,.v v)::top) _ _ _ hn hk g0 w0 g w _ Qc hH (hE.put hb hv) hx (fun e1 h1 g1 a1 w1 q1 q2 q3 q4 q5=>kk e1 h1 g1 a1 w1 q1 q2 q3 q4 (by rw [q5];rfl))
 | blkU S v =>
   simp only [wpS] at h3
   intro g0 w0 g w a Qc hH hE hx kk
   unfold wpListIn
   rw [if_pos (gd_wanted hE hg)]
   obtain ⟨B,c,g',w',hS,hrun,hH',hv,hx'⟩:=hlf g w a hH hE
   have h4:=h3.h B hS
   split at h4
   ·rename_i loc' hl
    obtain ⟨d,hd,hb,hk⟩:=puts h4
    refine opIn_value hrun ?_
    rw [hd]
    rw [← snocC_eq _ _ _ hl] at hH'
    have:=hK ((d,v k)::top) _ _ _ hn hk g0 w0 g' w' _ Qc hH' ((hE.ext hx').put hb hv) (hx.trans hx') (fun e1 h1 g1 a1 w1 q1 q2 q3 q4 q5=>kk e1 h1 g1 a1 w1 q1 q2 q3 q4 (by rw [q5];rfl))
    rw [hE.fo hx'] at this
    exact this
   ·exact h4.elim
 | blk B v =>
   simp only [wpS] at h3
   split at h3
   ·rename_i loc' hl
    obtain ⟨d,hd,hb,hk⟩:=puts h3
    have hs:=hlf
    simp only [LeafOk] at hs
    rw [← snocC_eq _ _ _ hl] at hs
    exact vo_step hs hg hd hb (hK ((d,v k)::top) _ _ _ hn hk)
   ·exact h3.elim
 | call F as =>
   obtain ⟨f,xs,ts,fs,cs,ws,ho,hf,has,hw⟩:=hlf
   have hall:(⟨base,k,loc⟩:Hp).all=base++loc:=rfl
   simp only [wpS] at h3
   cases h3 with
   | detF v hc hk =>
     obtain ⟨d,hd,hb,hk⟩:=puts hk
     exact vcall_conv ho hg hd hb hf hw has hc fun r H' ⟨e,hr⟩=>⟨⟨base,k,loc⟩,fun g w hH=>by subst e;exact sees_same hH,by subst hr;exact hK ((d,_)::top) _ _ _ hn hk⟩
   | genF R hc hk =>
     by_cases hex:∃ d,o.dst=some d∧Nat.blt d N.n=true
     ·obtain ⟨d,hd,hb⟩:=hex
      refine vcall_conv ho hg hd hb hf hw has hc fun r H' hr=>?_
      obtain ⟨base',k',loc',e1,e2,e3,hk'⟩:=hk r H' hr
      refine ⟨⟨base',k',loc'⟩,fun g w hH=>⟨e1,e2⟩,?_⟩
      obtain ⟨d',hd',hb',hk'⟩:=puts hk'
      rw [hd] at hd';cases hd'
      exact hK ((d,.v r)::top) _ _ _ e3 hk'
     ·intro g0 w0 g w a Qc hH hE hx kk
      exfalso
      have hr:=ev_rel hE f
      rw [hf] at hr
      simp only [VRel] at hr
      obtain ⟨hok,f',c',hfv,hfs,hcs⟩:=hr
      have hargs:=((hfs.append (hw g w a hE)).append hcs)
      rw [has] at hargs
      obtain ⟨r,H',hR⟩:=VFn.some hc (asv:=(f'++(xs.map a.eval).toArray)++c') hH.of (by simpa using hargs) hok.1
      obtain ⟨base',k',loc',e1,e2,e3,hk'⟩:=hk r H' hR
      obtain ⟨d',hd',hb',-⟩:=puts hk'
      exact hex ⟨d',hd',hb'⟩
 | fail=>cases h2
 | side _ _=>cases h2
 | ptr _ _ _=>cases h2
 | seg _ _ _=>cases h2
 | ofs _ _ _=>cases h2
 | eqv _ _=>cases h2
 | sub _ _ _ _=>cases h2
 | nat _ _=>cases h2
 | byte _ _ _=>cases h2
 | or _ _=>cases h2
 | rel _ _=>cases h2
end
end Go.Vsi
/-! text R4 -/
namespace Go.Vsi
def Apx (n0:Nat) (env:Env) (re:RE):Prop:=∀ s,Wk (get env s) (get (trE n0 re) s)
theorem Apx.refl (n0:Nat) (re:RE):Apx n0 (trE n0 re) re:=fun _=>Wk.refl _
section
variable {P:Program} {N:FN} {n0:Nat} {T:TypeId→Option TI} {kn:TypeId→Nat}
theorem vo_env [Glob] {all rest:List Oper} {Q:Env→Hp→Prop} {env env':Env} {hp:Hp} (h:VO P N all rest Q env' hp) (hw:∀ s,Wk (get env s) (get env' s)):VO P N all rest Q env hp :=
 fun g0 w0 g w a Qc hH hE hx k=>h g0 w0 g w a Qc hH ⟨hE.1,fun s=>hw s _ _ _ (hE.rel s),hE.ro,hE.glob⟩ hx k
def gslot (all:List Oper) (j:Nat):Option Nat:=match lget all j with
 | some oj=>oj.dst
 | none=>none
def skipN (N:Nat) (d:Option Nat) (top:RE) (K:RE→Prop):Prop:=match d with
 | some d=>match Nat.blt d N with
   | true=>K ((d,.v (.tup []))::top)
   | false=>False
 | none=>K top
def putS (N:Nat) (d:Option Nat) (v:Option RG) (top:RE) (K:RE→Prop):Prop:=match d with
 | some d=>match v with
   | some v=>match Nat.blt d N with
     | true=>K ((d,v)::top)
     | false=>False
   | none=>False
 | none=>False
def pickN [Glob] (N:Nat) (bot:RE) (d:Option Nat) (c x y:Operand) (top:RE) (K:RE→Prop):Prop:=match evR top bot c with
 | some (.lit true)=>putS N d (evR top bot x) top K
 | some (.lit false)=>putS N d (evR top bot y) top K
 | some (.v (.bool b))=>IfN b (putS N d (evR top bot x) top K) (putS N d (evR top bot y) top K)
 | _=>False
def opN [Glob] (P:Program) (kn:TypeId→Nat) (T:TypeId→Option TI) (N:FN) (n0:Nat) (bot:RE) (o:Oper) (base:Heap) (k:Nat) (loc:Heap) (K:RE→Heap→Nat→Heap→Prop) (top:RE):Prop :=
 match o.op with
 | .pick c x y=>pickN N.n bot o.dst c x y top fun top=>K top base k loc
 | op=>wpS P n0 base k loc (fun v base k loc=>putN N.n o.dst v top fun top=>K top base k loc) (stepS kn T n0 top bot loc op)
def guardN (bot:RE) (all:List Oper) (o:Oper) (top:RE) (ex sk:RE→Prop):Prop :=
 match o.guard with
 | none=>ex top
 | some (j,want)=>match gslot all j with
   | some d=>match rget2 top bot d with
     | some (.lit true)=>(match want with
       | true=>ex top
       | false=>sk top)
     | some (.lit false)=>(match want with
       | true=>sk top
       | false=>ex top)
     | some (.v (.bool b))=>(match want with
       | true=>IfN b (ex ((d,.lit true)::top)) (sk ((d,.lit false)::top))
       | false=>IfN b (sk ((d,.lit true)::top)) (ex ((d,.lit false)::top)))
     | some (.v (.tup []))=>sk top
     | _=>False
   | none=>False
/- written by recursors: so that the kernel's own way through it and Lean's come to the same terms -/
def wpO [Glob] (P:Program) (kn:TypeId→Nat) (T:TypeId→Option TI) (N:FN) (n0:Nat) (bot:RE) (all l:List Oper) (K:RE→Heap→Nat→Heap→Prop):RE→Heap→Nat→Heap→Prop :=
 @List.rec Oper (fun _=>RE→Heap→Nat→Heap→Prop) K
  (fun o _ ih top base k loc=>guardN bot all o top
   (opN P kn T N n0 bot o base k loc ih)
   (fun top=>skipN N.n o.dst top fun top=>ih top base k loc)) l
theorem lit_get {top bot:RE} {d:Nat} {b:Bool} (h:rget2 top bot d=some (.v (.bool b))) (s:Nat):get (trE n0 (top++bot)) s=get (trE n0 ((d,.lit b)::top++bot)) s:=by
 simp only [List.cons_append,trE]
 by_cases hs:d=s
 ·subst hs
  rw [get_put_same,rget2_get h];rfl
 ·rw [get_put_ne _ _ hs]
theorem gd_some {all:List Oper} {o:Oper} {j:Nat} {want:Bool} {top bot:RE} {d:Nat} {v:RG} {b:Bool} (hg:o.guard=some (j,want)) (hs:gslot all j=some d) (hv:rget2 top bot d=some v) (hb:tr n0 v=.bool b) :
  gd all (trE n0 (top++bot)) o=some (bb want b):=by
 unfold gd
 simp only [hg]
 unfold gslot at hs
 cases hl:lget all j with
 | none=>simp [hl] at hs
 | some oj =>
   simp only [hl] at hs
   simp only [hs,rget2_get hv,hb]
theorem guard_cases {all:List Oper} {o:Oper} {top bot:RE} {ex sk:RE→Prop} (h:guardN bot all o top ex sk) :
  ∃ top',(∀ s,get (trE n0 (top++bot)) s=get (trE n0 (top'++bot)) s)∧((gd all (trE n0 (top'++bot)) o=some true∧ex top')∨(gd all (trE n0 (top'++bot)) o=some false∧sk top')):=by
 unfold guardN at h
 split at h
 ·rename_i hg
  exact ⟨top,fun _=>rfl,.inl ⟨by unfold gd;simp [hg],h⟩⟩
 ·rename_i j want hg
  split at h
  ·rename_i d hs
   split at h
   ·rename_i hv
    have hgd:=gd_some (n0:=n0) hg hs hv rfl
    cases want with
    | true=>exact ⟨top,fun _=>rfl,.inl ⟨hgd,h⟩⟩
    | false=>exact ⟨top,fun _=>rfl,.inr ⟨hgd,h⟩⟩
   ·rename_i hv
    have hgd:=gd_some (n0:=n0) hg hs hv rfl
    cases want with
    | true=>exact ⟨top,fun _=>rfl,.inr ⟨hgd,h⟩⟩
    | false=>exact ⟨top,fun _=>rfl,.inl ⟨hgd,h⟩⟩
   ·rename_i b hv
    have hl:∀ c,rget2 ((d,RG.lit c)::top) bot d=some (.lit c):=fun c=>by simp [rget2,rgetO]
    have hgd:∀ c,gd all (trE n0 (((d,RG.lit c)::top)++bot)) o=some (bb want c):=fun c=>gd_some (n0:=n0) hg hs (hl c) rfl
    cases want with
    | true =>
      cases b with
      | true=>exact ⟨_,lit_get hv,.inl ⟨hgd true,h.t rfl⟩⟩
      | false=>exact ⟨_,lit_get hv,.inr ⟨hgd false,h.f rfl⟩⟩
    | false =>
      cases b with
      | true=>exact ⟨_,lit_get hv,.inr ⟨hgd true,h.t rfl⟩⟩
      | false=>exact ⟨_,lit_get hv,.inl ⟨hgd false,h.f rfl⟩⟩
   ·rename_i hv
    refine ⟨top,fun _=>rfl,.inr ⟨?_,h⟩⟩
    unfold gd
    simp only [hg]
    unfold gslot at hs
    cases hl:lget all j with
    | none=>simp [hl] at hs
    | some oj =>
      simp only [hl] at hs
      simp only [hs,rget2_get hv,tr]
   ·exact h.elim
  ·exact h.elim
theorem putS_some {d:Option Nat} {v:Option RG} {top:RE} {K:RE→Prop} (h:putS N.n d v top K):∃ d' v',d=some d'∧v=some v'∧Nat.blt d' N.n=true∧K ((d',v')::top):=by
 unfold putS at h
 split at h
 ·split at h
  ·split at h
   ·rename_i hb;exact ⟨_,_,rfl,rfl,hb,h⟩
   ·exact h.elim
  ·exact h.elim
 ·exact h.elim
theorem pick_cases [Glob] {bot:RE} {d:Option Nat} {c x y:Operand} {top:RE} {K:RE→Prop} (h:pickN N.n bot d c x y top K) :
  ∃ b,ev (trE n0 (top++bot)) c=.bool b∧putS N.n d (evR top bot (if b then x else y)) top K:=by
 unfold pickN at h
 split at h
 ·rename_i hc;exact ⟨true,evR_ev hc,h⟩
 ·rename_i hc;exact ⟨false,evR_ev hc,h⟩
 ·rename_i b hc
  refine ⟨b,evR_ev hc,?_⟩
  cases b with
  | true=>exact h.t rfl
  | false=>exact h.f rfl
 ·exact h.elim
theorem pick_step [Glob] {env:Env} {hp:Hp} {o:Oper} {c x y:Operand} {b:Bool} (ho:o.op=.pick c x y) (hc:ev env c=.bool b):Step P N hp env o (ev env (if b then x else y)) hp:=by
 cases b with
 | true=>exact st_pick_t ho hc nf_ne
 | false=>exact st_pick_f ho hc nf_ne
theorem wpO_sound [Glob] (he:Env0 P T kn) {bot:RE} {all:List Oper} {Q:Env→Hp→Prop} {K:RE→Heap→Nat→Heap→Prop}
  (hK:∀ top base k loc,base.length=n0→K top base k loc→Q (trE n0 (top++bot)) ⟨base,k,loc⟩) :
  ∀ (rest:List Oper) (top:RE) (base:Heap) (k:Nat) (loc:Heap),base.length=n0→wpO P kn T N n0 bot all rest K top base k loc→VO P N all rest Q (trE n0 (top++bot)) ⟨base,k,loc⟩
 | [],top,base,k,loc,hn,h=>vo_nil (hK _ _ _ _ hn h)
 | o::rest,top,base,k,loc,hn,h=>by
   have ih:=wpO_sound he (bot:=bot) (all:=all) hK rest
   have h:guardN bot all o top (opN P kn T N n0 bot o base k loc (wpO P kn T N n0 bot all rest K))
    (fun top=>skipN N.n o.dst top fun top=>wpO P kn T N n0 bot all rest K top base k loc):=h
   obtain ⟨top',he',h1⟩:=guard_cases (n0:=n0) h
   refine vo_env (env':=trE n0 (top'++bot)) ?_ (fun s=>Wk.of_eq (he' s))
   rcases h1 with ⟨hg,hx⟩|⟨hg,hx⟩
   ·unfold opN at hx
    split at hx
    ·rename_i c x y ho
     obtain ⟨b,hc,hp⟩:=pick_cases hx
     obtain ⟨d,v,hd,hv,hb,hk⟩:=putS_some hp
     have:=pick_step (P:=P) (N:=N) (hp:=⟨base,k,loc⟩) ho hc
     rw [evR_ev hv] at this
     exact vo_step this hg hd hb (ih _ _ _ _ hn hk)
    ·exact vo_R he hn hg hx (fun top base k loc hn h=>ih top base k loc hn h)
   ·unfold skipN at hx
    split at hx
    ·rename_i d hd
     split at hx
     ·rename_i hb
      exact vo_skipped hg hd hb (ih _ _ _ _ hn hx)
     ·exact hx.elim
    ·rename_i hd
     exact vo_skippedU hg hd (ih _ _ _ _ hn hx)
def closOf (all:List Oper):List Nat :=
 all.foldl (fun acc o=>acc++[o.after.toList.foldl (fun m e=>if Region.binds .any e then m ||| 1 <<< e.on ||| acc.getD e.on 0 else m) 0]) []
inductive CallD [Glob] (W:List Nat) (P:Program) (F:Fn) (as:List AV) (n0:Nat) (base loc0 b1 loc:Heap) (K:AV→Prop) (K3 K4:AV→Heap→Nat→Heap→Prop):Prop where
 | det (v:AV) (h:∀ l1,Tq W loc0 l1→∀ X:Heap,VFn P F as (base++l1++X) fun r H'=>H'=base++l1++X∧r=v) (a:K v)
 | fix (v:AV) (b2 loc2:Heap) (k2:Nat) (h:VFn P F as (b1++loc) fun r H'=>r=v∧H'=b2++loc2) (hb:b2.length=n0) (hk:loc2.length=k2) (a:K3 v b2 k2 loc2)
 | app (v:AV) (X loc2:Heap) (x:Nat) (h:VFn P F as (b1++loc) fun r H'=>r=v∧H'=b1++loc2) (hb:b1.length=n0) (hl:loc++X=loc2) (hx:X.length=x) (a:K4 v b1 x loc2)
 | setW (j:Nat) (B:Blk) (v:AV) (loc2:Heap) (hj:inW W j=true) (hs:lset loc j B=some loc2) (h:VFn P F as (b1++loc) fun r H'=>r=v∧H'=b1++loc2) (hb:b1.length=n0) (a:K4 v b1 0 loc2)
inductive DM where
 | pure
 | mk
 | store
 | app
def dBase (st:DM) (base b1:Heap):Heap:=match st with
 | .pure=>base
 | .mk=>base
 | .store=>b1
 | .app=>b1
def tokAt (loc:Heap) (j:Nat) (B:Blk):Bool:=match lget loc j with
 | some C=>match C with
   | .tok e sz _=>match B with
     | .tok e' sz' _=>match Nat.beq e e' with
       | true=>Nat.beq sz sz'
       | false=>false
     | _=>false
   | _=>false
 | none=>false
theorem tokAt_spec {loc:Heap} {j:Nat} {B:Blk} (h:tokAt loc j B=true):∃ C,lget loc j=some C∧Tq1 C B∧C.isTok=true:=by
 unfold tokAt at h
 split at h
 ·rename_i C hC
  split at h
  ·rename_i e sz n
   split at h
   ·rename_i e' sz' n'
    split at h
    ·rename_i he
     exact ⟨_,hC,.inr ⟨e,sz,n,n',rfl,by rw [Nat.eq_of_beq_eq_true he,Nat.eq_of_beq_eq_true h]⟩,rfl⟩
    ·cases h
   ·cases h
  ·cases h
 ·cases h
def wpSD [Glob] (W:List Nat) (st:DM) (P:Program) (n0:Nat) (base loc0 b1:Heap) (k:Nat) (loc:Heap) (K:Nat→Option RG→Heap→Nat→Heap→Prop) (s:SR):Prop :=
 @SR.rec (fun _=>Prop) False
  (fun v=>K 0 (some v) b1 k loc)
  (fun v=>match st with
   | .pure=>K 1 (some v) b1 k loc
   | .mk=>K 1 (some v) b1 k loc
   | .app=>False
   | .store=>False)
  (fun t l=>match snocC loc (.box t l) with
   | some loc'=>K 2 (some (.lp k 0)) b1 (k+1) loc'
   | none=>False)
  (fun j B v=>match st with
   | .store=>match v with
     | none=>match lset loc j B with
       | some loc'=>match inW W j with
         | true=>K 4 none b1 k loc'
         | false=>K 3 none b1 k loc'
       | none=>False
     | some _=>False
   | .app=>match v with
     | none=>False
     | some v=>match tokAt loc j B with
       | false=>False
       | true=>match lset loc j B with
         | some loc'=>K 4 (some v) b1 k loc'
         | none=>False
   | .pure=>False
   | .mk=>False)
  (fun i B v=>match st with
   | .store=>match v with
     | none=>SetN b1 i B fun b2=>K 3 none b2 k loc
     | some _=>False
   | .app=>match v with
     | some v=>SetN b1 i B fun b2=>K 3 (some v) b2 k loc
     | none=>False
   | .pure=>False
   | .mk=>False)
  (fun B v=>match st with
   | .app=>match snocC loc B with
     | some loc'=>K 4 (some (v k)) b1 (k+1) loc'
     | none=>False
   | .mk=>match B with
     | .box _ _=>match snocC loc B with
       | some loc'=>K 2 (some (v k)) b1 (k+1) loc'
       | none=>False
     | _=>False
   | .pure=>False
   | .store=>False)
  (fun p _ ih=>SideN p ih)
  (fun i _ _ ihl ihb=>PtrN n0 (dBase st base b1) i ihl ihb)
  (fun l o _ ih=>SegN l o ih)
  (fun i n _ ih=>OfsN i n ih)
  (fun x _ ih=>EqN x ih)
  (fun l o n _ ih=>SubN l o n ih)
  (fun i _ ih=>NatN i ih)
  (fun s i _ ih=>ByteN s i ih)
  (fun _ _ iha ihb=>OrN iha ihb)
  (fun fn as=>match st with
   | .pure=>CallD W P fn as n0 base loc0 b1 loc (fun r=>K 1 (some (.v r)) b1 k loc) (fun r b2 k2 loc2=>K 3 (some (.v r)) b2 k2 loc2) (fun r b2 x loc2=>K 4 (some (.v r)) b2 (k+x) loc2)
   | .app=>False
   | .mk=>False
   | .store=>False)
  (fun S _ ih=>RelN S ih)
  (fun _ _=>False)
  (fun _ _=>False)
  (fun _=>False) s
def dmOf:Op→DM
 | .store _ _ _=>.store
 | .mapUpdate _ _ _ _=>.store
 | .insert _ _ _ _=>.store
 | .range _ _=>.store
 | .next _ _=>.store
 | .entry _=>.store
 | .mapEntry _ _ _=>.store
 | .entryStore _ _ _ _=>.store
 | .makeSlice _ _ _=>.mk
 | .call { callee:=.builtin .append,.. }=>.app
 | _=>.pure
def rdOk [Glob] (W:List Nat) (top bot:RE) (op:Op):Bool:=match W with
 | []=>true
 | w::W=>match op with
   | .load _ x=>match evR top bot x with
     | some (.lp j _)=>match inW (w::W) j with
       | true=>false
       | false=>true
     | some (.v (.rptr _))=>true
     | _=>false
   | .lookup _ _ _ _=>false
   | .indexAddr _ x _=>match evR top bot x with
     | some (.v (.vs _ _))=>false
     | _=>true
   | _=>true
def rdP (W:List Nat):Option RG→Prop
 | some (.lp j _)=>inW W j=false
 | some (.v (.ptr _ _))=>W=[]
 | some (.v (.vp _ _ _))=>W=[]
 | _=>True
theorem rdOk_load [Glob] {W:List Nat} {top bot:RE} {t:TypeId} {x:Operand} (h:rdOk W top bot (.load t x)=true):rdP W (evR top bot x):=by
 cases W with
 | nil =>
   unfold rdP
   split
   ·rfl
   ·rfl
   ·rfl
   ·trivial
 | cons w W =>
   simp only [rdOk] at h
   split at h
   ·rename_i j o he
    rw [he]
    simp only [rdP]
    cases hj:inW (w::W) j with
    | true=>simp [hj] at h
    | false=>rfl
   ·rename_i l he
    rw [he]
    trivial
   ·cases h
theorem rdOk_lookup [Glob] {W:List Nat} {top bot:RE} {t:TypeId} {x y:Operand} {ok:Bool} (h:rdOk W top bot (.lookup t x y ok)=true):W=[]:=by
 cases W with
 | nil=>rfl
 | cons w W=>simp [rdOk] at h
theorem loadS_tq {W:List Nat} {T:TypeId→Option TI} {t:TypeId} {loc l1:Heap} (h:Tq W loc l1):∀ r:Option RG,rdP W r→loadS T t loc r=loadS T t l1 r
 | some (.lp j o),hr=>by
   simp only [loadS]
   rcases h.at_ j hr with ⟨h1,h2⟩|⟨B,C,h1,h2,h3⟩
   ·rw [h1,h2]
   ·rcases h3 with rfl|⟨e,sz,n,n',rfl,rfl⟩
    ·rw [h1,h2]
    ·rw [h1,h2]
 | some (.v a),hr=>by
   cases a with
   | ptr i o =>
     have hr:W=[]:=hr
     subst hr
     simp only [loadS]
     congr 1
     funext j
     rcases h.at_ j rfl with ⟨h1,h2⟩|⟨B,C,h1,h2,h3⟩
     ·rw [h1,h2]
     ·rcases h3 with rfl|⟨e,sz,n,n',rfl,rfl⟩
      ·rw [h1,h2]
      ·rw [h1,h2]
   | vp i n o =>
     have hr:W=[]:=hr
     subst hr
     simp only [loadS]
     congr 1
     funext j
     rcases h.at_ j rfl with ⟨h1,h2⟩|⟨B,C,h1,h2,h3⟩
     ·rw [h1,h2]
     ·rcases h3 with rfl|⟨e,sz,n,n',rfl,rfl⟩
      ·rw [h1,h2]
      ·rw [h1,h2]
       rfl
   | _=>rfl
 | some (.lit _),_=>rfl
 | none,_=>rfl
theorem lookupS_tq {kn:TypeId→Nat} {T:TypeId→Option TI} {t:TypeId} {loc l1:Heap} {ok:Bool} {m k:AV} (h:Tq [] loc l1):lookupS kn T t loc ok m k=lookupS kn T t l1 ok m k:=by
 unfold lookupS
 split
 ·split
  ·split
   ·split
    ·congr 1
     funext j
     rcases h.at_ j rfl with ⟨h1,h2⟩|⟨B,C,h1,h2,h3⟩
     ·rw [h1,h2]
     ·rcases h3 with rfl|⟨e,sz,n,n',rfl,rfl⟩
      ·rw [h1,h2]
      ·rw [h1,h2]
    ·rfl
    ·rfl
    ·rfl
   ·rfl
  ·rfl
 ·rfl
theorem rdOk_index [Glob] {W:List Nat} {top bot:RE} {t:TypeId} {x y:Operand} {i n:Nat} (h:rdOk W top bot (.indexAddr t x y)=true) (he:evR top bot x=some (.v (.vs i n))):W=[]:=by
 cases W with
 | nil=>rfl
 | cons w W=>simp [rdOk,he] at h
theorem indexX_tq {W:List Nat} {T:TypeId→Option TI} {t:TypeId} {loc l1:Heap} {y:AV} (h:Tq W loc l1) (r:Option RG) (hr:∀ i n,r=some (.v (.vs i n))→W=[]):indexX T t loc r y=indexX T t l1 r y:=by
 unfold indexX
 split
 ·rename_i i n
  have hr:=hr i n rfl
  subst hr
  congr 1
  funext j
  rcases h.at_ j rfl with ⟨h1,h2⟩|⟨B,C,h1,h2,h3⟩
  ·rw [h1,h2]
  ·rcases h3 with rfl|⟨e,sz,n,n',rfl,rfl⟩
   ·rw [h1,h2]
   ·rw [h1,h2]
    rfl
 ·rfl
theorem stepS_tq [Glob] {kn:TypeId→Nat} {T:TypeId→Option TI} {n0:Nat} {W:List Nat} {top bot:RE} {loc l1:Heap} {op:Op} (h:Tq W loc l1) (hd:dmOf op=.pure) (hr:rdOk W top bot op=true):stepS kn T n0 top bot loc op=stepS kn T n0 top bot l1 op:=by
 unfold stepS
 split
 all_goals first
  | rfl
  | exact loadS_tq h _ (rdOk_load hr)
  | exact indexX_tq h _ (fun i n he=>rdOk_index hr he)
  | (cases hd;done)
  | (obtain rfl:=rdOk_lookup hr;congr 1;funext k;exact lookupS_tq h)
  | fail
def opD [Glob] (W:List Nat) (P:Program) (kn:TypeId→Nat) (T:TypeId→Option TI) (N:FN) (n0:Nat) (bot:RE) (o:Oper) (base loc0 b1:Heap) (k:Nat) (loc:Heap) (K:Nat→RE→Heap→Nat→Heap→Prop) (top:RE):Prop :=
 match o.op with
 | .pick c x y=>pickN N.n bot o.dst c x y top fun top=>K 0 top b1 k loc
 | op=>match dmOf op with
   | .store=>wpSD W .store P n0 base loc0 b1 k loc (fun c v b1 k loc=>putN N.n o.dst v top fun top=>K c top b1 k loc) (stepS kn T n0 top bot loc op)
   | .app=>wpSD W .app P n0 base loc0 b1 k loc (fun c v b1 k loc=>putN N.n o.dst v top fun top=>K c top b1 k loc) (stepS kn T n0 top bot loc op)
   | .mk=>wpSD W .mk P n0 base loc0 b1 k loc (fun c v b1 k loc=>putN N.n o.dst v top fun top=>K c top b1 k loc) (stepS kn T n0 top bot loc0 op)
   | .pure=>match rdOk W top bot op with
     | true=>wpSD W .pure P n0 base loc0 b1 k loc (fun c v b1 k loc=>putN N.n o.dst v top fun top=>K c top b1 k loc) (stepS kn T n0 top bot loc0 op)
     | false=>False
structure DrawN (k:List Nat→Prop) (m m2:Nat→List Nat→Prop):Prop where
 h:(∃ W,k W)∨(∃ i W,m i W)∨∃ i W,m2 i W
theorem DrawN.mk' {k:List Nat→Prop} {m m2:Nat→List Nat→Prop} (W:List Nat) (h:k W):DrawN k m m2:=⟨.inl ⟨W,h⟩⟩
def wpD [Glob] (W:List Nat) (P:Program) (kn:TypeId→Nat) (T:TypeId→Option TI) (N:FN) (n0:Nat) (bot:RE) (all:List Oper) (base loc0:Heap) (l:List Oper) (K:RE→Heap→Nat→Heap→Prop):List Nat→RE→Heap→Nat→Heap→Prop :=
 @List.rec Oper (fun _=>List Nat→RE→Heap→Nat→Heap→Prop)
  (fun ks top b1 k loc=>SideN ((drawOk all (closOf all) (ks.reverse)&&dstOk N.n all)=true) (K top b1 k loc))
  (fun o _ ih ks top b1 k loc=>guardN bot all o top
   (opD W P kn T N n0 bot o base loc0 b1 k loc (fun c top b1 k loc=>ih (c::ks) top b1 k loc))
   (fun top=>skipN N.n o.dst top fun top=>ih (0::ks) top b1 k loc)) l
end
end Go.Vsi
/-! text R5 -/
namespace Go.Vsi
section
variable {P:Program} {N:FN} {n0:Nat} {T:TypeId→Option TI} {kn:TypeId→Nat}
theorem dr_gt [Glob] {I:Hp→Prop} {all rest:List Oper} {ks:List Nat} {o:Oper} {env:Env} {hp hp':Hp} {K:Env→Hp→Prop} {d:Nat} {v:AV} (h1:∀ env',Agree (opTs o.op) env env'→WOk P N hp hp' env' o v) (hX:I hp') (hg:gd all env o=some true) (hd:o.dst=some d)
  (h:DR P N I all rest ks ((d,v)::env) hp' K):DR P N I all (o::rest) (4::ks) env hp K:=by
 refine dr_cons (v:=v) (k:=.w true) (hp':=hp') rfl ?_ (by rw [push_some hd];exact h)
 unfold FOp
 simp only [hg]
 exact ⟨fun _=>hX,fun env' ha=>h1 env' (agree_op ha)⟩
theorem gd_congr {all:List Oper} {o:Oper} {e e':Env} (h:∀ s,get e s=get e' s):gd all e' o=gd all e o:=by
 unfold gd
 simp only [h]
theorem fop_congr [Glob] {I:Hp→Prop} {all:List Oper} {d:DOp} {e e':Env} {hp hp':Hp} (h:∀ s,get e s=get e' s) (hf:FOp P N I all d e hp hp'):FOp P N I all d e' hp hp':=by
 have hag:∀ ts env',Agree ts e' env'→Agree ts e env':=fun ts env' ha t ht=>by rw [ha t ht,h]
 unfold FOp at hf ⊢
 rw [gd_congr h]
 cases hgd:gd all e d.o with
 | none=>simp only [hgd] at hf
 | some b =>
   simp only [hgd] at hf ⊢
   cases b with
   | false=>exact hf
   | true =>
     simp only at hf ⊢
     cases hk:d.k with
     | r=>simp only [hk] at hf ⊢;exact ⟨fun env' ha=>hf.1 env' (hag _ _ ha),hf.2⟩
     | m=>simp only [hk] at hf ⊢;exact ⟨fun env' ha=>hf.1 env' (hag _ _ ha),hf.2⟩
     | a B =>
       simp only [hk] at hf ⊢
       obtain ⟨h1,⟨vf,h2,h3⟩,h4⟩:=hf
       exact ⟨h1,⟨vf,h2,fun env' ha=>h3 env' (hag _ _ ha)⟩,h4⟩
     | w=>simp only [hk] at hf ⊢;exact ⟨hf.1,fun env' ha=>hf.2 env' (hag _ _ ha)⟩
theorem df_congr [Glob] {I:Hp→Prop} {all:List Oper} {K:Env→Hp→Prop} (hK:∀ e1 e2 hp,(∀ s,get e1 s=get e2 s)→K e1 hp→K e2 hp):∀ {ds:List DOp} {e e':Env} {hp:Hp},(∀ s,get e s=get e' s)→DF P N I all ds e hp K→DF P N I all ds e' hp K
 | [],e,e',hp,h,hd=>hK e e' hp h hd
 | d::ds,e,e',hp,h,⟨hp',h1,h2⟩=>by
   refine ⟨hp',fop_congr h h1,df_congr hK (fun s=>?_) h2⟩
   rw [get_push,get_push,h]
theorem dr_congr [Glob] {I:Hp→Prop} {all rest:List Oper} {ks:List Nat} {K:Env→Hp→Prop} {e e':Env} {hp:Hp} (hK:∀ e1 e2 hp,(∀ s,get e1 s=get e2 s)→K e1 hp→K e2 hp) (h:∀ s,get e s=get e' s) (hd:DR P N I all rest ks e hp K):DR P N I all rest ks e' hp K:=by
 obtain ⟨ds,h1,h2,h3⟩:=hd
 exact ⟨ds,h1,h2,df_congr hK h h3⟩
def restrR (ts:List Nat) (top bot:RE):RE:=ts.filterMap fun t=>(rget2 top bot t).map fun v=>(t,v)
theorem restrR_get {top bot:RE} {t:Nat}:∀ {ts:List Nat},rgetO (restrR ts top bot) t=if t∈ts then rget2 top bot t else none
 | []=>by simp [restrR,rgetO]
 | s::ts=>by
   have ih:=restrR_get (top:=top) (bot:=bot) (t:=t) (ts:=ts)
   unfold restrR at ih ⊢
   rw [List.filterMap_cons]
   by_cases hst:s=t
   ·subst hst
    cases hv:rget2 top bot s with
    | none =>
      simp only [hv,Option.map_none]
      rw [ih]
      simp [hv]
    | some v=>simp [rgetO,hv]
   ·cases hv:rget2 top bot s with
    | none=>simp only [hv,Option.map_none];rw [ih];simp [Ne.symm hst]
    | some v =>
      have hb:Nat.beq s t=false:=by
       cases hb:Nat.beq s t
       ·rfl
       ·exact absurd (Nat.eq_of_beq_eq_true hb) hst
      simp only [hv,Option.map_some,rgetO,hb,ih,List.mem_cons,Ne.symm hst,false_or]
theorem restr_apx [Glob] {g:G} {w:World} {a:Act} {ts:List Nat} {top bot:RE} {env':Env} (ha:Agree ts (trE n0 (top++bot)) env') (hE:ERel N g w env' a):ERel N g w (trE n0 (restrR ts top bot++[])) a:=by
 refine ⟨hE.1,fun s=>?_,hE.ro,hE.glob⟩
 cases hv:rgetO (restrR ts top bot) s with
 | none =>
   rw [List.append_nil]
   have:=rgetO_none (n0:=n0) hv []
   simp only [List.append_nil] at this
   rw [this]
   simp [get,VRel]
 | some v =>
   have h1:=rgetO_get (n0:=n0) hv []
   simp only [List.append_nil] at h1
   rw [List.append_nil,h1]
   rw [restrR_get] at hv
   split at hv
   ·rename_i hs
    rw [← rget2_get hv,← ha s hs]
    exact hE.rel s
   ·cases hv
theorem restr_ev [Glob] {ts:List Nat} {top bot:RE} {x:Operand} (hx:∀ t,x=.tmp t→t∈ts):evR (restrR ts top bot) [] x=evR top bot x:=by
 cases x with
 | tmp t =>
   change (match rgetO (restrR ts top bot) t with
    | some v=>some v
    | none=>rgetO [] t)=rget2 top bot t
   rw [restrR_get,if_pos (hx t rfl)]
   cases rget2 top bot t <;> rfl
 | const c=>rfl
 | func f=>rfl
 | global g=>rfl
theorem restr_op [Glob] {top bot:RE} {op:Op} {x:Operand} (hx:x∈op.operands.toList):evR (restrR (opTs op) top bot) [] x=evR top bot x :=
 restr_ev fun t ht=>by
  subst ht
  unfold opTs
  exact List.mem_filterMap.2 ⟨_,hx,rfl⟩
theorem avF_congr [Glob] {t1 b1 t2 b2:RE} {x:Operand} (h:evR t1 b1 x=evR t2 b2 x):avF n0 t1 b1 x=avF n0 t2 b2 x:=by unfold avF;rw [h]
theorem avLF_congr [Glob] {t1 b1 t2 b2:RE}:∀ {l:List Operand},(∀ x∈l,evR t1 b1 x=evR t2 b2 x)→avLF n0 t1 b1 l=avLF n0 t2 b2 l
 | [],_=>rfl
 | x::l,h=>by simp only [avLF];rw [avF_congr (h x (by simp)),avLF_congr fun y hy=>h y (by simp [hy])]
theorem avPF_congr [Glob] {t1 b1 t2 b2:RE}:∀ {l:List (Nat×Operand)},(∀ p∈l,evR t1 b1 p.2=evR t2 b2 p.2)→avPF n0 t1 b1 l=avPF n0 t2 b2 l
 | [],_=>rfl
 | (i,x)::l,h=>by simp only [avPF];rw [avF_congr (h (i,x) (by simp)),avPF_congr fun y hy=>h y (by simp [hy])]
theorem stepS_restr [Glob] {top bot:RE} {loc:Heap} {op:Op}:stepS kn T n0 (restrR (opTs op) top bot) [] loc op=stepS kn T n0 top bot loc op:=by
 have ea:∀ x,x∈op.operands.toList→evR (restrR (opTs op) top bot) [] x=evR top bot x:=fun x hx=>restr_op hx
 generalize restrR (opTs op) top bot=top' at ea ⊢
 have ea':∀ x,x∈op.operands.toList→av n0 top' [] x=av n0 top bot x:=fun x hx=>by unfold av;rw [ea x hx]
 unfold stepS
 split <;> try simp only [Op.operands,Call.operands] at ea ea'
 ·rw [ea _ (by simp)]
 ·rw [ea _ (by simp)]
 ·rename_i op t x y u;rw [ea' x (by simp),ea' y (by simp)]
 ·rw [ea' _ (by simp)]
 ·rw [ea' _ (by simp)]
 ·rw [ea' _ (by simp)]
 ·rw [ea' _ (by simp)]
 ·rw [ea' _ (by simp)]
 ·rw [ea _ (by simp)]
 ·rw [ea' _ (by simp)]
 ·rw [ea _ (by simp)]
 ·rw [ea _ (by simp)]
 ·rename_i t x y;rw [ea x (by simp),avF_congr (ea y (by simp))]
 ·rfl
 ·rw [avF_congr (ea _ (by simp))]
 ·rename_i t ps
  rw [avPF_congr fun p hp=>ea p.2 (by simp only [List.mem_map];exact ⟨p,hp,rfl⟩)]
 ·rename_i t n ps
  rw [avPF_congr fun p hp=>ea p.2 (by simp only [List.mem_map];exact ⟨p,hp,rfl⟩)]
 ·rename_i t x y;rw [ea x (by simp),ea' y (by simp)]
 ·rename_i fn fs cs
  rw [avLF_congr (l:=fs) fun x hx=>ea x (by simp;exact .inl hx),avLF_congr (l:=cs) fun x hx=>ea x (by simp;exact .inr hx)]
 ·rename_i t x low high max
  have ho:∀ q:Option Operand,(∀ y,q=some y→y∈(x::(low.toList++(high.toList++max.toList))))→avO n0 top' [] q=avO n0 top bot q:=fun q hq=>by
   cases q with
   | none=>rfl
   | some y=>simp only [avO];rw [ea' y (by have:=hq y rfl;simpa using this)]
  rw [ea' x (by simp),ho low (by intro y hy;simp [hy]),ho high (by intro y hy;simp [hy]),ho max (by intro y hy;simp [hy])]
 ·rename_i t x y;rw [ea' x (by simp),ea' y (by simp)]
 ·rename_i t x y;rw [ea' x (by simp),ea' y (by simp)]
 ·rfl
 ·rename_i t x y ok;rw [ea' x (by simp),avF_congr (ea y (by simp))]
 ·rename_i t x y z;rw [ea' x (by simp),avF_congr (ea y (by simp)),avF_congr (ea z (by simp))]
 ·rename_i t x y z;rw [ea' x (by simp),avF_congr (ea y (by simp)),avF_congr (ea z (by simp))]
 ·rw [ea' _ (by simp)]
 ·rw [ea _ (by simp)]
 ·rw [ea _ (by simp)]
 ·rename_i t x y;rw [ea' x (by simp),avF_congr (ea y (by simp))]
 ·rename_i t x y z;rw [ea' x (by simp),ea' y (by simp),avF_congr (ea z (by simp))]
 ·rw [ea' _ (by simp)]
 ·rename_i x y t u;rw [ea' x (by simp),ea' y (by simp)]
 ·rename_i x y ts;rw [ea' x (by simp),ea' y (by simp)]
 ·rename_i x y ts;rw [ea' x (by simp),ea' y (by simp)]
 ·rename_i f xs ts
  rw [avLF_congr (l:=xs) fun x hx=>ea x (by simp;exact .inr hx),ea' f (by simp)]
 ·rfl
theorem step_restr [Glob] {hp hp':Hp} {o:Oper} {v:AV} {top bot:RE} {env':Env} (ha:Agree (opTs o.op) (trE n0 (top++bot)) env') (h:Step P N hp (trE n0 (restrR (opTs o.op) top bot++[])) o v hp'):Step P N hp env' o v hp' :=
 fun g w a hH hE=>h g w a hH (restr_apx ha hE)
theorem wpSD_leaf [Glob] {W:List Nat} {st:DM} {base loc0 b1:Heap} {k:Nat} {loc:Heap} {K:Nat→Option RG→Heap→Nat→Heap→Prop}:∀ (s:SR),wpSD W st P n0 base loc0 b1 k loc K s→∃ r,Res n0 (dBase st base b1) s r∧leaf r=true∧wpSD W st P n0 base loc0 b1 k loc K r
 | .fail,h=>h.elim
 | .reg v,h=>⟨_,.refl _,rfl,h⟩
 | .mem v,h=>⟨_,.refl _,rfl,h⟩
 | .box t l,h=>⟨_,.refl _,rfl,h⟩
 | .upd j B v,h=>⟨_,.refl _,rfl,h⟩
 | .updB i B v,h=>⟨_,.refl _,rfl,h⟩
 | .blk B v,h=>⟨_,.refl _,rfl,h⟩
 | .call f as,h=>⟨_,.refl _,rfl,h⟩
 | .anyU j S,h=>h.elim
 | .blkU S v,h=>h.elim
 | .anyV S,h=>h.elim
 | .rel S kk,h=>by
   obtain ⟨y,z,h1,h2⟩:=h
   obtain ⟨r,h3,h4⟩:=wpSD_leaf (kk y z) h2
   exact ⟨r,.rel h1 h3,h4⟩
 | .side p s,h=>by
   obtain ⟨r,h1,h2⟩:=wpSD_leaf s h.rest
   exact ⟨r,.side h.side h1,h2⟩
 | .ptr i kl kb,h=>by
   cases h with
   | loc j h1 h2 =>
     obtain ⟨r,h3,h4⟩:=wpSD_leaf (kl j) h2
     exact ⟨r,.ptrL h1 h3,h4⟩
   | base B h1 h2 =>
     obtain ⟨r,h3,h4⟩:=wpSD_leaf (kb B) h2
     exact ⟨r,.ptrB h1 h3,h4⟩
 | .seg l o kk,h=>by
   obtain ⟨l',h1,h2⟩:=h
   obtain ⟨r,h3,h4⟩:=wpSD_leaf (kk l') h2
   exact ⟨r,.seg h1 h3,h4⟩
 | .ofs i n kk,h=>by
   obtain ⟨m,h1,h2,h3⟩:=h
   obtain ⟨r,h4,h5⟩:=wpSD_leaf (kk m) h3
   exact ⟨r,.ofs h1 h2 h4,h5⟩
 | .eqv x kk,h=>by
   obtain ⟨y,h1,h2⟩:=h
   obtain ⟨r,h3,h4⟩:=wpSD_leaf (kk y) h2
   exact ⟨r,.eqv h1 h3,h4⟩
 | .sub l o n kk,h=>by
   obtain ⟨y,h1,h2⟩:=h
   obtain ⟨r,h3,h4⟩:=wpSD_leaf (kk y) h2
   exact ⟨r,.sub h1 h3,h4⟩
 | .nat i kk,h=>by
   obtain ⟨y,h1,h2⟩:=h
   obtain ⟨r,h3,h4⟩:=wpSD_leaf (kk y) h2
   exact ⟨r,.nat h1 h3,h4⟩
 | .byte s i kk,h=>by
   obtain ⟨y,h1,h2⟩:=h
   obtain ⟨r,h3,h4⟩:=wpSD_leaf (kk y) h2
   exact ⟨r,.byte h1 h3,h4⟩
 | .or a b,h=>by
   rcases h with h|h
   ·obtain ⟨r,h3,h4⟩:=wpSD_leaf a h
    exact ⟨r,.orl h3,h4⟩
   ·obtain ⟨r,h3,h4⟩:=wpSD_leaf b h
    exact ⟨r,.orr h3,h4⟩
theorem putN_reg {d:Option Nat} {v:RG} {top:RE} {K:RE→Prop} (h:putN N.n d (some v) top K):∃ d',d=some d'∧Nat.blt d' N.n=true∧K ((d',v)::top):=by
 unfold putN at h
 split at h
 ·simp only at h
  split at h
  ·rename_i hb;exact ⟨_,rfl,hb,h⟩
  ·exact h.elim
 ·exact h.elim
theorem putN_none {d:Option Nat} {top:RE} {K:RE→Prop} (h:putN N.n d none top K):d=none∧K top:=by
 unfold putN at h
 split at h
 ·exact h.elim
 ·exact ⟨rfl,h⟩
def Tame (W:List Nat) (loc0:Heap) (k0:Nat) (loc:Heap) (k:Nat):Prop:=∃ l1 X,Tq W loc0 l1∧loc=l1++X∧k=k0+X.length
def IW (W:List Nat) (base:Heap) (k0:Nat) (loc0:Heap):Hp→Prop:=fun hp=>∃ l1 X,Tq W loc0 l1∧hp=⟨base,k0+X.length,l1++X⟩
theorem Tame.refl (W:List Nat) (loc:Heap) (k:Nat):Tame W loc k loc k:=⟨loc,[],Tq.refl _,by simp,by simp⟩
theorem Tame.iw {W:List Nat} {base loc0 loc:Heap} {k0 k:Nat} (h:Tame W loc0 k0 loc k):IW W base k0 loc0 ⟨base,k,loc⟩:=by
 obtain ⟨l1,X,hq,rfl,rfl⟩:=h
 exact ⟨l1,X,hq,rfl⟩
theorem Tame.snoc {W:List Nat} {loc0 loc loc':Heap} {k0 k:Nat} {B:Blk} (h:Tame W loc0 k0 loc k) (hl:snocC loc B=some loc'):Tame W loc0 k0 loc' (k+1):=by
 obtain ⟨l1,X,hq,rfl,rfl⟩:=h
 exact ⟨l1,X++[B],hq,by rw [snocC_eq _ _ _ hl,List.append_assoc],by simp;omega⟩
theorem Tame.set {W:List Nat} {loc0 loc loc':Heap} {k0 k j:Nat} {B:Blk} (h:Tame W loc0 k0 loc k) (hj:inW W j=false→tokAt loc j B=true) (hl:lset loc j B=some loc'):Tame W loc0 k0 loc' k:=by
 obtain ⟨l1,X,hq,rfl,rfl⟩:=h
 rw [(lset_eq _ _ _ _ hl).1]
 rcases Nat.lt_or_ge j l1.length with h|h
 ·rw [List.set_append_left _ _ h]
  cases hw:inW W j with
  | true=>exact ⟨l1.set j B,X,hq.set (B:=B) j (fun e=>by rw [hw] at e;cases e),rfl,rfl⟩
  | false =>
    obtain ⟨C,hC,h1,h2⟩:=tokAt_spec (hj hw)
    refine ⟨l1.set j B,X,hq.set (B:=C) j (fun _=>⟨?_,h1,h2⟩),rfl,rfl⟩
    rw [lget_eq] at hC ⊢
    rwa [List.getElem?_append_left h] at hC
 ·rw [List.set_append_right _ _ h]
  exact ⟨l1,X.set (j-l1.length) B,hq,rfl,by simp⟩
theorem dr_R [Glob] (he:Env0 P T kn) {W:List Nat} {st:DM} {base loc0 b1:Heap} {k0 k:Nat} {loc locS:Heap} (hn:base.length=n0) (hn1:b1.length=n0) {all rest:List Oper} {o:Oper} {top bot:RE} {K':Env→Hp→Prop} {K:Nat→RE→Heap→Nat→Heap→Prop}
  (hg:gd all (trE n0 (top++bot)) o=some true) (hS:locS=match st with
   | .pure=>loc0
   | .mk=>loc0
   | .store=>loc
   | .app=>loc) (hst:st=.pure→dmOf o.op=.pure∧rdOk W top bot o.op=true) (hmk:st=.mk→∃ t x y,o.op=.makeSlice t x y)
  (h:wpSD W st P n0 base loc0 b1 k loc (fun c v b1 k loc=>putN N.n o.dst v top fun top=>K c top b1 k loc) (stepS kn T n0 top bot locS o.op))
  : ∃ c top' b2 k' loc',b2.length=n0∧K c top' b2 k' loc'∧(c≠3→b1=base∧Tame W loc0 k0 loc k→b2=base∧Tame W loc0 k0 loc' k')∧∀ ks,(c=4→b1=base∧Tame W loc0 k0 loc k)→DR P N (IW W base k0 loc0) all rest ks (trE n0 (top'++bot)) ⟨b2,k',loc'⟩ K'→DR P N (IW W base k0 loc0) all (o::rest) (c::ks) (trE n0 (top++bot)) ⟨b1,k,loc⟩ K':=by
 obtain ⟨r,h1,h2,h3⟩:=wpSD_leaf _ h
 have h1':=h1
 rw [← stepS_restr] at h1'
 have hdb:(dBase st base b1).length=n0:=by cases st <;> assumption
 cases r with
 | reg v =>
   simp only [wpSD] at h3
   obtain ⟨d,hd,hb,hk⟩:=putN_reg h3
   have hlf:=step_leaf (N:=N) (k:=k) he hdb rfl h1' h2
   exact ⟨_,_,_,_,_,hn1,hk,fun _ h=>h,fun ks _ hdr=>dr_r (fun env' ha hp=>step_restr ha (hlf hp)) hg hd hdr⟩
 | mem v =>
   simp only [wpSD] at h3
   cases st with
   | store=>exact h3.elim
   | app=>exact h3.elim
   | mk =>
     obtain ⟨t0,x0,y0,hop⟩:=hmk rfl
     simp only at hS
     subst hS
     obtain ⟨d,hd,hb,hk⟩:=putN_reg h3
     exact ⟨_,_,_,_,_,hn1,hk,fun _ h=>h,fun ks _ hdr=>dr_m (fun env' ha hp hI=>by
      obtain ⟨l1,X,hq,rfl⟩:=hI
      exact xok_of_step (step_restr ha (step_leaf (N:=N) (k:=k0) (loc:=l1) he hn rfl (by
       rw [stepS_restr]
       rw [hop] at h1 ⊢
       exact h1) h2 X))) hg hd hdr⟩
   | pure =>
   simp only at hS
   subst hS
   obtain ⟨d,hd,hb,hk⟩:=putN_reg h3
   exact ⟨_,_,_,_,_,hn1,hk,fun _ h=>h,fun ks _ hdr=>dr_m (fun env' ha hp hI=>by
    obtain ⟨l1,X,hq,rfl⟩:=hI
    exact xok_of_step (step_restr ha (step_leaf (N:=N) (k:=k0) (loc:=l1) he hn rfl (by rw [stepS_restr,← stepS_tq hq (hst rfl).1 (hst rfl).2];exact h1) h2 X))) hg hd hdr⟩
 | box t l =>
   simp only [wpSD] at h3
   split at h3
   ·rename_i loc' hl
    obtain ⟨d,hd,hb,hk⟩:=putN_reg h3
    have hlf:=step_leaf (N:=N) (k:=k) he hdb rfl h1' h2
    refine ⟨_,_,_,_,_,hn1,hk,fun _ h=>⟨h.1,h.2.snoc hl⟩,fun ks _ hdr=>dr_a (B:=.box t l) (fun env' ha g w a hE=>hlf g w a (restr_apx ha hE)) hl hg hd ?_⟩
    rw [hn1];exact hdr
   ·exact h3.elim
 | upd j B v =>
   simp only [wpSD] at h3
   cases st with
   | pure=>exact h3.elim
   | mk=>exact h3.elim
   | app =>
     simp only at hS h3
     subst hS
     cases v with
     | none=>exact h3.elim
     | some v =>
     simp only at h3
     split at h3
     ·exact h3.elim
     ·rename_i hj
      split at h3
      ·rename_i loc' hl
       obtain ⟨d,hd,hb,hk⟩:=putN_reg h3
       have hlf:=step_leaf (N:=N) (k:=k) he hdb rfl h1' h2
       refine ⟨_,_,_,_,_,hn1,hk,fun _ h=>⟨h.1,h.2.set (fun _=>hj) hl⟩,fun ks ht hdr=>?_⟩
       obtain ⟨hb1,ht2⟩:=ht rfl
       subst hb1
       exact dr_x (hp':=⟨b1,k,loc'⟩) (fun env' ha=>step_restr ha (hlf loc' hl)) (ht2.set (fun _=>hj) hl).iw hg hd hdr
      ·exact h3.elim
   | store =>
   simp only at hS h3
   subst hS
   cases v with
   | some v=>exact h3.elim
   | none =>
   simp only at h3
   split at h3
   ·rename_i loc' hl
    have hlf:=step_leaf (N:=N) (k:=k) he hdb rfl h1' h2
    cases hw:inW W j with
    | false =>
      simp only [hw] at h3
      obtain ⟨hd,hk⟩:=putN_none h3
      exact ⟨_,_,_,_,_,hn1,hk,fun h=>absurd rfl h,fun ks _ hdr=>dr_w (hp':=⟨b1,k,loc'⟩) (fun env' ha g w a hH hE=>hlf loc' hl g w a hH (restr_apx ha hE)) hg hd hdr⟩
    | true =>
      simp only [hw] at h3
      obtain ⟨hd,hk⟩:=putN_none h3
      have hnw:inW W j=false→tokAt locS j B=true:=fun e=>by rw [hw] at e;cases e
      refine ⟨_,_,_,_,_,hn1,hk,fun _ h=>⟨h.1,h.2.set hnw hl⟩,fun ks ht hdr=>?_⟩
      obtain ⟨hb1,ht2⟩:=ht rfl
      subst hb1
      exact dr_wt (hp':=⟨b1,k,loc'⟩) (fun env' ha g w a hH hE=>hlf loc' hl g w a hH (restr_apx ha hE)) (ht2.set hnw hl).iw hg hd hdr
   ·exact h3.elim
 | updB i B v =>
   simp only [wpSD] at h3
   cases st with
   | pure=>exact h3.elim
   | mk=>exact h3.elim
   | store =>
     simp only at hS h3
     subst hS
     cases v with
     | some v=>exact h3.elim
     | none =>
     obtain ⟨b2,hset,h3⟩:=h3
     subst hset
     obtain ⟨hd,hk⟩:=putN_none h3
     have hlf:=step_leaf (N:=N) (k:=k) he hdb rfl h1' h2
     exact ⟨_,_,_,_,_,by simpa using hn1,hk,fun h=>absurd rfl h,fun ks _ hdr=>dr_w (hp':=⟨b1.set i B,k,locS⟩) (fun env' ha g w a hH hE=>hlf g w a hH (restr_apx ha hE)) hg hd hdr⟩
   | app =>
     simp only at hS h3
     subst hS
     cases v with
     | none=>exact h3.elim
     | some v =>
     obtain ⟨b2,hset,h3⟩:=h3
     subst hset
     obtain ⟨d,hd,hb,hk⟩:=putN_reg h3
     have hlf:=step_leaf (N:=N) (k:=k) he hdb rfl h1' h2
     refine ⟨_,_,_,_,_,by simpa using hn1,hk,fun h=>absurd rfl h,fun ks _ hdr=>dr_g (hp':=⟨b1.set i B,k,locS⟩) (fun env' ha g w a hH hE K Qc kk=>?_) hg hd hdr⟩
     obtain ⟨c,g',w',e1,e2,e3,e4⟩:=hlf g w a hH (restr_apx ha hE)
     exact opIn_value e1 (kk g' w' c e2 e3 e4)
 | blk B v =>
   simp only [wpSD] at h3
   cases st with
   | pure=>exact h3.elim
   | store=>exact h3.elim
   | mk =>
     obtain ⟨t0,x0,y0,hop⟩:=hmk rfl
     simp only at hS h3
     subst hS
     split at h3
     ·rename_i bt bl
      split at h3
      ·rename_i loc' hl
       obtain ⟨d,hd,hb,hk⟩:=putN_reg h3
       rw [hop] at h1'
       obtain ⟨n,hA,hv⟩:=leaf_makeV (N:=N) he.T hop h1'
       subst hv
       refine ⟨_,_,_,_,_,hn1,hk,fun _ h=>⟨h.1,h.2.snoc hl⟩,fun ks _ hdr=>dr_av (B:=.box bt bl) (vf:=fun i=>.ms i 0 n) (fun env' ha g w a hE=>hA g w a (restr_apx (by rw [hop] at ha;exact ha) hE)) hl hg hd ?_⟩
       rw [hn1]
       exact hdr
      ·exact h3.elim
     ·exact h3.elim
   | app =>
   simp only at hS h3
   subst hS
   split at h3
   ·rename_i loc' hl
    obtain ⟨d,hd,hb,hk⟩:=putN_reg h3
    have hlf:=step_leaf (N:=N) (k:=k) he hdb rfl h1' h2
    refine ⟨_,_,_,_,_,hn1,hk,fun _ h=>⟨h.1,h.2.snoc hl⟩,fun ks ht hdr=>?_⟩
    obtain ⟨hb1,ht2⟩:=ht rfl
    subst hb1
    refine dr_x (hp':=⟨b1,k+1,loc'⟩) (fun env' ha=>?_) ?_ hg hd hdr
    ·rw [snocC_eq _ _ _ hl]
     exact step_restr ha hlf
    ·exact (ht2.snoc hl).iw
   ·exact h3.elim
 | anyU j S=>exact h3.elim
 | blkU S v=>exact h3.elim
 | anyV S=>exact h3.elim
 | call fn as =>
   simp only [wpSD] at h3
   cases st with
   | store=>exact h3.elim
   | app=>exact h3.elim
   | mk=>exact h3.elim
   | pure =>
   have hlf:=step_leaf (N:=N) (k:=k) he hdb rfl h1' h2
   obtain ⟨f,xs,ts,fs,cs,ws,ho,hf,has,hw⟩:=hlf
   cases h3 with
   | det v hc hk =>
     obtain ⟨d,hd,hb,hk⟩:=putN_reg hk
     refine ⟨_,_,_,_,_,hn1,hk,fun _ h=>h,fun ks _ hdr=>dr_m (fun env' ha hp hI=>?_) hg hd hdr⟩
     obtain ⟨l1,X,hq,rfl⟩:=hI
     intro g w a hH hE K Qc kk
     have hE':=restr_apx ha hE
     have hall:(⟨base,k0+X.length,l1++X⟩:Hp).all=base++l1++X:=by simp [Hp.all]
     have hof:=hH.of
     rw [hall] at hof
     refine call_wp ho hf (hw g w a hE') has (hc l1 hq X) hof hE' ?_
     rintro r H' g' w' c ⟨rfl,rfl⟩ hH' hv hx'
     exact kk g' w' c (hH'.see (hp:=⟨base,k0,l1⟩) ⟨hall,hH.k⟩) hv hx'
   | fix v b2 loc2 k2 hc hb2 hk2 hk =>
     obtain ⟨d,hd,hb,hk⟩:=putN_reg hk
     refine ⟨_,_,_,_,_,hb2,hk,fun h=>absurd rfl h,fun ks _ hdr=>dr_g (hp':=⟨b2,k2,loc2⟩) (fun env' ha=>?_) hg hd hdr⟩
     intro g w a hH hE K Qc kk
     have hE':=restr_apx ha hE
     refine call_wp ho hf (hw g w a hE') has hc hH.of hE' ?_
     rintro r H' g' w' c ⟨rfl,rfl⟩ hH' hv hx'
     exact kk g' w' c (hH'.see (hp:=⟨b1,k,loc⟩) ⟨rfl,hk2⟩) hv hx'
   | app v X loc2 x hc hb2 hl2 hx2 hk =>
     obtain ⟨d,hd,hb,hk⟩:=putN_reg hk
     subst hl2 hx2
     have htk:Tame W loc0 k0 loc k→Tame W loc0 k0 (loc++X) (k+X.length):=by
      rintro ⟨l1,Y,hq,rfl,rfl⟩
      exact ⟨l1,Y++X,hq,by rw [List.append_assoc],by simp [Nat.add_assoc]⟩
     refine ⟨_,_,_,_,_,hb2,hk,fun _ h=>⟨h.1,htk h.2⟩,fun ks ht hdr=>?_⟩
     obtain ⟨hb1,ht2⟩:=ht rfl
     subst hb1
     refine dr_gt (hp':=⟨b1,k+X.length,loc++X⟩) (fun env' ha=>?_) (htk ht2).iw hg hd hdr
     intro g w a hH hE K Qc kk
     have hE':=restr_apx ha hE
     have hlk:=hH.k
     refine call_wp ho hf (hw g w a hE') has hc hH.of hE' ?_
     rintro r H' g' w' c ⟨rfl,rfl⟩ hH' hv hx'
     exact kk g' w' c (hH'.see (hp:=⟨b1,k,loc⟩) ⟨rfl,by simp only [List.length_append];simp only at hlk;omega⟩) hv hx'
   | setW j B v loc2 hj hs hc hb2 hk =>
     obtain ⟨d,hd,hb,hk⟩:=putN_reg hk
     have htk:Tame W loc0 k0 loc k→Tame W loc0 k0 loc2 k:=fun h=>h.set (fun e=>by rw [hj] at e;cases e) hs
     have hl2:loc2.length=loc.length:=by rw [(lset_eq _ _ _ _ hs).1,List.length_set]
     refine ⟨_,_,_,_,_,hb2,hk,fun _ h=>⟨h.1,htk h.2⟩,fun ks ht hdr=>?_⟩
     obtain ⟨hb1,ht2⟩:=ht rfl
     subst hb1
     refine dr_gt (hp':=⟨b1,k,loc2⟩) (fun env' ha=>?_) (htk ht2).iw hg hd hdr
     intro g w a hH hE K Qc kk
     have hE':=restr_apx ha hE
     have hlk:loc.length=k:=hH.k
     refine call_wp ho hf (hw g w a hE') has hc hH.of hE' ?_
     rintro r H' g' w' c ⟨rfl,rfl⟩ hH' hv hx'
     exact kk g' w' c (hH'.see (hp:=⟨b1,k,loc⟩) ⟨rfl,by show loc2.length=k;omega⟩) hv hx'
 | fail=>cases h2
 | side _ _=>cases h2
 | ptr _ _ _=>cases h2
 | seg _ _ _=>cases h2
 | ofs _ _ _=>cases h2
 | eqv _ _=>cases h2
 | sub _ _ _ _=>cases h2
 | nat _ _=>cases h2
 | byte _ _ _=>cases h2
 | or _ _=>cases h2
 | rel _ _=>cases h2
def KD (n0:Nat) (bot:RE) (K:RE→Heap→Nat→Heap→Prop):Env→Hp→Prop:=fun env hp=>∃ top b1 k loc,Apx n0 env (top++bot)∧hp=⟨b1,k,loc⟩∧b1.length=n0∧K top b1 k loc
theorem KD.congr {bot:RE} {K:RE→Heap→Nat→Heap→Prop} (e1 e2:Env) (hp:Hp) (h:∀ s,get e1 s=get e2 s) (hk:KD n0 bot K e1 hp):KD n0 bot K e2 hp:=by
 obtain ⟨top,b1,k,loc,h1,h2,h3,h4⟩:=hk
 exact ⟨top,b1,k,loc,fun s=>by rw [← h];exact h1 s,h2,h3,h4⟩
theorem pick_agree [Glob] {env env':Env} {o:Oper} {c x y:Operand} {b:Bool} {hp:Hp} (ho:o.op=.pick c x y) (ha:Agree (opTs o.op) env env') (hc:ev env c=.bool b):Step P N hp env' o (ev env (if b then x else y)) hp:=by
 have e1:ev env' c=ev env c:=ev_agree_op ha (by rw [ho];simp [Op.operands])
 have e2:ev env' (if b then x else y)=ev env (if b then x else y):=ev_agree_op ha (by rw [ho];cases b <;> simp [Op.operands])
 rw [← e2]
 exact pick_step ho (by rw [e1];exact hc)
theorem dm_mk {op:Op} (h:dmOf op=.mk):∃ t x y,op=.makeSlice t x y:=by
 unfold dmOf at h
 split at h
 all_goals first
  | exact ⟨_,_,_,rfl⟩
  | cases h
theorem wpD_sound [Glob] (he:Env0 P T kn) {W:List Nat} {bot:RE} {all:List Oper} {base loc0:Heap} {k0:Nat} (hn:base.length=n0) {K:RE→Heap→Nat→Heap→Prop} :
  ∀ (rest:List Oper) (ks:List Nat) (top:RE) (b1:Heap) (k:Nat) (loc:Heap),b1.length=n0→(3 ∉ ks→b1=base∧Tame W loc0 k0 loc k)→wpD W P kn T N n0 bot all base loc0 rest K ks top b1 k loc →
   ∃ ks',(drawOk all (closOf all) (ks.reverse++ks')&&dstOk N.n all)=true∧DR P N (IW W base k0 loc0) all rest ks' (trE n0 (top++bot)) ⟨b1,k,loc⟩ (KD n0 bot K)
 | [],ks,top,b1,k,loc,hn1,_,h=>⟨[],by rw [List.append_nil];exact h.side,dr_nil ⟨top,b1,k,loc,Apx.refl _ _,rfl,hn1,h.rest⟩⟩
 | o::rest,ks,top,b1,k,loc,hn1,htm,h=>by
   have ih:=wpD_sound he (W:=W) (bot:=bot) (all:=all) (loc0:=loc0) (k0:=k0) (K:=K) hn rest
   have h:guardN bot all o top
    (opD W P kn T N n0 bot o base loc0 b1 k loc (fun c top b1 k loc=>wpD W P kn T N n0 bot all base loc0 rest K (c::ks) top b1 k loc))
    (fun top=>skipN N.n o.dst top fun top=>wpD W P kn T N n0 bot all base loc0 rest K (0::ks) top b1 k loc):=h
   obtain ⟨top',he',h1⟩:=guard_cases (n0:=n0) h
   suffices hs:∃ ks',(drawOk all (closOf all) (ks.reverse++ks')&&dstOk N.n all)=true∧DR P N (IW W base k0 loc0) all (o::rest) ks' (trE n0 (top'++bot)) ⟨b1,k,loc⟩ (KD n0 bot K) by
    obtain ⟨ks',e1,e2⟩:=hs
    exact ⟨ks',e1,dr_congr KD.congr (fun s=>(he' s).symm) e2⟩
   have hks:∀ (c:Nat) (ks':List Nat),(c::ks).reverse++ks'=ks.reverse++(c::ks'):=by simp
   rcases h1 with ⟨hg,hx⟩|⟨hg,hx⟩
   ·have fin:∀ (st:DM) (locS:Heap),(locS=match st with
      | .pure=>loc0
      | .mk=>loc0
      | .store=>loc
      | .app=>loc)→(st=.pure→dmOf o.op=.pure∧rdOk W top' bot o.op=true)→(st=.mk→∃ t x y,o.op=.makeSlice t x y)→wpSD W st P n0 base loc0 b1 k loc (fun c v b1 k loc=>putN N.n o.dst v top' fun top=>wpD W P kn T N n0 bot all base loc0 rest K (c::ks) top b1 k loc) (stepS kn T n0 top' bot locS o.op) →
      ∃ ks',(drawOk all (closOf all) (ks.reverse++ks')&&dstOk N.n all)=true∧DR P N (IW W base k0 loc0) all (o::rest) ks' (trE n0 (top'++bot)) ⟨b1,k,loc⟩ (KD n0 bot K):=by
     intro st locS hS hst hmk hw
     obtain ⟨c,top2,b2,k2,loc2,hb2,hk,htm2,hdr⟩:=dr_R (k0:=k0) (rest:=rest) (K':=KD n0 bot K) he hn hn1 hg hS hst hmk hw
     obtain ⟨ks',e1,e2⟩:=ih _ _ _ _ _ hb2 (fun h3=>by
      rw [List.mem_cons,not_or] at h3
      exact htm2 (fun e=>h3.1 e.symm) (htm h3.2)) hk
     rw [hks] at e1
     refine ⟨c::ks',e1,hdr ks' (fun hc=>htm fun h3=>?_) e2⟩
     subst hc
     rw [Bool.and_eq_true] at e1
     exact drawOk_tame e1.1 (List.mem_reverse.2 h3)
    unfold opD at hx
    split at hx
    ·rename_i c x y ho
     obtain ⟨b,hc,hp⟩:=pick_cases hx
     obtain ⟨d,v,hd,hv,hb,hk⟩:=putS_some hp
     obtain ⟨ks',e1,e2⟩:=ih _ _ _ _ _ hn1 (fun h3=>htm (fun h=>h3 (List.mem_cons_of_mem _ h))) hk
     refine ⟨0::ks',by rw [← hks];exact e1,dr_r (v:=tr n0 v) (fun env' ha hp=>?_) hg hd e2⟩
     have:=pick_agree (P:=P) (N:=N) (hp:=hp) ho ha hc
     rwa [evR_ev hv] at this
    ·split at hx
     ·exact fin .store _ rfl (fun e=>by cases e) (fun e=>by cases e) hx
     ·exact fin .app _ rfl (fun e=>by cases e) (fun e=>by cases e) hx
     ·rename_i heq
      exact fin .mk _ rfl (fun e=>by cases e) (fun _=>dm_mk heq) hx
     ·rename_i heq
      split at hx
      ·rename_i hrd
       exact fin .pure _ rfl (fun _=>⟨heq,hrd⟩) (fun e=>by cases e) hx
      ·exact hx.elim
   ·unfold skipN at hx
    split at hx
    ·rename_i d hd
     split at hx
     ·rename_i hb
      obtain ⟨ks',e1,e2⟩:=ih _ _ _ _ _ hn1 (fun h3=>htm (fun h=>h3 (List.mem_cons_of_mem _ h))) hx
      exact ⟨0::ks',by rw [← hks];exact e1,dr_skipped hg hd e2⟩
     ·exact hx.elim
    ·rename_i hd
     obtain ⟨ks',e1,e2⟩:=ih _ _ _ _ _ hn1 (fun h3=>htm (fun h=>h3 (List.mem_cons_of_mem _ h))) hx
     refine ⟨0::ks',by rw [← hks];exact e1,?_⟩
     refine dr_cons (v:=.tup []) (k:=.r) (hp':=⟨b1,k,loc⟩) rfl ?_ (by rw [push_none hd];exact e2)
     unfold FOp
     simp only [hg]
     exact ⟨⟨trivial,trivial⟩,trivial⟩
end
end Go.Vsi
/-! text R15 -/
namespace Go.Vsi
inductive OwnB (n0:Nat) (base loc:Heap) (i:Nat) (B B':Blk):Heap→Heap→Prop where
 | loc (j:Nat) {loc':Heap} (h:i=n0+j) (h1:lget loc j=some B) (h2:lset loc j B'=some loc'):OwnB n0 base loc i B B' base loc'
 | base (h:base[i]? = some B):OwnB n0 base loc i B B' (base.set i B') loc
theorem OwnB.at_ {n0:Nat} {base loc base' loc':Heap} {i k:Nat} {B B':Blk} (hn:base.length=n0) (h:OwnB n0 base loc i B B' base' loc'):At ⟨base,k,loc⟩ i B∧Put ⟨base,k,loc⟩ i B' ⟨base',k,loc'⟩∧base'.length=n0:=by
 cases h with
 | loc j h h1 h2 =>
   subst h hn
   exact ⟨at_loc h1,put_loc h2,rfl⟩
 | base h=>exact ⟨at_base h,put_base h,by simpa using hn⟩
def edgeTo (o:Oper) (i:Nat):Bool:=o.after.toList.any fun e=>Region.binds .any e&&e.on==i
theorem edgeTo_spec {o:Oper} {i:Nat} (h:edgeTo o i=true):∃ e∈o.after.toList,Region.binds .any e=true∧e.on=i:=by
 unfold edgeTo at h
 rw [List.any_eq_true] at h
 obtain ⟨e,he,h⟩:=h
 rw [Bool.and_eq_true,beq_iff_eq] at h
 exact ⟨e,he,h.1,h.2⟩
def tlChk (all:List Oper) (m:Nat) (o5 o6 o7 o8:Oper):Bool:=drawBack all&&((List.range m).all fun i=>edgeTo o5 i)&&(edgeTo o6 m&&edgeTo o7 (m+1)&&edgeTo o8 m)
def opNe (x y:Operand):Bool:=match x with
 | .tmp t=>match y with
   | .tmp u=>!Nat.beq t u
   | _=>true
 | _=>true
theorem opNe_spec {x:Operand} {t:Nat} (h:opNe x (.tmp t)=true):x≠.tmp t:=by
 rintro rfl
 simp [opNe] at h
inductive ApE [Glob] (P:Program) (T:TypeId→Option TI) (N:FN) (n0:Nat) (all:List Oper) (m:Nat) (bot top:RE) (base:Heap) (k:Nat) (loc:Heap) (K:RE→Heap→Nat→Heap→Prop):Prop where
 | mk {o5 o6 o7 o8:Oper} {t et st e:TypeId} {x y i v p:Operand} {d5 d6:Nat} {ti ei eti sti:TI} {z:List AV} {tk n sz j oj:Nat} {u:TypeId} {ki:IntKind} {ni:Int} {l l2 vs bl bl':List AV} {pv:RG} {base1 loc1 base2 loc2:Heap}
   (hall:all.drop m=[o5,o6,o7,o8])
   (ho5:o5.op=.call { callee:=.builtin .append,args:=#[x,y],argTypes:=#[t,t] }) (hd5:o5.dst=some d5) (ho6:o6.op=.indexAddr t (.tmp d5) i) (hd6:o6.dst=some d6) (ho7:o7.op=.store et (.tmp d6) v) (hd7:o7.dst=none) (ho8:o8.op=.store st p (.tmp d5)) (hd8:o8.dst=none)
   (g5:o5.guard=none) (g6:o6.guard=none) (g7:o7.guard=none) (g8:o8.guard=none)
   (hchk:(tlChk all m o5 o6 o7 o8&&(Nat.blt d5 N.n&&Nat.blt d6 N.n&&!Nat.beq d5 d6)&&(opNe i (.tmp d5)&&opNe v (.tmp d5)&&opNe v (.tmp d6)&&opNe p (.tmp d5)&&opNe p (.tmp d6)))=true)
   (ht:T t=some ti) (hk:ti.kind=.sl e) (he:T e=some ei) (hez:ei.zero=some z) (hesz:ei.sz=sz+1) (hzl:z.length=ei.sz) (het:T et=some eti) (hets:eti.sz=sz+1) (hst:T st=some sti) (hsts:sti.sz=1)
   (hx:evR top bot x=some (.v (.sl (some tk) n l))) (hy:slOf (av n0 top bot y)=some (1,l2)) (h1:allOne l2=true) (hl2:l2.length=sz+1) (hi:evR top bot i=some (.v (.int ki ni))) (hni:ni=(n:Int))
   (hvc:(av n0 top bot v).cells=vs) (hv1:allOne vs=true) (hvl:vs.length=sz+1) (hpv:evR top bot p=some pv) (hpp:tr n0 pv=.ptr j oj) (hjk:j≠tk)
   (hset:setC bl oj [.sl (some tk) (n+1) (l++vs)]=some bl')
   (hown:OwnB n0 base loc tk (.tok e (sz+1) l.length) (.tok e (sz+1) (l.length+(sz+1))) base1 loc1) (hown2:OwnB n0 base1 loc1 j (.box u bl) (.box u bl') base2 loc2)
   (hbytes:(n+1) * ei.bytes≤140737488355328) (hmax:n+1≤maxLen)
   (a:K ((d6,.v .junk)::(d5,.v (.sl (some tk) (n+1) (l++vs)))::top) base2 k loc2):ApE P T N n0 all m bot top base k loc K
section
variable {P:Program} {N:FN} {n0:Nat} {T:TypeId→Option TI} {kn:TypeId→Nat}
theorem av_ev' [Glob] {top bot:RE} {x:Operand} (h:av n0 top bot x≠.junk):ev (trE n0 (top++bot)) x=av n0 top bot x:=av_ev rfl h
theorem vw_ap [Glob] (he0:Env0 P T kn) (hm:P.follows .mixedOrders=true) {id m:Nat} {ops:List Oper} {W:List Nat} {bot top:RE} {base:Heap} {k:Nat} {loc:Heap} (hn:base.length=n0) {Q:Exit→Env→Hp→Prop} {K:RE→Heap→Nat→Heap→Prop}
  (hK:∀ top b1 k loc,b1.length=n0→K top b1 k loc→Q .normal (trE n0 (top++bot)) ⟨b1,k,loc⟩)
  (h:wpD W P kn T N n0 bot ops base loc (ops.take m) (fun top b1 k loc=>ApE P T N n0 ops m bot top b1 k loc K) [] top base k loc) :
  VW P N (.region id ops.toArray true) Q (trE n0 (top++bot)) ⟨base,k,loc⟩:=by
 obtain ⟨ks,h1,h2⟩:=wpD_sound (N:=N) (k0:=k) (W:=W) he0 hn (ops.take m) [] top base k loc hn (fun _=>⟨rfl,Tame.refl _ _ _⟩) h
 simp only [List.reverse_nil,List.nil_append,Bool.and_eq_true] at h1
 intro g w a hH hE
 refine wpIn_region_any hm ?_
 -- the tail's operations
 have hA:∃ top b1 k' loc',ApE P T N n0 ops m bot top b1 k' loc' K:=by
  obtain ⟨ds,-,-,h3⟩:=h2
  obtain ⟨hs,-,-,h4⟩:=h3.at_
  obtain ⟨top,b1,k',loc',-,-,-,h5⟩:=h4
  exact ⟨top,b1,k',loc',h5⟩
 obtain ⟨topA,bA,kA,locA,hA⟩:=hA
 obtain ⟨o5,o6,o7,o8,hall,hchk⟩:∃ o5 o6 o7 o8,ops.drop m=[o5,o6,o7,o8]∧tlChk ops m o5 o6 o7 o8=true:=by
  cases hA with
  | mk hall ho5 hd5 ho6 hd6 ho7 hd7 ho8 hd8 g5 g6 g7 g8 hchk =>
    simp only [Bool.and_eq_true] at hchk
    exact ⟨_,_,_,_,hall,hchk.1.1⟩
 have hsplit:ops.take m++[o5,o6,o7,o8]=ops:=by rw [← hall];exact List.take_append_drop m ops
 have hml:(ops.take m).length=m:=by
  have:=congrArg List.length hall
  simp at this
  simp
  omega
 unfold tlChk at hchk
 simp only [Bool.and_eq_true,List.all_eq_true,List.mem_range] at hchk
 obtain ⟨⟨c1,c2⟩,⟨c3,c4⟩,c5⟩:=hchk
 have hback:∀ j oj,ops[j]? = some oj→∀ e∈oj.after.toList,Region.binds .any e=true→e.on<j:=by
  intro j oj hj e he hb
  unfold drawBack at c1
  simp only [List.all_eq_true,List.mem_range] at c1
  have:=c1 j (List.getElem?_eq_some_iff.1 hj).1
  simp only [hj,List.all_eq_true] at this
  simpa [hb] using this e he
 have hO:TlOk (ops.take m).length o6 o7 o8 (ops.take m++[o5,o6,o7,o8]):=by
  rw [hsplit,hml]
  exact ⟨hback,edgeTo_spec c3,edgeTo_spec c4,edgeTo_spec c5⟩
 have key:=draw_head (l:=ops.take m) (tl:=[o5,o6,o7,o8]) (Qc:=Lift N Q g w a.defers) (I:=IW W base k loc) (k:=k) (fun X=>⟨loc,X,Tq.refl _,rfl⟩) (closOf ops) ks (by rw [hsplit];exact h1.1) (by rw [hsplit];exact h1.2) (fun j oj hj ho=>by
  rw [hsplit] at ho
  rw [hml] at hj ⊢
  have hlen:ops.length=m+4:=by
   have:=congrArg List.length hsplit
   rw [List.length_append,hml] at this
   simp at this
   omega
  have hlt:=(List.getElem?_eq_some_iff.1 ho).1
  have ho':(ops.take m++[o5,o6,o7,o8])[j]? = some oj:=by rw [hsplit];exact ho
  rw [List.getElem?_append_right (by omega),hml] at ho'
  have hj4:j=m∨j=m+1∨j=m+2∨j=m+3:=by omega
  rcases hj4 with rfl|rfl|rfl|rfl
  ·rw [Nat.sub_self] at ho'
   simp at ho'
   subst ho'
   left
   intro i hi
   exact edgeTo_spec (c2 i hi)
  ·rw [Nat.add_sub_cancel_left] at ho'
   simp at ho'
   subst ho'
   right
   obtain ⟨e,e1,e2,e3⟩:=edgeTo_spec c3
   exact ⟨e,e1,e2,by omega⟩
  ·rw [Nat.add_sub_cancel_left] at ho'
   simp at ho'
   subst ho'
   right
   obtain ⟨e,e1,e2,e3⟩:=edgeTo_spec c4
   exact ⟨e,e1,e2,by omega⟩
  ·rw [Nat.add_sub_cancel_left] at ho'
   simp at ho'
   subst ho'
   right
   obtain ⟨e,e1,e2,e3⟩:=edgeTo_spec c5
   exact ⟨e,e1,e2,by omega⟩) (K:=KD n0 bot fun top b1 k loc=>ApE P T N n0 ops m bot top b1 k loc K) (by rw [hsplit];exact h2) hH hE (fun env' hp' g' w' a' fuel listed hKD q1 q2 q3 q4 hH' hE' hx' hd'=>by
  obtain ⟨top',b1,k1,loc1,hap,rfl,hb1,hA'⟩:=hKD
  have hE2:ERel N g' w' (trE n0 (top'++bot)) a':=⟨hE'.1,fun s=>hap s _ _ _ (hE'.rel s),hE'.ro,hE'.glob⟩
  cases hA' with
  | mk hall' ho5 hd5 ho6 hd6 ho7 hd7 ho8 hd8 g5 g6 g7 g8 hchk ht hk he hez hesz hzl het hets hst hsts hx hy hl1 hl2 hi hni hvc hv1 hvl hpv hpp hjk hset hown hown2 hbytes hmax ak =>
    rw [hall] at hall'
    simp only [List.cons.injEq,and_true] at hall'
    obtain ⟨rfl,rfl,rfl,rfl⟩:=hall'
    subst hni
    simp only [Bool.and_eq_true] at hchk
    obtain ⟨⟨-,⟨r1,r2⟩,r3⟩,⟨⟨⟨r4,r5⟩,r6⟩,r7⟩,r8⟩:=hchk
    obtain ⟨s1,s2,s3⟩:=hown.at_ (k:=k1) hb1
    obtain ⟨t1,t2,t3⟩:=hown2.at_ (k:=k1) s3
    have hjt:=t1
    unfold At at hjt
    rw [s2.all,List.getElem?_set,if_neg (Ne.symm hjk)] at hjt
    refine ap_fin he0.T ho5 hd5 ho6 hd6 ho7 hd7 ho8 hd8 g5 g6 g7 g8 r1 r2 (by intro e;rw [e] at r3;simp at r3) (opNe_spec r4) (opNe_spec r5) (opNe_spec r6) (opNe_spec r7) (opNe_spec r8) hO ht hk he hez hesz hzl het hets hst hsts s1 s2 (evR_ev hx) ?_ hl1 hl2 (evR_ev hi) ?_ hv1 hvl ((evR_ev hpv).trans hpp) hjk hjt hset t2 hbytes hmax hH' hE2 q1 q2 q3 q4 ?_
    ·rw [av_ev' (fun eq=>by rw [eq] at hy;cases hy)];exact hy
    ·rw [av_ev' (fun eq=>by
      rw [eq] at hvc
      subst hvc
      simp [AV.cells,allOne,AV.one] at hv1)]
     exact hvc
    ·intro g2 w2 a2 hH2 hE3 hx2 hd2
     exact ⟨_,_,g2,hK _ _ _ _ t3 ak,hH2,hE3,hx'.trans hx2,DRel.of_eq (hd2.trans hd')⟩)
 rw [hsplit] at key
 simpa using key
end
end Go.Vsi
/-! text R17 -/
namespace Go.Vsi
theorem erel_le [Glob] {N:FN} {g:G} {w:World} {env env':Env} {a:Act} (h:ERel N g w env a) (hh:∀ s,get env' s=get env s∨get env' s=.junk):ERel N g w env' a :=
 ⟨h.1,fun s=>by
  rcases hh s with e|e
  ·rw [e];exact h.2 s
  ·rw [e];simp [VRel],h.3,h.4⟩
def envO (d2 d3 d4 d5:Nat) (v0 v1 J:AV) (s2 s3 s4 s5:Bool) (env:Env):Env :=
 (d2,bif s2 then v0 else .junk)::(d3,bif s3 then v1 else .junk)::(d4,bif s4 then .tup [v0,J] else .junk)::(d5,bif s5 then J else .junk)::env
theorem get_cons (d:Nat) (v:AV) (env:Env) (s:Nat):get ((d,v)::env) s=if d=s then v else get env s:=by
 by_cases h:d=s
 ·subst h;rw [get_put_same,if_pos rfl]
 ·rw [get_put_ne _ _ h,if_neg h]
theorem get_envO (d2 d3 d4 d5:Nat) (v0 v1 J:AV) (s2 s3 s4 s5:Bool) (env:Env) (s:Nat):get (envO d2 d3 d4 d5 v0 v1 J s2 s3 s4 s5 env) s =
  if d2=s then (bif s2 then v0 else .junk) else if d3=s then (bif s3 then v1 else .junk) else if d4=s then (bif s4 then .tup [v0,J] else .junk) else if d5=s then (bif s5 then J else .junk) else get env s:=by
 unfold envO
 rw [get_cons,get_cons,get_cons,get_cons]
def sOf (m:Nat) (s2 s3 s4 s5:Bool) (j:Nat):Bool:=if j<m then true else if j=m then s2 else if j=m+1 then s3 else if j=m+2 then s4 else if j=m+3 then s5 else false
structure MoOk (all:List Oper) (m:Nat) (o2 o3 o4 o5 o6:Oper) (t t6:TypeId) (x y:Operand) (d2 d3 d4 d5:Nat):Prop where
 len:all.length=m+5
 i2:all[m]? = some o2
 i3:all[m+1]? = some o3
 i4:all[m+2]? = some o4
 i5:all[m+3]? = some o5
 i6:all[m+4]? = some o6
 g2:o2.guard=none
 g3:o3.guard=none
 g4:o4.guard=none
 g5:o5.guard=none
 g6:o6.guard=none
 p2:o2.op=.lookup t x y false
 p4:o4.op=.mapEntry t x y
 p6:o6.op=.entryStore t6 x (.tmp d5) (.tmp d3)
 q2:o2.dst=some d2
 q3:o3.dst=some d3
 q4:o4.dst=some d4
 q5:o5.dst=some d5
 q6:o6.dst=none
 back:∀ j oj,all[j]? = some oj→∀ e∈oj.after.toList,Region.binds .any e=true→e.on<j
 e3:∃ e∈o3.after.toList,Region.binds .any e=true∧e.on=m
 e5:∃ e∈o5.after.toList,Region.binds .any e=true∧e.on=m+2
 e6a:∃ e∈o6.after.toList,Region.binds .any e=true∧e.on=m+1
 e6b:∃ e∈o6.after.toList,Region.binds .any e=true∧e.on=m+3
 n23:d2≠d3
 n24:d2≠d4
 n25:d2≠d5
 n34:d3≠d4
 n35:d3≠d5
 n45:d4≠d5
section
variable {P:Program} {N:FN} {T:TypeId→Option TI} {kn:TypeId→Nat} {hp hp1 hp2:Hp}
theorem wpOp_step [Glob] {all:List Oper} {i:Nat} {o:Oper} {env:Env} {v:AV} {hp hp':Hp} {fo:Option Nat} {Q:Exit→Act→World→Prop} {K:Act→World→Prop} {g:G} {w:World} {a:Act} {d:Nat} (ho:all[i]? = some o) (hg:o.guard=none) (hd:o.dst=some d) (hs:Step P N hp env o v hp') (hH:HRel g w hp) (hE:ERel N g w env a)
  (hK:∀ c g' w',HRel g' w' hp'→VRel g' w' v c→Ext g w g' w'→K (a.put (some d) c) w'):wpOpIn (FR fo) 0 P all.toArray Q i K a w:=by
 obtain ⟨c,g',w',h1,h2,h3,h4⟩:=hs g w a hH hE
 exact op_any ho hg (opIn_value h1 (by rw [hd];exact hK c g' w' h2 h3 h4))
theorem wpOp_stepU [Glob] {all:List Oper} {i:Nat} {o:Oper} {env:Env} {hp hp':Hp} {fo:Option Nat} {Q:Exit→Act→World→Prop} {K:Act→World→Prop} {g:G} {w:World} {a:Act} (ho:all[i]? = some o) (hg:o.guard=none) (hd:o.dst=none) (hs:StepU P N hp env o hp') (hH:HRel g w hp) (hE:ERel N g w env a)
  (hK:∀ g' w',HRel g' w' hp'→Ext g w g' w'→K a w'):wpOpIn (FR fo) 0 P all.toArray Q i K a w:=by
 obtain ⟨g',w',h1,h2,h3⟩:=hs g w a hH hE
 refine op_any ho hg (opIn_skip h1 ?_)
 rw [hd]
 exact hK g' w' h2 h3
theorem opas_go [Glob] (hT:TOk P T) (hkn:∀ t n,kn t=n+2→P.stoodInHeld t=false∧P.eqGuardType P.depth t=false) {all:List Oper} {m:Nat} {o2 o3 o4 o5 o6:Oper} {t t6:TypeId} {x y:Operand} {d2 d3 d4 d5:Nat} (hO:MoOk all m o2 o3 o4 o5 o6 t t6 x y d2 d3 d4 d5)
  (hN2:Nat.blt d2 N.n=true) (hN3:Nat.blt d3 N.n=true) (hN4:Nat.blt d4 N.n=true) (hN5:Nat.blt d5 N.n=true)
  {kt et:TypeId} {ti ei:TI} {i j:Nat} {ks vs ks1 vs1 a0:List AV} {k v0 v1 z:AV} {fd:Bool} {env:Env} (ht:T t=some ti) (hk:ti.kind=.mp kt et) (het:T et=some ei) (hze:zeroShape P et=true) (hza:zeroAV ei=some z)
  (hx:∀ s2 s3 s4 s5,ev (envO d2 d3 d4 d5 v0 v1 (.int .i64 j) s2 s3 s4 s5 env) x=.mp i) (hy:∀ s2 s3 s4 s5,ev (envO d2 d3 d4 d5 v0 v1 (.int .i64 j) s2 s3 s4 s5 env) y=k) (hpl:plainV k=true) (hs:eqV kn T 20 kt k k=some true)
  (ha:At hp i (.mp ks vs)) (hm:MEnt (eqV kn T 20 kt) ks vs k z ks1 (v0::.int .i64 j::vs1)) (hput:Put hp i (.mp ks1 vs1) hp1) (ha1:At hp1 i (.mp ks1 vs1)) (hj:j<vs1.length) (hput2:Put hp1 i (.mp ks1 (vs1.set j v1)) hp2)
  (hl:MLook (eqV kn T 20 kt) ks vs k a0) (hlv:lookV ei a0=some (v0,fd)) (hl1:MLook (eqV kn T 20 kt) ks1 vs1 k [v0])
  (h3:∀ hp,Step P N hp [(d2,v0)] o3 v1 hp) (h5:∀ hp,Step P N hp [(d4,.tup [v0,.int .i64 j])] o5 (.int .i64 j) hp)
  {fo:Option Nat} {Qc:Exit→Act→World→Prop} {g0:G} {w0:World} {df:_} (hQ:∀ g' w' a',HRel g' w' hp2→ERel N g' w' (envO d2 d3 d4 d5 v0 v1 (.int .i64 j) false false false false env) a'→Ext g0 w0 g' w'→a'.defers=df→Qc .normal a' w') :
  ∀ (n:Nat) (s2 s3 s4 s5:Bool) (fuel:Nat) (listed:Array Bool) (g:G) (w:World) (a:Act),(1+s2.not.toNat+s3.not.toNat+s4.not.toNat+s5.not.toNat=n)→n≤fuel→(s3=true→s2=true)→(s5=true→s4=true)→Lst all listed (sOf m s2 s3 s4 s5) →
   HRel g w (bif s4 then hp1 else hp)→ERel N g w (envO d2 d3 d4 d5 v0 v1 (.int .i64 j) s2 s3 s4 s5 env) a→Ext g0 w0 g w→a.defers=df→wpAnyIn (FR fo) 0 P .any all.toArray Qc fuel listed a w
 | 0,s2,s3,s4,s5,_,_,_,_,_,h,_,_,_,_,_,_,_,_=>by omega
 | n+1,s2,s3,s4,s5,0,_,_,_,_,_,h,_,_,_,_,_,_,_=>by omega
 | n+1,s2,s3,s4,s5,fuel+1,listed,g,w,a,hn,hf,h32,h54,hL,hH,hE,hX,hd=>by
   obtain ⟨olen,oi2,oi3,oi4,oi5,oi6,og2,og3,og4,og5,og6,op2,op4,op6,oq2,oq3,oq4,oq5,oq6,oback,oe3,oe5,oe6a,oe6b,n23,n24,n25,n34,n35,n45⟩:=hO
   have hsz:=fun (s2 s3 s4 s5:Bool) (fuel:Nat) (listed:Array Bool) (g:G) (w:World) (a:Act)=>opas_go (fo:=fo) hT hkn ⟨olen,oi2,oi3,oi4,oi5,oi6,og2,og3,og4,og5,og6,op2,op4,op6,oq2,oq3,oq4,oq5,oq6,oback,oe3,oe5,oe6a,oe6b,n23,n24,n25,n34,n35,n45⟩ hN2 hN3 hN4 hN5 ht hk het hze hza hx hy hpl hs ha hm hput ha1 hj hput2 hl hlv hl1 h3 h5 hQ n s2 s3 s4 s5 fuel listed g w a
   refine any_step hL oback (j0:=m+4) (by omega) (by simp [sOf]) fun q o ho hsq hedge=>?_
   have hq:q<m+5:=by
    have:=(List.getElem?_eq_some_iff.1 ho).1
    omega
   have hqm:m≤q:=by
    rcases Nat.lt_or_ge q m with h|h
    ·simp [sOf,h] at hsq
    ·exact h
   have hq5:q=m∨q=m+1∨q=m+2∨q=m+3∨q=m+4:=by omega
   have s_m:∀ a b c d,sOf m a b c d m=a:=fun a b c d=>by simp [sOf]
   have s_1:∀ a b c d,sOf m a b c d (m+1)=b:=fun a b c d=>by unfold sOf;rw [if_neg (by omega),if_neg (by omega),if_pos rfl]
   have s_2:∀ a b c d,sOf m a b c d (m+2)=c:=fun a b c d=>by unfold sOf;rw [if_neg (by omega),if_neg (by omega),if_neg (by omega),if_pos rfl]
   have s_3:∀ a b c d,sOf m a b c d (m+3)=d:=fun a b c d=>by unfold sOf;rw [if_neg (by omega),if_neg (by omega),if_neg (by omega),if_neg (by omega),if_pos rfl]
   rcases hq5 with rfl|rfl|rfl|rfl|rfl
   ·rw [oi2] at ho
    cases ho
    rw [s_m] at hsq
    subst hsq
    have hs3:s3=false:=by cases s3 with
     | false=>rfl
     | true=>exact absurd (h32 rfl) (by simp)
    subst hs3
    have hstep:Step P N (bif s4 then hp1 else hp) (envO d2 d3 d4 d5 v0 v1 (.int .i64 j) false false s4 s5 env) o2 v0 (bif s4 then hp1 else hp):=by
     cases s4 with
     | false=>exact st_lookup hT hkn op2 ht hk het hze (.inl (.inl ⟨i,hx ..,ha⟩)) (hy ..) hs hl hlv
     | true=>exact st_lookup hT hkn op2 ht hk het hze (.inl (.inl ⟨i,hx ..,ha1⟩)) (hy ..) hs hl1 (show lookV ei [v0]=some (v0,true) from rfl)
    refine wpOp_step oi2 og2 oq2 hstep hH hE fun c g' w' hH' hV hX'=>?_
    refine hsz true false s4 s5 fuel _ g' w' _ (by revert hn;cases s4 <;> cases s5 <;> simp <;> omega) (by omega) (fun h=>rfl) h54 ?_ hH' ?_ (hX.trans hX') hd
    ·exact hL.set (by omega) (s_m ..) fun r hr hne=>by unfold sOf;(repeat' split) <;> first|rfl|omega
    ·refine erel_le ((hE.ext hX').put hN2 hV) fun s=>.inl ?_
     rw [get_cons,get_envO,get_envO]
     by_cases h:d2=s
     ·rw [if_pos h,if_pos h];rfl
     ·rw [if_neg h,if_neg h,if_neg h]
   ·rw [oi3] at ho
    cases ho
    rw [s_1] at hsq
    subst hsq
    have hs2:s2=true:=by
     obtain ⟨e,he,hb,hon⟩:=oe3
     have:=hedge e he hb
     rw [hon,s_m] at this
     exact this
    subst hs2
    have hE3:ERel N g w [(d2,v0)] a:=erel_le hE fun s=>by
     rw [get_cons,get_envO]
     by_cases h:d2=s
     ·rw [if_pos h,if_pos h];exact .inl rfl
     ·rw [if_neg h];exact .inr rfl
    refine wpOp_step oi3 og3 oq3 (h3 _) hH hE3 fun c g' w' hH' hV hX'=>?_
    refine hsz true true s4 s5 fuel _ g' w' _ (by revert hn;cases s4 <;> cases s5 <;> simp <;> omega) (by omega) (fun h=>rfl) h54 ?_ hH' ?_ (hX.trans hX') hd
    ·exact hL.set (by omega) (s_1 ..) fun r hr hne=>by unfold sOf;(repeat' split) <;> first|rfl|omega
    ·refine erel_le ((hE.ext hX').put hN3 hV) fun s=>.inl ?_
     rw [get_cons,get_envO,get_envO]
     by_cases h:d3=s
     ·rw [if_pos h,if_neg (by rw [← h];exact n23),if_pos h];rfl
     ·rw [if_neg h,if_neg h,if_neg h]
   ·rw [oi4] at ho
    cases ho
    rw [s_2] at hsq
    subst hsq
    have hs5:s5=false:=by cases s5 with
     | false=>rfl
     | true=>exact absurd (h54 rfl) (by simp)
    subst hs5
    have hstep:Step P N hp (envO d2 d3 d4 d5 v0 v1 (.int .i64 j) s2 s3 false false env) o4 (.tup [v0,.int .i64 j]) hp1:=st_ent hT hkn op4 ht hk het hze hza (hx ..) ha (hy ..) hpl hs hm hput
    refine wpOp_step oi4 og4 oq4 hstep hH hE fun c g' w' hH' hV hX'=>?_
    refine hsz s2 s3 true false fuel _ g' w' _ (by revert hn;cases s2 <;> cases s3 <;> simp <;> omega) (by omega) h32 (fun h=>rfl) ?_ hH' ?_ (hX.trans hX') hd
    ·exact hL.set (by omega) (s_2 ..) fun r hr hne=>by unfold sOf;(repeat' split) <;> first|rfl|omega
    ·refine erel_le ((hE.ext hX').put hN4 hV) fun s=>.inl ?_
     rw [get_cons,get_envO,get_envO]
     by_cases h:d4=s
     ·rw [if_pos h,if_neg (by rw [← h];exact n24),if_neg (by rw [← h];exact n34),if_pos h];rfl
     ·rw [if_neg h,if_neg h,if_neg h]
   ·rw [oi5] at ho
    cases ho
    rw [s_3] at hsq
    subst hsq
    have hs4:s4=true:=by
     obtain ⟨e,he,hb,hon⟩:=oe5
     have:=hedge e he hb
     rw [hon,s_2] at this
     exact this
    subst hs4
    have hE5:ERel N g w [(d4,.tup [v0,.int .i64 j])] a:=erel_le hE fun s=>by
     rw [get_cons,get_envO]
     by_cases h:d4=s
     ·rw [if_pos h,if_neg (by rw [← h];exact n24),if_neg (by rw [← h];exact n34),if_pos h];exact .inl rfl
     ·rw [if_neg h];exact .inr rfl
    refine wpOp_step oi5 og5 oq5 (h5 _) hH hE5 fun c g' w' hH' hV hX'=>?_
    refine hsz s2 s3 true true fuel _ g' w' _ (by revert hn;cases s2 <;> cases s3 <;> simp <;> omega) (by omega) h32 (fun h=>rfl) ?_ hH' ?_ (hX.trans hX') hd
    ·exact hL.set (by omega) (s_3 ..) fun r hr hne=>by unfold sOf;(repeat' split) <;> first|rfl|omega
    ·refine erel_le ((hE.ext hX').put hN5 hV) fun s=>.inl ?_
     rw [get_cons,get_envO,get_envO]
     by_cases h:d5=s
     ·rw [if_pos h,if_neg (by rw [← h];exact n25),if_neg (by rw [← h];exact n35),if_neg (by rw [← h];exact n45),if_pos h];rfl
     ·rw [if_neg h,if_neg h,if_neg h]
   ·rw [oi6] at ho
    cases ho
    have hs3:s3=true:=by
     obtain ⟨e,he,hb,hon⟩:=oe6a
     have:=hedge e he hb
     rw [hon,s_1] at this
     exact this
    have hs5:s5=true:=by
     obtain ⟨e,he,hb,hon⟩:=oe6b
     have:=hedge e he hb
     rw [hon,s_3] at this
     exact this
    have hs2:=h32 hs3
    have hs4:=h54 hs5
    subst hs2 hs3 hs4 hs5
    have e5:ev (envO d2 d3 d4 d5 v0 v1 (.int .i64 j) true true true true env) (.tmp d5)=.int .i64 (j:Int):=by
     show get _ d5=_
     rw [get_envO,if_neg n25,if_neg n35,if_neg n45,if_pos rfl]
     rfl
    have e3:ev (envO d2 d3 d4 d5 v0 v1 (.int .i64 j) true true true true env) (.tmp d3)=v1:=by
     show get _ d3=_
     rw [get_envO,if_neg n23,if_pos rfl]
     rfl
    refine wpOp_stepU oi6 og6 oq6 (st_ents op6 (hx ..) ha1 e5 e3 hj hput2) hH hE fun g' w' hH' hX'=>?_
    have hL2:=hL.set (s':=fun _=>true) (i:=m+4) (by omega) rfl fun r hr hne=>by
     simp only [sOf]
     have:r<m+4:=by omega
     split <;> (try rfl);split <;> (try rfl);split <;> (try rfl);split <;> (try rfl);split <;> (try rfl);omega
    refine any_done hL2 (fun _ _=>rfl) ?_
    refine hQ g' w' a hH' ?_ (hX.trans hX') hd
    refine erel_le (hE.ext hX') fun s=>?_
    rw [get_envO,get_envO]
    by_cases q2:d2=s
    ·rw [if_pos q2];exact .inr rfl
    ·rw [if_neg q2,if_neg q2]
     by_cases q3:d3=s
     ·rw [if_pos q3];exact .inr rfl
     ·rw [if_neg q3,if_neg q3]
      by_cases q4:d4=s
      ·rw [if_pos q4];exact .inr rfl
      ·rw [if_neg q4,if_neg q4]
       by_cases q5:d5=s
       ·rw [if_pos q5];exact .inr rfl
       ·rw [if_neg q5,if_neg q5];exact .inl rfl
end
end Go.Vsi
/-! text R18 -/
namespace Go.Vsi
def mpChk (nn:Nat) (all:List Oper) (m:Nat) (o2 o3 o4 o5 o6:Oper) (x y:Operand) (d2 d3 d4 d5:Nat):Bool :=
 (drawBack all&&((List.range m).all fun i=>edgeTo o2 i)&&((List.range m).all fun i=>edgeTo o4 i)&&(edgeTo o3 m&&edgeTo o5 (m+2)&&edgeTo o6 (m+1)&&edgeTo o6 (m+3))) &&
 ((Nat.blt d2 nn&&Nat.blt d3 nn&&Nat.blt d4 nn&&Nat.blt d5 nn)&&(!Nat.beq d2 d3&&!Nat.beq d2 d4&&!Nat.beq d2 d5&&!Nat.beq d3 d4&&!Nat.beq d3 d5&&!Nat.beq d4 d5)) &&
 ((opNe x (.tmp d2)&&opNe x (.tmp d3)&&opNe x (.tmp d4)&&opNe x (.tmp d5))&&(opNe y (.tmp d2)&&opNe y (.tmp d3)&&opNe y (.tmp d4)&&opNe y (.tmp d5)))
inductive MpE [Glob] (P:Program) (T:TypeId→Option TI) (kn:TypeId→Nat) (N:FN) (n0:Nat) (all:List Oper) (m:Nat) (bot top:RE) (base:Heap) (k:Nat) (loc:Heap) (K:RE→Heap→Nat→Heap→Prop):Prop where
 | mk {o2 o3 o4 o5 o6:Oper} {t t6 kt et:TypeId} {x y:Operand} {d2 d3 d4 d5:Nat} {ti ei:TI} {i j:Nat} {ks vs ks1 vs1:List AV} {kv v0 v1 z:AV} {base1 loc1 base2 loc2:Heap}
   (hall:all.drop m=[o2,o3,o4,o5,o6]) (p2:o2.op=.lookup t x y false) (p4:o4.op=.mapEntry t x y) (p6:o6.op=.entryStore t6 x (.tmp d5) (.tmp d3))
   (q2:o2.dst=some d2) (q3:o3.dst=some d3) (q4:o4.dst=some d4) (q5:o5.dst=some d5) (q6:o6.dst=none)
   (g2:o2.guard=none) (g3:o3.guard=none) (g4:o4.guard=none) (g5:o5.guard=none) (g6:o6.guard=none)
   (hchk:mpChk N.n all m o2 o3 o4 o5 o6 x y d2 d3 d4 d5=true)
   (ht:T t=some ti) (hk:ti.kind=.mp kt et) (het:T et=some ei) (hza:zeroAV ei=some z)
   (hx:av n0 top bot x=.mp i) (hy:avF n0 top bot y=some kv) (hpl:plainV kv=true) (hs:eqV kn T 20 kt kv kv=some true)
   (hm:MEnt (eqV kn T 20 kt) ks vs kv z ks1 (v0::.int .i64 j::vs1)) (hj:j<vs1.length)
   (hown:OwnB n0 base loc i (.mp ks vs) (.mp ks1 vs1) base1 loc1)
   (h3:Res n0 base (stepS kn T n0 [(d2,.v v0)] [] [] o3.op) (.reg (.v v1))) (h5:Res n0 base (stepS kn T n0 [(d4,.v (.tup [v0,.int .i64 j]))] [] [] o5.op) (.reg (.v (.int .i64 j))))
   (hown2:OwnB n0 base1 loc1 i (.mp ks1 vs1) (.mp ks1 (vs1.set j v1)) base2 loc2)
   (a:K ((d2,.v .junk)::(d3,.v .junk)::(d4,.v .junk)::(d5,.v .junk)::top) base2 k loc2):MpE P T kn N n0 all m bot top base k loc K
theorem mfind_snoc {eq:AV→AV→Option Bool} {k:AV} (hs:eq k k=some true):∀ ks:List AV,mfind eq k ks=some none→mfind eq k (ks++[k])=some (some ks.length)
 | [],_=>by simp only [List.nil_append,mfind,hs];rfl
 | x::l,h=>by
   simp only [mfind] at h
   simp only [List.cons_append,mfind]
   split at h
   ·cases h
   ·have h2:mfind eq k l=some none:=by
     split at h
     ·cases h
     ·assumption
     ·cases h
    rw [mfind_snoc hs l h2]
    simp
   ·cases h
theorem ev_opNe [Glob] {x:Operand} {d:Nat} {v:AV} {env:Env} (h:opNe x (.tmp d)=true):ev ((d,v)::env) x=ev env x:=by
 cases x with
 | tmp s =>
   have hne:d≠s:=fun e=>opNe_spec h (by rw [e])
   show get ((d,v)::env) s=get env s
   exact get_put_ne _ _ hne
 | _=>rfl
section
variable {P:Program} {N:FN} {n0:Nat} {T:TypeId→Option TI} {kn:TypeId→Nat}
theorem ev_envO [Glob] {x:Operand} {d2 d3 d4 d5:Nat} {v0 v1 J:AV} {env:Env} (h2:opNe x (.tmp d2)=true) (h3:opNe x (.tmp d3)=true) (h4:opNe x (.tmp d4)=true) (h5:opNe x (.tmp d5)=true) (s2 s3 s4 s5:Bool):ev (envO d2 d3 d4 d5 v0 v1 J s2 s3 s4 s5 env) x=ev env x:=by
 unfold envO
 rw [ev_opNe h2,ev_opNe h3,ev_opNe h4,ev_opNe h5]
theorem vw_mp [Glob] (he0:Env0 P T kn) (hm:P.follows .mixedOrders=true) {id m:Nat} {ops:List Oper} {W:List Nat} {bot top:RE} {base:Heap} {k:Nat} {loc:Heap} (hn:base.length=n0) {Q:Exit→Env→Hp→Prop} {K:RE→Heap→Nat→Heap→Prop}
  (hK:∀ top b1 k loc,b1.length=n0→K top b1 k loc→Q .normal (trE n0 (top++bot)) ⟨b1,k,loc⟩)
  (h:wpD W P kn T N n0 bot ops base loc (ops.take m) (fun top b1 k loc=>MpE P T kn N n0 ops m bot top b1 k loc K) [] top base k loc) :
  VW P N (.region id ops.toArray true) Q (trE n0 (top++bot)) ⟨base,k,loc⟩:=by
 obtain ⟨ks,h1,h2⟩:=wpD_sound (N:=N) (k0:=k) (W:=W) he0 hn (ops.take m) [] top base k loc hn (fun _=>⟨rfl,Tame.refl _ _ _⟩) h
 simp only [List.reverse_nil,List.nil_append,Bool.and_eq_true] at h1
 intro g w a hH hE
 refine wpIn_region_any hm ?_
 have hA:∃ top b1 k' loc',MpE P T kn N n0 ops m bot top b1 k' loc' K:=by
  obtain ⟨ds,-,-,h3⟩:=h2
  obtain ⟨hs,-,-,h4⟩:=h3.at_
  obtain ⟨top,b1,k',loc',-,-,-,h5⟩:=h4
  exact ⟨top,b1,k',loc',h5⟩
 obtain ⟨topA,bA,kA,locA,hA⟩:=hA
 obtain ⟨o2,o3,o4,o5,o6,x,y,d2,d3,d4,d5,hall,hchk⟩:∃ o2 o3 o4 o5 o6 x y d2 d3 d4 d5,ops.drop m=[o2,o3,o4,o5,o6]∧mpChk N.n ops m o2 o3 o4 o5 o6 x y d2 d3 d4 d5=true:=by
  cases hA with
  | mk hall p2 p4 p6 q2 q3 q4 q5 q6 g2 g3 g4 g5 g6 hchk=>exact ⟨_,_,_,_,_,_,_,_,_,_,_,hall,hchk⟩
 have hsplit:ops.take m++[o2,o3,o4,o5,o6]=ops:=by rw [← hall];exact List.take_append_drop m ops
 have hml:(ops.take m).length=m:=by
  have:=congrArg List.length hall
  simp at this
  simp
  omega
 have hlen:ops.length=m+5:=by
  have:=congrArg List.length hsplit
  rw [List.length_append,hml] at this
  simp at this
  omega
 unfold mpChk at hchk
 simp only [Bool.and_eq_true,List.all_eq_true,List.mem_range] at hchk
 obtain ⟨⟨⟨⟨⟨c1,c2⟩,c4⟩,⟨⟨c3,c5⟩,c6⟩,c7⟩,-⟩,-⟩:=hchk
 have hback:∀ j oj,ops[j]? = some oj→∀ e∈oj.after.toList,Region.binds .any e=true→e.on<j:=by
  intro j oj hj e he hb
  unfold drawBack at c1
  simp only [List.all_eq_true,List.mem_range] at c1
  have:=c1 j (List.getElem?_eq_some_iff.1 hj).1
  simp only [hj,List.all_eq_true] at this
  simpa [hb] using this e he
 have hget:∀ q,q<5→ops[m+q]? = [o2,o3,o4,o5,o6][q]? := by
  intro q _
  have h0:(ops.take m++[o2,o3,o4,o5,o6])[m+q]? = ops[m+q]? := by rw [hsplit]
  rw [← h0,List.getElem?_append_right (by omega),hml,Nat.add_sub_cancel_left]
 have key:=draw_head (l:=ops.take m) (tl:=[o2,o3,o4,o5,o6]) (Qc:=Lift N Q g w a.defers) (I:=IW W base k loc) (k:=k) (fun X=>⟨loc,X,Tq.refl _,rfl⟩) (closOf ops) ks (by rw [hsplit];exact h1.1) (by rw [hsplit];exact h1.2) (fun j oj hj ho=>by
  rw [hsplit] at ho
  rw [hml] at hj ⊢
  have hlt:=(List.getElem?_eq_some_iff.1 ho).1
  have hj5:j=m+0∨j=m+1∨j=m+2∨j=m+3∨j=m+4:=by omega
  rcases hj5 with rfl|rfl|rfl|rfl|rfl
  ·have hg:=hget 0 (by omega)
   simp only [Nat.add_zero] at hg
   rw [hg] at ho
   cases ho
   left
   intro i hi
   exact edgeTo_spec (c2 i hi)
  ·rw [hget 1 (by omega)] at ho
   cases ho
   right
   obtain ⟨e,e1,e2,e3⟩:=edgeTo_spec c3
   exact ⟨e,e1,e2,by omega⟩
  ·rw [hget 2 (by omega)] at ho
   cases ho
   left
   intro i hi
   exact edgeTo_spec (c4 i hi)
  ·rw [hget 3 (by omega)] at ho
   cases ho
   right
   obtain ⟨e,e1,e2,e3⟩:=edgeTo_spec c5
   exact ⟨e,e1,e2,by omega⟩
  ·rw [hget 4 (by omega)] at ho
   cases ho
   right
   obtain ⟨e,e1,e2,e3⟩:=edgeTo_spec c6
   exact ⟨e,e1,e2,by omega⟩) (K:=KD n0 bot fun top b1 k loc=>MpE P T kn N n0 ops m bot top b1 k loc K) (by rw [hsplit];exact h2) hH hE (fun env' hp' g' w' a' fuel listed hKD r1 r2 r3 r4 hH' hE' hx' hd'=>by
  obtain ⟨top',b1,k1,loc1,hap,rfl,hb1,hA'⟩:=hKD
  have hE2:ERel N g' w' (trE n0 (top'++bot)) a':=⟨hE'.1,fun s=>hap s _ _ _ (hE'.rel s),hE'.ro,hE'.glob⟩
  rw [hsplit] at r1 ⊢
  rw [hml] at r2 r3
  cases hA' with
  | mk hall' p2 p4 p6 q2 q3 q4 q5 q6 g2 g3 g4 g5 g6 hchk ht hk het hza hx hy hpl hs hm2 hj hown h3 h5 hown2 ak =>
    rename_i t t6 kt et x y d2 d3 d4 d5 ti ei i j ks vs ks1 vs1 kv v0 v1 z base1 loc1 base2 loc2
    rw [hall] at hall'
    simp only [List.cons.injEq,and_true] at hall'
    obtain ⟨rfl,rfl,rfl,rfl,rfl⟩:=hall'
    unfold mpChk at hchk
    simp only [Bool.and_eq_true,List.all_eq_true,List.mem_range] at hchk
    obtain ⟨⟨⟨⟨⟨-,-⟩,-⟩,-⟩,⟨⟨⟨u2,u3⟩,u4⟩,u5⟩,⟨⟨⟨⟨n23,n24⟩,n25⟩,n34⟩,n35⟩,n45⟩,⟨⟨⟨x2,x3⟩,x4⟩,x5⟩,⟨⟨y2,y3⟩,y4⟩,y5⟩:=hchk
    have nb:∀ {a b:Nat},(!Nat.beq a b)=true→a≠b:=fun h e=>by subst e;simp at h
    have hxe:=av_ev hx (by simp)
    have hye:ev (trE n0 (top'++bot)) y=kv:=avF_ev hy
    obtain ⟨s1,s2,s3⟩:=hown.at_ (k:=k1) hb1
    obtain ⟨t1,t2,t3⟩:=hown2.at_ (k:=k1) s3
    obtain ⟨a0,fd,hl,hlv,hl1⟩:∃ a0 fd,MLook (eqV kn T 20 kt) ks vs kv a0∧lookV ei a0=some (v0,fd)∧MLook (eqV kn T 20 kt) ks1 vs1 kv [v0]:=by
     cases hm2 with
     | old j v hf hkk hv=>exact ⟨[v0],true,⟨_,hf,hv⟩,rfl,⟨_,hf,hv⟩⟩
     | new hf=>exact ⟨[],false,hf,by simp only [lookV,hza],⟨_,mfind_snoc hs ks hf,by
       have hlv:ks.length=vs.length:=by
        obtain ⟨es,clk,-,-,z2,z3,-⟩:=hH'.rel i _ s1
        have e1:=z2.length
        have e2:=z3.length
        simp at e1 e2
        omega
       rw [hlv]
       simp⟩⟩
    refine opas_go he0.T he0.eq ⟨hlen,hget 0 (by omega),hget 1 (by omega),hget 2 (by omega),hget 3 (by omega),hget 4 (by omega),g2,g3,g4,g5,g6,p2,p4,p6,q2,q3,q4,q5,q6,hback,edgeTo_spec c3,edgeTo_spec c5,edgeTo_spec c6,edgeTo_spec c7,nb n23,nb n24,nb n25,nb n34,nb n35,nb n45⟩ u2 u3 u4 u5 ht hk het (he0.zr _ _ het) hza
     (fun _ _ _ _=>(ev_envO x2 x3 x4 x5 _ _ _ _).trans hxe) (fun _ _ _ _=>(ev_envO y2 y3 y4 y5 _ _ _ _).trans hye) hpl hs s1 hm2 s2 t1 hj t2 hl hlv hl1
     (fun hp=>step_leaf (P:=P) (N:=N) (k:=0) he0 hb1 rfl h3 rfl hp) (fun hp=>step_leaf (P:=P) (N:=N) (k:=0) he0 hb1 rfl h5 rfl hp)
     (g0:=g) (w0:=w) (df:=a.defers) (fun g2 w2 a2 hH2 hE3 hx2 hd2=>⟨_,_,g2,hK _ _ _ _ t3 ak,hH2,hE3,hx2,DRel.of_eq hd2⟩) 5 false false false false fuel listed g' w' a' rfl (by simpa using r4) (by simp) (by simp) ⟨r1,fun q hq=>?_⟩ hH' ?_ hx' hd'
    ·rcases Nat.lt_or_ge q m with h|h
     ·rw [r2 q h]
      simp [sOf,h]
     ·rw [r3 q h]
      unfold sOf
      repeat' split
      all_goals first|rfl|omega
    ·refine erel_le hE2 fun s=>?_
     rw [get_envO]
     by_cases e2:d2=s
     ·rw [if_pos e2];exact .inr rfl
     ·rw [if_neg e2]
      by_cases e3:d3=s
      ·rw [if_pos e3];exact .inr rfl
      ·rw [if_neg e3]
       by_cases e4:d4=s
       ·rw [if_pos e4];exact .inr rfl
       ·rw [if_neg e4]
        by_cases e5:d5=s
        ·rw [if_pos e5];exact .inr rfl
        ·rw [if_neg e5];exact .inl rfl)
 rw [hsplit] at key
 simpa using key
end
end Go.Vsi
/-! text R6 -/
namespace Go.Vsi
abbrev QR:=Exit→RE→RE→Heap→Nat→Heap→Prop
def LS (n0:Nat) (Q:QR):Exit→Env→Hp→Prop :=
 fun e env hp=>∃ top bot base k loc,Apx n0 env (top++bot)∧hp=⟨base,k,loc⟩∧base.length=n0∧Q e top bot base k loc
def VL [Glob] (P:Program) (N:FN) (c:Code) (Q:Exit→Env→Hp→Prop) (env:Env) (H:Hp):Prop :=
 ∀ g w a,HRel g w H→ERel N g w env a→LoopWp (N.fo g) P c (Lift N Q g w a.defers) a w
structure LoopN [Glob] (P:Program) (kn:TypeId→Nat) (T:TypeId→Option TI) (N:FN) (n0:Nat) (c:Code) (Q:QR) (top bot:RE) (base:Heap) (k:Nat) (loc:Heap):Prop where
 h:VL P N c (LS n0 Q) (trE n0 (top++bot)) ⟨base,k,loc⟩
def pickO:List Nat→RE→RE→Option RE
 | [],_,_=>some []
 | t::ts,top,bot=>match rget2 top bot t with
   | some v=>match pickO ts top bot with
     | some l=>some ((t,v)::l)
     | none=>none
   | none=>none
theorem pickO_get {top bot:RE}:∀ {ts:List Nat} {l:RE},pickO ts top bot=some l→∀ {s:Nat} {w:RG},rgetO l s=some w→rget2 top bot s=some w
 | [],l,h,s,w,hg=>by simp only [pickO,Option.some.injEq] at h;subst h;cases hg
 | t::ts,l,h,s,w,hg=>by
   simp only [pickO] at h
   split at h
   ·rename_i v hv
    split at h
    ·rename_i l' hl
     simp only [Option.some.injEq] at h;subst h
     simp only [rgetO] at hg
     cases hb:Nat.beq t s with
     | true =>
       simp only [hb,Option.some.injEq] at hg;subst hg
       have:=Nat.eq_of_beq_eq_true hb
       subst this
       exact hv
     | false=>simp only [hb] at hg;exact pickO_get hl hg
    ·cases h
   ·cases h
def jumpN (Q:QR) (top bot:RE) (base:Heap) (k:Nat) (loc:Heap):Option Code→Prop
 | none=>Q .normal top bot base k loc
 | some .ret=>Q .ret top bot base k loc
 | some (.exit id)=>Q (.exit id) top bot base k loc
 | _=>False
structure RangeN0 [Glob] (P:Program) (N:FN) (n0:Nat) (gf:FuncId) (fs cs:List AV) (ps:Array Tmp) (assign body:Code) (Q:QR) (top bot:RE) (base:Heap) (k:Nat) (loc:Heap):Prop where
 ro:∀ i,N.r=some i→∃ st jp e L,(base++loc)[i]? = some (.loop st jp e L)
 h:∃ (ts:List Nat) (bk:RE) (R:AV→Heap→Prop),pickO ts top bot=some bk∧VCall P gf (appL (appL fs [.clo (.yield (n0+k)) [] []]) cs) ((base++loc)++[.loop .ready none (trE n0 bk) ⟨N.n,ps,assign,body⟩]) R ∧
  ∀ r H',R r H'→∃ base' k' loc' st jp loc'',base'++loc'=H'∧loc'.length=k'∧base'.length=n0∧lget loc' k=some (.loop st jp (trE n0 bk) ⟨N.n,ps,assign,body⟩)∧st≠.busy∧lset loc' k .dead=some loc''∧jumpN Q top bot base' k' loc'' jp
inductive RangeN [Glob] (P:Program) (N:FN) (n0:Nat) (gf:FuncId) (fs cs:List AV) (ps:Array Tmp) (assign body:Code) (Q:QR) (top bot:RE) (base:Heap):Nat→Heap→Prop where
 | mk {k:Nat} {loc:Heap} (h:RangeN0 P N n0 gf fs cs ps assign body Q top bot base k loc):RangeN P N n0 gf fs cs ps assign body Q top bot base k loc
 | tokB {k:Nat} {loc:Heap} (i j:Nat) (e:TypeId) (sz:Nat) {loc1 loc':Heap} {bt:TypeId} {l l':List AV} (hb:lget loc i=some (.box bt l)) (hv:lget l j=some .nils) (hs:lset l j (.sl (some (n0+k)) 0 [])=some l') (hl:snocC loc (.tok e sz 0)=some loc1) (h1:lset loc1 i (.box bt l')=some loc')
   (h:RangeN P N n0 gf fs cs ps assign body Q top bot base (k+1) loc'):RangeN P N n0 gf fs cs ps assign body Q top bot base k loc
 | vecB {k:Nat} {loc:Heap} (i j:Nat) (e:TypeId) (sz:Nat) {loc1 loc':Heap} {bt:TypeId} {l l':List AV} (hb:lget loc i=some (.box bt l)) (hv:lget l j=some .nils) (hs:lset l j (.vs (n0+k) 0)=some l') (hl:snocC loc (.vec e sz [])=some loc1) (h1:lset loc1 i (.box bt l')=some loc')
   (h:RangeN P N n0 gf fs cs ps assign body Q top bot base (k+1) loc'):RangeN P N n0 gf fs cs ps assign body Q top bot base k loc
def wpC [Glob] (P:Program) (kn:TypeId→Nat) (T:TypeId→Option TI) (N:FN) (n0:Nat) (c:Code):QR→RE→RE→Heap→Nat→Heap→Prop :=
 @Code.rec (fun _=>QR→RE→RE→Heap→Nat→Heap→Prop)
  (fun Q top bot base k loc=>Q .normal top bot base k loc)
  (fun _ ops dr Q top bot base k loc=>match ops with
   | ⟨ops⟩=>match dr with
     | false=>wpO P kn T N n0 bot ops ops (fun top base k loc=>Q .normal top bot base k loc) top base k loc
     | true=>DrawN (fun W=>wpD W P kn T N n0 bot ops base loc ops (fun top base k loc=>Q .normal top bot base k loc) [] top base k loc)
       (fun m W=>wpD W P kn T N n0 bot ops base loc (ops.take m) (fun top base k loc=>ApE P T N n0 ops m bot top base k loc (fun top base k loc=>Q .normal top bot base k loc)) [] top base k loc)
       (fun m W=>wpD W P kn T N n0 bot ops base loc (ops.take m) (fun top base k loc=>MpE P T kn N n0 ops m bot top base k loc (fun top base k loc=>Q .normal top bot base k loc)) [] top base k loc))
  (fun _ _ iha ihb Q top bot base k loc=>iha (fun e top bot base k loc=>match e with
   | .normal=>ihb Q top bot base k loc
   | e=>Q e top bot base k loc) top bot base k loc)
  (fun c _ _ ihx ihy Q top bot base k loc=>match c with
   | .tmp t=>match rget2 top bot t with
     | some (.lit true)=>ihx Q top bot base k loc
     | some (.lit false)=>ihy Q top bot base k loc
     | some (.v (.bool b))=>IfN b (ihx Q ((t,.lit true)::top) bot base k loc) (ihy Q ((t,.lit false)::top) bot base k loc)
     | _=>False
   | .const (.bool true)=>ihx Q top bot base k loc
   | .const (.bool false)=>ihy Q top bot base k loc
   | _=>False)
  (fun id _ ih Q top bot base k loc=>ih (fun e top bot base k loc=>match e with
   | .exit i=>match Nat.beq i id with
     | true=>Q .normal top bot base k loc
     | false=>Q (.exit i) top bot base k loc
   | e=>Q e top bot base k loc) top bot base k loc)
  (fun c _ Q top bot base k loc=>LoopN P kn T N n0 c Q top bot base k loc)
  (fun f ps assign body _ _ Q top bot base k loc=>match evR top bot f with
   | some (.v (.clo (.func gf) fs cs))=>RangeN P N n0 gf fs cs ps assign body Q top bot base k loc
   | _=>False)
  (fun id Q top bot base k loc=>Q (.exit id) top bot base k loc)
  (fun _ ih Q top bot base k loc=>ih (fun e top bot base k loc=>match e with
   | .goto _=>False
   | e=>Q e top bot base k loc) top bot base k loc)
  (fun _ Q top bot base k loc=>Q .normal top bot base k loc)
  (fun _ _ _ _ _ _ _=>False)
  (fun Q top bot base k loc=>Q .ret top bot base k loc)
  (fun _ _ _ _ _ _ _=>False) c
section
variable {P:Program} {N:FN} {n0:Nat} {T:TypeId→Option TI} {kn:TypeId→Nat}
theorem vw_mono [Glob] {c:Code} {Q Q':Exit→Env→Hp→Prop} {env:Env} {hp:Hp} (h:VW P N c Q env hp) (hq:∀ e env H,Q e env H→Q' e env H):VW P N c Q' env hp:=h.mono hq
theorem df_mono [Glob] {I:Hp→Prop} {all:List Oper} {K K':Env→Hp→Prop} (hK:∀ e hp,K e hp→K' e hp):∀ {ds:List DOp} {e:Env} {hp:Hp},DF P N I all ds e hp K→DF P N I all ds e hp K'
 | [],e,hp,h=>hK e hp h
 | d::ds,e,hp,⟨hp',h1,h2⟩=>⟨hp',h1,df_mono hK h2⟩
theorem dr_mono [Glob] {I:Hp→Prop} {all rest:List Oper} {ks:List Nat} {K K':Env→Hp→Prop} {e:Env} {hp:Hp} (hK:∀ e hp,K e hp→K' e hp) (h:DR P N I all rest ks e hp K):DR P N I all rest ks e hp K':=by
 obtain ⟨ds,h1,h2,h3⟩:=h
 exact ⟨ds,h1,h2,df_mono hK h3⟩
theorem range_sound [Glob] {f:Operand} {gf:FuncId} {fs cs:List AV} {ps:Array Tmp} {assign body:Code} {Q:QR} {top bot:RE} {base:Heap} (hf:evR top bot f=some (.v (.clo (.func gf) fs cs))) (hn:base.length=n0) {k:Nat} {loc:Heap} (h:RangeN P N n0 gf fs cs ps assign body Q top bot base k loc) :
  VW P N (.rangeFunc f ps assign body) (LS n0 Q) (trE n0 (top++bot)) ⟨base,k,loc⟩:=by
 induction h with
 | mk h =>
   rename_i k loc
   obtain ⟨hro,ts,bk,R,hbk,hc,hR⟩:=h
   subst hn
   intro g w a hH hE
   have hk:loc.length=k:=hH.k
   rw [appL_eq,appL_eq] at hc
   refine vw_range (hp:=⟨base,k,loc⟩) (benv:=trE base.length bk) (R:=R) (evR_ev hf) (fun s=>?_) (fun i hi=>?_) hc (fun r H' hr=>?_) g w a hH hE
   ·cases hb:rgetO bk s with
    | some v =>
      have h1:=rget2_get (n0:=base.length) (pickO_get hbk hb)
      have h2:=rgetO_get (n0:=base.length) hb []
      rw [List.append_nil] at h2
      rw [h1,h2]
      exact Wk.refl _
    | none =>
      have h2:=rgetO_none (n0:=base.length) hb []
      rw [List.append_nil] at h2
      rw [h2]
      exact wk_junk _
   ·obtain ⟨st,jp,e,L,h1⟩:=hro i hi
    exact ⟨st,jp,e,L,h1⟩
   ·obtain ⟨base',k',loc',st,jp,loc'',e1,e2,e3,e4,e5,e6,e7⟩:=hR r H' hr
    have e6':lset loc' k (.loop .exhausted jp (trE base.length bk) ⟨N.n,ps,assign,body⟩)=some (loc'.set k (.loop .exhausted jp (trE base.length bk) ⟨N.n,ps,assign,body⟩)):=lset_some (lset_eq _ _ _ _ e6).2
    have e8:lset (loc'.set k (.loop .exhausted jp (trE base.length bk) ⟨N.n,ps,assign,body⟩)) k .dead=some loc'':=by
     obtain ⟨q1,q2⟩:=lset_eq _ _ _ _ e6
     rw [lset_some (by simpa using q2),q1]
     simp
    have hput:=put_loc (base:=base') (k:=k') e6'
    have hput2:=put_loc (base:=base') (k:=k') e8
    rw [e3] at hput hput2
    refine ⟨⟨base',k',loc'⟩,fun g w hH=>⟨e1,e2⟩,st,jp,?_,e5,_,_,hput,hput2,?_⟩
    ·have:=at_loc (base:=base') (k:=k') e4
     rw [e3] at this
     exact this
    ·cases jp with
     | none=>exact ⟨top,bot,base',k',loc'',Apx.refl _ _,rfl,e3,e7⟩
     | some c =>
       cases c with
       | ret=>exact ⟨top,bot,base',k',loc'',Apx.refl _ _,rfl,e3,e7⟩
       | exit id=>exact ⟨top,bot,base',k',loc'',Apx.refl _ _,rfl,e3,e7⟩
       | _=>exact e7.elim
 | tokB i j e sz hb hv hs hl h1 _ ih =>
   intro g w a hH hE
   rw [snocC_eq _ _ _ hl] at h1
   obtain ⟨g1,f3,f4⟩:=hH.tokBox (at_loc hb) hv (by rw [← hn] at hs;exact hs) (put_loc h1)
   rw [← hE.fo f4]
   exact Code.wpIn_mono (fun _ _ _ hl=>Lift.of_later f4 (DRel.refl _ _ _ _) hl) (ih g1 w a f3 (hE.ext f4))
 | vecB i j e sz hb hv hs hl h1 _ ih =>
   intro g w a hH hE
   rw [snocC_eq _ _ _ hl] at h1
   obtain ⟨g1,f3,f4⟩:=hH.vecBox (at_loc hb) hv (by rw [← hn] at hs;exact hs) (put_loc h1)
   rw [← hE.fo f4]
   exact Code.wpIn_mono (fun _ _ _ hl=>Lift.of_later f4 (DRel.refl _ _ _ _) hl) (ih g1 w a f3 (hE.ext f4))
theorem wpC_sound [Glob] (he:Env0 P T kn) (hm:P.follows .mixedOrders=true):∀ (c:Code) (Q:QR) (top bot:RE) (base:Heap) (k:Nat) (loc:Heap),base.length=n0→wpC P kn T N n0 c Q top bot base k loc→VW P N c (LS n0 Q) (trE n0 (top++bot)) ⟨base,k,loc⟩
 | .skip,Q,top,bot,base,k,loc,hn,h=>vw_skip ⟨top,bot,base,k,loc,Apx.refl _ _,rfl,hn,h⟩
 | .label _,Q,top,bot,base,k,loc,hn,h=>vw_label ⟨top,bot,base,k,loc,Apx.refl _ _,rfl,hn,h⟩
 | .exit id,Q,top,bot,base,k,loc,hn,h=>vw_exit ⟨top,bot,base,k,loc,Apx.refl _ _,rfl,hn,h⟩
 | .ret,Q,top,bot,base,k,loc,hn,h=>vw_ret ⟨top,bot,base,k,loc,Apx.refl _ _,rfl,hn,h⟩
 | .region id ⟨ops⟩ false,Q,top,bot,base,k,loc,hn,h=>by
   refine vw_region (wpO_sound he ?_ ops top base k loc hn h)
   intro top base k loc hn h
   exact ⟨top,bot,base,k,loc,Apx.refl _ _,rfl,hn,h⟩
 | .region id ⟨ops⟩ true,Q,top,bot,base,k,loc,hn,h=>by
   rcases h with ⟨⟨W,h⟩|⟨m,W,h⟩|⟨m,W,h⟩⟩
   rotate_left
   ·exact vw_ap he hm hn (fun top base k loc hn h=>⟨top,bot,base,k,loc,Apx.refl _ _,rfl,hn,h⟩) h
   ·exact vw_mp he hm hn (fun top base k loc hn h=>⟨top,bot,base,k,loc,Apx.refl _ _,rfl,hn,h⟩) h
   obtain ⟨ks,h1,h2⟩:=wpD_sound (N:=N) (k0:=k) (W:=W) he hn ops [] top base k loc hn (fun _=>⟨rfl,Tame.refl _ _ _⟩) h
   simp only [List.reverse_nil,List.nil_append,Bool.and_eq_true] at h1
   refine vw_draw (I:=IW W base k loc) (fun X=>⟨loc,X,Tq.refl _,rfl⟩) (closOf ops) ks hm h1.1 h1.2 (dr_mono ?_ h2)
   rintro env hp ⟨top,b1,k,loc,e1,rfl,e3,e2⟩
   exact ⟨top,bot,b1,k,loc,e1,rfl,e3,e2⟩
 | .seq a b,Q,top,bot,base,k,loc,hn,h=>by
   refine vw_seq (vw_mono (wpC_sound he hm a _ top bot base k loc hn h) ?_)
   rintro e env hp ⟨top,bot,base,k,loc,h1,rfl,h3,h4⟩
   cases e with
   | normal=>exact vw_env (wpC_sound he hm b Q top bot base k loc h3 h4) h1
   | exit i=>exact ⟨top,bot,base,k,loc,h1,rfl,h3,h4⟩
   | goto i=>exact ⟨top,bot,base,k,loc,h1,rfl,h3,h4⟩
   | ret=>exact ⟨top,bot,base,k,loc,h1,rfl,h3,h4⟩
   | panic i=>exact ⟨top,bot,base,k,loc,h1,rfl,h3,h4⟩
   | outgrown=>exact ⟨top,bot,base,k,loc,h1,rfl,h3,h4⟩
 | .cond c x y,Q,top,bot,base,k,loc,hn,h=>by
   simp only [wpC] at h
   split at h
   ·rename_i t
    split at h
    ·rename_i hc
     exact vw_cond_t (rget2_get hc) (wpC_sound he hm x Q top bot base k loc hn h)
    ·rename_i hc
     exact vw_cond_f (rget2_get hc) (wpC_sound he hm y Q top bot base k loc hn h)
    ·rename_i b hc
     refine vw_cond (rget2_get hc) (fun e=>?_) (fun e=>?_)
     ·subst e
      exact vw_env (wpC_sound he hm x Q _ bot base k loc hn (h.t rfl)) (fun s=>Wk.of_eq (lit_get hc s))
     ·subst e
      exact vw_env (wpC_sound he hm y Q _ bot base k loc hn (h.f rfl)) (fun s=>Wk.of_eq (lit_get hc s))
    ·exact h.elim
   ·exact vw_cond_t rfl (wpC_sound he hm x Q top bot base k loc hn h)
   ·exact vw_cond_f rfl (wpC_sound he hm y Q top bot base k loc hn h)
   ·exact h.elim
 | .block id c,Q,top,bot,base,k,loc,hn,h=>by
   refine vw_block (vw_mono (wpC_sound he hm c _ top bot base k loc hn h) ?_)
   rintro e env hp ⟨top,bot,base,k,loc,h1,rfl,h3,h4⟩
   cases e with
   | normal=>exact ⟨top,bot,base,k,loc,h1,rfl,h3,h4⟩
   | exit i =>
     simp only [blockQ] at h4 ⊢
     split at h4
     ·rename_i hb;simp only [hb];exact ⟨top,bot,base,k,loc,h1,rfl,h3,h4⟩
     ·rename_i hb;simp only [hb];exact ⟨top,bot,base,k,loc,h1,rfl,h3,h4⟩
   | goto i=>exact ⟨top,bot,base,k,loc,h1,rfl,h3,h4⟩
   | ret=>exact ⟨top,bot,base,k,loc,h1,rfl,h3,h4⟩
   | panic i=>exact ⟨top,bot,base,k,loc,h1,rfl,h3,h4⟩
   | outgrown=>exact ⟨top,bot,base,k,loc,h1,rfl,h3,h4⟩
 | .loop c,Q,top,bot,base,k,loc,hn,h=>fun g w a hH hE=>(h.h g w a hH hE).loop
 | .scope c,Q,top,bot,base,k,loc,hn,h=>by
   refine vw_scope (vw_mono (wpC_sound he hm c _ top bot base k loc hn h) ?_)
   rintro e env hp ⟨top,bot,base,k,loc,h1,rfl,h3,h4⟩
   cases e with
   | normal=>exact ⟨top,bot,base,k,loc,h1,rfl,h3,h4⟩
   | exit i=>exact ⟨top,bot,base,k,loc,h1,rfl,h3,h4⟩
   | goto i=>exact h4.elim
   | ret=>exact ⟨top,bot,base,k,loc,h1,rfl,h3,h4⟩
   | panic i=>exact ⟨top,bot,base,k,loc,h1,rfl,h3,h4⟩
   | outgrown=>exact ⟨top,bot,base,k,loc,h1,rfl,h3,h4⟩
 | .rangeFunc f ps assign body,Q,top,bot,base,k,loc,hn,h=>by
   simp only [wpC] at h
   split at h
   case h_2=>exact h.elim
   rename_i gf fs cs hf
   exact range_sound hf hn h
 | .goto _,_,_,_,_,_,_,_,h=>h.elim
 | .refuse _,_,_,_,_,_,_,_,h=>h.elim
def Blk.isLoc:Blk→Bool
 | .box _ _=>true
 | .mp _ _=>true
 | .vec _ _ _=>true
 | _=>false
def G.frz (g:G) (n0:Nat) (loc:Heap):G :=
 { g with own:=fun b o=>g.own b o∧∀ j B,loc[j]? = some B→B.isLoc=true→locs g (n0+j) B≠some b }
mutual
inductive Frz (n0:Nat) (loc:Heap):AV→AV→Prop where
 | refl (v:AV):Frz n0 loc v v
 | ptr {j o:Nat} {t:TypeId} {l l' l'':List AV}:lget loc j=some (.box t l)→dropC o l=some l'→FrzL n0 loc l' l''→Frz n0 loc (.ptr (n0+j) o) (.rptr l'')
 | clo {f:Fn} {fs fs' cs cs':List AV}:FrzL n0 loc fs fs'→FrzL n0 loc cs cs'→Frz n0 loc (.clo f fs cs) (.clo f fs' cs')
 | agg {l l':List AV}:FrzL n0 loc l l'→Frz n0 loc (.agg l) (.agg l')
 | tup {l l':List AV}:FrzL n0 loc l l'→Frz n0 loc (.tup l) (.tup l')
 | sl {tok:Option Nat} {n:Nat} {l l':List AV}:FrzL n0 loc l l'→Frz n0 loc (.sl tok n l) (.sl none n l')
 | sx {n:Nat} {l l':List AV}:FrzL n0 loc l l'→Frz n0 loc (.sx n l) (.sx n l')
 | ms {j o n:Nat} {t:TypeId} {l l' l'':List AV}:lget loc j=some (.box t l)→dropC o l=some l'→FrzL n0 loc l' l''→Frz n0 loc (.ms (n0+j) o n) (.sl none n l'')
 | mp {j:Nat} {ks vs ks' vs':List AV}:lget loc j=some (.mp ks vs)→FrzL n0 loc ks ks'→FrzL n0 loc vs vs'→Frz n0 loc (.mp (n0+j)) (.rmp ks' vs')
 | vs {j n sz:Nat} {e:TypeId} {l l':List AV}:lget loc j=some (.vec e sz l)→l.length=n * sz→FrzL n0 loc l l'→Frz n0 loc (.vs (n0+j) n) (.sl none n l')
inductive FrzL (n0:Nat) (loc:Heap):List AV→List AV→Prop where
 | nil:FrzL n0 loc [] []
 | cons {v v':AV} {l l':List AV}:Frz n0 loc v v'→FrzL n0 loc l l'→FrzL n0 loc (v::l) (v'::l')
end
theorem frz_extV (g:G) (w:World) (n0:Nat) (loc:Heap):ExtV g w (g.frz n0 loc) w :=
 ⟨fun _ h=>h,fun _ _=>rfl,fun _ _=>.inl rfl,fun hc ho=>⟨hc,fun q=>ho q.1⟩,fun hb ho=>⟨hb,fun o q=>ho o q.1⟩⟩
mutual
theorem Frz.rel [Glob] {g:G} {w:World} {base:Heap} {k:Nat} {loc:Heap} (hH:HRel g w ⟨base,k,loc⟩):∀ {v v':AV},Frz base.length loc v v'→∀ c,VRel g w v c→VRel (g.frz base.length loc) w v' c
 | _,_,.refl v,c,h=>VRel.extV (frz_extV _ _ _ _) v c h
 | _,_,@Frz.ptr _ _ j o t l l' l'' h1 h2 h3,c,h=>by
   simp only [VRel] at h ⊢
   obtain ⟨hok,rfl⟩:=h
   have hat:(⟨base,k,loc⟩:Hp).all[base.length+j]? = some (.box t l):=at_loc h1
   obtain ⟨cs,e1,e2,e3⟩:=hH.rel _ _ hat
   obtain ⟨hd1,hd2⟩:=dropC_eq _ _ _ h2
   have e2':=e2.drop o
   rw [hd1] at e2'
   have e4:=FrzL.rel hH h3 _ e2'
   refine ⟨_,_,rfl,MRel.mk fun q v hq=>?_⟩
   obtain ⟨c',q1,q2⟩:=e4.get hq
   rw [List.getElem?_drop] at q1
   refine ⟨c',cell_iff.2 ⟨cs,t,_,e1,by simpa using q1⟩,q2,fun ho=>?_⟩
   rw [lget_eq] at h1
   exact ho.2 j _ h1 rfl rfl
 | _,_,.clo h1 h2,c,h=>by
   simp only [VRel] at h ⊢
   obtain ⟨⟨h0,h0'⟩,f',c',hc,e1,e2⟩:=h
   refine ⟨⟨fnOk_ext (frz_extV g w base.length loc) h0,?_⟩,f',c',by rw [fnG_ext (frz_extV g w base.length loc) h0];exact hc,FrzL.rel hH h1 _ e1,FrzL.rel hH h2 _ e2⟩
   rename_i f fs fs' cs cs'
   cases f with
   | yield i =>
     have h0':cs=[]:=h0'
     subst h0'
     cases h2
     exact rfl
   | _=>trivial
 | _,_,.agg h1,c,h=>by
   simp only [VRel] at h ⊢
   obtain ⟨cs,hc,e1⟩:=h
   exact ⟨cs,hc,FrzL.rel hH h1 _ e1⟩
 | _,_,.tup h1,c,h=>by
   simp only [VRel] at h ⊢
   obtain ⟨cs,hc,e1⟩:=h
   exact ⟨cs,hc,FrzL.rel hH h1 _ e1⟩
 | _,_,@Frz.sl _ _ tok n l l' h1,c,h=>by
   simp only [VRel] at h ⊢
   obtain ⟨A,cap,hc,hn,hm,-⟩:=h
   refine ⟨A,cap,hc,hn,?_,fun t e=>by cases e⟩
   rcases hm with rfl|⟨b,o,hA,hm⟩
   ·cases h1;exact .inl rfl
   ·exact .inr ⟨b,o,hA,FrzL.mrel hH h1 b o hm⟩
 | _,_,@Frz.sx _ _ n l l' h1,c,h=>by
   simp only [VRel] at h ⊢
   obtain ⟨A,hc,hm⟩:=h
   refine ⟨A,hc,?_⟩
   rcases hm with rfl|⟨b,o,hA,hm⟩
   ·cases h1;exact .inl rfl
   ·exact .inr ⟨b,o,hA,FrzL.mrel hH h1 b o hm⟩
 | _,_,@Frz.ms _ _ j o n t l l' l'' h1 h2 h3,c,h=>by
   simp only [VRel] at h ⊢
   obtain ⟨hok,cap,hn,rfl⟩:=h
   have hat:(⟨base,k,loc⟩:Hp).all[base.length+j]? = some (.box t l):=at_loc h1
   obtain ⟨cs,e1,e2,e3⟩:=hH.rel _ _ hat
   obtain ⟨hd1,hd2⟩:=dropC_eq _ _ _ h2
   have e2':=e2.drop o
   rw [hd1] at e2'
   have e4:=FrzL.rel hH h3 _ e2'
   refine ⟨_,_,rfl,hn,.inr ⟨_,_,rfl,MRel.mk fun q v hq=>?_⟩,fun t e=>by cases e⟩
   obtain ⟨c',q1,q2⟩:=e4.get hq
   rw [List.getElem?_drop] at q1
   refine ⟨c',cell_iff.2 ⟨cs,t,_,e1,by simpa using q1⟩,q2,fun ho=>?_⟩
   rw [lget_eq] at h1
   exact ho.2 j _ h1 rfl rfl
 | _,_,@Frz.mp _ _ j ks vs ks' vs' h1 h2 h3,c,h=>by
   simp only [VRel] at h ⊢
   obtain ⟨hok,rfl⟩:=h
   have hat:(⟨base,k,loc⟩:Hp).all[base.length+j]? = some (.mp ks vs):=at_loc h1
   obtain ⟨es,clk,e1,hbn,e2,e3,e4⟩:=hH.rel _ _ hat
   rw [lget_eq] at h1
   exact ⟨_,es,clk,rfl,e1,hbn,fun o ho=>ho.2 j _ h1 rfl rfl,FrzL.rel hH h2 _ e2,FrzL.rel hH h3 _ e3⟩
 | _,_,@Frz.vs _ _ j n sz e l l' h1 h2 h3,c,h=>by
   simp only [VRel] at h ⊢
   obtain ⟨hok,hle,A,cap,rfl,hn,hA⟩:=h
   have hat:(⟨base,k,loc⟩:Hp).all[base.length+j]? = some (.vec e sz l):=at_loc h1
   obtain ⟨q1,q2,q3⟩:=hH.rel _ _ hat
   rw [lget_eq] at h1
   obtain ⟨r1,r2⟩:=hA (by rw [q1,q2,h2])
   subst r1 r2
   have e4:∀ cs,LRel g w l cs→LRel (g.frz base.length loc) w l' cs:=fun cs hcs=>FrzL.rel hH h3 _ hcs
   rcases q3 with ⟨p1,p2,p3⟩|⟨b,cs,p1,p2,p3,p4,p5,p6,p7⟩
   ·subst p2
    cases h3
    exact ⟨_,_,rfl,hn,.inl rfl,fun t e=>by cases e⟩
   ·refine ⟨_,_,rfl,hn,.inr ⟨b,0,by rw [p1];rfl,MRel.mk fun q v hq=>?_⟩,fun t e=>by cases e⟩
    ·obtain ⟨c',s1,s2⟩:=(e4 _ p6).get hq
     refine ⟨c',cell_iff.2 ⟨cs,e,_,p2,?_⟩,s2,fun ho=>ho.2 j _ h1 rfl p1⟩
     rw [List.getElem?_take] at s1
     split at s1
     ·simpa using s1
     ·cases s1
theorem FrzL.rel [Glob] {g:G} {w:World} {base:Heap} {k:Nat} {loc:Heap} (hH:HRel g w ⟨base,k,loc⟩):∀ {l l':List AV},FrzL base.length loc l l'→∀ cs,LRel g w l cs→LRel (g.frz base.length loc) w l' cs
 | _,_,.nil,cs,h=>by simpa [LRel] using h
 | _,_,.cons h1 h2,cs,h=>by
   simp only [LRel] at h ⊢
   obtain ⟨c,r,hc,e1,e2⟩:=h
   exact ⟨c,r,hc,Frz.rel hH h1 c e1,FrzL.rel hH h2 r e2⟩
theorem FrzL.mrel [Glob] {g:G} {w:World} {base:Heap} {k:Nat} {loc:Heap} (hH:HRel g w ⟨base,k,loc⟩):∀ {l l':List AV},FrzL base.length loc l l'→∀ b o,MRel g w l b o→MRel (g.frz base.length loc) w l' b o
 | _,_,.nil,b,o,h=>by simp [MRel]
 | _,_,.cons h1 h2,b,o,h=>by
   simp only [MRel] at h ⊢
   obtain ⟨⟨c,e1,e2,e3⟩,e4⟩:=h
   exact ⟨⟨c,e1,Frz.rel hH h1 c e2,fun q=>e3 q.1⟩,FrzL.mrel hH h2 b (o+1) e4⟩
end
theorem HRel.frz [Glob] {g:G} {w:World} {base:Heap} {k:Nat} {loc:Heap} (h:HRel g w ⟨base,k,loc⟩) {H:Heap} {g0:G} {w0:World} (h0:HRel g0 w0 (Hp.of H)) (hl:base.length=H.length)
  (hb:∀ (i:Nat) B,base[i]? = some B→H[i]? = some B∨B.below H.length):HRel ((g.frz base.length loc).cut H.length) w (Hp.of base):=by
 have hz:(Hp.of base).all=base:=by simp [Hp.of,Hp.all]
 have hc:=HRel.cutBase h0 h hl hb
 have hall:∀ (i:Nat) B,base[i]? = some B→(⟨base,k,loc⟩:Hp).all[i]? = some B:=fun i B hi=>by
  unfold Hp.all
  rw [List.getElem?_append_left (List.getElem?_eq_some_iff.1 hi).1,hi]
 have hne:∀ {i:Nat} {B:Blk} {b:Nat},base[i]? = some B→locs g i B=some b→∀ j C,loc[j]? = some C→C.isLoc=true→locs g (base.length+j) C≠some b:=by
  intro i B b hi hb j C hj hC e
  have hj':(⟨base,k,loc⟩:Hp).all[base.length+j]? = some C:=at_loc (by rw [lget_eq];exact hj)
  have:=h.inj i (base.length+j) B _ b (hall i B hi) hj' hb e
  have:=(List.getElem?_eq_some_iff.1 hi).1
  omega
 have hx:=frz_extV (g.cut H.length) w base.length loc
 have heq:(g.frz base.length loc).cut H.length=(g.cut H.length).frz base.length loc:=by
  unfold G.frz G.cut
  simp only [G.mk.injEq,true_and,and_true]
  funext b o
  congr 1
 rw [heq]
 refine ⟨hc.n,hc.k,fun i B hi=>?_,fun b o hb=>hc.lt b o hb.1,hc.pend,hc.inj,fun p hp=>MRel.extV hx _ _ _ (hc.glob p hp)⟩
 have hr:=hc.rel i B hi
 have hi':=hi
 rw [hz] at hi
 exact hr.keepV hx (at_ok hc hi') (fun _ _=>rfl) rfl (fun b o hb ho=>⟨ho,fun j C hj hC e=>hne (b:=b) hi (by cases B <;> exact hb) j C hj hC (by cases C <;> exact e)⟩)
theorem Ext.frz {g g':G} {w w':World} {n0:Nat} {loc:Heap} (h:Ext g w g' w'):Ext g w (g'.frz n0 loc) w' :=
 ⟨h.n,h.pend,h.ok,h.blk,h.tk,fun b o hb ho=>h.own b o hb ho.1,h.os,h.tape,h.output,h.drawn,h.size,h.same,h.cells⟩
end
end Go.Vsi
/-! text R7 -/
namespace Go.Vsi
def rvR (T:TypeId→Option TI) (n0:Nat) (top bot:RE) (loc:Heap):ResultVar→Option AV
 | .tmp t=>match rget2 top bot t with
   | some (.v a)=>some a
   | some (.lp j o)=>some (.ptr (n0+j) o)
   | some (.lit b)=>some (.bool b)
   | none=>none
 | .cell t ty=>match rget2 top bot t with
   | some (.lp j o)=>match lget loc j with
     | some (.box _ l)=>match dropC o l with
       | some l'=>match T ty with
         | some ti=>loadC ti l'
         | none=>none
       | none=>none
     | _=>none
   | _=>none
def rvRs (T:TypeId→Option TI) (n0:Nat) (top bot:RE) (loc:Heap):List ResultVar→Option (List AV)
 | []=>some []
 | r::rs=>match rvR T n0 top bot loc r with
   | some v=>match rvRs T n0 top bot loc rs with
     | some vs=>some (v::vs)
     | none=>none
   | none=>none
inductive EndN (H base:Heap) (loc:Heap) (u:AV) (R:AV→Heap→Prop):Prop where
 | cut (len:base.length=H.length)
   (low:∀ (i:Nat) B,base[i]? = some B→H[i]? = some B∨B.below H.length)
   (res:∃ u' r,Frz base.length loc u u'∧Wk u' r∧below H.length r∧R r base)
 | keep (r:AV) (hw:Wk u r) (h:R r (base++loc))
def endQ (T:TypeId→Option TI) (n0:Nat) (rs:List ResultVar) (H:Heap) (R:AV→Heap→Prop):QR:=fun e top bot base _ loc=>match e with
 | .ret=>match rvRs T n0 top bot loc rs with
   | some [v]=>EndN H base loc v R
   | some vs=>EndN H base loc (.tup vs) R
   | none=>False
 | .normal=>match rvRs T n0 top bot loc rs with
   | some [v]=>EndN H base loc v R
   | some vs=>EndN H base loc (.tup vs) R
   | none=>False
 | _=>False
def argRE:Nat→List AV→RE
 | _,[]=>[]
 | i,v::l=>(i,.v v)::argRE (i+1) l
def argO:Nat→List AV→Option RE
 | _,[]=>some []
 | i,v::l=>match argO (i+1) l with
   | some r=>some ((i,.v v)::r)
   | none=>none
theorem argO_eq:∀ (l:List AV) (i:Nat) (r:RE),argO i l=some r→r=argRE i l
 | [],_,_,h=>by simp only [argO,Option.some.injEq] at h;exact h.symm
 | v::l,i,r,h=>by
   simp only [argO] at h
   split at h
   ·rename_i r' hr
    simp only [Option.some.injEq] at h;subst h
    rw [argO_eq l (i+1) r' hr];rfl
   ·cases h
theorem argRE_tr (n0:Nat):∀ (l:List AV) (i:Nat),trE n0 (argRE i l)=argEnv i l
 | [],_=>rfl
 | v::l,i=>by simp [argRE,trE,argEnv,tr,argRE_tr n0 l (i+1)]
section
variable {P:Program} {N:FN} {n0:Nat} {T:TypeId→Option TI} {kn:TypeId→Nat}
theorem rvRs_RVs [Glob] {top bot:RE} {base:Heap} {k:Nat} {loc:Heap} {env:Env} (hn:base.length=n0) (ha:Apx n0 env (top++bot)):∀ {rs:List ResultVar} {vs:List AV},rvRs T n0 top bot loc rs=some vs →
  ∀ {g:G} {w:World} {a:Act} (_:TOk P T),HRel g w ⟨base,k,loc⟩→ERel N g w env a→∃ cs:List Value,(rs.mapM (rvF a)).run P w=.ok cs w∧LRel g w vs cs
 | [],vs,h,g,w,a,hT,hH,hE=>by
   simp only [rvRs,Option.some.injEq] at h;subst h
   exact ⟨[],by simp,by simp [LRel]⟩
 | r::rs,vs,h,g,w,a,hT,hH,hE=>by
   simp only [rvRs] at h
   split at h
   ·rename_i v hv
    split at h
    ·rename_i vs' hvs
     simp only [Option.some.injEq] at h;subst h
     have hE':ERel N g w (trE n0 (top++bot)) a:=⟨hE.1,fun s=>ha s _ _ _ (hE.rel s),hE.ro,hE.glob⟩
     have hrv:RV T (trE n0 (top++bot)) ⟨base,k,loc⟩ r v:=by
      cases r with
      | tmp t =>
        simp only [rvR] at hv
        have:∃ v',rget2 top bot t=some v'∧v=tr n0 v':=by
         split at hv <;> simp only [Option.some.injEq,reduceCtorEq] at hv <;> subst hv <;> exact ⟨_,‹_›,rfl⟩
        obtain ⟨v',hv',rfl⟩:=this
        simp only [RV];rw [rget2_get hv'];exact nf_ne
      | cell t ty =>
        simp only [rvR] at hv
        split at hv
        ·rename_i j o hv'
         split at hv
         ·rename_i u l hg
          split at hv
          ·rename_i l' hd
           split at hv
           ·rename_i ti ht
            refine ⟨n0+j,o,u,l,l',ti,rget2_get hv',?_,hd,ht,hv⟩
            rw [← hn];exact at_loc hg
           ·cases hv
          ·cases hv
         ·cases hv
        ·cases hv
     obtain ⟨c,h1,h2⟩:=rv_run hT hH hE' hrv
     obtain ⟨cs,h3,h4⟩:=rvRs_RVs hn ha hvs hT hH hE
     refine ⟨c::cs,?_,by simp only [LRel];exact ⟨c,cs,rfl,h2,h4⟩⟩
     rw [List.mapM_cons,Sem.run_bind,h1,Result.andThen_ok,Sem.run_bind,h3]
     rfl
    ·cases h
   ·cases h
theorem results_of {fn:Func} {a:Act} {w:World} {g:G} {vs:List AV} {cs:List Value} (h1:(fn.results.toList.mapM (rvF a)).run P w=.ok cs w) (h2:LRel g w vs cs) :
  ∃ c,(results fn a.tmps).run P w=.ok c w∧VRel g w (tupOf vs) c:=by
 refine ⟨if hz:cs.toArray.size=1 then cs.toArray[0] else .tuple cs.toArray,?_,?_⟩
 ·have e:results fn a.tmps=(do
    let vs ← fn.results.mapM (rvF a)
    pure (if h:vs.size=1 then vs[0] else .tuple vs)):=rfl
  rw [e,Array.mapM_eq_mapM_toList,Sem.run_bind,Sem.run_map,h1]
  rfl
 ·match vs,cs,h2 with
  | [],cs,h2 =>
    simp only [LRel] at h2
    subst h2
    simp [tupOf,VRel,LRel]
  | [v],cs,h2 =>
    simp only [LRel] at h2
    obtain ⟨c,r,rfl,h3,rfl⟩:=h2
    simpa [tupOf] using h3
  | v::u::vs,cs,h2 =>
    have hl:=h2.length
    simp only [tupOf,VRel]
    refine ⟨cs.toArray,?_,h2⟩
    rw [dif_neg]
    simp only [List.size_toArray,hl,List.length_cons]
    omega
theorem fn_gen [Glob] (he:Env0 P T kn) (hm:P.follows .mixedOrders=true) {F:FuncId} {fn:Func} {c:Code} {args:List AV} {H:Heap} {R:AV→Heap→Prop} (hf:P.funcs[F]? = some fn) (hnm:(fn.name == "runtime.NumGoroutine")=false) (hb:fn.body=some c)
  (hN:args.length≤fn.ntmps) {re:RE} (hre:argO 0 args=some re) (h:Closed H→belowL H.length args→wpC P kn T ⟨fn.ntmps,none⟩ H.length c (endQ T H.length fn.results.toList H R) re [] H 0 []):VCall P F args H R:=by
 obtain rfl:=argO_eq _ _ _ hre
 refine ⟨⟨fn,hf,hnm,by simp [hb]⟩,fun g w as hH hl=>calls_of_FR (o:=none) (n:=0) (callsIn_of_wp_marks hf hb trivial ?_ rfl)⟩
 have hgn:g.n=H.length:=by rw [hH.n];simp [Hp.of]
 have hw:=wpC_sound he hm c _ _ _ _ _ _ rfl (h (closed_of hH) (hgn▸LRel.below _ _ hl))
 rw [List.append_nil,argRE_tr] at hw
 refine Code.wpIn_mono ?_ (hw g w _ hH (argEnv_rel hl hN hH.glob))
 rintro e a' w' ⟨env',hp',g',⟨top,bot,base,k,loc,hap,rfl,hbl,hq⟩,hH',hE',hx,hds⟩
 have key:∀ vs,rvRs T H.length top bot loc fn.results.toList=some vs→EndN H base loc (tupOf vs) R→LeavesInM (FR none) 0 P fn a'.tmps (fun e w'=>∃ r H' g'' c',e=.returned c'∧R r H'∧HRel g'' w' (Hp.of H')∧VRel g'' w' r c'∧Ext g w g'' w') a'.defers .returning w':=by
  intro vs hvs hend
  obtain ⟨rs,hds1,hds2,hds3⟩:=hds
  simp only [List.append_nil] at hds1
  rw [hds1]
  obtain ⟨x1,x2,x3⟩:=shutAll_ok hds2 (fun r hr=>⟨(hds3 r hr).1,(hds3 r hr).2.1⟩) hx
  refine leaves_marks hds2 (fun r hr=>(hds3 r hr).2.1) ?_
  have hH'':=x3 _ hH'
  have hE'':ERel ⟨fn.ntmps,none⟩ g' (shutAll rs w') env' a':=⟨hE'.1,fun s=>VRel.extV x2 _ _ (hE'.rel s),hE'.ro,fun p hp=>MRel.extV x2 _ _ _ (hE'.glob p hp)⟩
  obtain ⟨cs,h1,h2⟩:=rvRs_RVs (N:=⟨fn.ntmps,none⟩) hbl hap hvs he.T hH'' hE''
  obtain ⟨c',h3,h4⟩:=results_of h1 h2
  cases hend with
  | cut hlen hlow hres =>
    obtain ⟨u',r,hfz,hwk,hbr,hR⟩:=hres
    refine ⟨c',h3,r,base,(g'.frz base.length loc).cut H.length,c',rfl,hR,HRel.frz hH'' hH hlen hlow,?_,x1.frz.cut (by omega)⟩
    exact VRel.cut r c' (hwk _ _ _ (hfz.rel hH'' c' h4)) hbr
  | keep r hwk hR=>exact ⟨c',h3,r,base++loc,g',c',rfl,hR,hH''.of,hwk _ _ _ h4,x1⟩
 cases e with
 | ret =>
   simp only [endQ] at hq
   split at hq
   ·rename_i v hvs;exact key [v] hvs hq
   ·rename_i vs hne hvs;exact key vs hvs (by
     have:tupOf vs=.tup vs:=by
      match vs,hne with
      | [],_=>rfl
      | [v],hne=>exact (hne v rfl).elim
      | _::_::_,_=>rfl
     rw [this];exact hq)
   ·exact hq.elim
 | normal =>
   simp only [endQ] at hq
   split at hq
   ·rename_i v hvs;exact key [v] hvs hq
   ·rename_i vs hne hvs;exact key vs hvs (by
     have:tupOf vs=.tup vs:=by
      match vs,hne with
      | [],_=>rfl
      | [v],hne=>exact (hne v rfl).elim
      | _::_::_,_=>rfl
     rw [this];exact hq)
   ·exact hq.elim
 | exit i=>exact hq.elim
 | goto i=>exact hq.elim
 | panic i=>exact hq.elim
 | outgrown=>exact hq.elim
def detR (H:Heap) (v:AV):AV→Heap→Prop:=fun r H'=>H'=H∧r=v
theorem EndN.det {H:Heap} {loc:Heap} {u v:AV} (hb:below H.length v) (hw:Wk u v):EndN H H loc u (detR H v) :=
 .cut rfl (fun _ _ h=>.inl h) ⟨u,v,.refl u,hw,hb,rfl,rfl⟩
theorem EndN.detF {H:Heap} {loc:Heap} {u u' v:AV} (hb:below H.length v) (hf:Frz H.length loc u u') (hw:Wk u' v):EndN H H loc u (detR H v) :=
 .cut rfl (fun _ _ h=>.inl h) ⟨u',v,hf,hw,hb,rfl,rfl⟩
theorem fn_det [Glob] (he:Env0 P T kn) (hm:P.follows .mixedOrders=true) {F:FuncId} {fn:Func} {c:Code} {args:List AV} {H:Heap} {v:AV} (hf:P.funcs[F]? = some fn) (hnm:(fn.name == "runtime.NumGoroutine")=false) (hb:fn.body=some c)
  (hN:args.length≤fn.ntmps) {re:RE} (hre:argO 0 args=some re) (h:Closed H→belowL H.length args→wpC P kn T ⟨fn.ntmps,none⟩ H.length c (endQ T H.length fn.results.toList H (detR H v)) re [] H 0 []):VDet P F args H v :=
 fn_gen he hm hf hnm hb hN hre h
def subR (n0:Nat) (top bot:RE):RE→Prop
 | []=>True
 | (i,w)::l=>(∃ v,rget2 top bot i=some v∧Wk (tr n0 v) (tr n0 w))∧subR n0 top bot l
theorem subR_get {top bot:RE}:∀ {l:RE},subR n0 top bot l→∀ {s:Nat} {w:RG},rgetO l s=some w→Wk (get (trE n0 (top++bot)) s) (tr n0 w)
 | [],_,s,w,h=>by cases h
 | (i,w')::l,h,s,w,hg=>by
   simp only [rgetO] at hg
   cases hb:Nat.beq i s with
   | true =>
     simp only [hb,Option.some.injEq] at hg;subst hg
     have:=Nat.eq_of_beq_eq_true hb
     subst this
     obtain ⟨v,h1,h2⟩:=h.1
     rw [rget2_get h1];exact h2
   | false=>simp only [hb] at hg;exact subR_get h.2 hg
def hasK:RE→Nat→Bool
 | [],_=>false
 | (i,_)::l,t=>match Nat.beq i t with
   | true=>true
   | false=>hasK l t
def disjK:RE→RE→Bool
 | _,[]=>true
 | top,(i,_)::l=>match hasK top i with
   | true=>false
   | false=>disjK top l
theorem hasK_none {t:Nat}:∀ {l:RE},hasK l t=false→rgetO l t=none
 | [],_=>rfl
 | (i,_)::l,h=>by
   simp only [hasK] at h
   simp only [rgetO]
   cases hb:Nat.beq i t with
   | true=>simp [hb] at h
   | false=>simp only [hb] at h;exact hasK_none h
theorem disjK_none {top:RE}:∀ {bk:RE},disjK top bk=true→∀ {s:Nat} {w:RG},rgetO bk s=some w→rgetO top s=none
 | [],_,s,w,h=>by cases h
 | (i,v)::l,hd,s,w,h=>by
   simp only [disjK] at hd
   cases hk:hasK top i with
   | true=>simp [hk] at hd
   | false =>
     simp only [hk] at hd
     simp only [rgetO] at h
     cases hb:Nat.beq i s with
     | true=>have:=Nat.eq_of_beq_eq_true hb;subst this;exact hasK_none hk
     | false=>simp only [hb] at h;exact disjK_none hd h
def belowRE (n0 n:Nat):RE→Prop
 | []=>True
 | (_,v)::l=>below n (tr n0 v)∧belowRE n0 n l
theorem belowRE_get {n:Nat}:∀ {l:RE},belowRE n0 n l→∀ {s:Nat} {w:RG},rgetO l s=some w→below n (tr n0 w)
 | [],_,s,w,h=>by cases h
 | (i,v)::l,hb,s,w,h=>by
   simp only [rgetO] at h
   cases hi:Nat.beq i s with
   | true=>simp only [hi,Option.some.injEq] at h;subst h;exact hb.1
   | false=>simp only [hi] at h;exact belowRE_get hb.2 h
structure RoundN {σ:Type} (inv:σ→Prop) (ms:σ→Nat) (st:σ→RE) (lc:σ→Heap) (bk:RE) (n0:Nat) (base:σ→Heap) (k:Nat) (m:Nat) (top bot:RE) (base':Heap) (loc':Heap):Prop where
 h:∃ s',inv s'∧ms s'<m∧subR n0 top bot (st s')∧((bot=bk∧disjK top bk=true)∨subR n0 top bot bk)∧base'=base s'∧∃ ex,loc'=lc s'++ex∧(ex=[]∨belowRE n0 (n0+k) (st s')∧belowH (n0+k) (lc s'))
def roundQ {σ:Type} (inv:σ→Prop) (ms:σ→Nat) (st:σ→RE) (lc:σ→Heap) (bk:RE) (n0:Nat) (base:σ→Heap) (k:Nat) (m:Nat) (Q:QR):QR:=fun e top bot base' k' loc'=>match e with
 | .normal=>RoundN inv ms st lc bk n0 base k m top bot base' loc'
 | e=>Q e top bot base' k' loc'
theorem loop_B [Glob] (he:Env0 P T kn) (hm:P.follows .mixedOrders=true) {σ:Type} (inv:σ→Prop) (ms:σ→Nat) (st:σ→RE) (bs lc:σ→Heap) (bk:RE) (s0:σ) {c:Code} {Q:QR} {top bot:RE} {base:Heap} {k:Nat} {loc:Heap}
  (hn:∀ s,inv s→(bs s).length=n0) (hcl:∀ s,inv s→Closed (bs s)) (ts:List Nat) (hbk:pickO ts top bot=some bk) (h0:inv s0) (hst:subR n0 top bot (st s0)) (hbase:base=bs s0) (hloc:loc=lc s0) (hlen:∀ s,inv s→(lc s).length=k)
  (round:∀ s,inv s→wpC P kn T N n0 c (roundQ inv ms st lc bk n0 bs k (ms s) Q) (st s) bk (bs s) k (lc s)):LoopN P kn T N n0 c Q top bot base k loc:=by
 refine ⟨?_⟩
 subst hloc hbase
 intro g w a hH hE
 have hbkb:∀ s v,rgetO bk s=some v→below (n0+k) (tr n0 v):=by
  intro s v hv
  have h1:=rget2_get (n0:=n0) (pickO_get hbk hv)
  have h2:=VRel.below _ _ (hE.rel s)
  rw [h1,hH.n] at h2
  simp only [hn s0 h0] at h2
  exact h2
 let J:Nat→Act→World→Prop:=fun n a' w'=>∃ s g',inv s∧ms s=n∧HRel g' w' ⟨bs s,k,lc s⟩∧ERel N g' w' (trE n0 (st s++bk)) a'∧Ext g w g' w'∧DRel w a.defers g' w' a'.defers
 have hget:∀ (l bk:RE) (s:Nat),get (trE n0 (l++bk)) s=match rgetO l s with
   | some v=>tr n0 v
   | none=>match rgetO bk s with
     | some v=>tr n0 v
     | none=>.junk:=by
  intro l bk s
  rw [trE_append]
  cases hl:rgetO l s with
  | some v=>simp only;exact rgetO_get hl _
  | none =>
    simp only
    rw [rgetO_none hl]
    cases hb:rgetO bk s with
    | some v=>simp only;have:=rgetO_get (n0:=n0) hb [];simpa using this
    | none=>simp only;have:=rgetO_none (n0:=n0) hb [];simp only [List.append_nil] at this;rw [this];rfl
 refine LoopWp.inv (fun a' w'=>∃ n,J n a' w') (fun a' w'=>by classical exact if h:∃ n,J n a' w' then Classical.choose (least h) else 0) ⟨ms s0,s0,g,h0,rfl,hH,⟨hE.1,fun s=>?_,hE.ro,hE.glob⟩,Ext.refl g w,DRel.refl _ _ _ _⟩ ?_
 ·rw [hget]
  cases hl:rgetO (st s0) s with
  | some v=>simp only;exact subR_get hst hl _ _ _ (hE.rel s)
  | none =>
    simp only
    cases hb:rgetO bk s with
    | some v=>simp only;rw [← rget2_get (n0:=n0) (pickO_get hbk hb)];exact hE.rel s
    | none=>simp [VRel]
 intro a1 w1 hex
 have hJ:=(Classical.choose_spec (least hex)).1
 obtain ⟨s1,g1,hI1,hms1,hH1,hE1,hx1,hd1⟩:=hJ
 have hr:=wpC_sound he hm c _ _ _ _ _ _ (hn s1 hI1) (round s1 hI1) g1 w1 a1 hH1 hE1
 rw [hE.fo hx1] at hr
 refine Code.wpIn_mono ?_ hr
 rintro e a2 w2 ⟨env2,hp2,g2,⟨top2,bot2,base2,k2,loc2,hap,rfl,hn2,q⟩,hH2,hE2,hx2,hd2⟩
 have other:e≠.normal→Q e top2 bot2 base2 k2 loc2→Lift N (LS n0 Q) g w a.defers e a2 w2:=fun _ hq =>
  ⟨env2,_,g2,⟨top2,bot2,base2,k2,loc2,hap,rfl,hn2,hq⟩,hH2,hE2,hx1.trans hx2,hd1.trans hx2 hx1.size hd2⟩
 cases e with
 | normal =>
   obtain ⟨s',hi',hms',hsub,hbk',rfl,ex,rfl,hbel⟩:=q
   have hns:=hn s' hi'
   have hE3:ERel N g2 w2 (trE n0 (st s'++bk)) a2:=by
    refine ⟨hE2.1,fun s=>?_,hE2.ro,hE2.glob⟩
    have h2:=hap s _ _ _ (hE2.rel s)
    rw [hget]
    cases hl:rgetO (st s') s with
    | some v=>simp only;exact subR_get hsub hl _ _ _ h2
    | none =>
      simp only
      cases hb:rgetO bk s with
      | none=>simp [VRel]
      | some v =>
        simp only
        rcases hbk' with ⟨rfl,hdj⟩|hsb
        ·rw [hget,disjK_none hdj hb] at h2
         simp only [hb] at h2
         exact h2
        ·exact subR_get hsb hb _ _ _ h2
   have hlc:=hlen s' hi'
   have hex2:∃ m,m<ms s1∧J m a2 w2:=by
    rcases hbel with rfl|⟨hb1,hb2⟩
    ·have hk2:k2=k:=by have:=hH2.k;simp only [List.append_nil] at this;omega
     subst hk2
     rw [List.append_nil] at hH2
     exact ⟨ms s',hms',s',g2,hi',rfl,hH2,hE3,hx1.trans hx2,hd1.trans hx2 hx1.size hd2⟩
    ·have hcut:=hH2.cutLoc hlc (hcl s' hi') (by rw [hns];exact hb2)
     have hgn:g.n≤(bs s').length+k:=by rw [hH.n,hns];simp only [hn s0 h0];exact Nat.le_refl _
     have hxc:=(hx1.trans hx2).cut hgn
     refine ⟨ms s',hms',s',g2.cut ((bs s').length+k),hi',rfl,hcut,⟨hE3.1,fun s=>VRel.cut _ _ (hE3.rel s) ?_,fun i hi=>?_,glob_cut hE3.glob⟩,hxc,?_⟩
     ·rw [hget]
      rw [hns]
      cases hl:rgetO (st s') s with
      | some v=>simp only;exact belowRE_get hb1 hl
      | none =>
        simp only
        cases hb:rgetO bk s with
        | some v=>simp only;exact hbkb s v hb
        | none=>simp [below]
     ·have h1:=hE.ro i hi
      exact ⟨Nat.lt_of_lt_of_le h1.1 hgn,fun q=>(hE3.ro i hi).2 q.1⟩
     ·obtain ⟨rs,d1,d2,d3⟩:=hd1.trans hx2 hx1.size hd2
      exact ⟨rs,d1,d2,d3⟩
   obtain ⟨m,hmlt,hJm⟩:=hex2
   have hex2:∃ n,J n a2 w2:=⟨m,hJm⟩
   refine ⟨hex2,?_⟩
   simp only [hex,hex2,dif_pos]
   refine Nat.lt_of_le_of_lt ((Classical.choose_spec (least hex2)).2 m hJm) ?_
   rw [hms1] at hmlt
   exact hmlt
 | exit i=>exact other (by simp) q
 | goto l=>exact other (by simp) q
 | ret=>exact other (by simp) q
 | panic ch=>exact other (by simp) q
 | outgrown=>exact other (by simp) q
theorem loop_R [Glob] (he:Env0 P T kn) (hm:P.follows .mixedOrders=true) {σ:Type} (inv:σ→Prop) (ms:σ→Nat) (st:σ→RE) (lc:σ→Heap) (bk:RE) (s0:σ) {c:Code} {Q:QR} {top bot:RE} {base:Heap} {k:Nat} {loc:Heap}
  (hn:base.length=n0) (hcl:Closed base) (ts:List Nat) (hbk:pickO ts top bot=some bk) (h0:inv s0) (hst:subR n0 top bot (st s0)) (hloc:loc=lc s0) (hlen:∀ s,inv s→(lc s).length=k)
  (round:∀ s,inv s→wpC P kn T N n0 c (roundQ inv ms st lc bk n0 (fun _=>base) k (ms s) Q) (st s) bk base k (lc s)):LoopN P kn T N n0 c Q top bot base k loc :=
 loop_B he hm inv ms st (fun _=>base) lc bk s0 (fun _ _=>hn) (fun _ _=>hcl) ts hbk h0 hst rfl hloc hlen round
end
end Go.Vsi
/-! text R8 -/
namespace Go.Vsi
theorem flat_drop {α:Type} {f:α→List AV} {sz:Nat} (hsz:∀ x,(f x).length=sz):∀ (l:List α) (m:Nat) (x:α),l[m]? = some x→∃ r,(l.flatMap f).drop (m * sz)=f x++r
 | [],m,x,h=>by simp at h
 | y::l,0,x,h=>by simp at h;subst h;exact ⟨l.flatMap f,by simp⟩
 | y::l,m+1,x,h=>by
   obtain ⟨r,hr⟩:=flat_drop hsz l m x (by simpa using h)
   refine ⟨r,?_⟩
   rw [List.flatMap_cons,show (m+1) * sz=(f y).length+m * sz by rw [hsz,Nat.add_mul];omega,← List.drop_drop,List.drop_left,hr]
theorem SegN.nth {α:Type} {f:α→List AV} {sz:Nat} {l:List α} {i:Int} {k:List AV→Prop} (d:α) (m:Nat) (hi:i=m) (hm:m<l.length) (hsz:∀ x,(f x).length=sz) (h:k (f (l.getD m d))):SegN (l.flatMap f) (i.toNat * sz) k:=by
 refine ⟨_,?_,h⟩
 have hx:l[m]? = some (l.getD m d):=by simp [List.getElem?_eq_getElem hm]
 obtain ⟨r,hr⟩:=flat_drop hsz l m _ hx
 exact ⟨r,by rw [hi,Int.toNat_natCast,hr]⟩
theorem belowL_append {n:Nat}:∀ (l m:List AV),belowL n (l++m)↔belowL n l∧belowL n m
 | [],m=>by simp [belowL]
 | v::l,m=>by simp [belowL,belowL_append l m,and_assoc]
theorem belowL_flat {α:Type} {f:α→List AV} {n:Nat} (l:List α) (h:∀ x,belowL n (f x)):belowL n (l.flatMap f):=by
 induction l with
 | nil=>simp [belowL]
 | cons x l ih=>simp [belowL_append,h,ih]
theorem flat_length {α:Type} {f:α→List AV} {sz:Nat} (hsz:∀ x,(f x).length=sz) (l:List α):(l.flatMap f).length=l.length * sz:=by
 induction l with
 | nil=>simp
 | cons x l ih=>simp [ih,hsz,Nat.add_mul,Nat.add_comm]
theorem w64 {n:Int} (h:-9223372036854775808≤n∧n≤9223372036854775807):IntKind.i64.wrap n=n:=IntWalk.i64_in n h
section
variable {k:Int→Prop} {x y:Int}
theorem EqN.i64 (h:-9223372036854775808≤x∧x≤9223372036854775807) (a:k x):EqN (IntKind.i64.wrap x) k:=⟨_,IntWalk.i64_in x h,a⟩
theorem EqN.quo (h:0≤x∧x≤9223372036854775807∧1≤y) (a:k (x / y)):EqN (IntKind.i64.wrap (x.tdiv y)) k:=⟨_,IntWalk.i64_quo x y h,a⟩
theorem EqN.rem (h:0≤x) (a:k (x % y)):EqN (x.tmod y) k:=⟨_,Int.tmod_eq_emod_of_nonneg h,a⟩
theorem EqN.shr {b:Nat} (m:Nat) (hy:y=m) (hb:m≤b) (a:k (x / (2:Int) ^ m)):EqN (x.fdiv (2 ^ min y.toNat b)) k:=⟨_,by
 subst hy
 rw [Int.toNat_natCast,Nat.min_eq_left hb,Int.fdiv_eq_ediv_of_nonneg]
 exact Int.pow_nonneg (by omega),a⟩
end
theorem FrzL.refl {n0:Nat} {loc:Heap}:∀ l:List AV,FrzL n0 loc l l
 | []=>.nil
 | v::l=>.cons (.refl v) (FrzL.refl l)
theorem OfsN.at_ {i:Int} {n:Nat} {k:Nat→Prop} (h:0≤i∧i<n) (a:k i.toNat):OfsN i n k:=⟨i.toNat,by omega,by omega,a⟩
theorem VDet.wk [Glob] {P:Program} {F:FuncId} {as as':List AV} {H:Heap} {v:AV} (h:VDet P F as' H v) (hw:WkL as as'):VDet P F as H v :=
 ⟨h.1,fun g w cs hH hl=>h.2 g w cs hH (hw.rel hl)⟩
def rounds [Glob] (P:Program) (kn:TypeId→Nat) (T:TypeId→Option TI) (N:FN) (n0:Nat) (c:Code) (Q:QR) (n:Nat):RE→RE→Heap→Nat→Heap→Prop :=
 @Nat.rec (fun _=>RE→RE→Heap→Nat→Heap→Prop) (fun _ _ _ _ _=>False)
  (fun _ ih top bot base k loc=>wpC P kn T N n0 c (fun e top bot base k loc=>match e with
   | .normal=>ih top bot base k loc
   | e=>Q e top bot base k loc) top bot base k loc) n
section
variable {P:Program} {N:FN} {n0:Nat} {T:TypeId→Option TI} {kn:TypeId→Nat}
theorem rounds_code [Glob] (he:Env0 P T kn) (hm:P.follows .mixedOrders=true) {c:Code} {Q:QR} {g0:G} {w0:World} {ds:List Deferred}:∀ (n:Nat) (top bot:RE) (base:Heap) (k:Nat) (loc:Heap) (g:G) (w:World) (a:Act),base.length=n0→HRel g w ⟨base,k,loc⟩→ERel N g w (trE n0 (top++bot)) a→Ext g0 w0 g w→DRel w0 ds g w a.defers →
  rounds P kn T N n0 c Q n top bot base k loc→LoopWp (N.fo g) P c (Lift N (LS n0 Q) g0 w0 ds) a w
 | 0,_,_,_,_,_,_,_,_,_,_,_,_,_,h=>h.elim
 | n+1,top,bot,base,k,loc,g,w,a,hn,hH,hE,hx,hd,h=>by
   have hw:=wpC_sound he hm c _ top bot base k loc hn h g w a hH hE
   refine LoopWp.peel (Code.wpIn_mono ?_ hw)
   rintro e a2 w2 ⟨env2,hp2,g2,⟨top2,bot2,base2,k2,loc2,hap,rfl,hn2,q⟩,hH2,hE2,hx2,hd2⟩
   have other:e≠.normal→Q e top2 bot2 base2 k2 loc2→Lift N (LS n0 Q) g0 w0 ds e a2 w2:=fun _ hq =>
    ⟨env2,_,g2,⟨top2,bot2,base2,k2,loc2,hap,rfl,hn2,hq⟩,hH2,hE2,hx.trans hx2,hd.trans hx2 hx.size hd2⟩
   cases e with
   | normal =>
     have:=rounds_code he hm n _ _ _ _ _ g2 w2 a2 hn2 hH2 ⟨hE2.1,fun s=>hap s _ _ _ (hE2.rel s),hE2.ro,hE2.glob⟩ (hx.trans hx2) (hd.trans hx2 hx.size hd2) q
     rw [hE.fo hx2] at this
     exact this
   | exit i=>exact other (by simp) q
   | goto l=>exact other (by simp) q
   | ret=>exact other (by simp) q
   | panic ch=>exact other (by simp) q
   | outgrown=>exact other (by simp) q
theorem LoopN.rounds [Glob] (he:Env0 P T kn) (hm:P.follows .mixedOrders=true) (n:Nat) {c:Code} {Q:QR} {top bot:RE} {base:Heap} {k:Nat} {loc:Heap} (hn:base.length=n0) (h:rounds P kn T N n0 c Q n top bot base k loc):LoopN P kn T N n0 c Q top bot base k loc :=
 ⟨fun g w a hH hE=>(rounds_code he hm n top bot base k loc g w a hn hH hE (Ext.refl g w) (DRel.refl _ _ _ _) h)⟩
theorem LoopN.tok [Glob] (t:Nat) (e:TypeId) (sz:Nat) {c:Code} {Q:QR} {top bot:RE} {base:Heap} {k:Nat} {loc loc':Heap} (hn:base.length=n0) (hv:rget2 top bot t=some (.v .nils)) (hl:snocC loc (.tok e sz 0)=some loc')
  (h:LoopN P kn T N n0 c Q ((t,.v (.sl (some (n0+k)) 0 []))::top) bot base (k+1) loc'):LoopN P kn T N n0 c Q top bot base k loc:=by
 refine ⟨fun g w a hH hE=>?_⟩
 obtain ⟨g1,f1,f2,f3,f4⟩:=hH.nilTok e sz
 have hgn:=hH.n
 simp only at hgn
 rw [snocC_eq _ _ _ hl] at h
 have hE':=hE.ext f4
 rw [← hE.fo f4]
 refine LoopWp.mono (h.h g1 w a f3 ⟨hE.1,fun s=>?_,hE'.ro,hE'.glob⟩) (fun _ _ _ hl=>Lift.of_later f4 (DRel.refl _ _ _ _) hl)
 simp only [List.cons_append,trE]
 by_cases hs:t=s
 ·subst hs
  rw [get_put_same]
  have h0:=hE.rel t
  rw [rget2_get hv] at h0
  simp only [tr,VRel] at h0 ⊢
  refine ⟨none,0,h0,Nat.le_refl _,.inl trivial,fun t ht=>?_⟩
  cases ht
  rw [← hn,← hgn]
  refine ⟨f1,by simp,fun _=>?_⟩
  rw [f2]
  simp
 ·rw [get_put_ne _ _ hs]
  exact VRel.ext f4 _ _ (hE.rel s)
theorem LoopN.tokB [Glob] (i j:Nat) (e:TypeId) (sz:Nat) {c:Code} {Q:QR} {top bot:RE} {base:Heap} {k:Nat} {loc loc1 loc':Heap} {bt:TypeId} {l l':List AV} (hn:base.length=n0) (hb:lget loc i=some (.box bt l)) (hv:lget l j=some .nils) (hs:lset l j (.sl (some (n0+k)) 0 [])=some l') (hl:snocC loc (.tok e sz 0)=some loc1) (h1:lset loc1 i (.box bt l')=some loc')
  (h:LoopN P kn T N n0 c Q top bot base (k+1) loc'):LoopN P kn T N n0 c Q top bot base k loc:=by
 refine ⟨fun g w a hH hE=>?_⟩
 rw [snocC_eq _ _ _ hl] at h1
 obtain ⟨g1,f3,f4⟩:=hH.tokBox (at_loc hb) hv (by rw [← hn] at hs;exact hs) (put_loc h1)
 rw [← hE.fo f4]
 exact LoopWp.mono (h.h g1 w a f3 (hE.ext f4)) (fun _ _ _ hl=>Lift.of_later f4 (DRel.refl _ _ _ _) hl)
end
end Go.Vsi
/-! text R9 -/
namespace Go.Vsi
theorem SubN.flat {α:Type} {f:α→List AV} {sz:Nat} {l:List α} {lo n:Nat} {k:List AV→Prop} (hsz:∀ x,(f x).length=sz) (h:lo+n≤l.length) (a:k (((l.drop lo).take n).flatMap f)):SubN (l.flatMap f) (lo * sz) (n * sz) k:=by
 have key:∀ (l:List α) (m:Nat),(l.flatMap f).drop (m * sz)=(l.drop m).flatMap f:=by
  intro l
  induction l with
  | nil=>intro m;simp
  | cons x l ih =>
    intro m
    cases m with
    | zero=>simp
    | succ m =>
      rw [List.flatMap_cons,show (m+1) * sz=(f x).length+m * sz by rw [hsz,Nat.add_mul];omega,← List.drop_drop,List.drop_left,ih]
      rfl
 refine ⟨_,⟨⟨((l.drop lo).drop n).flatMap f,?_⟩,?_⟩,a⟩
 ·rw [key,← List.flatMap_append,List.take_append_drop]
 ·rw [flat_length hsz,List.length_take,List.length_drop,Nat.min_eq_left (by omega)]
end Go.Vsi
/-! text R10 -/
namespace Go.Vsi
theorem bits_of (op:BinOp) (m n r:Nat) (hr:r<9223372036854775808)
  (h:(match op with
   | .and=>BitVec.ofInt 64 (m:Int) &&& BitVec.ofInt 64 (n:Int)
   | .or=>BitVec.ofInt 64 (m:Int) ||| BitVec.ofInt 64 (n:Int)
   | .xor=>BitVec.ofInt 64 (m:Int) ^^^ BitVec.ofInt 64 (n:Int)
   | _=>BitVec.ofInt 64 (m:Int) &&& ~~~BitVec.ofInt 64 (n:Int)).toNat=r):bits op .i64 m n=(r:Int):=by
 unfold bits
 have h2:IntKind.i64.wrap (r:Int)=r:=w64 (by omega)
 rw [← h2,← h]
 cases op <;> rfl
theorem ofInt64 (m:Nat) (h:m<9223372036854775808):(BitVec.ofInt 64 (m:Int)).toNat=m:=by
 rw [BitVec.toNat_ofInt]
 have:((m:Int) % ((2 ^ 64:Nat):Int))=m:=by
  rw [Int.emod_eq_of_lt (by omega) (by have:(2 ^ 64:Nat)=18446744073709551616:=rfl;omega)]
 rw [this];simp
section
variable {x y:Int} {k:Int→Prop}
theorem EqN.and (m n:Nat) (hx:x=m) (hy:y=n) (h:m<9223372036854775808∧n<9223372036854775808) (a:k ((m &&& n:Nat):Int)):EqN (bits .and .i64 x y) k:=by
 subst hx hy
 refine ⟨_,bits_of .and m n _ (Nat.lt_of_le_of_lt Nat.and_le_left h.1) ?_,a⟩
 simp only [BitVec.toNat_and,ofInt64 m h.1,ofInt64 n h.2]
theorem EqN.or (m n:Nat) (hx:x=m) (hy:y=n) (h:m<9223372036854775808∧n<9223372036854775808) (a:k ((m ||| n:Nat):Int)):EqN (bits .or .i64 x y) k:=by
 subst hx hy
 refine ⟨_,bits_of .or m n _ (Nat.or_lt_two_pow (n:=63) h.1 h.2) ?_,a⟩
 simp only [BitVec.toNat_or,ofInt64 m h.1,ofInt64 n h.2]
theorem EqN.shrN {b:Nat} (m n:Nat) (hx:x=m) (hy:y=n) (hb:Nat.ble 63 b=true) (h:n≤63) (a:k ((m >>> n:Nat):Int)):EqN (x.fdiv (2 ^ min y.toNat b)) k:=by
 subst hx hy
 refine ⟨_,?_,a⟩
 rw [Int.toNat_natCast,Nat.min_eq_left (Nat.le_trans h (Nat.le_of_ble_eq_true hb)),Nat.shiftRight_eq_div_pow]
 have:((2:Int) ^ n)=((2 ^ n:Nat):Int):=by simp
 rw [this,Int.fdiv_eq_ediv_of_nonneg _ (Int.natCast_nonneg _)]
 simp
theorem EqN.shlN {b:Nat} (m n:Nat) (hx:x=m) (hy:y=n) (hb:Nat.ble 63 b=true) (h:n≤63) (hr:m <<< n<9223372036854775808) (a:k ((m <<< n:Nat):Int)):EqN (IntKind.i64.wrap (x * 2 ^ min y.toNat b)) k:=by
 subst hx hy
 refine ⟨_,?_,a⟩
 rw [Int.toNat_natCast,Nat.min_eq_left (Nat.le_trans h (Nat.le_of_ble_eq_true hb))]
 rw [Nat.shiftLeft_eq] at hr ⊢
 have:((2:Int) ^ n)=((2 ^ n:Nat):Int):=by simp
 rw [this,← Int.natCast_mul]
 exact w64 (by omega)
theorem EqN.addN (m n:Nat) (hx:x=m) (hy:y=n) (h:m+n<9223372036854775808) (a:k ((m+n:Nat):Int)):EqN (IntKind.i64.wrap (x+y)) k:=by
 subst hx hy
 exact ⟨_,by rw [← Int.natCast_add];exact w64 (by omega),a⟩
theorem EqN.subN (m n:Nat) (hx:x=m) (hy:y=n) (h:n≤m∧m<9223372036854775808) (a:k ((m-n:Nat):Int)):EqN (IntKind.i64.wrap (x-y)) k:=by
 subst hx hy
 exact ⟨_,by rw [← Int.natCast_sub h.1];exact w64 (by omega),a⟩
theorem EqN.mulN (m n:Nat) (hx:x=m) (hy:y=n) (h:m * n<9223372036854775808) (a:k ((m * n:Nat):Int)):EqN (IntKind.i64.wrap (x * y)) k:=by
 subst hx hy
 exact ⟨_,by rw [← Int.natCast_mul];exact w64 (by omega),a⟩
theorem EqN.remN (m n:Nat) (hx:x=m) (hy:y=n) (a:k ((m % n:Nat):Int)):EqN (x.tmod y) k:=by
 subst hx hy
 exact ⟨_,by rw [Int.tmod_eq_emod_of_nonneg (by omega)];simp,a⟩
end
theorem IfN.id {b:Bool} {A B:Prop} (h:IfN b A B):IfN b A B:=h
theorem EqN.id {x:Int} {k:Int→Prop} (h:EqN x k):EqN x k:=h
theorem PtrN.id {n0:Nat} {base:Heap} {i:Nat} {kl:Nat→Prop} {kb:Blk→Prop} (h:PtrN n0 base i kl kb):PtrN n0 base i kl kb:=h
theorem CallN.id [Glob] {P:Program} {F:Fn} {as:List AV} {n0:Nat} {base:Heap} {k:Nat} {loc:Heap} {K:AV→Heap→Nat→Heap→Prop} (h:CallN P F as n0 base k loc K):CallN P F as n0 base k loc K:=h
theorem CallD.id [Glob] {W:List Nat} {P:Program} {F:Fn} {as:List AV} {n0:Nat} {base loc0 b1 loc:Heap} {K:AV→Prop} {K3 K4:AV→Heap→Nat→Heap→Prop} (h:CallD W P F as n0 base loc0 b1 loc K K3 K4):CallD W P F as n0 base loc0 b1 loc K K3 K4:=h
theorem at_loc' {base loc:Heap} {j:Nat} {B:Blk} (X:Heap) (h:lget loc j=some B):((base++loc)++X)[base.length+j]? = some B:=by
 rw [lget_eq] at h
 have hj:=(List.getElem?_eq_some_iff.1 h).1
 rw [List.append_assoc,List.getElem?_append_right (Nat.le_add_right ..),Nat.add_sub_cancel_left,List.getElem?_append_left hj]
 exact h
theorem at_tq {base loc l1:Heap} {j:Nat} {B:Blk} (X:Heap) {W:List Nat} (hq:Tq W loc l1) (h:lget loc j=some B) (hB:B.isTok=false) (hw:inW W j=false):((base++l1)++X)[base.length+j]? = some B:=at_loc' X (hq.get h hB hw)
theorem at_loc0 {base loc:Heap} {j:Nat} {B:Blk} (h:lget loc j=some B):(base++loc)[base.length+j]? = some B:=by
 have:=at_loc' (base:=base) [] h
 rwa [List.append_nil] at this
theorem set_loc' {base loc:Heap} {j:Nat} {B:Blk}:(base++loc).set (base.length+j) B=base++loc.set j B:=by
 rw [List.set_append_right _ _ (Nat.le_add_right ..),Nat.add_sub_cancel_left]
theorem set_base' {base loc:Heap} {i:Nat} {B B':Blk} (h:base[i]? = some B'):(base++loc).set i B=base.set i B++loc :=
 List.set_append_left _ _ (List.getElem?_eq_some_iff.1 h).1
theorem at_base' {base loc:Heap} {i:Nat} {B:Blk} (h:base[i]? = some B):(base++loc)[i]? = some B:=by
 rw [List.getElem?_append_left (List.getElem?_eq_some_iff.1 h).1];exact h
theorem at_set {base:Heap} {i:Nat} {B B':Blk} (h:base[i]? = some B'):(base.set i B)[i]? = some B:=by
 rw [List.getElem?_set_self (List.getElem?_eq_some_iff.1 h).1]
theorem cst0:(0:Int)=((0:Nat):Int):=rfl
theorem cst1:(1:Int)=((1:Nat):Int):=rfl
theorem cst2:(2:Int)=((2:Nat):Int):=rfl
theorem cst3:(3:Int)=((3:Nat):Int):=rfl
theorem cst4:(4:Int)=((4:Nat):Int):=rfl
theorem bnd_andl {m n B:Nat} (h:m<B):m &&& n<B:=Nat.lt_of_le_of_lt Nat.and_le_left h
theorem bnd_andr {m n B:Nat} (h:n<B):m &&& n<B:=Nat.lt_of_le_of_lt Nat.and_le_right h
theorem bnd_or {m n:Nat} (h1:m<9223372036854775808) (h2:n<9223372036854775808):m ||| n<9223372036854775808:=Nat.or_lt_two_pow (n:=63) h1 h2
theorem bnd_or31 {m n:Nat} (h1:m<2147483648) (h2:n<2147483648):m ||| n<2147483648:=Nat.or_lt_two_pow (n:=31) h1 h2
theorem bnd_xor {m n:Nat} (h1:m<9223372036854775808) (h2:n<9223372036854775808):m ^^^ n<9223372036854775808:=Nat.xor_lt_two_pow (n:=63) h1 h2
theorem bnd_xor31 {m n:Nat} (h1:m<2147483648) (h2:n<2147483648):m ^^^ n<2147483648:=Nat.xor_lt_two_pow (n:=31) h1 h2
theorem bnd_shr {m n B:Nat} (h:m<B):m >>> n<B:=by
 rw [Nat.shiftRight_eq_div_pow];exact Nat.lt_of_le_of_lt (Nat.div_le_self _ _) h
theorem bnd_shl {m n:Nat} (h1:m<2147483648) (h2:n≤31):m <<< n<9223372036854775808:=by
 rw [Nat.shiftLeft_eq]
 have:2 ^ n≤2 ^ 31:=Nat.pow_le_pow_right (by decide) h2
 have h3:m * 2 ^ n≤m * 2 ^ 31:=Nat.mul_le_mul_left _ this
 have:(2:Nat) ^ 31=2147483648:=rfl
 omega
theorem bnd_mod {m n B:Nat} (h:m<B):m % n<B:=Nat.lt_of_le_of_lt (Nat.mod_le _ _) h
theorem VCall.mono [Glob] {P:Program} {F:FuncId} {as:List AV} {H:Heap} {R R':AV→Heap→Prop} (h:VCall P F as H R) (hr:∀ r H',R r H'→R' r H'):VCall P F as H R' :=
 ⟨h.1,fun g w a hH hl=>(h.2 g w a hH hl).mono fun e w' ⟨r,H',g',c,h1,h2,h3⟩=>⟨r,H',g',c,h1,hr r H' h2,h3⟩⟩
def setR (H:Heap) (i:Nat) (B:Blk) (v:AV):AV→Heap→Prop:=fun r H'=>H'=H.set i B∧r=v
theorem EndN.setB {H loc:Heap} {i:Nat} {B:Blk} {u v:AV} (hB:B.below H.length) (hb:below H.length v) (hw:Wk u v):EndN H (H.set i B) loc u (setR H i B v) :=
 .cut (by simp) (fun j C hj=>by
  rw [List.getElem?_set] at hj
  split at hj
  ·split at hj
   ·simp only [Option.some.injEq] at hj;subst hj;exact .inr hB
   ·cases hj
  ·exact .inl hj) ⟨u,v,.refl u,hw,hb,rfl,rfl⟩
section
variable {P:Program} {n0:Nat} {base loc:Heap} {k:Nat} {K:AV→Heap→Nat→Heap→Prop}
theorem CallN.setB [Glob] {F:FuncId} {as:List AV} (i:Nat) (B B0:Blk) (v:AV) (base2:Heap) (hi:base[i]? = some B0) (hn:base.length=n0) (hk:loc.length=k) (h:VCall P F as (base++loc) (setR (base++loc) i B v)) (hb:base.set i B=base2) (a:K v base2 k loc):CallN P (.func F) as n0 base k loc K :=
 .gen _ h fun r H' hr=>by
  obtain ⟨rfl,rfl⟩:=hr
  exact ⟨base2,k,loc,by rw [← hb,set_base' hi],hk,by rw [← hb];simpa using hn,a⟩
end
theorem EndN.same {H loc:Heap} {i:Nat} {B:Blk} {u v:AV} (hi:H[i]? = some B) (hb:below H.length v) (hw:Wk u v):EndN H H loc u (setR H i B v) :=
 .cut rfl (fun _ _ h=>.inl h) ⟨u,v,.refl u,hw,hb,by
  obtain ⟨h1,h2⟩:=List.getElem?_eq_some_iff.1 hi
  rw [← h2];exact (List.set_getElem_self h1).symm,rfl⟩
end Go.Vsi
/-! text R11 -/
namespace Go.Vsi
def reB (n0:Nat):RE→RE
 | []=>[]
 | (t,.lit b)::l=>(t,.lit b)::reB n0 l
 | (t,v)::l=>(t,.v (tr n0 v))::reB n0 l
theorem reB_tr (n0 n1:Nat):∀ l:RE,trE n1 (reB n0 l)=trE n0 l
 | []=>rfl
 | (t,.lit b)::l=>by simp only [reB,trE,reB_tr n0 n1 l];rfl
 | (t,.v a)::l=>by simp only [reB,trE,reB_tr n0 n1 l];rfl
 | (t,.lp j o)::l=>by simp only [reB,trE,reB_tr n0 n1 l];rfl
def parRE:List Tmp→List AV→RE→RE
 | p::ps,v::vs,re=>parRE ps vs ((p,.v v)::re)
 | _,_,re=>re
theorem parRE_tr (n1:Nat):∀ (ps:List Tmp) (vs:List AV) (re:RE),trE n1 (parRE ps vs re)=parEnv ps vs (trE n1 re)
 | [],_,re=>by simp [parRE,parEnv]
 | _::_,[],re=>by simp [parRE,parEnv]
 | p::ps,v::vs,re=>by
   simp only [parRE,parEnv,parRE_tr n1 ps vs]
   rfl
def rndQ (H:Heap) (i:Nat) (env:Env) (L:LCode) (R:AV→Heap→Prop):QR:=fun e _ _ base _ _=>RndEnd H i env L R e base
structure RndB [Glob] (P:Program) (kn:TypeId→Nat) (T:TypeId→Option TI) (H:Heap) (i:Nat) (env:Env) (L:LCode) (R:AV→Heap→Prop) (top bot:RE) (base:Heap) (k:Nat) (loc:Heap):Prop where
 h:∃ jp base1,base[i]? = some (.loop .ready jp env L)∧base.set i (.loop .busy jp env L)=base1∧wpC P kn T ⟨L.N,some i⟩ H.length L.body (rndQ H i env L R) top bot base1 k loc
section
variable {P:Program} {T:TypeId→Option TI} {kn:TypeId→Nat}
theorem round_R [Glob] (he:Env0 P T kn) (hm:P.follows .mixedOrders=true) {i n0:Nat} {H:Heap} {jp0:Option Code} {bk:RE} {L:LCode} {as:List AV} {R:AV→Heap→Prop} (hi:H[i]? = some (.loop .ready jp0 (trE n0 bk) L)) (hps:∀ p∈L.ps.toList,p<L.N) (hlen:as.length=L.ps.size)
  (h:wpC P kn T ⟨L.N,some i⟩ H.length L.assign (fun e top bot base k loc=>match e with
   | .normal=>RndB P kn T H i (trE n0 bk) L R top bot base k loc
   | _=>False) (parRE L.ps.toList as (reB n0 bk)) [] H 0 []):VYield P i as H R:=by
 refine vround (env:=trE n0 bk) hi hps hlen ?_
 have hw:=wpC_sound he hm L.assign _ _ _ _ _ _ rfl h
 rw [List.append_nil,parRE_tr,reB_tr] at hw
 refine vw_mono hw ?_
 rintro e env1 hp1 ⟨top,bot,base,k,loc,hap,rfl,hbl,hq⟩
 cases e with
 | normal =>
   obtain ⟨jp,base1,h1,h2,h3⟩:=hq
   refine ⟨rfl,jp,h1,?_⟩
   subst h2
   refine vw_env (vw_mono (wpC_sound he hm L.body _ _ _ _ _ _ (by simpa using hbl) h3) ?_) hap
   rintro e env3 hp3 ⟨top3,bot3,base3,k3,loc3,-,rfl,-,hq3⟩
   exact hq3
 | exit i=>exact hq.elim
 | goto i=>exact hq.elim
 | ret=>exact hq.elim
 | panic i=>exact hq.elim
 | outgrown=>exact hq.elim
end
theorem CallN.fix [Glob] {P:Program} {F:Fn} {as:List AV} {n0:Nat} {base loc:Heap} {k:Nat} {K:AV→Heap→Nat→Heap→Prop} (v:AV) (b2 loc2:Heap) (k2:Nat) (h:VFn P F as (base++loc) fun r H'=>r=v∧H'=b2++loc2) (hb:b2.length=n0) (hk:loc2.length=k2) (a:K v b2 k2 loc2):CallN P F as n0 base k loc K :=
 .genF _ h fun r H' hr=>by
  obtain ⟨rfl,rfl⟩:=hr
  exact ⟨b2,k2,loc2,rfl,hk,hb,a⟩
theorem get_below {n0 n:Nat}:∀ {l:RE},belowRE n0 n l→∀ s,below n (get (trE n0 l) s)
 | [],_,_=>by simp [trE,get,below]
 | (i,v)::l,h,s=>by
   by_cases hs:i=s
   ·subst hs
    simp only [trE]
    rw [get_put_same]
    exact h.1
   ·simp only [trE]
    rw [get_put_ne _ _ hs]
    exact get_below h.2 s
theorem CallN.grow [Glob] {P:Program} {F:FuncId} {as:List AV} {n0:Nat} {base loc:Heap} {k:Nat} {K:AV→Heap→Nat→Heap→Prop} (v:AV) (X loc2:Heap) (k2:Nat) (h:VCall P F as (base++loc) fun r H'=>r=v∧H'=(base++loc)++X) (hn:base.length=n0) (hl:loc++X=loc2) (hk:loc2.length=k2) (a:K v base k2 loc2):CallN P (.func F) as n0 base k loc K :=
 .fix v base loc2 k2 (VCall.mono h fun r H' hr=>⟨hr.1,by rw [hr.2,List.append_assoc,hl]⟩) hn hk a
end Go.Vsi
