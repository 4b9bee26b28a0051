/- A text of the proof: the parts R27, R28, R29. -/
import Derived.Test.YtejegcmnddedmaaGreatDoorK5
set_option linter.unusedSimpArgs false
set_option linter.unusedVariables false
set_option maxHeartbeats 8000000
namespace Go.Vsi
abbrev yai:=@Go.Vsi.IfN.id
abbrev yaz:=@Go.Vsi.EndN.det
abbrev ybe:=@Go.Vsi.CallN.id
abbrev yb9:=@Go.Vsi.EqN.i64
abbrev ycf:=@Go.Vsi.CallN.fix
abbrev ydg:=@Go.Vsi.CallN.grow
abbrev ydh:=@Go.Vsi.EndN.keep
end Go.Vsi
namespace Go.Vsi
section
def wpM [Glob] (P:Program) (kn:TypeId→Nat) (T:TypeId→Option TI) (N:FN) (n0:Nat) (Kc:Code→RE→RE→Heap→Nat→Heap→Prop) (Q:QR) (m:Nat):Code→RE→RE→Heap→Nat→Heap→Prop :=
 @Nat.rec (fun _=>Code→RE→RE→Heap→Nat→Heap→Prop) Kc
  (fun _ ih c top bot base k loc=>match c with
   | .seq a b=>wpC P kn T N n0 a (fun e top bot base k loc=>match e with
     | .normal=>ih b top bot base k loc
     | e=>Q e top bot base k loc) top bot base k loc
   | _=>False) m
inductive EndN2 (H base:Heap) (loc:Heap) (u:AV) (R:AV→Heap→Prop):Prop where
 | mk (b l:Heap) (h:base++loc=b++l) (e:EndN H b l u R)
inductive RvN (T:TypeId→Option TI) (n0:Nat) (top bot:RE) (base loc:Heap):List ResultVar→List AV→Prop where
 | nil:RvN T n0 top bot base loc [] []
 | cons {r:ResultVar} {rs:List ResultVar} {v:AV} {vs:List AV}:rvR T n0 top bot loc r=some v→RvN T n0 top bot base loc rs vs→RvN T n0 top bot base loc (r::rs) (v::vs)
 | box {t:Nat} {ty u:TypeId} {rs:List ResultVar} {v:AV} {vs l l':List AV} {i o:Nat} {ti:TI}:rget2 top bot t=some (.v (.ptr i o))→base[i]? = some (.box u l)→dropC o l=some l'→T ty=some ti→loadC ti l'=some v→RvN T n0 top bot base loc rs vs→RvN T n0 top bot base loc (.cell t ty::rs) (v::vs)
theorem RvN.of {T:TypeId→Option TI} {n0:Nat} {top bot:RE} {base loc:Heap}:∀ {rs:List ResultVar} {vs:List AV},rvRs T n0 top bot loc rs=some vs→RvN T n0 top bot base loc rs vs
 | [],vs,h=>by
   simp only [rvRs,yad] at h;subst h
   exact .nil
 | r::rs,vs,h=>by
   simp only [rvRs] at h
   split at h
   ·rename_i v hv
    split at h
    ·rename_i vs' hvs
     simp only [yad] at h;subst h
     exact .cons hv (RvN.of hvs)
    ·cases h
   ·cases h
theorem RvN.run [Glob] {P:Program} {N:FN} {n0:Nat} {T:TypeId→Option TI} {top bot:RE} {base:Heap} {k:Nat} {loc:Heap} {env:Env} (hn:base.length=n0) (ha:Apx n0 env (top++bot)) {rs:List ResultVar} {vs:List AV} (h:RvN T n0 top bot base loc rs vs)
  {g:G} {w:World} {a:Act} (hT:TOk P T) (hH:HRel g w ⟨base,k,loc⟩) (hE:ERel N g w env a):∃ cs:List Value,(rs.mapM (rvF a)).run P w=.ok cs w∧LRel g w vs cs:=by
 have hE':ERel N g w (trE n0 (top++bot)) a:=⟨hE.1,fun s=>ha s _ _ _ (hE.rel s),hE.ro,hE.glob⟩
 have key:∀ {r:ResultVar} {rs:List ResultVar} {v:AV} {vs:List AV},(∃ c,(rvF a r).run P w=.ok c w∧VRel g w v c)→(∃ cs:List Value,(rs.mapM (rvF a)).run P w=.ok cs w∧LRel g w vs cs)→∃ cs:List Value,((r::rs).mapM (rvF a)).run P w=.ok cs w∧LRel g w (v::vs) cs:=by
  rintro r rs v vs ⟨c,h1,h2⟩ ⟨cs,h3,h4⟩
  refine ⟨c::cs,?_,by simp only [LRel];exact ⟨c,cs,rfl,h2,h4⟩⟩
  rw [List.mapM_cons,Sem.run_bind,h1,Result.andThen_ok,Sem.run_bind,h3]
  rfl
 induction h with
 | nil=>exact ⟨[],by simp,by simp [LRel]⟩
 | @cons r rs v vs hv _ ih =>
   have h1:rvRs T n0 top bot loc [r]=some [v]:=by simp only [rvRs,hv]
   obtain ⟨cs,h2,h3⟩:=rvRs_RVs (P:=P) hn ha h1 hT hH hE
   refine key ?_ ih
   rw [List.mapM_cons,Sem.run_bind] at h2
   simp only [LRel] at h3
   obtain ⟨c,r',rfl,h4,rfl⟩:=h3
   refine ⟨c,?_,h4⟩
   cases hc:(rvF a r).run P w with
   | ok c' w' =>
     rw [hc,Result.andThen_ok] at h2
     simp at h2
     obtain ⟨rfl,rfl⟩:=h2
     rfl
   | _=>rw [hc] at h2;cases h2
 | box ht hb hd hty hl _ ih =>
   refine key (rv_run hT hH hE' ?_) ih
   exact ⟨_,_,_,_,_,_,za8 ht,by show (base++loc)[_]? = _;rw [yaj (yac.1 hb).1];exact hb,hd,hty,hl⟩
def endQ2 (T:TypeId→Option TI) (n0:Nat) (rs:List ResultVar) (H:Heap) (R:AV→Heap→Prop):QR:=fun e top bot base _ loc=>match e with
 | .ret=>match rvRs T n0 top bot loc rs with
   | some [v]=>EndN2 H base loc v R
   | some vs=>EndN2 H base loc (.tup vs) R
   | none=>∃ vs,RvN T n0 top bot base loc rs vs∧EndN2 H base loc (tupOf vs) R
 | .normal=>match rvRs T n0 top bot loc rs with
   | some [v]=>EndN2 H base loc v R
   | some vs=>EndN2 H base loc (.tup vs) R
   | none=>∃ vs,RvN T n0 top bot base loc rs vs∧EndN2 H base loc (tupOf vs) R
 | _=>False
def EndW (T:TypeId→Option TI) (rs:List ResultVar) (H:Heap) (R:AV→Heap→Prop):Exit→Env→Hp→Prop :=
 fun e env hp=>∃ n0,LS n0 (endQ2 T n0 rs H R) e env hp
def Ends [Glob] (P:Program) (T:TypeId→Option TI) (N:FN) (c:Code) (rs:List ResultVar) (H:Heap) (R:AV→Heap→Prop) (re:RE) (H1:Heap):Prop :=
 VW P N c (EndW T rs H R) (trE H1.length re) (Hp.of H1)
def ptrE (n0:Nat):RE→RE
 | []=>[]
 | (t,v)::l=>(t,.v (tr n0 v))::ptrE n0 l
theorem zgb {n0:Nat}:∀ {l:RE} {s:Nat},rgetO (ptrE n0 l) s=(rgetO l s).map fun v=>RG.v (tr n0 v)
 | [],_=>rfl
 | (t,v)::l,s=>by
   simp only [ptrE,rgetO]
   cases Nat.beq t s with
   | true=>rfl
   | false=>exact zgb
structure CutN [Glob] (P:Program) (T:TypeId→Option TI) (N:FN) (rs:List ResultVar) (H:Heap) (R:AV→Heap→Prop) (n0:Nat) (c:Code) (top bot:RE) (base:Heap) (k:Nat) (loc:Heap):Prop where
 h:∃ ts bk,pickO ts top bot=some bk∧Ends P T N c rs H R (ptrE n0 bk) (base++loc)
section
variable {P:Program} {N:FN} {T:TypeId→Option TI} {kn:TypeId→Nat}
theorem zei [Glob] {rs:List ResultVar} {H:Heap} {R:AV→Heap→Prop} {n0:Nat} {c:Code} {top bot:RE} {base:Heap} {k:Nat} {loc:Heap} (ts:List Nat) {bk re:RE} {H1:Heap} (h1:pickO ts top bot=some bk) (h2:ptrE n0 bk=re) (h3:base++loc=H1) (h:Ends P T N c rs H R re H1):CutN P T N rs H R n0 c top bot base k loc:=by
 subst h2 h3
 exact ⟨ts,bk,h1,h⟩
theorem HRel.part2 [Glob] {g:G} {w:World} {b l:Heap} {hp:Hp} (h:HRel g w hp) (e:hp.all=b++l):HRel g w ⟨b,l.length,l⟩:=by
 have h':=h.of
 rw [e] at h'
 refine ⟨?_,rfl,?_,h.lt,?_,?_,h.glob⟩
 ·have:=h'.n
  simpa [Hp.of] using this
 ·have:=h'.rel;simpa [Hp.of,Hp.all] using this
 ·have:=h'.pend;simpa [Hp.of,Hp.all] using this
 ·have:=h'.inj;simpa [Hp.of,Hp.all] using this
theorem cut_sound [Glob] {rs:List ResultVar} {H:Heap} {R:AV→Heap→Prop} {n0:Nat} {c:Code} {top bot:RE} {base:Heap} {k:Nat} {loc:Heap} (h:CutN P T N rs H R n0 c top bot base k loc):VW P N c (EndW T rs H R) (trE n0 (top++bot)) ⟨base,k,loc⟩:=by
 obtain ⟨ts,bk,h1,h2⟩:=h
 intro g w a hH hE
 refine h2 g w a hH.of ⟨hE.1,fun s=>?_,hE.ro,hE.glob⟩
 cases hb:rgetO bk s with
 | some v =>
   have e1:=za8 (n0:=n0) (zc4 h1 hb)
   have e2:get (trE (base++loc).length (ptrE n0 bk)) s=tr n0 v:=by
    have:=zbo (n0:=(base++loc).length) (l:=ptrE n0 bk) (t:=s) (v:=.v (tr n0 v)) (by rw [zgb,hb];rfl) []
    simpa [tr] using this
   rw [e2,← e1]
   exact hE.rel s
 | none =>
   have e2:get (trE (base++loc).length (ptrE n0 bk)) s=.junk:=by
    have:=zbw (n0:=(base++loc).length) (l:=ptrE n0 bk) (t:=s) (by rw [zgb,hb];rfl) []
    simp only [yas] at this
    rw [this];rfl
   rw [e2]
   simp [VRel]
theorem wpM_sound [Glob] (he:Env0 P T kn) (hm:P.follows .mixedOrders=true) {rs:List ResultVar} {H:Heap} {R:AV→Heap→Prop} {n0:Nat} {Q:QR}
  (hQ:∀ e top bot base k loc,Q e top bot base k loc→endQ2 T n0 rs H R e top bot base k loc):∀ (m:Nat) (c:Code) (top bot:RE) (base:Heap) (k:Nat) (loc:Heap),base.length=n0 →
  wpM P kn T N n0 (CutN P T N rs H R n0) Q m c top bot base k loc→VW P N c (EndW T rs H R) (trE n0 (top++bot)) ⟨base,k,loc⟩
 | 0,c,top,bot,base,k,loc,hn,h=>cut_sound h
 | m+1,c,top,bot,base,k,loc,hn,h=>by
   cases c with
   | seq a b =>
     refine vw_seq (vw_mono (zbb he hm a _ top bot base k loc hn h) ?_)
     rintro e env hp ⟨top,bot,base,k,loc,h1,rfl,h3,h4⟩
     cases e with
     | normal=>exact vw_env (wpM_sound he hm hQ m b top bot base k loc h3 h4) h1
     | exit i=>exact ⟨n0,top,bot,base,k,loc,h1,rfl,h3,hQ _ _ _ _ _ _ h4⟩
     | goto i=>exact ⟨n0,top,bot,base,k,loc,h1,rfl,h3,hQ _ _ _ _ _ _ h4⟩
     | ret=>exact ⟨n0,top,bot,base,k,loc,h1,rfl,h3,hQ _ _ _ _ _ _ h4⟩
     | panic i=>exact ⟨n0,top,bot,base,k,loc,h1,rfl,h3,hQ _ _ _ _ _ _ h4⟩
     | outgrown=>exact ⟨n0,top,bot,base,k,loc,h1,rfl,h3,hQ _ _ _ _ _ _ h4⟩
   | _=>exact h.elim
theorem fn_cut [Glob] (he:Env0 P T kn) (hm:P.follows .mixedOrders=true) {F:FuncId} {fn:Func} {c:Code} {args:List AV} {H:Heap} {R:AV→Heap→Prop} (m:Nat) (hf:P.funcs[F]? = some fn) (hnm:(fn.name == "runtime.NumGoroutine")=false) (hb:fn.body=some c)
  (hN:args.length≤fn.ntmps) {re:RE} (hre:argO 0 args=some re) (h:zb5 H→zae H.length args→wpM P kn T ⟨fn.ntmps,none⟩ H.length (CutN P T ⟨fn.ntmps,none⟩ fn.results.toList H R H.length) (endQ2 T H.length fn.results.toList H R) m c re [] H 0 []):VCall P F args H R:=by
 obtain rfl:=argO_eq _ _ _ hre
 refine ⟨⟨fn,hf,hnm,by simp [hb]⟩,fun g w as hH hl=>calls_of_FR (o:=none) (n:=0) (callsIn_of_wp_marks hf hb trivial ?_ rfl)⟩
 have hgn:g.n=H.length:=by rw [hH.n];simp [Hp.of]
 have hw:=wpM_sound he hm (fun _ _ _ _ _ _ h=>h) m c _ _ _ _ _ rfl (h (ze3 hH) (hgn▸LRel.below _ _ hl))
 rw [yas,argRE_tr] at hw
 refine Code.wpIn_mono ?_ (hw g w _ hH (argEnv_rel hl hN hH.glob))
 rintro e a' w' ⟨env',hp',g',⟨n0,top,bot,base,k,loc,hap,rfl,hbl,hq⟩,hH',hE',hx,hds⟩
 have key:∀ vs,RvN T n0 top bot base loc fn.results.toList vs→EndN2 H base loc (tupOf vs) R→LeavesInM (FR none) 0 P fn a'.tmps (fun e w'=>∃ r H' g'' c',e=.returned c'∧R r H'∧HRel g'' w' (Hp.of H')∧VRel g'' w' r c'∧Ext g w g'' w') a'.defers .returning w':=by
  intro vs hvs hend
  obtain ⟨rs,hds1,hds2,hds3⟩:=hds
  simp only [yas] at hds1
  rw [hds1]
  obtain ⟨x1,x2,x3⟩:=shutAll_ok hds2 (fun r hr=>⟨(hds3 r hr).1,(hds3 r hr).2.1⟩) hx
  refine zey hds2 (fun r hr=>(hds3 r hr).2.1) ?_
  have hH'':=x3 _ hH'
  have hE'':ERel ⟨fn.ntmps,none⟩ g' (zdy rs w') env' a':=⟨hE'.1,fun s=>zb7 x2 _ _ (hE'.rel s),hE'.ro,fun p hp=>zb2 x2 _ _ _ (hE'.glob p hp)⟩
  obtain ⟨cs,h1,h2⟩:=RvN.run (N:=⟨fn.ntmps,none⟩) hbl hap hvs he.T hH'' hE''
  obtain ⟨c',h3,h4⟩:=results_of h1 h2
  obtain ⟨b,l,hbl2,hend⟩:=hend
  have hHs:=hH''.part2 (b:=b) (l:=l) hbl2
  cases hend with
  | cut hlen hlow hres =>
    obtain ⟨u',r,hfz,hwk,hbr,hR⟩:=hres
    refine ⟨c',h3,r,b,(g'.frz b.length l).cut H.length,c',rfl,hR,HRel.frz hHs hH hlen hlow,?_,x1.frz.cut (by omega)⟩
    exact VRel.cut r c' (hwk _ _ _ (hfz.rel hHs c' h4)) hbr
  | keep r hwk hR=>exact ⟨c',h3,r,b++l,g',c',rfl,hR,hHs.of,hwk _ _ _ h4,x1⟩
 have tupE:∀ vs:List AV,(∀ v,vs=[v]→False)→tupOf vs=.tup vs:=fun vs hne=>by
  match vs,hne with
  | [],_=>rfl
  | [v],hne=>exact (hne v rfl).elim
  | _::_::_,_=>rfl
 cases e with
 | ret =>
   simp only [endQ2] at hq
   split at hq
   ·rename_i v hvs;exact key [v] (.of hvs) hq
   ·rename_i vs hne hvs;exact key vs (.of hvs) (by rw [tupE vs hne];exact hq)
   ·exact key _ hq.choose_spec.1 hq.choose_spec.2
 | normal =>
   simp only [endQ2] at hq
   split at hq
   ·rename_i v hvs;exact key [v] (.of hvs) hq
   ·rename_i vs hne hvs;exact key vs (.of hvs) (by rw [tupE vs hne];exact hq)
   ·exact key _ hq.choose_spec.1 hq.choose_spec.2
 | exit i=>exact hq.elim
 | goto i=>exact hq.elim
 | panic i=>exact hq.elim
 | outgrown=>exact hq.elim
theorem Ends.walk [Glob] (he:Env0 P T kn) (hm:P.follows .mixedOrders=true) {c:Code} {rs:List ResultVar} {H:Heap} {R:AV→Heap→Prop} {re:RE} {H1:Heap} (h:zb5 H1→(∀ s v,rgetO re s=some v→below H1.length (tr H1.length v))→wpC P kn T N H1.length c (endQ2 T H1.length rs H R) re [] H1 0 []):Ends P T N c rs H R re H1:=by
 intro g w a hH hE
 have hgn:g.n=H1.length:=by rw [hH.n];simp [Hp.of]
 have hb:∀ s v,rgetO re s=some v→below H1.length (tr H1.length v):=fun s v hv=>by
  have h1:=VRel.below _ _ (hE.rel s)
  rw [hgn] at h1
  have h2:=zbo (n0:=H1.length) hv []
  rw [yas] at h2
  rwa [h2] at h1
 have hw:=zbb he hm c _ _ _ _ _ _ rfl (h (ze3 hH) hb)
 rw [yas] at hw
 exact Code.wpIn_mono (fun _ _ _ hl=>Lift.mono (fun e env hp q=>⟨_,q⟩) hl) (hw g w a hH hE)
end
theorem EndN2.det {H base:Heap} {loc:Heap} {u v:AV} (l:Heap) (h:base=H++l) (hb:below H.length v) (hw:Wk u v):EndN2 H base loc u (detR H v) :=
 ⟨H,l++loc,by rw [h,yba],.det hb hw⟩
structure OverR (S:Nat→Prop) (H H':Heap):Prop where
 len:H'.length=H.length
 same:∀ j,S j→H'[j]? = H[j]?
 low:∀ (j:Nat) (B:Blk),H'[j]? = some B→H[j]? = some B∨∀ n,B.below n
theorem OverR.closed {S:Nat→Prop} {H H':Heap} (h:OverR S H H') (hc:zb5 H):zb5 H':=fun j B hB=>by
 rw [h.len]
 rcases h.low j B hB with h1|h1
 ·exact hc j B h1
 ·exact h1 _
theorem OverR.pre {S:Nat→Prop} {H X B:Heap} (h:OverR S (H++X) B) (hS:∀ j,j<H.length→S j):∃ Y,B=H++Y:=by
 have hl:H.length≤B.length:=by rw [h.len,ya3];omega
 refine ⟨B.drop H.length,?_⟩
 apply ybk
 intro j
 rcases yag j H.length with hj|hj
 ·rw [h.same j (hS j hj),yaj hj,yaj hj]
 ·rw [yam hj,yct,Nat.add_sub_cancel' hj]
end
section
def EndsO [Glob] (P:Program) (T:TypeId→Option TI) (N:FN) (all rest:List Oper) (c:Code) (rs:List ResultVar) (H:Heap) (R:AV→Heap→Prop) (re:RE) (H1:Heap):Prop :=
 VO P N all rest (fun env hp=>VW P N c (EndW T rs H R) env hp) (trE H1.length re) (Hp.of H1)
structure CutO [Glob] (P:Program) (T:TypeId→Option TI) (N:FN) (all rest:List Oper) (c:Code) (rs:List ResultVar) (H:Heap) (R:AV→Heap→Prop) (n0:Nat) (top bot:RE) (base:Heap) (k:Nat) (loc:Heap):Prop where
 h:∃ ts bk,pickO ts top bot=some bk∧EndsO P T N all rest c rs H R (ptrE n0 bk) (base++loc)
section
variable {P:Program} {N:FN} {T:TypeId→Option TI} {kn:TypeId→Nat}
theorem CutO.mk' [Glob] {all rest:List Oper} {c:Code} {rs:List ResultVar} {H:Heap} {R:AV→Heap→Prop} {n0:Nat} {top bot:RE} {base:Heap} {k:Nat} {loc:Heap} (ts:List Nat) {bk re:RE} {H1:Heap} (h1:pickO ts top bot=some bk) (h2:ptrE n0 bk=re) (h3:base++loc=H1) (h:EndsO P T N all rest c rs H R re H1):CutO P T N all rest c rs H R n0 top bot base k loc:=by
 subst h2 h3
 exact ⟨ts,bk,h1,h⟩
theorem erel_cut [Glob] {n0:Nat} {top bot bk:RE} {base:Heap} {loc:Heap} {ts:List Nat} (h1:pickO ts top bot=some bk) {g:G} {w:World} {a:Act} (hE:ERel N g w (trE n0 (top++bot)) a):ERel N g w (trE (base++loc).length (ptrE n0 bk)) a:=by
 refine ⟨hE.1,fun s=>?_,hE.ro,hE.glob⟩
 cases hb:rgetO bk s with
 | some v =>
   have e1:=za8 (n0:=n0) (zc4 h1 hb)
   have e2:get (trE (base++loc).length (ptrE n0 bk)) s=tr n0 v:=by
    have:=zbo (n0:=(base++loc).length) (l:=ptrE n0 bk) (t:=s) (v:=.v (tr n0 v)) (by rw [zgb,hb];rfl) []
    simpa [tr] using this
   rw [e2,← e1]
   exact hE.rel s
 | none =>
   have e2:get (trE (base++loc).length (ptrE n0 bk)) s=.junk:=by
    have:=zbw (n0:=(base++loc).length) (l:=ptrE n0 bk) (t:=s) (by rw [zgb,hb];rfl) []
    simp only [yas] at this
    rw [this];rfl
   rw [e2]
   simp [VRel]
theorem cutO_sound [Glob] {all rest:List Oper} {c:Code} {rs:List ResultVar} {H:Heap} {R:AV→Heap→Prop} {n0:Nat} {top bot:RE} {base:Heap} {k:Nat} {loc:Heap} (h:CutO P T N all rest c rs H R n0 top bot base k loc):VO P N all rest (fun env hp=>VW P N c (EndW T rs H R) env hp) (trE n0 (top++bot)) ⟨base,k,loc⟩:=by
 obtain ⟨ts,bk,h1,h2⟩:=h
 exact fun g0 w0 g w a Qc hH hE hx kk=>h2 g0 w0 g w a Qc hH.of (erel_cut h1 hE) hx kk
theorem wpO_soundA [Glob] (he:Env0 P T kn) {n0:Nat} {bot:RE} {all l2:List Oper} {Q:Env→Hp→Prop} {K:RE→Heap→Nat→Heap→Prop}
  (hK:∀ top base k loc,base.length=n0→K top base k loc→VO P N all l2 Q (trE n0 (top++bot)) ⟨base,k,loc⟩) :
  ∀ (rest:List Oper) (top:RE) (base:Heap) (k:Nat) (loc:Heap),base.length=n0→wpO P kn T N n0 bot all rest K top base k loc→VO P N all (rest++l2) Q (trE n0 (top++bot)) ⟨base,k,loc⟩
 | [],top,base,k,loc,hn,h=>hK _ _ _ _ hn h
 | o::rest,top,base,k,loc,hn,h=>by
   have ih:=wpO_soundA he (bot:=bot) (all:=all) hK rest
   have h:guardN bot all o top (opN P kn T N n0 bot o base k loc (wpO P kn T N n0 bot all rest K))
    (fun top=>skipN N.n o.dst top fun top=>wpO P kn T N n0 bot all rest K top base k loc):=h
   obtain ⟨top',he',h1⟩:=zfw (n0:=n0) h
   refine vo_env (env':=trE n0 (top'++bot)) ?_ (fun s=>Wk.of_eq (he' s))
   rcases h1 with ⟨hg,hx⟩|⟨hg,hx⟩
   ·unfold opN at hx
    split at hx
    ·rename_i c x y ho
     obtain ⟨b,hc,hp⟩:=pick_cases hx
     obtain ⟨d,v,hd,hv,hb,hk⟩:=putS_some hp
     have:=pick_step (P:=P) (N:=N) (hp:=⟨base,k,loc⟩) ho hc
     rw [zbd hv] at this
     exact zeo this hg hd hb (ih _ _ _ _ hn hk)
    ·exact vo_R he hn hg hx (fun top base k loc hn h=>ih top base k loc hn h)
   ·unfold skipN at hx
    split at hx
    ·rename_i d hd
     split at hx
     ·rename_i hb
      exact vo_skipped hg hd hb (ih _ _ _ _ hn hx)
     ·exact hx.elim
    ·rename_i hd
     exact vo_skippedU hg hd (ih _ _ _ _ hn hx)
theorem below_of [Glob] {re:RE} {H1:Heap} {g:G} {w:World} {a:Act} (hH:HRel g w (Hp.of H1)) (hE:ERel N g w (trE H1.length re) a):∀ s v,rgetO re s=some v→below H1.length (tr H1.length v):=fun s v hv=>by
 have hgn:g.n=H1.length:=by rw [hH.n];simp [Hp.of]
 have h1:=VRel.below _ _ (hE.rel s)
 rw [hgn] at h1
 have h2:=zbo (n0:=H1.length) hv []
 rw [yas] at h2
 rwa [h2] at h1
theorem Ends.cutO [Glob] (he:Env0 P T kn) (j:Nat) {id:Nat} {ops:List Oper} {c:Code} {rs:List ResultVar} {H:Heap} {R:AV→Heap→Prop} {re:RE} {H1:Heap}
  (h:zb5 H1→(∀ s v,rgetO re s=some v→below H1.length (tr H1.length v))→wpO P kn T N H1.length [] ops (ops.take j) (fun top base k loc=>CutO P T N ops (ops.drop j) c rs H R H1.length top [] base k loc) re H1 0 []):Ends P T N (.seq (.region id ⟨ops⟩ false) c) rs H R re H1:=by
 intro g w a hH hE
 have hv:VO P N ops (ops.take j++ops.drop j) (fun env hp=>VW P N c (EndW T rs H R) env hp) (trE H1.length (re++[])) ⟨H1,0,[]⟩ :=
  wpO_soundA he (fun top base k loc hn h=>cutO_sound h) _ _ _ _ _ rfl (h (ze3 hH) (below_of hH hE))
 rw [yce,yas] at hv
 exact vw_seq (vw_region hv) g w a hH hE
theorem EndsO.cut [Glob] (he:Env0 P T kn) (hm:P.follows .mixedOrders=true) {all rest:List Oper} {c:Code} {rs:List ResultVar} {H:Heap} {R:AV→Heap→Prop} {re:RE} {H1:Heap} (m:Nat)
  (h:zb5 H1→(∀ s v,rgetO re s=some v→below H1.length (tr H1.length v))→wpO P kn T N H1.length [] all rest (fun top base k loc=>wpM P kn T N H1.length (CutN P T N rs H R H1.length) (endQ2 T H1.length rs H R) m c top [] base k loc) re H1 0 []):EndsO P T N all rest c rs H R re H1:=by
 intro g0 w0 g w a Qc hH hE hx kk
 have hv:VO P N all (rest++[]) (fun env hp=>VW P N c (EndW T rs H R) env hp) (trE H1.length (re++[])) ⟨H1,0,[]⟩ :=
  wpO_soundA he (fun top base k loc hn h=>vo_nil (wpM_sound he hm (fun _ _ _ _ _ _ h=>h) m c _ _ _ _ _ hn h)) _ _ _ _ _ rfl (h (ze3 hH) (below_of hH hE))
 rw [yas,yas] at hv
 exact hv g0 w0 g w a Qc hH hE hx kk
end
end
end Go.Vsi
