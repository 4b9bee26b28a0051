/- A text of the proof: the parts R27, R28. -/
import Derived.Test.YtjflngchbeegcaaGreatDoorK5
set_option linter.unusedSimpArgs false
set_option linter.unusedVariables false
set_option maxHeartbeats 8000000
namespace Go.Vsi
abbrev yai:=@Go.Vsi.IfN.id
abbrev ya1:=@Go.Vsi.EndN.det
abbrev ybd:=@Go.Vsi.LoopN.rounds
abbrev ybk:=@Go.Vsi.CallN.id
abbrev ycg:=@Go.Vsi.CallD.id
abbrev yck:=@Go.Vsi.EqN.i64
abbrev yct:=@Go.Vsi.EqN.id
abbrev ydh:=@Go.Vsi.FrzL.refl
abbrev ydi:=@Go.Vsi.EndN.detF
abbrev ydu:=@Go.Vsi.EndN.keep
end Go.Vsi
namespace Go.Vsi
structure RndEndK (H:Heap) (i:Nat) (env:Env) (L:LCode) (R:AV→Heap→Prop) (e:Exit) (base loc:Heap):Prop where
 h:∃ jp jp' b st base',RndEx e jp' b st∧base[i]? = some (.loop .busy jp env L)∧base.set i (.loop st jp' env L)=base'∧R (.bool b) (base'++loc)
theorem vroundK [Glob] {P:Program} {i:Nat} {H:Heap} {jp0:Option Code} {env:Env} {L:LCode} {as_:List AV} {R:AV→Heap→Prop} (hi:H[i]? = some (.loop .ready jp0 env L)) (hps:∀ p∈L.ps.toList,p<L.N) (hlen:as_.length=L.ps.size)
  (h:VW P ⟨L.N,some i⟩ L.assign (fun e env1 hp1=>e=.normal∧∃ jp,hp1.base[i]? = some (.loop .ready jp env L)∧VW P ⟨L.N,some i⟩ L.body (fun e _ hp3=>RndEndK H i env L R e hp3.base hp3.loc) env1 ⟨hp1.base.set i (.loop .busy jp env L),hp1.k,hp1.loc⟩) (ze4 L.ps.toList as_ env) (Hp.of H)):zi7 P i as_ H R:=by
 intro g w asv hH hl hok
 have ha:At (Hp.of H) i (.loop .ready jp0 env L):=by simpa [At,Hp.all,Hp.of] using hi
 obtain ⟨⟨r,h1,h2,h3,h4,h5,h6,h7,h8⟩,h9⟩:=hH.rel i _ ha
 have hasz:asv.size=r.params.size:=by
  have:=hl.length
  simp only [ycm] at this
  rw [this,hlen,h4]
 refine ⟨_,_,_,_,run_yield h1 hasz,?_⟩
 have hfold:(r.params.zip asv).foldl (fun tmps (x:Tmp×Value)=>tmps.setIfInBounds x.1 x.2) r.tmps=(L.ps.toList.zip asv.toList).foldl (fun t x=>t.setIfInBounds x.1 x.2) r.tmps:=by
  rw [← Array.foldl_toList,Array.toList_zip,h4]
 have hpar:=zq4 L.ps.toList as_ asv.toList env r.tmps hps h7 hl h8
 rw [← hfold] at hpar
 have hE:ERel ⟨L.N,some i⟩ g w (ze4 L.ps.toList as_ env) { tmps:=(r.params.zip asv).foldl (fun tmps (x:Tmp×Value)=>tmps.setIfInBounds x.1 x.2) r.tmps,defers:=[] } :=
  ⟨hpar.1,hpar.2,fun j hj=>by cases hj;exact hok,hH.glob⟩
 refine roundIn_of_wpIn (F:=FR none) trivial ?_
 rw [h5,h6]
 refine Code.wpIn_mono ?_ (h g w _ hH hE)
 rintro e a1 w1 ⟨env1,hp1,g1,⟨rfl,jp1,hb1,hbody⟩,hH1,hE1,hx1,-⟩
 obtain ⟨r1,q1,q2,q3,hH2,hx2⟩:=hH1.setLoop (st':=.busy) (jp':=jp1) (at_hp hb1) (zte hb1)
 have hbi:g1.blk i=g.blk i:=hx1.blk i hok
 rw [hbi] at q1
 have hrb:=run_beginRound (P:=P) q1 q2
 have er1:({ r1 with state:=.busy,pending:=jp1 }:Loop)={ r1 with state:=.busy }:=by rw [← q3]
 rw [er1,hbi] at hH2 hx2
 refine ⟨_,hrb,?_⟩
 have hE2:ERel ⟨L.N,some i⟩ g1 (w1.putObj (g.blk i) (.loop { r1 with state:=.busy })) env1 a1:=hE1.ext hx2
 have hb:=hbody g1 _ a1 hH2 hE2
 have hfo:(⟨L.N,some i⟩:FN).fo g1=some (g.blk i):=by simp [FN.fo,hbi]
 rw [hfo] at hb
 refine Code.wpIn_mono ?_ hb
 rintro e a3 w3 ⟨env3,hp3,g3,⟨jp3,jp',b,st,base',hex,hb3,hset,hR⟩,hH3,hE3,hx3,-⟩
 have hx13:=(hx1.trans hx2).trans hx3
 have hbi3:g3.blk i=g.blk i:=hx13.blk i hok
 obtain ⟨r3,p1,p2,p3,hH4,hx4⟩:=hH3.setLoop (st':=st) (jp':=jp') (at_hp hb3) (zte hb3)
 rw [hbi3] at p1 hH4 hx4
 rw [hset] at hH4
 have hfin:∀ v,v=Value.bool b→∃ r H' g' c,Ending.returned v=.returned c∧R r H'∧HRel g' (w3.putObj (g.blk i) (.loop { r3 with state:=st,pending:=jp' })) (Hp.of H')∧VRel g' (w3.putObj (g.blk i) (.loop { r3 with state:=st,pending:=jp' })) r c∧Ext g w g' (w3.putObj (g.blk i) (.loop { r3 with state:=st,pending:=jp' })):=by
  rintro v rfl
  exact ⟨.bool b,base'++hp3.loc,g3,.bool b,rfl,hR,hH4.of,by simp [VRel],hx13.trans hx4⟩
 cases hex with
 | normal=>exact ⟨_,_,run_endRound none p1,hfin _ rfl⟩
 | ret=>exact ⟨_,_,run_endRound (some .ret) p1,hfin _ rfl⟩
 | exit id=>exact ⟨_,_,run_endRound (some (.exit id)) p1,hfin _ rfl⟩
def rndQK (H:Heap) (i:Nat) (env:Env) (L:LCode) (R:AV→Heap→Prop):QR:=fun e _ _ base _ loc=>RndEndK H i env L R e base loc
structure RndBK [Glob] (P:Program) (kn:TypeId→Nat) (T:TypeId→Option TI) (H:Heap) (i:Nat) (env:Env) (L:LCode) (R:AV→Heap→Prop) (top bot:RE) (base:Heap) (k:Nat) (loc:Heap):Prop where
 h:∃ jp base1,base[i]? = some (.loop .ready jp env L)∧base.set i (.loop .busy jp env L)=base1∧wpC P kn T ⟨L.N,some i⟩ H.length L.body (rndQK H i env L R) top bot base1 k loc
theorem round_K [Glob] {P:Program} {T:TypeId→Option TI} {kn:TypeId→Nat} (he:Env0 P T kn) (hm:P.follows .mixedOrders=true) {i n0:Nat} {H:Heap} {jp0:Option Code} {bk:RE} {L:LCode} {as_:List AV} {R:AV→Heap→Prop} (hi:H[i]? = some (.loop .ready jp0 (trE n0 bk) L)) (hps:∀ p∈L.ps.toList,p<L.N) (hlen:as_.length=L.ps.size)
  (h:wpC P kn T ⟨L.N,some i⟩ H.length L.assign (fun e top bot base k loc=>match e with
   | .normal=>RndBK P kn T H i (trE n0 bk) L R top bot base k loc
   | _=>False) (parRE L.ps.toList as_ (reB n0 bk)) [] H 0 []):zi7 P i as_ H R:=by
 refine vroundK (env:=trE n0 bk) hi hps hlen ?_
 have hw:=zbn he hm L.assign _ _ _ _ _ _ rfl h
 rw [yat,zm4,zj6] at hw
 refine zf6 hw ?_
 rintro e env1 hp1 ⟨top,bot,base,k,loc,hap,rfl,hbl,hq⟩
 cases e with
 | normal =>
   obtain ⟨jp,base1,h1,h2,h3⟩:=hq
   refine ⟨rfl,jp,h1,?_⟩
   subst h2
   refine zli (zf6 (zbn he hm L.body _ _ _ _ _ _ (by simpa using hbl) h3) ?_) hap
   rintro e env3 hp3 ⟨top3,bot3,base3,k3,loc3,-,rfl,-,hq3⟩
   exact hq3
 | exit i=>exact hq.elim
 | goto i=>exact hq.elim
 | ret=>exact hq.elim
 | panic i=>exact hq.elim
 | outgrown=>exact hq.elim
section
def wpM [Glob] (P:Program) (kn:TypeId→Nat) (T:TypeId→Option TI) (N:FN) (n0:Nat) (Kc:Code→RE→RE→Heap→Nat→Heap→Prop) (Q:QR) (m:Nat):Code→RE→RE→Heap→Nat→Heap→Prop :=
 @Nat.rec (fun _=>Code→RE→RE→Heap→Nat→Heap→Prop) Kc
  (fun _ ih c top bot base k loc=>match c with
   | .seq a b=>wpC P kn T N n0 a (fun e top bot base k loc=>match e with
     | .normal=>ih b top bot base k loc
     | e=>Q e top bot base k loc) top bot base k loc
   | _=>False) m
inductive EndN2 (H base:Heap) (loc:Heap) (u:AV) (R:AV→Heap→Prop):Prop where
 | mk (b l:Heap) (h:base++loc=b++l) (e:EndN H b l u R)
def endQ2 (T:TypeId→Option TI) (n0:Nat) (rs:List ResultVar) (H:Heap) (R:AV→Heap→Prop):QR:=fun e top bot base _ loc=>match e with
 | .ret=>match rvRs T n0 top bot loc rs with
   | some [v]=>EndN2 H base loc v R
   | some vs=>EndN2 H base loc (.tup vs) R
   | none=>False
 | .normal=>match rvRs T n0 top bot loc rs with
   | some [v]=>EndN2 H base loc v R
   | some vs=>EndN2 H base loc (.tup vs) R
   | none=>False
 | _=>False
def EndW (T:TypeId→Option TI) (rs:List ResultVar) (H:Heap) (R:AV→Heap→Prop):Exit→Env→Hp→Prop :=
 fun e env hp=>∃ n0,LS n0 (endQ2 T n0 rs H R) e env hp
def Ends [Glob] (P:Program) (T:TypeId→Option TI) (N:FN) (c:Code) (rs:List ResultVar) (H:Heap) (R:AV→Heap→Prop) (re:RE) (H1:Heap):Prop :=
 VW P N c (EndW T rs H R) (trE H1.length re) (Hp.of H1)
def ptrE (n0:Nat):RE→RE
 | []=>[]
 | (t,v)::l=>(t,.v (tr n0 v))::ptrE n0 l
theorem zm1 {n0:Nat}:∀ {l:RE} {s:Nat},rgetO (ptrE n0 l) s=(rgetO l s).map fun v=>RG.v (tr n0 v)
 | [],_=>rfl
 | (t,v)::l,s=>by
   simp only [ptrE,rgetO]
   cases Nat.beq t s with
   | true=>rfl
   | false=>exact zm1
structure CutN [Glob] (P:Program) (T:TypeId→Option TI) (N:FN) (rs:List ResultVar) (H:Heap) (R:AV→Heap→Prop) (n0:Nat) (c:Code) (top bot:RE) (base:Heap) (k:Nat) (loc:Heap):Prop where
 h:∃ ts bk,pickO ts top bot=some bk∧Ends P T N c rs H R (ptrE n0 bk) (base++loc)
section
variable {P:Program} {N:FN} {T:TypeId→Option TI} {kn:TypeId→Nat}
theorem zn7 [Glob] {rs:List ResultVar} {H:Heap} {R:AV→Heap→Prop} {n0:Nat} {c:Code} {top bot:RE} {base:Heap} {k:Nat} {loc:Heap} (ts:List Nat) {bk re:RE} {H1:Heap} (h1:pickO ts top bot=some bk) (h2:ptrE n0 bk=re) (h3:base++loc=H1) (h:Ends P T N c rs H R re H1):CutN P T N rs H R n0 c top bot base k loc:=by
 subst h2 h3
 exact ⟨ts,bk,h1,h⟩
theorem HRel.part2 [Glob] {g:G} {w:World} {b l:Heap} {hp:Hp} (h:HRel g w hp) (e:hp.all=b++l):HRel g w ⟨b,l.length,l⟩:=by
 have h':=h.of
 rw [e] at h'
 refine ⟨?_,rfl,?_,h.lt,?_,?_,h.glob⟩
 ·have:=h'.n
  simpa [Hp.of] using this
 ·have:=h'.rel;simpa [Hp.of,Hp.all] using this
 ·have:=h'.pend;simpa [Hp.of,Hp.all] using this
 ·have:=h'.inj;simpa [Hp.of,Hp.all] using this
theorem zzq [Glob] {rs:List ResultVar} {H:Heap} {R:AV→Heap→Prop} {n0:Nat} {c:Code} {top bot:RE} {base:Heap} {k:Nat} {loc:Heap} (h:CutN P T N rs H R n0 c top bot base k loc):VW P N c (EndW T rs H R) (trE n0 (top++bot)) ⟨base,k,loc⟩:=by
 obtain ⟨ts,bk,h1,h2⟩:=h
 intro g w a hH hE
 refine h2 g w a hH.of ⟨hE.1,fun s=>?_,hE.ro,hE.glob⟩
 cases hb:rgetO bk s with
 | some v =>
   have e1:=zbp (n0:=n0) (zej h1 hb)
   have e2:get (trE (base++loc).length (ptrE n0 bk)) s=tr n0 v:=by
    have:=zco (n0:=(base++loc).length) (l:=ptrE n0 bk) (t:=s) (v:=.v (tr n0 v)) (by rw [zm1,hb];rfl) []
    simpa [tr] using this
   rw [e2,← e1]
   exact hE.rel s
 | none =>
   have e2:get (trE (base++loc).length (ptrE n0 bk)) s=.junk:=by
    have:=zcr (n0:=(base++loc).length) (l:=ptrE n0 bk) (t:=s) (by rw [zm1,hb];rfl) []
    simp only [yat] at this
    rw [this];rfl
   rw [e2]
   simp [VRel]
theorem zoa [Glob] (he:Env0 P T kn) (hm:P.follows .mixedOrders=true) {rs:List ResultVar} {H:Heap} {R:AV→Heap→Prop} {n0:Nat} {Q:QR}
  (hQ:∀ e top bot base k loc,Q e top bot base k loc→endQ2 T n0 rs H R e top bot base k loc):∀ (m:Nat) (c:Code) (top bot:RE) (base:Heap) (k:Nat) (loc:Heap),base.length=n0 →
  wpM P kn T N n0 (CutN P T N rs H R n0) Q m c top bot base k loc→VW P N c (EndW T rs H R) (trE n0 (top++bot)) ⟨base,k,loc⟩
 | 0,c,top,bot,base,k,loc,hn,h=>zzq h
 | m+1,c,top,bot,base,k,loc,hn,h=>by
   cases c with
   | seq a b =>
     refine vw_seq (zf6 (zbn he hm a _ top bot base k loc hn h) ?_)
     rintro e env hp ⟨top,bot,base,k,loc,h1,rfl,h3,h4⟩
     cases e with
     | normal=>exact zli (zoa he hm hQ m b top bot base k loc h3 h4) h1
     | exit i=>exact ⟨n0,top,bot,base,k,loc,h1,rfl,h3,hQ _ _ _ _ _ _ h4⟩
     | goto i=>exact ⟨n0,top,bot,base,k,loc,h1,rfl,h3,hQ _ _ _ _ _ _ h4⟩
     | ret=>exact ⟨n0,top,bot,base,k,loc,h1,rfl,h3,hQ _ _ _ _ _ _ h4⟩
     | panic i=>exact ⟨n0,top,bot,base,k,loc,h1,rfl,h3,hQ _ _ _ _ _ _ h4⟩
     | outgrown=>exact ⟨n0,top,bot,base,k,loc,h1,rfl,h3,hQ _ _ _ _ _ _ h4⟩
   | _=>exact h.elim
theorem zy8 [Glob] (he:Env0 P T kn) (hm:P.follows .mixedOrders=true) {F:FuncId} {fn:Func} {c:Code} {args:List AV} {H:Heap} {R:AV→Heap→Prop} (m:Nat) (hf:P.funcs[F]? = some fn) (hnm:(fn.name == "runtime.NumGoroutine")=false) (hb:fn.body=some c)
  (hN:args.length≤fn.ntmps) {re:RE} (hre:argO 0 args=some re) (h:zdq H→zaa H.length args→wpM P kn T ⟨fn.ntmps,none⟩ H.length (CutN P T ⟨fn.ntmps,none⟩ fn.results.toList H R H.length) (endQ2 T H.length fn.results.toList H R) m c re [] H 0 []):VCall P F args H R:=by
 obtain rfl:=zse _ _ _ hre
 refine ⟨⟨fn,hf,hnm,by simp [hb]⟩,fun g w as hH hl=>zk4 (o:=none) (n:=0) (callsIn_of_wp_marks hf hb trivial ?_ rfl)⟩
 have hgn:g.n=H.length:=by rw [hH.n];simp [Hp.of]
 have hw:=zoa he hm (fun _ _ _ _ _ _ h=>h) m c _ _ _ _ _ rfl (h (zk2 hH) (hgn▸LRel.below _ _ hl))
 rw [yat,zn0] at hw
 refine Code.wpIn_mono ?_ (hw g w _ hH (zmh hl hN hH.glob))
 rintro e a' w' ⟨env',hp',g',⟨n0,top,bot,base,k,loc,hap,rfl,hbl,hq⟩,hH',hE',hx,hds⟩
 have key:∀ vs,rvRs T n0 top bot loc fn.results.toList=some vs→EndN2 H base loc (tupOf vs) R→LeavesInM (FR none) 0 P fn a'.tmps (fun e w'=>∃ r H' g'' c',e=.returned c'∧R r H'∧HRel g'' w' (Hp.of H')∧VRel g'' w' r c'∧Ext g w g'' w') a'.defers .returning w':=by
  intro vs hvs hend
  obtain ⟨rs,hds1,hds2,hds3⟩:=hds
  simp only [yat] at hds1
  rw [hds1]
  obtain ⟨x1,x2,x3⟩:=zia hds2 (fun r hr=>⟨(hds3 r hr).1,(hds3 r hr).2.1⟩) hx
  refine zgf hds2 (fun r hr=>(hds3 r hr).2.1) ?_
  have hH'':=x3 _ hH'
  have hE'':ERel ⟨fn.ntmps,none⟩ g' (zew rs w') env' a':=⟨hE'.1,fun s=>zca x2 _ _ (hE'.rel s),hE'.ro,fun p hp=>zcb x2 _ _ _ (hE'.glob p hp)⟩
  obtain ⟨cs,h1,h2⟩:=zmv (N:=⟨fn.ntmps,none⟩) hbl hap hvs he.T hH'' hE''
  obtain ⟨c',h3,h4⟩:=zls h1 h2
  obtain ⟨b,l,hbl2,hend⟩:=hend
  have hHs:=hH''.part2 (b:=b) (l:=l) hbl2
  cases hend with
  | cut hlen hlow hres =>
    obtain ⟨u',r,hfz,hwk,hbr,hR⟩:=hres
    refine ⟨c',h3,r,b,(g'.frz b.length l).cut H.length,c',rfl,hR,HRel.frz hHs hH hlen hlow,?_,x1.frz.cut (by omega)⟩
    exact VRel.cut r c' (hwk _ _ _ (hfz.rel hHs c' h4)) hbr
  | keep r hwk hR=>exact ⟨c',h3,r,b++l,g',c',rfl,hR,hHs.of,hwk _ _ _ h4,x1⟩
 have tupE:∀ vs:List AV,(∀ v,vs=[v]→False)→tupOf vs=.tup vs:=fun vs hne=>by
  match vs,hne with
  | [],_=>rfl
  | [v],hne=>exact (hne v rfl).elim
  | _::_::_,_=>rfl
 cases e with
 | ret =>
   simp only [endQ2] at hq
   split at hq
   ·rename_i v hvs;exact key [v] hvs hq
   ·rename_i vs hne hvs;exact key vs hvs (by rw [tupE vs hne];exact hq)
   ·exact hq.elim
 | normal =>
   simp only [endQ2] at hq
   split at hq
   ·rename_i v hvs;exact key [v] hvs hq
   ·rename_i vs hne hvs;exact key vs hvs (by rw [tupE vs hne];exact hq)
   ·exact hq.elim
 | exit i=>exact hq.elim
 | goto i=>exact hq.elim
 | panic i=>exact hq.elim
 | outgrown=>exact hq.elim
theorem Ends.walk [Glob] (he:Env0 P T kn) (hm:P.follows .mixedOrders=true) {c:Code} {rs:List ResultVar} {H:Heap} {R:AV→Heap→Prop} {re:RE} {H1:Heap} (h:zdq H1→(∀ s v,rgetO re s=some v→below H1.length (tr H1.length v))→wpC P kn T N H1.length c (endQ2 T H1.length rs H R) re [] H1 0 []):Ends P T N c rs H R re H1:=by
 intro g w a hH hE
 have hgn:g.n=H1.length:=by rw [hH.n];simp [Hp.of]
 have hb:∀ s v,rgetO re s=some v→below H1.length (tr H1.length v):=fun s v hv=>by
  have h1:=VRel.below _ _ (hE.rel s)
  rw [hgn] at h1
  have h2:=zco (n0:=H1.length) hv []
  rw [yat] at h2
  rwa [h2] at h1
 have hw:=zbn he hm c _ _ _ _ _ _ rfl (h (zk2 hH) hb)
 rw [yat] at hw
 exact Code.wpIn_mono (fun _ _ _ hl=>Lift.mono (fun e env hp q=>⟨_,q⟩) hl) (hw g w a hH hE)
end
theorem EndN2.det {H base:Heap} {loc:Heap} {u v:AV} (l:Heap) (h:base=H++l) (hb:below H.length v) (hw:Wk u v):EndN2 H base loc u (detR H v) :=
 ⟨H,l++loc,by rw [h,ybe],.det hb hw⟩
structure OverR (S:Nat→Prop) (H H':Heap):Prop where
 len:H'.length=H.length
 same:∀ j,S j→H'[j]? = H[j]?
 low:∀ (j:Nat) (B:Blk),H'[j]? = some B→H[j]? = some B∨∀ n,B.below n
theorem OverR.refl (S:Nat→Prop) (H:Heap):OverR S H H:=⟨rfl,fun _ _=>rfl,fun _ _ h=>.inl h⟩
theorem OverR.trans {S1 S2 S:Nat→Prop} {H1 H2 H3:Heap} (h1:OverR S1 H1 H2) (h2:OverR S2 H2 H3) (hS:∀ j,S j→S1 j∧S2 j):OverR S H1 H3 :=
 ⟨h2.len.trans h1.len,fun j hj=>(h2.same j (hS j hj).2).trans (h1.same j (hS j hj).1),fun j B hB=>(h2.low j B hB).elim (h1.low j B) .inr⟩
theorem OverR.set (H:Heap) (i:Nat) (B:Blk) (hB:∀ n,B.below n):OverR (fun j=>j≠i) H (H.set i B) :=
 ⟨by simp,fun j hj=>List.getElem?_set_ne (fun e=>hj e.symm),fun j C hC=>by
  rw [yaw] at hC
  split at hC
  ·split at hC
   ·cases hC;exact .inr hB
   ·cases hC
  ·exact .inl hC⟩
theorem OverR.closed {S:Nat→Prop} {H H':Heap} (h:OverR S H H') (hc:zdq H):zdq H':=fun j B hB=>by
 rw [h.len]
 rcases h.low j B hB with h1|h1
 ·exact hc j B h1
 ·exact h1 _
theorem OverR.pre {S:Nat→Prop} {H X B:Heap} (h:OverR S (H++X) B) (hS:∀ j,j<H.length→S j):∃ Y,B=H++Y:=by
 have hl:H.length≤B.length:=by rw [h.len,ya5];omega
 refine ⟨B.drop H.length,?_⟩
 apply ybr
 intro j
 rcases yag j H.length with hj|hj
 ·rw [h.same j (hS j hj),yaj hj,yaj hj]
 ·rw [yam hj,yc5,Nat.add_sub_cancel' hj]
theorem EndN.over {S:Nat→Prop} {H base:Heap} {loc:Heap} (h:OverR S H base):EndN H base loc (.tup []) (fun r H'=>r=.tup []∧OverR S H H') :=
 .cut h.len (fun j B hB=>(h.low j B hB).imp id fun q=>q _) ⟨_,_,.refl _,yae _,trivial,rfl,h⟩
theorem CallN.over [Glob] {P:Program} {F:FuncId} {as:List AV} {n0:Nat} {base loc:Heap} {k:Nat} {K:AV→Heap→Nat→Heap→Prop} (S:Nat→Prop) (h:VCall P F as (base++loc) fun r H'=>r=.tup []∧OverR S (base++loc) H') (hn:base.length=n0) (hk:loc.length=k) (hS:∀ j,n0≤j→S j)
  (a:∀ base',OverR S base base'→K (.tup []) base' k loc):CallN P (.func F) as n0 base k loc K:=by
 refine .gen _ h fun r H' hr=>?_
 obtain ⟨rfl,hlen,hsame,hlow⟩:=hr
 have hl:(H'.take n0).length=n0:=by simp at hlen ⊢;omega
 refine ⟨H'.take n0,k,loc,?_,hk,hl,a _ ⟨by omega,fun j hs=>?_,fun j B hB=>?_⟩⟩
 ·apply ybr
  intro j
  rcases yag j n0 with hj|hj
  ·rw [yaj (by omega),List.getElem?_take_of_lt hj]
  ·rw [yam (by omega),hsame j (hS j hj),yam (by omega),hl,hn]
 ·rcases yag j n0 with hj|hj
  ·rw [List.getElem?_take_of_lt hj,hsame j hs,yaj (by omega)]
  ·rw [ycl (by omega),ycl (by omega)]
 ·have hj:j<n0:=by
   have:=(yac.1 hB).1
   omega
  rw [List.getElem?_take_of_lt hj] at hB
  rcases hlow j B hB with h1|h1
  ·rw [yaj (by omega)] at h1
   exact .inl h1
  ·exact .inr h1
theorem zdg [Glob] {W:List Nat} {P:Program} {F:FuncId} {as:List AV} {n0:Nat} {base loc0 b1 loc:Heap} {K:AV→Prop} {K3 K4 K5:AV→Heap→Nat→Heap→Prop} (v:AV) (X loc2:Heap) (x:Nat) (h:∀ Z:Heap,Z.length=n0+loc.length→VCall P F as Z fun r H'=>r=v∧H'=Z++X) (h0:base.length=n0) (hn:b1.length=n0) (hl:loc++X=loc2) (hx:X.length=x) (a:K5 v b1 x loc2):CallD W P (.func F) as n0 base loc0 b1 loc K K3 K4 K5 :=
 .free v X loc2 x (fun l1 _ Z hz=>h _ (by rw [ybe,ya5,hz,h0])) hn hl hx a
end
end Go.Vsi
