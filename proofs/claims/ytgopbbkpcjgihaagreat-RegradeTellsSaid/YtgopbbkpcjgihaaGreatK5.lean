/- A text of the proof: the parts R6, R7, R8, R9, R10, R11, R12, R13, R14, R16, R19, R20, R21, R22, R23, R24, R26. -/
import Derived.IntWalk
import Derived.DefersIn
import Derived.Test.YtgopbbkpcjgihaaGreatK4
set_option linter.unusedSimpArgs false
set_option linter.unusedVariables false
set_option maxHeartbeats 8000000
namespace Go.Vsi
abbrev yab:=@Go.Vsi.CallN.det
abbrev yaf:=@Go.Vsi.SideN.mk
abbrev yan:=@Go.Vsi.CallD.det
abbrev yaq:=@Go.Vsi.IfN.tt
abbrev yar:=@Go.Vsi.IfN.dT
abbrev yas:=@Go.Vsi.IfN.not
abbrev yau:=@Go.Vsi.IfN.ff
abbrev yb6:=@Go.Vsi.PtrN.loc
abbrev yb9:=@Go.Vsi.PtrN.base
abbrev ydm:=@Go.Vsi.Apx.refl
end Go.Vsi
namespace Go.Vsi
section
abbrev QR:=Exit→RE→RE→Heap→Nat→Heap→Prop
def LS (n0:Nat) (Q:QR):Exit→Env→Hp→Prop :=
 fun e env hp=>∃ top bot base k loc,Apx n0 env (top++bot)∧hp=⟨base,k,loc⟩∧base.length=n0∧Q e top bot base k loc
def VL [Glob] (P:Program) (N:FN) (c:Code) (Q:Exit→Env→Hp→Prop) (env:Env) (H:Hp):Prop :=
 ∀ g w a,HRel g w H→ERel N g w env a→LoopWp (N.fo g) P c (Lift N Q g w a.defers) a w
structure LoopN [Glob] (P:Program) (kn:TypeId→Nat) (T:TypeId→Option TI) (N:FN) (n0:Nat) (c:Code) (Q:QR) (top bot:RE) (base:Heap) (k:Nat) (loc:Heap):Prop where
 h:VL P N c (LS n0 Q) (trE n0 (top++bot)) ⟨base,k,loc⟩
def pickO:List Nat→RE→RE→Option RE
 | [],_,_=>some []
 | t::ts,top,bot=>match rget2 top bot t with
   | some v=>match pickO ts top bot with
     | some l=>some ((t,v)::l)
     | none=>none
   | none=>none
theorem zer {top bot:RE}:∀ {ts:List Nat} {l:RE},pickO ts top bot=some l→∀ {s:Nat} {w:RG},rgetO l s=some w→rget2 top bot s=some w
 | [],l,h,s,w,hg=>by simp only [pickO,yad] at h;subst h;cases hg
 | t::ts,l,h,s,w,hg=>by
   simp only [pickO] at h
   split at h
   ·rename_i v hv
    split at h
    ·rename_i l' hl
     simp only [yad] at h;subst h
     simp only [rgetO] at hg
     cases hb:Nat.beq t s with
     | true =>
       simp only [hb,yad] at hg;subst hg
       have:=yap hb
       subst this
       exact hv
     | false=>simp only [hb] at hg;exact zer hl hg
    ·cases h
   ·cases h
def jumpN (Q:QR) (top bot:RE) (base:Heap) (k:Nat) (loc:Heap):Option Code→Prop
 | none=>Q .normal top bot base k loc
 | some .ret=>Q .ret top bot base k loc
 | some (.exit id)=>Q (.exit id) top bot base k loc
 | _=>False
structure RangeN0 [Glob] (P:Program) (N:FN) (n0:Nat) (gf:FuncId) (fs cs:List AV) (ps:Array Tmp) (assign body:Code) (Q:QR) (top bot:RE) (base:Heap) (k:Nat) (loc:Heap):Prop where
 ro:∀ i,N.r=some i→∃ st jp e L,(base++loc)[i]? = some (.loop st jp e L)
 h:∃ (ts:List Nat) (bk:RE) (R:AV→Heap→Prop),pickO ts top bot=some bk∧VCall P gf (appL (appL fs [.clo (.yield (n0+k)) [] []]) cs) ((base++loc)++[.loop .ready none (trE n0 bk) ⟨N.n,ps,assign,body⟩]) R ∧
  ∀ r H',R r H'→∃ base' k' loc' st jp loc'',base'++loc'=H'∧loc'.length=k'∧base'.length=n0∧lget loc' k=some (.loop st jp (trE n0 bk) ⟨N.n,ps,assign,body⟩)∧st≠.busy∧lset loc' k .dead=some loc''∧jumpN Q top bot base' k' loc'' jp
inductive RangeN [Glob] (P:Program) (N:FN) (n0:Nat) (gf:FuncId) (fs cs:List AV) (ps:Array Tmp) (assign body:Code) (Q:QR) (top bot:RE) (base:Heap):Nat→Heap→Prop where
 | mk {k:Nat} {loc:Heap} (h:RangeN0 P N n0 gf fs cs ps assign body Q top bot base k loc):RangeN P N n0 gf fs cs ps assign body Q top bot base k loc
 | tokB {k:Nat} {loc:Heap} (i j:Nat) (e:TypeId) (sz:Nat) {loc1 loc':Heap} {bt:TypeId} {l l':List AV} (hb:lget loc i=some (.box bt l)) (hv:lget l j=some .nils) (hs:lset l j (.sl (some (n0+k)) 0 [])=some l') (hl:snocC loc (.tok e sz 0)=some loc1) (h1:lset loc1 i (.box bt l')=some loc')
   (h:RangeN P N n0 gf fs cs ps assign body Q top bot base (k+1) loc'):RangeN P N n0 gf fs cs ps assign body Q top bot base k loc
 | vecB {k:Nat} {loc:Heap} (i j:Nat) (e:TypeId) (sz:Nat) {loc1 loc':Heap} {bt:TypeId} {l l':List AV} (hb:lget loc i=some (.box bt l)) (hv:lget l j=some .nils) (hs:lset l j (.vs (n0+k) 0)=some l') (hl:snocC loc (.vec e sz [])=some loc1) (h1:lset loc1 i (.box bt l')=some loc')
   (h:RangeN P N n0 gf fs cs ps assign body Q top bot base (k+1) loc'):RangeN P N n0 gf fs cs ps assign body Q top bot base k loc
def takeN:Nat→List Nat→List Nat×List Nat
 | 0,l=>([],l)
 | _+1,[]=>([],[])
 | n+1,x::l=>(x::(takeN n l).1,(takeN n l).2)
def wpDQ [Glob] (b:Bool) (W:List Nat) (tk:List Nat×List Nat) (P:Program) (kn:TypeId→Nat) (T:TypeId→Option TI) (N:FN) (n0:Nat) (bot:RE) (ops:List Oper) (base loc:Heap) (K:RE→Heap→Nat→Heap→Prop) (top:RE) (k:Nat):Prop:=match b with
 | false=>wpD W P kn T N n0 bot ops base loc ops K [] top base k loc
 | true=>SideN (permB tk.1 ops.length=true) (match permL tk.1 ops tk.1 with
   | some ops'=>wpD tk.2 P kn T N n0 bot ops' base loc ops' K [] top base k loc
   | none=>False)
def wpDP [Glob] (W:List Nat) (P:Program) (kn:TypeId→Nat) (T:TypeId→Option TI) (N:FN) (n0:Nat) (bot:RE) (ops:List Oper) (base loc:Heap) (K:RE→Heap→Nat→Heap→Prop) (top:RE) (k:Nat):Prop:=match W with
 | []=>wpD [] P kn T N n0 bot ops base loc ops K [] top base k loc
 | w::W=>wpDQ (Nat.ble 2000000 w) (w::W) (takeN (w-2000000) W) P kn T N n0 bot ops base loc K top k
def wpC [Glob] (P:Program) (kn:TypeId→Nat) (T:TypeId→Option TI) (N:FN) (n0:Nat) (c:Code):QR→RE→RE→Heap→Nat→Heap→Prop :=
 @Code.rec (fun _=>QR→RE→RE→Heap→Nat→Heap→Prop)
  (fun Q top bot base k loc=>Q .normal top bot base k loc)
  (fun _ ops dr Q top bot base k loc=>match ops with
    | ⟨ops⟩=>match dr with
      | false=>wpO P kn T N n0 bot ops ops (fun top base k loc=>Q .normal top bot base k loc) top base k loc
      | true=>DrawN (fun W=>wpDP W P kn T N n0 bot ops base loc (fun top base k loc=>Q .normal top bot base k loc) top k)
        (fun m W=>wpD W P kn T N n0 bot ops base loc (ops.take m) (fun top base k loc=>ApE P T N n0 ops m bot top base k loc (fun top base k loc=>Q .normal top bot base k loc)) [] top base k loc)
        (fun m W=>wpD W P kn T N n0 bot ops base loc (ops.take m) (fun top base k loc=>MpE P T kn N n0 ops m bot top base k loc (fun top base k loc=>Q .normal top bot base k loc)) [] top base k loc))
  (fun _ _ iha ihb Q top bot base k loc=>iha (fun e top bot base k loc=>match e with
    | .normal=>ihb Q top bot base k loc
    | e=>Q e top bot base k loc) top bot base k loc)
  (fun c _ _ ihx ihy Q top bot base k loc=>match c with
    | .tmp t=>match rget2 top bot t with
      | some (.lit true)=>ihx Q top bot base k loc
      | some (.lit false)=>ihy Q top bot base k loc
      | some (.v (.bool b))=>IfN b (ihx Q ((t,.lit true)::top) bot base k loc) (ihy Q ((t,.lit false)::top) bot base k loc)
      | _=>False
    | .const (.bool true)=>ihx Q top bot base k loc
    | .const (.bool false)=>ihy Q top bot base k loc
    | _=>False)
  (fun id _ ih Q top bot base k loc=>ih (fun e top bot base k loc=>match e with
    | .exit i=>match Nat.beq i id with
      | true=>Q .normal top bot base k loc
      | false=>Q (.exit i) top bot base k loc
    | e=>Q e top bot base k loc) top bot base k loc)
  (fun c _ Q top bot base k loc=>LoopN P kn T N n0 c Q top bot base k loc)
  (fun f ps assign body _ _ Q top bot base k loc=>match evR top bot f with
    | some (.v (.clo (.func gf) fs cs))=>RangeN P N n0 gf fs cs ps assign body Q top bot base k loc
    | _=>False)
  (fun id Q top bot base k loc=>Q (.exit id) top bot base k loc)
  (fun _ ih Q top bot base k loc=>ih (fun e top bot base k loc=>match e with
    | .goto _=>False
    | e=>Q e top bot base k loc) top bot base k loc)
  (fun _ Q top bot base k loc=>Q .normal top bot base k loc)
  (fun _ _ _ _ _ _ _=>False)
  (fun Q top bot base k loc=>Q .ret top bot base k loc)
  (fun _ _ _ _ _ _ _=>False) c
section
variable {P:Program} {N:FN} {n0:Nat} {T:TypeId→Option TI} {kn:TypeId→Nat}
theorem vw_mono [Glob] {c:Code} {Q Q':Exit→Env→Hp→Prop} {env:Env} {hp:Hp} (h:VW P N c Q env hp) (hq:∀ e env H,Q e env H→Q' e env H):VW P N c Q' env hp:=h.mono hq
theorem df_mono [Glob] {I:Hp→Prop} {all:List Oper} {K K':Env→Hp→Prop} (hK:∀ e hp,K e hp→K' e hp):∀ {ds:List DOp} {e:Env} {hp:Hp},DF P N I all ds e hp K→DF P N I all ds e hp K'
 | [],e,hp,h=>hK e hp h
 | d::ds,e,hp,⟨hp',h1,h2⟩=>⟨hp',h1,df_mono hK h2⟩
theorem dr_mono [Glob] {I:Hp→Prop} {all rest:List Oper} {ks:List Nat} {K K':Env→Hp→Prop} {e:Env} {hp:Hp} (hK:∀ e hp,K e hp→K' e hp) (h:DR P N I all rest ks e hp K):DR P N I all rest ks e hp K':=by
 obtain ⟨ds,h1,h2,h3⟩:=h
 exact ⟨ds,h1,h2,df_mono hK h3⟩
theorem range_sound [Glob] {f:Operand} {gf:FuncId} {fs cs:List AV} {ps:Array Tmp} {assign body:Code} {Q:QR} {top bot:RE} {base:Heap} (hf:evR top bot f=some (.v (.clo (.func gf) fs cs))) (hn:base.length=n0) {k:Nat} {loc:Heap} (h:RangeN P N n0 gf fs cs ps assign body Q top bot base k loc) :
  VW P N (.rangeFunc f ps assign body) (LS n0 Q) (trE n0 (top++bot)) ⟨base,k,loc⟩:=by
 induction h with
 | mk h =>
   rename_i k loc
   obtain ⟨hro,ts,bk,R,hbk,hc,hR⟩:=h
   subst hn
   intro g w a hH hE
   have hk:loc.length=k:=hH.k
   rw [appL_eq,appL_eq] at hc
   refine vw_range (hp:=⟨base,k,loc⟩) (benv:=trE base.length bk) (R:=R) (zb1 hf) (fun s=>?_) (fun i hi=>?_) hc (fun r H' hr=>?_) g w a hH hE
   ·cases hb:rgetO bk s with
    | some v =>
      have h1:=zbu (n0:=base.length) (zer hbk hb)
      have h2:=zc3 (n0:=base.length) hb []
      rw [yat] at h2
      rw [h1,h2]
      exact yae _
    | none =>
      have h2:=zcz (n0:=base.length) hb []
      rw [yat] at h2
      rw [h2]
      exact wk_junk _
   ·obtain ⟨st,jp,e,L,h1⟩:=hro i hi
    exact ⟨st,jp,e,L,h1⟩
   ·obtain ⟨base',k',loc',st,jp,loc'',e1,e2,e3,e4,e5,e6,e7⟩:=hR r H' hr
    have e6':lset loc' k (.loop .exhausted jp (trE base.length bk) ⟨N.n,ps,assign,body⟩)=some (loc'.set k (.loop .exhausted jp (trE base.length bk) ⟨N.n,ps,assign,body⟩)):=zdx (zd6 _ _ _ _ e6).2
    have e8:lset (loc'.set k (.loop .exhausted jp (trE base.length bk) ⟨N.n,ps,assign,body⟩)) k .dead=some loc'':=by
     obtain ⟨q1,q2⟩:=zd6 _ _ _ _ e6
     rw [zdx (by simpa using q2),q1]
     simp
    have hput:=zc8 (base:=base') (k:=k') e6'
    have hput2:=zc8 (base:=base') (k:=k') e8
    rw [e3] at hput hput2
    refine ⟨⟨base',k',loc'⟩,fun g w hH=>⟨e1,e2⟩,st,jp,?_,e5,_,_,hput,hput2,?_⟩
    ·have:=zci (base:=base') (k:=k') e4
     rw [e3] at this
     exact this
    ·cases jp with
     | none=>exact ⟨top,bot,base',k',loc'',ydm _ _,rfl,e3,e7⟩
     | some c =>
       cases c with
       | ret=>exact ⟨top,bot,base',k',loc'',ydm _ _,rfl,e3,e7⟩
       | exit id=>exact ⟨top,bot,base',k',loc'',ydm _ _,rfl,e3,e7⟩
       | _=>exact e7.elim
 | tokB i j e sz hb hv hs hl h1 _ ih =>
   intro g w a hH hE
   rw [zcx _ _ _ hl] at h1
   obtain ⟨g1,f3,f4⟩:=hH.tokBox (zci hb) hv (by rw [← hn] at hs;exact hs) (zc8 h1)
   rw [← hE.fo f4]
   exact Code.wpIn_mono (fun _ _ _ hl=>zc1 f4 (yc3 _ _ _ _) hl) (ih g1 w a f3 (hE.ext f4))
 | vecB i j e sz hb hv hs hl h1 _ ih =>
   intro g w a hH hE
   rw [zcx _ _ _ hl] at h1
   obtain ⟨g1,f3,f4⟩:=hH.vecBox (zci hb) hv (by rw [← hn] at hs;exact hs) (zc8 h1)
   rw [← hE.fo f4]
   exact Code.wpIn_mono (fun _ _ _ hl=>zc1 f4 (yc3 _ _ _ _) hl) (ih g1 w a f3 (hE.ext f4))
theorem zbx [Glob] (he:Env0 P T kn) (hm:P.follows .mixedOrders=true):∀ (c:Code) (Q:QR) (top bot:RE) (base:Heap) (k:Nat) (loc:Heap),base.length=n0→wpC P kn T N n0 c Q top bot base k loc→VW P N c (LS n0 Q) (trE n0 (top++bot)) ⟨base,k,loc⟩
 | .skip,Q,top,bot,base,k,loc,hn,h=>vw_skip ⟨top,bot,base,k,loc,ydm _ _,rfl,hn,h⟩
 | .label _,Q,top,bot,base,k,loc,hn,h=>vw_label ⟨top,bot,base,k,loc,ydm _ _,rfl,hn,h⟩
 | .exit id,Q,top,bot,base,k,loc,hn,h=>vw_exit ⟨top,bot,base,k,loc,ydm _ _,rfl,hn,h⟩
 | .ret,Q,top,bot,base,k,loc,hn,h=>vw_ret ⟨top,bot,base,k,loc,ydm _ _,rfl,hn,h⟩
 | .region id ⟨ops⟩ false,Q,top,bot,base,k,loc,hn,h=>by
   refine vw_region (wpO_sound he ?_ ops top base k loc hn h)
   intro top base k loc hn h
   exact ⟨top,bot,base,k,loc,ydm _ _,rfl,hn,h⟩
 | .region id ⟨ops⟩ true,Q,top,bot,base,k,loc,hn,h=>by
   rcases h with ⟨⟨W,h⟩|⟨m,W,h⟩|⟨m,W,h⟩⟩
   rotate_left
   ·exact vw_ap he hm hn (fun top base k loc hn h=>⟨top,bot,base,k,loc,ydm _ _,rfl,hn,h⟩) h
   ·exact vw_mp he hm hn (fun top base k loc hn h=>⟨top,bot,base,k,loc,ydm _ _,rfl,hn,h⟩) h
   have plain:∀ W,wpD W P kn T N n0 bot ops base loc ops (fun top base k loc=>Q .normal top bot base k loc) [] top base k loc→VW P N (.region id ⟨ops⟩ true) (LS n0 Q) (trE n0 (top++bot)) ⟨base,k,loc⟩:=by
    intro W h
    obtain ⟨ks,h1,h2⟩:=zfg (N:=N) (k0:=k) (W:=W) he hn ops [] top base k loc hn (fun _=>⟨rfl,Tame.refl _ _ _⟩) h
    simp only [List.reverse_nil,ydg,yak] at h1
    refine vw_draw (I:=IW W base k loc) (fun X=>⟨loc,X,Tq.refl _,rfl⟩) (closOf ops) ks hm h1.1 h1.2 (dr_mono ?_ h2)
    rintro env hp ⟨top,b1,k,loc,e1,rfl,e3,e2⟩
    exact ⟨top,bot,b1,k,loc,e1,rfl,e3,e2⟩
   cases W with
   | nil=>exact plain [] h
   | cons w W =>
     have h:wpDQ (Nat.ble 2000000 w) (w::W) (takeN (w-2000000) W) P kn T N n0 bot ops base loc (fun top base k loc=>Q .normal top bot base k loc) top k:=h
     generalize Nat.ble 2000000 w=b at h
     generalize takeN (w-2000000) W=tk at h
     unfold wpDQ at h
     cases b with
     | false=>exact plain _ h
     | true =>
       have hp:=h.side
       have h:=h.rest
       split at h
       ·rename_i ops' hl
        obtain ⟨ks,h1,h2⟩:=zfg (N:=N) (k0:=k) (W:=tk.2) he hn ops' [] top base k loc hn (fun _=>⟨rfl,Tame.refl _ _ _⟩) h
        simp only [List.reverse_nil,ydg,yak] at h1
        refine vw_perm hp hl (I:=IW tk.2 base k loc) (fun X=>⟨loc,X,Tq.refl _,rfl⟩) (closOf ops') ks hm h1.1 h1.2 (dr_mono ?_ h2)
        rintro env hp ⟨top,b1,k,loc,e1,rfl,e3,e2⟩
        exact ⟨top,bot,b1,k,loc,e1,rfl,e3,e2⟩
       ·exact h.elim
 | .seq a b,Q,top,bot,base,k,loc,hn,h=>by
   refine vw_seq (vw_mono (zbx he hm a _ top bot base k loc hn h) ?_)
   rintro e env hp ⟨top,bot,base,k,loc,h1,rfl,h3,h4⟩
   cases e with
   | normal=>exact vw_env (zbx he hm b Q top bot base k loc h3 h4) h1
   | exit i=>exact ⟨top,bot,base,k,loc,h1,rfl,h3,h4⟩
   | goto i=>exact ⟨top,bot,base,k,loc,h1,rfl,h3,h4⟩
   | ret=>exact ⟨top,bot,base,k,loc,h1,rfl,h3,h4⟩
   | panic i=>exact ⟨top,bot,base,k,loc,h1,rfl,h3,h4⟩
   | outgrown=>exact ⟨top,bot,base,k,loc,h1,rfl,h3,h4⟩
 | .cond c x y,Q,top,bot,base,k,loc,hn,h=>by
   simp only [wpC] at h
   split at h
   ·rename_i t
    split at h
    ·rename_i hc
     exact vw_cond_t (zbu hc) (zbx he hm x Q top bot base k loc hn h)
    ·rename_i hc
     exact vw_cond_f (zbu hc) (zbx he hm y Q top bot base k loc hn h)
    ·rename_i b hc
     refine vw_cond (zbu hc) (fun e=>?_) (fun e=>?_)
     ·subst e
      exact vw_env (zbx he hm x Q _ bot base k loc hn (h.t rfl)) (fun s=>Wk.of_eq (lit_get hc s))
     ·subst e
      exact vw_env (zbx he hm y Q _ bot base k loc hn (h.f rfl)) (fun s=>Wk.of_eq (lit_get hc s))
    ·exact h.elim
   ·exact vw_cond_t rfl (zbx he hm x Q top bot base k loc hn h)
   ·exact vw_cond_f rfl (zbx he hm y Q top bot base k loc hn h)
   ·exact h.elim
 | .block id c,Q,top,bot,base,k,loc,hn,h=>by
   refine vw_block (vw_mono (zbx he hm c _ top bot base k loc hn h) ?_)
   rintro e env hp ⟨top,bot,base,k,loc,h1,rfl,h3,h4⟩
   cases e with
   | normal=>exact ⟨top,bot,base,k,loc,h1,rfl,h3,h4⟩
   | exit i =>
     simp only [blockQ] at h4 ⊢
     split at h4
     ·rename_i hb;simp only [hb];exact ⟨top,bot,base,k,loc,h1,rfl,h3,h4⟩
     ·rename_i hb;simp only [hb];exact ⟨top,bot,base,k,loc,h1,rfl,h3,h4⟩
   | goto i=>exact ⟨top,bot,base,k,loc,h1,rfl,h3,h4⟩
   | ret=>exact ⟨top,bot,base,k,loc,h1,rfl,h3,h4⟩
   | panic i=>exact ⟨top,bot,base,k,loc,h1,rfl,h3,h4⟩
   | outgrown=>exact ⟨top,bot,base,k,loc,h1,rfl,h3,h4⟩
 | .loop c,Q,top,bot,base,k,loc,hn,h=>fun g w a hH hE=>(h.h g w a hH hE).loop
 | .scope c,Q,top,bot,base,k,loc,hn,h=>by
   refine vw_scope (vw_mono (zbx he hm c _ top bot base k loc hn h) ?_)
   rintro e env hp ⟨top,bot,base,k,loc,h1,rfl,h3,h4⟩
   cases e with
   | normal=>exact ⟨top,bot,base,k,loc,h1,rfl,h3,h4⟩
   | exit i=>exact ⟨top,bot,base,k,loc,h1,rfl,h3,h4⟩
   | goto i=>exact h4.elim
   | ret=>exact ⟨top,bot,base,k,loc,h1,rfl,h3,h4⟩
   | panic i=>exact ⟨top,bot,base,k,loc,h1,rfl,h3,h4⟩
   | outgrown=>exact ⟨top,bot,base,k,loc,h1,rfl,h3,h4⟩
 | .rangeFunc f ps assign body,Q,top,bot,base,k,loc,hn,h=>by
   simp only [wpC] at h
   split at h
   case h_2=>exact h.elim
   rename_i gf fs cs hf
   exact range_sound hf hn h
 | .goto _,_,_,_,_,_,_,_,h=>h.elim
 | .refuse _,_,_,_,_,_,_,_,h=>h.elim
def Blk.isLoc:Blk→Bool
 | .box _ _=>true
 | .mp _ _=>true
 | .vec _ _ _=>true
 | _=>false
def G.frz (g:G) (n0:Nat) (loc:Heap):G :=
 { g with own:=fun b o=>g.own b o∧∀ j B,loc[j]? = some B→B.isLoc=true→locs g (n0+j) B≠some b }
mutual
inductive Frz (n0:Nat) (loc:Heap):AV→AV→Prop where
 | refl (v:AV):Frz n0 loc v v
 | ptr {j o:Nat} {t:TypeId} {l l' l'':List AV}:lget loc j=some (.box t l)→dropC o l=some l'→FrzL n0 loc l' l''→Frz n0 loc (.ptr (n0+j) o) (.rptr l'')
 | clo {f:Fn} {fs fs' cs cs':List AV}:FrzL n0 loc fs fs'→FrzL n0 loc cs cs'→Frz n0 loc (.clo f fs cs) (.clo f fs' cs')
 | agg {l l':List AV}:FrzL n0 loc l l'→Frz n0 loc (.agg l) (.agg l')
 | tup {l l':List AV}:FrzL n0 loc l l'→Frz n0 loc (.tup l) (.tup l')
 | sl {tok:Option Nat} {n:Nat} {l l':List AV}:FrzL n0 loc l l'→Frz n0 loc (.sl tok n l) (.sl none n l')
 | sx {n:Nat} {l l':List AV}:FrzL n0 loc l l'→Frz n0 loc (.sx n l) (.sx n l')
 | ms {j o n:Nat} {t:TypeId} {l l' l'':List AV}:lget loc j=some (.box t l)→dropC o l=some l'→FrzL n0 loc l' l''→Frz n0 loc (.ms (n0+j) o n) (.sl none n l'')
 | mp {j:Nat} {ks vs ks' vs':List AV}:lget loc j=some (.mp ks vs)→FrzL n0 loc ks ks'→FrzL n0 loc vs vs'→Frz n0 loc (.mp (n0+j)) (.rmp ks' vs')
 | vs {j n sz:Nat} {e:TypeId} {l l':List AV}:lget loc j=some (.vec e sz l)→l.length=n * sz→FrzL n0 loc l l'→Frz n0 loc (.vs (n0+j) n) (.sl none n l')
inductive FrzL (n0:Nat) (loc:Heap):List AV→List AV→Prop where
 | nil:FrzL n0 loc [] []
 | cons {v v':AV} {l l':List AV}:Frz n0 loc v v'→FrzL n0 loc l l'→FrzL n0 loc (v::l) (v'::l')
end
theorem frz_extV (g:G) (w:World) (n0:Nat) (loc:Heap):ExtV g w (g.frz n0 loc) w :=
 ⟨fun _ h=>h,fun _ _=>rfl,fun _ _=>.inl rfl,fun hc ho=>⟨hc,fun q=>ho q.1⟩,fun hb ho=>⟨hb,fun o q=>ho o q.1⟩⟩
mutual
theorem Frz.rel [Glob] {g:G} {w:World} {base:Heap} {k:Nat} {loc:Heap} (hH:HRel g w ⟨base,k,loc⟩):∀ {v v':AV},Frz base.length loc v v'→∀ c,VRel g w v c→VRel (g.frz base.length loc) w v' c
 | _,_,.refl v,c,h=>zc5 (frz_extV _ _ _ _) v c h
 | _,_,@Frz.ptr _ _ j o t l l' l'' h1 h2 h3,c,h=>by
   simp only [VRel] at h ⊢
   obtain ⟨hok,rfl⟩:=h
   have hat:(⟨base,k,loc⟩:Hp).all[base.length+j]? = some (.box t l):=zci h1
   obtain ⟨cs,e1,e2,e3⟩:=hH.rel _ _ hat
   obtain ⟨hd1,hd2⟩:=zc0 _ _ _ h2
   have e2':=e2.drop o
   rw [hd1] at e2'
   have e4:=FrzL.rel hH h3 _ e2'
   refine ⟨_,_,rfl,ydk fun q v hq=>?_⟩
   obtain ⟨c',q1,q2⟩:=e4.get hq
   rw [yc2] at q1
   refine ⟨c',cell_iff.2 ⟨cs,t,_,e1,by simpa using q1⟩,q2,fun ho=>?_⟩
   rw [za9] at h1
   exact ho.2 j _ h1 rfl rfl
 | _,_,.clo h1 h2,c,h=>by
   simp only [VRel] at h ⊢
   obtain ⟨⟨h0,h0'⟩,f',c',hc,e1,e2⟩:=h
   refine ⟨⟨fnOk_ext (frz_extV g w base.length loc) h0,?_⟩,f',c',by rw [fnG_ext (frz_extV g w base.length loc) h0];exact hc,FrzL.rel hH h1 _ e1,FrzL.rel hH h2 _ e2⟩
   rename_i f fs fs' cs cs'
   cases f with
   | yield i =>
     have h0':cs=[]:=h0'
     subst h0'
     cases h2
     exact rfl
   | _=>trivial
 | _,_,.agg h1,c,h=>by
   simp only [VRel] at h ⊢
   obtain ⟨cs,hc,e1⟩:=h
   exact ⟨cs,hc,FrzL.rel hH h1 _ e1⟩
 | _,_,.tup h1,c,h=>by
   simp only [VRel] at h ⊢
   obtain ⟨cs,hc,e1⟩:=h
   exact ⟨cs,hc,FrzL.rel hH h1 _ e1⟩
 | _,_,@Frz.sl _ _ tok n l l' h1,c,h=>by
   simp only [VRel] at h ⊢
   obtain ⟨A,cap,hc,hn,hm,-⟩:=h
   refine ⟨A,cap,hc,hn,?_,fun t e=>by cases e⟩
   rcases hm with rfl|⟨b,o,hA,hm⟩
   ·cases h1;exact .inl rfl
   ·exact .inr ⟨b,o,hA,FrzL.mrel hH h1 b o hm⟩
 | _,_,@Frz.sx _ _ n l l' h1,c,h=>by
   simp only [VRel] at h ⊢
   obtain ⟨A,hc,hm⟩:=h
   refine ⟨A,hc,?_⟩
   rcases hm with rfl|⟨b,o,hA,hm⟩
   ·cases h1;exact .inl rfl
   ·exact .inr ⟨b,o,hA,FrzL.mrel hH h1 b o hm⟩
 | _,_,@Frz.ms _ _ j o n t l l' l'' h1 h2 h3,c,h=>by
   simp only [VRel] at h ⊢
   obtain ⟨hok,cap,hn,rfl⟩:=h
   have hat:(⟨base,k,loc⟩:Hp).all[base.length+j]? = some (.box t l):=zci h1
   obtain ⟨cs,e1,e2,e3⟩:=hH.rel _ _ hat
   obtain ⟨hd1,hd2⟩:=zc0 _ _ _ h2
   have e2':=e2.drop o
   rw [hd1] at e2'
   have e4:=FrzL.rel hH h3 _ e2'
   refine ⟨_,_,rfl,hn,.inr ⟨_,_,rfl,ydk fun q v hq=>?_⟩,fun t e=>by cases e⟩
   obtain ⟨c',q1,q2⟩:=e4.get hq
   rw [yc2] at q1
   refine ⟨c',cell_iff.2 ⟨cs,t,_,e1,by simpa using q1⟩,q2,fun ho=>?_⟩
   rw [za9] at h1
   exact ho.2 j _ h1 rfl rfl
 | _,_,@Frz.mp _ _ j ks vs ks' vs' h1 h2 h3,c,h=>by
   simp only [VRel] at h ⊢
   obtain ⟨hok,rfl⟩:=h
   have hat:(⟨base,k,loc⟩:Hp).all[base.length+j]? = some (.mp ks vs):=zci h1
   obtain ⟨es,clk,e1,hbn,e2,e3,e4⟩:=hH.rel _ _ hat
   rw [za9] at h1
   exact ⟨_,es,clk,rfl,e1,hbn,fun o ho=>ho.2 j _ h1 rfl rfl,FrzL.rel hH h2 _ e2,FrzL.rel hH h3 _ e3⟩
 | _,_,@Frz.vs _ _ j n sz e l l' h1 h2 h3,c,h=>by
   simp only [VRel] at h ⊢
   obtain ⟨hok,hle,A,cap,rfl,hn,hA⟩:=h
   have hat:(⟨base,k,loc⟩:Hp).all[base.length+j]? = some (.vec e sz l):=zci h1
   obtain ⟨q1,q2,q3⟩:=hH.rel _ _ hat
   rw [za9] at h1
   obtain ⟨r1,r2⟩:=hA (by rw [q1,q2,h2])
   subst r1 r2
   have e4:∀ cs,LRel g w l cs→LRel (g.frz base.length loc) w l' cs:=fun cs hcs=>FrzL.rel hH h3 _ hcs
   rcases q3 with ⟨p1,p2,p3⟩|⟨b,cs,p1,p2,p3,p4,p5,p6,p7⟩
   ·subst p2
    cases h3
    exact ⟨_,_,rfl,hn,.inl rfl,fun t e=>by cases e⟩
   ·refine ⟨_,_,rfl,hn,.inr ⟨b,0,by rw [p1];rfl,ydk fun q v hq=>?_⟩,fun t e=>by cases e⟩
    ·obtain ⟨c',s1,s2⟩:=(e4 _ p6).get hq
     refine ⟨c',cell_iff.2 ⟨cs,e,_,p2,?_⟩,s2,fun ho=>ho.2 j _ h1 rfl p1⟩
     rw [ybp] at s1
     split at s1
     ·simpa using s1
     ·cases s1
theorem FrzL.rel [Glob] {g:G} {w:World} {base:Heap} {k:Nat} {loc:Heap} (hH:HRel g w ⟨base,k,loc⟩):∀ {l l':List AV},FrzL base.length loc l l'→∀ cs,LRel g w l cs→LRel (g.frz base.length loc) w l' cs
 | _,_,.nil,cs,h=>by simpa [LRel] using h
 | _,_,.cons h1 h2,cs,h=>by
   simp only [LRel] at h ⊢
   obtain ⟨c,r,hc,e1,e2⟩:=h
   exact ⟨c,r,hc,Frz.rel hH h1 c e1,FrzL.rel hH h2 r e2⟩
theorem FrzL.mrel [Glob] {g:G} {w:World} {base:Heap} {k:Nat} {loc:Heap} (hH:HRel g w ⟨base,k,loc⟩):∀ {l l':List AV},FrzL base.length loc l l'→∀ b o,MRel g w l b o→MRel (g.frz base.length loc) w l' b o
 | _,_,.nil,b,o,h=>by simp [MRel]
 | _,_,.cons h1 h2,b,o,h=>by
   simp only [MRel] at h ⊢
   obtain ⟨⟨c,e1,e2,e3⟩,e4⟩:=h
   exact ⟨⟨c,e1,Frz.rel hH h1 c e2,fun q=>e3 q.1⟩,FrzL.mrel hH h2 b (o+1) e4⟩
end
theorem HRel.frz [Glob] {g:G} {w:World} {base:Heap} {k:Nat} {loc:Heap} (h:HRel g w ⟨base,k,loc⟩) {H:Heap} {g0:G} {w0:World} (h0:HRel g0 w0 (Hp.of H)) (hl:base.length=H.length)
  (hb:∀ (i:Nat) B,base[i]? = some B→H[i]? = some B∨B.below H.length):HRel ((g.frz base.length loc).cut H.length) w (Hp.of base):=by
 have hz:(Hp.of base).all=base:=by simp [Hp.of,Hp.all]
 have hc:=HRel.cutBase h0 h hl hb
 have hall:∀ (i:Nat) B,base[i]? = some B→(⟨base,k,loc⟩:Hp).all[i]? = some B:=fun i B hi=>by
  unfold Hp.all
  rw [yaj (yac.1 hi).1,hi]
 have hne:∀ {i:Nat} {B:Blk} {b:Nat},base[i]? = some B→locs g i B=some b→∀ j C,loc[j]? = some C→C.isLoc=true→locs g (base.length+j) C≠some b:=by
  intro i B b hi hb j C hj hC e
  have hj':(⟨base,k,loc⟩:Hp).all[base.length+j]? = some C:=zci (by rw [za9];exact hj)
  have:=h.inj i (base.length+j) B _ b (hall i B hi) hj' hb e
  have:=(yac.1 hi).1
  omega
 have hx:=frz_extV (g.cut H.length) w base.length loc
 have heq:(g.frz base.length loc).cut H.length=(g.cut H.length).frz base.length loc:=by
  unfold G.frz G.cut
  simp only [G.mk.injEq,true_and,and_true]
  funext b o
  congr 1
 rw [heq]
 refine ⟨hc.n,hc.k,fun i B hi=>?_,fun b o hb=>hc.lt b o hb.1,hc.pend,hc.inj,fun p hp=>zcu hx _ _ _ (hc.glob p hp)⟩
 have hr:=hc.rel i B hi
 have hi':=hi
 rw [hz] at hi
 exact hr.keepV hx (at_ok hc hi') (fun _ _=>rfl) rfl (fun b o hb ho=>⟨ho,fun j C hj hC e=>hne (b:=b) hi (by cases B <;> exact hb) j C hj hC (by cases C <;> exact e)⟩)
theorem Ext.frz {g g':G} {w w':World} {n0:Nat} {loc:Heap} (h:Ext g w g' w'):Ext g w (g'.frz n0 loc) w' :=
 ⟨h.n,h.pend,h.ok,h.blk,h.tk,fun b o hb ho=>h.own b o hb ho.1,h.os,h.tape,h.output,h.drawn,h.size,h.same,h.cells⟩
end
end
section
def rvR (T:TypeId→Option TI) (n0:Nat) (top bot:RE) (loc:Heap):ResultVar→Option AV
 | .tmp t=>match rget2 top bot t with
   | some (.v a)=>some a
   | some (.lp j o)=>some (.ptr (n0+j) o)
   | some (.lit b)=>some (.bool b)
   | none=>none
 | .cell t ty=>match rget2 top bot t with
   | some (.lp j o)=>match lget loc j with
     | some (.box _ l)=>match dropC o l with
       | some l'=>match T ty with
         | some ti=>loadC ti l'
         | none=>none
       | none=>none
     | _=>none
   | _=>none
def rvRs (T:TypeId→Option TI) (n0:Nat) (top bot:RE) (loc:Heap):List ResultVar→Option (List AV)
 | []=>some []
 | r::rs=>match rvR T n0 top bot loc r with
   | some v=>match rvRs T n0 top bot loc rs with
     | some vs=>some (v::vs)
     | none=>none
   | none=>none
inductive EndN (H base:Heap) (loc:Heap) (u:AV) (R:AV→Heap→Prop):Prop where
 | cut (len:base.length=H.length)
   (low:∀ (i:Nat) B,base[i]? = some B→H[i]? = some B∨B.below H.length)
   (res:∃ u' r,Frz base.length loc u u'∧Wk u' r∧below H.length r∧R r base)
 | keep (r:AV) (hw:Wk u r) (h:R r (base++loc))
def endQ (T:TypeId→Option TI) (n0:Nat) (rs:List ResultVar) (H:Heap) (R:AV→Heap→Prop):QR:=fun e top bot base _ loc=>match e with
 | .ret=>match rvRs T n0 top bot loc rs with
   | some [v]=>EndN H base loc v R
   | some vs=>EndN H base loc (.tup vs) R
   | none=>False
 | .normal=>match rvRs T n0 top bot loc rs with
   | some [v]=>EndN H base loc v R
   | some vs=>EndN H base loc (.tup vs) R
   | none=>False
 | _=>False
def argRE:Nat→List AV→RE
 | _,[]=>[]
 | i,v::l=>(i,.v v)::argRE (i+1) l
def argO:Nat→List AV→Option RE
 | _,[]=>some []
 | i,v::l=>match argO (i+1) l with
   | some r=>some ((i,.v v)::r)
   | none=>none
theorem argO_eq:∀ (l:List AV) (i:Nat) (r:RE),argO i l=some r→r=argRE i l
 | [],_,_,h=>by simp only [argO,yad] at h;exact h.symm
 | v::l,i,r,h=>by
   simp only [argO] at h
   split at h
   ·rename_i r' hr
    simp only [yad] at h;subst h
    rw [argO_eq l (i+1) r' hr];rfl
   ·cases h
theorem argRE_tr (n0:Nat):∀ (l:List AV) (i:Nat),trE n0 (argRE i l)=argEnv i l
 | [],_=>rfl
 | v::l,i=>by simp [argRE,trE,argEnv,tr,argRE_tr n0 l (i+1)]
section
variable {P:Program} {N:FN} {n0:Nat} {T:TypeId→Option TI} {kn:TypeId→Nat}
theorem rvRs_RVs [Glob] {top bot:RE} {base:Heap} {k:Nat} {loc:Heap} {env:Env} (hn:base.length=n0) (ha:Apx n0 env (top++bot)):∀ {rs:List ResultVar} {vs:List AV},rvRs T n0 top bot loc rs=some vs →
  ∀ {g:G} {w:World} {a:Act} (_:TOk P T),HRel g w ⟨base,k,loc⟩→ERel N g w env a→∃ cs:List Value,(rs.mapM (rvF a)).run P w=.ok cs w∧LRel g w vs cs
 | [],vs,h,g,w,a,hT,hH,hE=>by
   simp only [rvRs,yad] at h;subst h
   exact ⟨[],by simp,by simp [LRel]⟩
 | r::rs,vs,h,g,w,a,hT,hH,hE=>by
   simp only [rvRs] at h
   split at h
   ·rename_i v hv
    split at h
    ·rename_i vs' hvs
     simp only [yad] at h;subst h
     have hE':ERel N g w (trE n0 (top++bot)) a:=⟨hE.1,fun s=>ha s _ _ _ (hE.rel s),hE.ro,hE.glob⟩
     have hrv:RV T (trE n0 (top++bot)) ⟨base,k,loc⟩ r v:=by
      cases r with
      | tmp t =>
        simp only [rvR] at hv
        have:∃ v',rget2 top bot t=some v'∧v=tr n0 v':=by
         split at hv <;> simp only [yad,reduceCtorEq] at hv <;> subst hv <;> exact ⟨_,‹_›,rfl⟩
        obtain ⟨v',hv',rfl⟩:=this
        simp only [RV];rw [zbu hv'];exact nf_ne
      | cell t ty =>
        simp only [rvR] at hv
        split at hv
        ·rename_i j o hv'
         split at hv
         ·rename_i u l hg
          split at hv
          ·rename_i l' hd
           split at hv
           ·rename_i ti ht
            refine ⟨n0+j,o,u,l,l',ti,zbu hv',?_,hd,ht,hv⟩
            rw [← hn];exact zci hg
           ·cases hv
          ·cases hv
         ·cases hv
        ·cases hv
     obtain ⟨c,h1,h2⟩:=rv_run hT hH hE' hrv
     obtain ⟨cs,h3,h4⟩:=rvRs_RVs hn ha hvs hT hH hE
     refine ⟨c::cs,?_,by simp only [LRel];exact ⟨c,cs,rfl,h2,h4⟩⟩
     rw [List.mapM_cons,Sem.run_bind,h1,Result.andThen_ok,Sem.run_bind,h3]
     rfl
    ·cases h
   ·cases h
theorem results_of {fn:Func} {a:Act} {w:World} {g:G} {vs:List AV} {cs:List Value} (h1:(fn.results.toList.mapM (rvF a)).run P w=.ok cs w) (h2:LRel g w vs cs) :
  ∃ c,(results fn a.tmps).run P w=.ok c w∧VRel g w (tupOf vs) c:=by
 refine ⟨if hz:cs.toArray.size=1 then cs.toArray[0] else .tuple cs.toArray,?_,?_⟩
 ·have e:results fn a.tmps=(do
    let vs ← fn.results.mapM (rvF a)
    pure (if h:vs.size=1 then vs[0] else .tuple vs)):=rfl
  rw [e,Array.mapM_eq_mapM_toList,Sem.run_bind,Sem.run_map,h1]
  rfl
 ·match vs,cs,h2 with
  | [],cs,h2 =>
    simp only [LRel] at h2
    subst h2
    simp [tupOf,VRel,LRel]
  | [v],cs,h2 =>
    simp only [LRel] at h2
    obtain ⟨c,r,rfl,h3,rfl⟩:=h2
    simpa [tupOf] using h3
  | v::u::vs,cs,h2 =>
    have hl:=h2.length
    simp only [tupOf,VRel]
    refine ⟨cs.toArray,?_,h2⟩
    rw [dif_neg]
    simp only [ybm,hl,List.length_cons]
    omega
theorem zfe [Glob] (he:Env0 P T kn) (hm:P.follows .mixedOrders=true) {F:FuncId} {fn:Func} {c:Code} {args:List AV} {H:Heap} {R:AV→Heap→Prop} (hf:P.funcs[F]? = some fn) (hnm:(fn.name == "runtime.NumGoroutine")=false) (hb:fn.body=some c)
  (hN:args.length≤fn.ntmps) {re:RE} (hre:argO 0 args=some re) (h:zek H→zac H.length args→wpC P kn T ⟨fn.ntmps,none⟩ H.length c (endQ T H.length fn.results.toList H R) re [] H 0 []):VCall P F args H R:=by
 obtain rfl:=argO_eq _ _ _ hre
 refine ⟨⟨fn,hf,hnm,by simp [hb]⟩,fun g w as hH hl=>calls_of_FR (o:=none) (n:=0) (callsIn_of_wp_marks hf hb trivial ?_ rfl)⟩
 have hgn:g.n=H.length:=by rw [hH.n];simp [Hp.of]
 have hw:=zbx he hm c _ _ _ _ _ _ rfl (h (closed_of hH) (hgn▸LRel.below _ _ hl))
 rw [yat,argRE_tr] at hw
 refine Code.wpIn_mono ?_ (hw g w _ hH (argEnv_rel hl hN hH.glob))
 rintro e a' w' ⟨env',hp',g',⟨top,bot,base,k,loc,hap,rfl,hbl,hq⟩,hH',hE',hx,hds⟩
 have key:∀ vs,rvRs T H.length top bot loc fn.results.toList=some vs→EndN H base loc (tupOf vs) R→LeavesInM (FR none) 0 P fn a'.tmps (fun e w'=>∃ r H' g'' c',e=.returned c'∧R r H'∧HRel g'' w' (Hp.of H')∧VRel g'' w' r c'∧Ext g w g'' w') a'.defers .returning w':=by
  intro vs hvs hend
  obtain ⟨rs,hds1,hds2,hds3⟩:=hds
  simp only [yat] at hds1
  rw [hds1]
  obtain ⟨x1,x2,x3⟩:=shutAll_ok hds2 (fun r hr=>⟨(hds3 r hr).1,(hds3 r hr).2.1⟩) hx
  refine leaves_marks hds2 (fun r hr=>(hds3 r hr).2.1) ?_
  have hH'':=x3 _ hH'
  have hE'':ERel ⟨fn.ntmps,none⟩ g' (ze2 rs w') env' a':=⟨hE'.1,fun s=>zc5 x2 _ _ (hE'.rel s),hE'.ro,fun p hp=>zcu x2 _ _ _ (hE'.glob p hp)⟩
  obtain ⟨cs,h1,h2⟩:=rvRs_RVs (N:=⟨fn.ntmps,none⟩) hbl hap hvs he.T hH'' hE''
  obtain ⟨c',h3,h4⟩:=results_of h1 h2
  cases hend with
  | cut hlen hlow hres =>
    obtain ⟨u',r,hfz,hwk,hbr,hR⟩:=hres
    refine ⟨c',h3,r,base,(g'.frz base.length loc).cut H.length,c',rfl,hR,HRel.frz hH'' hH hlen hlow,?_,x1.frz.cut (by omega)⟩
    exact VRel.cut r c' (hwk _ _ _ (hfz.rel hH'' c' h4)) hbr
  | keep r hwk hR=>exact ⟨c',h3,r,base++loc,g',c',rfl,hR,hH''.of,hwk _ _ _ h4,x1⟩
 cases e with
 | ret =>
   simp only [endQ] at hq
   split at hq
   ·rename_i v hvs;exact key [v] hvs hq
   ·rename_i vs hne hvs;exact key vs hvs (by
      have:tupOf vs=.tup vs:=by
       match vs,hne with
       | [],_=>rfl
       | [v],hne=>exact (hne v rfl).elim
       | _::_::_,_=>rfl
      rw [this];exact hq)
   ·exact hq.elim
 | normal =>
   simp only [endQ] at hq
   split at hq
   ·rename_i v hvs;exact key [v] hvs hq
   ·rename_i vs hne hvs;exact key vs hvs (by
      have:tupOf vs=.tup vs:=by
       match vs,hne with
       | [],_=>rfl
       | [v],hne=>exact (hne v rfl).elim
       | _::_::_,_=>rfl
      rw [this];exact hq)
   ·exact hq.elim
 | exit i=>exact hq.elim
 | goto i=>exact hq.elim
 | panic i=>exact hq.elim
 | outgrown=>exact hq.elim
def detR (H:Heap) (v:AV):AV→Heap→Prop:=fun r H'=>H'=H∧r=v
theorem EndN.det {H:Heap} {loc:Heap} {u v:AV} (hb:below H.length v) (hw:Wk u v):EndN H H loc u (detR H v) :=
 .cut rfl (fun _ _ h=>.inl h) ⟨u,v,.refl u,hw,hb,rfl,rfl⟩
theorem eT {H loc:Heap} {v:AV} (hb:below H.length v):EndN H H loc v (detR H v):=EndN.det hb (yae _)
theorem EndN.detF {H:Heap} {loc:Heap} {u u' v:AV} (hb:below H.length v) (hf:Frz H.length loc u u') (hw:Wk u' v):EndN H H loc u (detR H v) :=
 .cut rfl (fun _ _ h=>.inl h) ⟨u',v,hf,hw,hb,rfl,rfl⟩
theorem zap [Glob] (he:Env0 P T kn) (hm:P.follows .mixedOrders=true) {F:FuncId} {fn:Func} {c:Code} {args:List AV} {H:Heap} {v:AV} (hf:P.funcs[F]? = some fn) (hnm:(fn.name == "runtime.NumGoroutine")=false) (hb:fn.body=some c)
  (hN:args.length≤fn.ntmps) {re:RE} (hre:argO 0 args=some re) (h:zek H→zac H.length args→wpC P kn T ⟨fn.ntmps,none⟩ H.length c (endQ T H.length fn.results.toList H (detR H v)) re [] H 0 []):VDet P F args H v :=
 zfe he hm hf hnm hb hN hre h
def subR (n0:Nat) (top bot:RE):RE→Prop
 | []=>True
 | (i,w)::l=>(∃ v,rget2 top bot i=some v∧Wk (tr n0 v) (tr n0 w))∧subR n0 top bot l
theorem zez {top bot:RE}:∀ {l:RE},subR n0 top bot l→∀ {s:Nat} {w:RG},rgetO l s=some w→Wk (get (trE n0 (top++bot)) s) (tr n0 w)
 | [],_,s,w,h=>by cases h
 | (i,w')::l,h,s,w,hg=>by
   simp only [rgetO] at hg
   cases hb:Nat.beq i s with
   | true =>
     simp only [hb,yad] at hg;subst hg
     have:=yap hb
     subst this
     obtain ⟨v,h1,h2⟩:=h.1
     rw [zbu h1];exact h2
   | false=>simp only [hb] at hg;exact zez h.2 hg
def hasK:RE→Nat→Bool
 | [],_=>false
 | (i,_)::l,t=>match Nat.beq i t with
   | true=>true
   | false=>hasK l t
def disjK:RE→RE→Bool
 | _,[]=>true
 | top,(i,_)::l=>match hasK top i with
   | true=>false
   | false=>disjK top l
theorem hasK_none {t:Nat}:∀ {l:RE},hasK l t=false→rgetO l t=none
 | [],_=>rfl
 | (i,_)::l,h=>by
   simp only [hasK] at h
   simp only [rgetO]
   cases hb:Nat.beq i t with
   | true=>simp [hb] at h
   | false=>simp only [hb] at h;exact hasK_none h
theorem disjK_none {top:RE}:∀ {bk:RE},disjK top bk=true→∀ {s:Nat} {w:RG},rgetO bk s=some w→rgetO top s=none
 | [],_,s,w,h=>by cases h
 | (i,v)::l,hd,s,w,h=>by
   simp only [disjK] at hd
   cases hk:hasK top i with
   | true=>simp [hk] at hd
   | false =>
     simp only [hk] at hd
     simp only [rgetO] at h
     cases hb:Nat.beq i s with
     | true=>have:=yap hb;subst this;exact hasK_none hk
     | false=>simp only [hb] at h;exact disjK_none hd h
def zau (n0 n:Nat):RE→Prop
 | []=>True
 | (_,v)::l=>below n (tr n0 v)∧zau n0 n l
theorem zgp {n:Nat}:∀ {l:RE},zau n0 n l→∀ {s:Nat} {w:RG},rgetO l s=some w→below n (tr n0 w)
 | [],_,s,w,h=>by cases h
 | (i,v)::l,hb,s,w,h=>by
   simp only [rgetO] at h
   cases hi:Nat.beq i s with
   | true=>simp only [hi,yad] at h;subst h;exact hb.1
   | false=>simp only [hi] at h;exact zgp hb.2 h
structure RoundN {σ:Type} (inv:σ→Prop) (ms:σ→Nat) (st:σ→RE) (lc:σ→Heap) (bk:RE) (n0:Nat) (base:σ→Heap) (k:Nat) (m:Nat) (top bot:RE) (base':Heap) (loc':Heap):Prop where
 h:∃ s',inv s'∧ms s'<m∧subR n0 top bot (st s')∧((bot=bk∧disjK top bk=true)∨subR n0 top bot bk)∧base'=base s'∧∃ ex,loc'=lc s'++ex∧(ex=[]∨zau n0 (n0+k) (st s')∧za5 (n0+k) (lc s'))
def roundQ {σ:Type} (inv:σ→Prop) (ms:σ→Nat) (st:σ→RE) (lc:σ→Heap) (bk:RE) (n0:Nat) (base:σ→Heap) (k:Nat) (m:Nat) (Q:QR):QR:=fun e top bot base' k' loc'=>match e with
 | .normal=>RoundN inv ms st lc bk n0 base k m top bot base' loc'
 | e=>Q e top bot base' k' loc'
theorem loop_B [Glob] (he:Env0 P T kn) (hm:P.follows .mixedOrders=true) {σ:Type} (inv:σ→Prop) (ms:σ→Nat) (st:σ→RE) (bs lc:σ→Heap) (bk:RE) (s0:σ) {c:Code} {Q:QR} {top bot:RE} {base:Heap} {k:Nat} {loc:Heap}
  (hn:∀ s,inv s→(bs s).length=n0) (hcl:∀ s,inv s→zek (bs s)) (ts:List Nat) (hbk:pickO ts top bot=some bk) (h0:inv s0) (hst:subR n0 top bot (st s0)) (hbase:base=bs s0) (hloc:loc=lc s0) (hlen:∀ s,inv s→(lc s).length=k)
  (round:∀ s,inv s→wpC P kn T N n0 c (roundQ inv ms st lc bk n0 bs k (ms s) Q) (st s) bk (bs s) k (lc s)):LoopN P kn T N n0 c Q top bot base k loc:=by
 refine ⟨?_⟩
 subst hloc hbase
 intro g w a hH hE
 have hbkb:∀ s v,rgetO bk s=some v→below (n0+k) (tr n0 v):=by
  intro s v hv
  have h1:=zbu (n0:=n0) (zer hbk hv)
  have h2:=VRel.below _ _ (hE.rel s)
  rw [h1,hH.n] at h2
  simp only [hn s0 h0] at h2
  exact h2
 let J:Nat→Act→World→Prop:=fun n a' w'=>∃ s g',inv s∧ms s=n∧HRel g' w' ⟨bs s,k,lc s⟩∧ERel N g' w' (trE n0 (st s++bk)) a'∧Ext g w g' w'∧DRel w a.defers g' w' a'.defers
 have hget:∀ (l bk:RE) (s:Nat),get (trE n0 (l++bk)) s=match rgetO l s with
   | some v=>tr n0 v
   | none=>match rgetO bk s with
     | some v=>tr n0 v
     | none=>.junk:=by
  intro l bk s
  rw [zcw]
  cases hl:rgetO l s with
  | some v=>simp only;exact zc3 hl _
  | none =>
    simp only
    rw [zcz hl]
    cases hb:rgetO bk s with
    | some v=>simp only;have:=zc3 (n0:=n0) hb [];simpa using this
    | none=>simp only;have:=zcz (n0:=n0) hb [];simp only [yat] at this;rw [this];rfl
 refine LoopWp.inv (fun a' w'=>∃ n,J n a' w') (fun a' w'=>by classical exact if h:∃ n,J n a' w' then Classical.choose (least h) else 0) ⟨ms s0,s0,g,h0,rfl,hH,⟨hE.1,fun s=>?_,hE.ro,hE.glob⟩,ycl g w,yc3 _ _ _ _⟩ ?_
 ·rw [hget]
  cases hl:rgetO (st s0) s with
  | some v=>simp only;exact zez hst hl _ _ _ (hE.rel s)
  | none =>
    simp only
    cases hb:rgetO bk s with
    | some v=>simp only;rw [← zbu (n0:=n0) (zer hbk hb)];exact hE.rel s
    | none=>simp [VRel]
 intro a1 w1 hex
 have hJ:=(ydo (least hex)).1
 obtain ⟨s1,g1,hI1,hms1,hH1,hE1,hx1,hd1⟩:=hJ
 have hr:=zbx he hm c _ _ _ _ _ _ (hn s1 hI1) (round s1 hI1) g1 w1 a1 hH1 hE1
 rw [hE.fo hx1] at hr
 refine Code.wpIn_mono ?_ hr
 rintro e a2 w2 ⟨env2,hp2,g2,⟨top2,bot2,base2,k2,loc2,hap,rfl,hn2,q⟩,hH2,hE2,hx2,hd2⟩
 have other:e≠.normal→Q e top2 bot2 base2 k2 loc2→Lift N (LS n0 Q) g w a.defers e a2 w2:=fun _ hq =>
  ⟨env2,_,g2,⟨top2,bot2,base2,k2,loc2,hap,rfl,hn2,hq⟩,hH2,hE2,hx1.trans hx2,hd1.trans hx2 hx1.size hd2⟩
 cases e with
 | normal =>
   obtain ⟨s',hi',hms',hsub,hbk',rfl,ex,rfl,hbel⟩:=q
   have hns:=hn s' hi'
   have hE3:ERel N g2 w2 (trE n0 (st s'++bk)) a2:=by
    refine ⟨hE2.1,fun s=>?_,hE2.ro,hE2.glob⟩
    have h2:=hap s _ _ _ (hE2.rel s)
    rw [hget]
    cases hl:rgetO (st s') s with
    | some v=>simp only;exact zez hsub hl _ _ _ h2
    | none =>
      simp only
      cases hb:rgetO bk s with
      | none=>simp [VRel]
      | some v =>
        simp only
        rcases hbk' with ⟨rfl,hdj⟩|hsb
        ·rw [hget,disjK_none hdj hb] at h2
         simp only [hb] at h2
         exact h2
        ·exact zez hsb hb _ _ _ h2
   have hlc:=hlen s' hi'
   have hex2:∃ m,m<ms s1∧J m a2 w2:=by
    rcases hbel with rfl|⟨hb1,hb2⟩
    ·have hk2:k2=k:=by have:=hH2.k;simp only [yat] at this;omega
     subst hk2
     rw [yat] at hH2
     exact ⟨ms s',hms',s',g2,hi',rfl,hH2,hE3,hx1.trans hx2,hd1.trans hx2 hx1.size hd2⟩
    ·have hcut:=hH2.cutLoc hlc (hcl s' hi') (by rw [hns];exact hb2)
     have hgn:g.n≤(bs s').length+k:=by rw [hH.n,hns];simp only [hn s0 h0];exact yax _
     have hxc:=(hx1.trans hx2).cut hgn
     refine ⟨ms s',hms',s',g2.cut ((bs s').length+k),hi',rfl,hcut,⟨hE3.1,fun s=>VRel.cut _ _ (hE3.rel s) ?_,fun i hi=>?_,glob_cut hE3.glob⟩,hxc,?_⟩
     ·rw [hget]
      rw [hns]
      cases hl:rgetO (st s') s with
      | some v=>simp only;exact zgp hb1 hl
      | none =>
        simp only
        cases hb:rgetO bk s with
        | some v=>simp only;exact hbkb s v hb
        | none=>simp [below]
     ·have h1:=hE.ro i hi
      exact ⟨ybs h1.1 hgn,fun q=>(hE3.ro i hi).2 q.1⟩
     ·obtain ⟨rs,d1,d2,d3⟩:=hd1.trans hx2 hx1.size hd2
      exact ⟨rs,d1,d2,d3⟩
   obtain ⟨m,hmlt,hJm⟩:=hex2
   have hex2:∃ n,J n a2 w2:=⟨m,hJm⟩
   refine ⟨hex2,?_⟩
   simp only [hex,hex2,dif_pos]
   refine Nat.lt_of_le_of_lt ((ydo (least hex2)).2 m hJm) ?_
   rw [hms1] at hmlt
   exact hmlt
 | exit i=>exact other (by simp) q
 | goto l=>exact other (by simp) q
 | ret=>exact other (by simp) q
 | panic ch=>exact other (by simp) q
 | outgrown=>exact other (by simp) q
theorem zbg [Glob] (he:Env0 P T kn) (hm:P.follows .mixedOrders=true) {σ:Type} (inv:σ→Prop) (ms:σ→Nat) (st:σ→RE) (lc:σ→Heap) (bk:RE) (s0:σ) {c:Code} {Q:QR} {top bot:RE} {base:Heap} {k:Nat} {loc:Heap}
  (hn:base.length=n0) (hcl:zek base) (ts:List Nat) (hbk:pickO ts top bot=some bk) (h0:inv s0) (hst:subR n0 top bot (st s0)) (hloc:loc=lc s0) (hlen:∀ s,inv s→(lc s).length=k)
  (round:∀ s,inv s→wpC P kn T N n0 c (roundQ inv ms st lc bk n0 (fun _=>base) k (ms s) Q) (st s) bk base k (lc s)):LoopN P kn T N n0 c Q top bot base k loc :=
 loop_B he hm inv ms st (fun _=>base) lc bk s0 (fun _ _=>hn) (fun _ _=>hcl) ts hbk h0 hst rfl hloc hlen round
end
end
section
theorem flat_drop {α:Type} {f:α→List AV} {sz:Nat} (hsz:∀ x,(f x).length=sz):∀ (l:List α) (m:Nat) (x:α),l[m]? = some x→∃ r,(l.flatMap f).drop (m * sz)=f x++r
 | [],m,x,h=>by simp at h
 | y::l,0,x,h=>by simp at h;subst h;exact ⟨l.flatMap f,by simp⟩
 | y::l,m+1,x,h=>by
   obtain ⟨r,hr⟩:=flat_drop hsz l m x (by simpa using h)
   refine ⟨r,?_⟩
   rw [ya6,show (m+1) * sz=(f y).length+m * sz by rw [hsz,yb4];omega,← List.drop_drop,List.drop_left,hr]
theorem zbt {α:Type} {f:α→List AV} {sz:Nat} {l:List α} {i:Int} {k:List AV→Prop} (d:α) (m:Nat) (hi:i=m) (hm:m<l.length) (hsz:∀ x,(f x).length=sz) (h:k (f (l.getD m d))):SegN (l.flatMap f) (i.toNat * sz) k:=by
 refine ⟨_,?_,h⟩
 have hx:l[m]? = some (l.getD m d):=by simp [yal hm]
 obtain ⟨r,hr⟩:=flat_drop hsz l m _ hx
 exact ⟨r,by rw [hi,ybj,hr]⟩
theorem zaq {n:Nat}:∀ (l m:List AV),zac n (l++m)↔zac n l∧zac n m
 | [],m=>by simp [zac]
 | v::l,m=>by simp [zac,zaq l m,and_assoc]
theorem zcn {α:Type} {f:α→List AV} {n:Nat} (l:List α) (h:∀ x,zac n (f x)):zac n (l.flatMap f):=by
 induction l with
 | nil=>simp [zac]
 | cons x l ih=>simp [zaq,h,ih]
theorem zav {α:Type} {f:α→List AV} {sz:Nat} (hsz:∀ x,(f x).length=sz) (l:List α):(l.flatMap f).length=l.length * sz:=by
 induction l with
 | nil=>simp
 | cons x l ih=>simp [ih,hsz,yb4,Nat.add_comm]
theorem w64 {n:Int} (h:-9223372036854775808≤n∧n≤9223372036854775807):IntKind.i64.wrap n=n:=IntWalk.i64_in n h
section
variable {k:Int→Prop} {x y:Int}
theorem EqN.i64 (h:-9223372036854775808≤x∧x≤9223372036854775807) (a:k x):EqN (IntKind.i64.wrap x) k:=⟨_,IntWalk.i64_in x h,a⟩
theorem EqN.u64 (h:0≤x∧x≤18446744073709551615) (a:k x):EqN (IntKind.u64.wrap x) k:=⟨_,IntWalk.u64_in x h,a⟩
theorem EqN.quo (h:0≤x∧x≤9223372036854775807∧1≤y) (a:k (x / y)):EqN (IntKind.i64.wrap (x.tdiv y)) k:=⟨_,IntWalk.i64_quo x y h,a⟩
theorem EqN.rem (h:0≤x) (a:k (x % y)):EqN (x.tmod y) k:=⟨_,Int.tmod_eq_emod_of_nonneg h,a⟩
theorem EqN.shr {b:Nat} (m:Nat) (hy:y=m) (hb:m≤b) (a:k (x / (2:Int) ^ m)):EqN (x.fdiv (2 ^ min y.toNat b)) k:=⟨_,by
 subst hy
 rw [ybj,ycd hb,Int.fdiv_eq_ediv_of_nonneg]
 exact Int.pow_nonneg (by omega),a⟩
end
theorem EqN.shrL {k:Int→Prop} {x y:Int} {b:Nat} (m:Nat) (M:Int) (hM:(2:Int) ^ m=M) (hy:y=m) (hb:Nat.ble m b=true) (a:k (x / M)):EqN (x.fdiv (2 ^ min y.toNat b)) k:=by
 subst hM
 exact EqN.shr m hy (ybv hb) a
theorem EqN.shlU {k:Int→Prop} {x y:Int} {b:Nat} (m:Nat) (M:Int) (hM:(2:Int) ^ m=M) (hy:y=m) (hb:Nat.ble m b=true) (h:0≤x * M∧x * M≤18446744073709551615) (a:k (x * M)):EqN (IntKind.u64.wrap (x * 2 ^ min y.toNat b)) k:=by
 subst hM hy
 rw [ybj,ycd (ybv hb)]
 exact EqN.u64 h a
theorem FrzL.refl {n0:Nat} {loc:Heap}:∀ l:List AV,FrzL n0 loc l l
 | []=>.nil
 | v::l=>.cons (.refl v) (FrzL.refl l)
theorem OfsN.at_ {i:Int} {n:Nat} {k:Nat→Prop} (h:0≤i∧i<n) (a:k i.toNat):OfsN i n k:=⟨i.toNat,by omega,by omega,a⟩
theorem VDet.wk [Glob] {P:Program} {F:FuncId} {as as':List AV} {H:Heap} {v:AV} (h:VDet P F as' H v) (hw:WkL as as'):VDet P F as H v :=
 ⟨h.1,fun g w cs hH hl=>h.2 g w cs hH (hw.rel hl)⟩
theorem zg6 {α β:Type} (f:α→β) (l:List α) (d:α) (k:Nat) (h:k<l.length):(l.take k).map f++[f (l.getD k d)]=(l.take (k+1)).map f:=by
 rw [List.take_add_one,ydh]
 simp [yal h]
theorem zda {α β:Type} (f:β→α→β) (b:β) (l:List α) (d:α) (k:Nat) (h:k<l.length):(l.take (k+1)).foldl f b=f ((l.take k).foldl f b) (l.getD k d):=by
 rw [List.take_add_one,List.foldl_append]
 simp [yal h]
def rounds [Glob] (P:Program) (kn:TypeId→Nat) (T:TypeId→Option TI) (N:FN) (n0:Nat) (c:Code) (Q:QR) (n:Nat):RE→RE→Heap→Nat→Heap→Prop :=
 @Nat.rec (fun _=>RE→RE→Heap→Nat→Heap→Prop) (fun _ _ _ _ _=>False)
  (fun _ ih top bot base k loc=>wpC P kn T N n0 c (fun e top bot base k loc=>match e with
    | .normal=>ih top bot base k loc
    | e=>Q e top bot base k loc) top bot base k loc) n
section
variable {P:Program} {N:FN} {n0:Nat} {T:TypeId→Option TI} {kn:TypeId→Nat}
theorem rounds_code [Glob] (he:Env0 P T kn) (hm:P.follows .mixedOrders=true) {c:Code} {Q:QR} {g0:G} {w0:World} {ds:List Deferred}:∀ (n:Nat) (top bot:RE) (base:Heap) (k:Nat) (loc:Heap) (g:G) (w:World) (a:Act),base.length=n0→HRel g w ⟨base,k,loc⟩→ERel N g w (trE n0 (top++bot)) a→Ext g0 w0 g w→DRel w0 ds g w a.defers →
  rounds P kn T N n0 c Q n top bot base k loc→LoopWp (N.fo g) P c (Lift N (LS n0 Q) g0 w0 ds) a w
 | 0,_,_,_,_,_,_,_,_,_,_,_,_,_,h=>h.elim
 | n+1,top,bot,base,k,loc,g,w,a,hn,hH,hE,hx,hd,h=>by
   have hw:=zbx he hm c _ top bot base k loc hn h g w a hH hE
   refine LoopWp.peel (Code.wpIn_mono ?_ hw)
   rintro e a2 w2 ⟨env2,hp2,g2,⟨top2,bot2,base2,k2,loc2,hap,rfl,hn2,q⟩,hH2,hE2,hx2,hd2⟩
   have other:e≠.normal→Q e top2 bot2 base2 k2 loc2→Lift N (LS n0 Q) g0 w0 ds e a2 w2:=fun _ hq =>
    ⟨env2,_,g2,⟨top2,bot2,base2,k2,loc2,hap,rfl,hn2,hq⟩,hH2,hE2,hx.trans hx2,hd.trans hx2 hx.size hd2⟩
   cases e with
   | normal =>
     have:=rounds_code he hm n _ _ _ _ _ g2 w2 a2 hn2 hH2 ⟨hE2.1,fun s=>hap s _ _ _ (hE2.rel s),hE2.ro,hE2.glob⟩ (hx.trans hx2) (hd.trans hx2 hx.size hd2) q
     rw [hE.fo hx2] at this
     exact this
   | exit i=>exact other (by simp) q
   | goto l=>exact other (by simp) q
   | ret=>exact other (by simp) q
   | panic ch=>exact other (by simp) q
   | outgrown=>exact other (by simp) q
theorem LoopN.rounds [Glob] (he:Env0 P T kn) (hm:P.follows .mixedOrders=true) (n:Nat) {c:Code} {Q:QR} {top bot:RE} {base:Heap} {k:Nat} {loc:Heap} (hn:base.length=n0) (h:rounds P kn T N n0 c Q n top bot base k loc):LoopN P kn T N n0 c Q top bot base k loc :=
 ⟨fun g w a hH hE=>(rounds_code he hm n top bot base k loc g w a hn hH hE (ycl g w) (yc3 _ _ _ _) h)⟩
theorem LoopN.tok [Glob] (t:Nat) (e:TypeId) (sz:Nat) {c:Code} {Q:QR} {top bot:RE} {base:Heap} {k:Nat} {loc loc':Heap} (hn:base.length=n0) (hv:rget2 top bot t=some (.v .nils)) (hl:snocC loc (.tok e sz 0)=some loc')
  (h:LoopN P kn T N n0 c Q ((t,.v (.sl (some (n0+k)) 0 []))::top) bot base (k+1) loc'):LoopN P kn T N n0 c Q top bot base k loc:=by
 refine ⟨fun g w a hH hE=>?_⟩
 obtain ⟨g1,f1,f2,f3,f4⟩:=hH.nilTok e sz
 have hgn:=hH.n
 simp only at hgn
 rw [zcx _ _ _ hl] at h
 have hE':=hE.ext f4
 rw [← hE.fo f4]
 refine LoopWp.mono (h.h g1 w a f3 ⟨hE.1,fun s=>?_,hE'.ro,hE'.glob⟩) (fun _ _ _ hl=>zc1 f4 (yc3 _ _ _ _) hl)
 simp only [yci,trE]
 by_cases hs:t=s
 ·subst hs
  rw [zb3]
  have h0:=hE.rel t
  rw [zbu hv] at h0
  simp only [tr,VRel] at h0 ⊢
  refine ⟨none,0,h0,yax _,.inl trivial,fun t ht=>?_⟩
  cases ht
  rw [← hn,← hgn]
  refine ⟨f1,by simp,fun _=>?_⟩
  rw [f2]
  simp
 ·rw [zch _ _ hs]
  exact ycx f4 _ _ (hE.rel s)
theorem LoopN.tokB [Glob] (i j:Nat) (e:TypeId) (sz:Nat) {c:Code} {Q:QR} {top bot:RE} {base:Heap} {k:Nat} {loc loc1 loc':Heap} {bt:TypeId} {l l':List AV} (hn:base.length=n0) (hb:lget loc i=some (.box bt l)) (hv:lget l j=some .nils) (hs:lset l j (.sl (some (n0+k)) 0 [])=some l') (hl:snocC loc (.tok e sz 0)=some loc1) (h1:lset loc1 i (.box bt l')=some loc')
  (h:LoopN P kn T N n0 c Q top bot base (k+1) loc'):LoopN P kn T N n0 c Q top bot base k loc:=by
 refine ⟨fun g w a hH hE=>?_⟩
 rw [zcx _ _ _ hl] at h1
 obtain ⟨g1,f3,f4⟩:=hH.tokBox (zci hb) hv (by rw [← hn] at hs;exact hs) (zc8 h1)
 rw [← hE.fo f4]
 exact LoopWp.mono (h.h g1 w a f3 (hE.ext f4)) (fun _ _ _ hl=>zc1 f4 (yc3 _ _ _ _) hl)
theorem LoopN.vecB [Glob] (i j:Nat) (e:TypeId) (sz:Nat) {c:Code} {Q:QR} {top bot:RE} {base:Heap} {k:Nat} {loc loc1 loc':Heap} {bt:TypeId} {l l':List AV} (hn:base.length=n0) (hb:lget loc i=some (.box bt l)) (hv:lget l j=some .nils) (hs:lset l j (.vs (n0+k) 0)=some l') (hl:snocC loc (.vec e sz [])=some loc1) (h1:lset loc1 i (.box bt l')=some loc')
  (h:LoopN P kn T N n0 c Q top bot base (k+1) loc'):LoopN P kn T N n0 c Q top bot base k loc:=by
 refine ⟨fun g w a hH hE=>?_⟩
 rw [zcx _ _ _ hl] at h1
 obtain ⟨g1,f3,f4⟩:=hH.vecBox (zci hb) hv (by rw [← hn] at hs;exact hs) (zc8 h1)
 rw [← hE.fo f4]
 exact LoopWp.mono (h.h g1 w a f3 (hE.ext f4)) (fun _ _ _ hl=>zc1 f4 (yc3 _ _ _ _) hl)
end
end
section
section
variable {x y:Int} {k:Int→Prop}
theorem zao (m n:Nat) (hx:x=m) (hy:y=n) (h:m+n<9223372036854775808) (a:k ((m+n:Nat):Int)):EqN (IntKind.i64.wrap (x+y)) k:=by
 subst hx hy
 exact ⟨_,by rw [← Int.natCast_add];exact w64 (by omega),a⟩
theorem zbi (m n:Nat) (hx:x=m) (hy:y=n) (h:n≤m∧m<9223372036854775808) (a:k ((m-n:Nat):Int)):EqN (IntKind.i64.wrap (x-y)) k:=by
 subst hx hy
 exact ⟨_,by rw [← Int.natCast_sub h.1];exact w64 (by omega),a⟩
theorem EqN.remN (m n:Nat) (hx:x=m) (hy:y=n) (a:k ((m % n:Nat):Int)):EqN (x.tmod y) k:=by
 subst hx hy
 exact ⟨_,by rw [Int.tmod_eq_emod_of_nonneg (by omega)];simp,a⟩
end
theorem IfN.id {b:Bool} {A B:Prop} (h:IfN b A B):IfN b A B:=h
theorem EqN.id {x:Int} {k:Int→Prop} (h:EqN x k):EqN x k:=h
theorem PtrN.id {n0:Nat} {base:Heap} {i:Nat} {kl:Nat→Prop} {kb:Blk→Prop} (h:PtrN n0 base i kl kb):PtrN n0 base i kl kb:=h
theorem CallN.id [Glob] {P:Program} {F:Fn} {as:List AV} {n0:Nat} {base:Heap} {k:Nat} {loc:Heap} {K:AV→Heap→Nat→Heap→Prop} (h:CallN P F as n0 base k loc K):CallN P F as n0 base k loc K:=h
theorem CallD.id [Glob] {W:List Nat} {P:Program} {F:Fn} {as:List AV} {n0:Nat} {base loc0 b1 loc:Heap} {K:AV→Prop} {K3 K4 K5:AV→Heap→Nat→Heap→Prop} (h:CallD W P F as n0 base loc0 b1 loc K K3 K4 K5):CallD W P F as n0 base loc0 b1 loc K K3 K4 K5:=h
theorem zco {base loc:Heap} {j:Nat} {B:Blk} (X:Heap) (h:lget loc j=some B):((base++loc)++X)[base.length+j]? = some B:=by
 rw [za9] at h
 have hj:=(yac.1 h).1
 rw [ybe,yam (ycz ..),ybk,yaj hj]
 exact h
theorem zbk {base loc:Heap} {j:Nat} {B:Blk} (h:lget loc j=some B):(base++loc)[base.length+j]? = some B:=by
 have:=zco (base:=base) [] h
 rwa [yat] at this
theorem zb8 {base loc:Heap} {j:Nat} {B:Blk}:(base++loc).set (base.length+j) B=base++loc.set j B:=by
 rw [yb0 _ _ (ycz ..),ybk]
theorem zb2 {base loc:Heap} {i:Nat} {B:Blk} (h:base[i]? = some B):(base++loc)[i]? = some B:=by
 rw [yaj (yac.1 h).1];exact h
theorem zey {base:Heap} {i:Nat} {B B':Blk} (h:base[i]? = some B'):(base.set i B)[i]? = some B:=by
 rw [List.getElem?_set_self (yac.1 h).1]
theorem cst0:(0:Int)=((0:Nat):Int):=rfl
theorem cst1:(1:Int)=((1:Nat):Int):=rfl
theorem VCall.mono [Glob] {P:Program} {F:FuncId} {as:List AV} {H:Heap} {R R':AV→Heap→Prop} (h:VCall P F as H R) (hr:∀ r H',R r H'→R' r H'):VCall P F as H R' :=
 ⟨h.1,fun g w a hH hl=>(h.2 g w a hH hl).mono fun e w' ⟨r,H',g',c,h1,h2,h3⟩=>⟨r,H',g',c,h1,hr r H' h2,h3⟩⟩
def setR (H:Heap) (i:Nat) (B:Blk) (v:AV):AV→Heap→Prop:=fun r H'=>H'=H.set i B∧r=v
section
variable {P:Program} {n0:Nat} {base loc:Heap} {k:Nat} {K:AV→Heap→Nat→Heap→Prop}
theorem CallN.setL [Glob] {F:FuncId} {as:List AV} (j:Nat) (B:Blk) (v:AV) (loc2:Heap) (hn:base.length=n0) (hk:loc2.length=k) (h:VCall P F as (base++loc) (setR (base++loc) (base.length+j) B v)) (hl:loc.set j B=loc2) (a:K v base k loc2):CallN P (.func F) as n0 base k loc K :=
 .gen _ h fun r H' hr=>by
  obtain ⟨rfl,rfl⟩:=hr
  exact ⟨base,k,loc2,by rw [← hl,zb8],hk,hn,a⟩
end
end
section
def reB (n0:Nat):RE→RE
 | []=>[]
 | (t,.lit b)::l=>(t,.lit b)::reB n0 l
 | (t,v)::l=>(t,.v (tr n0 v))::reB n0 l
theorem reB_tr (n0 n1:Nat):∀ l:RE,trE n1 (reB n0 l)=trE n0 l
 | []=>rfl
 | (t,.lit b)::l=>by simp only [reB,trE,reB_tr n0 n1 l];rfl
 | (t,.v a)::l=>by simp only [reB,trE,reB_tr n0 n1 l];rfl
 | (t,.lp j o)::l=>by simp only [reB,trE,reB_tr n0 n1 l];rfl
def parRE:List Tmp→List AV→RE→RE
 | p::ps,v::vs,re=>parRE ps vs ((p,.v v)::re)
 | _,_,re=>re
theorem parRE_tr (n1:Nat):∀ (ps:List Tmp) (vs:List AV) (re:RE),trE n1 (parRE ps vs re)=zfq ps vs (trE n1 re)
 | [],_,re=>by simp [parRE,zfq]
 | _::_,[],re=>by simp [parRE,zfq]
 | p::ps,v::vs,re=>by
   simp only [parRE,zfq,parRE_tr n1 ps vs]
   rfl
def rndQ (H:Heap) (i:Nat) (env:Env) (L:LCode) (R:AV→Heap→Prop):QR:=fun e _ _ base _ _=>RndEnd H i env L R e base
structure RndB [Glob] (P:Program) (kn:TypeId→Nat) (T:TypeId→Option TI) (H:Heap) (i:Nat) (env:Env) (L:LCode) (R:AV→Heap→Prop) (top bot:RE) (base:Heap) (k:Nat) (loc:Heap):Prop where
 h:∃ jp base1,base[i]? = some (.loop .ready jp env L)∧base.set i (.loop .busy jp env L)=base1∧wpC P kn T ⟨L.N,some i⟩ H.length L.body (rndQ H i env L R) top bot base1 k loc
section
variable {P:Program} {T:TypeId→Option TI} {kn:TypeId→Nat}
theorem round_R [Glob] (he:Env0 P T kn) (hm:P.follows .mixedOrders=true) {i n0:Nat} {H:Heap} {jp0:Option Code} {bk:RE} {L:LCode} {as:List AV} {R:AV→Heap→Prop} (hi:H[i]? = some (.loop .ready jp0 (trE n0 bk) L)) (hps:∀ p∈L.ps.toList,p<L.N) (hlen:as.length=L.ps.size)
  (h:wpC P kn T ⟨L.N,some i⟩ H.length L.assign (fun e top bot base k loc=>match e with
    | .normal=>RndB P kn T H i (trE n0 bk) L R top bot base k loc
    | _=>False) (parRE L.ps.toList as (reB n0 bk)) [] H 0 []):VYield P i as H R:=by
 refine vround (env:=trE n0 bk) hi hps hlen ?_
 have hw:=zbx he hm L.assign _ _ _ _ _ _ rfl h
 rw [yat,parRE_tr,reB_tr] at hw
 refine vw_mono hw ?_
 rintro e env1 hp1 ⟨top,bot,base,k,loc,hap,rfl,hbl,hq⟩
 cases e with
 | normal =>
   obtain ⟨jp,base1,h1,h2,h3⟩:=hq
   refine ⟨rfl,jp,h1,?_⟩
   subst h2
   refine vw_env (vw_mono (zbx he hm L.body _ _ _ _ _ _ (by simpa using hbl) h3) ?_) hap
   rintro e env3 hp3 ⟨top3,bot3,base3,k3,loc3,-,rfl,-,hq3⟩
   exact hq3
 | exit i=>exact hq.elim
 | goto i=>exact hq.elim
 | ret=>exact hq.elim
 | panic i=>exact hq.elim
 | outgrown=>exact hq.elim
end
theorem CallN.fix [Glob] {P:Program} {F:Fn} {as:List AV} {n0:Nat} {base loc:Heap} {k:Nat} {K:AV→Heap→Nat→Heap→Prop} (v:AV) (b2 loc2:Heap) (k2:Nat) (h:VFn P F as (base++loc) fun r H'=>r=v∧H'=b2++loc2) (hb:b2.length=n0) (hk:loc2.length=k2) (a:K v b2 k2 loc2):CallN P F as n0 base k loc K :=
 .genF _ h fun r H' hr=>by
  obtain ⟨rfl,rfl⟩:=hr
  exact ⟨b2,k2,loc2,rfl,hk,hb,a⟩
theorem low_loc {base l l':Heap} (h:∀ B∈l',B.below (base++l).length):∀ (j:Nat) B,(base++l')[j]? = some B→(base++l)[j]? = some B∨B.below (base++l).length:=fun j B hj=>by
 by_cases hb:j<base.length
 ·rw [yaj hb] at hj ⊢
  exact .inl hj
 ·rw [yam (by omega)] at hj
  exact .inr (h B (ycj hj))
theorem zex {base l:Heap} (hc:zek base) (h:∀ B∈l,B.below (base++l).length):zek (base++l):=fun j B hj=>by
 by_cases hb:j<base.length
 ·rw [yaj hb] at hj
  exact Blk.below_mono (by simp) (hc j B hj)
 ·rw [yam (by omega)] at hj
  exact h B (ycj hj)
theorem get_below {n0 n:Nat}:∀ {l:RE},zau n0 n l→∀ s,below n (get (trE n0 l) s)
 | [],_,_=>by simp [trE,get,below]
 | (i,v)::l,h,s=>by
   by_cases hs:i=s
   ·subst hs
    simp only [trE]
    rw [zb3]
    exact h.1
   ·simp only [trE]
    rw [zch _ _ hs]
    exact get_below h.2 s
theorem CallN.grow [Glob] {P:Program} {F:FuncId} {as:List AV} {n0:Nat} {base loc:Heap} {k:Nat} {K:AV→Heap→Nat→Heap→Prop} (v:AV) (X loc2:Heap) (k2:Nat) (h:VCall P F as (base++loc) fun r H'=>r=v∧H'=(base++loc)++X) (hn:base.length=n0) (hl:loc++X=loc2) (hk:loc2.length=k2) (a:K v base k2 loc2):CallN P (.func F) as n0 base k loc K :=
 .fix v base loc2 k2 (VCall.mono h fun r H' hr=>⟨hr.1,by rw [hr.2,ybe,hl]⟩) hn hk a
end
section
section
variable {P:Program} {N:FN} {n0:Nat} {T:TypeId→Option TI} {kn:TypeId→Nat}
end
end
def G.bare (g:G):G:={ g with own:=fun _ _=>False }
theorem bare_extV (g:G) (w:World):ExtV g w g.bare w :=
 ⟨fun _ h=>h,fun _ _=>rfl,fun _ _=>.inl rfl,fun hc _=>⟨hc,fun q=>q⟩,fun hb _=>⟨hb,fun _ q=>q⟩⟩
mutual
inductive Lend (H:Heap):AV→AV→Prop where
 | refl (v:AV):Lend H v v
 | ptr {i o:Nat} {t:TypeId} {l l' l'':List AV}:H[i]? = some (.box t l)→dropC o l=some l'→LendL H l' l''→Lend H (.ptr i o) (.rptr l'')
 | ms {i o n:Nat} {t:TypeId} {l l' l'':List AV}:H[i]? = some (.box t l)→dropC o l=some l'→LendL H l' l''→Lend H (.ms i o n) (.sl none n l'')
 | vs {i n sz:Nat} {e:TypeId} {l l':List AV}:H[i]? = some (.vec e sz l)→l.length=n * sz→LendL H l l'→Lend H (.vs i n) (.sl none n l')
 | vk {i n m sz:Nat} {e:TypeId} {l l':List AV}:H[i]? = some (.vec e sz l)→l.length=m * sz→LendL H l l'→Lend H (.vk i n m) (.sk n m l')
 | agg {l l':List AV}:LendL H l l'→Lend H (.agg l) (.agg l')
 | tup {l l':List AV}:LendL H l l'→Lend H (.tup l) (.tup l')
inductive LendL (H:Heap):List AV→List AV→Prop where
 | nil:LendL H [] []
 | cons {v v':AV} {l l':List AV}:Lend H v v'→LendL H l l'→LendL H (v::l) (v'::l')
end
theorem LendL.refl {H:Heap}:∀ l:List AV,LendL H l l
 | []=>.nil
 | v::l=>.cons (.refl v) (LendL.refl l)
mutual
theorem Lend.rel [Glob] {g:G} {w:World} {H:Heap} (hH:HRel g w (Hp.of H)):∀ {v v':AV},Lend H v v'→∀ c,VRel g w v c→VRel g.bare w v' c
 | _,_,.refl v,c,h=>zc5 (bare_extV _ _) v c h
 | _,_,@Lend.ptr _ i o t l l' l'' h1 h2 h3,c,h=>by
   simp only [VRel] at h ⊢
   obtain ⟨hok,rfl⟩:=h
   obtain ⟨cs,e1,e2,e3⟩:=hH.rel i _ (by simpa [Hp.of,Hp.all] using h1)
   obtain ⟨hd1,hd2⟩:=zc0 _ _ _ h2
   have e2':=e2.drop o
   rw [hd1] at e2'
   have e4:=LendL.rel hH h3 _ e2'
   refine ⟨_,_,rfl,ydk fun q v hq=>?_⟩
   obtain ⟨c',q1,q2⟩:=e4.get hq
   rw [yc2] at q1
   exact ⟨c',cell_iff.2 ⟨cs,t,_,e1,by simpa using q1⟩,q2,fun ho=>ho⟩
 | _,_,@Lend.ms _ i o n t l l' l'' h1 h2 h3,c,h=>by
   simp only [VRel] at h ⊢
   obtain ⟨hok,cap,hn,rfl⟩:=h
   obtain ⟨cs,e1,e2,e3⟩:=hH.rel i _ (by simpa [Hp.of,Hp.all] using h1)
   obtain ⟨hd1,hd2⟩:=zc0 _ _ _ h2
   have e2':=e2.drop o
   rw [hd1] at e2'
   have e4:=LendL.rel hH h3 _ e2'
   refine ⟨_,_,rfl,hn,.inr ⟨_,_,rfl,ydk fun q v hq=>?_⟩,fun t e=>by cases e⟩
   obtain ⟨c',q1,q2⟩:=e4.get hq
   rw [yc2] at q1
   exact ⟨c',cell_iff.2 ⟨cs,t,_,e1,by simpa using q1⟩,q2,fun ho=>ho⟩
 | _,_,@Lend.vs _ i n sz e l l' h1 h2 h3,c,h=>by
   simp only [VRel] at h ⊢
   obtain ⟨hok,hle,A,cap,rfl,hnc,hA⟩:=h
   obtain ⟨r1,r2,r3⟩:=hH.rel i _ (by simpa [Hp.of,Hp.all] using h1)
   obtain ⟨hA,-⟩:=hA (by rw [r1,r2,h2])
   refine ⟨_,_,rfl,hnc,?_,fun t e=>by cases e⟩
   rcases r3 with ⟨-,q,-⟩|⟨b,cs,q1,q2,q3,q4,q5,q6,q7⟩
   ·subst q
    cases h3
    exact .inl rfl
   ·right
    rw [q1] at hA
    have e4:=LendL.rel hH h3 _ q6
    refine ⟨b,0,hA,ydk fun q v hq=>?_⟩
    obtain ⟨c',p1,p2⟩:=e4.get hq
    rw [ybp] at p1
    split at p1
    ·exact ⟨c',cell_iff.2 ⟨cs,e,_,q2,by simpa using p1⟩,p2,fun ho=>ho⟩
    ·cases p1
 | _,_,@Lend.vk _ i n m sz e l l' h1 h2 h3,c,h=>by
   simp only [VRel] at h ⊢
   obtain ⟨hok,hle,hnm,A,cap,rfl,hnc,hA⟩:=h
   obtain ⟨r1,r2,r3⟩:=hH.rel i _ (by simpa [Hp.of,Hp.all] using h1)
   obtain ⟨hA,-⟩:=hA (by rw [r1,r2,h2])
   refine ⟨_,_,rfl,hnm,hnc,?_⟩
   rcases r3 with ⟨-,q,-⟩|⟨b,cs,q1,q2,q3,q4,q5,q6,q7⟩
   ·subst q
    cases h3
    exact .inl rfl
   ·right
    rw [q1] at hA
    have e4:=LendL.rel hH h3 _ q6
    refine ⟨b,0,hA,ydk fun q v hq=>?_⟩
    obtain ⟨c',p1,p2⟩:=e4.get hq
    rw [ybp] at p1
    split at p1
    ·exact ⟨c',cell_iff.2 ⟨cs,e,_,q2,by simpa using p1⟩,p2,fun ho=>ho⟩
    ·cases p1
 | _,_,.agg h1,c,h=>by
   simp only [VRel] at h ⊢
   obtain ⟨cs,hc,e1⟩:=h
   exact ⟨cs,hc,LendL.rel hH h1 _ e1⟩
 | _,_,.tup h1,c,h=>by
   simp only [VRel] at h ⊢
   obtain ⟨cs,hc,e1⟩:=h
   exact ⟨cs,hc,LendL.rel hH h1 _ e1⟩
theorem LendL.rel [Glob] {g:G} {w:World} {H:Heap} (hH:HRel g w (Hp.of H)):∀ {l l':List AV},LendL H l l'→∀ cs,LRel g w l cs→LRel g.bare w l' cs
 | _,_,.nil,cs,h=>by simpa [LRel] using h
 | _,_,.cons h1 h2,cs,h=>by
   simp only [LRel] at h ⊢
   obtain ⟨c,r,hc,e1,e2⟩:=h
   exact ⟨c,r,hc,Lend.rel hH h1 _ e1,LendL.rel hH h2 _ e2⟩
end
mutual
def flatV:AV→Bool
 | .bool _=>true
 | .int _ _=>true
 | .str _=>true
 | .nilp=>true
 | .nilf=>true
 | .nili=>true
 | .nils=>true
 | .nilm=>true
 | .agg l=>flatL l
 | .tup l=>flatL l
 | _=>false
def flatL:List AV→Bool
 | []=>true
 | v::l=>flatV v&&flatL l
end
mutual
theorem flat_rel {g g':G} {w:World}:∀ {v:AV},flatV v=true→∀ {c},VRel g' w v c→VRel g w v c
 | .bool _,_,_,h=>by simpa [VRel] using h
 | .int _ _,_,_,h=>by simpa [VRel] using h
 | .str _,_,_,h=>by simpa [VRel] using h
 | .nilp,_,_,h=>by simpa [VRel] using h
 | .nilf,_,_,h=>by simpa [VRel] using h
 | .nili,_,_,h=>by simpa [VRel] using h
 | .nils,_,_,h=>by simpa [VRel] using h
 | .nilm,_,_,h=>by simpa [VRel] using h
 | .agg l,hf,_,h=>by
   simp only [VRel] at h ⊢
   obtain ⟨cs,hc,e⟩:=h
   exact ⟨cs,hc,flat_relL (by simpa [flatV] using hf) e⟩
 | .tup l,hf,_,h=>by
   simp only [VRel] at h ⊢
   obtain ⟨cs,hc,e⟩:=h
   exact ⟨cs,hc,flat_relL (by simpa [flatV] using hf) e⟩
theorem flat_relL {g g':G} {w:World}:∀ {l:List AV},flatL l=true→∀ {cs},LRel g' w l cs→LRel g w l cs
 | [],_,_,h=>by simpa [LRel] using h
 | v::l,hf,_,h=>by
   simp only [flatL,yak] at hf
   simp only [LRel] at h ⊢
   obtain ⟨c,r,hc,e1,e2⟩:=h
   exact ⟨c,r,hc,flat_rel hf.1 e1,flat_relL hf.2 e2⟩
end
theorem VDet.lend [Glob] {P:Program} {F:FuncId} {as as':List AV} {H:Heap} {v:AV} (h:∀ H,VDet P F as' H v) (hl:LendL H as as') (hv:flatV v=true):VDet P F as H v:=by
 refine ⟨(h []).1,fun g w cs hH hL=>?_⟩
 have hlen:g.n=H.length:=by have:=hH.n;simpa [Hp.of] using this
 have hH1:HRel g.bare w (Hp.of (List.replicate H.length .dead)):=by
  have hrep:∀ (i:Nat) B,(List.replicate H.length Blk.dead)[i]? = some B→B=.dead:=fun i B hi=>by
   rw [List.getElem?_replicate] at hi
   split at hi
   ·cases hi;rfl
   ·cases hi
  refine ⟨by simp [Hp.of,G.bare,hlen],rfl,fun i B hi=>?_,fun _ _ q=>q.elim,fun i hi=>?_,fun i j B C b hi _ hb _=>?_,fun p hp=>zcu (bare_extV g w) _ _ _ (hH.glob p hp)⟩
  ·rw [hrep i B (by simpa [Hp.of,Hp.all] using hi)];trivial
  ·have:=hH.pend i hi
   have hi':i<H.length:=by simpa [Hp.of,Hp.all] using (yac.1 this).1
   simp [Hp.of,Hp.all,List.getElem?_replicate,hi']
  ·rw [hrep i B (by simpa [Hp.of,Hp.all] using hi)] at hb;cases hb
 refine ((h _).2 g.bare w cs hH1 (LendL.rel hH hl _ hL)).mono ?_
 rintro e w' ⟨r,H',g',c,rfl,⟨rfl,rfl⟩,-,hv',hx'⟩
 have hsame:∀ b,b<w.heap.size→w'.heap[b]? = w.heap[b]? := fun b hb=>hx'.same b hb fun _ q=>q
 have hx:Ext g w g w':=⟨yax _,fun _ _ h=>h,fun _ h=>h,fun _ _=>rfl,fun _ _=>.inl rfl,fun _ _ _ h=>h,hx'.os,hx'.tape,hx'.output,hx'.drawn,hx'.size,fun b hb _=>hsame b hb,fun b cs t fz hb=>⟨cs,by rw [hsame b (zbc hb)];exact hb,rfl,fun _ _=>rfl⟩⟩
 exact ⟨_,H,g,c,rfl,⟨rfl,rfl⟩,hH.keepAll hx hsame,flat_rel hv hv',hx⟩
theorem MRel.pre {g:G} {w:World}:∀ {l m:List AV} {b o:Nat},MRel g w (l++m) b o→MRel g w l b o
 | [],_,_,_,_=>by simp [MRel]
 | v::l,m,b,o,h=>by
   simp only [yci,MRel] at h ⊢
   exact ⟨h.1,MRel.pre h.2⟩
theorem wk_pre (n:Nat) (l m:List AV):Wk (.sl none n (l++m)) (.sl none n l):=fun g w c h=>by
 simp only [VRel] at h ⊢
 obtain ⟨A,cap,h1,h2,h3,h4⟩:=h
 refine ⟨A,cap,h1,h2,?_,fun t e=>by cases e⟩
 rcases h3 with h3|⟨b,o,h3,h5⟩
 ·exact .inl (List.append_eq_nil_iff.1 h3).1
 ·exact .inr ⟨b,o,h3,h5.pre⟩
theorem CallN.more [Glob] {P:Program} {F:FuncId} {as:List AV} {n0:Nat} {base loc:Heap} {k:Nat} {K:AV→Heap→Nat→Heap→Prop} {ι:Type} (v:ι→AV) (X:ι→Heap) (h:VCall P F as (base++loc) fun r H'=>∃ s,r=v s∧H'=(base++loc)++X s) (hn:base.length=n0) (loc2:ι→Heap) (hl:∀ s,loc++X s=loc2 s) (k2:Nat) (hk:∀ s,(loc2 s).length=k2) (a:∀ s,K (v s) base k2 (loc2 s)):CallN P (.func F) as n0 base k loc K :=
 .gen _ h fun r H' ⟨s,h1,h2⟩=>⟨base,k2,loc2 s,by rw [h2,← hl s,ybe],hk s,hn,h1▸a s⟩
section
theorem HRel.split [Glob] {g:G} {w:World} {H loc:Heap} (h:HRel g w (Hp.of (H++loc))):HRel g w ⟨H,loc.length,loc⟩ :=
 ⟨by rw [h.n];simp [Hp.of],rfl,by simpa [Hp.of,Hp.all] using h.rel,h.lt,by simpa [Hp.of,Hp.all] using h.pend,by simpa [Hp.of,Hp.all] using h.inj,h.glob⟩
section
variable {P:Program} {N:FN} {n0:Nat} {T:TypeId→Option TI} {kn:TypeId→Nat}
theorem LoopN.tokVec [Glob] (t j:Nat) (e:TypeId) (sz:Nat) {c:Code} {Q:QR} {top bot:RE} {base:Heap} {k:Nat} {loc loc':Heap} (hv:rget2 top bot t=some (.v (.sl (some (n0+j)) 0 []))) (hl:lget loc j=some (.tok e sz 0)) (hs:lset loc j (.vec e sz [])=some loc')
  (h:LoopN P kn T N n0 c Q ((t,.v (.vs (n0+j) 0))::top) bot base k loc'):LoopN P kn T N n0 c Q top bot base k loc:=by
 refine ⟨fun g w a hH hE=>?_⟩
 obtain ⟨e1,-⟩:=zd6 _ _ _ _ hs
 subst e1
 rw [za9] at hl
 refine h.h g w a (hH.tokVec hl) ⟨hE.1,fun s=>?_,hE.ro,hE.glob⟩
 simp only [yci,trE]
 by_cases hs:t=s
 ·subst hs
  rw [zb3]
  have h0:=hE.rel t
  rw [zbu hv] at h0
  exact wk_tokVec _ _ _ _ h0
 ·rw [zch _ _ hs]
  exact hE.rel s
end
theorem WkL.mrel {g:G} {w:World}:∀ {l l':List AV} {b o:Nat},WkL l l'→MRel g w l b o→MRel g w l' b o
 | [],[],_,_,_,h=>h
 | v::l,v'::l',b,o,hw,h=>by
   simp only [MRel] at h ⊢
   obtain ⟨⟨c,h1,h2,h3⟩,h4⟩:=h
   exact ⟨⟨c,h1,hw.1 _ _ _ h2,h3⟩,WkL.mrel hw.2 h4⟩
 | [],_::_,_,_,hw,_=>hw.elim
 | _::_,[],_,_,hw,_=>hw.elim
theorem WkL.id:∀ l:List AV,WkL l l
 | []=>trivial
 | v::l=>⟨yae v,WkL.id l⟩
theorem WkL.app:∀ {a a' b b':List AV},WkL a a'→WkL b b'→WkL (a++b) (a'++b')
 | [],[],_,_,_,h=>h
 | _::_,_::_,_,_,h1,h=>⟨h1.1,WkL.app h1.2 h⟩
 | [],_::_,_,_,h1,_=>h1.elim
 | _::_,[],_,_,h1,_=>h1.elim
theorem wk_slL {tok:Option Nat} {n:Nat} {l l':List AV} (h:WkL l l'):Wk (.sl tok n l) (.sl none n l'):=fun g w c hr=>by
 simp only [VRel] at hr ⊢
 obtain ⟨A,cap,h1,h2,h3,-⟩:=hr
 refine ⟨A,cap,h1,h2,?_,fun t e=>by cases e⟩
 rcases h3 with h3|⟨b,o,h3,h4⟩
 ·subst h3
  cases l' with
  | nil=>exact .inl rfl
  | cons v l'=>exact h.elim
 ·exact .inr ⟨b,o,h3,h.mrel h4⟩
end
section
def shR (K:Nat):RE→RE
 | []=>[]
 | (i,v)::l=>match v with
   | .lp j o=>(i,.lp (K+j) o)::shR K l
   | v=>(i,v)::shR K l
theorem shR_tr (n0 K:Nat):∀ l:RE,trE n0 (shR K l)=trE (n0+K) l
 | []=>rfl
 | (i,.lp j o)::l=>by simp only [shR,trE,shR_tr n0 K l,tr,ydf]
 | (i,.v a)::l=>by simp only [shR,trE,shR_tr n0 K l,tr]
 | (i,.lit b)::l=>by simp only [shR,trE,shR_tr n0 K l,tr]
inductive WkB:Blk→Blk→Prop where
 | refl (B:Blk):WkB B B
 | box {t:TypeId} {l l':List AV} (h:WkL l l'):WkB (.box t l) (.box t l')
 | vec {e:TypeId} {sz:Nat} {l l':List AV} (h:WkL l l'):WkB (.vec e sz l) (.vec e sz l')
theorem WkL.len:∀ {l l':List AV},WkL l l'→l'.length=l.length
 | [],[],_=>rfl
 | _::_,_::_,h=>by simp [WkL.len h.2]
 | [],_::_,h=>h.elim
 | _::_,[],h=>h.elim
theorem WkB.rel {g:G} {w:World} {i:Nat} {B C:Blk} (h:WkB B C) (hB:BRel g w i B):BRel g w i C:=by
 cases h with
 | refl=>exact hB
 | box h =>
   obtain ⟨cs,h1,h2,h3⟩:=hB
   exact ⟨cs,h1,WkL.rel h h2,h3⟩
 | vec h =>
   have hl:=WkL.len h
   obtain ⟨h1,h2,h3⟩:=hB
   refine ⟨by rw [hl];exact h1,h2,?_⟩
   rcases h3 with ⟨q1,q2,q3⟩|⟨b,cs,q1,q2,q3,q4,q5,q6,q7⟩
   ·subst q2
    exact .inl ⟨q1,List.length_eq_zero_iff.1 hl,q3⟩
   ·exact .inr ⟨b,cs,q1,q2,q3,q4,by rw [hl];exact q5,by rw [hl];exact WkL.rel h q6,q7⟩
theorem WkB.locs {g:G} {i:Nat} {B C:Blk} (h:WkB B C):Vsi.locs g i C=Vsi.locs g i B:=by
 cases h <;> rfl
inductive WkH:Heap→Heap→Prop where
 | nil:WkH [] []
 | cons {B C:Blk} {H I:Heap}:WkB B C→WkH H I→WkH (B::H) (C::I)
theorem WkH.refl:∀ H:Heap,WkH H H
 | []=>.nil
 | B::H=>.cons (.refl B) (WkH.refl H)
theorem WkH.of_eq {H I:Heap} (h:H=I):WkH H I:=h▸WkH.refl H
theorem WkH.app:∀ {A B C D:Heap},WkH A B→WkH C D→WkH (A++C) (B++D)
 | _,_,_,_,.nil,h=>h
 | _,_,_,_,.cons h1 h2,h=>.cons h1 (WkH.app h2 h)
theorem WkH.get:∀ {H I:Heap},WkH H I→∀ {i:Nat} {C:Blk},I[i]? = some C→∃ B,H[i]? = some B∧WkB B C
 | _,_,.nil,i,C,h=>by cases h
 | _,_,.cons h1 h2,0,C,h=>by
   simp only [List.getElem?_cons_zero,yad] at h
   subst h
   exact ⟨_,rfl,h1⟩
 | _,_,.cons h1 h2,i+1,C,h=>by
   simp only [List.getElem?_cons_succ] at h ⊢
   exact WkH.get h2 h
theorem WkH.get':∀ {H I:Heap},WkH H I→∀ {i:Nat} {B:Blk},H[i]? = some B→∃ C,I[i]? = some C∧WkB B C
 | _,_,.nil,i,C,h=>by cases h
 | _,_,.cons h1 h2,0,C,h=>by
   simp only [List.getElem?_cons_zero,yad] at h
   subst h
   exact ⟨_,rfl,h1⟩
 | _,_,.cons h1 h2,i+1,C,h=>by
   simp only [List.getElem?_cons_succ] at h ⊢
   exact WkH.get' h2 h
theorem WkH.len:∀ {H I:Heap},WkH H I→I.length=H.length
 | _,_,.nil=>rfl
 | _,_,.cons _ h=>by simp [h.len]
theorem HRel.wkH [Glob] {g:G} {w:World} {H I:Heap} (h:HRel g w (Hp.of H)) (hw:WkH H I):HRel g w (Hp.of I):=by
 have hz:∀ H:Heap,(Hp.of H).all=H:=fun H=>by simp [Hp.of,Hp.all]
 refine ⟨by rw [h.n];simp [Hp.of,hw.len],rfl,fun i C hi=>?_,h.lt,fun i hi=>?_,fun i j B C b h1 h2 hb hc=>?_,h.glob⟩
 ·rw [hz] at hi
  obtain ⟨B,hB,hBC⟩:=hw.get hi
  exact hBC.rel (h.rel i B (by rw [hz];exact hB))
 ·have:=h.pend i hi
  rw [hz] at this ⊢
  obtain ⟨C,hC,hBC⟩:=hw.get' this
  cases hBC
  exact hC
 ·rw [hz] at h1 h2
  obtain ⟨B',hB',q1⟩:=hw.get h1
  obtain ⟨C',hC',q2⟩:=hw.get h2
  rw [q1.locs] at hb
  rw [q2.locs] at hc
  exact h.inj i j B' C' b (by rw [hz];exact hB') (by rw [hz];exact hC') hb hc
structure RoundX {σ:Type} (inv:σ→Prop) (ms:σ→Nat) (st:σ→RE) (L:σ→Heap) (bk:RE) (n0 n1:Nat) (base:Heap) (m:Nat) (top bot:RE) (base':Heap) (loc':Heap):Prop where
 h:∃ s',inv s'∧ms s'<m∧subR n1 top bot (reB n0 (st s'))∧((bot=reB n0 bk∧disjK top (reB n0 bk)=true)∨subR n1 top bot (reB n0 bk))∧∃ ex,WkH (base'++loc') ((base++L s')++ex)∧(ex=[]∨zau n0 (n0+(L s').length) (st s')∧za5 (n0+(L s').length) (L s'))
structure LeftX (Q:QR) (e:Exit) (n0 K:Nat) (base:Heap) (top bot:RE) (base':Heap) (k':Nat) (loc':Heap):Prop where
 h:∃ l0 top2 bot2,base'=base++l0∧l0.length=K∧trE n0 top2=trE (n0+K) top∧trE n0 bot2=trE (n0+K) bot∧Q e top2 bot2 base (K+k') (l0++loc')
theorem LeftX.of {Q:QR} {e:Exit} {n0 K:Nat} {base:Heap} {top bot:RE} {base':Heap} {k':Nat} {loc':Heap} (l0:Heap) (h1:base'=base++l0) (h2:l0.length=K) (h:Q e (shR K top) (shR K bot) base (K+k') (l0++loc')):LeftX Q e n0 K base top bot base' k' loc' :=
 ⟨l0,_,_,h1,h2,shR_tr _ _ _,shR_tr _ _ _,h⟩
theorem zhm {Q:QR} {e:Exit} {n0 K:Nat} {base:Heap} {top bot:RE} {base':Heap} {k':Nat} {loc':Heap} (l0:Heap) (bot2:RE) (h1:base'=base++l0) (h2:l0.length=K) (h3:trE n0 bot2=trE (n0+K) bot) (h:Q e (shR K top) bot2 base (K+k') (l0++loc')):LeftX Q e n0 K base top bot base' k' loc' :=
 ⟨l0,_,_,h1,h2,shR_tr _ _ _,h3,h⟩
def roundX {σ:Type} (inv:σ→Prop) (ms:σ→Nat) (st:σ→RE) (L:σ→Heap) (bk:RE) (n0 K:Nat) (base:Heap) (m:Nat) (Q:QR):QR:=fun e top bot base' k' loc'=>match e with
 | .normal=>RoundX inv ms st L bk n0 (n0+K) base m top bot base' loc'
 | e=>LeftX Q e n0 K base top bot base' k' loc'
section
variable {P:Program} {N:FN} {n0:Nat} {T:TypeId→Option TI} {kn:TypeId→Nat}
theorem loop_X [Glob] (he:Env0 P T kn) (hm:P.follows .mixedOrders=true) {σ:Type} (inv:σ→Prop) (ms:σ→Nat) (st:σ→RE) (L:σ→Heap) (bk:RE) (s0:σ) {c:Code} {Q:QR} {top bot:RE} {base:Heap} {k:Nat} {loc:Heap}
  (hn:base.length=n0) (hcl:zek base) (ts:List Nat) (hbk:pickO ts top bot=some bk) (h0:inv s0) (hst:subR n0 top bot (st s0)) (hloc:loc=L s0) (hmono:∀ s,inv s→(L s0).length≤(L s).length)
  (round:∀ s,inv s→wpC P kn T N (n0+(L s).length) c (roundX inv ms st L bk n0 (L s).length base (ms s) Q) (reB n0 (st s)) (reB n0 bk) (base++L s) 0 []):LoopN P kn T N n0 c Q top bot base k loc:=by
 refine ⟨?_⟩
 subst hloc
 intro g w a hH hE
 have hk0:k=(L s0).length:=hH.k.symm
 subst hk0
 have hbkb:∀ s v,rgetO bk s=some v→below (n0+(L s0).length) (tr n0 v):=by
  intro s v hv
  have h1:=zbu (n0:=n0) (zer hbk hv)
  have h2:=VRel.below _ _ (hE.rel s)
  rw [h1,hH.n] at h2
  simp only [hn] at h2
  exact h2
 let J:Nat→Act→World→Prop:=fun n a' w'=>∃ s g',inv s∧ms s=n∧HRel g' w' ⟨base,(L s).length,L s⟩∧ERel N g' w' (trE n0 (st s++bk)) a'∧Ext g w g' w'∧DRel w a.defers g' w' a'.defers
 have hget:∀ (l bk:RE) (s:Nat),get (trE n0 (l++bk)) s=match rgetO l s with
   | some v=>tr n0 v
   | none=>match rgetO bk s with
     | some v=>tr n0 v
     | none=>.junk:=by
  intro l bk s
  rw [zcw]
  cases hl:rgetO l s with
  | some v=>simp only;exact zc3 hl _
  | none =>
    simp only
    rw [zcz hl]
    cases hb:rgetO bk s with
    | some v=>simp only;have:=zc3 (n0:=n0) hb [];simpa using this
    | none=>simp only;have:=zcz (n0:=n0) hb [];simp only [yat] at this;rw [this];rfl
 have hgetO:∀ (l:RE) (s:Nat),(∀ v,rgetO l s=some v→∃ v',rgetO (reB n0 l) s=some v'∧∀ n1,tr n1 v'=tr n0 v)∧(rgetO l s=none→rgetO (reB n0 l) s=none):=by
  intro l s
  induction l with
  | nil=>exact ⟨fun v h=>(by cases h),fun _=>rfl⟩
  | cons x l ih =>
    obtain ⟨i,v0⟩:=x
    have key:∃ v',reB n0 ((i,v0)::l)=(i,v')::reB n0 l∧∀ n1,tr n1 v'=tr n0 v0:=by
     cases v0 with
     | v a=>exact ⟨.v a,rfl,fun _=>rfl⟩
     | lp j o=>exact ⟨.v (.ptr (n0+j) o),rfl,fun _=>rfl⟩
     | lit b=>exact ⟨.lit b,rfl,fun _=>rfl⟩
    obtain ⟨v',k1,k2⟩:=key
    rw [k1]
    simp only [rgetO]
    cases hb:Nat.beq i s with
    | true=>exact ⟨fun v h=>(by cases h;exact ⟨v',rfl,k2⟩),fun h=>(by cases h)⟩
    | false=>exact ih
 refine LoopWp.inv (fun a' w'=>∃ n,J n a' w') (fun a' w'=>by classical exact if h:∃ n,J n a' w' then Classical.choose (least h) else 0) ⟨ms s0,s0,g,h0,rfl,hH,⟨hE.1,fun s=>?_,hE.ro,hE.glob⟩,ycl g w,yc3 _ _ _ _⟩ ?_
 ·rw [hget]
  cases hl:rgetO (st s0) s with
  | some v=>simp only;exact zez hst hl _ _ _ (hE.rel s)
  | none =>
    simp only
    cases hb:rgetO bk s with
    | some v=>simp only;rw [← zbu (n0:=n0) (zer hbk hb)];exact hE.rel s
    | none=>simp [VRel]
 intro a1 w1 hex
 have hJ:=(ydo (least hex)).1
 obtain ⟨s1,g1,hI1,hms1,hH1,hE1,hx1,hd1⟩:=hJ
 have hH1':HRel g1 w1 ⟨base++L s1,0,[]⟩:=hH1.of
 have hE1':ERel N g1 w1 (trE (n0+(L s1).length) (reB n0 (st s1)++reB n0 bk)) a1:=by
  rw [zcw,reB_tr,reB_tr,← zcw]
  exact hE1
 have hr:=zbx he hm c _ _ _ _ _ _ (by rw [ya5,hn]) (round s1 hI1) g1 w1 a1 hH1' hE1'
 rw [hE.fo hx1] at hr
 refine Code.wpIn_mono ?_ hr
 rintro e a2 w2 ⟨env2,hp2,g2,⟨top2,bot2,base2,k2,loc2,hap,rfl,hn2,q⟩,hH2,hE2,hx2,hd2⟩
 have other:e≠.normal→LeftX Q e n0 (L s1).length base top2 bot2 base2 k2 loc2→Lift N (LS n0 Q) g w a.defers e a2 w2:=fun _ hq=>by
  obtain ⟨l0,top3,bot3,rfl,hl0,t1,t2,hq⟩:=hq
  have hk2:=hH2.k
  simp only at hk2
  subst hk2
  have hsp:=hH2.of
  simp only [Hp.all,ybe] at hsp
  have hsp2:=hsp.split
  rw [ya5,hl0] at hsp2
  refine ⟨env2,_,g2,⟨_,_,base,_,l0++loc2,fun s=>?_,rfl,hn,hq⟩,hsp2,hE2,hx1.trans hx2,hd1.trans hx2 hx1.size hd2⟩
  have:=hap s
  rwa [zcw,t1,t2,← zcw]
 cases e with
 | normal =>
   obtain ⟨s',hi',hms',hsub,hbk',ex,hbl,hbel⟩:=q
   have hHs:HRel g2 w2 ⟨base,(L s'++ex).length,L s'++ex⟩:=by
    have h:=hH2.of
    simp only [Hp.all] at h
    have h:=h.wkH hbl
    rw [ybe] at h
    exact h.split
   have hE3:ERel N g2 w2 (trE n0 (st s'++bk)) a2:=by
    refine ⟨hE2.1,fun s=>?_,hE2.ro,hE2.glob⟩
    have h2:=hap s _ _ _ (hE2.rel s)
    rw [hget]
    cases hl:rgetO (st s') s with
    | some v =>
      simp only
      obtain ⟨v',e1,e2⟩:=(hgetO (st s') s).1 v hl
      have:=zez hsub e1 _ _ _ h2
      rwa [e2] at this
    | none =>
      simp only
      cases hb:rgetO bk s with
      | none=>simp [VRel]
      | some v =>
        simp only
        obtain ⟨v',e1,e2⟩:=(hgetO bk s).1 v hb
        rcases hbk' with ⟨rfl,hdj⟩|hsb
        ·have hno:=disjK_none hdj e1
         rw [zcw,zcz hno] at h2
         have h3:=zc3 (n0:=n0+(L s1).length) e1 []
         rw [yat] at h3
         rw [h3,e2] at h2
         exact h2
        ·have:=zez hsb e1 _ _ _ h2
         rwa [e2] at this
   have hex2:∃ m,m<ms s1∧J m a2 w2:=by
    rcases hbel with rfl|⟨hb1,hb2⟩
    ·rw [yat] at hHs
     exact ⟨ms s',hms',s',g2,hi',rfl,hHs,hE3,hx1.trans hx2,hd1.trans hx2 hx1.size hd2⟩
    ·have hcut:=hHs.cutLoc rfl hcl (by rw [hn];exact hb2)
     have hgn:g.n≤base.length+(L s').length:=by rw [hH.n];simp only;have:=hmono s' hi';omega
     have hxc:=(hx1.trans hx2).cut hgn
     refine ⟨ms s',hms',s',g2.cut (base.length+(L s').length),hi',rfl,hcut,⟨hE3.1,fun s=>VRel.cut _ _ (hE3.rel s) ?_,fun i hi=>?_,glob_cut hE3.glob⟩,hxc,?_⟩
     ·rw [hget,hn]
      cases hl:rgetO (st s') s with
      | some v=>simp only;exact zgp hb1 hl
      | none =>
        simp only
        cases hb:rgetO bk s with
        | some v=>simp only;exact below_mono (Nat.add_le_add_left (hmono s' hi') _) _ (hbkb s v hb)
        | none=>simp [below]
     ·have h1:=hE.ro i hi
      exact ⟨ybs h1.1 hgn,fun q=>(hE3.ro i hi).2 q.1⟩
     ·obtain ⟨rs,d1,d2,d3⟩:=hd1.trans hx2 hx1.size hd2
      exact ⟨rs,d1,d2,d3⟩
   obtain ⟨m,hmlt,hJm⟩:=hex2
   have hex2:∃ n,J n a2 w2:=⟨m,hJm⟩
   refine ⟨hex2,?_⟩
   simp only [hex,hex2,dif_pos]
   refine Nat.lt_of_le_of_lt ((ydo (least hex2)).2 m hJm) ?_
   rw [hms1] at hmlt
   exact hmlt
 | exit i=>exact other (by simp) q
 | goto l=>exact other (by simp) q
 | ret=>exact other (by simp) q
 | panic ch=>exact other (by simp) q
 | outgrown=>exact other (by simp) q
end
end
section
variable {P:Program} {kn:TypeId→Nat} {T:TypeId→Option TI}
def nx (f:RE→RE→Heap→Nat→Heap→Prop):QR:=fun e top bot base k loc=>match e with
 | .normal=>f top bot base k loc
 | _=>False
end
section
section
variable {P:Program} {N:FN} {n0:Nat} {T:TypeId→Option TI} {kn:TypeId→Nat}
end
end
section
section
variable {P:Program} {N:FN} {n0:Nat} {T:TypeId→Option TI} {kn:TypeId→Nat}
end
end
class Cst (x:Int) (n:outParam Nat):Prop where
 h:x=(n:Int)
instance cstN (n:Nat):Cst ((n:Nat):Int) n:=⟨rfl⟩
instance:Cst 0 0:=⟨rfl⟩
instance:Cst 1 1:=⟨rfl⟩
instance:Cst 2 2:=⟨rfl⟩
instance:Cst 3 3:=⟨rfl⟩
instance:Cst 4 4:=⟨rfl⟩
instance:Cst 5 5:=⟨rfl⟩
instance:Cst 6 6:=⟨rfl⟩
instance:Cst 7 7:=⟨rfl⟩
instance:Cst 8 8:=⟨rfl⟩
instance:Cst 14 14:=⟨rfl⟩
instance:Cst 15 15:=⟨rfl⟩
instance:Cst 25 25:=⟨rfl⟩
instance:Cst 30 30:=⟨rfl⟩
instance:Cst 31 31:=⟨rfl⟩
theorem VDet.lendA [Glob] {P:Program} {F:FuncId} {xs ys zs:List AV} {H:Heap} {v:AV} (hl:LendL H xs ys) (h:∀ H,VDet P F zs H v) (hw:WkL ys zs) (hv:flatV v=true):VDet P F xs H v:=VDet.lend (fun H=>VDet.wk (h H) hw) hl hv
end Go.Vsi
