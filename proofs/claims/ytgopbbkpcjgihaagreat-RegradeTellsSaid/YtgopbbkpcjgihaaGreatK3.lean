/- A text of the proof: the parts E23, E24, E25, E26, E27, E28, E29, E30, E31, E32, E33, E34, E35, E36, E37, R1. -/
import Derived.Maps.RangeRun
import Derived.Laws.BytesString
import Derived.Test.YtgopbbkpcjgihaaGreatK2
set_option linter.unusedSimpArgs false
set_option linter.unusedVariables false
set_option maxHeartbeats 8000000
namespace Go.Vsi
section
def mfind (eq:AV→AV→Option Bool) (k:AV):List AV→Option (Option Nat)
 | []=>some none
 | x::l=>match eq k x with
   | some true=>some (some 0)
   | some false=>match mfind eq k l with
     | some (some j)=>some (some (j+1))
     | some none=>some none
     | none=>none
   | none=>none
def MLook (eq:AV→AV→Option Bool) (ks vs:List AV) (k:AV):List AV→Prop
 | [v]=>∃ j,mfind eq k ks=some (some j)∧vs[j]? = some v
 | []=>mfind eq k ks=some none
 | _=>False
inductive MPut (eq:AV→AV→Option Bool) (ks vs:List AV) (k v:AV):List AV→List AV→Prop where
 | old (j:Nat) (h:mfind eq k ks=some (some j)) (hk:ks[j]? = some k):MPut eq ks vs k v ks (vs.set j v)
 | new (h:mfind eq k ks=some none):MPut eq ks vs k v (ks++[k]) (vs++[v])
def plain1:AV→Bool
 | .int _ _=>true
 | .str _=>true
 | .bool _=>true
 | _=>false
def plainVs:List AV→Bool
 | []=>true
 | v::l=>match plain1 v with
   | true=>plainVs l
   | false=>false
def plainV:AV→Bool
 | .agg l=>plainVs l
 | v=>plain1 v
theorem plain1_inj {g g':G} {w w':World} {v:AV} (h:plain1 v=true) {c c':Value} (h1:VRel g w v c) (h2:VRel g' w' v c'):c=c'∧∀ n,Instr.sameBits n c c=true:=by
 cases v <;> simp only [plain1,ya9] at h
 all_goals simp only [VRel] at h1 h2
 all_goals subst h1 h2
 all_goals refine ⟨rfl,fun n=>?_⟩
 all_goals cases n <;> simp [Instr.sameBits]
 all_goals exact (Go.MapKept.bytes_beq _ _).2 rfl
theorem plains_inj {g g':G} {w w':World}:∀ (l:List AV),plainVs l=true→∀ cs cs',LRel g w l cs→LRel g' w' l cs'→cs=cs'∧∀ n,((cs.zip cs).all fun (x,y)=>Instr.sameBits n x y)=true
 | [],_,cs,cs',h1,h2=>by simp only [LRel] at h1 h2;subst h1 h2;exact ⟨rfl,fun _=>rfl⟩
 | v::l,hp,cs,cs',h1,h2=>by
   simp only [plainVs] at hp
   split at hp
   ·rename_i hv
    simp only [LRel] at h1 h2
    obtain ⟨c,r,rfl,q1,q2⟩:=h1
    obtain ⟨c',r',rfl,p1,p2⟩:=h2
    obtain ⟨e1,e2⟩:=plain1_inj hv q1 p1
    obtain ⟨e3,e4⟩:=plains_inj l hp _ _ q2 p2
    exact ⟨by rw [e1,e3],fun n=>by simp only [List.zip_cons_cons,List.all_cons,yak];exact ⟨e2 n,e4 n⟩⟩
   ·cases hp
theorem plain_inj {g g':G} {w w':World} {v:AV} (h:plainV v=true) {c c':Value} (h1:VRel g w v c) (h2:VRel g' w' v c'):c=c'∧Instr.sameBits 10000 c c=true:=by
 by_cases ha:∃ l,v=.agg l
 ·obtain ⟨l,rfl⟩:=ha
  simp only [VRel] at h1 h2
  obtain ⟨cs,rfl,h1⟩:=h1
  obtain ⟨ds,rfl,h2⟩:=h2
  obtain ⟨e1,e2⟩:=plains_inj l h _ _ h1 h2
  refine ⟨by rw [Array.ext' e1],?_⟩
  simp only [Instr.sameBits,beq_self_eq_true,ya8]
  exact e2 9999
 ·have hp:plain1 v=true:=by
    cases v <;> first|exact h|exact (ha ⟨_,rfl⟩).elim
  obtain ⟨e1,e2⟩:=plain1_inj hp h1 h2
  exact ⟨e1,e2 _⟩
section
variable {P:Program} {T:TypeId→Option TI} {kn:TypeId→Nat} {g:G} {w:World}
def basicK:TK→Bool
 | .int _=>true
 | .str=>true
 | .bool=>true
 | _=>false
theorem eqV_now {n:Nat} {t:TypeId} {ti:TI} {d:TypeDesc} {k k':AV} {c c':Value} {b:Bool} (ht:T t=some ti) (hd:ti.kind=tkOf P d) (hb:basicK ti.kind=true) (h:eqV kn T (n+1) t k k'=some b) (hk:VRel g w k c) (hk':VRel g w k' c') :
  Instr.sameNow d c c'=some b∨(∃ j,∃ q,d=.int q∧∃ x y,c=.int j x∧c'=.int j y∧b=(x==y)):=by
 simp only [eqV,ht] at h
 rw [hd] at h hb
 cases d <;> simp only [tkOf,basicK,ya9] at hb h
 case int q =>
  split at h
  ·split at h
   ·rename_i k a k' b' hke
    obtain rfl:=zc4 hke
    simp only [yad] at h;subst h
    simp only [VRel] at hk hk'
    subst hk hk'
    left
    simp [Instr.sameNow]
   ·cases h
  ·cases h
 case bool =>
  split at h
  ·simp only [yad] at h;subst h
   simp only [VRel] at hk hk'
   subst hk hk'
   left;simp [Instr.sameNow]
  ·cases h
 case string =>
  split at h
  ·simp only [yad] at h;subst h
   simp only [VRel] at hk hk'
   subst hk hk'
   left;simp [Instr.sameNow,beq_toListBytes]
  ·cases h
theorem findNow_run {n:Nat} {t:TypeId} {ti:TI} {d:TypeDesc} {k:AV} {c:Value} (ht:T t=some ti) (hd:ti.kind=tkOf P d) (hb:basicK ti.kind=true) (hk:VRel g w k c):∀ (es:List MapEntry) (ks:List AV) (i:Nat) (r:Option Nat),LRel g w ks (es.map (·.key)) →
  mfind (eqV kn T (n+1) t) k ks=some r→Instr.findNow d c es i=some (r.bind fun j=>(es[j]?).map fun e=>(i+j,e.val))
 | [],ks,i,r,hl,h=>by
   cases ks with
   | nil=>simp only [mfind,yad] at h;subst h;rfl
   | cons k0 ks=>simp [LRel] at hl
 | e::es,ks,i,r,hl,h=>by
   cases ks with
   | nil=>simp [LRel] at hl
   | cons k0 ks =>
   simp only [ybx,LRel] at hl
   obtain ⟨c0,r0,e1,e2,e3⟩:=hl
   cases e1
   simp only [mfind] at h
   cases he:eqV kn T (n+1) t k k0 with
   | none=>simp [he] at h
   | some b =>
     rw [he] at h
     have hs:Instr.sameNow d c e.key=some b:=by
      rcases eqV_now ht hd hb he hk e2 with h1|⟨j,q,rfl,x,y,rfl,hy,rfl⟩
      ·exact h1
      ·rw [hy];simp [Instr.sameNow]
     unfold Instr.findNow
     rw [hs]
     cases b with
     | true=>simp only [yad] at h;subst h;simp
     | false =>
       simp only at h ⊢
       cases hm:mfind (eqV kn T (n+1) t) k ks with
       | none=>simp [hm] at h
       | some r' =>
         rw [findNow_run ht hd hb hk es ks (i+1) r' e3 hm]
         cases r' with
         | none=>simp only [hm,yad] at h;subst h;rfl
         | some j =>
           simp only [hm,yad] at h;subst h
           simp only [yco,List.getElem?_cons_succ]
           rw [show i+1+j=i+(j+1) by omega]
theorem zge (hT:TOk P T) (hkn:∀ t n,kn t=n+2→P.stoodInHeld t=false∧P.eqGuardType P.depth t=false) {t:TypeId} {k:AV} {c:Value} (hk:VRel g w k c):∀ (es:List MapEntry) (ks:List AV) (i:Nat) (r:Option Nat),LRel g w ks (es.map (·.key)) →
  mfind (eqV kn T 20 t) k ks=some r→(Instr.findAsking t c es i).run P w=.ok (r.bind fun j=>(es[j]?).map fun e=>(i+j,e.val)) w
 | [],ks,i,r,hl,h=>by
   cases ks with
   | nil=>simp only [mfind,yad] at h;subst h;simp [Instr.findAsking]
   | cons k0 ks=>simp [LRel] at hl
 | e::es,ks,i,r,hl,h=>by
   cases ks with
   | nil=>simp [LRel] at hl
   | cons k0 ks =>
   simp only [ybx,LRel] at hl
   obtain ⟨c0,r0,e1,e2,e3⟩:=hl
   cases e1
   simp only [mfind] at h
   cases he:eqV kn T 20 t k k0 with
   | none=>simp [he] at h
   | some b =>
     rw [he] at h
     have hr:(Op.equal t c e.key).run P w=.ok b w:=eqV_run hT hkn 20 10000 (by omega) he hk e2
     unfold Instr.findAsking
     simp only [Sem.run_bind,hr,Result.andThen_ok]
     cases b with
     | true=>simp only [yad] at h;subst h;simp
     | false =>
       simp only [ya9,if_false] at h ⊢
       cases hm:mfind (eqV kn T 20 t) k ks with
       | none=>simp [hm] at h
       | some r' =>
         rw [zge hT hkn hk es ks (i+1) r' e3 hm]
         cases r' with
         | none=>simp only [hm,yad] at h;subst h;rfl
         | some j =>
           simp only [hm,yad] at h;subst h
           simp only [yco,List.getElem?_cons_succ]
           rw [show i+1+j=i+(j+1) by omega]
theorem checkFs_run (hT:TOk P T) {em:Bool} {d:Nat} {eq:TypeId→AV→AV→Option Bool} (ih:∀ {t:TypeId} {x:AV} {b:Bool} {c:Value},eq t x x=some b→VRel g w x c→(Instr.checkKey em d t c).run P w=.ok () w) {l:List AV} {cs:Array Value} (hl:LRel g w l cs.toList):∀ (fs:List Field) {b:Bool},eqFs eq T l l (fs.map fun f=>(f.type,f.offset,isz P f.type,f.name == "_"))=some b →
  ∀ (h:Field→PUnit→Sem (ForInStep PUnit)),(∀ f,f.name = "_" → (h f ⟨⟩).run P w=.ok (.yield ⟨⟩) w)→(∀ f,f.name ≠ "_" → (∃ c,(part f.type cs f.offset).run P w=.ok c w∧(Instr.checkKey em d f.type c).run P w=.ok () w)→(h f ⟨⟩).run P w=.ok (.yield ⟨⟩) w) →
  (forIn fs PUnit.unit h).run P w=.ok ⟨⟩ w
 | [],_,_,h,_,_=>by simp
 | f::fs,b,he,h,h1,h2=>by
   simp only [ybx,eqFs] at he
   have hstep:(h f ⟨⟩).run P w=.ok (.yield ⟨⟩) w∧∃ b',eqFs eq T l l (fs.map fun f=>(f.type,f.offset,isz P f.type,f.name == "_"))=some b':=by
    split at he
    ·rename_i hb
     exact ⟨h1 f (by simpa using hb),b,he⟩
    ·rename_i hb
     have hn:f.name ≠ "_" := by simpa using hb
     split at he
     case h_2=>cases he
     rename_i fi hfi
     split at he
     case h_2=>cases he
     rename_i l' hl'
     split at he
     case h_2=>cases he
     rename_i x hx
     split at he
     case h_2=>cases he
     rename_i m' hm'
     obtain rfl:l'=m':=by simpa using hm'
     split at he
     case h_2=>cases he
     rename_i y hy
     obtain rfl:x=y:=by first|simpa using hy|(rw [hx] at hy;simpa using hy)
     split at he
     case h_2=>cases he
     rename_i b1 hb1
     split at he
     case h_2=>cases he
     rename_i b2 hb2
     obtain ⟨c,p1,p2⟩:=part_run (hT _ _ hfi) hl (zc0 _ _ _ hl').1 hx
     exact ⟨h2 f hn ⟨c,p1,ih hb1 p2⟩,b2,hb2⟩
   obtain ⟨e1,b',e2⟩:=hstep
   rw [List.forIn_cons]
   simp only [Sem.run_bind,e1,Result.andThen_ok]
   exact checkFs_run hT ih hl fs e2 h h1 h2
theorem zei (hT:TOk P T) {em:Bool}:∀ (n d:Nat),n≤d→∀ {t:TypeId} {x:AV} {b:Bool} {c:Value},eqV kn T n t x x=some b→VRel g w x c→(Instr.checkKey em d t c).run P w=.ok () w
 | 0,_,_,_,_,_,_,h,_=>by cases h
 | n+1,0,h0,_,_,_,_,_,_=>by omega
 | n+1,d+1,h0,t,x,b,c,h,hx=>by
   simp only [eqV] at h
   split at h
   case h_2=>cases h
   rename_i ti ht
   obtain ⟨dd,i,e1,e2,e3,-⟩:=zaj (hT _ _ ht)
   split at h
   ·rename_i k0 hkd
    rw [hkd] at e3
    have hd:dd=.int k0:=by cases dd <;> simp [tkOf] at e3;rw [e3]
    subst hd
    split at h
    ·simp only [VRel] at hx;subst hx
     simp [Instr.checkKey,run_underlying e1]
    ·cases h
   ·rename_i hkd
    rw [hkd] at e3
    have hd:dd=.bool:=by cases dd <;> simp [tkOf] at e3;rfl
    subst hd
    split at h
    ·simp only [VRel] at hx;subst hx
     simp [Instr.checkKey,run_underlying e1]
    ·cases h
   ·rename_i hkd
    rw [hkd] at e3
    have hd:dd=.string:=by cases dd <;> simp [tkOf] at e3;rfl
    subst hd
    split at h
    ·simp only [VRel] at hx;subst hx
     simp [Instr.checkKey,run_underlying e1]
    ·cases h
   ·rename_i fs hkd
    rw [hkd] at e3
    obtain ⟨fields,rfl,hfs⟩:=zcb e3
    split at h
    ·split at h
     ·rename_i l m
      simp only [VRel] at hx
      obtain ⟨cs,rfl,hl⟩:=hx
      rw [hfs] at h
      unfold Instr.checkKey
      simp only [Sem.run_bind,run_underlying e1,Result.andThen_ok]
      rw [← Array.forIn_toList]
      have:=checkFs_run hT (em:=em) (d:=d) (fun h1 h2=>zei hT n d (by omega) h1 h2) hl fields.toList h
      rw [this _ (fun f hf=>?_) (fun f hf hx=>?_)]
      ·rfl
      ·simp [hf]
      ·obtain ⟨c,q1,q2⟩:=hx
       simp [hf,q1,q2]
     ·cases h
    ·cases h
   ·cases h
theorem zhe (hT:TOk P T) (hkn:∀ t n,kn t=n+2→P.stoodInHeld t=false∧P.eqGuardType P.depth t=false) {t:TypeId} {k:AV} {c:Value} (hk:VRel g w k c) {es:List MapEntry} {ks:List AV} {r:Option Nat} {b:Bool} (hl:LRel g w ks (es.map (·.key)))
  (hs:eqV kn T 20 t k k=some b) (h:mfind (eqV kn T 20 t) k ks=some r):(Instr.findKey t c es).run P w=.ok (r.bind fun j=>(es[j]?).map fun e=>(j,e.val)) w:=by
 have hz:∀ (r:Option Nat),(r.bind fun j=>(es[j]?).map fun e=>(0+j,e.val))=(r.bind fun j=>(es[j]?).map fun e=>(j,e.val)):=by
  intro r;simp
 have hs':=hs
 simp only [eqV] at hs'
 split at hs'
 case h_2=>cases hs'
 rename_i ti ht
 obtain ⟨dd,i,e1,e2,e3,-⟩:=zaj (hT _ _ ht)
 unfold Instr.findKey
 simp only [Sem.run_bind,run_underlying e1,Result.andThen_ok]
 by_cases hb:basicK ti.kind=true
 ·rw [findNow_run ht e3 hb hk es ks 0 r hl h,hz]
  rfl
 ·cases hn:Instr.findNow dd c es 0 with
  | none =>
    simp only
    rw [zge hT hkn hk es ks 0 r hl h,hz]
  | some q =>
    cases es with
    | nil =>
      cases ks with
      | nil =>
        simp only [Instr.findNow,yad] at hn
        simp only [mfind,yad] at h
        subst hn h
        rfl
      | cons k0 ks=>simp [LRel] at hl
    | cons e es =>
      exfalso
      have hst:∃ fs,dd=.struct fs:=by
       rw [e3] at hs' hb
       cases dd <;> simp only [tkOf] at hs' hb <;> first
        | exact ⟨_,rfl⟩
        | (simp [basicK] at hb;done)
        | (cases hs';done)
      obtain ⟨fs,rfl⟩:=hst
      unfold Instr.findNow at hn
      cases c <;> cases e.key <;> simp [Instr.sameNow] at hn
end
end
section
def zdb (P:Program) (t:TypeId):Bool:=match P.underlying t,P.info? t with
 | some d,some i=>match i.zero with
   | some (.agg cs)=>aggD d&&Nat.beq cs.size i.size
   | some _=>!aggD d
   | none=>true
 | _,_=>true
def zeroAV (ei:TI):Option AV:=match ei.zero with
 | some z=>loadC ei z
 | none=>none
def lookV (ei:TI):List AV→Option (AV×Bool)
 | [v]=>some (v,true)
 | []=>match zeroAV ei with
   | some z=>some (z,false)
   | none=>none
 | _=>none
section
variable {P:Program} {N:FN} {T:TypeId→Option TI} {kn:TypeId→Nat} {env:Env} {hp hp':Hp} {o:Oper}
theorem zero_run (hT:TOk P T) {g:G} {w:World} {t:TypeId} {ei:TI} (ht:T t=some ei) (hz:zdb P t=true) {v:AV} (hv:zeroAV ei=some v):∃ c,(zeroValue t).run P w=.ok c w∧VRel g w v c:=by
 obtain ⟨d,i,e1,e2,e3,e4,-,e6⟩:=zaj (hT _ _ ht)
 unfold zeroAV at hv
 unfold zdb at hz
 simp only [e1,e2] at hz
 rw [e6] at hv
 cases hiz:i.zero with
 | none=>simp [hiz] at hv
 | some z =>
   simp only [hiz,ybb] at hv
   rw [hiz] at hz
   refine ⟨z,?_,?_⟩
   ·simp [zeroValue,typeInfo,e2,hiz]
   ·unfold loadC at hv
    rw [e3,tk_agg] at hv
    cases z with
    | agg cs =>
      simp only [yak] at hz
      rw [hz.1] at hv
      simp only [Value.cells,yba] at hv
      obtain ⟨l,h1,rfl⟩:=hv
      simp only [VRel]
      refine ⟨cs,rfl,?_⟩
      obtain ⟨h2,h3⟩:=takeC_eq _ _ _ h1
      have hsz:ei.sz=cs.size:=by
       rw [e4,yap hz.2]
      rw [hsz] at h2
      rw [← h2,yb3 (by simp)]
      exact zej g w _
    | _ =>
      simp only [Bool.not_eq_eq_eq_not,Bool.not_true] at hz
      rw [hz] at hv
      simp only [Value.cells,ybx,yde,lget,yad] at hv
      subst hv
      exact av1_rel g w _
theorem map_kind {t kt et:TypeId} {ti:TI} (hT:TOk P T) (ht:T t=some ti) (hk:ti.kind=.mp kt et):P.underlying t=some (.map kt et):=by
 obtain ⟨d0,i0,e1,-,e3,-⟩:=zaj (hT _ _ ht)
 rw [hk] at e3
 have hd:d0=.map kt et:=by cases d0 <;> simp [tkOf] at e3;rw [e3.1,e3.2]
 rw [← hd];exact e1
theorem lookup_core {t kt et:TypeId} {m c:Value} {ok:Bool} {es:Array MapEntry} {w:World} {r:Option (Nat×Value)} {v:Value} {fd:Bool} (hu:P.underlying t=some (.map kt et))
  (hm:(m=.map none∧es=#[])∨∃ b clk,m=.map (some b)∧w.heap[b]? = some (.map es clk)) (hck:∀ em,(Instr.checkKey em 10000 kt c).run P w=.ok () w) (hf:(Instr.findKey kt c es.toList).run P w=.ok r w)
  (hv:(∃ j,r=some (j,v)∧fd=true)∨(r=none∧fd=false∧(zeroValue et).run P w=.ok v w)):(Instr.lookup t m c ok).run P w=.ok (if ok=true then .tuple #[v,.bool fd] else v) w:=by
 rcases hm with ⟨rfl,rfl⟩|⟨b,clk,rfl,hb⟩
 ·rcases hv with ⟨j,rfl,rfl⟩|⟨rfl,rfl,hz⟩
  ·replace hf:(Instr.findKey kt c []).run P w=_:=hf
   simp [Instr.lookup,run_underlying hu,hck,hf]
  ·replace hf:(Instr.findKey kt c []).run P w=_:=hf
   simp [Instr.lookup,run_underlying hu,hck,hf,hz]
 ·rcases hv with ⟨j,rfl,rfl⟩|⟨rfl,rfl,hz⟩
  ·simp [Instr.lookup,run_underlying hu,hck,hf,Go.MapKept.run_getObj_map hb]
  ·simp [Instr.lookup,run_underlying hu,hck,hf,hz,Go.MapKept.run_getObj_map hb]
theorem st_lookup [Glob] (hT:TOk P T) (hkn:∀ t n,kn t=n+2→P.stoodInHeld t=false∧P.eqGuardType P.depth t=false) {t kt et:TypeId} {x y:Operand} {ti ei:TI} {ok:Bool} {ks vs a:List AV} {k v:AV} {b fd:Bool} (ho:o.op=.lookup t x y ok) (ht:T t=some ti) (hk:ti.kind=.mp kt et) (het:T et=some ei) (hz:zdb P et=true)
  (hm:MapAt hp (ev env x) ks vs∨(ev env x=.nilm∧ks=[]∧vs=[])) (hy:ev env y=k) (hs:eqV kn T 20 kt k k=some b) (hl:MLook (eqV kn T 20 kt) ks vs k a) (hv:lookV ei a=some (v,fd)) :
  Step P N hp env o (if ok=true then .tup [v,.bool fd] else v) hp:=by
 intro g w a' hH hE
 have hu:=map_kind hT ht hk
 have hvy:=zar hE y
 rw [hy] at hvy
 obtain ⟨es,hget,hr1,hr2⟩:∃ es:Array MapEntry,((a'.eval x=.map none∧es=#[])∨∃ b clk,a'.eval x=.map (some b)∧w.heap[b]? = some (.map es clk))∧LRel g w ks (es.toList.map (·.key))∧LRel g w vs (es.toList.map (·.val)):=by
  rcases hm with hm|⟨hm,rfl,rfl⟩
  ·obtain ⟨b,es,clk,hc,hb,hr1,hr2⟩:=mapAt_rel hH hm (zar hE x)
   exact ⟨es,.inr ⟨b,clk,hc,hb⟩,hr1,hr2⟩
  ·have h1:=zar hE x
   rw [hm] at h1
   simp only [VRel] at h1
   exact ⟨#[],.inl ⟨h1,rfl⟩,by simp [LRel],by simp [LRel]⟩
 have hck:∀ em,(Instr.checkKey em 10000 kt (a'.eval y)).run P w=.ok () w:=fun em=>zei hT 20 10000 (by omega) hs hvy
 have fin:∀ (r:Option Nat) (c:Value),mfind (eqV kn T 20 kt) k ks=some r→VRel g w v c →
   ((∃ j,(r.bind fun j=>(es.toList[j]?).map fun e=>(j,e.val))=some (j,c)∧fd=true)∨((r.bind fun j=>(es.toList[j]?).map fun e=>(j,e.val))=none∧fd=false∧(zeroValue et).run P w=.ok c w)) →
   ∃ c g' w',(execOp a'.eval o).run P w=.ok (.value c) w'∧HRel g' w' hp∧VRel g' w' (if ok=true then .tup [v,.bool fd] else v) c∧Ext g w g' w':=by
  intro r c hr hvc hcs
  have hf:=zhe hT hkn hvy (es:=es.toList) hr1 hs hr
  have hrun:=lookup_core (ok:=ok) hu hget hck hf hcs
  refine ⟨(if ok=true then .tuple #[c,.bool fd] else c),g,w,?_,hH,?_,ycl g w⟩
  ·unfold execOp
   simp only [ho]
   simp [hrun,Result.andThen]
  ·cases ok with
   | true =>
     simp only [if_true,VRel]
     exact ⟨_,rfl,by simp only [LRel];exact ⟨_,_,rfl,hvc,_,_,rfl,by simp [VRel],rfl⟩⟩
   | false=>simpa using hvc
 match a,hl,hv with
 | [],hl,hv =>
   simp only [lookV] at hv
   cases hza:zeroAV ei with
   | none=>simp [hza] at hv
   | some z =>
     simp only [hza,yad,yb7] at hv
     obtain ⟨rfl,rfl⟩:=hv
     obtain ⟨c,h1,h2⟩:=zero_run (P:=P) hT (g:=g) (w:=w) het hz hza
     exact fin none c hl h2 (.inr ⟨rfl,rfl,h1⟩)
 | [v'],hl,hv =>
   simp only [lookV,yad,yb7] at hv
   obtain ⟨rfl,rfl⟩:=hv
   obtain ⟨j,h1,h2⟩:=hl
   obtain ⟨c,q1,q2⟩:=hr2.get h2
   refine fin (some j) c h1 q2 (.inl ⟨j,?_,rfl⟩)
   rw [ya7] at q1
   simp only [yco]
   cases he:es.toList[j]? with
   | none=>rw [he] at q1;cases q1
   | some e=>rw [he] at q1;simp only [ybb,yad] at q1 ⊢;rw [q1]
theorem LRel.set {g:G} {w:World} {l:List AV} {cs:List Value} (h:LRel g w l cs) (j:Nat) {v:AV} {c:Value} (hv:VRel g w v c):LRel g w (l.set j v) (cs.set j c):=by
 have hl:=h.length
 refine LRel.mk (by simp [hl]) fun i v' c' h1 h2=>?_
 rw [yaw] at h1 h2
 by_cases hij:j=i
 ·subst hij
  rw [if_pos rfl] at h1 h2
  split at h1
  ·split at h2
   ·cases h1;cases h2;exact hv
   ·cases h2
  ·cases h1
 ·rw [if_neg hij] at h1 h2
  obtain ⟨c'',q1,q2⟩:=h.get h1
  rw [h2] at q1;cases q1;exact q2
theorem put_core {t kt et:TypeId} {c cv:Value} {es:Array MapEntry} {clk b:Nat} {w:World} {r:Option (Nat×Value)} (hu:P.underlying t=some (.map kt et)) (hb:w.heap[b]? = some (.map es clk))
  (hck:∀ em,(Instr.checkKey em 10000 kt c).run P w=.ok () w) (hf:(Instr.findKey kt c es.toList).run P w=.ok r w)
  (hs:∀ j v,r=some (j,v)→∃ e,es[j]? = some e∧Instr.sameBits 10000 e.key c=true) :
  (Instr.mapUpdate t (.map (some b)) c cv).run P w=.ok () (w.putObj b (match r with
    | some (j,_)=>.map (es.modify j fun e=>{ e with key:=c,val:=cv }) clk
    | none=>.map (es.push { key:=c,val:=cv,born:=clk }) (clk+1))):=by
 cases r with
 | none =>
   simp [Instr.mapUpdate,run_underlying hu,hck,hf,Go.MapKept.run_getObj_map hb,Go.MapKept.run_setObj_map _ hb,World.putObj]
 | some jv =>
   obtain ⟨j,v⟩:=jv
   obtain ⟨e,he,hsb⟩:=hs j v rfl
   simp [Instr.mapUpdate,run_underlying hu,hck,hf,Go.MapKept.run_getObj_map hb,Go.MapKept.run_setObj_map _ hb,World.putObj,he,Instr.keyThatStays,hsb]
theorem st_put [Glob] (hT:TOk P T) (hkn:∀ t n,kn t=n+2→P.stoodInHeld t=false∧P.eqGuardType P.depth t=false) {t kt et:TypeId} {x y z:Operand} {ti:TI} {i:Nat} {ks vs ks' vs':List AV} {k v:AV} {b:Bool} (ho:o.op=.mapUpdate t x y z∨o.op=.insert t x y z) (ht:T t=some ti) (hk:ti.kind=.mp kt et)
  (hx:ev env x=.mp i) (ha:At hp i (.mp ks vs)) (hy:ev env y=k) (hz:ev env z=v) (hpl:plainV k=true) (hs:eqV kn T 20 kt k k=some b) (hp':MPut (eqV kn T 20 kt) ks vs k v ks' vs') {hp2:Hp} (hput:Put hp i (.mp ks' vs') hp2):StepU P N hp env o hp2:=by
 intro g w a hH hE
 have hu:=map_kind hT ht hk
 have hvx:=zar hE x
 have hvy:=zar hE y
 have hvz:=zar hE z
 rw [hx] at hvx
 rw [hy] at hvy
 rw [hz] at hvz
 simp only [VRel] at hvx
 obtain ⟨hok,hc⟩:=hvx
 obtain ⟨es,clk,h1,⟨hclk,hborn⟩,h2,h3,h4⟩:=hH.rel i _ ha
 have hck:∀ em,(Instr.checkKey em 10000 kt (a.eval y)).run P w=.ok () w:=fun em=>zei hT 20 10000 (by omega) hs hvy
 have hexec:∀ w',(Instr.mapUpdate t (a.eval x) (a.eval y) (a.eval z)).run P w=.ok () w'→(execOp a.eval o).run P w=.ok .skip w':=by
  intro w' hr
  unfold execOp
  rcases ho with ho|ho <;> simp only [ho] <;> simp [hr,Result.andThen]
 cases hp' with
 | old j hj hkj =>
   obtain ⟨c',q1,q2⟩:=h2.get hkj
   rw [ya7] at q1
   cases he:es.toList[j]? with
   | none=>rw [he] at q1;cases q1
   | some e =>
   rw [he] at q1
   simp only [ybb,yad] at q1
   subst q1
   obtain ⟨e1,e2⟩:=plain_inj hpl q2 hvy
   have hf:=zhe hT hkn hvy (es:=es.toList) h2 hs hj
   simp only [yco,he,ybb] at hf
   have hea:es[j]? = some e:=by simpa using he
   have hrun:=put_core (cv:=a.eval z) hu h1 hck hf (fun j' v' hjv=>by
    cases hjv
    exact ⟨e,hea,by rw [← e1];exact e2⟩)
   rw [← hc] at hrun
   have hset:=hH.setObj (x':=.map (es.modify j fun e=>{ e with key:=a.eval y,val:=a.eval z }) clk) ha rfl rfl h1 (fun _ _ _ e=>by cases e) h4 hput (fun hx=>⟨_,clk,World.putObj_heap_same (zbc h1),⟨by simp [hclk],fun q e' he'=>by
     rw [yb1] at he'
     split at he'
     ·simp only [yba] at he'
      obtain ⟨e'',r1,rfl⟩:=he'
      exact hborn q e'' r1
     ·exact hborn q e' he'⟩,?_,?_,h4⟩)
   ·exact ⟨g,_,hexec _ hrun,hset.1,hset.2⟩
   ·have:(es.modify j fun e=>{ e with key:=a.eval y,val:=a.eval z }).toList.map (·.key)=es.toList.map (·.key) :=
      Go.MapKept.modify_keys j _ (fun e' he'=>by rw [hea] at he';cases he';exact e1.symm)
    rw [this]
    exact ycb hx _ _ h2
   ·have:(es.modify j fun e=>{ e with key:=a.eval y,val:=a.eval z }).toList.map (·.val)=(es.toList.map (·.val)).set j (a.eval z):=by
      apply ybn
      intro q
      rw [ya7,yaw]
      simp only [ybw,yb1,yav,ych]
      by_cases hjq:j=q
      ·subst hjq
       simp [(Array.getElem?_eq_some_iff.1 hea).1]
      ·simp [hjq]
    rw [this]
    exact (ycb hx _ _ h3).set j (ycx hx _ _ hvz)
 | new hj =>
   have hf:=zhe hT hkn hvy (es:=es.toList) h2 hs hj
   simp only [Option.bind_none] at hf
   have hrun:=put_core (cv:=a.eval z) hu h1 hck hf (fun j' v' hjv=>by cases hjv)
   rw [← hc] at hrun
   have hset:=hH.setObj (x':=.map (es.push { key:=a.eval y,val:=a.eval z,born:=clk }) (clk+1)) ha rfl rfl h1 (fun _ _ _ e=>by cases e) h4 hput (fun hx=>⟨_,clk+1,World.putObj_heap_same (zbc h1),⟨by simp [hclk],fun q e' he'=>by
     rw [Array.getElem?_push] at he'
     split at he'
     ·rename_i hq;cases he';rw [hq];exact hclk
     ·exact hborn q e' he'⟩,by simpa using (ycb hx _ _ h2).append (ycb hx _ _ (show LRel g w [k] [a.eval y] from by simp only [LRel];exact ⟨_,_,rfl,hvy,rfl⟩)),by simpa using (ycb hx _ _ h3).append (ycb hx _ _ (show LRel g w [v] [a.eval z] from by simp only [LRel];exact ⟨_,_,rfl,hvz,rfl⟩)),h4⟩)
   exact ⟨g,_,hexec _ hrun,hset.1,hset.2⟩
end
end
section
section
variable {g:G} {w:World} {hp:Hp} {P:Program} {N:FN} {env:Env} {o:Oper} {T:TypeId→Option TI}
theorem mapAt_rel' [Glob] (hH:HRel g w hp) {m:AV} {ks vs:List AV} {c:Value} (hm:MapAt hp m ks vs) (hv:VRel g w m c) :
  ∃ (b:Nat) (es:Array MapEntry),c=.map (some b)∧w.heap[b]? = some (.map es es.size)∧(∀ (j:Nat) e,es[j]? = some e→e.born=j)∧LRel g w ks (es.toList.map (·.key))∧LRel g w vs (es.toList.map (·.val)):=by
 rcases hm with ⟨i,rfl,ha⟩|rfl
 ·simp only [VRel] at hv
  obtain ⟨-,rfl⟩:=hv
  obtain ⟨es,clk,h1,⟨hc,hb⟩,h2,h3,-⟩:=hH.rel _ _ ha
  subst hc
  exact ⟨_,es,rfl,h1,hb,h2,h3⟩
 ·simp only [VRel] at hv
  obtain ⟨b,es,clk,rfl,h1,⟨hc,hb⟩,-,h2,h3⟩:=hv
  subst hc
  exact ⟨b,es,rfl,h1,hb,h2,h3⟩
theorem st_range [Glob] (hT:TOk P T) {base loc:Heap} {q:Nat} {t kt et:TypeId} {x:Operand} {ti:TI} {m:AV} {ks vs:List AV} (ho:o.op=.range t x) (ht:T t=some ti) (hk:ti.kind=.mp kt et)
  (hx:ev env x=m) (hm:MapAt ⟨base,q,loc⟩ m ks vs):Step P N ⟨base,q,loc⟩ env o (.ptr (base.length+q) 0) ⟨base,q+1,loc++[.it m ks.length []]⟩:=by
 intro g w a hH hE
 have hvx:=zar hE x
 rw [hx] at hvx
 obtain ⟨b,es,hc,hb,-,h1,-⟩:=mapAt_rel' hH hm hvx
 have hlen:ks.length=es.size:=by have:=h1.length;simpa using this.symm
 rw [hc] at hvx
 obtain ⟨g',e1,e2,e3,e4⟩:=hH.newObj (B:=.it m ks.length []) (x:=.mapIter (some b) ks.length #[] ks.length) (fun _ _=>rfl)
  fun g' _ hb' ho' hx'=>⟨⟨b,#[],by rw [hb'];exact heap_alloc_new w _,rfl,ycx hx' _ _ hvx⟩,fun o=>by rw [hb'];exact ho' o⟩
 refine ⟨.pointer (some ⟨w.heap.size,0,none⟩),g',_,?_,e3,?_,e4⟩
 ·have hr:=run_range_map (P:=P) w t kt et b es es.size (map_kind hT ht hk) hb
  rw [← hlen,← hc] at hr
  unfold execOp
  simp only [ho]
  simp [hr,Result.andThen]
 ·simp only [VRel]
  have hn':=hH.n
  simp only at hn'
  exact ⟨by rw [← hn'];exact e1,by rw [← hn',e2]⟩
def NextS (src:AV) (n:Nat) (seen:List Nat) (ks vs:List AV) (B:Blk) (v:AV):Prop :=
 (B=.it src n seen∧v=.tup [.bool false]∧∀ e,e<n→e∈seen) ∨
 ∃ e k x,e<n∧e ∉ seen∧ks[e]? = some k∧vs[e]? = some x∧B=.it src n (seen++[e])∧v=.tup [.bool true,k,x]
theorem rel_at {l:List AV} {cs:List Value} (h:LRel g w l cs) {i:Nat} {c:Value} (hc:cs[i]? = some c):∃ v,l[i]? = some v∧VRel g w v c:=by
 have hi:i<l.length:=by rw [← h.length];exact (yac.1 hc).1
 obtain ⟨c',h1,h2⟩:=h.get (yal hi)
 rw [hc] at h1
 cases h1
 exact ⟨_,yal hi,h2⟩
theorem st_next [Glob] {base loc:Heap} {q j:Nat} {x:Operand} {src:AV} {n:Nat} {seen:List Nat} {ks vs:List AV} (ho:o.op=.next x false) (hx:ev env x=.ptr (base.length+j) 0)
  (hj:lget loc j=some (.it src n seen)) (hn:ks.length=n) (hm:MapAt ⟨base,q,loc⟩ src ks vs) (hH:HRel g w ⟨base,q,loc⟩) {a:Act} (hE:ERel N g w env a) :
  ∃ B v c g' w',NextS src n seen ks vs B v∧(execOp a.eval o).run P w=.ok (.value c) w'∧(∀ loc',lset loc j B=some loc'→HRel g' w' ⟨base,q,loc'⟩)∧VRel g' w' v c∧Ext g w g' w':=by
 have hvx:=zar hE x
 rw [hx] at hvx
 simp only [VRel] at hvx
 obtain ⟨hok,hc⟩:=hvx
 have hat:At ⟨base,q,loc⟩ (base.length+j) (.it src n seen):=zci hj
 obtain ⟨⟨b,s,h1,h2,h3⟩,h4⟩:=hH.rel _ _ hat
 obtain ⟨b',es,hcb,hb,hborn,r1,r2⟩:=mapAt_rel' hH hm h3
 cases hcb
 have hlen:n=es.size:=by rw [← hn];have:=r1.length;simpa using this.symm
 have hold:∀ y∈es.toList,y.born<n:=fun y hy=>by
  obtain ⟨i,hi,rfl⟩:=ydd hy
  have hi':i<es.size:=by simpa using hi
  have:=hborn i es[i] (ybu hi')
  rw [Array.getElem_toList,this,hlen]
  exact hi'
 have hexec:∀ c w',(Instr.next (a.eval x) false o.type).run P w=.ok c w'→(execOp a.eval o).run P w=.ok (.value c) w':=fun c w' hr=>by
  unfold execOp
  simp only [ho]
  simp [hr,Result.andThen]
 rcases run_next_at (P:=P) w o.type (g.blk (base.length+j)) b n n s es es.size h1 hb hold (yax _) with ⟨h0,hr⟩|⟨e,he,w1,hw1,hr⟩
 ·refine ⟨.it src n seen,.tup [.bool false],_,g,w,.inl ⟨rfl,rfl,fun e hen=>?_⟩,hexec _ _ (by rw [hc];exact hr),fun loc' hs=>?_,?_,ycl g w⟩
  ·subst h2
   have he':e<es.size:=by rw [← hlen];exact hen
   have hL:leftOf es s=#[]:=Array.eq_empty_of_size_eq_zero h0
   unfold leftOf at hL
   rw [Array.filter_eq_empty_iff] at hL
   have:=hL es[e] (Array.getElem_mem he')
   rw [hborn e es[e] (ybu he')] at this
   simpa using this
  ·have:loc'=loc:=by
     obtain ⟨q1,q2⟩:=zd6 _ _ _ _ hs
     rw [za9] at hj
     rw [q1]
     exact ybn fun i=>by
      rw [yaw]
      split
      ·rename_i hij;subst hij;rw [hj]
      ·rfl
   rw [this];exact hH
  ·simp only [VRel]
   exact ⟨_,rfl,by simp only [LRel];exact ⟨_,_,rfl,by simp [VRel],rfl⟩⟩
 ·have hmem:e∈es.toList∧e.born ∉ seen:=by
    subst h2
    unfold leftOf at he
    simp at he
    exact ⟨by simpa using he.1,by simpa using he.2⟩
  obtain ⟨i,hi,hie⟩:=ydd hmem.1
  have hi':i<es.size:=by simpa using hi
  have hie':es[i]? = some e:=by rw [ybu hi',← hie,Array.getElem_toList]
  have hbi:=hborn i e hie'
  have hke:(es.toList.map (·.key))[i]? = some e.key:=by rw [ya7];simp [hie']
  have hve:(es.toList.map (·.val))[i]? = some e.val:=by rw [ya7];simp [hie']
  obtain ⟨k,k1,k2⟩:=rel_at r1 hke
  obtain ⟨y,y1,y2⟩:=rel_at r2 hve
  have hx1:Ext g w g w1:=by
   rcases hw1 with rfl|rfl
   ·exact ycl g _
   ·exact ⟨yax _,fun _ _ h=>h,fun _ h=>h,fun _ _=>rfl,fun _ _=>.inl rfl,fun _ _ _ h=>h,rfl,rfl,rfl,(by first|exact yax _|exact yca _|(simp;done)),yax _,fun _ _ _=>rfl,fun _ ds _ _ hb=>⟨ds,hb,rfl,fun _ _=>rfl⟩⟩
  have hheap:w1.heap=w.heap:=by rcases hw1 with rfl|rfl <;> rfl
  have hH1:HRel g w1 ⟨base,q,loc⟩:=hH.keepAll hx1 fun _ _=>by rw [hheap]
  have hjl:j<loc.length:=by rw [za9] at hj;exact (yac.1 hj).1
  have hset:=hH1.setObj (B':=.it src n (seen++[i])) (x':=.mapIter (some b) n (s.push e.born) es.size) hat rfl rfl (by rw [hheap];exact h1) (fun _ _ _ q=>by cases q) h4 (zc8 (zdx hjl))
   (fun hx2=>⟨⟨b,s.push e.born,by rw [World.putObj_heap_same (by rw [hheap];exact zbc h1),hlen],by simp [h2,hbi],ycx (hx1.trans hx2) _ _ h3⟩,h4⟩)
  refine ⟨.it src n (seen++[i]),.tup [.bool true,k,y],_,g,_,.inr ⟨i,k,y,by rw [hlen];exact hi',by rw [← hbi];exact hmem.2,k1,y1,rfl,rfl⟩,hexec _ _ (by rw [hc];exact hr),fun loc' hs=>?_,?_,hx1.trans hset.2⟩
  ·rw [zdx hjl] at hs
   cases hs
   exact hset.1
  ·have hxx:=hx1.trans hset.2
   simp only [VRel]
   exact ⟨_,rfl,by simp only [LRel];exact ⟨_,_,rfl,by simp [VRel],_,_,rfl,ycx hxx _ _ k2,_,_,rfl,ycx hxx _ _ y2,rfl⟩⟩
theorem st_entry [Glob] {i:Nat} {x:Operand} {src:AV} {n e:Nat} {seen:List Nat} {ks vs:List AV} {k y:AV} (ho:o.op=.entry x) (hx:ev env x=.ptr i 0)
  (ha:At hp i (.it src n (seen++[e]))) (hn:ks.length=n) (hm:MapAt hp src ks vs) (hk:ks[e]? = some k) (hy:vs[e]? = some y):Step P N hp env o (.tup [k,y]) hp:=by
 intro g w a hH hE
 have hvx:=zar hE x
 rw [hx] at hvx
 simp only [VRel] at hvx
 obtain ⟨hok,hc⟩:=hvx
 obtain ⟨⟨b,s,h1,h2,h3⟩,h4⟩:=hH.rel _ _ ha
 obtain ⟨b',es,hcb,hb,hborn,r1,r2⟩:=mapAt_rel' hH hm h3
 cases hcb
 have hlen:n=es.size:=by rw [← hn];have:=r1.length;simpa using this.symm
 obtain ⟨ck,c1,c2⟩:=r1.get hk
 obtain ⟨cy,d1,d2⟩:=r2.get hy
 rw [ya7] at c1 d1
 cases he:es.toList[e]? with
 | none=>rw [he] at c1;cases c1
 | some en =>
 rw [he] at c1 d1
 cases c1
 cases d1
 have hbe:=hborn e en (by simpa using he)
 have hs:s=(seen.toArray).push en.born:=by
  apply Array.toList_inj.1
  rw [h2]
  simp [hbe]
 have hnd:(es.toList.map (·.born)).Nodup:=by
  have:es.toList.map (·.born)=List.range es.size:=by
   apply ybn
   intro q
   rw [ya7]
   rcases yag q es.size with hq|hq
   ·rw [yc8 hq]
    simp [hq,hborn q es[q] (ybu hq)]
   ·rw [ycg (by simpa using hq),ycg (by simpa using hq)]
    rfl
  rw [this]
  exact List.nodup_range
 have hr:=run_entry_at (P:=P) w (g.blk i) b n seen.toArray es es.size en (by rw [h1,hs,hlen]) hb (ycj he) hnd
 refine ⟨.tuple #[en.key,en.val],g,w,?_,hH,?_,ycl g w⟩
 ·rw [← hc] at hr
  unfold execOp
  simp only [ho]
  simp [hr,Result.andThen]
 ·simp only [VRel]
  exact ⟨_,rfl,by simp only [LRel];exact ⟨_,_,rfl,c2,_,_,rfl,d2,rfl⟩⟩
end
end
section
theorem zgz (w:World) (b:Nat) (c d:Array Value):(w.setRow b c).setRow b d=w.setRow b d:=by
 unfold World.setRow
 congr 1
 apply Array.ext
 ·simp
 ·intro i h1 h2
  simp only [Array.getElem_modify]
  by_cases hb:b=i
  ·subst hb
   simp only [if_true]
   generalize w.heap[b]'(by simpa using h2)=x
   cases x <;> rfl
  ·simp [hb]
theorem setRow_comm (w:World) {b b':Nat} (h:b≠b') (c d:Array Value):(w.setRow b c).setRow b' d=(w.setRow b' d).setRow b c:=by
 unfold World.setRow
 congr 1
 apply Array.ext
 ·simp
 ·intro i h1 h2
  simp only [Array.getElem_modify]
  by_cases hb:b=i
  ·subst hb
   simp [ycq h]
  ·simp [hb]
theorem zfj (w:World) (e:TypeId) (c d:Array Value):(w.alloc (.cells c e)).setRow w.heap.size d=w.alloc (.cells d e):=by
 unfold World.setRow World.alloc
 congr 1
 apply Array.ext
 ·simp
 ·intro i h1 h2
  simp only [Array.getElem_modify,Array.getElem_push]
  by_cases hb:w.heap.size=i
  ·subst hb
   simp
  ·have:i<w.heap.size:=by simp at h2;omega
   simp [hb,this]
def hole (cur:Array Value) (o:Nat) (cv:List Value):Array Value:=(cur.toList.take o++cv++cur.toList.drop (o+cv.length)).toArray
theorem zcs {cur:Array Value} {o:Nat} {cv:List Value} (h:o+cv.length≤cur.size):(hole cur o cv).size=cur.size:=by
 unfold hole
 simp
 omega
theorem hole_take {cur:Array Value} {o:Nat} {cv:List Value} (h:o+cv.length≤cur.size):(hole cur o cv).toList.take (o+cv.length)=cur.toList.take o++cv:=by
 unfold hole
 have:(cur.toList.take o++cv).length=o+cv.length:=by simp;omega
 rw [← this]
 simp only [yc6]
theorem hole_pre {cur:Array Value} {o:Nat} {cv:List Value} (h:o+cv.length≤cur.size) {j:Nat} (hj:j<o):(hole cur o cv)[j]? = cur[j]? := by
 unfold hole
 simp only [ybe,ydn]
 rw [yaj (by simp;omega),ybp,if_pos hj]
 simp
section
variable {P:Program} {N:FN} {env:Env} {hp hp':Hp} {o:Oper} {T:TypeId→Option TI}
set_option maxHeartbeats 1000000 in
theorem append_hole [Glob] (hT:TOk P T) {g:G} {w:World} {t ty e:TypeId} {ti ei:TI} {z:List AV} {k n sz cap2:Nat} {A2:Option Addr} {l l2 vs:List AV} {cv:List Value} {c:Value}
  (hH:HRel g w hp) (ht:T t=some ti) (hk:ti.kind=.sl e) (he:T e=some ei) (hez:ei.zero=some z) (hesz:ei.sz=sz+1) (hzl:z.length=ei.sz)
  (hat:At hp k (.tok e (sz+1) l.length)) (hc:VRel g w (.sl (some k) n l) c) (hm2:l2=[]∨∃ b o,A2=some ⟨b,o,none⟩∧MRel g w l2 b o) (h1:zcd l2=true) (hl2:l2.length=sz+1)
  (hv:LRel g w vs cv) (hvl:vs.length=sz+1)
  (hbytes:(n+1) * ei.bytes≤140737488355328) (hmax:n+1≤maxLen) (hput:Put hp k (.tok e (sz+1) (l.length+(sz+1))) hp') :
  ∃ (b cap:Nat) (cur0:Array Value) (W:Array Value→World),(Builtin.append_ #[t,t] ty #[c,.slice A2 1 cap2]).run P w=.ok (.slice (some ⟨b,0,none⟩) (n+1) cap) (W cur0)∧l.length=n * (sz+1)∧l.length+cv.length≤cur0.size ∧
   (∀ cur,(W cur).heap[b]? = some (.cells cur e (0,0)))∧(∀ cur cur',(W cur).setRow b cur'=W cur')∧(∀ cur b',b'<w.heap.size→b'≠b→(W cur).heap[b']? = w.heap[b']?)∧(∀ j B,hp.all[j]? = some B→j≠k→locs g j B≠some b) ∧
   ∃ g',HRel g' (W (hole cur0 l.length cv)) hp'∧VRel g' (W (hole cur0 l.length cv)) (.sl (some k) (n+1) (l++vs)) (.slice (some ⟨b,0,none⟩) (n+1) cap)∧Ext g w g' (W (hole cur0 l.length cv)):=by
 obtain ⟨d,i0,e1,-,e3,-⟩:=zaj (hT _ _ ht)
 rw [hk] at e3
 have hd:d=.slice e:=by cases d <;> simp [tkOf] at e3;rw [e3]
 subst hd
 obtain ⟨d2,i,-,f2,-,f4,f5,f6⟩:=zaj (hT _ _ he)
 rw [hez] at f6
 cases hiz:i.zero with
 | none=>rw [hiz] at f6;cases f6
 | some zv =>
 rw [hiz] at f6
 simp only [ybb,yad] at f6
 have hzs:zv.cells.size=sz+1:=by
  have:(zv.cells.toList.map av1).length=sz+1:=by rw [← f6,hzl,hesz]
  simpa using this
 have hisz:i.size=sz+1:=by rw [← f4,hesz]
 have hcvl:cv.length=sz+1:=by rw [hv.length,hvl]
 simp only [VRel] at hc
 obtain ⟨A,cap,rfl,hncap,hm,htok⟩:=hc
 obtain ⟨hkn,hlle,hcur⟩:=htok k rfl
 obtain ⟨b1,b2,b3⟩:=hH.rel k _ hat
 obtain ⟨hA,hcap,hnl⟩:=hcur b1
 rw [b2] at hnl
 have hl2ne:l2≠[]:=by
  intro h0
  rw [h0] at hl2
  simp at hl2
 obtain ⟨s2,o2,rfl,hm2'⟩:=hm2.resolve_left hl2ne
 obtain ⟨news,hnews,hnc⟩:=hm2'.list
 have hnewsl:=hnews.length
 have hnl':l.length+cv.length=(n+1) * (sz+1):=by rw [hnl,hcvl,yb4,Nat.one_mul]
 have hnewsz:news.length=1 * i.size:=by rw [hnewsl,hl2,hisz,Nat.one_mul]
 have hnc':∀ (j:Nat) u,news[j]? = some u→w.cell? ((⟨s2,o2,none⟩:Addr).add j)=some u:=fun j u hu=>by rw [Addr.add_lit];exact hnc j u hu
 have h63:n+1≤9223372036854775807:=by simp only [maxLen] at hmax;omega
 have hgc:∀ old,n+1≤grownCap w (n+1) old e∧grownCap w (n+1) old e≤maxLen:=fun old=>⟨grownCap_ge w _ _ e,grownCap_le_maxLen w _ _ e hmax⟩
 have hvl':(l++vs).length=l.length+cv.length:=by simp [hvl,hcvl]
 have hvl2:l.length+cv.length=l.length+(sz+1):=by rw [hcvl]
 -- the new array
 have hnew:∀ (cap':Nat) (cur0:Array Value),n+1≤cap'→cap'≤maxLen→cur0.size=cap' * (sz+1)→LRel g w l (cur0.toList.take l.length) →
   ∃ g',HRel g' (w.drew.alloc (.cells (hole cur0 l.length cv) e)) hp'∧VRel g' (w.drew.alloc (.cells (hole cur0 l.length cv) e)) (.sl (some k) (n+1) (l++vs)) (.slice (some ⟨w.heap.size,0,none⟩) (n+1) cap')∧Ext g w g' (w.drew.alloc (.cells (hole cur0 l.length cv) e)):=by
  intro cap' cur0 h2 h3 h4 h5
  have hfit:l.length+cv.length≤cur0.size:=by rw [hnl',h4];exact yb8 _ h2
  refine zga (n:=n+1) (cap':=cap') (cur':=hole cur0 l.length cv) (l':=l++vs) hH hat (len':=l.length+(sz+1)) (by omega) (by rw [hvl',hvl2]) (by rw [← hvl2];exact hnl') h2 h3 (by rw [zcs hfit,h4]) ?_ hput
  rw [← hvl2,hole_take hfit]
  exact h5.append hv
 have hinjN:∀ j B,hp.all[j]? = some B→j≠k→locs g j B≠some w.heap.size:=fun j B hj _ hb=>by
  have:=(hH.rel j B hj).loc_lt hb
  omega
 have hWh:∀ cur:Array Value,(w.drew.alloc (.cells cur e)).heap[w.heap.size]? = some (.cells cur e (0,0)):=fun cur=>heap_alloc_new w.drew _
 have hWs:∀ cur cur':Array Value,(w.drew.alloc (.cells cur e)).setRow w.heap.size cur'=w.drew.alloc (.cells cur' e):=fun cur cur'=>zfj w.drew e cur cur'
 have hWo:∀ (cur:Array Value) b',b'<w.heap.size→b'≠w.heap.size→(w.drew.alloc (.cells cur e)).heap[b']? = w.heap[b']? := fun cur b' hb _=>hao w.drew _ hb
 rcases b3 with ⟨hbase,hlen0,hcap0⟩|⟨b,cs,hbase,hheap,hsize,hcm,hlen,hspare⟩
 ·have hl0:l=[]:=ya3 hlen0
  subst hl0
  rw [hbase] at hA
  simp only [yc5] at hA
  subst hA
  have hn0:n=0:=by
   rcases yc1 n with h|h
   ·exact h
   ·have:=ycw h (show 0<sz+1 by omega)
    simp at hnl
    omega
  have hcap00:cap=0:=by omega
  subst hn0
  subst hcap00
  have hrun:=run_append_nil (P:=P) w t ty e i zv e1 f2 hiz ⟨s2,o2,none⟩ 1 cap2 news hnewsz hnc' (by omega) (by omega) (by
   have hb:=hbytes
   rw [f5] at hb
   simp only [ybr] at hb
   omega)
  have h0:=hgc 0
  simp only [ybr] at h0
  have hsz0:(news.toArray++Builtin.zeroCells zv.cells (grownCap w 1 0 e-1)).size=grownCap w 1 0 e * (sz+1):=by
   simp only [ydl,ybm,size_zeroCells,hzs,hnewsz,hisz,← yb4]
   congr 1
   omega
  have hq:=hnew (grownCap w 1 0 e) (news.toArray++Builtin.zeroCells zv.cells (grownCap w 1 0 e-1)) (by simpa using h0.1) h0.2 hsz0 (by simp [LRel])
  refine ⟨w.heap.size,grownCap w 1 0 e,news.toArray++Builtin.zeroCells zv.cells (grownCap w 1 0 e-1),fun cur=>w.drew.alloc (.cells cur e),by simpa using hrun,hnl,?_,hWh,hWs,hWo,hinjN,hq⟩
  rw [hnl',hsz0]
  exact yb8 _ (by simpa using h0.1)
 ·rw [hbase] at hA
  simp only [ybb] at hA
  subst hA
  have hml:MRel g w l b 0:=by
   rcases hm with rfl|⟨b',o',hbo,hm⟩
   ·simp [MRel]
   ·cases hbo;exact hm
  obtain ⟨xs,hxs,hxc⟩:=hml.list
  have hxl:=hxs.length
  by_cases hroom:n+1≤cap
  ·have hfit:n * i.size+news.length≤cs.size:=by
     rw [hnewsz,hsize,← hcap,← yb4,hisz]
     exact yb8 _ hroom
   have hrun:=run_append_room (P:=P) w t ty e i e1 f2 b n cap cs hheap ⟨s2,o2,none⟩ 1 cap2 news hnewsz hnc' (hnews.one (zcq _ h1)) hroom hfit
   have hni:n * i.size=l.length:=by rw [hisz,hnl]
   rw [hni] at hrun hfit
   have hfit':l.length+cv.length≤cs.size:=by rw [hcvl,← hl2,← hnewsl];exact hfit
   have htk:cs.toList.take l.length=xs:=by
    apply ybn
    intro j
    rw [ybp]
    by_cases hj:j<l.length
    ·rw [if_pos hj]
     have hjx:j<xs.length:=by omega
     have:=hxc j xs[j] (yal hjx)
     obtain ⟨cs',t',fz',q3,q4⟩:=cell_iff.1 this
     rw [hheap] at q3
     cases q3
     simp only [ybr] at q4
     rw [yal hjx]
     simpa using q4
    ·rw [if_neg hj,ycg (by omega)]
   have hc0:(hole cs l.length news).size=cs.size:=zcs hfit
   have hfit2:l.length+cv.length≤(hole cs l.length news).size:=by rw [hc0];exact hfit'
   obtain ⟨g',h2,h3,h4⟩:=append_room (n:=n+1) (cap:=cap) (cur':=hole (hole cs l.length news) l.length cv) (l:=l) (l':=l++vs) hH hat (len':=l.length+(sz+1)) (by omega) rfl (by rw [hvl',hvl2]) (by rw [← hvl2];exact hnl') hroom hbase hcap.symm hheap
    (by rw [zcs hfit2,hc0]) (fun o ho=>by rw [hole_pre hfit2 ho,hole_pre hfit ho]) (by
      rw [← hvl2,hole_take hfit2]
      have:(hole cs l.length news).toList.take l.length=xs:=by
       have:=hole_take hfit
       have h5:=congrArg (List.take l.length) this
       rw [ydq,ycd (by omega),yc6 (by simp;omega),htk] at h5
       exact h5
      rw [this]
      exact hxs.append hv) hput
   refine ⟨b,cap,hole cs l.length news,fun cur=>w.setRow b cur,hrun,hnl,hfit2,fun cur=>setRow_heap w b cs _ e _ hheap,fun cur cur'=>zgz w b cur cur',fun cur b' _ hb=>setRow_other w b b' _ hb,fun j B hj hjk hb=>hjk ?_,g',h2,h3,h4⟩
   exact hH.inj j k _ _ _ hj hat hb (by simp only [locs];exact hbase)
  ·have hrun:=run_append_grow (P:=P) w t ty e i zv e1 f2 hiz ⟨b,0,none⟩ n cap xs (by rw [hxl,hnl,hisz]) (fun j u hu=>by rw [Addr.add_lit];exact hxc j u hu) ⟨s2,o2,none⟩ 1 cap2 news hnewsz hnc' (by omega) (by omega) (growslice_fits (by omega) (by rw [← f5];exact hbytes))
   have hsz0:(xs.toArray++news.toArray++Builtin.zeroCells zv.cells (grownCap w (n+1) cap e-(n+1))).size=grownCap w (n+1) cap e * (sz+1):=by
    simp only [ydl,ybm,size_zeroCells,hzs,hxl,hnewsz,hisz,hnl,← yb4]
    congr 1
    have:=(hgc cap).1
    omega
   have hq:=hnew (grownCap w (n+1) cap e) (xs.toArray++news.toArray++Builtin.zeroCells zv.cells (grownCap w (n+1) cap e-(n+1))) (hgc cap).1 (hgc cap).2 hsz0 (by
    simp only [yc9,ybe]
    rw [← hxl,yc6 (by simp)]
    exact hxs)
   refine ⟨w.heap.size,grownCap w (n+1) cap e,xs.toArray++news.toArray++Builtin.zeroCells zv.cells (grownCap w (n+1) cap e-(n+1)),fun cur=>w.drew.alloc (.cells cur e),hrun,hnl,?_,hWh,hWs,hWo,hinjN,hq⟩
   rw [hnl',hsz0]
   exact yb8 _ (hgc cap).1
end
end
section
theorem zhh {a:Act} {d:Nat} {c:Value} (h:d<a.tmps.size):(a.put (some d) c).eval (.tmp d)=c:=by
 simp [Act.put,Act.eval,h]
theorem zdn {a:Act} {d:Nat} {c:Value} {x:Operand} (h:x≠.tmp d):(a.put (some d) c).eval x=a.eval x:=by
 cases x with
 | tmp t =>
   have:d≠t:=fun e=>h (by rw [e])
   simp [Act.put,Act.eval,yb2 this]
 | const v=>rfl
 | global g=>rfl
 | func f=>rfl
section
variable {P:Program} {N:FN} {fo:Option Nat} {Q:Exit→Act→World→Prop}
structure Lst (all:List Oper) (listed:Array Bool) (s:Nat→Bool):Prop where
 sz:listed.size=all.length
 is:∀ j,j<all.length→listed.getD j false=s j
theorem Lst.set {all:List Oper} {listed:Array Bool} {s s':Nat→Bool} {i:Nat} (h:Lst all listed s) (hi:i<all.length) (h1:s' i=true) (hs:∀ j,j<all.length→j≠i→s' j=s j):Lst all (listed.setIfInBounds i true) s':=by
 refine ⟨by simpa using h.sz,fun j hj=>?_⟩
 by_cases hij:j=i
 ·subst hij
  have hls:j<listed.size:=by rw [h.sz];exact hj
  rw [h1]
  simp [hls]
 ·rw [hs j hj hij,← h.is j hj]
  simp [yb2 (ycq hij)]
theorem any_done {all:List Oper} {listed:Array Bool} {s:Nat→Bool} {fuel:Nat} {a:Act} {w:World} (h:Lst all listed s) (hs:∀ j,j<all.length→s j=true) (hQ:Q .normal a w):wpAnyIn (FR fo) 0 P .any all.toArray Q fuel listed a w:=by
 have hr:=ready_done h.sz fun i hi=>by rw [h.is i hi];exact hs i hi
 cases fuel with
 | zero=>exact ⟨hr,hQ⟩
 | succ fuel=>exact ⟨fun _=>hQ,fun i hi=>by rw [hr] at hi;cases hi⟩
theorem ze9 {all:List Oper} {listed:Array Bool} {s:Nat→Bool} {fuel:Nat} {a:Act} {w:World} (h:Lst all listed s) (back:∀ j oj,all[j]? = some oj→∀ e∈oj.after.toList,Region.binds .any e=true→e.on<j)
  {j0:Nat} (hj0:j0<all.length) (hs0:s j0=false)
  (hstep:∀ i o,all[i]? = some o→s i=false→(∀ e∈o.after.toList,Region.binds .any e=true→s e.on=true)→wpOpIn (FR fo) 0 P all.toArray Q i (wpAnyIn (FR fo) 0 P .any all.toArray Q fuel (listed.setIfInBounds i true)) a w) :
  wpAnyIn (FR fo) 0 P .any all.toArray Q (fuel+1) listed a w:=by
 refine ⟨fun hr=>?_,fun i hi=>?_⟩
 ·exfalso
  have key:∀ i,i<all.length→s i=true:=by
   intro i
   induction i using Nat.strongRecOn with
   | _ i ih =>
     intro hi
     cases hl:s i with
     | true=>rfl
     | false =>
       exfalso
       have hmem:i∈Region.ready .any all.toArray listed:=by
        rw [mem_ready']
        have hl':=h.is i hi
        rw [hl] at hl'
        refine ⟨by simpa using hi,?_,all[i],by simp [hi],fun e he hb=>?_⟩
        ·have hls:i<listed.size:=by rw [h.sz];exact hi
         simpa [hls] using hl'
        ·have hlt:=back i all[i] (yal hi) e he hb
         rw [← ih e.on hlt (by omega),h.is e.on (by omega)]
       rw [hr] at hmem
       cases hmem
  rw [key j0 hj0] at hs0
  cases hs0
 ·rw [mem_ready'] at hi
  obtain ⟨hi1,hi2,o,hi3,hi4⟩:=hi
  have hil:i<all.length:=by simpa using hi1
  have ho:all[i]? = some o:=by simpa using hi3
  refine hstep i o ho ?_ fun e he hb=>?_
  ·rw [← h.is i hil]
   have hls:i<listed.size:=by rw [h.sz];exact hil
   simpa [hls] using hi2
  ·have hlt:=back i o ho e he hb
   rw [← h.is e.on (by omega)]
   exact hi4 e he hb
theorem zgd {all:List Oper} {i:Nat} {o:Oper} {a:Act} {w:World} {K:Act→World→Prop} (ho:all[i]? = some o) (hg:o.guard=none) (h:o.wpIn (FR fo) 0 P a w K Q):wpOpIn (FR fo) 0 P all.toArray Q i K a w:=by
 unfold wpOpIn
 have:all.toArray[i]? = some o:=by simpa using ho
 rw [this]
 simp only
 have hw:Region.wanted o (yielded all.toArray a.tmps)=true:=by simp [Region.wanted,hg]
 rw [if_pos hw]
 exact h
structure TlOk (m:Nat) (o6 o7 o8:Oper) (all:List Oper):Prop where
 back:∀ j oj,all[j]? = some oj→∀ e∈oj.after.toList,Region.binds .any e=true→e.on<j
 e6:∃ e∈o6.after.toList,Region.binds .any e=true∧e.on=m
 e7:∃ e∈o7.after.toList,Region.binds .any e=true∧e.on=m+1
 e8:∃ e∈o8.after.toList,Region.binds .any e=true∧e.on=m
theorem tail_any {pre:List Oper} {o5 o6 o7 o8:Oper} {listed:Array Bool} {fuel:Nat} {a a1 a2:Act} {w w1 w3 w8 w78:World} (hO:TlOk pre.length o6 o7 o8 (pre++[o5,o6,o7,o8]))
  (hsz:listed.size=(pre++[o5,o6,o7,o8]).length) (hp:∀ i,i<pre.length→listed.getD i false=true) (ht:∀ i,pre.length≤i→listed.getD i false=false) (hf:4≤fuel)
  (g5:o5.guard=none) (g6:o6.guard=none) (g7:o7.guard=none) (g8:o8.guard=none)
  (h5:∀ K:Act→World→Prop,K a1 w1→o5.wpIn (FR fo) 0 P a w K Q)
  (h6:∀ (v:World) (K:Act→World→Prop),K a2 v→o6.wpIn (FR fo) 0 P a1 v K Q)
  (h7:∀ K:Act→World→Prop,K a2 w3→o7.wpIn (FR fo) 0 P a2 w1 K Q)
  (h7':∀ K:Act→World→Prop,K a2 w78→o7.wpIn (FR fo) 0 P a2 w8 K Q)
  (h8a:∀ K:Act→World→Prop,K a1 w8→o8.wpIn (FR fo) 0 P a1 w1 K Q)
  (h8b:∀ K:Act→World→Prop,K a2 w8→o8.wpIn (FR fo) 0 P a2 w1 K Q)
  (h8c:∀ K:Act→World→Prop,K a2 w78→o8.wpIn (FR fo) 0 P a2 w3 K Q)
  (hQ:Q .normal a2 w78):wpAnyIn (FR fo) 0 P .any (pre++[o5,o6,o7,o8]).toArray Q fuel listed a w:=by
 obtain ⟨back,⟨e6,e6m,e6b,e6o⟩,⟨e7,e7m,e7b,e7o⟩,⟨e8,e8m,e8b,e8o⟩⟩:=hO
 generalize hall:pre++[o5,o6,o7,o8]=all at *
 have hlen:all.length=pre.length+4:=by rw [← hall];simp
 generalize hm:pre.length=m at *
 have i5:all[m]? = some o5:=by rw [← hall,yam (by omega),hm];simp
 have i6:all[m+1]? = some o6:=by rw [← hall,yam (by omega),hm,ybk];simp
 have i7:all[m+2]? = some o7:=by rw [← hall,yam (by omega),hm,ybk];simp
 have i8:all[m+3]? = some o8:=by rw [← hall,yam (by omega),hm,ybk];simp
 obtain ⟨fuel,rfl⟩:∃ f,fuel=f+4:=⟨fuel-4,by omega⟩
 have hL:Lst all listed (fun j=>decide (j<m)):=⟨hsz,fun j hj=>by
  by_cases h:j<m
  ·simp only [h,decide_true];exact hp j h
  ·simp only [h,decide_false];exact ht j (by omega)⟩
 have cases4:∀ i o,all[i]? = some o→¬ i<m→(i=m∧o=o5)∨(i=m+1∧o=o6)∨(i=m+2∧o=o7)∨(i=m+3∧o=o8):=by
  intro i o hi him
  have hlt:=(yac.1 hi).1
  have:i=m∨i=m+1∨i=m+2∨i=m+3:=by omega
  rcases this with rfl|rfl|rfl|rfl
  ·rw [i5] at hi;cases hi;exact .inl ⟨rfl,rfl⟩
  ·rw [i6] at hi;cases hi;exact .inr (.inl ⟨rfl,rfl⟩)
  ·rw [i7] at hi;cases hi;exact .inr (.inr (.inl ⟨rfl,rfl⟩))
  ·rw [i8] at hi;cases hi;exact .inr (.inr (.inr ⟨rfl,rfl⟩))
 -- 8 has come,7 is left
 have done7:∀ f listed,Lst all listed (fun j=>decide (j<m+2∨j=m+3))→wpAnyIn (FR fo) 0 P .any all.toArray Q (f+1) listed a2 w8:=by
  intro f listed hL
  refine ze9 hL back (j0:=m+2) (by omega) (by simp) fun i o hi hs hb=>?_
  rcases cases4 i o hi (fun h=>by simp [show i<m+2 by omega] at hs) with ⟨rfl,rfl⟩|⟨rfl,rfl⟩|⟨rfl,rfl⟩|⟨rfl,rfl⟩
  ·simp at hs
  ·simp at hs
  ·exact zgd hi g7 (h7' _ (any_done (hL.set (s':=fun _=>true) (by omega) rfl fun j hj hne=>by
     have:j<m+2∨j=m+3:=by omega
     simp [this]) (fun _ _=>rfl) hQ))
  ·simp at hs
 refine ze9 hL back (j0:=m) (by omega) (by simp) fun i o hi hs hb=>?_
 rcases cases4 i o hi (fun h=>by simp [h] at hs) with ⟨rfl,rfl⟩|⟨rfl,rfl⟩|⟨rfl,rfl⟩|⟨rfl,rfl⟩
 rotate_left
 ·have:=hb e6 e6m e6b
  simp only [e6o,decide_eq_true_eq] at this;omega
 ·have:=hb e7 e7m e7b
  simp only [e7o,decide_eq_true_eq] at this;omega
 ·have:=hb e8 e8m e8b
  simp only [e8o,decide_eq_true_eq] at this;omega
 refine zgd hi g5 (h5 _ ?_)
 have hL1:=hL.set (i:=i) (s':=fun j=>decide (j<i+1)) (by omega) (by simp) fun j hj hne=>by
  by_cases h:j<i
  ·simp [h,show j<i+1 by omega]
  ·simp [h,show ¬ j<i+1 by omega]
 refine ze9 hL1 back (j0:=i+1) (by omega) (by simp) fun p o hp' hs hb=>?_
 rcases cases4 p o hp' (fun h=>by simp [show p<i+1 by omega] at hs) with ⟨rfl,rfl⟩|⟨rfl,rfl⟩|⟨rfl,rfl⟩|⟨rfl,rfl⟩
 ·simp at hs
 ·refine zgd hp' g6 (h6 _ _ ?_)
  have hL2:=hL1.set (i:=i+1) (s':=fun j=>decide (j<i+2)) (by omega) (by simp) fun j hj hne=>by
   by_cases h:j<i+1
   ·simp [h,show j<i+2 by omega]
   ·simp [h,show ¬ j<i+2 by omega]
  refine ze9 hL2 back (j0:=i+2) (by omega) (by simp) fun q o hq hs hb=>?_
  rcases cases4 q o hq (fun h=>by simp [show q<i+2 by omega] at hs) with ⟨rfl,rfl⟩|⟨rfl,rfl⟩|⟨rfl,rfl⟩|⟨rfl,rfl⟩
  ·simp at hs
  ·simp at hs
  ·refine zgd hq g7 (h7 _ ?_)
   have hL3:=hL2.set (i:=i+2) (s':=fun j=>decide (j<i+3)) (by omega) (by simp) fun j hj hne=>by
    by_cases h:j<i+2
    ·simp [h,show j<i+3 by omega]
    ·simp [h,show ¬ j<i+3 by omega]
   refine ze9 hL3 back (j0:=i+3) (by omega) (by simp) fun r o hr hs hb=>?_
   rcases cases4 r o hr (fun h=>by simp [show r<i+3 by omega] at hs) with ⟨rfl,rfl⟩|⟨rfl,rfl⟩|⟨rfl,rfl⟩|⟨rfl,rfl⟩
   ·simp at hs
   ·simp at hs
   ·simp at hs
   ·refine zgd hr g8 (h8c _ ?_)
    exact any_done (hL3.set (s':=fun _=>true) (by omega) rfl fun j hj hne=>by
     have:j<i+3:=by omega
     simp [this]) (fun _ _=>rfl) hQ
  ·refine zgd hq g8 (h8b _ ?_)
   exact done7 _ _ (hL2.set (by omega) (by simp) fun j hj hne=>by
    by_cases h:j<i+2
    ·simp [h]
    ·simp [h,hne])
 ·have:=hb e7 e7m e7b
  simp only [e7o,decide_eq_true_eq] at this;omega
 ·refine zgd hp' g8 (h8a _ ?_)
  have hL2:=hL1.set (i:=i+3) (s':=fun j=>decide (j<i+1∨j=i+3)) (by omega) (by simp) fun j hj hne=>by
   by_cases h:j<i+1
   ·simp [h]
   ·simp [h,hne]
  refine ze9 hL2 back (j0:=i+1) (by omega) (by simp) fun q o hq hs hb=>?_
  rcases cases4 q o hq (fun h=>by simp [show q<i+1 by omega] at hs) with ⟨rfl,rfl⟩|⟨rfl,rfl⟩|⟨rfl,rfl⟩|⟨rfl,rfl⟩
  ·simp at hs
  ·refine zgd hq g6 (h6 _ _ ?_)
   exact done7 _ _ (hL2.set (by omega) (by simp) fun j hj hne=>by
    by_cases h:j<i+1∨j=i+3
    ·simp [h,show j<i+2∨j=i+3 by omega]
    ·simp [h,show ¬ (j<i+2∨j=i+3) by omega])
  ·have:=hb e7 e7m e7b
   simp only [e7o,decide_eq_true_eq] at this;omega
  ·simp at hs
end
end
section
section
variable {P:Program} {N:FN} {env:Env} {hp hp' hp'':Hp} {T:TypeId→Option TI}
set_option maxHeartbeats 1000000 in
theorem ap_fin [Glob] (hT:TOk P T) {pre:List Oper} {o5 o6 o7 o8:Oper} {t et st e:TypeId} {x y i v p:Operand} {d5 d6:Nat} {ti ei eti sti:TI} {z:List AV} {k n sz j oj:Nat} {u:TypeId} {ki:IntKind} {l l2 vs bl bl':List AV}
  (ho5:o5.op=.call { callee:=.builtin .append,args:=#[x,y],argTypes:=#[t,t] }) (hd5:o5.dst=some d5) (ho6:o6.op=.indexAddr t (.tmp d5) i) (hd6:o6.dst=some d6) (ho7:o7.op=.store et (.tmp d6) v) (hd7:o7.dst=none) (ho8:o8.op=.store st p (.tmp d5)) (hd8:o8.dst=none)
  (g5:o5.guard=none) (g6:o6.guard=none) (g7:o7.guard=none) (g8:o8.guard=none) (hN5:Nat.blt d5 N.n=true) (hN6:Nat.blt d6 N.n=true) (h56:d5≠d6)
  (hi5:i≠.tmp d5) (hv5:v≠.tmp d5) (hv6:v≠.tmp d6) (hp5:p≠.tmp d5) (hp6:p≠.tmp d6)
  (hO:TlOk pre.length o6 o7 o8 (pre++[o5,o6,o7,o8]))
  (ht:T t=some ti) (hk:ti.kind=.sl e) (he:T e=some ei) (hez:ei.zero=some z) (hesz:ei.sz=sz+1) (hzl:z.length=ei.sz) (het:T et=some eti) (hets:eti.sz=sz+1) (hst:T st=some sti) (hsts:sti.sz=1)
  (hat:At hp k (.tok e (sz+1) l.length)) (hput:Put hp k (.tok e (sz+1) (l.length+(sz+1))) hp')
  (hx:ev env x=.sl (some k) n l) (hy:slOf (ev env y)=some (1,l2)) (h1:zcd l2=true) (hl2:l2.length=sz+1) (hi:ev env i=.int ki (n:Int))
  (hvc:(ev env v).cells=vs) (hv1:zcd vs=true) (hvl:vs.length=sz+1) (hpp:ev env p=.ptr j oj) (hjk:j≠k) (hatj:At hp j (.box u bl)) (hset:setC bl oj [.sl (some k) (n+1) (l++vs)]=some bl') (hput2:Put hp' j (.box u bl') hp'')
  (hbytes:(n+1) * ei.bytes≤140737488355328) (hmax:n+1≤maxLen)
  {g:G} {w:World} {a:Act} {fo:Option Nat} {Qc:Exit→Act→World→Prop} {fuel:Nat} {listed:Array Bool} (hH:HRel g w hp) (hE:ERel N g w env a)
  (hsz:listed.size=(pre++[o5,o6,o7,o8]).length) (hlp:∀ i,i<pre.length→listed.getD i false=true) (hlt:∀ i,pre.length≤i→listed.getD i false=false) (hf:4≤fuel)
  (hQ:∀ g' w' a',HRel g' w' hp''→ERel N g' w' ((d6,.junk)::(d5,.sl (some k) (n+1) (l++vs))::env) a'→Ext g w g' w'→a'.defers=a.defers→Qc .normal a' w') :
  wpAnyIn (FR fo) 0 P .any (pre++[o5,o6,o7,o8]).toArray Qc fuel listed a w:=by
 have hc:=zar hE x
 rw [hx] at hc
 obtain ⟨A2,cap2,hc2,-,hm2⟩:=zc6 (zar hE y) hy
 have hone:(ev env v).one=true∨∃ l,ev env v=.agg l:=by
  subst hvc
  generalize ev env v=q at *
  cases q <;> simp_all [AV.one,AV.cells,zcd]
 have hvr:=(zar hE v).cells hone
 rw [hvc] at hvr
 generalize hcv:(a.eval v).cells.toList=cv at hvr
 have hcvl:cv.length=sz+1:=by rw [hvr.length,hvl]
 have hir:=zar hE i
 rw [hi] at hir
 simp only [VRel] at hir
 have hpr:=zar hE p
 rw [hpp] at hpr
 simp only [VRel] at hpr
 obtain ⟨hokj,hpr⟩:=hpr
 obtain ⟨b,cap,cur0,W,hrun,hnl,hfit,hWh,hWs,hWo,hinj,g',hH',hV',hX'⟩:=append_hole (P:=P) (ty:=o5.type) hT hH ht hk he hez hesz hzl hat hc hm2 h1 hl2 hvr hvl hbytes hmax hput
 -- the slice's box
 obtain ⟨curj,hcurj,hlrj,hownj⟩:=hH.rel j _ hatj
 have hbj:g.blk j≠b:=fun eq=>hinj j _ hatj hjk (by simp only [locs];rw [eq])
 have hjw:g.blk j<w.heap.size:=zbc hcurj
 have hcurW:∀ cur,(W cur).heap[g.blk j]? = some (.cells curj u (0,0)):=fun cur=>by rw [hWo cur _ hjw hbj];exact hcurj
 have hblk:g'.blk j=g.blk j:=hX'.blk j hokj
 have hatj':At hp' j (.box u bl):=by
  unfold At at hatj ⊢
  rw [hput.all,yaw,if_neg (ycq hjk)]
  exact hatj
 have hlr1:LRel g' (W (hole cur0 l.length cv)) [.sl (some k) (n+1) (l++vs)] [.slice (some ⟨b,0,none⟩) (n+1) cap]:=by
  simp only [LRel]
  exact ⟨_,_,rfl,hV',rfl⟩
 have hone1:zcd [AV.sl (some k) (n+1) (l++vs)]=true:=rfl
 obtain ⟨wF,hr8,hHF,hXF⟩:=hH'.storeBox (P:=P) hatj' hset hlr1 hone1 hput2
 rw [hblk] at hr8
 obtain ⟨s1,s2⟩:=setC_eq _ _ _ _ hset
 have hjl:oj+1≤curj.size:=by
  have:=hlrj.length
  simp at s2 this
  omega
 let c':Value:=.slice (some ⟨b,0,none⟩) (n+1) cap
 have hc'1:∀ u∈[c'],u.oneCell'=true:=hlr1.one (zcq _ hone1)
 have run8:∀ v:World,v.heap[g.blk j]? = some (.cells curj u (0,0))→(storeCells ⟨g.blk j,oj,none⟩ [c']).run P v=.ok () (v.setRow (g.blk j) (hole curj oj [c'])):=by
  intro v hv
  have:=run_storeCells_at P (g.blk j) oj u [c'] 0 curj v hv (by simpa using hjl) hc'1
  simp only [yby] at this
  exact this
 have hwF:wF=(W (hole cur0 l.length cv)).setRow (g.blk j) (hole curj oj [c']):=by
  have:=(run8 _ (hcurW _)).symm.trans hr8
  injection this with _ this
  exact this.symm
 have run7:∀ v:World,v.heap[b]? = some (.cells cur0 e (0,0))→(storeCells ⟨b,l.length,none⟩ cv).run P v=.ok () (v.setRow b (hole cur0 l.length cv)):=by
  intro v hv
  have:=run_storeCells_at P b l.length e cv 0 cur0 v hv (by simpa using hfit) (hvr.one (zcq _ hv1))
  simp only [yby] at this
  exact this
 obtain ⟨d,i0,e1,e2,e3,-⟩:=zaj (hT _ _ ht)
 rw [hk] at e3
 have hd:d=.slice e:=by cases d <;> simp [tkOf] at e3;rw [e3]
 subst hd
 obtain ⟨dd2,ii2,f1,f2,f3,f4,-⟩:=zaj (hT _ _ he)
 obtain ⟨dd3,ii3,-,q2,-,q4,-⟩:=zaj (hT _ _ het)
 obtain ⟨dd4,ii4,-,r2,-,r4,-⟩:=zaj (hT _ _ hst)
 have hd5l:d5<a.tmps.size:=by rw [hE.1];simp [Nat.blt] at hN5;omega
 let a1:=a.put (some d5) c'
 have hd6l:d6<a1.tmps.size:=by
  have:a1.tmps.size=a.tmps.size:=by simp [a1,Act.put]
  rw [this,hE.1]
  simp [Nat.blt] at hN6
  omega
 let pt:Value:=.pointer (some ⟨b,l.length,none⟩)
 let a2:=a1.put (some d6) pt
 have ex5:a1.eval (.tmp d5)=c':=zhh hd5l
 have ex5':a2.eval (.tmp d5)=c':=by rw [zdn (by simp [h56])];exact ex5
 have ex6:a2.eval (.tmp d6)=pt:=zhh hd6l
 have exi:a1.eval i=.int ki n:=by rw [zdn hi5];exact hir
 have exv:a2.eval v=a.eval v:=by rw [zdn hv6,zdn hv5]
 have exp1:a1.eval p=.pointer (some ⟨g.blk j,oj,none⟩):=by rw [zdn hp5];exact hpr
 have exp2:a2.eval p=.pointer (some ⟨g.blk j,oj,none⟩):=by rw [zdn hp6];exact exp1
 have hvsz:(a.eval v).cells.size=ii3.size:=by
  rw [← q4,hets,← hcvl,← hcv]
  simp
 have x7:∀ (v' v'':World),(storeCells ⟨b,l.length,none⟩ cv).run P v'=.ok () v''→(execOp a2.eval o7).run P v'=.ok .skip v'':=by
  intro v' v'' h
  simp [execOp,ho7,ex6,exv,pt,Instr.storeAt,Instr.sureAddr,storeVar,za2 q2,hvsz,hcv,h]
 have x8:∀ (aa:Act) (v' v'':World),aa.eval p=.pointer (some ⟨g.blk j,oj,none⟩)→aa.eval (.tmp d5)=c'→(storeCells ⟨g.blk j,oj,none⟩ [c']).run P v'=.ok () v''→(execOp aa.eval o8).run P v'=.ok .skip v'':=by
  intro aa v' v'' hp5 h5 h
  have hsz1:c'.cells.size=ii4.size:=by rw [← r4,hsts];rfl
  have hcl:c'.cells.toList=[c']:=rfl
  simp [execOp,ho8,hp5,h5,Instr.storeAt,Instr.sureAddr,storeVar,za2 r2,hsz1,hcl,h]
 have hskip:∀ (o:Oper) (aa:Act) (v' v'':World),o.dst=none→(execOp aa.eval o).run P v'=.ok .skip v''→∀ K:Act→World→Prop,K aa v''→o.wpIn (FR fo) 0 P aa v' K Qc:=by
  intro o aa v' v'' hd h K hK
  refine zfr h ?_
  rw [hd]
  exact hK
 refine tail_any (a1:=a1) (a2:=a2) (w1:=W cur0) (w3:=W (hole cur0 l.length cv)) (w8:=(W cur0).setRow (g.blk j) (hole curj oj [c'])) (w78:=(W (hole cur0 l.length cv)).setRow (g.blk j) (hole curj oj [c'])) hO hsz hlp hlt hf g5 g6 g7 g8 ?_ ?_ ?_ ?_ ?_ ?_ ?_ ?_
 ·intro K hK
  refine zb4 (c:=c') (w':=W cur0) ?_ (by rw [hd5];exact hK)
  have h2:=hrun
  rw [← hc2] at h2
  simp only [hc2] at h2
  simp [execOp,ho5,resolve,invoke,builtin,hc2,h2,c']
 ·intro v' K hK
  refine zb4 (c:=pt) (w':=v') ?_ (by rw [hd6];exact hK)
  have h0:(0:Int)≤(n:Int):=by omega
  have hlt':(n:Int)<((n+1:Nat):Int):=by omega
  have hmul:n * ii2.size=l.length:=by rw [← f4,hesz,hnl]
  simp [execOp,ho6,ex5,exi,c',pt,Instr.indexAt,asIntOf,run_underlying e1,za2 f2,Addr.add_lit,hmul,h0]
 ·intro K hK
  have:=x7 (W cur0) _ (run7 _ (hWh cur0))
  rw [hWs] at this
  exact hskip o7 a2 _ _ hd7 this K hK
 ·intro K hK
  have:=x7 ((W cur0).setRow (g.blk j) (hole curj oj [c'])) _ (run7 _ (by rw [setRow_other _ _ _ _ (ycq hbj)];exact hWh cur0))
  rw [setRow_comm _ hbj,hWs] at this
  exact hskip o7 a2 _ _ hd7 this K hK
 ·intro K hK
  exact hskip o8 a1 _ _ hd8 (x8 a1 _ _ exp1 ex5 (run8 _ (hcurW _))) K hK
 ·intro K hK
  exact hskip o8 a2 _ _ hd8 (x8 a2 _ _ exp2 ex5' (run8 _ (hcurW _))) K hK
 ·intro K hK
  exact hskip o8 a2 _ _ hd8 (x8 a2 _ _ exp2 ex5' (run8 _ (hcurW _))) K hK
 ·rw [← hwF]
  refine hQ g' wF a2 hHF ?_ (hX'.trans hXF) rfl
  have hE1:ERel N g' wF ((d5,.sl (some k) (n+1) (l++vs))::env) a1:=(hE.ext (hX'.trans hXF)).put hN5 (ycx hXF _ _ hV')
  exact hE1.put hN6 (by simp [VRel])
end
end
section
section
variable {P:Program} {N:FN} {env:Env} {hp hp':Hp} {o:Oper} {T:TypeId→Option TI}
theorem HRel.nilVec [Glob] {g:G} {w:World} (h:HRel g w hp) (e:TypeId) (sz:Nat) :
  ∃ g',g'.ok g.n∧g'.tk g.n=⟨0,sz,0,none⟩∧HRel g' w ⟨hp.base,hp.k+1,hp.loc++[.vec e sz []]⟩∧Ext g w g' w:=by
 let g':G:={ n:=g.n+1,blk:=g.blk,tk:=fun i=>if i=g.n then ⟨0,sz,0,none⟩ else g.tk i,own:=g.own,pend:=g.pend }
 have htk':∀ i,i<g.n→g'.tk i=g.tk i:=fun i hi=>by
  show (if i=g.n then _ else _)=_
  rw [if_neg (by omega)]
 have htk:g'.tk g.n=⟨0,sz,0,none⟩:=by show (if g.n=g.n then _ else _)=_;rw [if_pos rfl]
 have hnp:¬ g.pend g.n:=fun hp'=>yc7 g.n (by have:=(yac.1 (h.pend _ hp')).1;rw [zbe h] at this;exact this)
 have hx:Ext g w g' w:=⟨yca _,fun _ _ h=>h,fun i hi=>⟨Nat.lt_succ_of_lt hi.1,hi.2⟩,fun _ _=>rfl,fun i hi=>.inl (htk' i hi.1),fun _ _ _ h=>h,rfl,rfl,rfl,(by first|exact yax _|exact yca _|(simp;done)),yax _,fun _ _ _=>rfl,fun _ ds _ _ hb=>⟨ds,hb,rfl,fun _ _=>rfl⟩⟩
 have hlen:=zbe h
 have hall:(⟨hp.base,hp.k+1,hp.loc++[.vec e sz []]⟩:Hp).all=hp.all++[.vec e sz []]:=by simp [Hp.all]
 have key:∀ (i:Nat) (B:Blk),(hp.all++[.vec e sz []])[i]? = some B→(i<g.n∧hp.all[i]? = some B)∨(i=g.n∧B=.vec e sz []):=by
  intro i B hi
  rcases yag i hp.all.length with hlt|hge
  ·rw [yaj hlt] at hi
   exact .inl ⟨by omega,hi⟩
  ·rw [yam hge] at hi
   have h0:i=hp.all.length:=by
    have:=(yac.1 hi).1
    simp at this;omega
   subst h0
   simp at hi
   exact .inr ⟨hlen,hi.symm⟩
 refine ⟨g',⟨Nat.lt_succ_self _,hnp⟩,htk,⟨?_,by simp [h.k],?_,h.lt,fun i hi=>?_,?_,fun pp hpp=>yc4 hx _ _ _ (h.glob pp hpp)⟩,hx⟩
 ·show g.n+1=_
  rw [h.n];simp [ydf]
 ·intro i B hi
  rw [hall] at hi
  rcases key i B hi with ⟨h1,h2⟩|⟨rfl,rfl⟩
  ·exact (h.rel i B h2).keep hx (at_ok h h2) (fun _ _=>rfl) (htk' i h1) (fun _ _ _ ho=>ho)
  ·exact ⟨by rw [htk];rfl,by rw [htk],.inl ⟨by rw [htk],rfl,by rw [htk]⟩⟩
 ·have:=h.pend i hi
  rw [hall,yaj (yac.1 this).1,this]
 ·intro i j B C b hi hj hb hc
  rw [hall] at hi hj
  have hn:∀ (i:Nat) (B:Blk),(hp.all++[.vec e sz []])[i]? = some B→locs g' i B=some b→hp.all[i]? = some B∧locs g i B=some b:=by
   intro i B hi hb
   rcases key i B hi with ⟨h1,h2⟩|⟨rfl,rfl⟩
   ·exact ⟨h2,by rw [← zde hx (at_ok h h2) (htk' i h1)];exact hb⟩
   ·simp [locs,htk] at hb
  obtain ⟨f1,f2⟩:=hn i B hi hb
  obtain ⟨f3,f4⟩:=hn j C hj hc
  exact h.inj i j B C b f1 f3 f2 f4
theorem HRel.vecBox [Glob] {i j:Nat} {bt e:TypeId} {sz:Nat} {l l':List AV} (ha:At hp i (.box bt l)) (hl:lget l j=some .nils) (hs:lset l j (.vs (hp.base.length+hp.k) 0)=some l')
  (hput:Put ⟨hp.base,hp.k+1,hp.loc++[.vec e sz []]⟩ i (.box bt l') hp') {g:G} {w:World} (hH:HRel g w hp):∃ g1,HRel g1 w hp'∧Ext g w g1 w:=by
 obtain ⟨g1,f1,f2,f3,f4⟩:=hH.nilVec e sz
 obtain ⟨e1,e2⟩:=zd6 _ _ _ _ hs
 rw [za9] at hl
 have hat':At ⟨hp.base,hp.k+1,hp.loc++[.vec e sz []]⟩ i (.box bt l):=by
  have hall:(⟨hp.base,hp.k+1,hp.loc++[.vec e sz []]⟩:Hp).all=hp.all++[.vec e sz []]:=by simp [Hp.all]
  unfold At
  rw [hall,yaj (yac.1 ha).1]
  exact ha
 have hH':HRel g1 w hp':=by
  refine ⟨by rw [hput.base,hput.k];exact f3.n,by rw [hput.loc,hput.k];exact f3.k,fun k B hk=>?_,f3.lt,fun j hj=>?_,fun k1 k2 B C b hk1 hk2 hb1 hb2=>?_,f3.glob⟩
  ·rcases zb0 hput hk with ⟨rfl,rfl⟩|⟨-,hk'⟩
   ·obtain ⟨cs,h1,h2,h3⟩:=f3.rel i _ hat'
    refine ⟨cs,h1,?_,h3⟩
    rw [e1]
    refine LRel.mk (by simp [h2.length]) fun q v c hv hc=>?_
    rw [yaw] at hv
    by_cases hjq:j=q
    ·subst hjq
     simp only [if_true] at hv
     split at hv
     ·cases hv
      obtain ⟨c',q1,q2⟩:=h2.get hl
      rw [q1] at hc
      cases hc
      simp only [VRel] at q2
      subst q2
      simp only [VRel]
      have e1:g1.tk (hp.base.length+hp.k)=⟨0,sz,0,none⟩:=by rw [← hH.n];exact f2
      refine ⟨by rw [← hH.n];exact f1,by simp,none,0,rfl,yax _,fun _=>?_⟩
      rw [e1]
      simp
     ·omega
    ·rw [if_neg hjq] at hv
     obtain ⟨c',q1,q2⟩:=h2.get hv
     rw [q1] at hc;cases hc;exact q2
   ·exact f3.rel k B hk'
  ·have hd:=f3.pend j hj
   rw [hput.all,yaw,if_neg (fun e=>by subst e;unfold At at hat';rw [hd] at hat';cases hat'),hd]
  ·have key:∀ (k:Nat) (B:Blk),hp'.all[k]? = some B→locs g1 k B=some b→∃ B',(⟨hp.base,hp.k+1,hp.loc++[.vec e sz []]⟩:Hp).all[k]? = some B'∧locs g1 k B'=some b:=by
     intro k B hk hb
     rcases zb0 hput hk with ⟨rfl,rfl⟩|⟨-,hk'⟩
     ·exact ⟨_,hat',hb⟩
     ·exact ⟨B,hk',hb⟩
   obtain ⟨B',q1,q2⟩:=key k1 B hk1 hb1
   obtain ⟨C',q3,q4⟩:=key k2 C hk2 hb2
   exact f3.inj k1 k2 B' C' b q1 q3 q2 q4
 exact ⟨g1,hH',f4⟩
theorem vec_new [Glob] {g:G} {w:World} {e k n len' sz cap' len:Nat} {l l':List AV} {cur':Array Value} (hH:HRel g w hp) (hat:At hp k (.vec e (sz+1) l)) (hll:l.length=len) (hlen:len<len') (hl':l'.length=len')
  (hn:len'=n * (sz+1)) (hncap:n≤cap') (hcap':cap'≤maxLen) (hsize:cur'.size=cap' * (sz+1)) (hrel:LRel g w l' (cur'.toList.take len')) (hput:Put hp k (.vec e (sz+1) l') hp') :
  ∃ g',HRel g' (w.drew.alloc (.cells cur' e)) hp'∧VRel g' (w.drew.alloc (.cells cur' e)) (.vs k n) (.slice (some ⟨w.heap.size,0,none⟩) n cap')∧Ext g w g' (w.drew.alloc (.cells cur' e)):=by
 have hkn:=at_ok hH hat (by simp)
 obtain ⟨b1,b2,b3⟩:=hH.rel k _ hat
 let g':G:={ n:=g.n,blk:=g.blk,tk:=fun j=>if j=k then ⟨len',sz+1,cap',some w.heap.size⟩ else g.tk j,own:=fun b o=>g.own b o∨b=w.heap.size,pend:=g.pend }
 have htk:g'.tk k=⟨len',sz+1,cap',some w.heap.size⟩:=by show (if k=k then _ else _)=_;rw [if_pos rfl]
 have htk':∀ j,j≠k→g'.tk j=g.tk j:=fun j hj=>by show (if j=k then _ else _)=_;rw [if_neg hj]
 have hold:∀ b,b<w.heap.size→(w.drew.alloc (.cells cur' e)).heap[b]? = w.heap[b]? := fun b hb=>hao w.drew _ hb
 have hnew:(w.drew.alloc (.cells cur' e)).heap[w.heap.size]? = some (.cells cur' e):=heap_alloc_new w.drew _
 have hx:Ext g w g' (w.drew.alloc (.cells cur' e)):=by
  refine ⟨yax _,fun _ _ h=>h,fun _ h=>h,fun _ _=>rfl,fun j _=>?_,fun b o hb ho=>?_,rfl,rfl,rfl,(by first|exact yax _|exact yca _|(simp;done)),by simp,fun b hb _=>hold b hb,fun b ds u fz hb=>⟨ds,by rw [hold b (zbc hb),hb],rfl,fun _ _=>rfl⟩⟩
  ·by_cases hjk:j=k
   ·subst hjk
    right
    rw [htk,b1,hll]
    exact ⟨hlen,b2.symm⟩
   ·exact .inl (htk' j hjk)
  ·rcases ho with ho|ho
   ·exact ho
   ·omega
 refine ⟨g',⟨by rw [hput.base,hput.k];exact hH.n,by rw [hput.loc,hput.k];exact hH.k,fun j B hj=>?_,fun b o ho=>?_,fun i hi=>by
  have hd:=hH.pend i hi
  rw [hput.all,yaw,if_neg (fun e=>by subst e;unfold At at hat;rw [hd] at hat;cases hat),hd],fun i j B C b hi hj hb hc=>?_,fun pp hpp=>yc4 hx _ _ _ (hH.glob pp hpp)⟩,?_,hx⟩
 ·rcases zb0 hput hj with ⟨rfl,rfl⟩|⟨hne,hj'⟩
  ·refine ⟨by rw [htk];exact hl'.symm,by rw [htk],.inr ⟨w.heap.size,cur',by rw [htk],hnew,by rw [htk];exact hsize,by rw [htk];exact hcap',?_,by rw [hl'];exact ycb hx _ _ hrel,fun o=>.inr rfl⟩⟩
   rw [hl',hsize,hn]
   exact yb8 _ hncap
  ·have hB:=hH.rel j B hj'
   exact hB.keep hx (at_ok hH hj') (fun b hb=>hold b (hB.loc_lt hb)) (htk' j (ycq hne)) (fun _ _ _ ho=>.inl ho)
 ·rcases ho with ho|ho
  ·have:=hH.lt b o ho
   simp;omega
  ·simp;omega
 ·have key:∀ (j:Nat) (B:Blk) (b:Nat),hp'.all[j]? = some B→locs g' j B=some b→(j=k∧b=w.heap.size)∨(j≠k∧hp.all[j]? = some B∧locs g j B=some b∧b<w.heap.size):=by
    intro j B b hj hb
    rcases zb0 hput hj with ⟨rfl,rfl⟩|⟨hne,hj'⟩
    ·simp only [locs,htk,yad] at hb
     exact .inl ⟨rfl,hb.symm⟩
    ·rw [zde hx (at_ok hH hj') (htk' j (ycq hne))] at hb
     exact .inr ⟨ycq hne,hj',hb,(hH.rel j B hj').loc_lt hb⟩
  rcases key i B b hi hb with ⟨h1,h2⟩|⟨h1,h2,h3,h4⟩ <;> rcases key j C b hj hc with ⟨k1,k2⟩|⟨k1,k2,k3,k4⟩
  ·omega
  ·omega
  ·omega
  ·exact hH.inj i j B C b h2 k2 h3 k3
 ·simp only [VRel]
  refine ⟨hkn,by rw [htk];simp only;omega,_,cap',rfl,hncap,fun _=>?_⟩
  rw [htk]
  exact ⟨rfl,rfl⟩
theorem vec_room [Glob] {g:G} {w:World} {e k n len' sz cap len b:Nat} {l l':List AV} {cs cur':Array Value} (hH:HRel g w hp) (hat:At hp k (.vec e (sz+1) l)) (hlen:len<len') (hll:l.length=len) (hl':l'.length=len')
  (hn:len'=n * (sz+1)) (hncap:n≤cap) (hbase:(g.tk k).base=some b) (hcap:(g.tk k).cap=cap) (hheap:w.heap[b]? = some (.cells cs e (0,0))) (hsz:cur'.size=cs.size)
  (hrel:LRel g w l' (cur'.toList.take len')) (hput:Put hp k (.vec e (sz+1) l') hp') :
  ∃ g',HRel g' (w.setRow b cur') hp'∧VRel g' (w.setRow b cur') (.vs k n) (.slice (some ⟨b,0,none⟩) n cap)∧Ext g w g' (w.setRow b cur'):=by
 have hkn:=at_ok hH hat (by simp)
 have hB0:=hH.rel k _ hat
 obtain ⟨b1,b2,b3⟩:=hB0
 obtain ⟨hsize,hcm,hspare⟩:cs.size=cap * (sz+1)∧cap≤maxLen∧∀ o,g.own b o:=by
  rcases b3 with ⟨h,-⟩|⟨b',cs',h1,h2,h3,h4,-,-,h5⟩
  ·rw [hbase] at h;cases h
  ·rw [hbase] at h1;cases h1
   rw [hheap] at h2;cases h2
   exact ⟨by rw [h3,hcap],by rw [← hcap];exact h4,h5⟩
 let g':G:={ n:=g.n,blk:=g.blk,tk:=fun j=>if j=k then ⟨len',sz+1,cap,some b⟩ else g.tk j,own:=g.own,pend:=g.pend }
 have htk:g'.tk k=⟨len',sz+1,cap,some b⟩:=by show (if k=k then _ else _)=_;rw [if_pos rfl]
 have htk':∀ j,j≠k→g'.tk j=g.tk j:=fun j hj=>by show (if j=k then _ else _)=_;rw [if_neg hj]
 have hnew:(w.setRow b cur').heap[b]? = some (.cells cur' e (0,0)):=setRow_heap w b cs _ e _ hheap
 have hold:∀ b',b'≠b→(w.setRow b cur').heap[b']? = w.heap[b']? := fun b' hb=>setRow_other w b b' _ hb
 have hx:Ext g w g' (w.setRow b cur'):=by
  refine ⟨yax _,fun _ _ h=>h,fun _ h=>h,fun _ _=>rfl,fun j _=>?_,fun b' o hb ho=>ho,rfl,rfl,rfl,(by first|exact yax _|exact yca _|(simp;done)),by simp,fun b' hb ho=>hold b' fun e=>ho 0 (e▸hspare 0),fun b' ds u fz hb=>?_⟩
  ·by_cases hjk:j=k
   ·subst hjk
    right
    rw [htk,b1,hll]
    exact ⟨hlen,b2.symm⟩
   ·exact .inl (htk' j hjk)
  ·by_cases hbb:b'=b
   ·subst hbb
    rw [hheap] at hb
    cases hb
    exact ⟨cur',hnew,hsz,fun o ho=>absurd (hspare o) ho⟩
   ·exact ⟨ds,by rw [hold b' hbb,hb],rfl,fun _ _=>rfl⟩
 refine ⟨g',⟨by rw [hput.base,hput.k];exact hH.n,by rw [hput.loc,hput.k];exact hH.k,fun j B hj=>?_,fun b' o ho=>by simpa using hH.lt b' o ho,fun i hi=>by
  have hd:=hH.pend i hi
  rw [hput.all,yaw,if_neg (fun e=>by subst e;unfold At at hat;rw [hd] at hat;cases hat),hd],fun i j B C b' hi hj hb hc=>?_,fun pp hpp=>yc4 hx _ _ _ (hH.glob pp hpp)⟩,?_,hx⟩
 ·rcases zb0 hput hj with ⟨rfl,rfl⟩|⟨hne,hj'⟩
  ·refine ⟨by rw [htk];exact hl'.symm,by rw [htk],.inr ⟨b,cur',by rw [htk],hnew,by rw [htk,hsz];exact hsize,by rw [htk];exact hcm,?_,by rw [hl'];exact ycb hx _ _ hrel,fun o=>hspare o⟩⟩
   rw [hl',hsz,hsize,hn]
   exact yb8 _ hncap
  ·have hB:=hH.rel j B hj'
   have hdiff:∀ b',locs g j B=some b'→b'≠b:=fun b' hb e=>hne (hH.inj k j _ _ _ hat hj' (by simp only [locs];exact hbase) (e▸hb))
   exact hB.keep hx (at_ok hH hj') (fun b' hb=>hold b' (hdiff b' hb)) (htk' j (ycq hne)) (fun b' o hb ho=>ho)
 ·have key:∀ (j:Nat) (B:Blk) (b':Nat),hp'.all[j]? = some B→locs g' j B=some b'→∃ B',hp.all[j]? = some B'∧locs g j B'=some b':=by
    intro j B b' hj hb
    rcases zb0 hput hj with ⟨rfl,rfl⟩|⟨hne,hj'⟩
    ·simp only [locs,htk,yad] at hb
     exact ⟨_,hat,by simp only [locs];rw [hbase,hb]⟩
    ·rw [zde hx (at_ok hH hj') (htk' j (ycq hne))] at hb
     exact ⟨B,hj',hb⟩
  obtain ⟨B',h1,h2⟩:=key i B b' hi hb
  obtain ⟨C',h3,h4⟩:=key j C b' hj hc
  exact hH.inj i j B' C' b' h1 h3 h2 h4
 ·simp only [VRel]
  refine ⟨hkn,by rw [htk];simp only;omega,_,cap,rfl,hncap,fun _=>?_⟩
  rw [htk]
  exact ⟨rfl,rfl⟩
set_option maxHeartbeats 1000000 in
theorem vec_core [Glob] (hT:TOk P T) {g:G} {w:World} {t ty e:TypeId} {ti ei:TI} {z:List AV} {k n m sz:Nat} {tok2:Option Nat} {l l2:List AV} {c c2:Value}
  (hH:HRel g w hp) (ht:T t=some ti) (hk:ti.kind=.sl e) (he:T e=some ei) (hez:ei.zero=some z) (hesz:ei.sz=sz+1) (hzl:z.length=ei.sz)
  (hat:At hp k (.vec e (sz+1) l)) (hnl:l.length=n * (sz+1)) (hc:VRel g w (.vs k n) c) (hc2:VRel g w (.sl tok2 m l2) c2) (h1:zcd l2=true) (hl2:l2.length=m * (sz+1))
  (hbytes:(n+m) * ei.bytes≤140737488355328) (hmax:n+m≤maxLen) (hput:Put hp k (.vec e (sz+1) (l++l2)) hp') :
  ∃ c' g' w',(Builtin.append_ #[t,t] ty #[c,c2]).run P w=.ok c' w'∧HRel g' w' hp'∧VRel g' w' (.vs k (n+m)) c'∧Ext g w g' w':=by
 obtain ⟨d,i0,e1,-,e3,-⟩:=zaj (hT _ _ ht)
 rw [hk] at e3
 have hd:d=.slice e:=by cases d <;> simp [tkOf] at e3;rw [e3]
 subst hd
 obtain ⟨d2,i,-,f2,-,f4,f5,f6⟩:=zaj (hT _ _ he)
 rw [hez] at f6
 cases hiz:i.zero with
 | none=>rw [hiz] at f6;cases f6
 | some zv =>
 rw [hiz] at f6
 simp only [ybb,yad] at f6
 have hzs:zv.cells.size=sz+1:=by
  have:(zv.cells.toList.map av1).length=sz+1:=by rw [← f6,hzl,hesz]
  simpa using this
 have hisz:i.size=sz+1:=by rw [← f4,hesz]
 have hc0:=hc
 simp only [VRel] at hc hc2
 obtain ⟨hkn,hlle,A,cap,rfl,hncap,hcur⟩:=hc
 obtain ⟨A2,cap2,rfl,-,hm2,-⟩:=hc2
 obtain ⟨b1,b2,b3⟩:=hH.rel k _ hat
 obtain ⟨hA,hcap⟩:=hcur (by rw [b1,b2];exact hnl)
 by_cases hm0:m=0
 ·subst hm0
  have hl20:l2=[]:=ya3 (by simpa using hl2)
  subst hl20
  refine ⟨_,g,w,zgq e1 f2 hncap,?_,by simpa using hc0,ycl g w⟩
  have hall:hp'.all=hp.all:=by
   rw [hput.all]
   simp only [yat]
   apply ybn
   intro j
   rw [yaw]
   by_cases hkj:k=j
   ·subst hkj
    simp only [if_true]
    have:k<hp.all.length:=(yac.1 hat).1
    rw [if_pos this]
    exact hat.symm
   ·rw [if_neg hkj]
  exact ⟨by rw [hput.base,hput.k,hH.n],by rw [hput.loc,hput.k,hH.k],by rw [hall];exact hH.rel,hH.lt,by rw [hall];exact hH.pend,by rw [hall];exact hH.inj,hH.glob⟩
 ·have hl2ne:l2≠[]:=by
    intro h0
    have hp0:0<m * (sz+1):=ycw (by omega) (by omega)
    rw [h0] at hl2
    simp only [List.length_nil] at hl2
    omega
  obtain ⟨s2,o2,rfl,hm2'⟩:=hm2.resolve_left hl2ne
  obtain ⟨news,hnews,hnc⟩:=hm2'.list
  have hnewsl:=hnews.length
  have hnl':l.length+l2.length=(n+m) * (sz+1):=by rw [hnl,hl2,yb4]
  have hl2pos:0<l2.length:=by rw [hl2];exact ycw (by omega) (by omega)
  have hnewsz:news.length=m * i.size:=by rw [hnewsl,hl2,hisz]
  have hnc':∀ (j:Nat) u,news[j]? = some u→w.cell? ((⟨s2,o2,none⟩:Addr).add j)=some u:=fun j u hu=>by rw [Addr.add_lit];exact hnc j u hu
  have h63:n+m≤9223372036854775807:=by simp only [maxLen] at hmax;omega
  have hgc:∀ old,n+m≤grownCap w (n+m) old e∧grownCap w (n+m) old e≤maxLen:=fun old=>⟨grownCap_ge w _ _ e,grownCap_le_maxLen w _ _ e hmax⟩
  have hcursz:∀ (xs:List Value) old,xs.length=l.length→(xs.toArray++news.toArray++Builtin.zeroCells zv.cells (grownCap w (n+m) old e-(n+m))).size=grownCap w (n+m) old e * (sz+1):=by
   intro xs old hxl
   simp only [ydl,ybm,size_zeroCells,hzs,hxl,hnewsl,hnl',← yb4]
   congr 1
   have:=(hgc old).1
   omega
  have hcurrel:∀ (xs:List Value) old,LRel g w l xs→LRel g w (l++l2) ((xs.toArray++news.toArray++Builtin.zeroCells zv.cells (grownCap w (n+m) old e-(n+m))).toList.take (l.length+l2.length)):=by
   intro xs old hxs
   have hxl:=hxs.length
   have:(xs.toArray++news.toArray++Builtin.zeroCells zv.cells (grownCap w (n+m) old e-(n+m))).toList.take (l.length+l2.length)=xs++news:=by
    simp only [yc9]
    rw [← hxl,← hnewsl,← ya5,yc6]
    simp
   rw [this]
   exact hxs.append hnews
  rcases b3 with ⟨hbase,hl0,hcap0⟩|⟨b,cs,hbase,hheap,hsize,hcm,hlen,hxs,hspare⟩
  ·skip
   subst hl0
   rw [hbase] at hA
   simp only [yc5] at hA
   subst hA
   have hn0:n=0:=by
    rcases yc1 n with h|h
    ·exact h
    ·have:=ycw h (show 0<sz+1 by omega)
     simp at hnl
     omega
   have hcap00:cap=0:=by omega
   subst hn0
   subst hcap00
   have hrun:=run_append_nil (P:=P) w t ty e i zv e1 f2 hiz ⟨s2,o2,none⟩ m cap2 news hnewsz hnc' (by omega) (by omega) (by
    have hb:=hbytes
    rw [f5] at hb
    simp only [ybr] at hb
    omega)
   have h0:=hgc 0
   simp only [ybr] at h0
   obtain ⟨g',h2,h3,h4⟩:=vec_new (n:=0+m) (cap':=grownCap w m 0 e) (cur':=#[]++news.toArray++Builtin.zeroCells zv.cells (grownCap w m 0 e-m)) (l':=[]++l2) hH hat rfl (len':=([]:List AV).length+l2.length) (by simpa using hl2pos) (by simp) (by simpa using hl2) (by simpa using h0.1) h0.2
    (by have:=hcursz [] 0 rfl;simpa using this) (by have:=hcurrel [] 0 (by simp [LRel]);simpa using this) hput
   refine ⟨_,g',_,hrun,?_,?_,?_⟩
   ·simpa using h2
   ·simpa using h3
   ·simpa using h4
  ·rw [hbase] at hA
   simp only [ybb] at hA
   subst hA
   obtain ⟨xs,hxsd⟩:∃ xs,xs=cs.toList.take l.length:=⟨_,rfl⟩
   rw [← hxsd] at hxs
   have hxl:=hxs.length
   have hxc:∀ (j:Nat) u,xs[j]? = some u→w.cell? ⟨b,0+j,none⟩=some u:=fun j u hu=>by
    rw [hxsd,ybp] at hu
    split at hu
    ·exact cell_iff.2 ⟨cs,e,_,hheap,by simpa using hu⟩
    ·cases hu
   by_cases hroom:n+m≤cap
   ·have hfit:n * i.size+news.length≤cs.size:=by
      rw [hnewsz,hsize,← hcap,← yb4,hisz]
      exact yb8 _ hroom
    have hrun:=run_append_room (P:=P) w t ty e i e1 f2 b n cap cs hheap ⟨s2,o2,none⟩ m cap2 news hnewsz hnc' (hnews.one (zcq _ h1)) hroom hfit
    have hni:n * i.size=l.length:=by rw [hisz,hnl]
    rw [hni] at hrun hfit
    have htk:cs.toList.take l.length=xs:=hxsd.symm
    obtain ⟨g',h2,h3,h4⟩:=vec_room (n:=n+m) (cap:=cap) (cur':=(cs.toList.take l.length++news++cs.toList.drop (l.length+news.length)).toArray) (l:=l) (l':=l++l2) hH hat (len':=l.length+l2.length) (by omega) rfl (by simp) hnl' hroom hbase hcap.symm hheap
     (by simp;omega) (by
       have:(cs.toList.take l.length++news++cs.toList.drop (l.length+news.length)).take (l.length+l2.length)=xs++news:=by
        rw [htk,← hxl,← hnewsl,← ya5,yc6]
        simp
       simp only [this]
       exact hxs.append hnews) hput
    exact ⟨_,g',_,hrun,h2,h3,h4⟩
   ·have hrun:=run_append_grow (P:=P) w t ty e i zv e1 f2 hiz ⟨b,0,none⟩ n cap xs (by rw [hxl,hnl,hisz]) (fun j u hu=>by rw [Addr.add_lit];exact hxc j u hu) ⟨s2,o2,none⟩ m cap2 news hnewsz hnc' (by omega) (by omega) (growslice_fits (by omega) (by rw [← f5];exact hbytes))
    obtain ⟨g',h2,h3,h4⟩:=vec_new (n:=n+m) (cap':=grownCap w (n+m) cap e) (cur':=xs.toArray++news.toArray++Builtin.zeroCells zv.cells (grownCap w (n+m) cap e-(n+m))) (l':=l++l2) hH hat rfl (len':=l.length+l2.length) (by omega) (by simp) hnl' (hgc cap).1 (hgc cap).2
     (hcursz xs cap hxl) (hcurrel xs cap hxs) hput
    exact ⟨_,g',_,hrun,h2,h3,h4⟩
theorem st_append_v [Glob] (hT:TOk P T) {t e:TypeId} {x y:Operand} {ti ei:TI} {z:List AV} {k n m sz:Nat} {l l2:List AV} (ho:o.op=.call { callee:=.builtin .append,args:=#[x,y],argTypes:=#[t,t] })
  (ht:T t=some ti) (hk:ti.kind=.sl e) (he:T e=some ei) (hez:ei.zero=some z) (hesz:ei.sz=sz+1) (hzl:z.length=ei.sz)
  (hx:ev env x=.vs k n) (hy:slOf (ev env y)=some (m,l2)) (hat:At hp k (.vec e (sz+1) l)) (hnl:l.length=n * (sz+1)) (h1:zcd l2=true) (hl2:l2.length=m * (sz+1))
  (hbytes:(n+m) * ei.bytes≤140737488355328) (hmax:n+m≤maxLen) (hput:Put hp k (.vec e (sz+1) (l++l2)) hp') :
  Step P N hp env o (.vs k (n+m)) hp':=by
 intro g w a hH hE
 have hr:=zar hE x
 rw [hx] at hr
 have hry:=sl_of_slOf (zar hE y) hy
 obtain ⟨c',g',w',h2,h3,h4,h5⟩:=vec_core (ty:=o.type) hT hH ht hk he hez hesz hzl hat hnl hr hry h1 hl2 hbytes hmax hput
 refine ⟨c',g',w',?_,h3,h4,h5⟩
 simp [execOp,ho,resolve,invoke,builtin,h2]
theorem st_len_vs [Glob] (hT:TOk P T) {t e:TypeId} {x:Operand} {ti:TI} {b n:Nat} (ho:o.op=.call { callee:=.builtin .len,args:=#[x],argTypes:=#[t] }) (ht:T t=some ti)
  (hk:ti.kind=.sl e) (hx:ev env x=.vs b n):Step P N hp env o (.int .i64 n) hp :=
 ybf fun g w a _ hE=>by
  have hr:=zar hE x
  rw [hx] at hr
  simp only [VRel] at hr
  obtain ⟨-,-,A,cap,hc,-⟩:=hr
  obtain ⟨d,i',e1,e2,e3,-⟩:=zaj (hT _ _ ht)
  rw [hk] at e3
  have hd:d=.slice e:=by cases d <;> simp [tkOf] at e3;rw [e3]
  subst hd
  refine ⟨.int .i64 n,?_,by simp [VRel]⟩
  simp [execOp,ho,resolve,invoke,builtin,Builtin.len_,hc,run_underlying e1,goInt]
end
end
theorem HRel.setVec [Glob] {g:G} {w w':World} {hp hp':Hp} {i b:Nat} {e:TypeId} {sz:Nat} {l l':List AV} {cs cs':Array Value} (h:HRel g w hp) (ha:At hp i (.vec e sz l)) (hb:(g.tk i).base=some b)
  (hcs:w.heap[b]? = some (.cells cs e (0,0))) (hcs':w'.heap[b]? = some (.cells cs' e (0,0))) (hsz:cs'.size=cs.size) (hoth:∀ k,k<w.heap.size→k≠b→w'.heap[k]? = w.heap[k]?) (hsize:w.heap.size≤w'.heap.size)
  (hos:w'.os=w.os) (htape:w'.tape=w.tape) (hout:w'.output=w.output) (hdr:w.drawn≤w'.drawn) (hl:LRel g w l' (cs'.toList.take l'.length)) (hll:l'.length=l.length) (hput:Put hp i (.vec e sz l') hp'):HRel g w' hp'∧Ext g w g w':=by
 obtain ⟨b1,b2,b3⟩:=h.rel i _ ha
 obtain ⟨h3,h4,h5,h7⟩:cs.size=(g.tk i).cap * sz∧(g.tk i).cap≤maxLen∧l.length≤cs.size∧∀ o,g.own b o:=by
  rcases b3 with ⟨q,-⟩|⟨b',c',q1,q2,q3,q4,q5,-,q7⟩
  ·rw [hb] at q;cases q
  ·rw [hb] at q1;cases q1
   rw [hcs] at q2;cases q2
   exact ⟨q3,q4,q5,q7⟩
 have hblt:b<w.heap.size:=zbc hcs
 have hx:Ext g w g w':=by
  refine ⟨yax _,fun _ _ h=>h,fun _ h=>h,fun _ _=>rfl,fun _ _=>.inl rfl,fun _ _ _ h=>h,hos,htape,hout,hdr,hsize,fun k hk ho=>hoth k hk (fun e=>ho 0 (e▸h7 0)),fun k ds u fz hk=>?_⟩
  by_cases hbk:k=b
  ·subst hbk
   rw [hcs] at hk
   cases hk
   exact ⟨cs',hcs',hsz,fun o ho=>absurd (h7 o) ho⟩
  ·exact ⟨ds,by rw [hoth k (zbc hk) hbk,hk],rfl,fun _ _=>rfl⟩
 refine ⟨⟨by rw [hput.base,hput.k,h.n],by rw [hput.loc,hput.k,h.k],?_,fun b' o ho=>ybs (h.lt b' o ho) hsize,fun j hj=>?_,?_,fun p hp'=>yc4 hx _ _ _ (h.glob p hp')⟩,hx⟩
 ·intro j B hj
  rcases zb0 hput hj with ⟨rfl,rfl⟩|⟨hij,hj'⟩
  ·exact ⟨by rw [hll];exact b1,b2,.inr ⟨b,cs',hb,hcs',by rw [hsz];exact h3,h4,by rw [hll,hsz];exact h5,ycb hx _ _ hl,h7⟩⟩
  ·have hB:=h.rel j B hj'
   refine hB.keep hx (at_ok h hj') (fun b' hb'=>hoth b' (hB.loc_lt hb') fun e=>?_) rfl (fun _ _ _ ho=>ho)
   subst e
   exact hij (h.inj i j _ _ _ ha hj' (by simp only [locs];exact hb) hb')
 ·have hd:=h.pend j hj
  rw [hput.all,yaw,if_neg (fun e=>by subst e;unfold At at ha;rw [hd] at ha;cases ha),hd]
 ·intro j1 j2 B C b' hj1 hj2 hb1 hb2
  have key:∀ (j:Nat) (B:Blk),hp'.all[j]? = some B→locs g j B=some b'→∃ B',hp.all[j]? = some B'∧locs g j B'=some b':=by
   intro j B hj hb
   rcases zb0 hput hj with ⟨rfl,rfl⟩|⟨-,hj'⟩
   ·exact ⟨_,ha,hb⟩
   ·exact ⟨B,hj',hb⟩
  obtain ⟨B',q1,q2⟩:=key j1 B hj1 hb1
  obtain ⟨C',q3,q4⟩:=key j2 C hj2 hb2
  exact h.inj j1 j2 B' C' b' q1 q3 q2 q4
section
inductive MEnt (eq:AV→AV→Option Bool) (ks vs:List AV) (k z:AV):List AV→List AV→Prop where
 | old (j:Nat) (v:AV) (h:mfind eq k ks=some (some j)) (hk:ks[j]? = some k) (hv:vs[j]? = some v):MEnt eq ks vs k z ks (v::.int .i64 j::vs)
 | new (h:mfind eq k ks=some none):MEnt eq ks vs k z (ks++[k]) (z::.int .i64 ks.length::(vs++[z]))
section
variable {P:Program} {N:FN} {T:TypeId→Option TI} {kn:TypeId→Nat} {env:Env} {hp hp':Hp} {o:Oper}
theorem ent_old {t kt et:TypeId} {c v:Value} {es:Array MapEntry} {clk b j:Nat} {w:World} {e:MapEntry} (hu:P.underlying t=some (.map kt et)) (hb:w.heap[b]? = some (.map es clk))
  (hck:∀ em,(Instr.checkKey em 10000 kt c).run P w=.ok () w) (hf:(Instr.findKey kt c es.toList).run P w=.ok (some (j,v)) w) (he:es[j]? = some e) (hs:Instr.sameBits 10000 e.key c=true) (hbj:e.born=j) :
  (Instr.mapEntry t (.map (some b)) c).run P w=.ok (.tuple #[v,.int .i64 j]) (w.putObj b (.map (es.modify j fun e=>{ e with key:=c }) clk)):=by
 simp [Instr.mapEntry,run_underlying hu,hck,hf,Go.MapKept.run_getObj_map hb,Go.MapKept.run_setObj_map _ hb,World.putObj,he,Instr.keyThatStays,hs,goInt,hbj]
theorem ent_new {t kt et:TypeId} {c z:Value} {es:Array MapEntry} {clk b:Nat} {w:World} (hu:P.underlying t=some (.map kt et)) (hb:w.heap[b]? = some (.map es clk))
  (hck:∀ em,(Instr.checkKey em 10000 kt c).run P w=.ok () w) (hf:(Instr.findKey kt c es.toList).run P w=.ok none w) (hz:(zeroValue et).run P w=.ok z w) :
  (Instr.mapEntry t (.map (some b)) c).run P w=.ok (.tuple #[z,.int .i64 clk]) (w.putObj b (.map (es.push { key:=c,val:=z,born:=clk }) (clk+1))):=by
 simp [Instr.mapEntry,run_underlying hu,hck,hf,hz,Go.MapKept.run_getObj_map hb,Go.MapKept.run_setObj_map _ hb,World.putObj,goInt]
theorem st_ent [Glob] (hT:TOk P T) (hkn:∀ t n,kn t=n+2→P.stoodInHeld t=false∧P.eqGuardType P.depth t=false) {t kt et:TypeId} {x y:Operand} {ti ei:TI} {i:Nat} {ks vs ks' vs':List AV} {k v s z:AV} {b:Bool} (ho:o.op=.mapEntry t x y) (ht:T t=some ti) (hk:ti.kind=.mp kt et)
  (het:T et=some ei) (hze:zdb P et=true) (hza:zeroAV ei=some z)
  (hx:ev env x=.mp i) (ha:At hp i (.mp ks vs)) (hy:ev env y=k) (hpl:plainV k=true) (hs:eqV kn T 20 kt k k=some b) (hp':MEnt (eqV kn T 20 kt) ks vs k z ks' (v::s::vs')) {hp2:Hp} (hput:Put hp i (.mp ks' vs') hp2):Step P N hp env o (.tup [v,s]) hp2:=by
 intro g w a hH hE
 have hu:=map_kind hT ht hk
 have hvx:=zar hE x
 have hvy:=zar hE y
 rw [hx] at hvx
 rw [hy] at hvy
 simp only [VRel] at hvx
 obtain ⟨hok,hc⟩:=hvx
 obtain ⟨es,clk,h1,⟨hclk,hborn⟩,h2,h3,h4⟩:=hH.rel i _ ha
 have hck:∀ em,(Instr.checkKey em 10000 kt (a.eval y)).run P w=.ok () w:=fun em=>zei hT 20 10000 (by omega) hs hvy
 have hexec:∀ c w',(Instr.mapEntry t (a.eval x) (a.eval y)).run P w=.ok c w'→(execOp a.eval o).run P w=.ok (.value c) w':=by
  intro c w' hr
  unfold execOp
  simp only [ho]
  simp [hr,Result.andThen]
 cases hp' with
 | old j _ hj hkj hvj =>
   obtain ⟨c',q1,q2⟩:=h2.get hkj
   rw [ya7] at q1
   cases he:es.toList[j]? with
   | none=>rw [he] at q1;cases q1
   | some e =>
   rw [he] at q1
   simp only [ybb,yad] at q1
   subst q1
   obtain ⟨e1,e2⟩:=plain_inj hpl q2 hvy
   have hf:=zhe hT hkn hvy (es:=es.toList) h2 hs hj
   simp only [yco,he,ybb] at hf
   have hea:es[j]? = some e:=by simpa using he
   have hrun:=ent_old hu h1 hck hf hea (by rw [← e1];exact e2) (hborn j e hea)
   rw [← hc] at hrun
   obtain ⟨cv,p1,p2⟩:=h3.get hvj
   rw [ya7,he] at p1
   simp only [ybb,yad] at p1
   subst p1
   have hset:=hH.setObj (x':=.map (es.modify j fun e=>{ e with key:=a.eval y }) clk) ha rfl rfl h1 (fun _ _ _ e=>by cases e) h4 hput (fun hx=>⟨_,clk,World.putObj_heap_same (zbc h1),⟨by simp [hclk],fun q e' he'=>by
     rw [yb1] at he'
     split at he'
     ·simp only [yba] at he'
      obtain ⟨e'',r1,rfl⟩:=he'
      exact hborn q e'' r1
     ·exact hborn q e' he'⟩,?_,?_,h4⟩)
   ·refine ⟨_,g,_,hexec _ _ hrun,hset.1,?_,hset.2⟩
    simp only [VRel]
    exact ⟨_,rfl,by simp only [LRel];exact ⟨_,_,rfl,ycx hset.2 _ _ p2,_,_,rfl,by simp [VRel],rfl⟩⟩
   ·have:(es.modify j fun e=>{ e with key:=a.eval y }).toList.map (·.key)=es.toList.map (·.key) :=
      Go.MapKept.modify_keys j _ (fun e' he'=>by rw [hea] at he';cases he';exact e1.symm)
    rw [this]
    exact ycb hx _ _ h2
   ·have:(es.modify j fun e=>{ e with key:=a.eval y }).toList.map (·.val)=es.toList.map (·.val):=by
      apply ybn
      intro q
      rw [ya7,ya7]
      simp only [ybw,yb1]
      by_cases hjq:j=q
      ·subst hjq
       rw [if_pos rfl,hea]
       rfl
      ·rw [if_neg hjq]
    rw [this]
    exact ycb hx _ _ h3
 | new hj =>
   have hf:=zhe hT hkn hvy (es:=es.toList) h2 hs hj
   simp only [Option.bind_none] at hf
   obtain ⟨zc,z1,z2⟩:=zero_run (P:=P) hT (g:=g) (w:=w) het hze hza
   have hrun:=ent_new hu h1 hck hf z1
   rw [← hc] at hrun
   have hlk:ks.length=clk:=by
    have:=h2.length
    simp at this
    omega
   have hset:=hH.setObj (x':=.map (es.push { key:=a.eval y,val:=zc,born:=clk }) (clk+1)) ha rfl rfl h1 (fun _ _ _ e=>by cases e) h4 hput (fun hx=>⟨_,clk+1,World.putObj_heap_same (zbc h1),⟨by simp [hclk],fun q e' he'=>by
     rw [Array.getElem?_push] at he'
     split at he'
     ·rename_i hq;cases he';rw [hq];exact hclk
     ·exact hborn q e' he'⟩,by simpa using (ycb hx _ _ h2).append (ycb hx _ _ (show LRel g w [k] [a.eval y] from by simp only [LRel];exact ⟨_,_,rfl,hvy,rfl⟩)),by simpa using (ycb hx _ _ h3).append (ycb hx _ _ (show LRel g w [v] [zc] from by simp only [LRel];exact ⟨_,_,rfl,z2,rfl⟩)),h4⟩)
   refine ⟨_,g,_,hexec _ _ hrun,hset.1,?_,hset.2⟩
   simp only [VRel]
   refine ⟨_,rfl,by simp only [LRel];exact ⟨_,_,rfl,ycx hset.2 _ _ z2,_,_,rfl,by simp [VRel,hlk],rfl⟩⟩
theorem findIdx_bornJ {es:Array MapEntry} {J:Nat} (hb:∀ (j:Nat) e,es[j]? = some e→e.born=j) (hJ:J<es.size):es.findIdx? (fun e=>((e.born:Nat):Int)==(J:Int))=some J:=by
 rw [Array.findIdx?_eq_some_iff_getElem]
 refine ⟨hJ,?_,fun j hj=>?_⟩
 ·have:=hb J es[J] (ybu hJ)
  simp [this]
 ·have hjs:j<es.size:=by omega
  have:=hb j es[j] (ybu hjs)
  simp [this]
  omega
theorem st_ents [Glob] {t:TypeId} {x y zo:Operand} {i J:Nat} {ki:IntKind} {ks vs:List AV} {v:AV} (ho:o.op=.entryStore t x y zo) (hx:ev env x=.mp i) (ha:At hp i (.mp ks vs)) (hy:ev env y=.int ki (J:Int)) (hz:ev env zo=v) (hJ:J<vs.length) {hp2:Hp} (hput:Put hp i (.mp ks (vs.set J v)) hp2):StepU P N hp env o hp2:=by
 intro g w a hH hE
 have hvx:=zar hE x
 have hvy:=zar hE y
 have hvz:=zar hE zo
 rw [hx] at hvx
 rw [hy] at hvy
 rw [hz] at hvz
 simp only [VRel] at hvx hvy
 obtain ⟨hok,hc⟩:=hvx
 obtain ⟨es,clk,h1,⟨hclk,hborn⟩,h2,h3,h4⟩:=hH.rel i _ ha
 have hJe:J<es.size:=by
  have:=h3.length
  simp at this
  omega
 have hfi:=findIdx_bornJ hborn hJe
 have hrun:(Instr.entryStore t (a.eval x) (a.eval y) (a.eval zo)).run P w=.ok () (w.putObj (g.blk i) (.map (es.modify J fun e=>{ e with val:=a.eval zo }) clk)):=by
  rw [hc,hvy]
  simp [Instr.entryStore,Go.MapKept.run_getObj_map h1,asInt,asIntOf,hfi,Go.MapKept.run_setObj_map _ h1,World.putObj]
 have hexec:(execOp a.eval o).run P w=.ok .skip (w.putObj (g.blk i) (.map (es.modify J fun e=>{ e with val:=a.eval zo }) clk)):=by
  unfold execOp
  simp only [ho]
  simp [hrun,Result.andThen]
 have hset:=hH.setObj (x':=.map (es.modify J fun e=>{ e with val:=a.eval zo }) clk) ha rfl rfl h1 (fun _ _ _ e=>by cases e) h4 hput (fun hx=>⟨_,clk,World.putObj_heap_same (zbc h1),⟨by simp [hclk],fun q e' he'=>by
    rw [yb1] at he'
    split at he'
    ·simp only [yba] at he'
     obtain ⟨e'',r1,rfl⟩:=he'
     exact hborn q e'' r1
    ·exact hborn q e' he'⟩,?_,?_,h4⟩)
 ·exact ⟨g,_,hexec,hset.1,hset.2⟩
 ·have:(es.modify J fun e=>{ e with val:=a.eval zo }).toList.map (·.key)=es.toList.map (·.key) :=
    Go.MapKept.modify_keys J _ (fun e' he'=>rfl)
  rw [this]
  exact ycb hx _ _ h2
 ·have:(es.modify J fun e=>{ e with val:=a.eval zo }).toList.map (·.val)=(es.toList.map (·.val)).set J (a.eval zo):=by
    apply ybn
    intro q
    rw [ya7,yaw]
    simp only [ybw,yb1,yav,ych]
    by_cases hjq:J=q
    ·subst hjq
     simp [hJe]
    ·simp [hjq]
  rw [this]
  exact (ycb hx _ _ h3).set J (ycx hx _ _ hvz)
end
end
section
def NilV (neg:Bool) (l:List AV) (v:AV):Prop:=∃ b:Bool,(b=true→l=[])∧v=.bool (b != neg)
section
variable {P:Program} {N:FN} {T:TypeId→Option TI} {env:Env} {hp:Hp} {o:Oper}
theorem st_eqNil [Glob] (hT:TOk P T) {op:BinOp} {t u e:TypeId} {ti:TI} {x y:Operand} {l:List AV} {neg:Bool} (hop:(op=.eql∧neg=false)∨(op=.neq∧neg=true)) (ho:o.op=.binOp op t x y u) (ht:T t=some ti) (hk:ti.kind=.sl e)
  (hx:(∃ tok n,ev env x=.sl tok n l)∨∃ n,ev env x=.sx n l) (hy:ev env y=.nils) {g:G} {w:World} {a:Act} (hE:ERel N g w env a):∃ v c,NilV neg l v∧(execOp a.eval o).run P w=.ok (.value c) w∧VRel g w v c:=by
 obtain ⟨d,i,e1,-,e3,-⟩:=zaj (hT _ _ ht)
 rw [hk] at e3
 have hd:d=.slice e:=by cases d <;> simp [tkOf] at e3;rw [e3]
 subst hd
 have h1:=zar hE x
 have h2:=zar hE y
 rw [hy] at h2
 simp only [VRel] at h2
 obtain ⟨A,n,cap,hc,hA⟩:∃ A n cap,a.eval x=.slice A n cap∧(A=none→l=[]):=by
  rcases hx with ⟨tok,n,hx⟩|⟨n,hx⟩
  ·rw [hx] at h1
   simp only [VRel] at h1
   obtain ⟨A,cap,hc,-,hm,-⟩:=h1
   refine ⟨A,n,cap,hc,fun hA=>?_⟩
   rcases hm with hm|⟨b,o',hA2,-⟩
   ·exact hm
   ·rw [hA] at hA2;cases hA2
  ·rw [hx] at h1
   simp only [VRel] at h1
   obtain ⟨A,hc,hm⟩:=h1
   refine ⟨A,n,n,hc,fun hA=>?_⟩
   rcases hm with hm|⟨b,o',hA2,-⟩
   ·exact hm
   ·rw [hA] at hA2;cases hA2
 have hr:(Op.equal t (.slice A n cap) (.slice none 0 0)).run P w=.ok A.isNone w:=by
  unfold Op.equal Op.maxDepth Op.equalIn
  cases A <;> simp [run_underlying e1]
 have hg:(eqGuard op t x y (.slice A n cap) (.slice none 0 0)).run P w=.ok () w:=by
  rcases hop with ⟨rfl,-⟩|⟨rfl,-⟩ <;> simp [eqGuard]
 refine ⟨.bool (A.isNone != neg),.bool (A.isNone != neg),⟨A.isNone,fun h=>hA (Option.isNone_iff_eq_none.1 h),rfl⟩,?_,by simp [VRel]⟩
 unfold execOp
 simp only [ho,hc,h2]
 rcases hop with ⟨rfl,rfl⟩|⟨rfl,rfl⟩
 ·have:binOp .eql t (.slice A n cap) (.slice none 0 0)=(do pure (.bool (← Op.equal t (.slice A n cap) (.slice none 0 0)))):=rfl
  rw [this]
  simp [hg,hr]
 ·have:binOp .neq t (.slice A n cap) (.slice none 0 0)=(do pure (.bool (!(← Op.equal t (.slice A n cap) (.slice none 0 0))))):=rfl
  rw [this]
  simp [hg,hr]
end
end
section
def setL (l:List AV) (o:Nat) (vs:List AV):List AV:=l.take o++vs++l.drop (o+vs.length)
theorem setL_len {l vs:List AV} {o:Nat} (h:o+vs.length≤l.length):(setL l o vs).length=l.length:=by
 simp [setL]
 omega
section
variable {P:Program} {N:FN} {T:TypeId→Option TI} {env:Env} {hp hp':Hp} {o:Oper}
theorem vec_at [Glob] {g:G} {w:World} {i e sz:Nat} {l:List AV} (hH:HRel g w hp) (ha:At hp i (.vec e sz l)) (hl:l≠[]) :
  ∃ b cs,(g.tk i).base=some b∧w.heap[b]? = some (.cells cs e (0,0))∧l.length≤cs.size∧LRel g w l (cs.toList.take l.length)∧(g.tk i).len=l.length∧(g.tk i).sz=sz:=by
 obtain ⟨h1,h2,h3⟩:=hH.rel i _ ha
 rcases h3 with ⟨-,h,-⟩|⟨b,cs,q1,q2,q3,q4,q5,q6,q7⟩
 ·exact absurd h hl
 ·exact ⟨b,cs,q1,q2,q5,q6,h1,h2⟩
theorem st_index_vs [Glob] (hT:TOk P T) {t e u:TypeId} {x y:Operand} {ti ei:TI} {i n sz:Nat} {k:IntKind} {q:Int} {l:List AV} (ho:o.op=.indexAddr t x y) (ht:T t=some ti)
  (hk:ti.kind=.sl e) (he:T e=some ei) (hx:ev env x=.vs i n) (hy:ev env y=.int k q) (ha:At hp i (.vec u sz l)) (hl:l.length=n * sz) (hsz:ei.sz=sz) (hne:l≠[]) (h0:0≤q) (hn:q<n):Step P N hp env o (.vp i n (q.toNat * sz)) hp :=
 ybf fun g w a hH hE=>by
  have hr:=zar hE x
  rw [hx] at hr
  simp only [VRel] at hr
  obtain ⟨hok,hle,A,cap,hc,hnc,hA⟩:=hr
  obtain ⟨b,cs,p1,p2,p3,p4,p5,p6⟩:=vec_at hH ha hne
  obtain ⟨rA,-⟩:=hA (by rw [p5,p6,hl])
  rw [p1] at rA
  have hry:=zar hE y
  rw [hy] at hry
  simp only [VRel] at hry
  obtain ⟨d,i',e1,e2,e3,-⟩:=zaj (hT _ _ ht)
  rw [hk] at e3
  have hd:d=.slice e:=by cases d <;> simp [tkOf] at e3;rw [e3]
  subst hd
  obtain ⟨d2,i2,f1,f2,f3,f4,-⟩:=zaj (hT _ _ he)
  rw [rA] at hc
  simp only [ybb] at hc
  refine ⟨.pointer (some ⟨b,q.toNat * sz,none⟩),?_,?_⟩
  ·simp [execOp,ho,hc,hry,Instr.indexAt,asIntOf,run_underlying e1,h0,hn,za2 f2,Addr.add_lit,← f4,hsz]
  ·simp only [VRel]
   exact ⟨hok,hle,b,rfl,fun _=>p1⟩
theorem st_field_vp [Glob] (hT:TOk P T) {s:TypeId} {x:Operand} {f:Nat} {ti:TI} {fs:List (TypeId×Nat×Nat×Bool)} {ft off sz:Nat} {bl:Bool} {i n k:Nat} (ho:o.op=.fieldAddr s x f) (ht:T s=some ti)
  (hk:ti.kind=.st fs) (hf:lget fs f=some (ft,off,sz+1,bl)) (hx:ev env x=.vp i n k):Step P N hp env o (.vp i n (k+off)) hp :=
 ybf fun g w a hH hE=>by
  have hr:=zar hE x
  rw [hx] at hr
  simp only [VRel] at hr
  obtain ⟨h1,h2,b,hc,h3⟩:=hr
  obtain ⟨d,i',e1,e2,e3,-⟩:=zaj (hT _ _ ht)
  rw [hk] at e3
  obtain ⟨fields,rfl,hfs⟩:=zcb e3
  rw [za9,hfs] at hf
  simp only [ya7,yba,yb7,ybw] at hf
  obtain ⟨fl,q1,-,q2,q3,-⟩:=hf
  have hp':=zen (P:=P) (b:=b) (k:=k) w (f:=fl) (by omega)
  refine ⟨.pointer (some ⟨b,k+off,none⟩),?_,by simp only [VRel];exact ⟨h1,h2,b,rfl,h3⟩⟩
  simp [execOp,ho,hc,Instr.fieldAt,run_underlying e1,q1,Instr.sureAddr,hp',q2]
theorem st_load_vp [Glob] (hT:TOk P T) {t u:TypeId} {x:Operand} {ti:TI} {i n k sz:Nat} {l l':List AV} {v:AV} (ho:o.op=.load t x) (ht:T t=some ti) (hx:ev env x=.vp i n k)
  (ha:At hp i (.vec u sz l)) (hl:l.length=n * sz) (hs:Seg l k l') (hne:l'≠[]) (hv:loadC ti l'=some v):Step P N hp env o v hp :=
 ybf fun g w a hH hE=>by
  have hr:=zar hE x
  rw [hx] at hr
  simp only [VRel] at hr
  obtain ⟨-,-,b,hc,hb⟩:=hr
  obtain ⟨r,hs⟩:=hs
  have hln:l≠[]:=by
   rintro rfl
   simp at hs
   exact hne hs.1
  obtain ⟨b',cs,p1,p2,p3,p4,p5,p6⟩:=vec_at hH ha hln
  have hb:=hb (by rw [p5,p6,hl])
  rw [p1] at hb
  cases hb
  have hcr:CRel g w l' b k:=by
   intro j v' hj
   have hj2:l[k+j]? = some v':=by
    have h1:(l.drop k)[j]? = some v':=by
     rw [hs,yaj (yac.1 hj).1]
     exact hj
    rwa [yc2] at h1
   obtain ⟨c,q1,q2⟩:=p4.get hj2
   rw [ybp] at q1
   split at q1
   ·exact ⟨c,cell_iff.2 ⟨cs,u,_,p2,by simpa using q1⟩,q2⟩
   ·cases q1
  obtain ⟨c,h1,h2⟩:=load_run (hT _ _ ht) hcr hv
  exact ⟨c,by simp [execOp,ho,hc,Instr.loadAt,Instr.sureAddr,h1],h2⟩
theorem st_store_vp [Glob] (hT:TOk P T) {t u:TypeId} {x y:Operand} {ti:TI} {i n k sz:Nat} {l vs:List AV} {v:AV} (ho:o.op=.store t x y) (ht:T t=some ti) (hx:ev env x=.vp i n k)
  (ha:At hp i (.vec u sz l)) (hl:l.length=n * sz) (hy:ev env y=v) (hc:v.cells=vs) (h1:zcd vs=true) (hsz:Nat.beq vs.length ti.sz=true) (hle:k+vs.length≤l.length) (h0:0<vs.length) (hput:Put hp i (.vec u sz (setL l k vs)) hp') :
  StepU P N hp env o hp':=by
 intro g w a hH hE
 have hr:=zar hE x
 rw [hx] at hr
 simp only [VRel] at hr
 obtain ⟨-,-,b,hcx,hb⟩:=hr
 have hln:l≠[]:=by
  rintro rfl
  have:k+vs.length≤0:=hle
  omega
 obtain ⟨b',cs,p1,p2,p3,p4,p5,p6⟩:=vec_at hH ha hln
 have hb:=hb (by rw [p5,p6,hl])
 rw [p1] at hb
 cases hb
 have hry:=zar hE y
 rw [hy] at hry
 have hone:v.one=true∨∃ l,v=.agg l:=by
  subst hc
  clear hry hy hle hsz
  cases v <;> simp_all [AV.one,AV.cells,zcd]
 have hlv:=hry.cells hone
 rw [hc] at hlv
 obtain ⟨d,i',e1,e2,e3,e4,-⟩:=zaj (hT _ _ ht)
 have hvl:=hlv.length
 generalize hcv:(a.eval y).cells.toList=cv at hlv hvl
 have hrun:=run_storeCells_at P b k u cv 0 cs w p2 (by omega) (hlv.one (zcq _ h1))
 simp only [yby] at hrun
 have hsize:(cs.toList.take k++cv++cs.toList.drop (k+cv.length)).length=cs.size:=by simp;omega
 generalize hnew:(cs.toList.take k++cv++cs.toList.drop (k+cv.length)).toArray=new at hrun
 have hns:new.size=cs.size:=by rw [← hnew];simpa using hsize
 have hheap:(w.setRow b new).heap[b]? = some (.cells new u (0,0)):=setRow_heap w _ cs _ u _ p2
 have hother:∀ q,q≠b→(w.setRow b new).heap[q]? = w.heap[q]? := fun q hq=>setRow_other w _ q _ hq
 have hnl:new.toList=cs.toList.take k++cv++cs.toList.drop (k+cv.length):=by rw [← hnew]
 have hrel:LRel g w (setL l k vs) (new.toList.take (setL l k vs).length):=by
  rw [setL_len hle,hnl]
  have e1:(cs.toList.take k++cv++cs.toList.drop (k+cv.length)).take l.length=(cs.toList.take l.length).take k++cv++(cs.toList.take l.length).drop (k+vs.length):=by
   rw [List.take_append,List.take_append,ydq,ydq,List.drop_take,← hvl]
   have q1:(cs.toList.take k).length=k:=by simp;omega
   have q2:min l.length k=k:=by omega
   have q3:min k l.length=k:=by omega
   rw [q2,q3]
   congr 1
   ·congr 1
    rw [yb3 (by simp;omega)]
   ·congr 1
    simp
    omega
  rw [e1]
  exact ((p4.take k).append hlv).append (p4.drop (k+vs.length))
 obtain ⟨f2,f3⟩:=hH.setVec (w':=w.setRow b new) (cs':=new) ha p1 p2 hheap hns (fun q _ hq=>hother q hq) (by simp) rfl rfl rfl (by simp) hrel (setL_len hle) hput
 refine ⟨g,_,?_,f2,f3⟩
 have hszz:(a.eval y).cells.size=i'.size:=by
  have:vs.length=ti.sz:=yap hsz
  rw [← e4,← this,← hvl,← hcv];simp
 simp [execOp,ho,hcx,Instr.storeAt,Instr.sureAddr,storeVar,za2 e2,hszz,hcv,hrun]
end
end
section
def bytesV:List AV→Option (List Int)
 | []=>some []
 | .int k z::l=>match ikEq k .u8 with
   | true=>match bytesV l with
     | some r=>some (z::r)
     | none=>none
   | false=>none
 | _::_=>none
def strOfB (ns:List Int):ByteArray:=ns.foldl (fun r n=>r.push (UInt8.ofNat n.toNat)) .empty
theorem bytesV_spec:∀ {l:List AV} {ns:List Int},bytesV l=some ns→l=ns.map fun z=>AV.int .u8 z
 | [],ns,h=>by
   have h:some []=some ns:=h
   cases h
   rfl
 | v::l,ns,h=>by
   cases v with
   | int k z =>
     unfold bytesV at h
     split at h
     ·rename_i hk
      split at h
      ·rename_i r hr
       cases h
       rw [zc4 hk,bytesV_spec hr]
       rfl
      ·cases h
     ·cases h
   | _=>simp [bytesV] at h
theorem bytes_rel {g:G} {w:World}:∀ {ns:List Int} {cs:List Value},LRel g w (ns.map fun z=>AV.int .u8 z) cs→cs=ns.map (Value.int .u8)
 | [],cs,h=>by simpa [LRel] using h
 | z::ns,cs,h=>by
   simp only [ybx,LRel] at h
   obtain ⟨c,r,rfl,h1,h2⟩:=h
   simp only [VRel] at h1
   rw [h1,bytes_rel h2]
   rfl
def convB (T:TypeId→Option TI) (s t:TypeId) (a:AV):Option AV:=match T s with
 | some si=>match si.kind with
   | .sl e=>match T e with
     | some ei=>match ei.kind with
       | .int k=>match ikEq k .u8 with
         | true=>match T t with
           | some ti=>match ti.kind with
             | .str=>match slOf a with
               | some (n,l)=>match Nat.beq l.length n with
                 | true=>match bytesV l with
                   | some ns=>some (.str (strOfB ns))
                   | none=>none
                 | false=>none
               | none=>none
             | _=>none
           | none=>none
         | false=>none
       | _=>none
     | none=>none
   | _=>none
 | none=>none
section
variable {P:Program} {N:FN} {env:Env} {hp hp':Hp} {o:Oper} {T:TypeId→Option TI}
theorem st_convB [Glob] (hT:TOk P T) {s t:TypeId} {x:Operand} {v:AV} (ho:o.op=.convert s t x) (h:convB T s t (ev env x)=some v):Step P N hp env o v hp :=
 ybf fun g w a hH hE=>by
  unfold convB at h
  split at h
  case h_2=>cases h
  rename_i si hs
  split at h
  case h_2=>cases h
  rename_i e hk
  split at h
  case h_2=>cases h
  rename_i ei he
  split at h
  case h_2=>cases h
  rename_i k hek
  split at h
  case h_2=>cases h
  rename_i hk8
  split at h
  case h_2=>cases h
  rename_i ti ht
  split at h
  case h_2=>cases h
  rename_i htk
  split at h
  case h_2=>cases h
  rename_i n l hx
  split at h
  case h_2=>cases h
  rename_i hn
  split at h
  case h_2=>cases h
  rename_i ns hb
  cases h
  have hk8:=zc4 hk8
  subst hk8
  have hn:=yap hn
  have hl:=bytesV_spec hb
  obtain ⟨A,cap,hc,hcap,hm⟩:=zc6 (zar hE x) hx
  obtain ⟨d,i',e1,e2,e3,-⟩:=zaj (hT _ _ hs)
  rw [hk] at e3
  have hd:d=.slice e:=by cases d <;> simp [tkOf] at e3;rw [e3]
  subst hd
  obtain ⟨d2,i2,f1,f2,f3,-⟩:=zaj (hT _ _ he)
  rw [hek] at f3
  have hd2:d2=.int .u8:=by cases d2 <;> simp [tkOf] at f3;rw [f3]
  subst hd2
  obtain ⟨d3,i3,g1,g2,g3,-⟩:=zaj (hT _ _ ht)
  rw [htk] at g3
  have hd3:d3=.string:=by cases d3 <;> simp [tkOf] at g3;rfl
  subst hd3
  refine ⟨.string (strOfB ns),?_,by simp [VRel]⟩
  have hconv:=run_convert_bytes_string (P:=P) w s t e A n cap e1 f1 g1
  have hbs:(Conv.bytesToString (.slice A n cap)).run P w=.ok (.string (strOfB ns)) w:=by
   rcases hm with rfl|⟨b,q,rfl,hm⟩
   ·have hns:ns=[]:=by cases ns with
      | nil=>rfl
      | cons z r=>simp at hl
    subst hns
    have hn0:n=0:=by rw [← hn];rfl
    subst hn0
    cases A with
    | none=>simp [Conv.bytesToString,Sem.run_pure,strOfB]
    | some p=>exact run_bytesToString w p 0 cap [] (run_loadCells_list (P:=P) (w:=w) p [] (fun j v h=>by cases h))
   ·obtain ⟨cs,hcs,hcc⟩:=hm.list
    rw [hl] at hcs
    have hcs:=bytes_rel hcs
    subst hcs
    have hlen:(ns.map (Value.int .u8)).length=n:=by rw [← hn,hl];simp
    have:=run_loadCells_list (P:=P) (w:=w) ⟨b,q,none⟩ (ns.map (Value.int .u8)) (fun j u hu=>by rw [Addr.add_lit];exact hcc j u hu)
    rw [hlen] at this
    exact run_bytesToString w ⟨b,q,none⟩ n cap ns this
  simp [execOp,ho,hc,hconv,hbs]
end
end
section
def posIn:List Nat→Nat→Nat
 | [],_=>1000000
 | x::l,j=>match Nat.beq x j with
   | true=>0
   | false=>Nat.succ (posIn l j)
def rnE (ls:List Nat) (e:Edge):Edge:=⟨posIn ls e.on,e.ground⟩
def rnG (ls:List Nat):Option (Nat×Bool)→Option (Nat×Bool)
 | none=>none
 | some (j,b)=>some (posIn ls j,b)
def rnO (ls:List Nat) (o:Oper):Oper:=⟨o.dst,o.op,o.type,o.pos,⟨o.after.toList.map (rnE ls)⟩,rnG ls o.guard⟩
def permL (ls:List Nat) (all:List Oper):List Nat→Option (List Oper)
 | []=>some []
 | i::r=>match lget all i with
   | some o=>match permL ls all r with
     | some l=>some (rnO ls o::l)
     | none=>none
   | none=>none
def allB (p:Nat→Bool):Nat→Bool
 | 0=>true
 | n+1=>match p n with
   | true=>allB p n
   | false=>false
theorem allB_spec {p:Nat→Bool}:∀ {n:Nat},allB p n=true→∀ i,i<n→p i=true
 | 0,_,i,hi=>absurd hi (by omega)
 | n+1,h,i,hi=>by
   unfold allB at h
   cases hp:p n with
   | false=>simp [hp] at h
   | true =>
     simp only [hp] at h
     rcases yag i n with h1|h1
     ·exact allB_spec h i h1
     ·rw [show i=n by omega];exact hp
def permB (ls:List Nat) (n:Nat):Bool:=Nat.blt n 1000000&&(Nat.beq ls.length n&&(allB (fun j=>match lget ls j with
 | some i=>Nat.blt i n&&Nat.beq (posIn ls i) j
 | none=>false) n&&allB (fun i=>Nat.blt (posIn ls i) n&&(match lget ls (posIn ls i) with
 | some k=>Nat.beq k i
 | none=>false)) n))
theorem permL_get {ls:List Nat} {all:List Oper}:∀ {r:List Nat} {l:List Oper},permL ls all r=some l→l.length=r.length∧∀ (j i:Nat),r[j]? = some i→∃ o,all[i]? = some o∧l[j]? = some (rnO ls o)
 | [],l,h=>by
   simp only [permL,yad] at h
   subst h
   exact ⟨rfl,fun j i hj=>by simp at hj⟩
 | x::r,l,h=>by
   simp only [permL] at h
   cases ho:lget all x with
   | none=>simp [ho] at h
   | some o =>
     simp only [ho] at h
     cases hr:permL ls all r with
     | none=>simp [hr] at h
     | some l' =>
       simp only [hr,yad] at h
       subst h
       obtain ⟨h1,h2⟩:=permL_get hr
       rw [za9] at ho
       refine ⟨by simp [h1],fun j i hj=>?_⟩
       cases j with
       | zero =>
         simp only [List.getElem?_cons_zero,yad] at hj
         subst hj
         exact ⟨o,ho,by simp⟩
       | succ j =>
         simp only [List.getElem?_cons_succ] at hj ⊢
         exact h2 j i hj
structure Perm' (ls:List Nat) (n:Nat):Prop where
 len:ls.length=n
 big:n<1000000
 at_:∀ j,j<n→∃ i,ls[j]? = some i∧i<n∧posIn ls i=j
 pos:∀ i,i<n→posIn ls i<n∧ls[posIn ls i]? = some i
theorem permB_spec {ls:List Nat} {n:Nat} (h:permB ls n=true):Perm' ls n:=by
 unfold permB at h
 simp only [yak] at h
 obtain ⟨h0,h1,h2,h3⟩:=h
 refine ⟨yap h1,by have:n+1≤1000000:=ybv h0;omega,fun j hj=>?_,fun i hi=>?_⟩
 ·have:=allB_spec h2 j hj
  rw [za9] at this
  cases hl:ls[j]? with
  | none=>simp [hl] at this
  | some i =>
    simp only [hl,yak] at this
    exact ⟨i,rfl,(ybv this.1:i+1≤n),yap this.2⟩
 ·have:=allB_spec h3 i hi
  rw [za9,yak] at this
  refine ⟨(ybv this.1:posIn ls i+1≤n),?_⟩
  cases hl:ls[posIn ls i]? with
  | none=>simp [hl] at this
  | some k =>
    simp only [hl] at this
    rw [yap this.2]
theorem posIn_out:∀ {ls:List Nat} {j:Nat},j ∉ ls→1000000≤posIn ls j
 | [],_,_=>yax _
 | x::l,j,h=>by
   unfold posIn
   cases hb:Nat.beq x j with
   | true=>exact absurd (by rw [yap hb];simp) h
   | false=>exact Nat.le_succ_of_le (posIn_out (fun hm=>h (ya4 _ hm)))
theorem Perm'.out {ls:List Nat} {n:Nat} (h:Perm' ls n) {i:Nat} (hi:n≤i):n≤posIn ls i:=by
 have:=posIn_out (ls:=ls) (j:=i) fun hm=>by
  obtain ⟨j,hj,he⟩:=ydd hm
  obtain ⟨k,h1,h2,-⟩:=h.at_ j (by rw [← h.len];exact hj)
  rw [yal hj,he] at h1
  cases h1
  omega
 have:=h.big
 omega
section
variable {P:Program} {F:Fence}
theorem any_perm {ls:List Nat} {all all':List Oper} {Q:Exit→Act→World→Prop} (hp:Perm' ls all.length) (hl:permL ls all ls=some all') :
  ∀ (fuel:Nat) (listed listed':Array Bool) (a:Act) (w:World),listed.size=all.length→listed'.size=all.length→(∀ i,listed.getD i false=listed'.getD (posIn ls i) false) →
   wpAnyIn F 0 P .any all'.toArray Q fuel listed' a w→wpAnyIn F 0 P .any all.toArray Q fuel listed a w:=by
 obtain ⟨hlen,hget⟩:=permL_get hl
 have hlen':all'.length=all.length:=hlen.trans hp.len
 have hop:∀ i o,all[i]? = some o→all'[posIn ls i]? = some (rnO ls o):=by
  intro i o ho
  have hi:i<all.length:=(yac.1 ho).1
  obtain ⟨h1,h2⟩:=hp.pos i hi
  obtain ⟨o',h3,h4⟩:=hget _ _ h2
  rw [ho] at h3
  cases h3
  exact h4
 have hno:∀ i,all.length≤i→all'[posIn ls i]? = none:=fun i hi=>ycg (by have:=hp.out hi;omega)
 have hyl:∀ (tmps:Array Value) j,yielded all'.toArray tmps (posIn ls j)=yielded all.toArray tmps j:=by
  intro tmps j
  unfold yielded
  rcases yag j all.length with h|h
  ·have:=hop j all[j] (yal h)
   simp only [ydn,this,yal h,yco]
   rfl
  ·simp only [ydn,hno j h,ycg h]
 have hwt:∀ (tmps:Array Value) o,Region.wanted (rnO ls o) (yielded all'.toArray tmps)=Region.wanted o (yielded all.toArray tmps):=by
  intro tmps o
  unfold Region.wanted rnO
  cases hg:o.guard with
  | none=>simp [rnG]
  | some jb =>
    obtain ⟨j,b⟩:=jb
    simp only [rnG,hyl]
 have hrd:∀ (listed listed':Array Bool),listed.size=all.length→listed'.size=all.length→(∀ i,listed.getD i false=listed'.getD (posIn ls i) false)→∀ i,i<all.length→(i∈Region.ready .any all.toArray listed↔posIn ls i∈Region.ready .any all'.toArray listed'):=by
  intro listed listed' hs hs' hL i hi
  rw [mem_ready',mem_ready']
  have hpi:=(hp.pos i hi).1
  have e1:listed.getD i true=listed.getD i false:=by simp [Array.getD,show i<listed.size by omega]
  have e2:listed'.getD (posIn ls i) true=listed'.getD (posIn ls i) false:=by simp [Array.getD,show posIn ls i<listed'.size by omega]
  rw [e1,e2,hL i]
  have ho:=hop i all[i] (yal hi)
  constructor
  ·rintro ⟨-,h2,o,h3,h4⟩
   have h3':all[i]? = some o:=by simpa using h3
   refine ⟨by simpa [hlen'] using hpi,h2,rnO ls o,by simpa using hop i o h3',fun e he hb=>?_⟩
   obtain ⟨e0,he0,rfl⟩:=ybq.1 he
   have:=h4 e0 he0 hb
   rw [hL] at this
   exact this
  ·rintro ⟨-,h2,o',h3,h4⟩
   refine ⟨by simpa using hi,h2,all[i],by simp [hi],fun e he hb=>?_⟩
   have h3':all'[posIn ls i]? = some o':=by simpa using h3
   rw [ho] at h3'
   cases h3'
   have:=h4 (rnE ls e) (ybq.2 ⟨e,he,rfl⟩) hb
   rw [hL]
   exact this
 intro fuel
 induction fuel with
 | zero =>
   intro listed listed' a w hs hs' hL h
   refine ⟨?_,h.2⟩
   cases hr:Region.ready .any all.toArray listed with
   | nil=>rfl
   | cons i r =>
     have hm:i∈Region.ready .any all.toArray listed:=by rw [hr];simp
     have hi:i<all.length:=by have:=(mem_ready'.1 hm).1;simpa using this
     have:=(hrd listed listed' hs hs' hL i hi).1 hm
     rw [h.1] at this
     cases this
 | succ fuel ih =>
   intro listed listed' a w hs hs' hL h
   obtain ⟨h0,h1⟩:=h
   refine ⟨fun hr=>h0 ?_,fun i hm=>?_⟩
   ·cases hr':Region.ready .any all'.toArray listed' with
    | nil=>rfl
    | cons j r =>
      have hm:j∈Region.ready .any all'.toArray listed':=by rw [hr'];simp
      have hj:j<all.length:=by have:=(mem_ready'.1 hm).1;simpa [hlen'] using this
      obtain ⟨i,-,hi,rfl⟩:=hp.at_ j hj
      have:=(hrd listed listed' hs hs' hL i hi).2 hm
      rw [hr] at this
      cases this
   ·have hi:i<all.length:=by have:=(mem_ready'.1 hm).1;simpa using this
    have hx:=h1 _ ((hrd listed listed' hs hs' hL i hi).1 hm)
    have ho:=hop i all[i] (yal hi)
    have hK:∀ a w,wpAnyIn F 0 P .any all'.toArray Q fuel (listed'.setIfInBounds (posIn ls i) true) a w→wpAnyIn F 0 P .any all.toArray Q fuel (listed.setIfInBounds i true) a w:=by
     intro a w
     refine ih _ _ a w (by simpa using hs) (by simpa using hs') fun j=>?_
     by_cases hji:j=i
     ·subst hji
      have hpj:=(hp.pos j hi).1
      simp [Array.getD,show j<listed.size by omega,show posIn ls j<listed'.size by omega]
     ·have hne:posIn ls j≠posIn ls i:=by
        intro e
        rcases yag j all.length with hj|hj
        ·have q1:=(hp.pos j hj).2
         have q2:=(hp.pos i hi).2
         rw [e,q2] at q1
         cases q1
         exact hji rfl
        ·have:=hp.out hj
         have:=(hp.pos i hi).1
         omega
      have:=hL j
      simpa [yb2 (ycq hji),yb2 (ycq hne)] using this
    unfold wpOpIn at hx ⊢
    simp only [ydn,ho,yal hi,hwt] at hx ⊢
    split
    ·rename_i hw
     rw [if_pos hw] at hx
     exact Oper.wpIn_mono hK hx
    ·rename_i hw
     rw [if_neg hw] at hx
     exact ⟨hx.1,hK _ _ hx.2⟩
end
section
variable {P:Program} {N:FN} {env:Env} {Q:Exit→Env→Hp→Prop}
theorem vw_perm [Glob] {id:Nat} {l l':List Oper} {ls:List Nat} (hp:permB ls l.length=true) (hl:permL ls l ls=some l') {base loc:Heap} {k:Nat} {I:Hp→Prop} (hI:∀ X:Heap,I ⟨base,k+X.length,loc++X⟩) (cl ks:List Nat) (hm:P.follows .mixedOrders=true) (hck:zev loc.length l' cl ks=true) (hN:dstOk N.n l'=true)
  (h:DR P N I l' l' ks env ⟨base,k,loc⟩ (Q .normal)):VW P N (.region id l.toArray true) Q env ⟨base,k,loc⟩:=by
 intro g w a hH hE
 refine wpIn_region_any hm ?_
 have key:=zhi (tl:=[]) (Qc:=Lift N Q g w a.defers) hI cl ks (by rw [yat];exact hck) (by rw [yat];exact hN) (fun j oj hj ho=>by
  rw [yat] at ho
  have:=(yac.1 ho).1
  omega) (by rw [yat];exact h) hH hE (fun env' hp' g' w' a' fuel listed hK q1 q2 _ _ hH' hE' hx' hd'=>by
   rw [yat] at q1 ⊢
   have hr:=ready_done q1 q2
   have hQ:Lift N Q g w a.defers .normal a' w':=⟨_,_,g',hK,hH',hE',hx',DRel.of_eq hd'⟩
   cases fuel with
   | zero=>exact ⟨hr,hQ⟩
   | succ fuel=>exact ⟨fun _=>hQ,fun i hi=>by rw [hr] at hi;cases hi⟩)
 rw [yat] at key
 have hlen:l'.length=l.length:=(permL_get hl).1.trans (permB_spec hp).len
 rw [hlen] at key
 have:=any_perm (permB_spec hp) hl _ (Array.replicate l.length false) _ _ _ (by simp) (by simp) (fun i=>by simp [Array.getD]) key
 simpa using this
end
end
section
theorem wk_tokVec (t:Nat):Wk (.sl (some t) 0 []) (.vs t 0):=fun g w c h=>by
 simp only [VRel] at h ⊢
 obtain ⟨A,cap,rfl,hn,-,ht⟩:=h
 obtain ⟨h1,h2,h3⟩:=ht t rfl
 refine ⟨h1,by omega,A,cap,rfl,hn,fun e=>?_⟩
 obtain ⟨q1,q2,-⟩:=h3 (by simpa using e)
 exact ⟨q1,q2⟩
theorem HRel.tokVec [Glob] {g:G} {w:World} {base:Heap} {k:Nat} {loc:Heap} {j:Nat} {e:TypeId} {sz:Nat} (h:HRel g w ⟨base,k,loc⟩) (hj:loc[j]? = some (.tok e sz 0)):HRel g w ⟨base,k,loc.set j (.vec e sz [])⟩:=by
 have hat:(⟨base,k,loc⟩:Hp).all[base.length+j]? = some (.tok e sz 0):=zci (by rw [za9];exact hj)
 have key:∀ (i:Nat) (B:Blk),(⟨base,k,loc.set j (.vec e sz [])⟩:Hp).all[i]? = some B→(i=base.length+j∧B=.vec e sz [])∨(⟨base,k,loc⟩:Hp).all[i]? = some B:=by
  intro i B hi
  unfold Hp.all at hi ⊢
  simp only at hi ⊢
  rcases yag i base.length with hlt|hge
  ·rw [yaj hlt] at hi ⊢
   exact .inr hi
  ·rw [yam hge] at hi ⊢
   rw [yaw] at hi
   split at hi
   ·rename_i e1
    split at hi
    ·cases hi;exact .inl ⟨by omega,rfl⟩
    ·cases hi
   ·exact .inr hi
 refine ⟨h.n,by simpa using h.k,fun i B hi=>?_,h.lt,fun i hi=>?_,fun i1 i2 B C b h1 h2 hb hc=>?_,h.glob⟩
 ·rcases key i B hi with ⟨rfl,rfl⟩|h'
  ·obtain ⟨e1,e2,e3⟩:=h.rel _ _ hat
   refine ⟨e1,e2,?_⟩
   rcases e3 with ⟨q1,-,q3⟩|⟨b,cs,q1,q2,q3,q4,q5,q6⟩
   ·exact .inl ⟨q1,rfl,q3⟩
   ·exact .inr ⟨b,cs,q1,q2,q3,q4,by simp,by simp [LRel],fun o=>q6 o (yah _)⟩
  ·exact h.rel i B h'
 ·have hd:=h.pend i hi
  unfold Hp.all at hd ⊢
  simp only at hd ⊢
  rcases yag i base.length with hlt|hge
  ·rw [yaj hlt] at hd ⊢
   exact hd
  ·rw [yam hge] at hd ⊢
   rw [yaw]
   split
   ·rename_i e1
    rw [← e1,hj] at hd
    cases hd
   ·exact hd
 ·have key2:∀ (i:Nat) (B:Blk),(⟨base,k,loc.set j (.vec e sz [])⟩:Hp).all[i]? = some B→∀ b,locs g i B=some b→∃ B',(⟨base,k,loc⟩:Hp).all[i]? = some B'∧locs g i B'=some b:=by
    intro i B hi b hb
    rcases key i B hi with ⟨rfl,rfl⟩|h'
    ·exact ⟨_,hat,hb⟩
    ·exact ⟨B,h',hb⟩
  obtain ⟨B',p1,p2⟩:=key2 i1 B h1 b hb
  obtain ⟨C',p3,p4⟩:=key2 i2 C h2 b hc
  exact h.inj i1 i2 B' C' b p1 p3 p2 p4
def CapV (m:Nat) (v:AV):Prop:=∃ c:Nat,v=.int .i64 c∧m≤c
section
variable {P:Program} {N:FN} {env:Env} {hp hp':Hp} {o:Oper} {T:TypeId→Option TI}
theorem st_makeVec [Glob] (hT:TOk P T) {base loc:Heap} {q:Nat} {t e:TypeId} {x y:Operand} {ti ei:TI} {k k':IntKind} {n:Nat} {z:List AV} (ho:o.op=.makeSlice t x y) (ht:T t=some ti) (hk:ti.kind=.sl e) (he:T e=some ei) (hz:ei.zero=some z) (hzl:z.length=ei.sz)
  (hx:ev env x=.int k 0) (hy:ev env y=.int k' (n:Int)) (hn:(n:Int)≤9223372036854775807) (hb:n * ei.bytes≤281474976710656):Step P N ⟨base,q,loc⟩ env o (.vs (base.length+q) 0) ⟨base,q+1,loc++[.vec e ei.sz []]⟩:=by
 intro g w a hH hE
 obtain ⟨c,g',w',h1,h2,h3,h4⟩:=st_makeC hT ho ht hk he hz hzl hx hy hn hb g w a hH hE
 refine ⟨c,g',w',h1,?_,wk_tokVec _ _ _ _ h3,h4⟩
 have hq:loc.length=q:=hH.k
 have:=h2.tokVec (j:=loc.length) (e:=e) (sz:=ei.sz) (by simp)
 simpa using this
theorem st_len_vk [Glob] (hT:TOk P T) {t e:TypeId} {x:Operand} {ti:TI} {b n m:Nat} (ho:o.op=.call { callee:=.builtin .len,args:=#[x],argTypes:=#[t] }) (ht:T t=some ti)
  (hk:ti.kind=.sl e) (hx:ev env x=.vk b n m):Step P N hp env o (.int .i64 n) hp :=
 ybf fun g w a _ hE=>by
  have hr:=zar hE x
  rw [hx] at hr
  simp only [VRel] at hr
  obtain ⟨-,-,-,A,cap,hc,-⟩:=hr
  obtain ⟨d,i',e1,e2,e3,-⟩:=zaj (hT _ _ ht)
  rw [hk] at e3
  have hd:d=.slice e:=by cases d <;> simp [tkOf] at e3;rw [e3]
  subst hd
  refine ⟨.int .i64 n,?_,by simp [VRel]⟩
  simp [execOp,ho,resolve,invoke,builtin,Builtin.len_,hc,run_underlying e1,goInt]
theorem st_cap_vk [Glob] (hT:TOk P T) {t e:TypeId} {x:Operand} {ti:TI} {b n m:Nat} (ho:o.op=.call { callee:=.builtin .cap,args:=#[x],argTypes:=#[t] }) (ht:T t=some ti)
  (hk:ti.kind=.sl e) (hx:ev env x=.vk b n m):∀ g w a,ERel N g w env a→∃ v c,CapV m v∧(execOp a.eval o).run P w=.ok (.value c) w∧VRel g w v c:=fun g w a hE=>by
 have hr:=zar hE x
 rw [hx] at hr
 simp only [VRel] at hr
 obtain ⟨-,-,-,A,cap,hc,hm,-⟩:=hr
 obtain ⟨d,i',e1,e2,e3,-⟩:=zaj (hT _ _ ht)
 rw [hk] at e3
 have hd:d=.slice e:=by cases d <;> simp [tkOf] at e3;rw [e3]
 subst hd
 refine ⟨.int .i64 cap,.int .i64 cap,⟨cap,rfl,hm⟩,?_,by simp [VRel]⟩
 simp [execOp,ho,resolve,invoke,builtin,Builtin.cap_,hc,run_underlying e1,goInt]
theorem run_sliceTo [Glob] {g:G} {w:World} {a:Act} (hT:TOk P T) {t e:TypeId} {x y:Operand} {ti ei:TI} {k:IntKind} {hi n cap:Nat} {A:Option Addr} (ho:o.op=.slice t x none (some y) none) (ht:T t=some ti)
  (hk:ti.kind=.sl e) (he:T e=some ei) (hE:ERel N g w env a) (hc:a.eval x=.slice A n cap) (hy:ev env y=.int k (hi:Int)) (h2:hi≤cap):(execOp a.eval o).run P w=.ok (.value (.slice A hi cap)) w:=by
 obtain ⟨d,i',e1,e2,e3,-⟩:=zaj (hT _ _ ht)
 rw [hk] at e3
 have hd:d=.slice e:=by cases d <;> simp [tkOf] at e3;rw [e3]
 subst hd
 obtain ⟨d2,i2,f1,f2,f3,f4,-⟩:=zaj (hT _ _ he)
 have hb:(Instr.sliceBounds true n cap none (some (a.eval y)) none).run P w=.ok (0,hi,cap) w:=by
  unfold Instr.sliceBounds
  simp [zb6 (P:=P) hE hy h2]
 have hA:(if cap=0 then A else A.map (·.add (0 * i2.size)))=A:=by
  split
  ·rfl
  ·cases A with
   | none=>rfl
   | some q=>obtain ⟨b',o',s'⟩:=q;cases s' <;> simp [Addr.add]
 simp only [execOp,ho,hc,yc5,ybb]
 unfold Instr.sliceAt Instr.slice
 simp only [Nat.zero_mul] at hA
 simp [run_underlying e1,hb,za2 f2,hA]
theorem st_slice_vs [Glob] (hT:TOk P T) {t e:TypeId} {x y:Operand} {ti ei:TI} {k:IntKind} {i n hi:Nat} (ho:o.op=.slice t x none (some y) none) (ht:T t=some ti)
  (hk:ti.kind=.sl e) (he:T e=some ei) (hx:ev env x=.vs i n) (hy:ev env y=.int k (hi:Int)) (h2:hi≤n):Step P N hp env o (.vk i hi n) hp :=
 ybf fun g w a hH hE=>by
  have hr:=zar hE x
  rw [hx] at hr
  simp only [VRel] at hr
  obtain ⟨h1,h0,A,cap,hc,hn,hA⟩:=hr
  refine ⟨_,run_sliceTo hT ho ht hk he hE hc hy (by omega),?_⟩
  simp only [VRel]
  exact ⟨h1,h0,h2,A,cap,rfl,hn,hA⟩
theorem st_slice_vk [Glob] (hT:TOk P T) {t e:TypeId} {x y:Operand} {ti ei:TI} {k:IntKind} {i n m:Nat} (ho:o.op=.slice t x none (some y) none) (ht:T t=some ti)
  (hk:ti.kind=.sl e) (he:T e=some ei) (hx:ev env x=.vk i n m) (hy:ev env y=.int k (m:Int)):Step P N hp env o (.vs i m) hp :=
 ybf fun g w a hH hE=>by
  have hr:=zar hE x
  rw [hx] at hr
  simp only [VRel] at hr
  obtain ⟨h1,h0,-,A,cap,hc,hn,hA⟩:=hr
  refine ⟨_,run_sliceTo hT ho ht hk he hE hc hy hn,?_⟩
  simp only [VRel]
  exact ⟨h1,h0,A,cap,rfl,hn,hA⟩
theorem st_index_vk [Glob] (hT:TOk P T) {t e u:TypeId} {x y:Operand} {ti ei:TI} {i n m sz:Nat} {k:IntKind} {q:Int} {l:List AV} (ho:o.op=.indexAddr t x y) (ht:T t=some ti)
  (hk:ti.kind=.sl e) (he:T e=some ei) (hx:ev env x=.vk i n m) (hy:ev env y=.int k q) (ha:At hp i (.vec u sz l)) (hl:l.length=m * sz) (hsz:ei.sz=sz) (hne:l≠[]) (h0:0≤q) (hn:q<n):Step P N hp env o (.vp i m (q.toNat * sz)) hp :=
 ybf fun g w a hH hE=>by
  have hr:=zar hE x
  rw [hx] at hr
  simp only [VRel] at hr
  obtain ⟨hok,hle,hnm,A,cap,hc,hnc,hA⟩:=hr
  obtain ⟨b,cs,p1,p2,p3,p4,p5,p6⟩:=vec_at hH ha hne
  obtain ⟨rA,-⟩:=hA (by rw [p5,p6,hl])
  rw [p1] at rA
  have hry:=zar hE y
  rw [hy] at hry
  simp only [VRel] at hry
  obtain ⟨d,i',e1,e2,e3,-⟩:=zaj (hT _ _ ht)
  rw [hk] at e3
  have hd:d=.slice e:=by cases d <;> simp [tkOf] at e3;rw [e3]
  subst hd
  obtain ⟨d2,i2,f1,f2,f3,f4,-⟩:=zaj (hT _ _ he)
  rw [rA] at hc
  simp only [ybb] at hc
  refine ⟨.pointer (some ⟨b,q.toNat * sz,none⟩),?_,?_⟩
  ·simp [execOp,ho,hc,hry,Instr.indexAt,asIntOf,run_underlying e1,h0,hn,za2 f2,Addr.add_lit,← f4,hsz]
  ·simp only [VRel]
   exact ⟨hok,hle,b,rfl,fun _=>p1⟩
end
end
section
theorem HRel.newVec [Glob] {g:G} {w:World} {hp:Hp} (h:HRel g w hp) (e:TypeId) (sz cap:Nat) (cs:Array Value) {l:List AV} (hl:LRel g w l cs.toList) (hcs:cs.size=cap * sz) (hcap:cap≤maxLen) :
  ∃ g',g'.ok g.n∧g'.tk g.n=⟨l.length,sz,cap,some w.heap.size⟩∧HRel g' (w.alloc (.cells cs e)) ⟨hp.base,hp.k+1,hp.loc++[.vec e sz l]⟩∧Ext g w g' (w.alloc (.cells cs e)):=by
 have hll:l.length=cs.size:=by have:=hl.length;simpa using this.symm
 let g':G:={ n:=g.n+1,blk:=g.blk,tk:=fun i=>if i=g.n then ⟨l.length,sz,cap,some w.heap.size⟩ else g.tk i,own:=fun b o=>g.own b o∨b=w.heap.size,pend:=g.pend }
 have hok:∀ i,g.ok i→g'.ok i:=fun i hi=>⟨Nat.lt_succ_of_lt hi.1,hi.2⟩
 have htk':∀ i,i<g.n→g'.tk i=g.tk i:=fun i hi=>by
  show (if i=g.n then _ else _)=_
  rw [if_neg (by omega)]
 have htk:g'.tk g.n=⟨l.length,sz,cap,some w.heap.size⟩:=by show (if g.n=g.n then _ else _)=_;rw [if_pos rfl]
 have hold:∀ b,b<w.heap.size→(w.alloc (.cells cs e)).heap[b]? = w.heap[b]? := fun b hb=>hao w _ hb
 have hsz:(w.alloc (.cells cs e)).heap.size=w.heap.size+1:=by show (w.heap.push _).size=_;rw [Array.size_push]
 have hx:Ext g w g' (w.alloc (.cells cs e)):=by
  refine ⟨yca _,fun _ _ h=>h,hok,fun i hi=>rfl,fun i hi=>.inl (htk' i hi.1),fun b o hb ho=>?_,rfl,rfl,rfl,(by first|exact yax _|exact yca _|(simp;done)),?_,fun b hb _=>hold b hb,fun b ds u fz hb=>⟨ds,?_,rfl,fun _ _=>rfl⟩⟩
  ·rcases ho with ho|ho
   ·exact ho
   ·omega
  ·show w.heap.size≤(w.alloc (.cells cs e)).heap.size
   rw [hsz];omega
  ·rw [hold _ (zbc hb),hb]
 have hokn:g'.ok g.n:=⟨Nat.lt_succ_self _,fun hp'=>yc7 g.n (by have:=(yac.1 (h.pend _ hp')).1;rw [zbe h] at this;exact this)⟩
 have hall:(⟨hp.base,hp.k+1,hp.loc++[.vec e sz l]⟩:Hp).all=hp.all++[.vec e sz l]:=by simp [Hp.all]
 have hlen:=zbe h
 refine ⟨g',hokn,htk,⟨?_,by simp [h.k],?_,?_,?_,?_,fun p hp'=>yc4 hx _ _ _ (h.glob p hp')⟩,hx⟩
 ·show g.n+1=_
  rw [h.n];simp [ydf]
 ·intro i C hi
  rw [hall] at hi
  rcases yag i hp.all.length with hlt|hge
  ·rw [yaj hlt] at hi
   have hC:=h.rel i C hi
   exact hC.keep hx (at_ok h hi) (fun b hb=>hold b (hC.loc_lt hb)) (htk' i (by omega)) (fun _ _ _ ho=>.inl ho)
  ·rw [yam hge] at hi
   have:i=hp.all.length:=by
    have:=(yac.1 hi).1
    simp at this;omega
   subst this
   simp at hi
   subst hi
   rw [hlen]
   refine ⟨by rw [htk],by rw [htk],.inr ⟨w.heap.size,cs,by rw [htk],heap_alloc_new w _,by rw [htk];exact hcs,by rw [htk];exact hcap,by omega,?_,fun o=>.inr rfl⟩⟩
   have e1:cs.toList.take l.length=cs.toList:=yb3 (by simp;omega)
   rw [e1]
   exact ycb hx _ _ hl
 ·rintro b o (ho|ho)
  ·have:=h.lt b o ho
   rw [hsz];omega
  ·rw [hsz];omega
 ·intro i hi
  have:=h.pend i hi
  rw [hall,yaj (yac.1 this).1,this]
 ·intro i j C D b hi hj hbi hbj
  rw [hall] at hi hj
  have key:∀ (i:Nat) (C:Blk) (b:Nat),(hp.all++[.vec e sz l])[i]? = some C→locs g' i C=some b →
    (i<hp.all.length∧hp.all[i]? = some C∧locs g i C=some b∧b<w.heap.size)∨(i=hp.all.length∧b=w.heap.size):=by
   intro i C b hi hb
   rcases yag i hp.all.length with hlt|hge
   ·rw [yaj hlt] at hi
    rw [zde hx (at_ok h hi) (htk' i (by omega))] at hb
    exact .inl ⟨hlt,hi,hb,(h.rel i C hi).loc_lt hb⟩
   ·rw [yam hge] at hi
    have:i=hp.all.length:=by
     have:=(yac.1 hi).1
     simp at this;omega
    subst this
    simp at hi
    subst hi
    refine .inr ⟨rfl,?_⟩
    simp only [locs] at hb
    rw [hlen,htk,yad] at hb
    exact hb.symm
  rcases key i C b hi hbi with ⟨h1,h2,h3,h4⟩|⟨h1,h2⟩ <;> rcases key j D b hj hbj with ⟨k1,k2,k3,k4⟩|⟨k1,k2⟩
  ·exact h.inj i j C D b h2 k2 h3 k3
  ·omega
  ·omega
  ·omega
section
variable {P:Program} {N:FN} {env:Env} {hp hp':Hp} {o:Oper} {T:TypeId→Option TI}
theorem buildSlice_run [Glob] (hT:TOk P T) {t e:TypeId} {ti ei:TI} {n:Nat} {parts:List (Nat×Operand)} {z l:List AV} (ho:o.op=.buildSlice t n parts.toArray) (ht:T t=some ti)
  (hk:ti.kind=.sl e) (he:T e=some ei) (hz:ei.zero=some z) (hzl:Nat.beq z.length ei.sz=true) (hsmall:Nat.ble (n * ei.sz) 16777216=true) (h1:allOA (zb7 env parts)=true) (hl:fillC (zds ei.sz) (repC n z) (zb7 env parts)=some l)
  {g:G} {w:World} {a:Act} (hE:ERel N g w env a):∃ cs:Array Value,(execOp a.eval o).run P w=.ok (.value (.slice (some ⟨w.heap.size,0,none⟩) n n)) (w.alloc (.cells cs e))∧LRel g w l cs.toList:=by
 obtain ⟨d,i0,e1,-,e3,-⟩:=zaj (hT _ _ ht)
 rw [hk] at e3
 have hd:d=.slice e:=by cases d <;> simp [tkOf] at e3;rw [e3]
 subst hd
 obtain ⟨d2,i,-,f2,-,f4,f5,f6⟩:=zaj (hT _ _ he)
 rw [hz] at f6
 cases hiz:i.zero with
 | none=>rw [hiz] at f6;cases f6
 | some zv =>
 rw [hiz] at f6
 simp only [ybb,yad] at f6
 have hzl':z.length=ei.sz:=yap hzl
 have hzr:LRel g w z zv.cells.toList:=by rw [f6];exact zej g w _
 have hzs:zv.cells.size=i.size:=by
  have:=hzr.length
  simp only [ych] at this
  rw [this,hzl',f4]
 have hzero:=zeros_rel hzr n
 rw [hzs] at hzero
 obtain ⟨cs',g1,g2⟩:=zhf (g:=g) (w:=w) (place:=zds ei.sz) (zb7 env parts) (parts.map fun p=>(p.1,a.eval p.2)) (repC n z) l _ (zfx _ h1) (by simp [zdo]) (zg3 hE parts) hzero hl
 have hle:n * i.size≤16777216:=by rw [← f4];exact ybv hsmall
 refine ⟨cs',?_,g2⟩
 have hfill:Instr.fill (fun j=>some (j * i.size,i.size)) ((Array.range (n * i.size)).map (zv.cells[· % zv.cells.size]!)) (parts.map fun p=>(p.1,a.eval p.2))=some cs':=by
  rw [← f4,← g1,← f4,hzs,← f4];rfl
 by_cases h0:n * i.size=0
 ·have he1:Instr.fill (fun j=>some (j * i.size,i.size)) #[] (parts.map fun p=>(p.1,a.eval p.2))=some cs':=by
    have:=hfill
    rw [h0,show Array.range 0=(#[]:Array Nat) from rfl,Array.map_empty] at this
    exact this
  have hr0:Array.range 0=(#[]:Array Nat):=rfl
  unfold execOp
  simp only [ho,Instr.buildSlice,Sem.run_bind,run_underlying e1,Result.andThen_ok,za2 f2]
  rw [if_neg (by omega)]
  simp only [h0,if_true,hr0]
  simp [newRow,he1]
 ·unfold execOp
  simp only [ho,Instr.buildSlice,Sem.run_bind,run_underlying e1,Result.andThen_ok,za2 f2]
  rw [if_neg (by omega)]
  simp only [h0,if_false]
  simp [zeroValue,typeInfo,f2,hiz,newRow,hfill]
theorem st_buildVec [Glob] (hT:TOk P T) {base loc:Heap} {q:Nat} {t e:TypeId} {ti ei:TI} {n:Nat} {parts:List (Nat×Operand)} {z l:List AV} (ho:o.op=.buildSlice t n parts.toArray) (ht:T t=some ti)
  (hk:ti.kind=.sl e) (he:T e=some ei) (hz:ei.zero=some z) (hzl:Nat.beq z.length ei.sz=true) (hsmall:Nat.ble (n * ei.sz) 16777216=true) (hn:Nat.ble n 16777216=true) (hle:Nat.beq l.length (n * ei.sz)=true) (h1:allOA (zb7 env parts)=true) (hl:fillC (zds ei.sz) (repC n z) (zb7 env parts)=some l) :
  Step P N ⟨base,q,loc⟩ env o (.vs (base.length+q) n) ⟨base,q+1,loc++[.vec e ei.sz l]⟩:=by
 intro g w a hH hE
 obtain ⟨cs,e1,e2⟩:=buildSlice_run hT ho ht hk he hz hzl hsmall h1 hl hE
 have hle:=yap hle
 have hcs:cs.size=n * ei.sz:=by have:=e2.length;simp at this;omega
 have hn:=ybv hn
 obtain ⟨g',q1,q2,q3,q4⟩:=hH.newVec e ei.sz n cs e2 hcs (by unfold maxLen;omega)
 refine ⟨_,g',_,e1,q3,?_,q4⟩
 have hn':=hH.n
 simp only at hn'
 simp only [VRel]
 rw [← hn',q2]
 exact ⟨q1,by simp only [hle];exact yax _,_,_,rfl,yax _,fun _=>⟨rfl,rfl⟩⟩
end
end
inductive RG where
 | v (a:AV)
 | lp (j o:Nat)
 | lit (b:Bool)
 deriving Inhabited
abbrev RE:=List (Nat×RG)
def tr (n0:Nat):RG→AV
 | .v a=>a
 | .lp j o=>.ptr (n0+j) o
 | .lit b=>.bool b
def trE (n0:Nat):RE→Env
 | []=>[]
 | (i,v)::l=>(i,tr n0 v)::trE n0 l
def rgetO:RE→Nat→Option RG
 | [],_=>none
 | (i,v)::l,t=>match Nat.beq i t with
   | true=>some v
   | false=>rgetO l t
def rget2 (top bot:RE) (t:Nat):Option RG:=match rgetO top t with
 | some v=>some v
 | none=>rgetO bot t
theorem zcw (n0:Nat):∀ a b:RE,trE n0 (a++b)=trE n0 a++trE n0 b
 | [],_=>rfl
 | (i,v)::l,b=>by simp [trE,zcw n0 l b]
theorem zc3 {n0:Nat} {t:Nat}:∀ {l:RE} {v:RG},rgetO l t=some v→∀ r:Env,get (trE n0 l++r) t=tr n0 v
 | [],_,h,_=>by simp [rgetO] at h
 | (i,w)::l,v,h,r=>by
   simp only [rgetO] at h
   simp only [trE,yci]
   cases hb:Nat.beq i t with
   | true=>simp only [hb,yad] at h;subst h;simp [get,hb]
   | false=>simp only [hb] at h;simp only [get,hb];exact zc3 h r
theorem zcz {n0:Nat} {t:Nat}:∀ {l:RE},rgetO l t=none→∀ r:Env,get (trE n0 l++r) t=get r t
 | [],_,_=>by simp [trE]
 | (i,w)::l,h,r=>by
   simp only [rgetO] at h
   simp only [trE,yci]
   cases hb:Nat.beq i t with
   | true=>simp [hb] at h
   | false=>simp only [hb] at h;simp only [get,hb];exact zcz h r
theorem zbu {n0:Nat} {top bot:RE} {t:Nat} {v:RG} (h:rget2 top bot t=some v):get (trE n0 (top++bot)) t=tr n0 v:=by
 unfold rget2 at h
 rw [zcw]
 cases hx:rgetO top t with
 | some w =>
   simp only [hx,yad] at h;subst h
   exact zc3 hx _
 | none =>
   simp only [hx] at h
   rw [zcz hx]
   have:=zc3 (n0:=n0) h []
   simpa using this
def evR [Glob] (top bot:RE):Operand→Option RG
 | .tmp t=>rget2 top bot t
 | .const v=>match nf (avc v) with
   | some (.bool b)=>some (.lit b)
   | some a=>some (.v a)
   | none=>none
 | .func f=>some (.v (.clo (.func f) [] []))
 | .global g=>some (.v (gget Glob.gl g))
theorem evR_const [Glob] {top bot:RE} {c:Value} {v:RG} (h:evR top bot (.const c)=some v) (n0:Nat):avc c=tr n0 v:=by
 simp only [evR] at h
 split at h
 ·rename_i b hb;simp only [yad] at h;subst h;rw [zfs hb];rfl
 ·rename_i a _ ha;simp only [yad] at h;subst h;rw [zfs ha];rfl
 ·cases h
theorem zb1 [Glob] {n0:Nat} {top bot:RE} {x:Operand} {v:RG} (h:evR top bot x=some v):ev (trE n0 (top++bot)) x=tr n0 v:=by
 cases x with
 | tmp t=>exact zbu h
 | const c=>exact evR_const h n0
 | func f=>simp only [evR,yad] at h;subst h;rfl
 | global g=>simp only [evR,yad] at h;subst h;rfl
inductive SR where
 | fail
 | reg (v:RG)
 | mem (v:RG)
 | box (t:TypeId) (l:List AV)
 | upd (j:Nat) (B:Blk) (v:Option RG)
 | updB (i:Nat) (B:Blk) (v:Option RG)
 | blk (B:Blk) (v:Nat→RG)
 | side (p:Prop) (s:SR)
 | ptr (i:Nat) (kl:Nat→SR) (kb:Blk→SR)
 | seg (l:List AV) (o:Nat) (k:List AV→SR)
 | ofs (i:Int) (n:Nat) (k:Nat→SR)
 | eqv (x:Int) (k:Int→SR)
 | sub (l:List AV) (o n:Nat) (k:List AV→SR)
 | nat (i:Int) (k:Nat→SR)
 | byte (s:ByteArray) (i:Int) (k:UInt8→SR)
 | or (a b:SR)
 | call (f:Fn) (as:List AV)
 | rel (S:List AV→List AV→Prop) (k:List AV→List AV→SR)
 | anyU (j:Nat) (S:Blk→AV→Prop)
 | blkU (S:Blk→Prop) (v:Nat→RG)
 | anyV (S:AV→Prop)
def ofV:Option AV→SR
 | some v=>.reg (.v v)
 | none=>.fail
def ofI:Option AV→SR
 | some (.int k x)=>.eqv x fun y=>.reg (.v (.int k y))
 | some v=>.reg (.v v)
 | none=>.fail
def memV:Option AV→SR
 | some v=>.mem (.v v)
 | none=>.fail
def av [Glob] (n0:Nat) (top bot:RE) (x:Operand):AV:=match evR top bot x with
 | some v=>tr n0 v
 | none=>.junk
def avF [Glob] (n0:Nat) (top bot:RE) (x:Operand):Option AV:=match evR top bot x with
 | some (.v a)=>some a
 | some (.lp j o)=>some (.ptr (n0+j) o)
 | some (.lit b)=>some (.bool b)
 | none=>none
theorem avF_av [Glob] {n0:Nat} {top bot:RE} {x:Operand} {a:AV} (h:avF n0 top bot x=some a):av n0 top bot x=a:=by
 unfold avF at h
 unfold av
 cases he:evR top bot x with
 | none=>simp [he] at h
 | some v=>cases v <;> simp only [he,yad] at h <;> subst h <;> rfl
def withV (v:Option AV) (k:AV→SR):SR:=match v with
 | some a=>k a
 | none=>.fail
def withL {α:Type} (v:Option (List α)) (k:List α→SR):SR:=match v with
 | some a=>k a
 | none=>.fail
def intS:BinOp→IntKind→Int→IntKind→Int→Option SR
 | .quo,k,m,k',n=>match ikEq k k' with
   | true=>some (.side (n≠0) (.eqv (k.wrap (m.tdiv n)) fun y=>.reg (.v (.int k y))))
   | false=>none
 | .rem,k,m,k',n=>match ikEq k k' with
   | true=>some (.side (n≠0) (.eqv (m.tmod n) fun y=>.reg (.v (.int k y))))
   | false=>none
 | .shl,k,m,_,n=>some (.side (0≤n) (.eqv (k.wrap (m * 2 ^ min n.toNat k.bits)) fun y=>.reg (.v (.int k y))))
 | .shr,k,m,_,n=>some (.side (0≤n) (.eqv (m.fdiv (2 ^ min n.toNat k.bits)) fun y=>.reg (.v (.int k y))))
 | _,_,_,_,_=>none
def strS (op:BinOp) (a b:ByteArray):SR:=match op with
 | .add=>.side (a.size+b.size≤9223372036854775807) (.reg (.v (.str (a++b))))
 | _=>ofV (strBin op a b)
def nilEqS (T:TypeId→Option TI) (op:BinOp) (t:TypeId) (l:List AV):SR:=match T t with
 | some ti=>match ti.kind with
   | .sl _=>match op with
     | .eql=>.anyV (NilV false l)
     | .neq=>.anyV (NilV true l)
     | _=>.fail
   | _=>.fail
 | none=>.fail
def binS (kn:TypeId→Nat) (T:TypeId→Option TI) (op:BinOp) (t:TypeId) (a b:AV):SR :=
 match a,b with
 | .int k m,.int k' n=>match intS op k m k' n with
   | some s=>s
   | none=>match ikEq k k' with
     | true=>ofI (intBin op k m n)
     | false=>.fail
 | .str a,.str b=>strS op a b
 | .bool a,.bool b=>match isBoolT T t with
   | true=>ofV (boolBin op a b)
   | false=>.fail
 | .agg l,.agg m=>match kn t with
   | _+2=>match eqV kn T 20 t (.agg l) (.agg m) with
     | some b=>match op with
       | .eql=>.reg (.v (.bool b))
       | .neq=>.reg (.v (.bool (!b)))
       | _=>.fail
     | none=>.fail
   | _=>.fail
 | .sl _ _ l,.nils=>nilEqS T op t l
 | .sx _ l,.nils=>nilEqS T op t l
 | _,_=>.fail
def moveS:Option RG→SR
 | some v=>.reg v
 | none=>.fail
def fieldS (T:TypeId→Option TI) (s:TypeId) (f:Nat):Option RG→SR
 | some (.lp j o)=>match T s with
   | some ti=>match ti.kind with
     | .st fs=>match lget fs f with
       | some (_,off,_+1,_)=>.reg (.lp j (o+off))
       | _=>.fail
     | _=>.fail
   | none=>.fail
 | some (.v a)=>match a with
   | .vp i n o=>match T s with
     | some ti=>match ti.kind with
       | .st fs=>match lget fs f with
         | some (_,off,_+1,_)=>.reg (.v (.vp i n (o+off)))
         | _=>.fail
       | _=>.fail
     | none=>.fail
   | a=>ofV (fieldV T s f a)
 | _=>.fail
def loadVP (T:TypeId→Option TI) (t:TypeId) (n o:Nat):Option Blk→SR
 | some (.vec _ sz l)=>match T t with
   | some ti=>.side (l.length=n * sz) (.seg l o fun l'=>.side (l'≠[]) (memV (loadC ti l')))
   | none=>.fail
 | _=>.fail
def loadS (T:TypeId→Option TI) (t:TypeId) (loc:Heap):Option RG→SR
 | some (.lp j o)=>match lget loc j with
   | some (.box _ l)=>match dropC o l with
     | some l'=>match T t with
       | some ti=>memV (loadC ti l')
       | none=>.fail
     | none=>.fail
   | _=>.fail
 | some (.v (.rptr l))=>match T t with
   | some ti=>memV (loadC ti l)
   | none=>.fail
 | some (.v (.ptr i o))=>.ptr i (fun j=>match lget loc j with
    | some (.box _ l)=>match dropC o l with
      | some l'=>match T t with
        | some ti=>memV (loadC ti l')
        | none=>.fail
      | none=>.fail
    | _=>.fail) (fun B=>match B with
      | .box _ l=>match dropC o l with
        | some l'=>match T t with
          | some ti=>memV (loadC ti l')
          | none=>.fail
        | none=>.fail
      | _=>.fail)
 | some (.v (.vp i n o))=>.ptr i (fun j=>loadVP T t n o (lget loc j)) (fun B=>loadVP T t n o (some B))
 | _=>.fail
def cellsS (v:AV):Option (List AV):=match v with
 | .agg l=>match zcd l with
   | true=>some l
   | false=>none
 | .tup _|.junk=>none
 | v=>some [v]
theorem cellsS_spec {v:AV} {l:List AV} (h:cellsS v=some l):v.cells=l∧zcd l=true:=by
 cases v <;> simp only [cellsS,yad,reduceCtorEq] at h
 case agg m =>
  cases hm:zcd m with
  | true=>simp only [hm,yad] at h;subst h;exact ⟨rfl,hm⟩
  | false=>simp [hm] at h
 all_goals subst h;exact ⟨rfl,rfl⟩
def storeVP (n o:Nat) (vs:List AV) (k:Nat→Nat→List AV→SR):Option Blk→SR
 | some (.vec e sz l)=>.side (l.length=n * sz∧o+vs.length≤l.length∧0<vs.length) (.rel (fun a _=>a=setL l o vs) fun a _=>k e sz a)
 | _=>.fail
def storeS (T:TypeId→Option TI) (t:TypeId) (loc:Heap) (p:Option RG) (v:Option AV):SR :=
 match v with
 | none=>.fail
 | some v=>match cellsS v with
   | none=>.fail
   | some vs=>match T t with
     | none=>.fail
     | some ti=>match Nat.beq vs.length ti.sz with
       | false=>.fail
       | true=>match p with
         | some (.lp j o)=>match lget loc j with
           | some (.box u l)=>match setC l o vs with
             | some l'=>.upd j (.box u l') none
             | none=>.fail
           | _=>.fail
         | some (.v (.ptr i o))=>.ptr i (fun j=>match lget loc j with
           | some (.box u l)=>match setC l o vs with
             | some l'=>.upd j (.box u l') none
             | none=>.fail
           | _=>.fail) (fun B=>match B with
           | .box u l=>match setC l o vs with
             | some l'=>.updB i (.box u l') none
             | none=>.fail
           | _=>.fail)
         | some (.v (.vp i n o))=>.ptr i (fun j=>storeVP n o vs (fun e sz a=>.upd j (.vec e sz a) none) (lget loc j)) (fun B=>storeVP n o vs (fun e sz a=>.updB i (.vec e sz a) none) (some B))
         | _=>.fail
def allocS (T:TypeId→Option TI) (t:TypeId):SR:=match T t with
 | some ti=>match ti.zero with
   | some z=>.box t z
   | none=>.fail
 | none=>.fail
def boxC (v:AV):Option (List AV):=match v with
 | .agg l=>some l
 | .tup _|.junk=>none
 | v=>some [v]
theorem boxC_spec {v:AV} {l:List AV} (h:boxC v=some l):v.cells=l∧(v.one=true∨∃ l,v=.agg l):=by
 cases v <;> simp only [boxC,yad,reduceCtorEq] at h
 all_goals subst h
 case agg m=>exact ⟨rfl,.inr ⟨m,rfl⟩⟩
 all_goals exact ⟨rfl,.inl rfl⟩
def boxS (t:TypeId) (v:AV):SR:=match boxC v with
 | some l=>.box t l
 | none=>.fail
def indexS (T:TypeId→Option TI) (t:TypeId) (x:Option RG) (y:AV):SR:=match y with
 | .int _ i=>match T t with
   | some ti=>match ti.kind with
     | .sl e=>match T e with
       | some ei=>match x with
         | some (.v (.ms b o n))=>.ptr b (fun j=>.ofs i n fun m=>.reg (.lp j (o+m * ei.sz))) (fun _=>.ofs i n fun m=>.reg (.v (.ptr b (o+m * ei.sz))))
         | some (.v a)=>match slOf a with
           | some (n,l)=>.side (0≤i∧i<n) (.seg l (i.toNat * ei.sz) fun l'=>.side (l'≠[]) (.reg (.v (.rptr l'))))
           | none=>.fail
         | _=>.fail
       | none=>.fail
     | .arr n e=>match T e with
       | some ei=>match x with
         | some (.lp j o)=>.ofs i n fun m=>.reg (.lp j (o+m * ei.sz))
         | some (.v (.ptr b o))=>.ofs i n fun m=>.reg (.v (.ptr b (o+m * ei.sz)))
         | some (.v (.rptr l))=>.side (0≤i∧i<n) (.seg l (i.toNat * ei.sz) fun l'=>.reg (.v (.rptr l')))
         | _=>.fail
       | none=>.fail
     | _=>.fail
   | none=>.fail
 | _=>.fail
def indexVB (T:TypeId→Option TI) (t:TypeId) (i n:Nat) (y:AV):Option Blk→SR
 | some (.vec _ sz l)=>match y with
   | .int _ q=>match T t with
     | some ti=>match ti.kind with
       | .sl e=>match T e with
         | some ei=>match Nat.beq ei.sz sz with
           | true=>.side ((l.length=n * sz∧l≠[])∧(0≤q∧q<n)) (.mem (.v (.vp i n (q.toNat * sz))))
           | false=>.fail
         | none=>.fail
       | _=>.fail
     | none=>.fail
   | _=>.fail
 | _=>.fail
def indexKB (T:TypeId→Option TI) (t:TypeId) (i n m:Nat) (y:AV):Option Blk→SR
 | some (.vec _ sz l)=>match y with
   | .int _ q=>match T t with
     | some ti=>match ti.kind with
       | .sl e=>match T e with
         | some ei=>match Nat.beq ei.sz sz with
           | true=>.side ((l.length=m * sz∧l≠[])∧(0≤q∧q<n)) (.mem (.v (.vp i m (q.toNat * sz))))
           | false=>.fail
         | none=>.fail
       | _=>.fail
     | none=>.fail
   | _=>.fail
 | _=>.fail
def indexX (T:TypeId→Option TI) (t:TypeId) (loc:Heap) (x:Option RG) (y:AV):SR:=match x with
 | some (.v (.vs i n))=>.ptr i (fun j=>indexVB T t i n y (lget loc j)) (fun B=>indexVB T t i n y (some B))
 | some (.v (.vk i n m))=>.ptr i (fun j=>indexKB T t i n m y (lget loc j)) (fun B=>indexKB T t i n m y (some B))
 | x=>indexS T t x y
def avL [Glob] (n0:Nat) (top bot:RE):List Operand→List AV
 | []=>[]
 | x::l=>av n0 top bot x::avL n0 top bot l
def avP [Glob] (n0:Nat) (top bot:RE):List (Nat×Operand)→List (Nat×AV)
 | []=>[]
 | (i,x)::l=>(i,av n0 top bot x)::avP n0 top bot l
def avLF [Glob] (n0:Nat) (top bot:RE):List Operand→Option (List AV)
 | []=>some []
 | x::l=>match avF n0 top bot x with
   | some a=>match avLF n0 top bot l with
     | some r=>some (a::r)
     | none=>none
   | none=>none
def avPF [Glob] (n0:Nat) (top bot:RE):List (Nat×Operand)→Option (List (Nat×AV))
 | []=>some []
 | (i,x)::l=>match avF n0 top bot x with
   | some a=>match avPF n0 top bot l with
     | some r=>some ((i,a)::r)
     | none=>none
   | none=>none
theorem avLF_eq [Glob] {n0:Nat} {top bot:RE}:∀ {l:List Operand} {r:List AV},avLF n0 top bot l=some r→avL n0 top bot l=r
 | [],r,h=>by simp only [avLF,yad] at h;exact h
 | x::l,r,h=>by
   simp only [avLF] at h
   split at h
   ·rename_i a ha
    split at h
    ·rename_i r' hr
     simp only [yad] at h;subst h
     simp only [avL];rw [avF_av ha,avLF_eq hr]
    ·cases h
   ·cases h
theorem avPF_eq [Glob] {n0:Nat} {top bot:RE}:∀ {l:List (Nat×Operand)} {r:List (Nat×AV)},avPF n0 top bot l=some r→avP n0 top bot l=r
 | [],r,h=>by simp only [avPF,yad] at h;exact h
 | (i,x)::l,r,h=>by
   simp only [avPF] at h
   split at h
   ·rename_i a ha
    split at h
    ·rename_i r' hr
     simp only [yad] at h;subst h
     simp only [avP];rw [avF_av ha,avPF_eq hr]
    ·cases h
   ·cases h
def appO:List AV→List AV→Option (List AV)
 | [],m=>some m
 | x::l,m=>match appO l m with
   | some r=>some (x::r)
   | none=>none
theorem appO_eq:∀ {l m r:List AV},appO l m=some r→r=l++m
 | [],m,r,h=>by simp only [appO,yad] at h;exact h.symm
 | x::l,m,r,h=>by
   simp only [appO] at h
   split at h
   ·rename_i r' hr
    simp only [yad] at h;subst h
    rw [appO_eq hr];rfl
   ·cases h
def repO:Nat→List AV→Option (List AV)
 | 0,_=>some []
 | n+1,z=>match repO n z with
   | some r=>appO z r
   | none=>none
theorem repO_eq:∀ {n:Nat} {z r:List AV},repO n z=some r→r=repC n z
 | 0,z,r,h=>by simp only [repO,yad] at h;exact h.symm
 | n+1,z,r,h=>by
   simp only [repO] at h
   split at h
   ·rename_i r' hr
    rw [appO_eq h,repO_eq hr];rfl
   ·cases h
def appL:List AV→List AV→List AV
 | [],m=>m
 | x::l,m=>x::appL l m
theorem appL_eq:∀ l m,appL l m=l++m
 | [],_=>rfl
 | x::l,m=>by simp [appL,appL_eq l m]
def buildS (T:TypeId→Option TI) (t:TypeId) (kn:TypeId→Nat) (parts:List (Nat×AV)):SR:=match allOA parts with
 | false=>.fail
 | true=>match T t with
   | some ti=>match ti.zero with
     | some z=>match ti.kind with
       | .st fs=>match kn t with
         | _+1=>match fillC (stPlace fs) z parts with
           | some l=>.reg (.v (.agg l))
           | none=>.fail
         | 0=>.fail
       | .arr _ e=>match T e with
         | some ei=>match fillC (zds ei.sz) z parts with
           | some l=>.reg (.v (.agg l))
           | none=>.fail
         | none=>.fail
       | _=>.fail
     | none=>.fail
   | none=>.fail
def zgo (n0:Nat) (T:TypeId→Option TI) (t:TypeId) (n:Nat) (parts:List (Nat×AV)):SR:=match allOA parts with
 | false=>.fail
 | true=>match T t with
   | some ti=>match ti.kind with
     | .sl e=>match T e with
       | some ei=>match ei.zero with
         | some z=>match Nat.beq z.length ei.sz with
           | true=>match Nat.ble (n * ei.sz) 16777216 with
             | true=>match repO n z with
               | some zs=>match fillC (zds ei.sz) zs parts with
                 | some l=>match Nat.beq l.length (n * ei.sz)&&Nat.ble 2 n with
                   | true=>match Nat.ble n 16777216 with
                     | true=>.or (.mem (.v (.sx n l))) (.blk (.vec e ei.sz l) fun k=>.v (.vs (n0+k) n))
                     | false=>.mem (.v (.sx n l))
                   | false=>.mem (.v (.sx n l))
                 | none=>.fail
               | none=>.fail
             | false=>.fail
           | false=>.fail
         | none=>.fail
       | none=>.fail
     | _=>.fail
   | none=>.fail
def fieldPartV (T:TypeId→Option TI) (s:TypeId) (f:Nat):AV→Option AV
 | .agg l=>match T s with
   | some ti=>match ti.kind with
     | .st fs=>match lget fs f with
       | some (ft,off,_,_)=>match T ft with
         | some fi=>match dropC off l with
           | some l'=>loadC fi l'
           | none=>none
         | none=>none
       | none=>none
     | _=>none
   | none=>none
 | _=>none
def nilS:Option RG→SR
 | some (.lp j o)=>.reg (.lp j o)
 | some (.v (.ptr i k))=>.reg (.v (.ptr i k))
 | some (.v (.rptr l))=>.reg (.v (.rptr l))
 | some (.v (.vp i n o))=>.reg (.v (.vp i n o))
 | some (.v (.clo f fs cs))=>.side (fnReal f) (.reg (.v (.clo f fs cs)))
 | _=>.fail
def notS:AV→SR
 | .bool b=>.reg (.v (.bool (!b)))
 | _=>.fail
def negS:AV→SR
 | .int k n=>.eqv (k.wrap (0-n)) fun y=>.reg (.v (.int k y))
 | _=>.fail
def comS:AV→SR
 | .int k n=>.eqv (bits .xor k (comK k) n) fun y=>.reg (.v (.int k y))
 | _=>.fail
def extractS (i:Nat):AV→SR
 | .tup l=>match lget l i with
   | some v=>.reg (.v v)
   | none=>.fail
 | _=>.fail
def callS (as:List AV):AV→SR
 | .clo f fs cs=>.call f (appL (appL fs as) cs)
 | _=>.fail
def lenS (T:TypeId→Option TI) (t:TypeId) (a:AV):SR:=match T t with
 | some ti=>match ti.kind with
   | .sl _=>match a with
     | .ms _ _ n=>.reg (.v (.int .i64 n))
     | .vs _ n=>.reg (.v (.int .i64 n))
     | .vk _ n _=>.reg (.v (.int .i64 n))
     | a=>match slOf a with
       | some (n,_)=>.reg (.v (.int .i64 n))
       | none=>.fail
   | .str=>match a with
     | .str s=>.reg (.v (.int .i64 s.size))
     | _=>.fail
   | .mp _ _=>match a with
     | .rmp ks _=>.reg (.v (.int .i64 ks.length))
     | _=>.fail
   | _=>.fail
 | none=>.fail
def bdS (v:Option AV) (d:Nat) (k:Nat→SR):SR:=match v with
 | none=>k d
 | some (.int _ i)=>.nat i k
 | _=>.fail
def avO [Glob] (n0:Nat) (top bot:RE):Option Operand→Option AV
 | none=>none
 | some x=>some (av n0 top bot x)
def skS (low high:Option AV) (a:AV) (s:SR):SR:=match low with
 | none=>match high with
   | some (.int _ h)=>match skOf a with
     | some (m,l)=>.or s (.nat h fun hi=>.side (hi≤m) (.reg (.v (.sk hi m l))))
     | none=>s
   | _=>s
 | some _=>s
def capS (T:TypeId→Option TI) (t:TypeId) (a:AV):SR:=match T t with
 | some ti=>match ti.kind with
   | .sl _=>match a with
     | .vk _ _ m=>.anyV (CapV m)
     | _=>.fail
   | _=>.fail
 | none=>.fail
def svS (low high max:Option AV) (a:AV):SR:=match low with
 | none=>match max with
   | none=>match high with
     | some (.int _ h)=>match a with
       | .vs i n=>.nat h fun hi=>.side (hi≤n) (.reg (.v (.vk i hi n)))
       | .vk i _ m=>.side (h=m) (.reg (.v (.vs i m)))
       | _=>.fail
     | _=>.fail
   | some _=>.fail
 | some _=>.fail
def sliceS (T:TypeId→Option TI) (t:TypeId) (a:AV) (low high max:Option AV):SR:=match T t with
 | some ti=>match ti.kind with
   | .sl e=>match T e with
     | some ei=>match slOf a with
       | some (n,l)=>match max with
         | none=>skS low high a (bdS low 0 fun lo=>bdS high n fun hi=>.side (lo≤hi∧hi≤n) (.sub l (lo * ei.sz) ((hi-lo) * ei.sz) fun l'=>.reg (.v (.sl none (hi-lo) l'))))
         | some (.int _ m)=>match high with
           | some (.int _ h)=>bdS low 0 fun lo=>.nat h fun hi=>.side (m=h∧lo≤hi∧hi≤n) (.sub l (lo * ei.sz) ((hi-lo) * ei.sz) fun l'=>.reg (.v (.sx (hi-lo) l')))
           | _=>.fail
         | _=>.fail
       | none=>svS low high max a
     | none=>.fail
   | .str=>match a with
     | .str s=>match max with
       | none=>bdS low 0 fun lo=>bdS high s.size fun hi=>.side (lo≤hi∧hi≤s.size) (.reg (.v (.str (s.extract lo hi))))
       | _=>.fail
     | _=>.fail
   | _=>.fail
 | none=>.fail
def indexV (T:TypeId→Option TI) (t:TypeId) (a y:AV):SR:=match T t with
 | some ti=>match ti.kind with
   | .str=>match a with
     | .str s=>match y with
       | .int _ i=>.side (0≤i) (.byte s i fun b=>.reg (.v (.int .u8 b.toNat)))
       | _=>.fail
     | _=>.fail
   | _=>.fail
 | none=>.fail
def makeS (n0:Nat) (T:TypeId→Option TI) (t:TypeId) (x y:AV):SR:=match T t with
 | some ti=>match ti.kind with
   | .sl e=>match T e with
     | some ei=>match ei.zero with
       | some z=>match Nat.beq z.length ei.sz with
         | true=>match x with
           | .int _ i=>match y with
             | .int _ c=>.or (.nat i fun n=>.side (c=i∧i≤9223372036854775807∧n * ei.bytes≤281474976710656)
                (.or (.mem (.v (.sx n (repC n z)))) (.blk (.box e (repC n z)) fun k=>.v (.ms (n0+k) 0 n))))
                (.nat c fun n=>.side (i=0∧c≤9223372036854775807∧n * ei.bytes≤281474976710656) (.or (.blk (.tok e ei.sz 0) fun k=>.v (.sl (some (n0+k)) 0 [])) (.blk (.vec e ei.sz []) fun k=>.v (.vs (n0+k) 0))))
             | _=>.fail
           | _=>.fail
         | false=>.fail
       | none=>.fail
     | none=>.fail
   | _=>.fail
 | none=>.fail
structure AppT (L n m sz bytes:Nat) (l l2:List AV):Prop where
 L:L=l.length
 one:zcd l2=true
 l2:l2.length=m * sz
 bytes:(n+m) * bytes≤140737488355328
 max:n+m≤maxLen
structure AppV (n m sz bytes:Nat) (l l2:List AV):Prop where
 l:l.length=n * sz
 one:zcd l2=true
 l2:l2.length=m * sz
 bytes:(n+m) * bytes≤140737488355328
 max:n+m≤maxLen
structure AppX (n m sz bytes:Nat) (l l2:List AV):Prop where
 m0:0<m
 l:l.length=n * sz
 l2:l2.length=m * sz
 bytes:(n+m) * bytes≤140737488355328
 max:n+m≤maxLen
def appendS (n0:Nat) (T:TypeId→Option TI) (t:TypeId) (loc:Heap) (x y:AV):SR:=match slOf y with
 | some (m,l2)=>match T t with
   | some ti=>match ti.kind with
     | .sl e=>match T e with
       | some ei=>match ei.zero with
         | some z=>match Nat.beq z.length ei.sz with
           | true=>match ei.sz with
             | 0=>.fail
             | sz+1=>match x with
               | .sl (some tk) n l=>.ptr tk (fun j=>match lget loc j with
                  | some (.tok e' sz' L)=>match Nat.beq e' e with
                    | true=>match Nat.beq sz' (sz+1) with
                      | true=>.side (AppT L n m (sz+1) ei.bytes l l2) (.upd j (.tok e (sz+1) (l++l2).length) (some (.v (.sl (some tk) (n+m) (l++l2)))))
                      | false=>.fail
                    | false=>.fail
                  | _=>.fail) (fun B=>match B with
                  | .tok e' sz' L=>match Nat.beq e' e with
                    | true=>match Nat.beq sz' (sz+1) with
                      | true=>.side (AppT L n m (sz+1) ei.bytes l l2) (.updB tk (.tok e (sz+1) (l++l2).length) (some (.v (.sl (some tk) (n+m) (l++l2)))))
                      | false=>.fail
                    | false=>.fail
                  | _=>.fail)
               | .vs tk n=>.ptr tk (fun j=>match lget loc j with
                  | some (.vec e' sz' l)=>match Nat.beq e' e with
                    | true=>match Nat.beq sz' (sz+1) with
                      | true=>.side (AppV n m (sz+1) ei.bytes l l2) (.upd j (.vec e (sz+1) (l++l2)) (some (.v (.vs tk (n+m)))))
                      | false=>.fail
                    | false=>.fail
                  | _=>.fail) (fun B=>match B with
                  | .vec e' sz' l=>match Nat.beq e' e with
                    | true=>match Nat.beq sz' (sz+1) with
                      | true=>.side (AppV n m (sz+1) ei.bytes l l2) (.updB tk (.vec e (sz+1) (l++l2)) (some (.v (.vs tk (n+m)))))
                      | false=>.fail
                    | false=>.fail
                  | _=>.fail)
               | .sx n l=>.or (.side (AppX n m (sz+1) ei.bytes l l2) (.blk (.tok e (sz+1) (l++l2).length) fun k=>.v (.sl (some (n0+k)) (n+m) (l++l2)))) (.or (.side (m=0) (.reg (.v (.sx n l)))) (.or (.side (AppX n m (sz+1) ei.bytes l l2) (.blkU (fun B=>∃ s,B=.box e (l++l2++List.replicate s .junk)) fun k=>.v (.ms (n0+k) 0 (n+m)))) (.side (AppX n m (sz+1) ei.bytes l l2) (.reg (.v (.sl none (n+m) (l++l2)))))))
               | .nils=>.or (.side (AppX 0 m (sz+1) ei.bytes [] l2) (.blk (.tok e (sz+1) (([]:List AV)++l2).length) fun k=>.v (.sl (some (n0+k)) (0+m) ([]++l2)))) (.or (.side (m=0) (.reg (.v .nils))) (.or (.side (AppX 0 m (sz+1) ei.bytes [] l2) (.blkU (fun B=>∃ s,B=.box e (l2++List.replicate s .junk)) fun k=>.v (.ms (n0+k) 0 (0+m)))) (.side (AppX 0 m (sz+1) ei.bytes [] l2) (.reg (.v (.sl none (0+m) ([]++l2)))))))
               | .sl none n l=>.side (m=0) (.reg (.v (.sl none n l)))
               | _=>.fail
           | false=>.fail
         | none=>.fail
       | none=>.fail
     | _=>.fail
   | none=>.fail
 | none=>.fail
def lookR (kn:TypeId→Nat) (T:TypeId→Option TI) (kt:TypeId) (ei:TI) (ok:Bool) (k:AV) (ks vs:List AV):SR :=
 .rel (fun a _=>(∃ b,eqV kn T 20 kt k k=some b)∧MLook (eqV kn T 20 kt) ks vs k a) fun a _=>match lookV ei a with
  | some (v,fd)=>match ok with
    | true=>.mem (.v (.tup [v,.bool fd]))
    | false=>.mem (.v v)
  | none=>.fail
def lookupS (kn:TypeId→Nat) (T:TypeId→Option TI) (t:TypeId) (loc:Heap) (ok:Bool) (m k:AV):SR:=match T t with
 | some ti=>match ti.kind with
   | .mp kt et=>match T et with
     | some ei=>match m with
       | .mp i=>.ptr i (fun j=>match lget loc j with
          | some (.mp ks vs)=>lookR kn T kt ei ok k ks vs
          | _=>.fail) (fun B=>match B with
          | .mp ks vs=>lookR kn T kt ei ok k ks vs
          | _=>.fail)
       | .rmp ks vs=>lookR kn T kt ei ok k ks vs
       | .nilm=>lookR kn T kt ei ok k [] []
       | _=>.fail
     | none=>.fail
   | _=>.fail
 | none=>.fail
def mapPutS (kn:TypeId→Nat) (T:TypeId→Option TI) (t:TypeId) (loc:Heap) (m k v:AV):SR:=match T t with
 | some ti=>match ti.kind with
   | .mp kt _=>match m with
     | .mp i=>match plainV k with
       | true=>.ptr i (fun j=>match lget loc j with
          | some (.mp ks vs)=>.rel (fun ks' vs'=>(∃ b,eqV kn T 20 kt k k=some b)∧MPut (eqV kn T 20 kt) ks vs k v ks' vs') fun ks' vs'=>.upd j (.mp ks' vs') none
          | _=>.fail) (fun B=>match B with
          | .mp ks vs=>.rel (fun ks' vs'=>(∃ b,eqV kn T 20 kt k k=some b)∧MPut (eqV kn T 20 kt) ks vs k v ks' vs') fun ks' vs'=>.updB i (.mp ks' vs') none
          | _=>.fail)
       | false=>.fail
     | _=>.fail
   | _=>.fail
 | none=>.fail
def mapEntS (kn:TypeId→Nat) (T:TypeId→Option TI) (t:TypeId) (loc:Heap) (m k:AV):SR:=match T t with
 | some ti=>match ti.kind with
   | .mp kt et=>match T et with
     | some ei=>match zeroAV ei with
       | some z=>match m with
         | .mp i=>match plainV k with
           | true=>.ptr i (fun j=>match lget loc j with
              | some (.mp ks vs)=>.rel (fun ks' b=>(∃ b,eqV kn T 20 kt k k=some b)∧MEnt (eqV kn T 20 kt) ks vs k z ks' b) fun ks' b=>match b with
                | v::s::vs'=>.upd j (.mp ks' vs') (some (.v (.tup [v,s])))
                | _=>.fail
              | _=>.fail) (fun B=>match B with
              | .mp ks vs=>.rel (fun ks' b=>(∃ b,eqV kn T 20 kt k k=some b)∧MEnt (eqV kn T 20 kt) ks vs k z ks' b) fun ks' b=>match b with
                | v::s::vs'=>.updB i (.mp ks' vs') (some (.v (.tup [v,s])))
                | _=>.fail
              | _=>.fail)
           | false=>.fail
         | _=>.fail
       | none=>.fail
     | none=>.fail
   | _=>.fail
 | none=>.fail
def entStS (loc:Heap) (m s v:AV):SR:=match m with
 | .mp i=>match s with
   | .int _ x=>.ptr i (fun j=>match lget loc j with
      | some (.mp ks vs)=>.nat x fun J=>.side (J<vs.length) (.upd j (.mp ks (vs.set J v)) none)
      | _=>.fail) (fun B=>match B with
      | .mp ks vs=>.nat x fun J=>.side (J<vs.length) (.updB i (.mp ks (vs.set J v)) none)
      | _=>.fail)
   | _=>.fail
 | _=>.fail
def mapOfS (loc:Heap) (m:AV) (k:List AV→List AV→SR):SR:=match m with
 | .mp i=>.ptr i (fun j=>match lget loc j with
    | some (.mp ks vs)=>k ks vs
    | _=>.fail) (fun B=>match B with
    | .mp ks vs=>k ks vs
    | _=>.fail)
 | .rmp ks vs=>k ks vs
 | _=>.fail
def rangeS (T:TypeId→Option TI) (t:TypeId) (loc:Heap) (m:AV):SR:=match T t with
 | some ti=>match ti.kind with
   | .mp _ _=>mapOfS loc m fun ks _=>.blk (.it m ks.length []) fun k=>.lp k 0
   | _=>.fail
 | none=>.fail
def nextS (loc:Heap):Option RG→SR
 | some (.lp j o)=>match o with
   | 0=>match lget loc j with
     | some (.it src n seen)=>mapOfS loc src fun ks vs=>.side (ks.length=n) (.anyU j (NextS src n seen ks vs))
     | _=>.fail
   | _+1=>.fail
 | _=>.fail
def EntryS (n:Nat) (seen:List Nat) (ks vs:List AV) (a b:List AV):Prop:=ks.length=n∧b=[]∧∃ s e k v,seen=s++[e]∧ks[e]? = some k∧vs[e]? = some v∧a=[k,v]
def entryS (loc:Heap):Option RG→SR
 | some (.lp j o)=>match o with
   | 0=>match lget loc j with
     | some (.it src n seen)=>mapOfS loc src fun ks vs=>.rel (EntryS n seen ks vs) fun a _=>.mem (.v (.tup a))
     | _=>.fail
   | _+1=>.fail
 | _=>.fail
def convS (T:TypeId→Option TI) (s t:TypeId) (a:AV):SR:=match convB T s t a with
 | some v=>.reg (.v v)
 | none=>ofI (convV T s t a)
def stepS [Glob] (kn:TypeId→Nat) (T:TypeId→Option TI) (n0:Nat) (top bot:RE) (loc:Heap):Op→SR
 | .move x=>moveS (evR top bot x)
 | .assign x=>moveS (evR top bot x)
 | .binOp op t x y _=>binS kn T op t (av n0 top bot x) (av n0 top bot y)
 | .unOp .not _ x=>notS (av n0 top bot x)
 | .unOp .neg _ x=>negS (av n0 top bot x)
 | .unOp .xor _ x=>comS (av n0 top bot x)
 | .convert s t x=>convS T s t (av n0 top bot x)
 | .extract x i=>extractS i (av n0 top bot x)
 | .fieldAddr s x f=>fieldS T s f (evR top bot x)
 | .field s x f=>ofV (fieldPartV T s f (av n0 top bot x))
 | .nilCheck x=>nilS (evR top bot x)
 | .load t x=>loadS T t loc (evR top bot x)
 | .store t x y=>storeS T t loc (evR top bot x) (avF n0 top bot y)
 | .alloc t=>allocS T t
 | .box t x=>withV (avF n0 top bot x) fun v=>boxS t v
 | .build t ⟨ps⟩=>withL (avPF n0 top bot ps) fun l=>buildS T t kn l
 | .buildSlice t n ⟨ps⟩=>withL (avPF n0 top bot ps) fun l=>zgo n0 T t n l
 | .indexAddr t x y=>indexX T t loc (evR top bot x) (av n0 top bot y)
 | .makeFunc (.func fn) ⟨fs⟩ ⟨cs⟩=>withL (avLF n0 top bot fs) fun fs=>withL (avLF n0 top bot cs) fun cs=>.reg (.v (.clo (.func fn) fs cs))
 | .slice t x low high max=>sliceS T t (av n0 top bot x) (avO n0 top bot low) (avO n0 top bot high) (avO n0 top bot max)
 | .index t x y=>indexV T t (av n0 top bot x) (av n0 top bot y)
 | .makeSlice t x y=>makeS n0 T t (av n0 top bot x) (av n0 top bot y)
 | .makeMap _ none=>.blk (.mp [] []) fun k=>.v (.mp (n0+k))
 | .lookup t x y ok=>withV (avF n0 top bot y) fun k=>lookupS kn T t loc ok (av n0 top bot x) k
 | .mapUpdate t x y z=>withV (avF n0 top bot y) fun k=>withV (avF n0 top bot z) fun v=>mapPutS kn T t loc (av n0 top bot x) k v
 | .insert t x y z=>withV (avF n0 top bot y) fun k=>withV (avF n0 top bot z) fun v=>mapPutS kn T t loc (av n0 top bot x) k v
 | .range t x=>rangeS T t loc (av n0 top bot x)
 | .next x isStr=>match isStr with
   | false=>nextS loc (evR top bot x)
   | true=>.fail
 | .entry x=>entryS loc (evR top bot x)
 | .mapEntry t x y=>withV (avF n0 top bot y) fun k=>mapEntS kn T t loc (av n0 top bot x) k
 | .entryStore _ x y z=>withV (avF n0 top bot z) fun v=>entStS loc (av n0 top bot x) (av n0 top bot y) v
 | .call { callee:=.builtin .len,args:=⟨[x]⟩,argTypes:=⟨[t]⟩ }=>lenS T t (av n0 top bot x)
 | .call { callee:=.builtin .append,args:=⟨[x,y]⟩,argTypes:=⟨[t,u]⟩ }=>match Nat.beq t u with
   | true=>appendS n0 T t loc (av n0 top bot x) (av n0 top bot y)
   | false=>.fail
 | .call { callee:=.builtin .min,args:=⟨[x,y]⟩,.. }=>ofV (minV (av n0 top bot x) (av n0 top bot y))
 | .call { callee:=.builtin .max,args:=⟨[x,y]⟩,.. }=>ofV (maxV (av n0 top bot x) (av n0 top bot y))
 | .call { callee:=.builtin .cap,args:=⟨[x]⟩,argTypes:=⟨[t]⟩ }=>capS T t (av n0 top bot x)
 | .call { callee:=.value f,args:=⟨xs⟩,.. }=>withL (avLF n0 top bot xs) fun as=>callS as (av n0 top bot f)
 | _=>.fail
end Go.Vsi
