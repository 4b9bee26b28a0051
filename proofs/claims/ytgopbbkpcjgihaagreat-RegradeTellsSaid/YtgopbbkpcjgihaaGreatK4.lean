/- A text of the proof: the parts R2, R3, R4, R5, R15, R17, R18. -/
import Derived.Test.YtgopbbkpcjgihaaGreatK3
set_option linter.unusedSimpArgs false
set_option linter.unusedVariables false
set_option maxHeartbeats 8000000
namespace Go.Vsi
section
inductive Res (n0:Nat) (base:Heap):SR→SR→Prop where
 | refl (s:SR):Res n0 base s s
 | side {p:Prop} {s r:SR}:p→Res n0 base s r→Res n0 base (.side p s) r
 | ptrL {i j:Nat} {kl kb r}:i=n0+j→Res n0 base (kl j) r→Res n0 base (.ptr i kl kb) r
 | ptrB {i:Nat} {B kl kb r}:base[i]? = some B→Res n0 base (kb B) r→Res n0 base (.ptr i kl kb) r
 | seg {l o l' k r}:Seg l o l'→Res n0 base (k l') r→Res n0 base (.seg l o k) r
 | eqv {x y:Int} {k r}:x=y→Res n0 base (k y) r→Res n0 base (.eqv x k) r
 | sub {l o n l' k r}:SubL l o n l'→Res n0 base (k l') r→Res n0 base (.sub l o n k) r
 | nat {i:Int} {m:Nat} {k r}:i=(m:Int)→Res n0 base (k m) r→Res n0 base (.nat i k) r
 | byte {s:ByteArray} {i:Int} {b:UInt8} {k r}:s[i.toNat]? = some b→Res n0 base (k b) r→Res n0 base (.byte s i k) r
 | orl {a b r}:Res n0 base a r→Res n0 base (.or a b) r
 | orr {a b r}:Res n0 base b r→Res n0 base (.or a b) r
 | rel {S:List AV→List AV→Prop} {a b:List AV} {k r}:S a b→Res n0 base (k a b) r→Res n0 base (.rel S k) r
 | ofs {i:Int} {n m:Nat} {k r}:i=(m:Int)→m<n→Res n0 base (k m) r→Res n0 base (.ofs i n k) r
def leaf:SR→Bool
 | .reg _|.mem _|.box _ _|.upd _ _ _|.updB _ _ _|.blk _ _|.call _ _|.anyU _ _|.blkU _ _|.anyV _=>true
 | _=>false
section
variable {P:Program} {N:FN}
def zba [Glob] (P:Program) (N:FN) (n0:Nat) (base:Heap) (k:Nat) (loc:Heap) (env:Env) (o:Oper):SR→Prop
 | .reg v=>∀ hp,Step P N hp env o (tr n0 v) hp
 | .mem v=>∀ X:Heap,Step P N ⟨base,k+X.length,loc++X⟩ env o (tr n0 v) ⟨base,k+X.length,loc++X⟩
 | .box t l=>AOk P N (.box t l) env o
 | .upd j B none=>∀ loc',lset loc j B=some loc'→StepU P N ⟨base,k,loc⟩ env o ⟨base,k,loc'⟩
 | .upd j B (some v)=>∀ loc',lset loc j B=some loc'→Step P N ⟨base,k,loc⟩ env o (tr n0 v) ⟨base,k,loc'⟩
 | .updB i B none=>StepU P N ⟨base,k,loc⟩ env o ⟨base.set i B,k,loc⟩
 | .updB i B (some v)=>Step P N ⟨base,k,loc⟩ env o (tr n0 v) ⟨base.set i B,k,loc⟩
 | .blk B v=>Step P N ⟨base,k,loc⟩ env o (tr n0 (v k)) ⟨base,k+1,loc++[B]⟩
 | .call F as=>∃ f xs ts fs cs ws,o.op=.call { callee:=.value f,args:=(xs:List Operand).toArray,argTypes:=ts }∧ev env f=.clo F fs cs∧(fs++ws)++cs=as ∧
    ∀ g w a,ERel N g w env a→LRel g w ws (xs.map a.eval)
 | .anyU j S=>∀ g w a,HRel g w ⟨base,k,loc⟩→ERel N g w env a→∃ B v c g' w',S B v∧(execOp a.eval o).run P w=.ok (.value c) w'∧(∀ loc',lset loc j B=some loc'→HRel g' w' ⟨base,k,loc'⟩)∧VRel g' w' v c∧Ext g w g' w'
 | .anyV S=>∀ g w a,ERel N g w env a→∃ v c,S v∧(execOp a.eval o).run P w=.ok (.value c) w∧VRel g w v c
 | .blkU S v=>∀ g w a,HRel g w ⟨base,k,loc⟩→ERel N g w env a→∃ B c g' w',S B∧(execOp a.eval o).run P w=.ok (.value c) w'∧HRel g' w' ⟨base,k+1,loc++[B]⟩∧VRel g' w' (tr n0 (v k)) c∧Ext g w g' w'
 | _=>True
variable {n0:Nat} {base:Heap} {k:Nat} {loc:Heap} {top bot:RE} {o:Oper} {T:TypeId→Option TI} {kn:TypeId→Nat} {r:SR}
theorem av_ev [Glob] {x:Operand} {v:AV} (h:av n0 top bot x=v) (hv:v≠.junk):ev (trE n0 (top++bot)) x=v:=by
 unfold av at h
 cases he:evR top bot x with
 | none=>simp only [he] at h;exact absurd h.symm hv
 | some w=>simp only [he] at h;rw [zb1 he,h]
theorem za6 {v:RG} (h:Res n0 base (.reg v) r):r=.reg v:=by cases h;rfl
theorem zd4 {v:RG} (h:Res n0 base (.mem v) r):r=.mem v:=by cases h;rfl
theorem zaa (h:Res n0 base .fail r) (hl:leaf r=true):False:=by cases h;cases hl
theorem res_ofV {w:Option AV} (h:Res n0 base (ofV w) r) (hl:leaf r=true):∃ v,w=some v∧r=.reg (.v v):=by
 cases w with
 | none=>exact (zaa h hl).elim
 | some v=>exact ⟨v,rfl,za6 h⟩
theorem res_memV {w:Option AV} (h:Res n0 base (memV w) r) (hl:leaf r=true):∃ v,w=some v∧r=.mem (.v v):=by
 cases w with
 | none=>exact (zaa h hl).elim
 | some v=>exact ⟨v,rfl,zd4 h⟩
theorem zay {p:Prop} {s:SR} (h:Res n0 base (.side p s) r) (hl:leaf r=true):p∧Res n0 base s r:=by
 cases h with
 | refl=>cases hl
 | side h1 h2=>exact ⟨h1,h2⟩
theorem zgl {x:Int} {k:Int→SR} (h:Res n0 base (.eqv x k) r) (hl:leaf r=true):Res n0 base (k x) r:=by
 cases h with
 | refl=>cases hl
 | eqv h1 h2=>subst h1;exact h2
theorem res_ofI {w:Option AV} (h:Res n0 base (ofI w) r) (hl:leaf r=true):∃ v,w=some v∧r=.reg (.v v):=by
 cases w with
 | none=>exact (zaa h hl).elim
 | some v=>cases v with
   | int k x=>exact ⟨_,rfl,za6 (zgl h hl)⟩
   | _=>exact ⟨_,rfl,za6 h⟩
theorem res_sub {l:List AV} {o n:Nat} {k:List AV→SR} (h:Res n0 base (.sub l o n k) r) (hl:leaf r=true):∃ l',SubL l o n l'∧Res n0 base (k l') r:=by
 cases h with
 | refl=>cases hl
 | sub h1 h2=>exact ⟨_,h1,h2⟩
theorem zem {i:Int} {k:Nat→SR} (h:Res n0 base (.nat i k) r) (hl:leaf r=true):∃ m:Nat,i=(m:Int)∧Res n0 base (k m) r:=by
 cases h with
 | refl=>cases hl
 | nat h1 h2=>exact ⟨_,h1,h2⟩
theorem res_byte {s:ByteArray} {i:Int} {k:UInt8→SR} (h:Res n0 base (.byte s i k) r) (hl:leaf r=true):∃ b,s[i.toNat]? = some b∧Res n0 base (k b) r:=by
 cases h with
 | refl=>cases hl
 | byte h1 h2=>exact ⟨_,h1,h2⟩
theorem zeg {a b:SR} (h:Res n0 base (.or a b) r) (hl:leaf r=true):Res n0 base a r∨Res n0 base b r:=by
 cases h with
 | refl=>cases hl
 | orl h=>exact .inl h
 | orr h=>exact .inr h
theorem zdu {v:Option AV} {k:AV→SR} (h:Res n0 base (withV v k) r) (hl:leaf r=true):∃ a,v=some a∧Res n0 base (k a) r:=by
 cases v with
 | none=>exact (zaa h hl).elim
 | some a=>exact ⟨a,rfl,h⟩
theorem zfk {α:Type} {v:Option (List α)} {k:List α→SR} (h:Res n0 base (withL v k) r) (hl:leaf r=true):∃ a,v=some a∧Res n0 base (k a) r:=by
 cases v with
 | none=>exact (zaa h hl).elim
 | some a=>exact ⟨a,rfl,h⟩
theorem zfl {S:List AV→List AV→Prop} {k:List AV→List AV→SR} (h:Res n0 base (.rel S k) r) (hl:leaf r=true):∃ a b,S a b∧Res n0 base (k a b) r:=by
 cases h with
 | refl=>cases hl
 | rel h1 h2=>exact ⟨_,_,h1,h2⟩
theorem res_seg {l:List AV} {o:Nat} {k:List AV→SR} (h:Res n0 base (.seg l o k) r) (hl:leaf r=true):∃ l',Seg l o l'∧Res n0 base (k l') r:=by
 cases h with
 | refl=>cases hl
 | seg h1 h2=>exact ⟨_,h1,h2⟩
theorem res_ofs {i:Int} {n:Nat} {k:Nat→SR} (h:Res n0 base (.ofs i n k) r) (hl:leaf r=true):∃ m:Nat,i=(m:Int)∧m<n∧Res n0 base (k m) r:=by
 cases h with
 | refl=>cases hl
 | ofs h1 h2 h3=>exact ⟨_,h1,h2,h3⟩
theorem zdd {i:Nat} {kl kb} (h:Res n0 base (.ptr i kl kb) r) (hl:leaf r=true):(∃ j,i=n0+j∧Res n0 base (kl j) r)∨(∃ B,base[i]? = some B∧Res n0 base (kb B) r):=by
 cases h with
 | refl=>cases hl
 | ptrL h1 h2=>exact .inl ⟨_,h1,h2⟩
 | ptrB h1 h2=>exact .inr ⟨_,h1,h2⟩
theorem nf_ne {v:AV}:nf v=some v:=by cases v <;> rfl
theorem leaf_move [Glob] {x:Operand} (ho:o.op=.move x∨o.op=.assign x) (h:Res n0 base (moveS (evR top bot x)) r) (hl:leaf r=true):zba P N n0 base k loc (trE n0 (top++bot)) o r:=by
 cases he:evR top bot x with
 | none=>rw [he] at h;exact (zaa h hl).elim
 | some v =>
   rw [he] at h
   have:=za6 h
   subst this
   intro hp
   rcases ho with ho|ho
   ·exact st_move ho (by rw [zb1 he];exact nf_ne)
   ·exact st_assign ho (by rw [zb1 he];exact nf_ne)
theorem zf2 [Glob] {w:Option AV} (h:Res n0 base (ofV w) r) (hl:leaf r=true) (hs:∀ v,w=some v→∀ hp,Step P N hp (trE n0 (top++bot)) o v hp):zba P N n0 base k loc (trE n0 (top++bot)) o r:=by
 obtain ⟨v,h1,rfl⟩:=res_ofV h hl
 exact fun hp=>hs v h1 hp
theorem ofI_step [Glob] {w:Option AV} (h:Res n0 base (ofI w) r) (hl:leaf r=true) (hs:∀ v,w=some v→∀ hp,Step P N hp (trE n0 (top++bot)) o v hp):zba P N n0 base k loc (trE n0 (top++bot)) o r:=by
 obtain ⟨v,h1,rfl⟩:=res_ofI h hl
 exact fun hp=>hs v h1 hp
theorem intS_sound [Glob] {op:BinOp} {t u:TypeId} {x y:Operand} {kk kk':IntKind} {m n:Int} {s:SR} (ho:o.op=.binOp op t x y u)
  (hx:ev (trE n0 (top++bot)) x=.int kk m) (hy:ev (trE n0 (top++bot)) y=.int kk' n) (hs:intS op kk m kk' n=some s) (h:Res n0 base s r) (hl:leaf r=true):zba P N n0 base k loc (trE n0 (top++bot)) o r:=by
 cases op <;> simp only [intS,reduceCtorEq] at hs
 case quo =>
  cases hk:ikEq kk kk' with
  | false=>simp [hk] at hs
  | true =>
    simp only [hk,yad] at hs;subst hs
    obtain rfl:=zc4 hk
    obtain ⟨h1,h2⟩:=zay h hl
    have:=za6 (zgl h2 hl);subst this
    exact fun hp=>st_quo ho hx hy h1
 case rem =>
  cases hk:ikEq kk kk' with
  | false=>simp [hk] at hs
  | true =>
    simp only [hk,yad] at hs;subst hs
    obtain rfl:=zc4 hk
    obtain ⟨h1,h2⟩:=zay h hl
    have:=za6 (zgl h2 hl);subst this
    exact fun hp=>st_rem ho hx hy h1
 case shl =>
  simp only [yad] at hs;subst hs
  obtain ⟨h1,h2⟩:=zay h hl
  have:=za6 (zgl h2 hl);subst this
  exact fun hp=>st_shl ho hx hy h1
 case shr =>
  simp only [yad] at hs;subst hs
  obtain ⟨h1,h2⟩:=zay h hl
  have:=za6 (zgl h2 hl);subst this
  exact fun hp=>st_shr ho hx hy h1
theorem leaf_nilEq [Glob] (hT:TOk P T) {op:BinOp} {t u:TypeId} {x y:Operand} {l:List AV} (ho:o.op=.binOp op t x y u) (hx:(∃ tok n,ev (trE n0 (top++bot)) x=.sl tok n l)∨∃ n,ev (trE n0 (top++bot)) x=.sx n l) (hy:ev (trE n0 (top++bot)) y=.nils) (h:Res n0 base (nilEqS T op t l) r) (hl:leaf r=true):zba P N n0 base k loc (trE n0 (top++bot)) o r:=by
 unfold nilEqS at h
 split at h
 case h_2=>exact (zaa h hl).elim
 rename_i ti ht
 split at h
 case h_2=>exact (zaa h hl).elim
 rename_i e hk
 split at h
 ·have:r=.anyV (NilV false l):=by cases h;rfl
  subst this
  exact fun g w a hE=>st_eqNil hT (.inl ⟨rfl,rfl⟩) ho ht hk hx hy hE
 ·have:r=.anyV (NilV true l):=by cases h;rfl
  subst this
  exact fun g w a hE=>st_eqNil hT (.inr ⟨rfl,rfl⟩) ho ht hk hx hy hE
 ·exact (zaa h hl).elim
theorem leaf_bin [Glob] (hT:TOk P T) (hkq:∀ t n,kn t=n+2→P.stoodInHeld t=false∧P.eqGuardType P.depth t=false) {op:BinOp} {t u:TypeId} {x y:Operand} (ho:o.op=.binOp op t x y u) (h:Res n0 base (binS kn T op t (av n0 top bot x) (av n0 top bot y)) r) (hl:leaf r=true):zba P N n0 base k loc (trE n0 (top++bot)) o r:=by
 generalize hx:av n0 top bot x=vx at h
 generalize hy:av n0 top bot y=vy at h
 unfold binS at h
 split at h
 ·rename_i kk m kk' n
  have hx':=av_ev hx (by simp)
  have hy':=av_ev hy (by simp)
  cases hi:intS op kk m kk' n with
  | some s =>
    simp only [hi] at h
    exact intS_sound ho hx' hy' hi h hl
  | none =>
    simp only [hi] at h
    cases hk:ikEq kk kk' with
    | false=>simp only [hk] at h;exact (zaa h hl).elim
    | true =>
      simp only [hk] at h
      obtain rfl:=zc4 hk
      exact ofI_step h hl fun v hv hp=>st_int ho hx' hy' hv
 ·unfold strS at h
  split at h
  ·obtain ⟨h1,h2⟩:=zay h hl
   have:=za6 h2;subst this
   exact fun hp=>st_cat ho (av_ev hx (by simp)) (av_ev hy (by simp)) h1
  ·exact zf2 h hl fun v hv hp=>st_str ho (av_ev hx (by simp)) (av_ev hy (by simp)) hv
 ·cases hb:isBoolT T t with
  | false=>simp only [hb] at h;exact (zaa h hl).elim
  | true=>simp only [hb] at h;exact zf2 h hl fun v hv hp=>st_bool hT ho (av_ev hx (by simp)) (av_ev hy (by simp)) hb hv
 ·split at h
  ·rename_i q hq
   split at h
   ·rename_i b hb
    split at h
    ·have:=za6 h;subst this
     exact fun hp=>st_eqAgg hT hkq (.inl rfl) ho (av_ev hx (by simp)) (av_ev hy (by simp)) hq hb
    ·have:=za6 h;subst this
     exact fun hp=>st_eqAgg hT hkq (.inr rfl) ho (av_ev hx (by simp)) (av_ev hy (by simp)) hq hb
    ·exact (zaa h hl).elim
   ·exact (zaa h hl).elim
  ·exact (zaa h hl).elim
 ·refine leaf_nilEq hT ho (.inl ⟨_,_,av_ev hx (by simp)⟩) (av_ev hy (by simp)) h hl
 ·refine leaf_nilEq hT ho (.inr ⟨_,av_ev hx (by simp)⟩) (av_ev hy (by simp)) h hl
 ·exact (zaa h hl).elim
theorem leaf_field [Glob] (hT:TOk P T) {s:TypeId} {x:Operand} {f:Nat} (ho:o.op=.fieldAddr s x f) (h:Res n0 base (fieldS T s f (evR top bot x)) r) (hl:leaf r=true):zba P N n0 base k loc (trE n0 (top++bot)) o r:=by
 cases he:evR top bot x with
 | none=>rw [he] at h;exact (zaa h hl).elim
 | some v =>
   rw [he] at h
   have hx:=zb1 (n0:=n0) he
   cases v with
   | lp j k =>
     simp only [fieldS] at h
     cases hs:T s with
     | none=>simp only [hs] at h;exact (zaa h hl).elim
     | some ti =>
       simp only [hs] at h
       split at h
       ·rename_i fs hk
        split at h
        ·rename_i hlg
         have:=za6 h;subst this
         exact fun hp=>st_fieldAddr hT ho hs hk hlg hx
        ·exact (zaa h hl).elim
       ·exact (zaa h hl).elim
   | v a =>
     have other:Res n0 base (ofV (fieldV T s f a)) r→zba P N n0 base k loc (trE n0 (top++bot)) o r:=fun h=>by
      refine zf2 h hl fun v hv hp=>?_
      refine ze1 hT ho ?_
      simp only [stepV]
      rw [hx]
      exact hv
     cases a with
     | vp i n o' =>
       simp only [fieldS] at h
       split at h
       case h_2=>exact (zaa h hl).elim
       rename_i ti ht
       split at h
       case h_2=>exact (zaa h hl).elim
       rename_i fs hk
       split at h
       case h_2=>exact (zaa h hl).elim
       rename_i hlg
       have:=za6 h;subst this
       exact fun hp=>st_field_vp hT ho ht hk hlg hx
     | _=>exact other h
   | lit b=>exact (zaa h hl).elim
theorem leaf_load [Glob] (hT:TOk P T) {t:TypeId} {x:Operand} (hn:base.length=n0) (ho:o.op=.load t x) (h:Res n0 base (loadS T t loc (evR top bot x)) r) (hl:leaf r=true):zba P N n0 base k loc (trE n0 (top++bot)) o r:=by
 have key:∀ (i o':Nat) (u:TypeId) (l l':List AV) (ti:TI),ev (trE n0 (top++bot)) x=.ptr i o'→(base++loc)[i]? = some (.box u l)→dropC o' l=some l'→T t=some ti→Res n0 base (memV (loadC ti l')) r→zba P N n0 base k loc (trE n0 (top++bot)) o r:=by
  intro i o' u l l' ti hx hat hd ht h
  obtain ⟨v,h1,rfl⟩:=res_memV h hl
  intro X
  refine st_load hT ho ht hx (u:=u) (l:=l) ?_ hd h1
  unfold At Hp.all
  simp only
  rw [← ybe,yaj (yac.1 hat).1,hat]
 have keyL:∀ (j o':Nat),ev (trE n0 (top++bot)) x=.ptr (n0+j) o'→Res n0 base (match lget loc j with
   | some (.box _ l)=>match dropC o' l with
     | some l'=>match T t with
       | some ti=>memV (loadC ti l')
       | none=>.fail
     | none=>.fail
   | _=>.fail) r→zba P N n0 base k loc (trE n0 (top++bot)) o r:=by
  intro j o' hx h
  split at h
  ·rename_i u l hg
   split at h
   ·rename_i l' hd
    split at h
    ·rename_i ti ht
     refine key (n0+j) o' u l l' ti hx ?_ hd ht h
     rw [za9] at hg
     rw [yam (by omega),hn,ybk,hg]
    ·exact (zaa h hl).elim
   ·exact (zaa h hl).elim
  ·exact (zaa h hl).elim
 cases he:evR top bot x with
 | none=>rw [he] at h;exact (zaa h hl).elim
 | some v =>
   rw [he] at h
   have hx:=zb1 (n0:=n0) he
   cases v with
   | lp j o'=>exact keyL j o' hx h
   | lit b=>exact (zaa h hl).elim
   | v a =>
     cases a <;> simp only [loadS] at h <;> try exact (zaa h hl).elim
     case ptr i o' =>
      rcases zdd h hl with ⟨j,rfl,h3⟩|⟨B,hb,h3⟩
      ·exact keyL j o' hx h3
      ·split at h3
       ·rename_i u l
        split at h3
        ·rename_i l' hd
         split at h3
         ·rename_i ti ht
          refine key i o' u l l' ti hx ?_ hd ht h3
          rw [yaj (yac.1 hb).1,hb]
         ·exact (zaa h3 hl).elim
        ·exact (zaa h3 hl).elim
       ·exact (zaa h3 hl).elim
     case vp i n o' =>
      have key2:∀ (B:Option Blk) (hB:∀ C,B=some C→∀ X:Heap,At ⟨base,k+X.length,loc++X⟩ i C),Res n0 base (loadVP T t n o' B) r→zba P N n0 base k loc (trE n0 (top++bot)) o r:=by
       intro B hB h
       unfold loadVP at h
       split at h
       case h_2=>exact (zaa h hl).elim
       rename_i u sz l
       split at h
       case h_2=>exact (zaa h hl).elim
       rename_i ti ht
       obtain ⟨h1,h2⟩:=zay h hl
       obtain ⟨l',h3,h4⟩:=res_seg h2 hl
       obtain ⟨h5,h6⟩:=zay h4 hl
       obtain ⟨v,h7,rfl⟩:=res_memV h6 hl
       exact fun X=>st_load_vp hT ho ht hx (hB _ rfl X) h1 h3 h5 h7
      rcases zdd h hl with ⟨j,rfl,h3⟩|⟨B,hb,h3⟩
      ·refine key2 _ (fun C hC X=>?_) h3
       have:At ⟨base,k,loc⟩ (base.length+j) C:=zci hC
       rw [← hn]
       exact at_ext this X
      ·refine key2 _ (fun C hC X=>?_) h3
       cases hC
       exact zdg hb
     case rptr l =>
      split at h
      ·rename_i ti ht
       obtain ⟨v,h1,rfl⟩:=res_memV h hl
       exact fun X=>st_load_r hT ho ht hx h1
      ·exact (zaa h hl).elim
theorem leaf_store [Glob] (hT:TOk P T) {t:TypeId} {x y:Operand} (hn:base.length=n0) (ho:o.op=.store t x y) (h:Res n0 base (storeS T t loc (evR top bot x) (avF n0 top bot y)) r) (hl:leaf r=true):zba P N n0 base k loc (trE n0 (top++bot)) o r:=by
 unfold storeS at h
 cases hey:avF n0 top bot y with
 | none=>simp only [hey] at h;exact (zaa h hl).elim
 | some vy =>
 simp only [hey] at h
 split at h
 ·exact (zaa h hl).elim
 rename_i vs hvs
 obtain ⟨hc,hone⟩:=cellsS_spec hvs
 have hy:ev (trE n0 (top++bot)) y=vy:=av_ev (avF_av hey) (by rintro rfl;cases hvs)
 split at h
 ·exact (zaa h hl).elim
 rename_i ti ht
 split at h
 ·exact (zaa h hl).elim
 rename_i hsz
 have keyL:∀ (j o':Nat),ev (trE n0 (top++bot)) x=.ptr (n0+j) o'→Res n0 base (match lget loc j with
      | some (.box u l)=>match setC l o' vs with
        | some l'=>.upd j (.box u l') none
        | none=>.fail
      | _=>.fail) r→zba P N n0 base k loc (trE n0 (top++bot)) o r:=by
  intro j o' hx h
  split at h
  ·rename_i u l hg
   split at h
   ·rename_i l' hs
    have:r=.upd j (.box u l') none:=by cases h;rfl
    subst this
    intro loc' hloc'
    refine st_store hT ho ht hx (u:=u) (l:=l) ?_ hy hc hone hsz hs ?_
    ·rw [← hn];exact zci hg
    ·rw [← hn];exact zc8 hloc'
   ·exact (zaa h hl).elim
  ·exact (zaa h hl).elim
 split at h
 ·rename_i j o' hex
  exact keyL j o' (zb1 hex) h
 ·rename_i i o' hex
  have hx:=zb1 (n0:=n0) hex
  rcases zdd h hl with ⟨j,rfl,h3⟩|⟨B,hb,h3⟩
  ·exact keyL j o' hx h3
  ·split at h3
   ·rename_i u l
    split at h3
    ·rename_i l' hs
     have:r=.updB i (.box u l') none:=by cases h3;rfl
     subst this
     exact st_store hT ho ht hx (zdg hb) hy hc hone hsz hs (zd1 hb)
    ·exact (zaa h3 hl).elim
   ·exact (zaa h3 hl).elim
 ·rename_i i n o' hex
  have hx:=zb1 (n0:=n0) hex
  rcases zdd h hl with ⟨j,rfl,h3⟩|⟨B,hb,h3⟩
  ·unfold storeVP at h3
   split at h3
   case h_2=>exact (zaa h3 hl).elim
   rename_i u sz l hg
   obtain ⟨⟨h4,h5,h6⟩,h7⟩:=zay h3 hl
   obtain ⟨a,b',rfl,h8⟩:=zfl h7 hl
   have:r=.upd j (.vec u sz (setL l o' vs)) none:=by cases h8;rfl
   subst this
   intro loc' hloc'
   subst hn
   exact st_store_vp hT ho ht hx (zci hg) h4 hy hc hone hsz h5 h6 (zc8 hloc')
  ·unfold storeVP at h3
   split at h3
   case h_2=>exact (zaa h3 hl).elim
   rename_i u sz l hg
   cases hg
   obtain ⟨⟨h4,h5,h6⟩,h7⟩:=zay h3 hl
   obtain ⟨a,b',rfl,h8⟩:=zfl h7 hl
   have:r=.updB i (.vec u sz (setL l o' vs)) none:=by cases h8;rfl
   subst this
   exact st_store_vp hT ho ht hx (zdg hb) h4 hy hc hone hsz h5 h6 (zd1 hb)
 ·exact (zaa h hl).elim
theorem leaf_alloc [Glob] (hT:TOk P T) {t:TypeId} (ho:o.op=.alloc t) (h:Res n0 base (allocS T t) r) (hl:leaf r=true):zba P N n0 base k loc (trE n0 (top++bot)) o r:=by
 unfold allocS at h
 split at h
 ·rename_i ti ht
  split at h
  ·rename_i z hz
   have:r=.box t z:=by cases h;rfl
   subst this
   intro g w a hE
   obtain ⟨d,i,h1,h2,h3,h4,h5,h6⟩:=zaj (hT _ _ ht)
   rw [hz] at h6
   cases hiz:i.zero with
   | none=>rw [hiz] at h6;cases h6
   | some zv =>
   rw [hiz] at h6
   simp only [ybb,yad] at h6
   refine ⟨t,z,zv.cells,rfl,by rw [h6];exact zej g w _,?_⟩
   simp [execOp,ho,Instr.alloc,zeroValue,typeInfo,h2,hiz,newVar,newRow]
  ·exact (zaa h hl).elim
 ·exact (zaa h hl).elim
theorem leaf_box [Glob] {t:TypeId} {x:Operand} (ho:o.op=.box t x) (h:Res n0 base (boxS t (av n0 top bot x)) r) (hl:leaf r=true):zba P N n0 base k loc (trE n0 (top++bot)) o r:=by
 unfold boxS at h
 split at h
 ·rename_i l hb
  have:r=.box t l:=by cases h;rfl
  subst this
  obtain ⟨hc,hone⟩:=boxC_spec hb
  intro g w a hE
  have hx:ev (trE n0 (top++bot)) x=av n0 top bot x:=av_ev rfl (by intro e;rw [e] at hb;cases hb)
  have hr:=zar hE x
  rw [hx] at hr
  refine ⟨t,l,(a.eval x).cells,rfl,by rw [← hc];exact hr.cells hone,?_⟩
  simp [execOp,ho,Instr.box,newVar,newRow]
 ·exact (zaa h hl).elim
theorem leaf_index [Glob] (hT:TOk P T) {t:TypeId} {x y:Operand} (ho:o.op=.indexAddr t x y) (h:Res n0 base (indexS T t (evR top bot x) (av n0 top bot y)) r) (hl:leaf r=true):zba P N n0 base k loc (trE n0 (top++bot)) o r:=by
 unfold indexS at h
 split at h
 ·rename_i kk i hy
  have hy:=av_ev hy (by simp)
  split at h
  ·rename_i ti ht
   split at h
   ·rename_i e hk
    split at h
    ·rename_i ei he
     split at h
     ·rename_i b o' n hex
      have hx:=zb1 (n0:=n0) hex
      rcases zdd h hl with ⟨j,rfl,h'⟩|⟨B,-,h'⟩
      ·obtain ⟨m,rfl,h2,h3⟩:=res_ofs h' hl
       have:=za6 h3;subst this
       exact fun hp=>st_index_ms hT ho ht hk he hx hy (by omega) (by omega)
      ·obtain ⟨m,rfl,h2,h3⟩:=res_ofs h' hl
       have:=za6 h3;subst this
       exact fun hp=>st_index_ms hT ho ht hk he hx hy (by omega) (by omega)
     ·rename_i a _ hex
      have hx:=zb1 (n0:=n0) hex
      split at h
      ·rename_i n l hs
       obtain ⟨h1,h2⟩:=zay h hl
       obtain ⟨l',h3,h4⟩:=res_seg h2 hl
       obtain ⟨h5,h6⟩:=zay h4 hl
       have:=za6 h6;subst this
       exact fun hp=>st_indexS hT ho ht hk he (by rw [hx];exact hs) hy h1.1 h1.2 h3 h5
      ·exact (zaa h hl).elim
     ·exact (zaa h hl).elim
    ·exact (zaa h hl).elim
   ·rename_i n e hk
    split at h
    ·rename_i ei he
     split at h
     ·rename_i j o' hex
      have hx:=zb1 (n0:=n0) hex
      obtain ⟨m,rfl,h2,h3⟩:=res_ofs h hl
      have:=za6 h3;subst this
      exact fun hp=>zfc hT ho ht hk he hx hy (by omega) (by omega)
     ·rename_i b o' hex
      have hx:=zb1 (n0:=n0) hex
      obtain ⟨m,rfl,h2,h3⟩:=res_ofs h hl
      have:=za6 h3;subst this
      exact fun hp=>zfc hT ho ht hk he hx hy (by omega) (by omega)
     ·rename_i l hex
      have hx:=zb1 (n0:=n0) hex
      obtain ⟨h1,h2⟩:=zay h hl
      obtain ⟨l',h3,h4⟩:=res_seg h2 hl
      have:=za6 h4;subst this
      exact fun hp=>zgy hT ho ht hk he hx hy h1.1 h1.2 h3
     ·exact (zaa h hl).elim
    ·exact (zaa h hl).elim
   ·exact (zaa h hl).elim
  ·exact (zaa h hl).elim
 ·exact (zaa h hl).elim
theorem av_wk [Glob] {g:G} {w:World} {a:Act} (hE:ERel N g w (trE n0 (top++bot)) a) (x:Operand):VRel g w (av n0 top bot x) (a.eval x):=by
 unfold av
 cases he:evR top bot x with
 | none=>simp [VRel]
 | some v =>
   simp only
   rw [← zb1 he]
   exact zar hE x
theorem avL_rel [Glob] {g:G} {w:World} {a:Act} (hE:ERel N g w (trE n0 (top++bot)) a):∀ l:List Operand,LRel g w (avL n0 top bot l) (l.map a.eval)
 | []=>by simp [LRel,avL]
 | x::l=>by
   simp only [ybx,avL,LRel]
   exact ⟨_,_,rfl,av_wk hE x,avL_rel hE l⟩
theorem zdt [Glob]:∀ {l:List (Nat×Operand)},allOA (avP n0 top bot l)=true→zb7 (trE n0 (top++bot)) l=avP n0 top bot l
 | [],_=>rfl
 | (i,x)::l,h=>by
   simp only [avP,allOA] at h
   simp only [avP,zb7]
   cases hv:ze5 (av n0 top bot x) with
   | false=>simp [hv] at h
   | true =>
     simp only [hv] at h
     rw [zdt h,av_ev rfl (by intro e;rw [e] at hv;cases hv)]
theorem leaf_build [Glob] (hT:TOk P T) (hkn:∀ t n,kn t=n+1→zeb P t=true) {t:TypeId} {ps:List (Nat×Operand)} (ho:o.op=.build t ps.toArray) (h:Res n0 base (buildS T t kn (avP n0 top bot ps)) r) (hl:leaf r=true):zba P N n0 base k loc (trE n0 (top++bot)) o r:=by
 unfold buildS at h
 split at h
 ·exact (zaa h hl).elim
 rename_i h1
 split at h
 ·rename_i ti ht
  split at h
  ·rename_i z hz
   split at h
   ·rename_i fs hk
    split at h
    ·rename_i hknt
     split at h
     ·rename_i l hfill
      have:=za6 h;subst this
      rw [← zdt h1] at hfill
      exact fun hp=>st_build hT ho ht hk hz (hkn _ _ hknt) (by rw [zdt h1];exact h1) hfill
     ·exact (zaa h hl).elim
    ·exact (zaa h hl).elim
   ·rename_i n e hk
    split at h
    ·rename_i ei he
     split at h
     ·rename_i l hfill
      have:=za6 h;subst this
      rw [← zdt h1] at hfill
      exact fun hp=>st_buildArr hT ho ht hk he hz (by rw [zdt h1];exact h1) hfill
     ·exact (zaa h hl).elim
    ·exact (zaa h hl).elim
   ·exact (zaa h hl).elim
  ·exact (zaa h hl).elim
 ·exact (zaa h hl).elim
theorem leaf_buildSlice [Glob] (hT:TOk P T) (hn:base.length=n0) {t:TypeId} {n:Nat} {ps:List (Nat×Operand)} (ho:o.op=.buildSlice t n ps.toArray) (h:Res n0 base (zgo n0 T t n (avP n0 top bot ps)) r) (hl:leaf r=true):zba P N n0 base k loc (trE n0 (top++bot)) o r:=by
 unfold zgo at h
 split at h
 ·exact (zaa h hl).elim
 rename_i h1
 split at h
 ·rename_i ti ht
  split at h
  ·rename_i e hk
   split at h
   ·rename_i ei he
    split at h
    ·rename_i z hz
     split at h
     ·rename_i hzl
      split at h
      ·rename_i hsm
       split at h
       case h_2=>exact (zaa h hl).elim
       rename_i zs hzs
       have hzs:=repO_eq hzs
       subst hzs
       split at h
       ·rename_i l hfill
        rw [← zdt h1] at hfill
        split at h
        ·rename_i hle
         split at h
         ·rename_i hn16
          rcases zeg h hl with h|h
          ·have:=zd4 h;subst this
           exact fun X=>zel hT ho ht hk he hz hzl hsm (by rw [zdt h1];exact h1) hfill
          ·have:r=.blk (.vec e ei.sz l) fun k=>.v (.vs (n0+k) n):=by cases h;rfl
           subst this
           subst hn
           exact st_buildVec hT ho ht hk he hz hzl hsm hn16 (by rw [yak] at hle;exact hle.1) (by rw [zdt h1];exact h1) hfill
         ·have:=zd4 h;subst this
          exact fun X=>zel hT ho ht hk he hz hzl hsm (by rw [zdt h1];exact h1) hfill
        ·have:=zd4 h;subst this
         exact fun X=>zel hT ho ht hk he hz hzl hsm (by rw [zdt h1];exact h1) hfill
       ·exact (zaa h hl).elim
      ·exact (zaa h hl).elim
     ·exact (zaa h hl).elim
    ·exact (zaa h hl).elim
   ·exact (zaa h hl).elim
  ·exact (zaa h hl).elim
 ·exact (zaa h hl).elim
theorem leaf_fieldPart [Glob] (hT:TOk P T) {s:TypeId} {x:Operand} {f:Nat} (ho:o.op=.field s x f) (h:Res n0 base (ofV (fieldPartV T s f (av n0 top bot x))) r) (hl:leaf r=true):zba P N n0 base k loc (trE n0 (top++bot)) o r:=by
 refine zf2 h hl fun v hv hp=>?_
 generalize hx:av n0 top bot x=vx at hv
 unfold fieldPartV at hv
 split at hv
 ·have hx':=av_ev hx (by simp)
  split at hv
  ·rename_i ti ht
   split at hv
   ·rename_i fs hk
    split at hv
    ·rename_i hlg
     split at hv
     ·rename_i fi hfi
      split at hv
      ·rename_i l' hd
       exact st_field hT ho ht hk hlg hx' hfi hd hv
      ·cases hv
     ·cases hv
    ·cases hv
   ·cases hv
  ·cases hv
 ·cases hv
theorem leaf_func [Glob] {F:FuncId} {fs cs:List Operand} (ho:o.op=.makeFunc (.func F) fs.toArray cs.toArray) (h:Res n0 base (.reg (.v (.clo (.func F) (avL n0 top bot fs) (avL n0 top bot cs)))) r):zba P N n0 base k loc (trE n0 (top++bot)) o r:=by
 have:=za6 h;subst this
 refine fun hp=>ybf fun g w a _ hE=>?_
 refine ⟨.func (.func F) (fs.map a.eval).toArray (cs.map a.eval).toArray,?_,?_⟩
 ·simp [execOp,ho,Instr.makeFunc]
 ·simp only [tr,VRel]
  exact ⟨⟨trivial,trivial⟩,_,_,rfl,avL_rel hE fs,avL_rel hE cs⟩
theorem st_nilcheck_v [Glob] {hp:Hp} {env:Env} {x:Operand} {i n k:Nat} (ho:o.op=.nilCheck x) (hx:ev env x=.vp i n k):Step P N hp env o (.vp i n k) hp :=
 ybf fun g w a _ hE=>by
  have h1:=zar hE x
  rw [hx] at h1
  have h1':=h1
  simp only [VRel] at h1
  obtain ⟨-,-,b,hc,-⟩:=h1
  refine ⟨a.eval x,?_,h1'⟩
  simp [execOp,ho,hc]
theorem leaf_nil [Glob] {x:Operand} (ho:o.op=.nilCheck x) (h:Res n0 base (nilS (evR top bot x)) r) (hl:leaf r=true):zba P N n0 base k loc (trE n0 (top++bot)) o r:=by
 unfold nilS at h
 split at h
 ·rename_i j o' hex
  have:=za6 h;subst this
  exact fun hp=>zgi ho (zb1 hex)
 ·rename_i hex
  have:=za6 h;subst this
  exact fun hp=>zgi ho (zb1 (n0:=n0) hex)
 ·rename_i hex
  have:=za6 h;subst this
  exact fun hp=>zgw ho (zb1 (n0:=n0) hex)
 ·rename_i hex
  have:=za6 h;subst this
  exact fun hp=>st_nilcheck_v ho (zb1 (n0:=n0) hex)
 ·rename_i hex
  obtain ⟨hfn,h⟩:=zay h hl
  have:=za6 h;subst this
  exact fun hp=>zgx hfn ho (zb1 (n0:=n0) hex)
 ·exact (zaa h hl).elim
theorem leaf_not [Glob] {t:TypeId} {x:Operand} (ho:o.op=.unOp .not t x) (h:Res n0 base (notS (av n0 top bot x)) r) (hl:leaf r=true):zba P N n0 base k loc (trE n0 (top++bot)) o r:=by
 unfold notS at h
 split at h
 ·rename_i b hx
  have:=za6 h;subst this
  exact fun hp=>st_not ho (av_ev hx (by simp))
 ·exact (zaa h hl).elim
theorem leaf_neg [Glob] {t:TypeId} {x:Operand} (ho:o.op=.unOp .neg t x) (h:Res n0 base (negS (av n0 top bot x)) r) (hl:leaf r=true):zba P N n0 base k loc (trE n0 (top++bot)) o r:=by
 unfold negS at h
 split at h
 ·rename_i kk n hx
  have:=za6 (zgl h hl);subst this
  exact fun hp=>st_neg ho (av_ev hx (by simp))
 ·exact (zaa h hl).elim
theorem leaf_com [Glob] {t:TypeId} {x:Operand} (ho:o.op=.unOp .xor t x) (h:Res n0 base (comS (av n0 top bot x)) r) (hl:leaf r=true):zba P N n0 base k loc (trE n0 (top++bot)) o r:=by
 unfold comS at h
 split at h
 ·rename_i kk n hx
  have:=za6 (zgl h hl);subst this
  exact fun hp=>st_com ho (av_ev hx (by simp))
 ·exact (zaa h hl).elim
theorem leaf_extract [Glob] {x:Operand} {i:Nat} (ho:o.op=.extract x i) (h:Res n0 base (extractS i (av n0 top bot x)) r) (hl:leaf r=true):zba P N n0 base k loc (trE n0 (top++bot)) o r:=by
 unfold extractS at h
 split at h
 ·rename_i l hx
  split at h
  ·rename_i v hv
   have:=za6 h;subst this
   exact fun hp=>st_extract ho (av_ev hx (by simp)) hv
  ·exact (zaa h hl).elim
 ·exact (zaa h hl).elim
theorem leaf_call [Glob] {f:Operand} {xs:List Operand} (h:Res n0 base (callS (avL n0 top bot xs) (av n0 top bot f)) r) (_hl:leaf r=true) :
  ∃ F as,r=.call F as∧∃ fs cs,ev (trE n0 (top++bot)) f=.clo F fs cs∧(fs++avL n0 top bot xs)++cs=as:=by
 unfold callS at h
 split at h
 ·rename_i F fs cs hf
  have:r=.call F (appL (appL fs (avL n0 top bot xs)) cs):=by cases h;rfl
  subst this
  exact ⟨_,_,rfl,fs,cs,av_ev hf (by simp),by rw [appL_eq,appL_eq]⟩
 ·exact (zaa h _hl).elim
theorem avF_ev [Glob] {x:Operand} {a:AV} (h:avF n0 top bot x=some a):ev (trE n0 (top++bot)) x=a:=by
 unfold avF at h
 cases he:evR top bot x with
 | none=>simp [he] at h
 | some v =>
   rw [zb1 he]
   cases v <;> simp only [he,yad] at h <;> subst h <;> rfl
theorem leaf_makeMap [Glob] (hn:base.length=n0) {t:TypeId} (ho:o.op=.makeMap t none) (h:Res n0 base (.blk (.mp [] []) fun k=>.v (.mp (n0+k))) r):zba P N n0 base k loc (trE n0 (top++bot)) o r:=by
 have:r=.blk (.mp [] []) fun k=>.v (.mp (n0+k)):=by cases h;rfl
 subst this
 subst hn
 exact st_makeMap ho
theorem leaf_look [Glob] (hT:TOk P T) (hkn:∀ t n,kn t=n+2→P.stoodInHeld t=false∧P.eqGuardType P.depth t=false) (hzr:∀ t ti,T t=some ti→zdb P t=true) (hn:base.length=n0) {t:TypeId} {x y:Operand} {ok:Bool} {kv:AV} (ho:o.op=.lookup t x y ok) (hkv:ev (trE n0 (top++bot)) y=kv) (h:Res n0 base (lookupS kn T t loc ok (av n0 top bot x) kv) r) (hl:leaf r=true):zba P N n0 base k loc (trE n0 (top++bot)) o r:=by
 unfold lookupS at h
 split at h
 case h_2=>exact (zaa h hl).elim
 rename_i ti ht
 split at h
 case h_2=>exact (zaa h hl).elim
 rename_i kt et hk
 split at h
 case h_2=>exact (zaa h hl).elim
 rename_i ei het
 have look:∀ {ks vs:List AV},Res n0 base (lookR kn T kt ei ok kv ks vs) r→(∀ X:Heap,MapAt ⟨base,k+X.length,loc++X⟩ (ev (trE n0 (top++bot)) x) ks vs∨(ev (trE n0 (top++bot)) x=.nilm∧ks=[]∧vs=[]))→zba P N n0 base k loc (trE n0 (top++bot)) o r:=by
  intro ks vs h hm
  unfold lookR at h
  obtain ⟨a,b,⟨⟨b',hs⟩,hlk⟩,h⟩:=zfl h hl
  split at h
  case h_2=>exact (zaa h hl).elim
  rename_i v fd hv
  have key:∀ X:Heap,Step P N ⟨base,k+X.length,loc++X⟩ (trE n0 (top++bot)) o (if ok=true then .tup [v,.bool fd] else v) ⟨base,k+X.length,loc++X⟩ :=
   fun X=>st_lookup hT hkn ho ht hk het (hzr _ _ het) (hm X) hkv hs hlk hv
  split at h
  ·have:=zd4 h;subst this
   exact fun X=>key X
  ·have:=zd4 h;subst this
   exact fun X=>key X
 split at h
 ·rename_i i hx
  have hx':=av_ev hx (by simp)
  rcases zdd h hl with ⟨j,hij,h2⟩|⟨B,hB,h2⟩
  ·split at h2
   case h_2=>exact (zaa h2 hl).elim
   rename_i ks vs hj
   refine look h2 fun X=>.inl (.inl ⟨_,hx',?_⟩)
   subst hn hij
   have:At ⟨base,k,loc⟩ (base.length+j) (.mp ks vs):=zci hj
   exact at_ext this X
  ·split at h2
   case h_2=>exact (zaa h2 hl).elim
   rename_i ks vs
   exact look h2 fun X=>.inl (.inl ⟨_,hx',zdg hB⟩)
 ·rename_i ks vs hx
  exact look h fun X=>.inl (.inr (av_ev hx (by simp)))
 ·rename_i hx
  exact look h fun X=>.inr ⟨av_ev hx (by simp),rfl,rfl⟩
 ·exact (zaa h hl).elim
theorem leaf_put [Glob] (hT:TOk P T) (hkn:∀ t n,kn t=n+2→P.stoodInHeld t=false∧P.eqGuardType P.depth t=false) (hn:base.length=n0) {t:TypeId} {x y z:Operand} {kv v:AV} (ho:o.op=.mapUpdate t x y z∨o.op=.insert t x y z) (hkv:ev (trE n0 (top++bot)) y=kv) (hvj:ev (trE n0 (top++bot)) z=v) (h:Res n0 base (mapPutS kn T t loc (av n0 top bot x) kv v) r) (hl:leaf r=true):zba P N n0 base k loc (trE n0 (top++bot)) o r:=by
 unfold mapPutS at h
 split at h
 case h_2=>exact (zaa h hl).elim
 rename_i ti ht
 split at h
 case h_2=>exact (zaa h hl).elim
 rename_i kt et hk
 split at h
 case h_2=>exact (zaa h hl).elim
 rename_i i hx
 have hx':=av_ev hx (by simp)
 split at h
 case h_2=>exact (zaa h hl).elim
 rename_i hpl
 rcases zdd h hl with ⟨j,hij,h2⟩|⟨B,hB,h2⟩
 ·split at h2
  case h_2=>exact (zaa h2 hl).elim
  rename_i ks vs hj
  obtain ⟨ks',vs',⟨⟨b',hs⟩,hp⟩,h3⟩:=zfl h2 hl
  have:r=.upd j (.mp ks' vs') none:=by cases h3;rfl
  subst this
  intro loc' hset
  subst hn hij
  exact st_put hT hkn ho ht hk hx' (zci hj) hkv hvj hpl hs hp (zc8 hset)
 ·split at h2
  case h_2=>exact (zaa h2 hl).elim
  rename_i ks vs
  obtain ⟨ks',vs',⟨⟨b',hs⟩,hp⟩,h3⟩:=zfl h2 hl
  have:r=.updB i (.mp ks' vs') none:=by cases h3;rfl
  subst this
  exact st_put hT hkn ho ht hk hx' (zdg hB) hkv hvj hpl hs hp (zd1 hB)
theorem leaf_ent [Glob] (hT:TOk P T) (hkn:∀ t n,kn t=n+2→P.stoodInHeld t=false∧P.eqGuardType P.depth t=false) (hzr:∀ t ti,T t=some ti→zdb P t=true) (hn:base.length=n0) {t:TypeId} {x y:Operand} {kv:AV} (ho:o.op=.mapEntry t x y) (hkv:ev (trE n0 (top++bot)) y=kv) (h:Res n0 base (mapEntS kn T t loc (av n0 top bot x) kv) r) (hl:leaf r=true):zba P N n0 base k loc (trE n0 (top++bot)) o r:=by
 unfold mapEntS at h
 split at h
 case h_2=>exact (zaa h hl).elim
 rename_i ti ht
 split at h
 case h_2=>exact (zaa h hl).elim
 rename_i kt et hk
 split at h
 case h_2=>exact (zaa h hl).elim
 rename_i ei het
 split at h
 case h_2=>exact (zaa h hl).elim
 rename_i z hz
 split at h
 case h_2=>exact (zaa h hl).elim
 rename_i i hx
 have hx':=av_ev hx (by simp)
 split at h
 case h_2=>exact (zaa h hl).elim
 rename_i hpl
 rcases zdd h hl with ⟨j,hij,h2⟩|⟨B,hB,h2⟩
 ·split at h2
  case h_2=>exact (zaa h2 hl).elim
  rename_i ks vs hj
  obtain ⟨ks',b',⟨⟨b'',hs⟩,hp⟩,h3⟩:=zfl h2 hl
  split at h3
  case h_2=>exact (zaa h3 hl).elim
  rename_i v s vs'
  have:r=.upd j (.mp ks' vs') (some (.v (.tup [v,s]))):=by cases h3;rfl
  subst this
  intro loc' hset
  subst hn hij
  exact st_ent hT hkn ho ht hk het (hzr _ _ het) hz hx' (zci hj) hkv hpl hs hp (zc8 hset)
 ·split at h2
  case h_2=>exact (zaa h2 hl).elim
  rename_i ks vs
  obtain ⟨ks',b',⟨⟨b'',hs⟩,hp⟩,h3⟩:=zfl h2 hl
  split at h3
  case h_2=>exact (zaa h3 hl).elim
  rename_i v s vs'
  have:r=.updB i (.mp ks' vs') (some (.v (.tup [v,s]))):=by cases h3;rfl
  subst this
  exact st_ent hT hkn ho ht hk het (hzr _ _ het) hz hx' (zdg hB) hkv hpl hs hp (zd1 hB)
theorem leaf_ents [Glob] (hn:base.length=n0) {t:TypeId} {x y z:Operand} {v:AV} (ho:o.op=.entryStore t x y z) (hvj:ev (trE n0 (top++bot)) z=v) (h:Res n0 base (entStS loc (av n0 top bot x) (av n0 top bot y) v) r) (hl:leaf r=true):zba P N n0 base k loc (trE n0 (top++bot)) o r:=by
 unfold entStS at h
 split at h
 case h_2=>exact (zaa h hl).elim
 rename_i i hx
 have hx':=av_ev hx (by simp)
 split at h
 case h_2=>exact (zaa h hl).elim
 rename_i kk x0 hy
 have hy':=av_ev hy (by simp)
 rcases zdd h hl with ⟨j,hij,h2⟩|⟨B,hB,h2⟩
 ·split at h2
  case h_2=>exact (zaa h2 hl).elim
  rename_i ks vs hj
  obtain ⟨J,rfl,h3⟩:=zem h2 hl
  obtain ⟨hJ,h4⟩:=zay h3 hl
  have:r=.upd j (.mp ks (vs.set J v)) none:=by cases h4;rfl
  subst this
  intro loc' hset
  subst hn hij
  exact st_ents ho hx' (zci hj) hy' hvj hJ (zc8 hset)
 ·split at h2
  case h_2=>exact (zaa h2 hl).elim
  rename_i ks vs
  obtain ⟨J,rfl,h3⟩:=zem h2 hl
  obtain ⟨hJ,h4⟩:=zay h3 hl
  have:r=.updB i (.mp ks (vs.set J v)) none:=by cases h4;rfl
  subst this
  exact st_ents ho hx' (zdg hB) hy' hvj hJ (zd1 hB)
theorem leaf_mapOf [Glob] (hn:base.length=n0) {m:AV} {kk:List AV→List AV→SR} (h:Res n0 base (mapOfS loc m kk) r) (hl:leaf r=true) :
  ∃ ks vs,Res n0 base (kk ks vs) r∧∀ X:Heap,MapAt ⟨base,k+X.length,loc++X⟩ m ks vs:=by
 unfold mapOfS at h
 split at h
 ·rename_i i
  rcases zdd h hl with ⟨j,hij,h2⟩|⟨B,hB,h2⟩
  ·split at h2
   case h_2=>exact (zaa h2 hl).elim
   rename_i ks vs hj
   refine ⟨ks,vs,h2,fun X=>.inl ⟨_,rfl,?_⟩⟩
   subst hn hij
   have:At ⟨base,k,loc⟩ (base.length+j) (.mp ks vs):=zci hj
   exact at_ext this X
  ·split at h2
   case h_2=>exact (zaa h2 hl).elim
   rename_i ks vs
   exact ⟨ks,vs,h2,fun X=>.inl ⟨_,rfl,zdg hB⟩⟩
 ·rename_i ks vs
  exact ⟨ks,vs,h,fun X=>.inr rfl⟩
 ·exact (zaa h hl).elim
theorem leaf_range [Glob] (hT:TOk P T) (hn:base.length=n0) {t:TypeId} {x:Operand} (ho:o.op=.range t x) (h:Res n0 base (rangeS T t loc (av n0 top bot x)) r) (hl:leaf r=true):zba P N n0 base k loc (trE n0 (top++bot)) o r:=by
 unfold rangeS at h
 split at h
 case h_2=>exact (zaa h hl).elim
 rename_i ti ht
 split at h
 case h_2=>exact (zaa h hl).elim
 rename_i kt et hk
 have hx:ev (trE n0 (top++bot)) x=av n0 top bot x:=av_ev rfl (fun e=>by rw [e] at h;exact zaa h hl)
 obtain ⟨ks,vs,h2,hm⟩:=leaf_mapOf (k:=k) hn h hl
 have:r=.blk (.it (av n0 top bot x) ks.length []) fun k=>.lp k 0:=by cases h2;rfl
 subst this
 subst hn
 have h0:=hm []
 simp only [List.length_nil,yby,yat] at h0
 exact st_range hT ho ht hk hx h0
theorem leaf_next [Glob] (hn:base.length=n0) {x:Operand} (ho:o.op=.next x false) (h:Res n0 base (nextS loc (evR top bot x)) r) (hl:leaf r=true):zba P N n0 base k loc (trE n0 (top++bot)) o r:=by
 unfold nextS at h
 split at h
 case h_2=>exact (zaa h hl).elim
 rename_i j o' he
 split at h
 case h_2=>exact (zaa h hl).elim
 split at h
 case h_2=>exact (zaa h hl).elim
 rename_i src n seen hj
 have hx:=zb1 (n0:=n0) he
 have hxs:∃ ks vs,Res n0 base (.side (ks.length=n) (.anyU j (NextS src n seen ks vs))) r∧∀ X:Heap,MapAt ⟨base,k+X.length,loc++X⟩ src ks vs:=by
  exact leaf_mapOf (k:=k) hn h hl
 obtain ⟨ks,vs,h2,hm⟩:=hxs
 obtain ⟨hlen,h3⟩:=zay h2 hl
 have:r=.anyU j (NextS src n seen ks vs):=by cases h3;rfl
 subst this
 subst hn
 have h0:=hm []
 simp only [List.length_nil,yby,yat] at h0
 intro g w a hH hE
 exact st_next ho hx hj hlen h0 hH hE
theorem leaf_entry [Glob] (hn:base.length=n0) {x:Operand} (ho:o.op=.entry x) (h:Res n0 base (entryS loc (evR top bot x)) r) (hl:leaf r=true):zba P N n0 base k loc (trE n0 (top++bot)) o r:=by
 unfold entryS at h
 split at h
 case h_2=>exact (zaa h hl).elim
 rename_i j o' he
 split at h
 case h_2=>exact (zaa h hl).elim
 split at h
 case h_2=>exact (zaa h hl).elim
 rename_i src n seen hj
 have hx:=zb1 (n0:=n0) he
 have hxs:∃ ks vs,Res n0 base (.rel (EntryS n seen ks vs) fun a _=>.mem (.v (.tup a))) r∧∀ X:Heap,MapAt ⟨base,k+X.length,loc++X⟩ src ks vs:=by
  exact leaf_mapOf (k:=k) hn h hl
 obtain ⟨ks,vs,h2,hm⟩:=hxs
 obtain ⟨a,b,⟨hlen,-,s,e,kv,vv,rfl,hk,hv,rfl⟩,h3⟩:=zfl h2 hl
 have:=zd4 h3;subst this
 subst hn
 intro X
 have:At ⟨base,k,loc⟩ (base.length+j) (.it src n (s++[e])):=zci hj
 exact st_entry ho hx (at_ext this X) hlen (hm X) hk hv
theorem leaf_len [Glob] (hT:TOk P T) {t:TypeId} {x:Operand} (ho:o.op=.call { callee:=.builtin .len,args:=#[x],argTypes:=#[t] }) (h:Res n0 base (lenS T t (av n0 top bot x)) r) (hl:leaf r=true):zba P N n0 base k loc (trE n0 (top++bot)) o r:=by
 unfold lenS at h
 split at h
 ·rename_i ti ht
  split at h
  ·rename_i e hk
   split at h
   ·rename_i b o' n hx
    have:=za6 h;subst this
    exact fun hp=>st_len_ms hT ho ht hk (av_ev hx (by simp))
   ·rename_i b n hx
    have:=za6 h;subst this
    exact fun hp=>st_len_vs hT ho ht hk (av_ev hx (by simp))
   ·rename_i b n m hx
    have:=za6 h;subst this
    exact fun hp=>st_len_vk hT ho ht hk (av_ev hx (by simp))
   ·split at h
    ·rename_i n l hs
     have:=za6 h;subst this
     exact fun hp=>st_lenS (l:=l) hT ho ht hk (by rw [av_ev rfl (by intro e;rw [e] at hs;cases hs)];exact hs)
    ·exact (zaa h hl).elim
  ·rename_i hk
   split at h
   ·rename_i s hx
    have:=za6 h;subst this
    exact fun hp=>st_len_str hT ho ht hk (av_ev hx (by simp))
   ·exact (zaa h hl).elim
  ·rename_i kt et hk
   split at h
   ·rename_i ks vs hx
    have:=za6 h;subst this
    exact fun hp=>st_len_mp hT ho ht hk (av_ev hx (by simp))
   ·exact (zaa h hl).elim
  ·exact (zaa h hl).elim
 ·exact (zaa h hl).elim
theorem bd_of [Glob] {x:Option Operand} {d:Nat} {kk:Nat→SR} (h:Res n0 base (bdS (avO n0 top bot x) d kk) r) (hl:leaf r=true):∃ m,Bd (trE n0 (top++bot)) x d m∧Res n0 base (kk m) r:=by
 cases x with
 | none=>exact ⟨d,rfl,h⟩
 | some y =>
   simp only [avO,bdS] at h
   generalize hy:av n0 top bot y=vy at h
   cases vy <;> simp only at h <;> try exact (zaa h hl).elim
   obtain ⟨m,rfl,h2⟩:=zem h hl
   exact ⟨m,⟨_,av_ev hy (by simp)⟩,h2⟩
theorem leaf_cap [Glob] (hT:TOk P T) {t:TypeId} {x:Operand} (ho:o.op=.call { callee:=.builtin .cap,args:=#[x],argTypes:=#[t] }) (h:Res n0 base (capS T t (av n0 top bot x)) r) (hl:leaf r=true):zba P N n0 base k loc (trE n0 (top++bot)) o r:=by
 unfold capS at h
 split at h
 case h_2=>exact (zaa h hl).elim
 rename_i ti ht
 split at h
 case h_2=>exact (zaa h hl).elim
 rename_i e hk
 split at h
 case h_2=>exact (zaa h hl).elim
 rename_i i n m hx
 have:r=.anyV (CapV m):=by cases h;rfl
 subst this
 exact st_cap_vk hT ho ht hk (av_ev hx (by simp))
theorem leaf_sv [Glob] (hT:TOk P T) {t e:TypeId} {ti ei:TI} {x:Operand} {low high max:Option Operand} (ht:T t=some ti) (hk:ti.kind=.sl e) (he:T e=some ei) (ho:o.op=.slice t x low high max) (h:Res n0 base (svS (avO n0 top bot low) (avO n0 top bot high) (avO n0 top bot max) (av n0 top bot x)) r) (hl:leaf r=true):zba P N n0 base k loc (trE n0 (top++bot)) o r:=by
 unfold svS at h
 split at h
 case h_2=>exact (zaa h hl).elim
 rename_i hlw
 have:low=none:=by cases low <;> simp [avO] at hlw;rfl
 subst this
 split at h
 case h_2=>exact (zaa h hl).elim
 rename_i hmx
 have:max=none:=by cases max <;> simp [avO] at hmx;rfl
 subst this
 split at h
 case h_2=>exact (zaa h hl).elim
 rename_i kh hh hhx
 obtain ⟨yh,rfl,hyh⟩:∃ yh,high=some yh∧av n0 top bot yh=.int kh hh:=by
  cases high <;> simp [avO] at hhx;exact ⟨_,rfl,hhx⟩
 have hyh:=av_ev hyh (by simp)
 split at h
 ·rename_i i n hx
  have hx:=av_ev hx (by simp)
  obtain ⟨hi,rfl,h9⟩:=zem h hl
  obtain ⟨h1,h8⟩:=zay h9 hl
  have:=za6 h8;subst this
  exact fun hp=>st_slice_vs hT ho ht hk he hx hyh h1
 ·rename_i i n m hx
  have hx:=av_ev hx (by simp)
  obtain ⟨rfl,h8⟩:=zay h hl
  have:=za6 h8;subst this
  exact fun hp=>st_slice_vk hT ho ht hk he hx hyh
 ·exact (zaa h hl).elim
theorem leaf_slice [Glob] (hT:TOk P T) {t:TypeId} {x:Operand} {low high max:Option Operand} (ho:o.op=.slice t x low high max) (h:Res n0 base (sliceS T t (av n0 top bot x) (avO n0 top bot low) (avO n0 top bot high) (avO n0 top bot max)) r) (hl:leaf r=true):zba P N n0 base k loc (trE n0 (top++bot)) o r:=by
 generalize hx:av n0 top bot x=a at h
 unfold sliceS at h
 split at h
 ·rename_i ti ht
  split at h
  ·rename_i e hk
   split at h
   ·rename_i ei he
    split at h
    ·rename_i n l hs
     have hx':=av_ev hx (by rintro rfl;cases hs)
     split at h
     ·rename_i hmx
      have:max=none:=by cases max <;> simp [avO] at hmx;rfl
      subst this
      have old:Res n0 base (bdS (avO n0 top bot low) 0 fun lo=>bdS (avO n0 top bot high) n fun hi=>.side (lo≤hi∧hi≤n) (.sub l (lo * ei.sz) ((hi-lo) * ei.sz) fun l'=>.reg (.v (.sl none (hi-lo) l')))) r→zba P N n0 base k loc (trE n0 (top++bot)) o r:=fun h=>by
       obtain ⟨lo,hlo,h⟩:=bd_of h hl
       obtain ⟨hi,hhi,h⟩:=bd_of h hl
       obtain ⟨h1,h⟩:=zay h hl
       obtain ⟨l',h2,h⟩:=res_sub h hl
       have:=za6 h;subst this
       exact fun hp=>st_sliceS hT ho ht hk he (by rw [hx'];exact hs) hlo hhi h1.1 h1.2 h2
      unfold skS at h
      split at h
      ·rename_i hlw
       have:low=none:=by cases low <;> simp [avO] at hlw;rfl
       subst this
       split at h
       ·rename_i kh hh hhx
        obtain ⟨yh,rfl,hyh⟩:∃ yh,high=some yh∧av n0 top bot yh=.int kh hh:=by
         cases high <;> simp [avO] at hhx;exact ⟨_,rfl,hhx⟩
        split at h
        ·rename_i m lk hsk
         rcases zeg h hl with h|h
         ·exact old h
         ·obtain ⟨hi,rfl,h9⟩:=zem h hl
          obtain ⟨h1,h8⟩:=zay h9 hl
          have:=za6 h8;subst this
          exact fun hp=>st_sliceK hT ho ht hk he (by rw [hx'];exact hsk) (av_ev hyh (by simp)) h1
        ·exact old h
       ·exact old h
      ·exact old h
     ·rename_i km m hmx
      obtain ⟨ym,rfl,hym⟩:∃ ym,max=some ym∧av n0 top bot ym=.int km m:=by
       cases max <;> simp [avO] at hmx;exact ⟨_,rfl,hmx⟩
      split at h
      ·rename_i kh hh hhx
       obtain ⟨yh,rfl,hyh⟩:∃ yh,high=some yh∧av n0 top bot yh=.int kh hh:=by
        cases high <;> simp [avO] at hhx;exact ⟨_,rfl,hhx⟩
       obtain ⟨lo,hlo,h⟩:=bd_of h hl
       obtain ⟨hi,rfl,h⟩:=zem h hl
       obtain ⟨⟨rfl,h1,h1'⟩,h3⟩:=zay h hl
       obtain ⟨l',h2,h4⟩:=res_sub h3 hl
       have:=za6 h4;subst this
       exact fun hp=>st_sliceX hT ho ht hk he (by rw [hx'];exact hs) hlo rfl (av_ev hyh (by simp)) (av_ev hym (by simp)) h1 h1' h2
      ·exact (zaa h hl).elim
     ·exact (zaa h hl).elim
    ·rw [← hx] at h
     exact leaf_sv hT ht hk he ho h hl
   ·exact (zaa h hl).elim
  ·rename_i hk
   split at h
   ·rename_i s
    have hx':=av_ev hx (by simp)
    split at h
    ·rename_i hmx
     have:max=none:=by cases max <;> simp [avO] at hmx;rfl
     subst this
     obtain ⟨lo,hlo,h⟩:=bd_of h hl
     obtain ⟨hi,hhi,h⟩:=bd_of h hl
     obtain ⟨h1,h⟩:=zay h hl
     have:=za6 h;subst this
     exact fun hp=>st_sliceStr hT ho ht hk hx' hlo hhi h1.1 h1.2
    ·exact (zaa h hl).elim
   ·exact (zaa h hl).elim
  ·exact (zaa h hl).elim
 ·exact (zaa h hl).elim
theorem leaf_indexX [Glob] (hT:TOk P T) {t:TypeId} {x y:Operand} (hn:base.length=n0) (ho:o.op=.indexAddr t x y) (h:Res n0 base (indexX T t loc (evR top bot x) (av n0 top bot y)) r) (hl:leaf r=true):zba P N n0 base k loc (trE n0 (top++bot)) o r:=by
 have key2:∀ (i n:Nat) (B:Option Blk) (hx:ev (trE n0 (top++bot)) x=.vs i n) (hB:∀ C,B=some C→∀ X:Heap,At ⟨base,k+X.length,loc++X⟩ i C),Res n0 base (indexVB T t i n (av n0 top bot y) B) r→zba P N n0 base k loc (trE n0 (top++bot)) o r:=by
  intro i n B hx hB h
  unfold indexVB at h
  split at h
  case h_2=>exact (zaa h hl).elim
  rename_i u sz l
  split at h
  case h_2=>exact (zaa h hl).elim
  rename_i kk q hy
  have hy:=av_ev hy (by simp)
  split at h
  case h_2=>exact (zaa h hl).elim
  rename_i ti ht
  split at h
  case h_2=>exact (zaa h hl).elim
  rename_i e hk
  split at h
  case h_2=>exact (zaa h hl).elim
  rename_i ei he
  split at h
  case h_2=>exact (zaa h hl).elim
  rename_i hsz
  obtain ⟨⟨⟨h1,h2⟩,h3,h4⟩,h5⟩:=zay h hl
  have:=zd4 h5;subst this
  exact fun X=>st_index_vs hT ho ht hk he hx hy (hB _ rfl X) h1 (yap hsz) h2 h3 h4
 have key3:∀ (i n m:Nat) (B:Option Blk) (hx:ev (trE n0 (top++bot)) x=.vk i n m) (hB:∀ C,B=some C→∀ X:Heap,At ⟨base,k+X.length,loc++X⟩ i C),Res n0 base (indexKB T t i n m (av n0 top bot y) B) r→zba P N n0 base k loc (trE n0 (top++bot)) o r:=by
  intro i n m B hx hB h
  unfold indexKB at h
  split at h
  case h_2=>exact (zaa h hl).elim
  rename_i u sz l
  split at h
  case h_2=>exact (zaa h hl).elim
  rename_i kk q hy
  have hy:=av_ev hy (by simp)
  split at h
  case h_2=>exact (zaa h hl).elim
  rename_i ti ht
  split at h
  case h_2=>exact (zaa h hl).elim
  rename_i e hk
  split at h
  case h_2=>exact (zaa h hl).elim
  rename_i ei he
  split at h
  case h_2=>exact (zaa h hl).elim
  rename_i hsz
  obtain ⟨⟨⟨h1,h2⟩,h3,h4⟩,h5⟩:=zay h hl
  have:=zd4 h5;subst this
  exact fun X=>st_index_vk hT ho ht hk he hx hy (hB _ rfl X) h1 (yap hsz) h2 h3 h4
 unfold indexX at h
 split at h
 ·rename_i i n hex
  have hx:=zb1 (n0:=n0) hex
  rcases zdd h hl with ⟨j,rfl,h3⟩|⟨B,hb,h3⟩
  ·refine key2 _ _ _ hx (fun C hC X=>?_) h3
   have:At ⟨base,k,loc⟩ (base.length+j) C:=zci hC
   rw [← hn]
   exact at_ext this X
  ·refine key2 _ _ _ hx (fun C hC X=>?_) h3
   cases hC
   exact zdg hb
 ·rename_i i n m hex
  have hx:=zb1 (n0:=n0) hex
  rcases zdd h hl with ⟨j,rfl,h3⟩|⟨B,hb,h3⟩
  ·refine key3 _ _ _ _ hx (fun C hC X=>?_) h3
   have:At ⟨base,k,loc⟩ (base.length+j) C:=zci hC
   rw [← hn]
   exact at_ext this X
  ·refine key3 _ _ _ _ hx (fun C hC X=>?_) h3
   cases hC
   exact zdg hb
 ·exact leaf_index hT ho h hl
theorem leaf_indexV [Glob] (hT:TOk P T) {t:TypeId} {x y:Operand} (ho:o.op=.index t x y) (h:Res n0 base (indexV T t (av n0 top bot x) (av n0 top bot y)) r) (hl:leaf r=true):zba P N n0 base k loc (trE n0 (top++bot)) o r:=by
 unfold indexV at h
 split at h
 ·rename_i ti ht
  split at h
  ·rename_i hk
   split at h
   ·rename_i s hx
    split at h
    ·rename_i kk i hy
     obtain ⟨h1,h⟩:=zay h hl
     obtain ⟨b,h2,h⟩:=res_byte h hl
     have:=za6 h;subst this
     exact fun hp=>st_indexStr hT ho ht hk (av_ev hx (by simp)) (av_ev hy (by simp)) h1 h2
    ·exact (zaa h hl).elim
   ·exact (zaa h hl).elim
  ·exact (zaa h hl).elim
 ·exact (zaa h hl).elim
theorem leaf_make [Glob] (hT:TOk P T) (hn:base.length=n0) {t:TypeId} {x y:Operand} (ho:o.op=.makeSlice t x y) (h:Res n0 base (makeS n0 T t (av n0 top bot x) (av n0 top bot y)) r) (hl:leaf r=true):zba P N n0 base k loc (trE n0 (top++bot)) o r:=by
 unfold makeS at h
 split at h
 ·rename_i ti ht
  split at h
  ·rename_i e hk
   split at h
   ·rename_i ei he
    split at h
    ·rename_i z hz
     split at h
     ·rename_i hzl
      have hzl:=yap hzl
      split at h
      ·rename_i kx i hx
       split at h
       ·rename_i ky c hy
        rcases zeg h hl with h|h
        ·obtain ⟨n,rfl,h⟩:=zem h hl
         obtain ⟨⟨rfl,h1,h2⟩,h3⟩:=zay h hl
         have hx':=av_ev hx (by simp)
         have hy':=av_ev hy (by simp)
         rcases zeg h3 hl with h|h
         ·have:=zd4 h;subst this
          exact fun X=>st_makeX hT ho ht hk he hz hzl hx' hy' h1 h2
         ·have:r=.blk (.box e (repC n z)) fun k=>.v (.ms (n0+k) 0 n):=by cases h;rfl
          subst this
          rw [← hn] at hx' hy' ⊢
          exact st_makeB hT ho ht hk he hz hzl hx' hy' h1 h2
        ·obtain ⟨n,rfl,h⟩:=zem h hl
         obtain ⟨⟨rfl,h1,h2⟩,h3⟩:=zay h hl
         have hx':=av_ev hx (by simp)
         have hy':=av_ev hy (by simp)
         rcases zeg h3 hl with h3|h3
         ·have:r=.blk (.tok e ei.sz 0) fun k=>.v (.sl (some (n0+k)) 0 []):=by cases h3;rfl
          subst this
          rw [← hn] at hx' hy' ⊢
          exact st_makeC hT ho ht hk he hz hzl hx' hy' h1 h2
         ·have:r=.blk (.vec e ei.sz []) fun k=>.v (.vs (n0+k) 0):=by cases h3;rfl
          subst this
          rw [← hn] at hx' hy' ⊢
          exact st_makeVec hT ho ht hk he hz hzl hx' hy' h1 h2
       ·exact (zaa h hl).elim
      ·exact (zaa h hl).elim
     ·exact (zaa h hl).elim
    ·exact (zaa h hl).elim
   ·exact (zaa h hl).elim
  ·exact (zaa h hl).elim
 ·exact (zaa h hl).elim
theorem leaf_makeV [Glob] (hT:TOk P T) {t:TypeId} {x y:Operand} {bt:TypeId} {bl:List AV} {v:Nat→RG} (ho:o.op=.makeSlice t x y) (h:Res n0 base (makeS n0 T t (av n0 top bot x) (av n0 top bot y)) (.blk (.box bt bl) v)) :
  ∃ n,AOkV P N (.box bt bl) (fun i=>.ms i 0 n) (trE n0 (top++bot)) o∧v=fun k=>.v (.ms (n0+k) 0 n):=by
 have hl:leaf (.blk (.box bt bl) v)=true:=rfl
 unfold makeS at h
 split at h
 ·rename_i ti ht
  split at h
  ·rename_i e hk
   split at h
   ·rename_i ei he
    split at h
    ·rename_i z hz
     split at h
     ·rename_i hzl
      have hzl:=yap hzl
      split at h
      ·rename_i kx i hx
       split at h
       ·rename_i ky c hy
        rcases zeg h hl with h|h
        ·obtain ⟨n,rfl,h⟩:=zem h hl
         obtain ⟨⟨rfl,h1,h2⟩,h3⟩:=zay h hl
         have hx':=av_ev hx (by simp)
         have hy':=av_ev hy (by simp)
         rcases zeg h3 hl with h|h
         ·have:=zd4 h;cases this
         ·cases h
          exact ⟨n,aok_makeB hT ho ht hk he hz hzl hx' hy' h1 h2,rfl⟩
        ·obtain ⟨n,rfl,h⟩:=zem h hl
         obtain ⟨⟨rfl,h1,h2⟩,h3⟩:=zay h hl
         rcases zeg h3 hl with h3|h3 <;> cases h3
       ·exact (zaa h hl).elim
      ·exact (zaa h hl).elim
     ·exact (zaa h hl).elim
    ·exact (zaa h hl).elim
   ·exact (zaa h hl).elim
  ·exact (zaa h hl).elim
 ·exact (zaa h hl).elim
theorem leaf_append [Glob] (hT:TOk P T) (hn:base.length=n0) {t:TypeId} {x y:Operand} (ho:o.op=.call { callee:=.builtin .append,args:=#[x,y],argTypes:=#[t,t] }) (h:Res n0 base (appendS n0 T t loc (av n0 top bot x) (av n0 top bot y)) r) (hl:leaf r=true):zba P N n0 base k loc (trE n0 (top++bot)) o r:=by
 unfold appendS at h
 split at h
 case h_2=>exact (zaa h hl).elim
 rename_i m l2 hs
 have hy:slOf (ev (trE n0 (top++bot)) y)=some (m,l2):=by rw [av_ev rfl (by intro e;rw [e] at hs;cases hs)];exact hs
 split at h
 case h_2=>exact (zaa h hl).elim
 rename_i ti ht
 split at h
 case h_2=>exact (zaa h hl).elim
 rename_i e hk
 split at h
 case h_2=>exact (zaa h hl).elim
 rename_i ei he
 split at h
 case h_2=>exact (zaa h hl).elim
 rename_i z hz
 split at h
 case h_2=>exact (zaa h hl).elim
 rename_i hzl
 have hzl:=yap hzl
 split at h
 ·exact (zaa h hl).elim
 rename_i sz hsz
 split at h
 ·rename_i tk n l hx
  have hx':=av_ev hx (by simp)
  rcases zdd h hl with ⟨j,rfl,h⟩|⟨B,hb,h⟩
  ·split at h
   ·rename_i e' sz' L hg
    split at h
    ·rename_i he'
     have he':=yap he'
     subst he'
     split at h
     ·rename_i hsz'
      have hsz':=yap hsz'
      subst hsz'
      obtain ⟨hA,h⟩:=zay h hl
      have:r=.upd j (.tok e' (sz+1) (l++l2).length) (some (.v (.sl (some (n0+j)) (n+m) (l++l2)))):=by cases h;rfl
      subst this
      intro loc' hl'
      rw [ya5] at hl'
      refine st_append_t hT ho ht hk he hz hsz hzl hx' hy ?_ hA.L hA.one hA.l2 hA.bytes hA.max ?_
      ·rw [← hn];exact zci hg
      ·rw [← hn];exact zc8 hl'
     ·exact (zaa h hl).elim
    ·exact (zaa h hl).elim
   ·exact (zaa h hl).elim
  ·split at h
   ·rename_i e' sz' L
    split at h
    ·rename_i he'
     have he':=yap he'
     subst he'
     split at h
     ·rename_i hsz'
      have hsz':=yap hsz'
      subst hsz'
      obtain ⟨hA,h⟩:=zay h hl
      have:r=.updB tk (.tok e' (sz+1) (l++l2).length) (some (.v (.sl (some tk) (n+m) (l++l2)))):=by cases h;rfl
      subst this
      simp only [zba,ya5]
      exact st_append_t hT ho ht hk he hz hsz hzl hx' hy (zdg hb) hA.L hA.one hA.l2 hA.bytes hA.max (zd1 hb)
     ·exact (zaa h hl).elim
    ·exact (zaa h hl).elim
   ·exact (zaa h hl).elim
 ·rename_i tk n hx
  have hx':=av_ev hx (by simp)
  rcases zdd h hl with ⟨j,rfl,h⟩|⟨B,hb,h⟩
  ·split at h
   ·rename_i e' sz' l hg
    split at h
    ·rename_i he'
     have he':=yap he'
     subst he'
     split at h
     ·rename_i hsz'
      have hsz':=yap hsz'
      subst hsz'
      obtain ⟨hA,h⟩:=zay h hl
      have:r=.upd j (.vec e' (sz+1) (l++l2)) (some (.v (.vs (n0+j) (n+m)))):=by cases h;rfl
      subst this
      intro loc' hl'
      refine st_append_v hT ho ht hk he hz hsz hzl hx' hy ?_ hA.l hA.one hA.l2 hA.bytes hA.max ?_
      ·rw [← hn];exact zci hg
      ·rw [← hn];exact zc8 hl'
     ·exact (zaa h hl).elim
    ·exact (zaa h hl).elim
   ·exact (zaa h hl).elim
  ·split at h
   ·rename_i e' sz' l
    split at h
    ·rename_i he'
     have he':=yap he'
     subst he'
     split at h
     ·rename_i hsz'
      have hsz':=yap hsz'
      subst hsz'
      obtain ⟨hA,h⟩:=zay h hl
      have:r=.updB tk (.vec e' (sz+1) (l++l2)) (some (.v (.vs tk (n+m)))):=by cases h;rfl
      subst this
      simp only [zba]
      exact st_append_v hT ho ht hk he hz hsz hzl hx' hy (zdg hb) hA.l hA.one hA.l2 hA.bytes hA.max (zd1 hb)
     ·exact (zaa h hl).elim
    ·exact (zaa h hl).elim
   ·exact (zaa h hl).elim
 ·rename_i n l hx
  have hx':=av_ev hx (by simp)
  rcases zeg h hl with h|h
  ·obtain ⟨hA,h⟩:=zay h hl
   have:r=.blk (.tok e (sz+1) (l++l2).length) fun k=>.v (.sl (some (n0+k)) (n+m) (l++l2)):=by cases h;rfl
   subst this
   rw [← hn] at hx' hy ⊢
   simp only [zba,ya5]
   exact st_append_x hT ho ht hk he hz hsz hzl (.inl hx') hy hA.l hA.l2 hA.m0 hA.bytes hA.max
  ·rcases zeg h hl with h|h
   ·obtain ⟨rfl,h3⟩:=zay h hl
    have:=za6 h3;subst this
    exact fun hp=>zgj hT ho ht hk he hx' rfl hy
   ·rcases zeg h hl with h|h
    ·obtain ⟨hA,h⟩:=zay h hl
     have:r=.blkU (fun B=>∃ s,B=.box e (l++l2++List.replicate s .junk)) fun k=>.v (.ms (n0+k) 0 (n+m)):=by cases h;rfl
     subst this
     rw [← hn] at hx' hy ⊢
     simp only [zba]
     intro g w a hH hE
     obtain ⟨s,c,g',w',q1,q2,q3,q4⟩:=st_append_c hT ho ht hk he hz hsz hzl (.inl hx') hy hA.l hA.l2 hA.m0 hA.bytes hA.max g w a hH hE
     exact ⟨_,c,g',w',⟨s,rfl⟩,q1,q2,q3,q4⟩
    ·obtain ⟨hA,h⟩:=zay h hl
     have:=za6 h;subst this
     exact fun hp=>st_append_f hT ho ht hk he hz hsz hzl (.inl hx') hy hA.l hA.l2 hA.m0 hA.bytes hA.max
 ·rename_i hx
  have hx':=av_ev hx (by simp)
  rcases zeg h hl with h|h
  ·obtain ⟨hA,h⟩:=zay h hl
   have:r=.blk (.tok e (sz+1) (([]:List AV)++l2).length) fun k=>.v (.sl (some (n0+k)) (0+m) ([]++l2)):=by cases h;rfl
   subst this
   rw [← hn] at hx' hy ⊢
   simp only [zba,ya5]
   exact st_append_x hT ho ht hk he hz hsz hzl (.inr ⟨hx',rfl,rfl⟩) hy hA.l hA.l2 hA.m0 hA.bytes hA.max
  ·rcases zeg h hl with h|h
   ·obtain ⟨rfl,h3⟩:=zay h hl
    have:=za6 h3;subst this
    exact fun hp=>zgj hT ho ht hk he hx' rfl hy
   ·rcases zeg h hl with h|h
    ·obtain ⟨hA,h⟩:=zay h hl
     have:r=.blkU (fun B=>∃ s,B=.box e (l2++List.replicate s .junk)) fun k=>.v (.ms (n0+k) 0 (0+m)):=by cases h;rfl
     subst this
     rw [← hn] at hx' hy ⊢
     simp only [zba]
     intro g w a hH hE
     obtain ⟨s,c,g',w',q1,q2,q3,q4⟩:=st_append_c hT ho ht hk he hz hsz hzl (.inr ⟨hx',rfl,rfl⟩) hy hA.l hA.l2 hA.m0 hA.bytes hA.max g w a hH hE
     exact ⟨_,c,g',w',⟨s,rfl⟩,q1,q2,q3,q4⟩
    ·obtain ⟨hA,h⟩:=zay h hl
     have:=za6 h;subst this
     exact fun hp=>st_append_f hT ho ht hk he hz hsz hzl (.inr ⟨hx',rfl,rfl⟩) hy hA.l hA.l2 hA.m0 hA.bytes hA.max
 ·rename_i n l hx
  obtain ⟨rfl,h3⟩:=zay h hl
  have:=za6 h3;subst this
  exact fun hp=>zgj hT ho ht hk he (av_ev hx (by simp [tr])) rfl hy
 ·exact (zaa h hl).elim
end
end
section
section
variable {P:Program} {N:FN} {n0:Nat} {base:Heap} {k:Nat} {loc:Heap} {top bot:RE} {o:Oper} {T:TypeId→Option TI} {kn:TypeId→Nat} {r:SR}
structure Env0 (P:Program) (T:TypeId→Option TI) (kn:TypeId→Nat):Prop where
 zr:∀ t ti,T t=some ti→zdb P t=true
 T:TOk P T
 fk:∀ t n,kn t=n+1→zeb P t=true
 eq:∀ t n,kn t=n+2→P.stoodInHeld t=false∧P.eqGuardType P.depth t=false
theorem zb5 [Glob] (he:Env0 P T kn) (hn:base.length=n0) {op:Op} (ho:o.op=op) (h:Res n0 base (stepS kn T n0 top bot loc op) r) (hl:leaf r=true):zba P N n0 base k loc (trE n0 (top++bot)) o r:=by
 unfold stepS at h
 split at h
 ·exact leaf_move (.inl ho) h hl
 ·exact leaf_move (.inr ho) h hl
 ·exact leaf_bin he.T he.eq ho h hl
 ·exact leaf_not ho h hl
 ·exact leaf_neg ho h hl
 ·exact leaf_com ho h hl
 ·rename_i s t x
  unfold convS at h
  split at h
  ·rename_i v hv
   have:=za6 h;subst this
   have hv2:convB T s t (ev (trE n0 (top++bot)) x)=some v:=by
    generalize hx:av n0 top bot x=vx at hv
    rw [av_ev hx (by
     rintro rfl
     unfold convB at hv
     split at hv
     case h_2=>cases hv
     split at hv
     case h_2=>cases hv
     split at hv
     case h_2=>cases hv
     split at hv
     case h_2=>cases hv
     split at hv
     case h_2=>cases hv
     split at hv
     case h_2=>cases hv
     split at hv
     case h_2=>cases hv
     simp [slOf] at hv)]
    exact hv
   have htr:∀ u:AV,convB T s t u=some v→tr n0 (.v v)=v:=fun u hu=>rfl
   intro hp
   exact st_convB he.T ho hv2
  ·refine ofI_step h hl fun v hv hp=>?_
   generalize hx:av n0 top bot x=vx at hv
   refine ze1 he.T ho ?_
   simp only [stepV]
   rw [av_ev hx (by rintro rfl;cases hv)]
   exact hv
 ·exact leaf_extract ho h hl
 ·exact leaf_field he.T ho h hl
 ·exact leaf_fieldPart he.T ho h hl
 ·exact leaf_nil ho h hl
 ·exact leaf_load he.T hn ho h hl
 ·exact leaf_store he.T hn ho h hl
 ·exact leaf_alloc he.T ho h hl
 ·obtain ⟨a,ha,h⟩:=zdu h hl
  rw [← avF_av ha] at h
  exact leaf_box ho h hl
 ·obtain ⟨a,ha,h⟩:=zfk h hl
  rw [← avPF_eq ha] at h
  exact leaf_build he.T he.fk ho h hl
 ·obtain ⟨a,ha,h⟩:=zfk h hl
  rw [← avPF_eq ha] at h
  exact leaf_buildSlice he.T hn ho h hl
 ·exact leaf_indexX he.T hn ho h hl
 ·obtain ⟨a,ha,h⟩:=zfk h hl
  obtain ⟨b,hb,h⟩:=zfk h hl
  rw [← avLF_eq ha,← avLF_eq hb] at h
  exact leaf_func ho h
 ·exact leaf_slice he.T ho h hl
 ·exact leaf_indexV he.T ho h hl
 ·exact leaf_make he.T hn ho h hl
 ·exact leaf_makeMap hn ho h
 ·obtain ⟨a,ha,h⟩:=zdu h hl
  exact leaf_look he.T he.eq he.zr hn ho (avF_ev ha) h hl
 ·obtain ⟨a,ha,h⟩:=zdu h hl
  obtain ⟨b,hb,h⟩:=zdu h hl
  exact leaf_put he.T he.eq hn (.inl ho) (avF_ev ha) (avF_ev hb) h hl
 ·obtain ⟨a,ha,h⟩:=zdu h hl
  obtain ⟨b,hb,h⟩:=zdu h hl
  exact leaf_put he.T he.eq hn (.inr ho) (avF_ev ha) (avF_ev hb) h hl
 ·exact leaf_range he.T hn ho h hl
 ·split at h
  ·exact leaf_next hn ho h hl
  ·exact (zaa h hl).elim
 ·exact leaf_entry hn ho h hl
 ·obtain ⟨a,ha,h⟩:=zdu h hl
  exact leaf_ent he.T he.eq he.zr hn ho (avF_ev ha) h hl
 ·obtain ⟨b,hb,h⟩:=zdu h hl
  exact leaf_ents hn ho (avF_ev hb) h hl
 ·exact leaf_len he.T ho h hl
 ·split at h
  ·rename_i hb
   have hb:=yap hb
   subst hb
   exact leaf_append he.T hn ho h hl
  ·exact (zaa h hl).elim
 ·rename_i x y ts
  refine zf2 h hl fun v hv hp=>?_
  generalize hx:av n0 top bot x=vx at hv
  generalize hy:av n0 top bot y=vy at hv
  refine ze1 he.T ho ?_
  simp only [stepV]
  rw [av_ev hx (by rintro rfl;cases hv),av_ev hy (by rintro rfl;cases vx <;> cases hv)]
  exact hv
 ·rename_i x y ts
  refine zf2 h hl fun v hv hp=>?_
  generalize hx:av n0 top bot x=vx at hv
  generalize hy:av n0 top bot y=vy at hv
  refine ze1 he.T ho ?_
  simp only [stepV]
  rw [av_ev hx (by rintro rfl;cases hv),av_ev hy (by rintro rfl;cases vx <;> cases hv)]
  exact hv
 ·exact leaf_cap he.T ho h hl
 ·rename_i f xs ts
  obtain ⟨a,ha,h⟩:=zfk h hl
  rw [← avLF_eq ha] at h
  obtain ⟨F,as,rfl,fs,cs,h1,h2⟩:=leaf_call h hl
  exact ⟨f,xs,ts,fs,cs,_,ho,h1,h2,fun g w a hE=>avL_rel hE xs⟩
 ·exact (zaa h hl).elim
structure IfN (b:Bool) (A B:Prop):Prop where
 t:b=true→A
 f:b=false→B
theorem IfN.tt {b:Bool} {A B:Prop} (h:b=true) (a:A):IfN b A B:=⟨fun _=>a,fun e=>by rw [h] at e;cases e⟩
theorem IfN.ff {b:Bool} {A B:Prop} (h:b=false) (a:B):IfN b A B:=⟨(fun e=>by rw [h] at e;cases e),fun _=>a⟩
structure SideN (p A:Prop):Prop where
 side:p
 rest:A
inductive PtrN (n0:Nat) (base:Heap) (i:Nat) (kl:Nat→Prop) (kb:Blk→Prop):Prop where
 | loc (j:Nat) (h:i=n0+j) (a:kl j)
 | base (B:Blk) (h:base[i]? = some B) (a:kb B)
inductive SegN (l:List AV) (o:Nat) (k:List AV→Prop):Prop where
 | mk (l':List AV) (h:Seg l o l') (a:k l')
inductive SubN (l:List AV) (o n:Nat) (k:List AV→Prop):Prop where
 | mk (l':List AV) (h:SubL l o n l') (a:k l')
inductive NatN (i:Int) (k:Nat→Prop):Prop where
 | mk (m:Nat) (h:i=(m:Int)) (a:k m)
inductive ByteN (s:ByteArray) (i:Int) (k:UInt8→Prop):Prop where
 | mk (b:UInt8) (h:s[i.toNat]? = some b) (a:k b)
inductive OrN (A B:Prop):Prop where
 | l (a:A)
 | r (b:B)
inductive OfsN (i:Int) (n:Nat) (k:Nat→Prop):Prop where
 | mk (m:Nat) (h:i=(m:Int)) (hm:m<n) (a:k m)
inductive EqN (x:Int) (k:Int→Prop):Prop where
 | mk (y:Int) (h:x=y) (a:k y)
theorem IfN.not {b:Bool} {A B:Prop} (h:IfN b B A):IfN (!b) A B:=⟨(fun e=>h.f (by simpa using e)),fun e=>h.t (by simpa using e)⟩
theorem zbq {p:Prop} [Decidable p] {A B:Prop} (h1:p→A) (h2:¬p→B):IfN (decide p) A B:=⟨(fun e=>h1 (by simpa using e)),fun e=>h2 (by simpa using e)⟩
theorem IfN.dT {p:Prop} [Decidable p] {A B:Prop} (h:p) (a:A):IfN (decide p) A B:=.tt (by simpa using h) a
theorem zat {p:Prop} [Decidable p] {A B:Prop} (h:¬p) (a:B):IfN (decide p) A B:=.ff (by simpa using h) a
inductive SetN (base:Heap) (i:Nat) (B:Blk) (k:Heap→Prop):Prop where
 | mk (base':Heap) (h:base.set i B=base') (a:k base')
inductive RelN (S:List AV→List AV→Prop) (k:List AV→List AV→Prop):Prop where
 | mk (a b:List AV) (h:S a b) (c:k a b)
inductive CallN [Glob] (P:Program) (F:Fn) (as:List AV) (n0:Nat) (base:Heap) (k:Nat) (loc:Heap) (K:AV→Heap→Nat→Heap→Prop):Prop where
 | detF (v:AV) (h:VFn P F as (base++loc) fun r H'=>H'=base++loc∧r=v) (a:K v base k loc)
 | genF (R:AV→Heap→Prop) (h:VFn P F as (base++loc) R)
    (a:∀ r H',R r H'→∃ base' k' loc',base'++loc'=H'∧loc'.length=k'∧base'.length=n0∧K r base' k' loc')
theorem CallN.det [Glob] {F:FuncId} {as:List AV} {K:AV→Heap→Nat→Heap→Prop} (v:AV) (h:VDet P F as (base++loc) v) (a:K v base k loc):CallN P (.func F) as n0 base k loc K:=.detF v h a
theorem CallN.gen [Glob] {F:FuncId} {as:List AV} {K:AV→Heap→Nat→Heap→Prop} (R:AV→Heap→Prop) (h:VCall P F as (base++loc) R)
  (a:∀ r H',R r H'→∃ base' k' loc',base'++loc'=H'∧loc'.length=k'∧base'.length=n0∧K r base' k' loc'):CallN P (.func F) as n0 base k loc K:=.genF R h a
structure BlkUN (S:Blk→Prop) (k:Blk→Prop):Prop where
 h:∀ B,S B→k B
theorem BlkUN.box {e:TypeId} {l:List AV} {k:Blk→Prop} (h:∀ s,k (.box e (l++List.replicate s .junk))):BlkUN (fun B=>∃ s,B=.box e (l++List.replicate s .junk)) k :=
 ⟨fun _ ⟨s,hs⟩=>hs▸h s⟩
structure AnyVN (S:AV→Prop) (k:AV→Prop):Prop where
 h:∀ v,S v→k v
theorem AnyVN.nil {l:List AV} {k:AV→Prop} (ht:l=[]→k (.bool true)) (hf:k (.bool false)):AnyVN (NilV false l) k:=⟨fun v ⟨b,h1,h2⟩=>by
 subst h2
 cases b with
 | true=>exact ht (h1 rfl)
 | false=>exact hf⟩
def wpS [Glob] (P:Program) (n0:Nat) (base:Heap) (k:Nat) (loc:Heap) (K:Option RG→Heap→Nat→Heap→Prop) (s:SR):Prop :=
 @SR.rec (fun _=>Prop) False
  (fun v=>K (some v) base k loc)
  (fun v=>K (some v) base k loc)
  (fun t l=>match snocC loc (.box t l) with
    | some loc'=>K (some (.lp k 0)) base (k+1) loc'
    | none=>False)
  (fun j B v=>match lset loc j B with
    | some loc'=>K v base k loc'
    | none=>False)
  (fun i B v=>SetN base i B fun base'=>K v base' k loc)
  (fun B v=>match snocC loc B with
    | some loc'=>K (some (v k)) base (k+1) loc'
    | none=>False)
  (fun p _ ih=>SideN p ih)
  (fun i _ _ ihl ihb=>PtrN n0 base i ihl ihb)
  (fun l o _ ih=>SegN l o ih)
  (fun i n _ ih=>OfsN i n ih)
  (fun x _ ih=>EqN x ih)
  (fun l o n _ ih=>SubN l o n ih)
  (fun i _ ih=>NatN i ih)
  (fun s i _ ih=>ByteN s i ih)
  (fun _ _ iha ihb=>OrN iha ihb)
  (fun f as=>CallN P f as n0 base k loc (fun r=>K (some (.v r))))
  (fun S _ ih=>RelN S ih)
  (fun j S=>∀ B v,S B v→match lset loc j B with
    | some loc'=>K (some (.v v)) base k loc'
    | none=>False)
  (fun S v=>BlkUN S fun B=>match snocC loc B with
    | some loc'=>K (some (v k)) base (k+1) loc'
    | none=>False)
  (fun S=>AnyVN S fun v=>K (some (.v v)) base k loc) s
theorem zcv [Glob] {K:Option RG→Heap→Nat→Heap→Prop}:∀ (s:SR),wpS P n0 base k loc K s→∃ r,Res n0 base s r∧leaf r=true∧wpS P n0 base k loc K r
 | .fail,h=>h.elim
 | .reg v,h=>⟨_,.refl _,rfl,h⟩
 | .mem v,h=>⟨_,.refl _,rfl,h⟩
 | .box t l,h=>⟨_,.refl _,rfl,h⟩
 | .upd j B v,h=>⟨_,.refl _,rfl,h⟩
 | .updB i B v,h=>⟨_,.refl _,rfl,h⟩
 | .blk B v,h=>⟨_,.refl _,rfl,h⟩
 | .call f as,h=>⟨_,.refl _,rfl,h⟩
 | .anyU j S,h=>⟨_,.refl _,rfl,h⟩
 | .blkU S v,h=>⟨_,.refl _,rfl,h⟩
 | .anyV S,h=>⟨_,.refl _,rfl,h⟩
 | .rel S kk,h=>by
   obtain ⟨y,z,h1,h2⟩:=h
   obtain ⟨r,h3,h4⟩:=zcv (kk y z) h2
   exact ⟨r,.rel h1 h3,h4⟩
 | .side p s,h=>by
   obtain ⟨r,h1,h2⟩:=zcv s h.rest
   exact ⟨r,.side h.side h1,h2⟩
 | .ptr i kl kb,h=>by
   cases h with
   | loc j h1 h2 =>
     obtain ⟨r,h3,h4⟩:=zcv (kl j) h2
     exact ⟨r,.ptrL h1 h3,h4⟩
   | base B h1 h2 =>
     obtain ⟨r,h3,h4⟩:=zcv (kb B) h2
     exact ⟨r,.ptrB h1 h3,h4⟩
 | .seg l o kk,h=>by
   obtain ⟨l',h1,h2⟩:=h
   obtain ⟨r,h3,h4⟩:=zcv (kk l') h2
   exact ⟨r,.seg h1 h3,h4⟩
 | .ofs i n kk,h=>by
   obtain ⟨m,h1,h2,h3⟩:=h
   obtain ⟨r,h4,h5⟩:=zcv (kk m) h3
   exact ⟨r,.ofs h1 h2 h4,h5⟩
 | .eqv x kk,h=>by
   obtain ⟨y,h1,h2⟩:=h
   obtain ⟨r,h3,h4⟩:=zcv (kk y) h2
   exact ⟨r,.eqv h1 h3,h4⟩
 | .sub l o n kk,h=>by
   obtain ⟨y,h1,h2⟩:=h
   obtain ⟨r,h3,h4⟩:=zcv (kk y) h2
   exact ⟨r,.sub h1 h3,h4⟩
 | .nat i kk,h=>by
   obtain ⟨y,h1,h2⟩:=h
   obtain ⟨r,h3,h4⟩:=zcv (kk y) h2
   exact ⟨r,.nat h1 h3,h4⟩
 | .byte s i kk,h=>by
   obtain ⟨y,h1,h2⟩:=h
   obtain ⟨r,h3,h4⟩:=zcv (kk y) h2
   exact ⟨r,.byte h1 h3,h4⟩
 | .or a b,h=>by
   rcases h with h|h
   ·obtain ⟨r,h3,h4⟩:=zcv a h
    exact ⟨r,.orl h3,h4⟩
   ·obtain ⟨r,h3,h4⟩:=zcv b h
    exact ⟨r,.orr h3,h4⟩
def putN (N:Nat) (d:Option Nat) (v:Option RG) (top:RE) (K:RE→Prop):Prop:=match d with
 | some d=>match v with
   | some v=>match Nat.blt d N with
     | true=>K ((d,v)::top)
     | false=>False
   | none=>False
 | none=>match v with
   | none=>K top
   | some _=>False
theorem call_wp [Glob] {f:Operand} {fn:Fn} {xs:List Operand} {ts:Array TypeId} {fs cs ws as:List AV} {env:Env} {H:Heap} {R:AV→Heap→Prop} {g:G} {w:World} {a:Act} {K:Act→World→Prop} {Qc:Exit→Act→World→Prop} (ho:o.op=.call { callee:=.value f,args:=xs.toArray,argTypes:=ts })
  (hf:ev env f=.clo fn fs cs) (hw:LRel g w ws (xs.map a.eval)) (has:(fs++ws)++cs=as) (hc:VFn P fn as H R) (hH:HRel g w (Hp.of H)) (hE:ERel N g w env a)
  (fin:∀ r H' g' w' c,R r H'→HRel g' w' (Hp.of H')→VRel g' w' r c→Ext g w g' w'→K (a.put o.dst c) w'):o.wpIn (FR (N.fo g)) 0 P a w K Qc:=by
 have hr:=zar hE f
 rw [hf] at hr
 simp only [VRel] at hr
 obtain ⟨hok,f',c',hfv,hfs,hcs⟩:=hr
 have hargs:=((hfs.append hw).append hcs)
 rw [has] at hargs
 cases fn with
 | func F =>
   obtain ⟨⟨fn,h1,h2,h3⟩,hcall⟩:=hc
   have hrun:(execOp a.eval o).run P w=.ok (.enter F ((f'++(xs.map a.eval).toArray)++c')) w:=by
    have h2':fn.name ≠ "runtime.NumGoroutine" := by simpa using h2
    have h3':fn.body≠none:=by intro h0;simp [h0] at h3
    simp [execOp,ho,resolve,hfv,fnG,Deferred.ofValue,invoke,callFunc,h1,h2',h3']
   refine opIn_enter hrun ((hcall g w _ hH (by simpa using hargs)).mono ?_)
   rintro e w' ⟨r,H',g',c,rfl,hR,hH',hv,hx'⟩
   exact fin r H' g' w' c hR hH' hv hx'
 | yield i =>
   have hcs0:cs=[]:=hok.2
   subst hcs0
   have hc0:c'.toList=[]:=by simpa [LRel] using hcs
   have hargs':LRel g w as (f'++(xs.map a.eval).toArray).toList:=by rw [hc0] at hargs;simpa using hargs
   obtain ⟨f0,tmps,assign,body,hy,hround⟩:=hc g w _ hH hargs' hok.1
   have hrun:(execOp a.eval o).run P w=.ok (.round (g.blk i) f0 tmps assign body) w:=by
    simp only [execOp,ho,resolve]
    rw [hfv]
    simpa [Deferred.ofValue,invoke,fnG] using hy
   refine opIn_round hrun (hround.mono ?_)
   rintro e w' ⟨r,H',g',c,rfl,hR,hH',hv,hx'⟩
   exact fin r H' g' w' c hR hH' hv hx'
 | _=>exact hc.elim
theorem vcall_conv [Glob] {f:Operand} {fn:Fn} {xs:List Operand} {ts:Array TypeId} {fs cs ws as:List AV} {d:Nat} {env:Env} {hp:Hp} {all rest:List Oper} {Q:Env→Hp→Prop} {R:AV→Heap→Prop} (ho:o.op=.call { callee:=.value f,args:=xs.toArray,argTypes:=ts }) (hg:gd all env o=some true) (hd:o.dst=some d) (hN:Nat.blt d N.n=true)
  (hf:ev env f=.clo fn fs cs) (hw:∀ g w a,ERel N g w env a→LRel g w ws (xs.map a.eval)) (has:(fs++ws)++cs=as)
  (hc:VFn P fn as hp.all R) (h:∀ r H',R r H'→∃ hp',(∀ g w,HRel g w hp→Sees hp H' hp')∧VO P N all rest Q ((d,r)::env) hp'):VO P N all (o::rest) Q env hp:=by
 intro g0 w0 g w a Qc hH hE hx k
 unfold wpListIn
 rw [if_pos (zdf hE hg)]
 refine call_wp ho hf (hw g w a hE) has hc hH.of hE fun r H' g' w' c hR hH' hv hx'=>?_
 obtain ⟨hp',hs,hvo⟩:=h r H' hR
 rw [hd]
 have:=hvo g0 w0 g' w' _ Qc (hH'.see (hs g w hH)) ((hE.ext hx').put hN hv) (hx.trans hx') (fun e1 h1 g1 a1 w1 q1 q2 q3 q4 q5=>k e1 h1 g1 a1 w1 q1 q2 q3 q4 (by rw [q5];rfl))
 rw [hE.fo hx'] at this
 exact this
theorem step_of_aok [Glob] {t:TypeId} {l:List AV} {env:Env} (h:AOk P N (.box t l) env o):Step P N ⟨base,k,loc⟩ env o (.ptr (base.length+k) 0) ⟨base,k+1,loc++[.box t l]⟩:=by
 intro g w a hH hE
 obtain ⟨t',l',cs,h1,h2,h3⟩:=h g w a hE
 cases h1
 obtain ⟨g',e1,e2,e3,e4⟩:=hH.newBox (t:=t) (l:=l) (cs:=cs) h2
 refine ⟨_,g',_,h3,e3,?_,e4⟩
 simp only [VRel]
 have hn:=hH.n
 simp only at hn
 exact ⟨by rw [← hn];exact e1,by rw [← hn,e2]⟩
theorem vo_R [Glob] (he:Env0 P T kn) (hn:base.length=n0) {all rest:List Oper} {Q:Env→Hp→Prop} {K:RE→Heap→Nat→Heap→Prop}
  (hg:gd all (trE n0 (top++bot)) o=some true)
  (h:wpS P n0 base k loc (fun v base k loc=>putN N.n o.dst v top fun top=>K top base k loc) (stepS kn T n0 top bot loc o.op))
  (hK:∀ top base k loc,base.length=n0→K top base k loc→VO P N all rest Q (trE n0 (top++bot)) ⟨base,k,loc⟩) :
  VO P N all (o::rest) Q (trE n0 (top++bot)) ⟨base,k,loc⟩:=by
 obtain ⟨r,h1,h2,h3⟩:=zcv _ h
 have hlf:=zb5 (N:=N) (k:=k) (loc:=loc) he hn rfl h1 h2
 have puts:∀ {v:RG} {base' k' loc'},putN N.n o.dst (some v) top (fun top=>K top base' k' loc')→∃ d,o.dst=some d∧Nat.blt d N.n=true∧K ((d,v)::top) base' k' loc':=by
  intro v base' k' loc' hp
  unfold putN at hp
  split at hp
  ·rename_i d hd
   simp only at hp
   split at hp
   ·rename_i hb;exact ⟨d,hd,hb,hp⟩
   ·exact hp.elim
  ·exact hp.elim
 have putU:∀ {base' k' loc'},putN N.n o.dst none top (fun top=>K top base' k' loc')→o.dst=none∧K top base' k' loc':=by
  intro base' k' loc' hp
  unfold putN at hp
  split at hp
  ·exact hp.elim
  ·rename_i hd;exact ⟨hd,hp⟩
 cases r with
 | reg v =>
   obtain ⟨d,hd,hb,hk⟩:=puts h3
   exact zgg (hlf ⟨base,k,loc⟩) hg hd hb (hK ((d,v)::top) _ _ _ hn hk)
 | mem v =>
   obtain ⟨d,hd,hb,hk⟩:=puts h3
   have hs:=hlf []
   simp only [List.length_nil,yby,yat] at hs
   exact zgg hs hg hd hb (hK ((d,v)::top) _ _ _ hn hk)
 | box t l =>
   simp only [wpS] at h3
   split at h3
   ·rename_i loc' hl
    obtain ⟨d,hd,hb,hk⟩:=puts h3
    have hs:=step_of_aok (base:=base) (k:=k) (loc:=loc) hlf
    rw [← zcx _ _ _ hl,hn] at hs
    exact zgg hs hg hd hb (hK ((d,_)::top) _ _ _ hn hk)
   ·exact h3.elim
 | upd j B v =>
   simp only [wpS] at h3
   split at h3
   ·rename_i loc' hl
    cases v with
    | none =>
      obtain ⟨hd,hk⟩:=putU h3
      exact vo_stepU (hlf loc' hl) hg hd (hK _ _ _ _ hn hk)
    | some v =>
      obtain ⟨d,hd,hb,hk⟩:=puts h3
      exact zgg (hlf loc' hl) hg hd hb (hK ((d,v)::top) _ _ _ hn hk)
   ·exact h3.elim
 | updB i B v =>
   simp only [wpS] at h3
   obtain ⟨base',hset,h3⟩:=h3
   subst hset
   cases v with
   | none =>
     obtain ⟨hd,hk⟩:=putU h3
     exact vo_stepU hlf hg hd (hK _ _ _ _ (by simpa using hn) hk)
   | some v =>
     obtain ⟨d,hd,hb,hk⟩:=puts h3
     exact zgg hlf hg hd hb (hK ((d,v)::top) _ _ _ (by simpa using hn) hk)
 | anyU j S =>
   simp only [wpS] at h3
   intro g0 w0 g w a Qc hH hE hx kk
   unfold wpListIn
   rw [if_pos (zdf hE hg)]
   obtain ⟨B,v,c,g',w',hS,hrun,hH',hv,hx'⟩:=hlf g w a hH hE
   have h4:=h3 B v hS
   split at h4
   ·rename_i loc' hl
    obtain ⟨d,hd,hb,hk⟩:=puts h4
    refine zb4 hrun ?_
    rw [hd]
    have:=hK ((d,.v v)::top) _ _ _ hn hk g0 w0 g' w' _ Qc (hH' loc' hl) ((hE.ext hx').put hb hv) (hx.trans hx') (fun e1 h1 g1 a1 w1 q1 q2 q3 q4 q5=>kk e1 h1 g1 a1 w1 q1 q2 q3 q4 (by rw [q5];rfl))
    rw [hE.fo hx'] at this
    exact this
   ·exact h4.elim
 | anyV S =>
   simp only [wpS] at h3
   intro g0 w0 g w a Qc hH hE hx kk
   unfold wpListIn
   rw [if_pos (zdf hE hg)]
   obtain ⟨v,c,hS,hrun,hv⟩:=hlf g w a hE
   have h4:=h3.h v hS
   obtain ⟨d,hd,hb,hk⟩:=puts h4
   refine zb4 hrun ?_
   rw [hd]
   exact hK ((d,.v v)::top) _ _ _ hn hk g0 w0 g w _ Qc hH (hE.put hb hv) hx (fun e1 h1 g1 a1 w1 q1 q2 q3 q4 q5=>kk e1 h1 g1 a1 w1 q1 q2 q3 q4 (by rw [q5];rfl))
 | blkU S v =>
   simp only [wpS] at h3
   intro g0 w0 g w a Qc hH hE hx kk
   unfold wpListIn
   rw [if_pos (zdf hE hg)]
   obtain ⟨B,c,g',w',hS,hrun,hH',hv,hx'⟩:=hlf g w a hH hE
   have h4:=h3.h B hS
   split at h4
   ·rename_i loc' hl
    obtain ⟨d,hd,hb,hk⟩:=puts h4
    refine zb4 hrun ?_
    rw [hd]
    rw [← zcx _ _ _ hl] at hH'
    have:=hK ((d,v k)::top) _ _ _ hn hk g0 w0 g' w' _ Qc hH' ((hE.ext hx').put hb hv) (hx.trans hx') (fun e1 h1 g1 a1 w1 q1 q2 q3 q4 q5=>kk e1 h1 g1 a1 w1 q1 q2 q3 q4 (by rw [q5];rfl))
    rw [hE.fo hx'] at this
    exact this
   ·exact h4.elim
 | blk B v =>
   simp only [wpS] at h3
   split at h3
   ·rename_i loc' hl
    obtain ⟨d,hd,hb,hk⟩:=puts h3
    have hs:=hlf
    simp only [zba] at hs
    rw [← zcx _ _ _ hl] at hs
    exact zgg hs hg hd hb (hK ((d,v k)::top) _ _ _ hn hk)
   ·exact h3.elim
 | call F as =>
   obtain ⟨f,xs,ts,fs,cs,ws,ho,hf,has,hw⟩:=hlf
   have hall:(⟨base,k,loc⟩:Hp).all=base++loc:=rfl
   simp only [wpS] at h3
   cases h3 with
   | detF v hc hk =>
     obtain ⟨d,hd,hb,hk⟩:=puts hk
     exact vcall_conv ho hg hd hb hf hw has hc fun r H' ⟨e,hr⟩=>⟨⟨base,k,loc⟩,fun g w hH=>by subst e;exact sees_same hH,by subst hr;exact hK ((d,_)::top) _ _ _ hn hk⟩
   | genF R hc hk =>
     by_cases hex:∃ d,o.dst=some d∧Nat.blt d N.n=true
     ·obtain ⟨d,hd,hb⟩:=hex
      refine vcall_conv ho hg hd hb hf hw has hc fun r H' hr=>?_
      obtain ⟨base',k',loc',e1,e2,e3,hk'⟩:=hk r H' hr
      refine ⟨⟨base',k',loc'⟩,fun g w hH=>⟨e1,e2⟩,?_⟩
      obtain ⟨d',hd',hb',hk'⟩:=puts hk'
      rw [hd] at hd';cases hd'
      exact hK ((d,.v r)::top) _ _ _ e3 hk'
     ·intro g0 w0 g w a Qc hH hE hx kk
      exfalso
      have hr:=zar hE f
      rw [hf] at hr
      simp only [VRel] at hr
      obtain ⟨hok,f',c',hfv,hfs,hcs⟩:=hr
      have hargs:=((hfs.append (hw g w a hE)).append hcs)
      rw [has] at hargs
      obtain ⟨r,H',hR⟩:=VFn.some hc (asv:=(f'++(xs.map a.eval).toArray)++c') hH.of (by simpa using hargs) hok.1
      obtain ⟨base',k',loc',e1,e2,e3,hk'⟩:=hk r H' hR
      obtain ⟨d',hd',hb',-⟩:=puts hk'
      exact hex ⟨d',hd',hb'⟩
 | fail=>cases h2
 | side _ _=>cases h2
 | ptr _ _ _=>cases h2
 | seg _ _ _=>cases h2
 | ofs _ _ _=>cases h2
 | eqv _ _=>cases h2
 | sub _ _ _ _=>cases h2
 | nat _ _=>cases h2
 | byte _ _ _=>cases h2
 | or _ _=>cases h2
 | rel _ _=>cases h2
end
end
section
def Apx (n0:Nat) (env:Env) (re:RE):Prop:=∀ s,Wk (get env s) (get (trE n0 re) s)
theorem Apx.refl (n0:Nat) (re:RE):Apx n0 (trE n0 re) re:=fun _=>yae _
section
variable {P:Program} {N:FN} {n0:Nat} {T:TypeId→Option TI} {kn:TypeId→Nat}
theorem vo_env [Glob] {all rest:List Oper} {Q:Env→Hp→Prop} {env env':Env} {hp:Hp} (h:VO P N all rest Q env' hp) (hw:∀ s,Wk (get env s) (get env' s)):VO P N all rest Q env hp :=
 fun g0 w0 g w a Qc hH hE hx k=>h g0 w0 g w a Qc hH ⟨hE.1,fun s=>hw s _ _ _ (hE.rel s),hE.ro,hE.glob⟩ hx k
def gslot (all:List Oper) (j:Nat):Option Nat:=match lget all j with
 | some oj=>oj.dst
 | none=>none
def skipN (N:Nat) (d:Option Nat) (top:RE) (K:RE→Prop):Prop:=match d with
 | some d=>match Nat.blt d N with
   | true=>K ((d,.v (.tup []))::top)
   | false=>False
 | none=>K top
def putS (N:Nat) (d:Option Nat) (v:Option RG) (top:RE) (K:RE→Prop):Prop:=match d with
 | some d=>match v with
   | some v=>match Nat.blt d N with
     | true=>K ((d,v)::top)
     | false=>False
   | none=>False
 | none=>False
def pickN [Glob] (N:Nat) (bot:RE) (d:Option Nat) (c x y:Operand) (top:RE) (K:RE→Prop):Prop:=match evR top bot c with
 | some (.lit true)=>putS N d (evR top bot x) top K
 | some (.lit false)=>putS N d (evR top bot y) top K
 | some (.v (.bool b))=>IfN b (putS N d (evR top bot x) top K) (putS N d (evR top bot y) top K)
 | _=>False
def opN [Glob] (P:Program) (kn:TypeId→Nat) (T:TypeId→Option TI) (N:FN) (n0:Nat) (bot:RE) (o:Oper) (base:Heap) (k:Nat) (loc:Heap) (K:RE→Heap→Nat→Heap→Prop) (top:RE):Prop :=
 match o.op with
 | .pick c x y=>pickN N.n bot o.dst c x y top fun top=>K top base k loc
 | op=>wpS P n0 base k loc (fun v base k loc=>putN N.n o.dst v top fun top=>K top base k loc) (stepS kn T n0 top bot loc op)
def guardN (bot:RE) (all:List Oper) (o:Oper) (top:RE) (ex sk:RE→Prop):Prop :=
 match o.guard with
 | none=>ex top
 | some (j,want)=>match gslot all j with
   | some d=>match rget2 top bot d with
     | some (.lit true)=>(match want with
       | true=>ex top
       | false=>sk top)
     | some (.lit false)=>(match want with
       | true=>sk top
       | false=>ex top)
     | some (.v (.bool b))=>(match want with
       | true=>IfN b (ex ((d,.lit true)::top)) (sk ((d,.lit false)::top))
       | false=>IfN b (sk ((d,.lit true)::top)) (ex ((d,.lit false)::top)))
     | some (.v (.tup []))=>sk top
     | _=>False
   | none=>False
/- written by recursors: so that the kernel's own way through it and Lean's come to the same terms -/
def wpO [Glob] (P:Program) (kn:TypeId→Nat) (T:TypeId→Option TI) (N:FN) (n0:Nat) (bot:RE) (all l:List Oper) (K:RE→Heap→Nat→Heap→Prop):RE→Heap→Nat→Heap→Prop :=
 @List.rec Oper (fun _=>RE→Heap→Nat→Heap→Prop) K
  (fun o _ ih top base k loc=>guardN bot all o top
    (opN P kn T N n0 bot o base k loc ih)
    (fun top=>skipN N.n o.dst top fun top=>ih top base k loc)) l
theorem lit_get {top bot:RE} {d:Nat} {b:Bool} (h:rget2 top bot d=some (.v (.bool b))) (s:Nat):get (trE n0 (top++bot)) s=get (trE n0 ((d,.lit b)::top++bot)) s:=by
 simp only [yci,trE]
 by_cases hs:d=s
 ·subst hs
  rw [zb3,zbu h];rfl
 ·rw [zch _ _ hs]
theorem gd_some {all:List Oper} {o:Oper} {j:Nat} {want:Bool} {top bot:RE} {d:Nat} {v:RG} {b:Bool} (hg:o.guard=some (j,want)) (hs:gslot all j=some d) (hv:rget2 top bot d=some v) (hb:tr n0 v=.bool b) :
  gd all (trE n0 (top++bot)) o=some (bb want b):=by
 unfold gd
 simp only [hg]
 unfold gslot at hs
 cases hl:lget all j with
 | none=>simp [hl] at hs
 | some oj =>
   simp only [hl] at hs
   simp only [hs,zbu hv,hb]
theorem guard_cases {all:List Oper} {o:Oper} {top bot:RE} {ex sk:RE→Prop} (h:guardN bot all o top ex sk) :
  ∃ top',(∀ s,get (trE n0 (top++bot)) s=get (trE n0 (top'++bot)) s)∧((gd all (trE n0 (top'++bot)) o=some true∧ex top')∨(gd all (trE n0 (top'++bot)) o=some false∧sk top')):=by
 unfold guardN at h
 split at h
 ·rename_i hg
  exact ⟨top,fun _=>rfl,.inl ⟨by unfold gd;simp [hg],h⟩⟩
 ·rename_i j want hg
  split at h
  ·rename_i d hs
   split at h
   ·rename_i hv
    have hgd:=gd_some (n0:=n0) hg hs hv rfl
    cases want with
    | true=>exact ⟨top,fun _=>rfl,.inl ⟨hgd,h⟩⟩
    | false=>exact ⟨top,fun _=>rfl,.inr ⟨hgd,h⟩⟩
   ·rename_i hv
    have hgd:=gd_some (n0:=n0) hg hs hv rfl
    cases want with
    | true=>exact ⟨top,fun _=>rfl,.inr ⟨hgd,h⟩⟩
    | false=>exact ⟨top,fun _=>rfl,.inl ⟨hgd,h⟩⟩
   ·rename_i b hv
    have hl:∀ c,rget2 ((d,RG.lit c)::top) bot d=some (.lit c):=fun c=>by simp [rget2,rgetO]
    have hgd:∀ c,gd all (trE n0 (((d,RG.lit c)::top)++bot)) o=some (bb want c):=fun c=>gd_some (n0:=n0) hg hs (hl c) rfl
    cases want with
    | true =>
      cases b with
      | true=>exact ⟨_,lit_get hv,.inl ⟨hgd true,h.t rfl⟩⟩
      | false=>exact ⟨_,lit_get hv,.inr ⟨hgd false,h.f rfl⟩⟩
    | false =>
      cases b with
      | true=>exact ⟨_,lit_get hv,.inr ⟨hgd true,h.t rfl⟩⟩
      | false=>exact ⟨_,lit_get hv,.inl ⟨hgd false,h.f rfl⟩⟩
   ·rename_i hv
    refine ⟨top,fun _=>rfl,.inr ⟨?_,h⟩⟩
    unfold gd
    simp only [hg]
    unfold gslot at hs
    cases hl:lget all j with
    | none=>simp [hl] at hs
    | some oj =>
      simp only [hl] at hs
      simp only [hs,zbu hv,tr]
   ·exact h.elim
  ·exact h.elim
theorem putS_some {d:Option Nat} {v:Option RG} {top:RE} {K:RE→Prop} (h:putS N.n d v top K):∃ d' v',d=some d'∧v=some v'∧Nat.blt d' N.n=true∧K ((d',v')::top):=by
 unfold putS at h
 split at h
 ·split at h
  ·split at h
   ·rename_i hb;exact ⟨_,_,rfl,rfl,hb,h⟩
   ·exact h.elim
  ·exact h.elim
 ·exact h.elim
theorem pick_cases [Glob] {bot:RE} {d:Option Nat} {c x y:Operand} {top:RE} {K:RE→Prop} (h:pickN N.n bot d c x y top K) :
  ∃ b,ev (trE n0 (top++bot)) c=.bool b∧putS N.n d (evR top bot (if b then x else y)) top K:=by
 unfold pickN at h
 split at h
 ·rename_i hc;exact ⟨true,zb1 hc,h⟩
 ·rename_i hc;exact ⟨false,zb1 hc,h⟩
 ·rename_i b hc
  refine ⟨b,zb1 hc,?_⟩
  cases b with
  | true=>exact h.t rfl
  | false=>exact h.f rfl
 ·exact h.elim
theorem pick_step [Glob] {env:Env} {hp:Hp} {o:Oper} {c x y:Operand} {b:Bool} (ho:o.op=.pick c x y) (hc:ev env c=.bool b):Step P N hp env o (ev env (if b then x else y)) hp:=by
 cases b with
 | true=>exact st_pick_t ho hc nf_ne
 | false=>exact st_pick_f ho hc nf_ne
theorem wpO_sound [Glob] (he:Env0 P T kn) {bot:RE} {all:List Oper} {Q:Env→Hp→Prop} {K:RE→Heap→Nat→Heap→Prop}
  (hK:∀ top base k loc,base.length=n0→K top base k loc→Q (trE n0 (top++bot)) ⟨base,k,loc⟩) :
  ∀ (rest:List Oper) (top:RE) (base:Heap) (k:Nat) (loc:Heap),base.length=n0→wpO P kn T N n0 bot all rest K top base k loc→VO P N all rest Q (trE n0 (top++bot)) ⟨base,k,loc⟩
 | [],top,base,k,loc,hn,h=>vo_nil (hK _ _ _ _ hn h)
 | o::rest,top,base,k,loc,hn,h=>by
   have ih:=wpO_sound he (bot:=bot) (all:=all) hK rest
   have h:guardN bot all o top (opN P kn T N n0 bot o base k loc (wpO P kn T N n0 bot all rest K))
    (fun top=>skipN N.n o.dst top fun top=>wpO P kn T N n0 bot all rest K top base k loc):=h
   obtain ⟨top',he',h1⟩:=guard_cases (n0:=n0) h
   refine vo_env (env':=trE n0 (top'++bot)) ?_ (fun s=>Wk.of_eq (he' s))
   rcases h1 with ⟨hg,hx⟩|⟨hg,hx⟩
   ·unfold opN at hx
    split at hx
    ·rename_i c x y ho
     obtain ⟨b,hc,hp⟩:=pick_cases hx
     obtain ⟨d,v,hd,hv,hb,hk⟩:=putS_some hp
     have:=pick_step (P:=P) (N:=N) (hp:=⟨base,k,loc⟩) ho hc
     rw [zb1 hv] at this
     exact zgg this hg hd hb (ih _ _ _ _ hn hk)
    ·exact vo_R he hn hg hx (fun top base k loc hn h=>ih top base k loc hn h)
   ·unfold skipN at hx
    split at hx
    ·rename_i d hd
     split at hx
     ·rename_i hb
      exact vo_skipped hg hd hb (ih _ _ _ _ hn hx)
     ·exact hx.elim
    ·rename_i hd
     exact vo_skippedU hg hd (ih _ _ _ _ hn hx)
def closOf (all:List Oper):List Nat :=
 all.foldl (fun acc o=>acc++[o.after.toList.foldl (fun m e=>if Region.binds .any e then m ||| 1 <<< e.on ||| acc.getD e.on 0 else m) 0]) []
inductive CallD [Glob] (W:List Nat) (P:Program) (F:Fn) (as:List AV) (n0:Nat) (base loc0 b1 loc:Heap) (K:AV→Prop) (K3 K4 K5:AV→Heap→Nat→Heap→Prop):Prop where
 | det (v:AV) (h:∀ l1,Tq W loc0 l1→∀ X:Heap,VFn P F as (base++l1++X) fun r H'=>H'=base++l1++X∧r=v) (a:K v)
 | fix (v:AV) (b2 loc2:Heap) (k2:Nat) (h:VFn P F as (b1++loc) fun r H'=>r=v∧H'=b2++loc2) (hb:b2.length=n0) (hk:loc2.length=k2) (a:K3 v b2 k2 loc2)
 | app (v:AV) (X loc2:Heap) (x:Nat) (h:VFn P F as (b1++loc) fun r H'=>r=v∧H'=b1++loc2) (hb:b1.length=n0) (hl:loc++X=loc2) (hx:X.length=x) (a:K4 v b1 x loc2)
 | free (v:AV) (X loc2:Heap) (x:Nat) (h:∀ l1,Tq W loc0 l1→∀ Z:Heap,(l1++Z).length=loc.length→VFn P F as (base++l1++Z) fun r H'=>r=v∧H'=(base++l1++Z)++X) (hb:b1.length=n0) (hl:loc++X=loc2) (hx:X.length=x) (a:K5 v b1 x loc2)
 | setW (j:Nat) (B:Blk) (v:AV) (loc2:Heap) (hj:inW W j=true) (hs:lset loc j B=some loc2) (h:VFn P F as (b1++loc) fun r H'=>r=v∧H'=b1++loc2) (hb:b1.length=n0) (a:K4 v b1 0 loc2)
inductive DM where
 | pure
 | mk
 | store
 | app
def dBase (st:DM) (base b1:Heap):Heap:=match st with
 | .pure=>base
 | .mk=>base
 | .store=>b1
 | .app=>b1
def tokAt (loc:Heap) (j:Nat) (B:Blk):Bool:=match lget loc j with
 | some C=>match C with
   | .tok e sz _=>match B with
     | .tok e' sz' _=>match Nat.beq e e' with
       | true=>Nat.beq sz sz'
       | false=>false
     | _=>false
   | _=>false
 | none=>false
theorem tokAt_spec {loc:Heap} {j:Nat} {B:Blk} (h:tokAt loc j B=true):∃ C,lget loc j=some C∧Tq1 C B∧C.isTok=true:=by
 unfold tokAt at h
 split at h
 ·rename_i C hC
  split at h
  ·rename_i e sz n
   split at h
   ·rename_i e' sz' n'
    split at h
    ·rename_i he
     exact ⟨_,hC,.inr ⟨e,sz,n,n',rfl,by rw [yap he,yap h]⟩,rfl⟩
    ·cases h
   ·cases h
  ·cases h
 ·cases h
def tokW (W:List Nat) (loc:Heap) (j:Nat) (B:Blk):Bool:=match inW W j with
 | true=>true
 | false=>tokAt loc j B
theorem tokW_spec {W:List Nat} {loc:Heap} {j:Nat} {B:Blk} (h:tokW W loc j B=true) (hw:inW W j=false):tokAt loc j B=true:=by
 unfold tokW at h
 rw [hw] at h
 exact h
def wpSD [Glob] (W:List Nat) (st:DM) (P:Program) (n0:Nat) (base loc0 b1:Heap) (k:Nat) (loc:Heap) (K:Nat→Option RG→Heap→Nat→Heap→Prop) (s:SR):Prop :=
 @SR.rec (fun _=>Prop) False
  (fun v=>K 0 (some v) b1 k loc)
  (fun v=>match st with
    | .pure=>K 1 (some v) b1 k loc
    | .mk=>K 1 (some v) b1 k loc
    | .app=>False
    | .store=>False)
  (fun t l=>match snocC loc (.box t l) with
    | some loc'=>K 2 (some (.lp k 0)) b1 (k+1) loc'
    | none=>False)
  (fun j B v=>match st with
    | .store=>match v with
      | none=>match lset loc j B with
        | some loc'=>match inW W j with
          | true=>K 4 none b1 k loc'
          | false=>K 3 none b1 k loc'
        | none=>False
      | some _=>False
    | .app=>match v with
      | none=>False
      | some v=>match tokW W loc j B with
        | false=>False
        | true=>match lset loc j B with
          | some loc'=>match inW W 3000000 with
            | true=>K (5+j) (some v) b1 k loc'
            | false=>K 4 (some v) b1 k loc'
          | none=>False
    | .pure=>False
    | .mk=>False)
  (fun i B v=>match st with
    | .store=>match v with
      | none=>SetN b1 i B fun b2=>K 3 none b2 k loc
      | some _=>False
    | .app=>match v with
      | some v=>SetN b1 i B fun b2=>K 3 (some v) b2 k loc
      | none=>False
    | .pure=>False
    | .mk=>False)
  (fun B v=>match st with
    | .app=>match snocC loc B with
      | some loc'=>match inW W 3000000 with
        | true=>K (5+loc.length) (some (v k)) b1 (k+1) loc'
        | false=>K 4 (some (v k)) b1 (k+1) loc'
      | none=>False
    | .mk=>match B with
      | .box _ _=>match snocC loc B with
        | some loc'=>K 2 (some (v k)) b1 (k+1) loc'
        | none=>False
      | _=>False
    | .pure=>False
    | .store=>False)
  (fun p _ ih=>SideN p ih)
  (fun i _ _ ihl ihb=>PtrN n0 (dBase st base b1) i ihl ihb)
  (fun l o _ ih=>SegN l o ih)
  (fun i n _ ih=>OfsN i n ih)
  (fun x _ ih=>EqN x ih)
  (fun l o n _ ih=>SubN l o n ih)
  (fun i _ ih=>NatN i ih)
  (fun s i _ ih=>ByteN s i ih)
  (fun _ _ iha ihb=>OrN iha ihb)
  (fun fn as=>match st with
    | .pure=>CallD W P fn as n0 base loc0 b1 loc (fun r=>K 1 (some (.v r)) b1 k loc) (fun r b2 k2 loc2=>K 3 (some (.v r)) b2 k2 loc2) (fun r b2 x loc2=>K 4 (some (.v r)) b2 (k+x) loc2) (fun r b2 x loc2=>K (5+loc.length) (some (.v r)) b2 (k+x) loc2)
    | .app=>False
    | .mk=>False
    | .store=>False)
  (fun S _ ih=>RelN S ih)
  (fun _ _=>False)
  (fun _ _=>False)
  (fun _=>False) s
def dmOf:Op→DM
 | .store _ _ _=>.store
 | .mapUpdate _ _ _ _=>.store
 | .insert _ _ _ _=>.store
 | .range _ _=>.store
 | .next _ _=>.store
 | .entry _=>.store
 | .mapEntry _ _ _=>.store
 | .entryStore _ _ _ _=>.store
 | .makeSlice _ _ _=>.mk
 | .call { callee:=.builtin .append,.. }=>.app
 | _=>.pure
def rdOk [Glob] (W:List Nat) (top bot:RE) (op:Op):Bool:=match W with
 | []=>true
 | w::W=>match op with
   | .load _ x=>match evR top bot x with
     | some (.lp j _)=>match inW (w::W) j with
       | true=>false
       | false=>true
     | some (.v (.rptr _))=>true
     | _=>false
   | .lookup _ _ _ _=>false
   | .indexAddr _ x _=>match evR top bot x with
     | some (.v (.vs _ _))=>false
     | some (.v (.vk _ _ _))=>false
     | _=>true
   | _=>true
def rdP (W:List Nat):Option RG→Prop
 | some (.lp j _)=>inW W j=false
 | some (.v (.ptr _ _))=>W=[]
 | some (.v (.vp _ _ _))=>W=[]
 | _=>True
theorem rdOk_load [Glob] {W:List Nat} {top bot:RE} {t:TypeId} {x:Operand} (h:rdOk W top bot (.load t x)=true):rdP W (evR top bot x):=by
 cases W with
 | nil =>
   unfold rdP
   split
   ·rfl
   ·rfl
   ·rfl
   ·trivial
 | cons w W =>
   simp only [rdOk] at h
   split at h
   ·rename_i j o he
    rw [he]
    simp only [rdP]
    cases hj:inW (w::W) j with
    | true=>simp [hj] at h
    | false=>rfl
   ·rename_i l he
    rw [he]
    trivial
   ·cases h
theorem rdOk_lookup [Glob] {W:List Nat} {top bot:RE} {t:TypeId} {x y:Operand} {ok:Bool} (h:rdOk W top bot (.lookup t x y ok)=true):W=[]:=by
 cases W with
 | nil=>rfl
 | cons w W=>simp [rdOk] at h
theorem loadS_tq {W:List Nat} {T:TypeId→Option TI} {t:TypeId} {loc l1:Heap} (h:Tq W loc l1):∀ r:Option RG,rdP W r→loadS T t loc r=loadS T t l1 r
 | some (.lp j o),hr=>by
   simp only [loadS]
   rcases h.at_ j hr with ⟨h1,h2⟩|⟨B,C,h1,h2,h3⟩
   ·rw [h1,h2]
   ·rcases h3 with rfl|⟨e,sz,n,n',rfl,rfl⟩
    ·rw [h1,h2]
    ·rw [h1,h2]
 | some (.v a),hr=>by
   cases a with
   | ptr i o =>
     have hr:W=[]:=hr
     subst hr
     simp only [loadS]
     congr 1
     funext j
     rcases h.at_ j rfl with ⟨h1,h2⟩|⟨B,C,h1,h2,h3⟩
     ·rw [h1,h2]
     ·rcases h3 with rfl|⟨e,sz,n,n',rfl,rfl⟩
      ·rw [h1,h2]
      ·rw [h1,h2]
   | vp i n o =>
     have hr:W=[]:=hr
     subst hr
     simp only [loadS]
     congr 1
     funext j
     rcases h.at_ j rfl with ⟨h1,h2⟩|⟨B,C,h1,h2,h3⟩
     ·rw [h1,h2]
     ·rcases h3 with rfl|⟨e,sz,n,n',rfl,rfl⟩
      ·rw [h1,h2]
      ·rw [h1,h2]
       rfl
   | _=>rfl
 | some (.lit _),_=>rfl
 | none,_=>rfl
theorem lookupS_tq {kn:TypeId→Nat} {T:TypeId→Option TI} {t:TypeId} {loc l1:Heap} {ok:Bool} {m k:AV} (h:Tq [] loc l1):lookupS kn T t loc ok m k=lookupS kn T t l1 ok m k:=by
 unfold lookupS
 split
 ·split
  ·split
   ·split
    ·congr 1
     funext j
     rcases h.at_ j rfl with ⟨h1,h2⟩|⟨B,C,h1,h2,h3⟩
     ·rw [h1,h2]
     ·rcases h3 with rfl|⟨e,sz,n,n',rfl,rfl⟩
      ·rw [h1,h2]
      ·rw [h1,h2]
    ·rfl
    ·rfl
    ·rfl
   ·rfl
  ·rfl
 ·rfl
theorem rdOk_index [Glob] {W:List Nat} {top bot:RE} {t:TypeId} {x y:Operand} {i n:Nat} (h:rdOk W top bot (.indexAddr t x y)=true) (he:evR top bot x=some (.v (.vs i n))):W=[]:=by
 cases W with
 | nil=>rfl
 | cons w W=>simp [rdOk,he] at h
theorem rdOk_indexK [Glob] {W:List Nat} {top bot:RE} {t:TypeId} {x y:Operand} {i n m:Nat} (h:rdOk W top bot (.indexAddr t x y)=true) (he:evR top bot x=some (.v (.vk i n m))):W=[]:=by
 cases W with
 | nil=>rfl
 | cons w W=>simp [rdOk,he] at h
theorem indexX_tq {W:List Nat} {T:TypeId→Option TI} {t:TypeId} {loc l1:Heap} {y:AV} (h:Tq W loc l1) (r:Option RG) (hr:∀ i n,r=some (.v (.vs i n))→W=[]) (hr2:∀ i n m,r=some (.v (.vk i n m))→W=[]):indexX T t loc r y=indexX T t l1 r y:=by
 unfold indexX
 split
 ·rename_i i n
  have hr:=hr i n rfl
  subst hr
  congr 1
  funext j
  rcases h.at_ j rfl with ⟨h1,h2⟩|⟨B,C,h1,h2,h3⟩
  ·rw [h1,h2]
  ·rcases h3 with rfl|⟨e,sz,n,n',rfl,rfl⟩
   ·rw [h1,h2]
   ·rw [h1,h2]
    rfl
 ·rename_i i n m
  have hr:=hr2 i n m rfl
  subst hr
  congr 1
  funext j
  rcases h.at_ j rfl with ⟨h1,h2⟩|⟨B,C,h1,h2,h3⟩
  ·rw [h1,h2]
  ·rcases h3 with rfl|⟨e,sz,n,n',rfl,rfl⟩
   ·rw [h1,h2]
   ·rw [h1,h2]
    rfl
 ·rfl
theorem stepS_tq [Glob] {kn:TypeId→Nat} {T:TypeId→Option TI} {n0:Nat} {W:List Nat} {top bot:RE} {loc l1:Heap} {op:Op} (h:Tq W loc l1) (hd:dmOf op=.pure) (hr:rdOk W top bot op=true):stepS kn T n0 top bot loc op=stepS kn T n0 top bot l1 op:=by
 unfold stepS
 split
 all_goals first
  | rfl
  | exact loadS_tq h _ (rdOk_load hr)
  | exact indexX_tq h _ (fun i n he=>rdOk_index hr he) (fun i n m he=>rdOk_indexK hr he)
  | (cases hd;done)
  | (obtain rfl:=rdOk_lookup hr;congr 1;funext k;exact lookupS_tq h)
  | fail
def fgtA (T:TypeId→Option TI) (W:List Nat) (o:Oper):Bool:=match W with
 | []=>false
 | w::W=>match o.op with
   | .alloc t=>match o.dst with
     | some d=>match inW (w::W) (1000000+d) with
       | true=>match T t with
         | some ti=>match ti.zero with
           | some _=>true
           | none=>false
         | none=>false
       | false=>false
     | none=>false
   | _=>false
theorem fgtA_spec {T:TypeId→Option TI} {W:List Nat} {o:Oper} (h:fgtA T W o=true):∃ t ti z,o.op=.alloc t∧T t=some ti∧ti.zero=some z:=by
 cases W with
 | nil=>cases h
 | cons w W =>
   unfold fgtA at h
   split at h
   ·cases h
   ·split at h
    ·rename_i t ho
     split at h
     ·split at h
      ·split at h
       ·rename_i ti ht
        split at h
        ·rename_i z hz
         exact ⟨t,ti,z,ho,ht,hz⟩
        ·cases h
       ·cases h
      ·cases h
     ·cases h
    ·cases h
def opD [Glob] (W:List Nat) (P:Program) (kn:TypeId→Nat) (T:TypeId→Option TI) (N:FN) (n0:Nat) (bot:RE) (o:Oper) (base loc0 b1:Heap) (k:Nat) (loc:Heap) (K:Nat→RE→Heap→Nat→Heap→Prop) (top:RE):Prop:=match fgtA T W o with
 | true=>putN N.n o.dst (some (.v .junk)) top fun top=>K 0 top b1 k loc
 | false=>match o.op with
   | .pick c x y=>pickN N.n bot o.dst c x y top fun top=>K 0 top b1 k loc
   | op=>match dmOf op with
     | .store=>wpSD W .store P n0 base loc0 b1 k loc (fun c v b1 k loc=>putN N.n o.dst v top fun top=>K c top b1 k loc) (stepS kn T n0 top bot loc op)
     | .app=>wpSD W .app P n0 base loc0 b1 k loc (fun c v b1 k loc=>putN N.n o.dst v top fun top=>K c top b1 k loc) (stepS kn T n0 top bot loc op)
     | .mk=>wpSD W .mk P n0 base loc0 b1 k loc (fun c v b1 k loc=>putN N.n o.dst v top fun top=>K c top b1 k loc) (stepS kn T n0 top bot loc0 op)
     | .pure=>match rdOk W top bot op with
       | true=>wpSD W .pure P n0 base loc0 b1 k loc (fun c v b1 k loc=>putN N.n o.dst v top fun top=>K c top b1 k loc) (stepS kn T n0 top bot loc0 op)
       | false=>False
structure DrawN (k:List Nat→Prop) (m m2:Nat→List Nat→Prop):Prop where
 h:(∃ W,k W)∨(∃ i W,m i W)∨∃ i W,m2 i W
theorem zab {k:List Nat→Prop} {m m2:Nat→List Nat→Prop} (W:List Nat) (h:k W):DrawN k m m2:=⟨.inl ⟨W,h⟩⟩
theorem DrawN.mp {k:List Nat→Prop} {m m2:Nat→List Nat→Prop} (i:Nat) (W:List Nat) (h:m2 i W):DrawN k m m2:=⟨.inr (.inr ⟨i,W,h⟩)⟩
def wpD [Glob] (W:List Nat) (P:Program) (kn:TypeId→Nat) (T:TypeId→Option TI) (N:FN) (n0:Nat) (bot:RE) (all:List Oper) (base loc0:Heap) (l:List Oper) (K:RE→Heap→Nat→Heap→Prop):List Nat→RE→Heap→Nat→Heap→Prop :=
 @List.rec Oper (fun _=>List Nat→RE→Heap→Nat→Heap→Prop)
  (fun ks top b1 k loc=>SideN ((zev loc0.length all (closOf all) (ks.reverse)&&dstOk N.n all)=true) (K top b1 k loc))
  (fun o _ ih ks top b1 k loc=>guardN bot all o top
    (opD W P kn T N n0 bot o base loc0 b1 k loc (fun c top b1 k loc=>ih (c::ks) top b1 k loc))
    (fun top=>skipN N.n o.dst top fun top=>ih (0::ks) top b1 k loc)) l
end
end
section
section
variable {P:Program} {N:FN} {n0:Nat} {T:TypeId→Option TI} {kn:TypeId→Nat}
theorem dr_gt [Glob] {I:Hp→Prop} {all rest:List Oper} {ks:List Nat} {o:Oper} {env:Env} {hp hp':Hp} {K:Env→Hp→Prop} {d:Nat} {v:AV} (h1:∀ env',Agree (opTs o.op) env env'→WOk P N hp hp' env' o v) (hX:I hp') (hg:gd all env o=some true) (hd:o.dst=some d)
  (h:DR P N I all rest ks ((d,v)::env) hp' K):DR P N I all (o::rest) (4::ks) env hp K:=by
 refine zed (v:=v) (k:=.w true) (hp':=hp') rfl ?_ (by rw [zdv hd];exact h)
 unfold FOp
 simp only [hg]
 exact ⟨fun _=>hX,fun env' ha=>h1 env' (zd2 ha)⟩
theorem gd_congr {all:List Oper} {o:Oper} {e e':Env} (h:∀ s,get e s=get e' s):gd all e' o=gd all e o:=by
 unfold gd
 simp only [h]
theorem fop_congr [Glob] {I:Hp→Prop} {all:List Oper} {d:DOp} {e e':Env} {hp hp':Hp} (h:∀ s,get e s=get e' s) (hf:FOp P N I all d e hp hp'):FOp P N I all d e' hp hp':=by
 have hag:∀ ts env',Agree ts e' env'→Agree ts e env':=fun ts env' ha t ht=>by rw [ha t ht,h]
 unfold FOp at hf ⊢
 rw [gd_congr h]
 cases hgd:gd all e d.o with
 | none=>simp only [hgd] at hf
 | some b =>
   simp only [hgd] at hf ⊢
   cases b with
   | false=>exact hf
   | true =>
     simp only at hf ⊢
     cases hk:d.k with
     | r=>simp only [hk] at hf ⊢;exact ⟨fun env' ha=>hf.1 env' (hag _ _ ha),hf.2⟩
     | m=>simp only [hk] at hf ⊢;exact ⟨fun env' ha=>hf.1 env' (hag _ _ ha),hf.2⟩
     | a B =>
       simp only [hk] at hf ⊢
       obtain ⟨h1,⟨vf,h2,h3⟩,h4⟩:=hf
       exact ⟨h1,⟨vf,h2,fun env' ha=>h3 env' (hag _ _ ha)⟩,h4⟩
     | w=>simp only [hk] at hf ⊢;exact ⟨hf.1,fun env' ha=>hf.2 env' (hag _ _ ha)⟩
     | f q n X=>simp only [hk] at hf ⊢;exact ⟨fun env' ha=>hf.1 env' (hag _ _ ha),hf.2⟩
theorem df_congr [Glob] {I:Hp→Prop} {all:List Oper} {K:Env→Hp→Prop} (hK:∀ e1 e2 hp,(∀ s,get e1 s=get e2 s)→K e1 hp→K e2 hp):∀ {ds:List DOp} {e e':Env} {hp:Hp},(∀ s,get e s=get e' s)→DF P N I all ds e hp K→DF P N I all ds e' hp K
 | [],e,e',hp,h,hd=>hK e e' hp h hd
 | d::ds,e,e',hp,h,⟨hp',h1,h2⟩=>by
   refine ⟨hp',fop_congr h h1,df_congr hK (fun s=>?_) h2⟩
   rw [get_push,get_push,h]
theorem dr_congr [Glob] {I:Hp→Prop} {all rest:List Oper} {ks:List Nat} {K:Env→Hp→Prop} {e e':Env} {hp:Hp} (hK:∀ e1 e2 hp,(∀ s,get e1 s=get e2 s)→K e1 hp→K e2 hp) (h:∀ s,get e s=get e' s) (hd:DR P N I all rest ks e hp K):DR P N I all rest ks e' hp K:=by
 obtain ⟨ds,h1,h2,h3⟩:=hd
 exact ⟨ds,h1,h2,df_congr hK h h3⟩
def zfd (ts:List Nat) (top bot:RE):RE:=ts.filterMap fun t=>(rget2 top bot t).map fun v=>(t,v)
theorem restrR_get {top bot:RE} {t:Nat}:∀ {ts:List Nat},rgetO (zfd ts top bot) t=if t∈ts then rget2 top bot t else none
 | []=>by simp [zfd,rgetO]
 | s::ts=>by
   have ih:=restrR_get (top:=top) (bot:=bot) (t:=t) (ts:=ts)
   unfold zfd at ih ⊢
   rw [List.filterMap_cons]
   by_cases hst:s=t
   ·subst hst
    cases hv:rget2 top bot s with
    | none =>
      simp only [hv,yc5]
      rw [ih]
      simp [hv]
    | some v=>simp [rgetO,hv]
   ·cases hv:rget2 top bot s with
    | none=>simp only [hv,yc5];rw [ih];simp [ycq hst]
    | some v =>
      have hb:Nat.beq s t=false:=by
       cases hb:Nat.beq s t
       ·rfl
       ·exact absurd (yap hb) hst
      simp only [hv,ybb,rgetO,hb,ih,yay,ycq hst,false_or]
theorem zb9 [Glob] {g:G} {w:World} {a:Act} {ts:List Nat} {top bot:RE} {env':Env} (ha:Agree ts (trE n0 (top++bot)) env') (hE:ERel N g w env' a):ERel N g w (trE n0 (zfd ts top bot++[])) a:=by
 refine ⟨hE.1,fun s=>?_,hE.ro,hE.glob⟩
 cases hv:rgetO (zfd ts top bot) s with
 | none =>
   rw [yat]
   have:=zcz (n0:=n0) hv []
   simp only [yat] at this
   rw [this]
   simp [get,VRel]
 | some v =>
   have h1:=zc3 (n0:=n0) hv []
   simp only [yat] at h1
   rw [yat,h1]
   rw [restrR_get] at hv
   split at hv
   ·rename_i hs
    rw [← zbu hv,← ha s hs]
    exact hE.rel s
   ·cases hv
theorem restr_ev [Glob] {ts:List Nat} {top bot:RE} {x:Operand} (hx:∀ t,x=.tmp t→t∈ts):evR (zfd ts top bot) [] x=evR top bot x:=by
 cases x with
 | tmp t =>
   change (match rgetO (zfd ts top bot) t with
    | some v=>some v
    | none=>rgetO [] t)=rget2 top bot t
   rw [restrR_get,if_pos (hx t rfl)]
   cases rget2 top bot t <;> rfl
 | const c=>rfl
 | func f=>rfl
 | global g=>rfl
theorem restr_op [Glob] {top bot:RE} {op:Op} {x:Operand} (hx:x∈op.operands.toList):evR (zfd (opTs op) top bot) [] x=evR top bot x :=
 restr_ev fun t ht=>by
  subst ht
  unfold opTs
  exact List.mem_filterMap.2 ⟨_,hx,rfl⟩
theorem zct [Glob] {t1 b1 t2 b2:RE} {x:Operand} (h:evR t1 b1 x=evR t2 b2 x):avF n0 t1 b1 x=avF n0 t2 b2 x:=by unfold avF;rw [h]
theorem zf9 [Glob] {t1 b1 t2 b2:RE}:∀ {l:List Operand},(∀ x∈l,evR t1 b1 x=evR t2 b2 x)→avLF n0 t1 b1 l=avLF n0 t2 b2 l
 | [],_=>rfl
 | x::l,h=>by simp only [avLF];rw [zct (h x (by simp)),zf9 fun y hy=>h y (by simp [hy])]
theorem avPF_congr [Glob] {t1 b1 t2 b2:RE}:∀ {l:List (Nat×Operand)},(∀ p∈l,evR t1 b1 p.2=evR t2 b2 p.2)→avPF n0 t1 b1 l=avPF n0 t2 b2 l
 | [],_=>rfl
 | (i,x)::l,h=>by simp only [avPF];rw [zct (h (i,x) (by simp)),avPF_congr fun y hy=>h y (by simp [hy])]
theorem zgh [Glob] {top bot:RE} {loc:Heap} {op:Op}:stepS kn T n0 (zfd (opTs op) top bot) [] loc op=stepS kn T n0 top bot loc op:=by
 have ea:∀ x,x∈op.operands.toList→evR (zfd (opTs op) top bot) [] x=evR top bot x:=fun x hx=>restr_op hx
 generalize zfd (opTs op) top bot=top' at ea ⊢
 have ea':∀ x,x∈op.operands.toList→av n0 top' [] x=av n0 top bot x:=fun x hx=>by unfold av;rw [ea x hx]
 unfold stepS
 split <;> try simp only [Op.operands,Call.operands] at ea ea'
 ·rw [ea _ (by simp)]
 ·rw [ea _ (by simp)]
 ·rename_i op t x y u;rw [ea' x (by simp),ea' y (by simp)]
 ·rw [ea' _ (by simp)]
 ·rw [ea' _ (by simp)]
 ·rw [ea' _ (by simp)]
 ·rw [ea' _ (by simp)]
 ·rw [ea' _ (by simp)]
 ·rw [ea _ (by simp)]
 ·rw [ea' _ (by simp)]
 ·rw [ea _ (by simp)]
 ·rw [ea _ (by simp)]
 ·rename_i t x y;rw [ea x (by simp),zct (ea y (by simp))]
 ·rfl
 ·rw [zct (ea _ (by simp))]
 ·rename_i t ps
  rw [avPF_congr fun p hp=>ea p.2 (by simp only [ybq];exact ⟨p,hp,rfl⟩)]
 ·rename_i t n ps
  rw [avPF_congr fun p hp=>ea p.2 (by simp only [ybq];exact ⟨p,hp,rfl⟩)]
 ·rename_i t x y;rw [ea x (by simp),ea' y (by simp)]
 ·rename_i fn fs cs
  rw [zf9 (l:=fs) fun x hx=>ea x (by simp;exact .inl hx),zf9 (l:=cs) fun x hx=>ea x (by simp;exact .inr hx)]
 ·rename_i t x low high max
  have ho:∀ q:Option Operand,(∀ y,q=some y→y∈(x::(low.toList++(high.toList++max.toList))))→avO n0 top' [] q=avO n0 top bot q:=fun q hq=>by
   cases q with
   | none=>rfl
   | some y=>simp only [avO];rw [ea' y (by have:=hq y rfl;simpa using this)]
  rw [ea' x (by simp),ho low (by intro y hy;simp [hy]),ho high (by intro y hy;simp [hy]),ho max (by intro y hy;simp [hy])]
 ·rename_i t x y;rw [ea' x (by simp),ea' y (by simp)]
 ·rename_i t x y;rw [ea' x (by simp),ea' y (by simp)]
 ·rfl
 ·rename_i t x y ok;rw [ea' x (by simp),zct (ea y (by simp))]
 ·rename_i t x y z;rw [ea' x (by simp),zct (ea y (by simp)),zct (ea z (by simp))]
 ·rename_i t x y z;rw [ea' x (by simp),zct (ea y (by simp)),zct (ea z (by simp))]
 ·rw [ea' _ (by simp)]
 ·rw [ea _ (by simp)]
 ·rw [ea _ (by simp)]
 ·rename_i t x y;rw [ea' x (by simp),zct (ea y (by simp))]
 ·rename_i t x y z;rw [ea' x (by simp),ea' y (by simp),zct (ea z (by simp))]
 ·rw [ea' _ (by simp)]
 ·rename_i x y t u;rw [ea' x (by simp),ea' y (by simp)]
 ·rename_i x y ts;rw [ea' x (by simp),ea' y (by simp)]
 ·rename_i x y ts;rw [ea' x (by simp),ea' y (by simp)]
 ·rw [ea' _ (by simp)]
 ·rename_i f xs ts
  rw [zf9 (l:=xs) fun x hx=>ea x (by simp;exact .inr hx),ea' f (by simp)]
 ·rfl
theorem zep [Glob] {hp hp':Hp} {o:Oper} {v:AV} {top bot:RE} {env':Env} (ha:Agree (opTs o.op) (trE n0 (top++bot)) env') (h:Step P N hp (trE n0 (zfd (opTs o.op) top bot++[])) o v hp'):Step P N hp env' o v hp' :=
 fun g w a hH hE=>h g w a hH (zb9 ha hE)
theorem zcf [Glob] {W:List Nat} {st:DM} {base loc0 b1:Heap} {k:Nat} {loc:Heap} {K:Nat→Option RG→Heap→Nat→Heap→Prop}:∀ (s:SR),wpSD W st P n0 base loc0 b1 k loc K s→∃ r,Res n0 (dBase st base b1) s r∧leaf r=true∧wpSD W st P n0 base loc0 b1 k loc K r
 | .fail,h=>h.elim
 | .reg v,h=>⟨_,.refl _,rfl,h⟩
 | .mem v,h=>⟨_,.refl _,rfl,h⟩
 | .box t l,h=>⟨_,.refl _,rfl,h⟩
 | .upd j B v,h=>⟨_,.refl _,rfl,h⟩
 | .updB i B v,h=>⟨_,.refl _,rfl,h⟩
 | .blk B v,h=>⟨_,.refl _,rfl,h⟩
 | .call f as,h=>⟨_,.refl _,rfl,h⟩
 | .anyU j S,h=>h.elim
 | .blkU S v,h=>h.elim
 | .anyV S,h=>h.elim
 | .rel S kk,h=>by
   obtain ⟨y,z,h1,h2⟩:=h
   obtain ⟨r,h3,h4⟩:=zcf (kk y z) h2
   exact ⟨r,.rel h1 h3,h4⟩
 | .side p s,h=>by
   obtain ⟨r,h1,h2⟩:=zcf s h.rest
   exact ⟨r,.side h.side h1,h2⟩
 | .ptr i kl kb,h=>by
   cases h with
   | loc j h1 h2 =>
     obtain ⟨r,h3,h4⟩:=zcf (kl j) h2
     exact ⟨r,.ptrL h1 h3,h4⟩
   | base B h1 h2 =>
     obtain ⟨r,h3,h4⟩:=zcf (kb B) h2
     exact ⟨r,.ptrB h1 h3,h4⟩
 | .seg l o kk,h=>by
   obtain ⟨l',h1,h2⟩:=h
   obtain ⟨r,h3,h4⟩:=zcf (kk l') h2
   exact ⟨r,.seg h1 h3,h4⟩
 | .ofs i n kk,h=>by
   obtain ⟨m,h1,h2,h3⟩:=h
   obtain ⟨r,h4,h5⟩:=zcf (kk m) h3
   exact ⟨r,.ofs h1 h2 h4,h5⟩
 | .eqv x kk,h=>by
   obtain ⟨y,h1,h2⟩:=h
   obtain ⟨r,h3,h4⟩:=zcf (kk y) h2
   exact ⟨r,.eqv h1 h3,h4⟩
 | .sub l o n kk,h=>by
   obtain ⟨y,h1,h2⟩:=h
   obtain ⟨r,h3,h4⟩:=zcf (kk y) h2
   exact ⟨r,.sub h1 h3,h4⟩
 | .nat i kk,h=>by
   obtain ⟨y,h1,h2⟩:=h
   obtain ⟨r,h3,h4⟩:=zcf (kk y) h2
   exact ⟨r,.nat h1 h3,h4⟩
 | .byte s i kk,h=>by
   obtain ⟨y,h1,h2⟩:=h
   obtain ⟨r,h3,h4⟩:=zcf (kk y) h2
   exact ⟨r,.byte h1 h3,h4⟩
 | .or a b,h=>by
   rcases h with h|h
   ·obtain ⟨r,h3,h4⟩:=zcf a h
    exact ⟨r,.orl h3,h4⟩
   ·obtain ⟨r,h3,h4⟩:=zcf b h
    exact ⟨r,.orr h3,h4⟩
theorem zce {d:Option Nat} {v:RG} {top:RE} {K:RE→Prop} (h:putN N.n d (some v) top K):∃ d',d=some d'∧Nat.blt d' N.n=true∧K ((d',v)::top):=by
 unfold putN at h
 split at h
 ·simp only at h
  split at h
  ·rename_i hb;exact ⟨_,rfl,hb,h⟩
  ·exact h.elim
 ·exact h.elim
theorem putN_none {d:Option Nat} {top:RE} {K:RE→Prop} (h:putN N.n d none top K):d=none∧K top:=by
 unfold putN at h
 split at h
 ·exact h.elim
 ·exact ⟨rfl,h⟩
def Tame (W:List Nat) (loc0:Heap) (k0:Nat) (loc:Heap) (k:Nat):Prop:=∃ l1 X,Tq W loc0 l1∧loc=l1++X∧k=k0+X.length
def IW (W:List Nat) (base:Heap) (k0:Nat) (loc0:Heap):Hp→Prop:=fun hp=>∃ l1 X,Tq W loc0 l1∧hp=⟨base,k0+X.length,l1++X⟩
theorem Tame.refl (W:List Nat) (loc:Heap) (k:Nat):Tame W loc k loc k:=⟨loc,[],Tq.refl _,by simp,by simp⟩
theorem Tame.iw {W:List Nat} {base loc0 loc:Heap} {k0 k:Nat} (h:Tame W loc0 k0 loc k):IW W base k0 loc0 ⟨base,k,loc⟩:=by
 obtain ⟨l1,X,hq,rfl,rfl⟩:=h
 exact ⟨l1,X,hq,rfl⟩
theorem Tame.snoc {W:List Nat} {loc0 loc loc':Heap} {k0 k:Nat} {B:Blk} (h:Tame W loc0 k0 loc k) (hl:snocC loc B=some loc'):Tame W loc0 k0 loc' (k+1):=by
 obtain ⟨l1,X,hq,rfl,rfl⟩:=h
 exact ⟨l1,X++[B],hq,by rw [zcx _ _ _ hl,ybe],by simp;omega⟩
theorem Tame.set {W:List Nat} {loc0 loc loc':Heap} {k0 k j:Nat} {B:Blk} (h:Tame W loc0 k0 loc k) (hj:inW W j=false→tokAt loc j B=true) (hl:lset loc j B=some loc'):Tame W loc0 k0 loc' k:=by
 obtain ⟨l1,X,hq,rfl,rfl⟩:=h
 rw [(zd6 _ _ _ _ hl).1]
 rcases yag j l1.length with h|h
 ·rw [ycm _ _ h]
  cases hw:inW W j with
  | true=>exact ⟨l1.set j B,X,hq.set (B:=B) j (fun e=>by rw [hw] at e;cases e),rfl,rfl⟩
  | false =>
    obtain ⟨C,hC,h1,h2⟩:=tokAt_spec (hj hw)
    refine ⟨l1.set j B,X,hq.set (B:=C) j (fun _=>⟨?_,h1,h2⟩),rfl,rfl⟩
    rw [za9] at hC ⊢
    rwa [yaj h] at hC
 ·rw [yb0 _ _ h]
  exact ⟨l1,X.set (j-l1.length) B,hq,rfl,by simp⟩
theorem HRel.part3 [Glob] {g:G} {w:World} {b l:Heap} {hp:Hp} (h:HRel g w hp) (e:hp.all=b++l):HRel g w ⟨b,l.length,l⟩:=by
 have h':=h.of
 rw [e] at h'
 refine ⟨?_,rfl,?_,h.lt,?_,?_,h.glob⟩
 ·have:=h'.n
  simpa [Hp.of] using this
 ·have:=h'.rel;simpa [Hp.of,Hp.all] using this
 ·have:=h'.pend;simpa [Hp.of,Hp.all] using this
 ·have:=h'.inj;simpa [Hp.of,Hp.all] using this
theorem set_split {l:Heap} {j:Nat} {B:Blk} (h:j<l.length):l.set j B=l.take j++(l.drop j).set 0 B:=by
 apply ybn
 intro i
 rw [yaw]
 rcases yag i j with h1|h1
 ·rw [if_neg (by omega),yaj (by rw [yce];omega),List.getElem?_take_of_lt h1]
 ·rw [yam (by rw [yce];omega),yce,ycd (by omega),yaw]
  by_cases hij:j=i
  ·subst hij
   simp [h]
   omega
  ·rw [if_neg hij,if_neg (by omega),yc2,show j+(i-j)=i by omega]
theorem append_line {base loc loc':Heap} {t:TypeId} {x y:AV} {r:SR} (h:Res n0 base (appendS n0 T t loc x y) r) (hl:leaf r=true) (hr:(∃ B v,r=.blk B v)∨∃ j B v,r=.upd j B v∧lget loc' j=lget loc j):Res n0 base (appendS n0 T t loc' x y) r:=by
 unfold appendS at h ⊢
 cases hy:slOf y with
 | none=>simp only [hy] at h;exact (zaa h hl).elim
 | some p =>
 obtain ⟨m,l2⟩:=p
 simp only [hy] at h ⊢
 cases hT:T t with
 | none=>simp only [hT] at h;exact (zaa h hl).elim
 | some ti =>
 simp only [hT] at h ⊢
 cases hk:ti.kind <;> simp only [hk] at h ⊢ <;> try exact (zaa h hl).elim
 rename_i e
 cases hE:T e with
 | none=>simp only [hE] at h;exact (zaa h hl).elim
 | some ei =>
 simp only [hE] at h ⊢
 cases hz:ei.zero with
 | none=>simp only [hz] at h;exact (zaa h hl).elim
 | some z =>
 simp only [hz] at h ⊢
 cases hb:Nat.beq z.length ei.sz with
 | false=>simp only [hb] at h;exact (zaa h hl).elim
 | true =>
 simp only [hb] at h ⊢
 cases hs:ei.sz with
 | zero=>simp only [hs] at h;exact (zaa h hl).elim
 | succ sz =>
 simp only [hs] at h ⊢
 cases x with
 | sl tk n l =>
   cases tk with
   | none=>exact h
   | some tk =>
     simp only at h ⊢
     cases h with
     | refl=>cases hl
     | ptrB hb hk=>exact .ptrB hb hk
     | ptrL hi hk =>
       refine .ptrL hi ?_
       rename_i j
       cases hg:lget loc j with
       | none=>simp only [hg] at hk;exact (zaa hk hl).elim
       | some C =>
         cases C with
         | tok e' sz' L =>
           simp only [hg] at hk
           cases b1:Nat.beq e' e with
           | false=>simp only [b1] at hk;exact (zaa hk hl).elim
           | true =>
           simp only [b1] at hk
           cases b2:Nat.beq sz' (sz+1) with
           | false=>simp only [b2] at hk;exact (zaa hk hl).elim
           | true =>
           simp only [b2] at hk
           obtain ⟨hp,hk2⟩:=zay hk hl
           cases hk2
           rcases hr with ⟨B,v,he⟩|⟨j',B,v,he,hj⟩
           ·cases he
           ·cases he
            rw [hj,hg]
            simp only [b1,b2]
            exact .side hp (.refl _)
         | _=>simp only [hg] at hk;exact (zaa hk hl).elim
 | vs tk n =>
    simp only at h ⊢
    cases h with
    | refl=>cases hl
    | ptrB hb hk=>exact .ptrB hb hk
    | ptrL hi hk =>
      refine .ptrL hi ?_
      rename_i j
      cases hg:lget loc j with
      | none=>simp only [hg] at hk;exact (zaa hk hl).elim
      | some C =>
        cases C with
        | vec e' sz' L =>
          simp only [hg] at hk
          cases b1:Nat.beq e' e with
          | false=>simp only [b1] at hk;exact (zaa hk hl).elim
          | true =>
          simp only [b1] at hk
          cases b2:Nat.beq sz' (sz+1) with
          | false=>simp only [b2] at hk;exact (zaa hk hl).elim
          | true =>
          simp only [b2] at hk
          obtain ⟨hp,hk2⟩:=zay hk hl
          cases hk2
          rcases hr with ⟨B,v,he⟩|⟨j',B,v,he,hj⟩
          ·cases he
          ·cases he
           rw [hj,hg]
           simp only [b1,b2]
           exact .side hp (.refl _)
        | _=>simp only [hg] at hk;exact (zaa hk hl).elim
 | sx n l=>exact h
 | nils=>exact h
 | _=>exact (zaa h hl).elim
theorem step_line [Glob] {base loc loc':Heap} {top bot:RE} {op:Op} {r:SR} (hd:dmOf op=.app) (h:Res n0 base (stepS kn T n0 top bot loc op) r) (hl:leaf r=true) (hr:(∃ B v,r=.blk B v)∨∃ j B v,r=.upd j B v∧lget loc' j=lget loc j):Res n0 base (stepS kn T n0 top bot loc' op) r:=by
 unfold stepS at h
 split at h <;> first
  | (cases hd;done)
  | (split at h
     ·rename_i hb
      unfold stepS
      simp only [hb]
      exact append_line h hl hr
     ·exact (zaa h hl).elim)
  | exact (zaa h hl).elim
theorem dr_R [Glob] (he:Env0 P T kn) {W:List Nat} {st:DM} {base loc0 b1:Heap} {k0 k:Nat} {loc locS:Heap} (hn:base.length=n0) (hn1:b1.length=n0) {all rest:List Oper} {o:Oper} {top bot:RE} {K':Env→Hp→Prop} {K:Nat→RE→Heap→Nat→Heap→Prop}
  (hg:gd all (trE n0 (top++bot)) o=some true) (hS:locS=match st with
    | .pure=>loc0
    | .mk=>loc0
    | .store=>loc
    | .app=>loc) (hst:st=.pure→dmOf o.op=.pure∧rdOk W top bot o.op=true) (hmk:st=.mk→∃ t x y,o.op=.makeSlice t x y) (happ:st=.app→dmOf o.op=.app)
  (h:wpSD W st P n0 base loc0 b1 k loc (fun c v b1 k loc=>putN N.n o.dst v top fun top=>K c top b1 k loc) (stepS kn T n0 top bot locS o.op))
  : ∃ c top' b2 k' loc',b2.length=n0∧K c top' b2 k' loc'∧(c≠3→b1=base∧Tame W loc0 k0 loc k→b2=base∧Tame W loc0 k0 loc' k')∧∀ ks,(4≤c→b1=base∧Tame W loc0 k0 loc k)→DR P N (IW W base k0 loc0) all rest ks (trE n0 (top'++bot)) ⟨b2,k',loc'⟩ K'→DR P N (IW W base k0 loc0) all (o::rest) (c::ks) (trE n0 (top++bot)) ⟨b1,k,loc⟩ K':=by
 obtain ⟨r,h1,h2,h3⟩:=zcf _ h
 have h1':=h1
 rw [← zgh] at h1'
 have hdb:(dBase st base b1).length=n0:=by cases st <;> assumption
 cases r with
 | reg v =>
   simp only [wpSD] at h3
   obtain ⟨d,hd,hb,hk⟩:=zce h3
   have hlf:=zb5 (N:=N) (k:=k) he hdb rfl h1' h2
   exact ⟨_,_,_,_,_,hn1,hk,fun _ h=>h,fun ks _ hdr=>dr_r (fun env' ha hp=>zep ha (hlf hp)) hg hd hdr⟩
 | mem v =>
   simp only [wpSD] at h3
   cases st with
   | store=>exact h3.elim
   | app=>exact h3.elim
   | mk =>
     obtain ⟨t0,x0,y0,hop⟩:=hmk rfl
     simp only at hS
     subst hS
     obtain ⟨d,hd,hb,hk⟩:=zce h3
     exact ⟨_,_,_,_,_,hn1,hk,fun _ h=>h,fun ks _ hdr=>dr_m (fun env' ha hp hI=>by
      obtain ⟨l1,X,hq,rfl⟩:=hI
      exact zgf (zep ha (zb5 (N:=N) (k:=k0) (loc:=l1) he hn rfl (by
       rw [zgh]
       rw [hop] at h1 ⊢
       exact h1) h2 X))) hg hd hdr⟩
   | pure =>
   simp only at hS
   subst hS
   obtain ⟨d,hd,hb,hk⟩:=zce h3
   exact ⟨_,_,_,_,_,hn1,hk,fun _ h=>h,fun ks _ hdr=>dr_m (fun env' ha hp hI=>by
    obtain ⟨l1,X,hq,rfl⟩:=hI
    exact zgf (zep ha (zb5 (N:=N) (k:=k0) (loc:=l1) he hn rfl (by rw [zgh,← stepS_tq hq (hst rfl).1 (hst rfl).2];exact h1) h2 X))) hg hd hdr⟩
 | box t l =>
   simp only [wpSD] at h3
   split at h3
   ·rename_i loc' hl
    obtain ⟨d,hd,hb,hk⟩:=zce h3
    have hlf:=zb5 (N:=N) (k:=k) he hdb rfl h1' h2
    refine ⟨_,_,_,_,_,hn1,hk,fun _ h=>⟨h.1,h.2.snoc hl⟩,fun ks _ hdr=>dr_a (B:=.box t l) (fun env' ha g w a hE=>hlf g w a (zb9 ha hE)) hl hg hd ?_⟩
    rw [hn1];exact hdr
   ·exact h3.elim
 | upd j B v =>
   simp only [wpSD] at h3
   cases st with
   | pure=>exact h3.elim
   | mk=>exact h3.elim
   | app =>
     simp only at hS h3
     subst hS
     cases v with
     | none=>exact h3.elim
     | some v =>
     simp only at h3
     split at h3
     ·exact h3.elim
     ·rename_i hj
      split at h3
      ·rename_i loc' hl
       cases h3W:inW W 3000000 with
       | true =>
         simp only [h3W] at h3
         obtain ⟨d,hd,hb,hk⟩:=zce h3
         obtain ⟨hset,hlt⟩:=zd6 _ _ _ _ hl
         refine ⟨_,_,_,_,_,hn1,hk,fun _ h=>⟨h.1,h.2.set (tokW_spec hj) hl⟩,fun ks ht hdr=>?_⟩
         obtain ⟨hb1,ht2⟩:=ht (by omega)
         subst hb1
         refine dr_f (hp:=⟨b1,k,locS⟩) (q:=j) (n:=0) (X:=(locS.drop j).set 0 B) (fun env' ha L1 hL hI=>?_) (by simp only;omega) (by simp) hg hd (by
          rw [hset,set_split hlt] at hdr
          exact hdr)
         have hlt2:j<(L1++locS.drop j).length:=by simp only [ya5,List.length_drop];omega
         have hge:lget (L1++locS.drop j) j=lget locS j:=by
          rw [za9,za9,yam (by omega),hL,ycr,yc2,yby]
         have hlf:=zb5 (N:=N) (k:=k) (loc:=L1++locS.drop j) he hdb rfl (step_line (by rw [happ rfl]) h1' h2 (.inr ⟨j,B,some v,rfl,hge⟩)) h2
         intro g w a hH hE K Qc kk
         obtain ⟨c,g',w',e1,e2,e3,e4⟩:=hlf ((L1++locS.drop j).set j B) (zdx hlt2) g w a hH (zb9 ha hE)
         refine zb4 e1 (kk g' w' c ?_ e3 e4)
         rw [yb0 _ _ (by omega),hL,ycr] at e2
         exact e2
       | false =>
       simp only [h3W] at h3
       obtain ⟨d,hd,hb,hk⟩:=zce h3
       have hlf:=zb5 (N:=N) (k:=k) he hdb rfl h1' h2
       refine ⟨_,_,_,_,_,hn1,hk,fun _ h=>⟨h.1,h.2.set (tokW_spec hj) hl⟩,fun ks ht hdr=>?_⟩
       obtain ⟨hb1,ht2⟩:=ht (yax _)
       subst hb1
       exact dr_x (hp':=⟨b1,k,loc'⟩) (fun env' ha=>zep ha (hlf loc' hl)) (ht2.set (tokW_spec hj) hl).iw hg hd hdr
      ·exact h3.elim
   | store =>
   simp only at hS h3
   subst hS
   cases v with
   | some v=>exact h3.elim
   | none =>
   simp only at h3
   split at h3
   ·rename_i loc' hl
    have hlf:=zb5 (N:=N) (k:=k) he hdb rfl h1' h2
    cases hw:inW W j with
    | false =>
      simp only [hw] at h3
      obtain ⟨hd,hk⟩:=putN_none h3
      exact ⟨_,_,_,_,_,hn1,hk,fun h=>absurd rfl h,fun ks _ hdr=>dr_w (hp':=⟨b1,k,loc'⟩) (fun env' ha g w a hH hE=>hlf loc' hl g w a hH (zb9 ha hE)) hg hd hdr⟩
    | true =>
      simp only [hw] at h3
      obtain ⟨hd,hk⟩:=putN_none h3
      have hnw:inW W j=false→tokAt locS j B=true:=fun e=>by rw [hw] at e;cases e
      refine ⟨_,_,_,_,_,hn1,hk,fun _ h=>⟨h.1,h.2.set hnw hl⟩,fun ks ht hdr=>?_⟩
      obtain ⟨hb1,ht2⟩:=ht (yax _)
      subst hb1
      exact dr_wt (hp':=⟨b1,k,loc'⟩) (fun env' ha g w a hH hE=>hlf loc' hl g w a hH (zb9 ha hE)) (ht2.set hnw hl).iw hg hd hdr
   ·exact h3.elim
 | updB i B v =>
   simp only [wpSD] at h3
   cases st with
   | pure=>exact h3.elim
   | mk=>exact h3.elim
   | store =>
     simp only at hS h3
     subst hS
     cases v with
     | some v=>exact h3.elim
     | none =>
     obtain ⟨b2,hset,h3⟩:=h3
     subst hset
     obtain ⟨hd,hk⟩:=putN_none h3
     have hlf:=zb5 (N:=N) (k:=k) he hdb rfl h1' h2
     exact ⟨_,_,_,_,_,by simpa using hn1,hk,fun h=>absurd rfl h,fun ks _ hdr=>dr_w (hp':=⟨b1.set i B,k,locS⟩) (fun env' ha g w a hH hE=>hlf g w a hH (zb9 ha hE)) hg hd hdr⟩
   | app =>
     simp only at hS h3
     subst hS
     cases v with
     | none=>exact h3.elim
     | some v =>
     obtain ⟨b2,hset,h3⟩:=h3
     subst hset
     obtain ⟨d,hd,hb,hk⟩:=zce h3
     have hlf:=zb5 (N:=N) (k:=k) he hdb rfl h1' h2
     refine ⟨_,_,_,_,_,by simpa using hn1,hk,fun h=>absurd rfl h,fun ks _ hdr=>dr_g (hp':=⟨b1.set i B,k,locS⟩) (fun env' ha g w a hH hE K Qc kk=>?_) hg hd hdr⟩
     obtain ⟨c,g',w',e1,e2,e3,e4⟩:=hlf g w a hH (zb9 ha hE)
     exact zb4 e1 (kk g' w' c e2 e3 e4)
 | blk B v =>
   simp only [wpSD] at h3
   cases st with
   | pure=>exact h3.elim
   | store=>exact h3.elim
   | mk =>
     obtain ⟨t0,x0,y0,hop⟩:=hmk rfl
     simp only at hS h3
     subst hS
     split at h3
     ·rename_i bt bl
      split at h3
      ·rename_i loc' hl
       obtain ⟨d,hd,hb,hk⟩:=zce h3
       rw [hop] at h1'
       obtain ⟨n,hA,hv⟩:=leaf_makeV (N:=N) he.T hop h1'
       subst hv
       refine ⟨_,_,_,_,_,hn1,hk,fun _ h=>⟨h.1,h.2.snoc hl⟩,fun ks _ hdr=>dr_av (B:=.box bt bl) (vf:=fun i=>.ms i 0 n) (fun env' ha g w a hE=>hA g w a (zb9 (by rw [hop] at ha;exact ha) hE)) hl hg hd ?_⟩
       rw [hn1]
       exact hdr
      ·exact h3.elim
     ·exact h3.elim
   | app =>
   simp only at hS h3
   subst hS
   split at h3
   ·rename_i loc' hl
    cases h3W:inW W 3000000 with
    | true =>
      simp only [h3W] at h3
      obtain ⟨d,hd,hb,hk⟩:=zce h3
      refine ⟨_,_,_,_,_,hn1,hk,fun _ h=>⟨h.1,h.2.snoc hl⟩,fun ks ht hdr=>?_⟩
      obtain ⟨hb1,ht2⟩:=ht (by omega)
      subst hb1
      refine dr_f (hp:=⟨b1,k,locS⟩) (q:=locS.length) (n:=1) (X:=[B]) (fun env' ha L1 hL hI=>?_) (yax _) (by simp) hg hd (by
       rw [zcx _ _ _ hl] at hdr
       rw [ya2]
       exact hdr)
      simp only [List.drop_length,yat]
      have hlf:=zb5 (N:=N) (k:=k) (loc:=L1) he hdb rfl (step_line (by rw [happ rfl]) h1' h2 (.inl ⟨B,_,rfl⟩)) h2
      intro g w a hH hE K Qc kk
      obtain ⟨c,g',w',e1,e2,e3,e4⟩:=hlf g w a hH (zb9 ha hE)
      exact zb4 e1 (kk g' w' c e2 e3 e4)
    | false =>
    simp only [h3W] at h3
    obtain ⟨d,hd,hb,hk⟩:=zce h3
    have hlf:=zb5 (N:=N) (k:=k) he hdb rfl h1' h2
    refine ⟨_,_,_,_,_,hn1,hk,fun _ h=>⟨h.1,h.2.snoc hl⟩,fun ks ht hdr=>?_⟩
    obtain ⟨hb1,ht2⟩:=ht (yax _)
    subst hb1
    refine dr_x (hp':=⟨b1,k+1,loc'⟩) (fun env' ha=>?_) ?_ hg hd hdr
    ·rw [zcx _ _ _ hl]
     exact zep ha hlf
    ·exact (ht2.snoc hl).iw
   ·exact h3.elim
 | anyU j S=>exact h3.elim
 | blkU S v=>exact h3.elim
 | anyV S=>exact h3.elim
 | call fn as =>
   simp only [wpSD] at h3
   cases st with
   | store=>exact h3.elim
   | app=>exact h3.elim
   | mk=>exact h3.elim
   | pure =>
   have hlf:=zb5 (N:=N) (k:=k) he hdb rfl h1' h2
   obtain ⟨f,xs,ts,fs,cs,ws,ho,hf,has,hw⟩:=hlf
   cases h3 with
   | det v hc hk =>
     obtain ⟨d,hd,hb,hk⟩:=zce hk
     refine ⟨_,_,_,_,_,hn1,hk,fun _ h=>h,fun ks _ hdr=>dr_m (fun env' ha hp hI=>?_) hg hd hdr⟩
     obtain ⟨l1,X,hq,rfl⟩:=hI
     intro g w a hH hE K Qc kk
     have hE':=zb9 ha hE
     have hall:(⟨base,k0+X.length,l1++X⟩:Hp).all=base++l1++X:=by simp [Hp.all]
     have hof:=hH.of
     rw [hall] at hof
     refine call_wp ho hf (hw g w a hE') has (hc l1 hq X) hof hE' ?_
     rintro r H' g' w' c ⟨rfl,rfl⟩ hH' hv hx'
     exact kk g' w' c (hH'.see (hp:=⟨base,k0,l1⟩) ⟨hall,hH.k⟩) hv hx'
   | fix v b2 loc2 k2 hc hb2 hk2 hk =>
     obtain ⟨d,hd,hb,hk⟩:=zce hk
     refine ⟨_,_,_,_,_,hb2,hk,fun h=>absurd rfl h,fun ks _ hdr=>dr_g (hp':=⟨b2,k2,loc2⟩) (fun env' ha=>?_) hg hd hdr⟩
     intro g w a hH hE K Qc kk
     have hE':=zb9 ha hE
     refine call_wp ho hf (hw g w a hE') has hc hH.of hE' ?_
     rintro r H' g' w' c ⟨rfl,rfl⟩ hH' hv hx'
     exact kk g' w' c (hH'.see (hp:=⟨b1,k,loc⟩) ⟨rfl,hk2⟩) hv hx'
   | app v X loc2 x hc hb2 hl2 hx2 hk =>
     obtain ⟨d,hd,hb,hk⟩:=zce hk
     subst hl2 hx2
     have htk:Tame W loc0 k0 loc k→Tame W loc0 k0 (loc++X) (k+X.length):=by
      rintro ⟨l1,Y,hq,rfl,rfl⟩
      exact ⟨l1,Y++X,hq,by rw [ybe],by simp [ydf]⟩
     refine ⟨_,_,_,_,_,hb2,hk,fun _ h=>⟨h.1,htk h.2⟩,fun ks ht hdr=>?_⟩
     obtain ⟨hb1,ht2⟩:=ht (yax _)
     subst hb1
     refine dr_gt (hp':=⟨b1,k+X.length,loc++X⟩) (fun env' ha=>?_) (htk ht2).iw hg hd hdr
     intro g w a hH hE K Qc kk
     have hE':=zb9 ha hE
     have hlk:=hH.k
     refine call_wp ho hf (hw g w a hE') has hc hH.of hE' ?_
     rintro r H' g' w' c ⟨rfl,rfl⟩ hH' hv hx'
     exact kk g' w' c (hH'.see (hp:=⟨b1,k,loc⟩) ⟨rfl,by simp only [ya5];simp only at hlk;omega⟩) hv hx'
   | free v X loc2 x hc hb2 hl2 hx2 hk =>
     obtain ⟨d,hd,hb,hk⟩:=zce hk
     subst hl2 hx2
     have htk:Tame W loc0 k0 loc k→Tame W loc0 k0 (loc++X) (k+X.length):=by
      rintro ⟨l1,Y,hq,rfl,rfl⟩
      exact ⟨l1,Y++X,hq,by rw [ybe],by simp [ydf]⟩
     refine ⟨_,_,_,_,_,hb2,hk,fun _ h=>⟨h.1,htk h.2⟩,fun ks ht hdr=>?_⟩
     obtain ⟨hb1,ht2⟩:=ht (by omega)
     subst hb1
     refine dr_fapp (hp:=⟨b1,k,loc⟩) (X:=X) (fun env' ha hp1 hI hk1 hlen=>?_) hg hd hdr
     obtain ⟨l1,Z,hq,rfl⟩:=hI
     simp only at hlen
     intro g w a hH hE K Qc kk
     have hE':=zb9 ha hE
     have hall:(⟨b1,k0+Z.length,l1++Z⟩:Hp).all=b1++l1++Z:=by simp [Hp.all]
     have hof:=hH.of
     rw [hall] at hof
     have hlk:=hH.k
     refine call_wp ho hf (hw g w a hE') has (hc l1 hq Z hlen) hof hE' ?_
     rintro r H' g' w' c ⟨rfl,rfl⟩ hH' hv hx'
     refine kk g' w' c ?_ hv hx'
     have:=hH'.part3 (b:=b1) (l:=(l1++Z)++X) (by simp [Hp.of,Hp.all])
     have e:((l1++Z)++X).length=k0+Z.length+X.length:=by rw [ya5];simp only at hlk;omega
     rw [e] at this
     exact this
   | setW j B v loc2 hj hs hc hb2 hk =>
     obtain ⟨d,hd,hb,hk⟩:=zce hk
     have htk:Tame W loc0 k0 loc k→Tame W loc0 k0 loc2 k:=fun h=>h.set (fun e=>by rw [hj] at e;cases e) hs
     have hl2:loc2.length=loc.length:=by rw [(zd6 _ _ _ _ hs).1,List.length_set]
     refine ⟨_,_,_,_,_,hb2,hk,fun _ h=>⟨h.1,htk h.2⟩,fun ks ht hdr=>?_⟩
     obtain ⟨hb1,ht2⟩:=ht (yax _)
     subst hb1
     refine dr_gt (hp':=⟨b1,k,loc2⟩) (fun env' ha=>?_) (htk ht2).iw hg hd hdr
     intro g w a hH hE K Qc kk
     have hE':=zb9 ha hE
     have hlk:loc.length=k:=hH.k
     refine call_wp ho hf (hw g w a hE') has hc hH.of hE' ?_
     rintro r H' g' w' c ⟨rfl,rfl⟩ hH' hv hx'
     exact kk g' w' c (hH'.see (hp:=⟨b1,k,loc⟩) ⟨rfl,by show loc2.length=k;omega⟩) hv hx'
 | fail=>cases h2
 | side _ _=>cases h2
 | ptr _ _ _=>cases h2
 | seg _ _ _=>cases h2
 | ofs _ _ _=>cases h2
 | eqv _ _=>cases h2
 | sub _ _ _ _=>cases h2
 | nat _ _=>cases h2
 | byte _ _ _=>cases h2
 | or _ _=>cases h2
 | rel _ _=>cases h2
def KD (n0:Nat) (bot:RE) (K:RE→Heap→Nat→Heap→Prop):Env→Hp→Prop:=fun env hp=>∃ top b1 k loc,Apx n0 env (top++bot)∧hp=⟨b1,k,loc⟩∧b1.length=n0∧K top b1 k loc
theorem KD.congr {bot:RE} {K:RE→Heap→Nat→Heap→Prop} (e1 e2:Env) (hp:Hp) (h:∀ s,get e1 s=get e2 s) (hk:KD n0 bot K e1 hp):KD n0 bot K e2 hp:=by
 obtain ⟨top,b1,k,loc,h1,h2,h3,h4⟩:=hk
 exact ⟨top,b1,k,loc,fun s=>by rw [← h];exact h1 s,h2,h3,h4⟩
theorem pick_agree [Glob] {env env':Env} {o:Oper} {c x y:Operand} {b:Bool} {hp:Hp} (ho:o.op=.pick c x y) (ha:Agree (opTs o.op) env env') (hc:ev env c=.bool b):Step P N hp env' o (ev env (if b then x else y)) hp:=by
 have e1:ev env' c=ev env c:=ev_agree_op ha (by rw [ho];simp [Op.operands])
 have e2:ev env' (if b then x else y)=ev env (if b then x else y):=ev_agree_op ha (by rw [ho];cases b <;> simp [Op.operands])
 rw [← e2]
 exact pick_step ho (by rw [e1];exact hc)
theorem dm_mk {op:Op} (h:dmOf op=.mk):∃ t x y,op=.makeSlice t x y:=by
 unfold dmOf at h
 split at h
 all_goals first
  | exact ⟨_,_,_,rfl⟩
  | cases h
theorem zfg [Glob] (he:Env0 P T kn) {W:List Nat} {bot:RE} {all:List Oper} {base loc0:Heap} {k0:Nat} (hn:base.length=n0) {K:RE→Heap→Nat→Heap→Prop} :
  ∀ (rest:List Oper) (ks:List Nat) (top:RE) (b1:Heap) (k:Nat) (loc:Heap),b1.length=n0→(3 ∉ ks→b1=base∧Tame W loc0 k0 loc k)→wpD W P kn T N n0 bot all base loc0 rest K ks top b1 k loc →
   ∃ ks',(zev loc0.length all (closOf all) (ks.reverse++ks')&&dstOk N.n all)=true∧DR P N (IW W base k0 loc0) all rest ks' (trE n0 (top++bot)) ⟨b1,k,loc⟩ (KD n0 bot K)
 | [],ks,top,b1,k,loc,hn1,_,h=>⟨[],by rw [yat];exact h.side,dr_nil ⟨top,b1,k,loc,Apx.refl _ _,rfl,hn1,h.rest⟩⟩
 | o::rest,ks,top,b1,k,loc,hn1,htm,h=>by
   have ih:=zfg he (W:=W) (bot:=bot) (all:=all) (loc0:=loc0) (k0:=k0) (K:=K) hn rest
   have h:guardN bot all o top
    (opD W P kn T N n0 bot o base loc0 b1 k loc (fun c top b1 k loc=>wpD W P kn T N n0 bot all base loc0 rest K (c::ks) top b1 k loc))
    (fun top=>skipN N.n o.dst top fun top=>wpD W P kn T N n0 bot all base loc0 rest K (0::ks) top b1 k loc):=h
   obtain ⟨top',he',h1⟩:=guard_cases (n0:=n0) h
   suffices hs:∃ ks',(zev loc0.length all (closOf all) (ks.reverse++ks')&&dstOk N.n all)=true∧DR P N (IW W base k0 loc0) all (o::rest) ks' (trE n0 (top'++bot)) ⟨b1,k,loc⟩ (KD n0 bot K) by
    obtain ⟨ks',e1,e2⟩:=hs
    exact ⟨ks',e1,dr_congr KD.congr (fun s=>(he' s).symm) e2⟩
   have hks:∀ (c:Nat) (ks':List Nat),(c::ks).reverse++ks'=ks.reverse++(c::ks'):=by simp
   rcases h1 with ⟨hg,hx⟩|⟨hg,hx⟩
   ·have fin:∀ (st:DM) (locS:Heap),(locS=match st with
      | .pure=>loc0
      | .mk=>loc0
      | .store=>loc
      | .app=>loc)→(st=.pure→dmOf o.op=.pure∧rdOk W top' bot o.op=true)→(st=.mk→∃ t x y,o.op=.makeSlice t x y)→(st=.app→dmOf o.op=.app)→wpSD W st P n0 base loc0 b1 k loc (fun c v b1 k loc=>putN N.n o.dst v top' fun top=>wpD W P kn T N n0 bot all base loc0 rest K (c::ks) top b1 k loc) (stepS kn T n0 top' bot locS o.op) →
      ∃ ks',(zev loc0.length all (closOf all) (ks.reverse++ks')&&dstOk N.n all)=true∧DR P N (IW W base k0 loc0) all (o::rest) ks' (trE n0 (top'++bot)) ⟨b1,k,loc⟩ (KD n0 bot K):=by
      intro st locS hS hst hmk happ hw
      obtain ⟨c,top2,b2,k2,loc2,hb2,hk,htm2,hdr⟩:=dr_R (k0:=k0) (rest:=rest) (K':=KD n0 bot K) he hn hn1 hg hS hst hmk happ hw
      obtain ⟨ks',e1,e2⟩:=ih _ _ _ _ _ hb2 (fun h3=>by
       rw [yay,not_or] at h3
       exact htm2 (fun e=>h3.1 e.symm) (htm h3.2)) hk
      rw [hks] at e1
      refine ⟨c::ks',e1,hdr ks' (fun hc=>htm fun h3=>?_) e2⟩
      rw [yak] at e1
      exact drawOk_tame hc e1.1 (List.mem_reverse.2 h3)
    unfold opD at hx
    split at hx
    ·rename_i hfg
     obtain ⟨t,ti,z,ho,ht,hz⟩:=fgtA_spec hfg
     obtain ⟨d,hd,hb,hk⟩:=zce hx
     obtain ⟨ks',e1,e2⟩:=ih _ _ _ _ _ hn1 (fun h3=>htm (fun h=>h3 (ya4 _ h))) hk
     exact ⟨0::ks',by rw [← hks];exact e1,dr_r (v:=.junk) (fun env' ha hp=>st_fgt he.T ho ht hz) hg hd e2⟩
    ·rename_i hfg
     split at hx
     ·rename_i c x y ho
      obtain ⟨b,hc,hp⟩:=pick_cases hx
      obtain ⟨d,v,hd,hv,hb,hk⟩:=putS_some hp
      obtain ⟨ks',e1,e2⟩:=ih _ _ _ _ _ hn1 (fun h3=>htm (fun h=>h3 (ya4 _ h))) hk
      refine ⟨0::ks',by rw [← hks];exact e1,dr_r (v:=tr n0 v) (fun env' ha hp=>?_) hg hd e2⟩
      have:=pick_agree (P:=P) (N:=N) (hp:=hp) ho ha hc
      rwa [zb1 hv] at this
     ·split at hx
      ·exact fin .store _ rfl (fun e=>by cases e) (fun e=>by cases e) (fun e=>by cases e) hx
      ·rename_i heq
       exact fin .app _ rfl (fun e=>by cases e) (fun e=>by cases e) (fun _=>heq) hx
      ·rename_i heq
       exact fin .mk _ rfl (fun e=>by cases e) (fun _=>dm_mk heq) (fun e=>by cases e) hx
      ·rename_i heq
       split at hx
       ·rename_i hrd
        exact fin .pure _ rfl (fun _=>⟨heq,hrd⟩) (fun e=>by cases e) (fun e=>by cases e) hx
       ·exact hx.elim
   ·unfold skipN at hx
    split at hx
    ·rename_i d hd
     split at hx
     ·rename_i hb
      obtain ⟨ks',e1,e2⟩:=ih _ _ _ _ _ hn1 (fun h3=>htm (fun h=>h3 (ya4 _ h))) hx
      exact ⟨0::ks',by rw [← hks];exact e1,dr_skipped hg hd e2⟩
     ·exact hx.elim
    ·rename_i hd
     obtain ⟨ks',e1,e2⟩:=ih _ _ _ _ _ hn1 (fun h3=>htm (fun h=>h3 (ya4 _ h))) hx
     refine ⟨0::ks',by rw [← hks];exact e1,?_⟩
     refine zed (v:=.tup []) (k:=.r) (hp':=⟨b1,k,loc⟩) rfl ?_ (by rw [push_none hd];exact e2)
     unfold FOp
     simp only [hg]
     exact ⟨⟨trivial,trivial⟩,trivial⟩
end
end
section
inductive OwnB (n0:Nat) (base loc:Heap) (i:Nat) (B B':Blk):Heap→Heap→Prop where
 | loc (j:Nat) {loc':Heap} (h:i=n0+j) (h1:lget loc j=some B) (h2:lset loc j B'=some loc'):OwnB n0 base loc i B B' base loc'
 | base (h:base[i]? = some B):OwnB n0 base loc i B B' (base.set i B') loc
theorem OwnB.at_ {n0:Nat} {base loc base' loc':Heap} {i k:Nat} {B B':Blk} (hn:base.length=n0) (h:OwnB n0 base loc i B B' base' loc'):At ⟨base,k,loc⟩ i B∧Put ⟨base,k,loc⟩ i B' ⟨base',k,loc'⟩∧base'.length=n0:=by
 cases h with
 | loc j h h1 h2 =>
   subst h hn
   exact ⟨zci h1,zc8 h2,rfl⟩
 | base h=>exact ⟨zdg h,zd1 h,by simpa using hn⟩
def zff (o:Oper) (i:Nat):Bool:=o.after.toList.any fun e=>Region.binds .any e&&e.on==i
theorem zbj {o:Oper} {i:Nat} (h:zff o i=true):∃ e∈o.after.toList,Region.binds .any e=true∧e.on=i:=by
 unfold zff at h
 rw [yc0] at h
 obtain ⟨e,he,h⟩:=h
 rw [yak,beq_iff_eq] at h
 exact ⟨e,he,h.1,h.2⟩
def tlChk (all:List Oper) (m:Nat) (o5 o6 o7 o8:Oper):Bool:=zf6 all&&((List.range m).all fun i=>zff o5 i)&&(zff o6 m&&zff o7 (m+1)&&zff o8 m)
def opNe (x y:Operand):Bool:=match x with
 | .tmp t=>match y with
   | .tmp u=>!Nat.beq t u
   | _=>true
 | _=>true
theorem zet {x:Operand} {t:Nat} (h:opNe x (.tmp t)=true):x≠.tmp t:=by
 rintro rfl
 simp [opNe] at h
inductive ApE [Glob] (P:Program) (T:TypeId→Option TI) (N:FN) (n0:Nat) (all:List Oper) (m:Nat) (bot top:RE) (base:Heap) (k:Nat) (loc:Heap) (K:RE→Heap→Nat→Heap→Prop):Prop where
 | mk {o5 o6 o7 o8:Oper} {t et st e:TypeId} {x y i v p:Operand} {d5 d6:Nat} {ti ei eti sti:TI} {z:List AV} {tk n sz j oj:Nat} {u:TypeId} {ki:IntKind} {ni:Int} {l l2 vs bl bl':List AV} {pv:RG} {base1 loc1 base2 loc2:Heap}
   (hall:all.drop m=[o5,o6,o7,o8])
   (ho5:o5.op=.call { callee:=.builtin .append,args:=#[x,y],argTypes:=#[t,t] }) (hd5:o5.dst=some d5) (ho6:o6.op=.indexAddr t (.tmp d5) i) (hd6:o6.dst=some d6) (ho7:o7.op=.store et (.tmp d6) v) (hd7:o7.dst=none) (ho8:o8.op=.store st p (.tmp d5)) (hd8:o8.dst=none)
   (g5:o5.guard=none) (g6:o6.guard=none) (g7:o7.guard=none) (g8:o8.guard=none)
   (hchk:(tlChk all m o5 o6 o7 o8&&(Nat.blt d5 N.n&&Nat.blt d6 N.n&&!Nat.beq d5 d6)&&(opNe i (.tmp d5)&&opNe v (.tmp d5)&&opNe v (.tmp d6)&&opNe p (.tmp d5)&&opNe p (.tmp d6)))=true)
   (ht:T t=some ti) (hk:ti.kind=.sl e) (he:T e=some ei) (hez:ei.zero=some z) (hesz:ei.sz=sz+1) (hzl:z.length=ei.sz) (het:T et=some eti) (hets:eti.sz=sz+1) (hst:T st=some sti) (hsts:sti.sz=1)
   (hx:evR top bot x=some (.v (.sl (some tk) n l))) (hy:slOf (av n0 top bot y)=some (1,l2)) (h1:zcd l2=true) (hl2:l2.length=sz+1) (hi:evR top bot i=some (.v (.int ki ni))) (hni:ni=(n:Int))
   (hvc:(av n0 top bot v).cells=vs) (hv1:zcd vs=true) (hvl:vs.length=sz+1) (hpv:evR top bot p=some pv) (hpp:tr n0 pv=.ptr j oj) (hjk:j≠tk)
   (hset:setC bl oj [.sl (some tk) (n+1) (l++vs)]=some bl')
   (hown:OwnB n0 base loc tk (.tok e (sz+1) l.length) (.tok e (sz+1) (l.length+(sz+1))) base1 loc1) (hown2:OwnB n0 base1 loc1 j (.box u bl) (.box u bl') base2 loc2)
   (hbytes:(n+1) * ei.bytes≤140737488355328) (hmax:n+1≤maxLen)
   (a:K ((d6,.v .junk)::(d5,.v (.sl (some tk) (n+1) (l++vs)))::top) base2 k loc2):ApE P T N n0 all m bot top base k loc K
section
variable {P:Program} {N:FN} {n0:Nat} {T:TypeId→Option TI} {kn:TypeId→Nat}
theorem av_ev' [Glob] {top bot:RE} {x:Operand} (h:av n0 top bot x≠.junk):ev (trE n0 (top++bot)) x=av n0 top bot x:=av_ev rfl h
theorem vw_ap [Glob] (he0:Env0 P T kn) (hm:P.follows .mixedOrders=true) {id m:Nat} {ops:List Oper} {W:List Nat} {bot top:RE} {base:Heap} {k:Nat} {loc:Heap} (hn:base.length=n0) {Q:Exit→Env→Hp→Prop} {K:RE→Heap→Nat→Heap→Prop}
  (hK:∀ top b1 k loc,b1.length=n0→K top b1 k loc→Q .normal (trE n0 (top++bot)) ⟨b1,k,loc⟩)
  (h:wpD W P kn T N n0 bot ops base loc (ops.take m) (fun top b1 k loc=>ApE P T N n0 ops m bot top b1 k loc K) [] top base k loc) :
  VW P N (.region id ops.toArray true) Q (trE n0 (top++bot)) ⟨base,k,loc⟩:=by
 obtain ⟨ks,h1,h2⟩:=zfg (N:=N) (k0:=k) (W:=W) he0 hn (ops.take m) [] top base k loc hn (fun _=>⟨rfl,Tame.refl _ _ _⟩) h
 simp only [List.reverse_nil,ydg,yak] at h1
 intro g w a hH hE
 refine wpIn_region_any hm ?_
 -- the tail's operations
 have hA:∃ top b1 k' loc',ApE P T N n0 ops m bot top b1 k' loc' K:=by
  obtain ⟨ds,-,-,h3⟩:=h2
  obtain ⟨hs,-,-,h4⟩:=h3.at_
  obtain ⟨top,b1,k',loc',-,-,-,h5⟩:=h4
  exact ⟨top,b1,k',loc',h5⟩
 obtain ⟨topA,bA,kA,locA,hA⟩:=hA
 obtain ⟨o5,o6,o7,o8,hall,hchk⟩:∃ o5 o6 o7 o8,ops.drop m=[o5,o6,o7,o8]∧tlChk ops m o5 o6 o7 o8=true:=by
  cases hA with
  | mk hall ho5 hd5 ho6 hd6 ho7 hd7 ho8 hd8 g5 g6 g7 g8 hchk =>
    simp only [yak] at hchk
    exact ⟨_,_,_,_,hall,hchk.1.1⟩
 have hsplit:ops.take m++[o5,o6,o7,o8]=ops:=by rw [← hall];exact yck m ops
 have hml:(ops.take m).length=m:=by
  have:=congrArg List.length hall
  simp at this
  simp
  omega
 unfold tlChk at hchk
 simp only [yak,yao,ybo] at hchk
 obtain ⟨⟨c1,c2⟩,⟨c3,c4⟩,c5⟩:=hchk
 have hback:∀ j oj,ops[j]? = some oj→∀ e∈oj.after.toList,Region.binds .any e=true→e.on<j:=by
  intro j oj hj e he hb
  unfold zf6 at c1
  simp only [yao,ybo] at c1
  have:=c1 j (yac.1 hj).1
  simp only [hj,yao] at this
  simpa [hb] using this e he
 have hO:TlOk (ops.take m).length o6 o7 o8 (ops.take m++[o5,o6,o7,o8]):=by
  rw [hsplit,hml]
  exact ⟨hback,zbj c3,zbj c4,zbj c5⟩
 have key:=zhi (l:=ops.take m) (tl:=[o5,o6,o7,o8]) (Qc:=Lift N Q g w a.defers) (I:=IW W base k loc) (k:=k) (fun X=>⟨loc,X,Tq.refl _,rfl⟩) (closOf ops) ks (by rw [hsplit];exact h1.1) (by rw [hsplit];exact h1.2) (fun j oj hj ho=>by
  rw [hsplit] at ho
  rw [hml] at hj ⊢
  have hlen:ops.length=m+4:=by
   have:=congrArg List.length hsplit
   rw [ya5,hml] at this
   simp at this
   omega
  have hlt:=(yac.1 ho).1
  have ho':(ops.take m++[o5,o6,o7,o8])[j]? = some oj:=by rw [hsplit];exact ho
  rw [yam (by omega),hml] at ho'
  have hj4:j=m∨j=m+1∨j=m+2∨j=m+3:=by omega
  rcases hj4 with rfl|rfl|rfl|rfl
  ·rw [ycr] at ho'
   simp at ho'
   subst ho'
   left
   intro i hi
   exact zbj (c2 i hi)
  ·rw [ybk] at ho'
   simp at ho'
   subst ho'
   right
   obtain ⟨e,e1,e2,e3⟩:=zbj c3
   exact ⟨e,e1,e2,by omega⟩
  ·rw [ybk] at ho'
   simp at ho'
   subst ho'
   right
   obtain ⟨e,e1,e2,e3⟩:=zbj c4
   exact ⟨e,e1,e2,by omega⟩
  ·rw [ybk] at ho'
   simp at ho'
   subst ho'
   right
   obtain ⟨e,e1,e2,e3⟩:=zbj c5
   exact ⟨e,e1,e2,by omega⟩) (K:=KD n0 bot fun top b1 k loc=>ApE P T N n0 ops m bot top b1 k loc K) (by rw [hsplit];exact h2) hH hE (fun env' hp' g' w' a' fuel listed hKD q1 q2 q3 q4 hH' hE' hx' hd'=>by
  obtain ⟨top',b1,k1,loc1,hap,rfl,hb1,hA'⟩:=hKD
  have hE2:ERel N g' w' (trE n0 (top'++bot)) a':=⟨hE'.1,fun s=>hap s _ _ _ (hE'.rel s),hE'.ro,hE'.glob⟩
  cases hA' with
  | mk hall' ho5 hd5 ho6 hd6 ho7 hd7 ho8 hd8 g5 g6 g7 g8 hchk ht hk he hez hesz hzl het hets hst hsts hx hy hl1 hl2 hi hni hvc hv1 hvl hpv hpp hjk hset hown hown2 hbytes hmax ak =>
    rw [hall] at hall'
    simp only [List.cons.injEq,and_true] at hall'
    obtain ⟨rfl,rfl,rfl,rfl⟩:=hall'
    subst hni
    simp only [yak] at hchk
    obtain ⟨⟨-,⟨r1,r2⟩,r3⟩,⟨⟨⟨r4,r5⟩,r6⟩,r7⟩,r8⟩:=hchk
    obtain ⟨s1,s2,s3⟩:=hown.at_ (k:=k1) hb1
    obtain ⟨t1,t2,t3⟩:=hown2.at_ (k:=k1) s3
    have hjt:=t1
    unfold At at hjt
    rw [s2.all,yaw,if_neg (ycq hjk)] at hjt
    refine ap_fin he0.T ho5 hd5 ho6 hd6 ho7 hd7 ho8 hd8 g5 g6 g7 g8 r1 r2 (by intro e;rw [e] at r3;simp at r3) (zet r4) (zet r5) (zet r6) (zet r7) (zet r8) hO ht hk he hez hesz hzl het hets hst hsts s1 s2 (zb1 hx) ?_ hl1 hl2 (zb1 hi) ?_ hv1 hvl ((zb1 hpv).trans hpp) hjk hjt hset t2 hbytes hmax hH' hE2 q1 q2 q3 q4 ?_
    ·rw [av_ev' (fun eq=>by rw [eq] at hy;cases hy)];exact hy
    ·rw [av_ev' (fun eq=>by
       rw [eq] at hvc
       subst hvc
       simp [AV.cells,zcd,AV.one] at hv1)]
     exact hvc
    ·intro g2 w2 a2 hH2 hE3 hx2 hd2
     exact ⟨_,_,g2,hK _ _ _ _ t3 ak,hH2,hE3,hx'.trans hx2,DRel.of_eq (hd2.trans hd')⟩)
 rw [hsplit] at key
 simpa using key
end
end
section
theorem zfv [Glob] {N:FN} {g:G} {w:World} {env env':Env} {a:Act} (h:ERel N g w env a) (hh:∀ s,get env' s=get env s∨get env' s=.junk):ERel N g w env' a :=
 ⟨h.1,fun s=>by
  rcases hh s with e|e
  ·rw [e];exact h.2 s
  ·rw [e];simp [VRel],h.3,h.4⟩
def envO (d2 d3 d4 d5:Nat) (v0 v1 J:AV) (s2 s3 s4 s5:Bool) (env:Env):Env :=
 (d2,bif s2 then v0 else .junk)::(d3,bif s3 then v1 else .junk)::(d4,bif s4 then .tup [v0,J] else .junk)::(d5,bif s5 then J else .junk)::env
theorem zdp (d:Nat) (v:AV) (env:Env) (s:Nat):get ((d,v)::env) s=if d=s then v else get env s:=by
 by_cases h:d=s
 ·subst h;rw [zb3,if_pos rfl]
 ·rw [zch _ _ h,if_neg h]
theorem zcm (d2 d3 d4 d5:Nat) (v0 v1 J:AV) (s2 s3 s4 s5:Bool) (env:Env) (s:Nat):get (envO d2 d3 d4 d5 v0 v1 J s2 s3 s4 s5 env) s =
  if d2=s then (bif s2 then v0 else .junk) else if d3=s then (bif s3 then v1 else .junk) else if d4=s then (bif s4 then .tup [v0,J] else .junk) else if d5=s then (bif s5 then J else .junk) else get env s:=by
 unfold envO
 rw [zdp,zdp,zdp,zdp]
def sOf (m:Nat) (s2 s3 s4 s5:Bool) (j:Nat):Bool:=if j<m then true else if j=m then s2 else if j=m+1 then s3 else if j=m+2 then s4 else if j=m+3 then s5 else false
structure MoOk (all:List Oper) (m:Nat) (o2 o3 o4 o5 o6:Oper) (t t6:TypeId) (x y:Operand) (d2 d3 d4 d5:Nat):Prop where
 len:all.length=m+5
 i2:all[m]? = some o2
 i3:all[m+1]? = some o3
 i4:all[m+2]? = some o4
 i5:all[m+3]? = some o5
 i6:all[m+4]? = some o6
 g2:o2.guard=none
 g3:o3.guard=none
 g4:o4.guard=none
 g5:o5.guard=none
 g6:o6.guard=none
 p2:o2.op=.lookup t x y false
 p4:o4.op=.mapEntry t x y
 p6:o6.op=.entryStore t6 x (.tmp d5) (.tmp d3)
 q2:o2.dst=some d2
 q3:o3.dst=some d3
 q4:o4.dst=some d4
 q5:o5.dst=some d5
 q6:o6.dst=none
 back:∀ j oj,all[j]? = some oj→∀ e∈oj.after.toList,Region.binds .any e=true→e.on<j
 e3:∃ e∈o3.after.toList,Region.binds .any e=true∧e.on=m
 e5:∃ e∈o5.after.toList,Region.binds .any e=true∧e.on=m+2
 e6a:∃ e∈o6.after.toList,Region.binds .any e=true∧e.on=m+1
 e6b:∃ e∈o6.after.toList,Region.binds .any e=true∧e.on=m+3
 n23:d2≠d3
 n24:d2≠d4
 n25:d2≠d5
 n34:d3≠d4
 n35:d3≠d5
 n45:d4≠d5
section
variable {P:Program} {N:FN} {T:TypeId→Option TI} {kn:TypeId→Nat} {hp hp1 hp2:Hp}
theorem zgu [Glob] {all:List Oper} {i:Nat} {o:Oper} {env:Env} {v:AV} {hp hp':Hp} {fo:Option Nat} {Q:Exit→Act→World→Prop} {K:Act→World→Prop} {g:G} {w:World} {a:Act} {d:Nat} (ho:all[i]? = some o) (hg:o.guard=none) (hd:o.dst=some d) (hs:Step P N hp env o v hp') (hH:HRel g w hp) (hE:ERel N g w env a)
  (hK:∀ c g' w',HRel g' w' hp'→VRel g' w' v c→Ext g w g' w'→K (a.put (some d) c) w'):wpOpIn (FR fo) 0 P all.toArray Q i K a w:=by
 obtain ⟨c,g',w',h1,h2,h3,h4⟩:=hs g w a hH hE
 exact zgd ho hg (zb4 h1 (by rw [hd];exact hK c g' w' h2 h3 h4))
theorem wpOp_stepU [Glob] {all:List Oper} {i:Nat} {o:Oper} {env:Env} {hp hp':Hp} {fo:Option Nat} {Q:Exit→Act→World→Prop} {K:Act→World→Prop} {g:G} {w:World} {a:Act} (ho:all[i]? = some o) (hg:o.guard=none) (hd:o.dst=none) (hs:StepU P N hp env o hp') (hH:HRel g w hp) (hE:ERel N g w env a)
  (hK:∀ g' w',HRel g' w' hp'→Ext g w g' w'→K a w'):wpOpIn (FR fo) 0 P all.toArray Q i K a w:=by
 obtain ⟨g',w',h1,h2,h3⟩:=hs g w a hH hE
 refine zgd ho hg (zfr h1 ?_)
 rw [hd]
 exact hK g' w' h2 h3
theorem opas_go [Glob] (hT:TOk P T) (hkn:∀ t n,kn t=n+2→P.stoodInHeld t=false∧P.eqGuardType P.depth t=false) {all:List Oper} {m:Nat} {o2 o3 o4 o5 o6:Oper} {t t6:TypeId} {x y:Operand} {d2 d3 d4 d5:Nat} (hO:MoOk all m o2 o3 o4 o5 o6 t t6 x y d2 d3 d4 d5)
  (hN2:Nat.blt d2 N.n=true) (hN3:Nat.blt d3 N.n=true) (hN4:Nat.blt d4 N.n=true) (hN5:Nat.blt d5 N.n=true)
  {kt et:TypeId} {ti ei:TI} {i j:Nat} {ks vs ks1 vs1 a0:List AV} {k v0 v1 z:AV} {fd:Bool} {env:Env} (ht:T t=some ti) (hk:ti.kind=.mp kt et) (het:T et=some ei) (hze:zdb P et=true) (hza:zeroAV ei=some z)
  (hx:∀ s2 s3 s4 s5,ev (envO d2 d3 d4 d5 v0 v1 (.int .i64 j) s2 s3 s4 s5 env) x=.mp i) (hy:∀ s2 s3 s4 s5,ev (envO d2 d3 d4 d5 v0 v1 (.int .i64 j) s2 s3 s4 s5 env) y=k) (hpl:plainV k=true) (hs:eqV kn T 20 kt k k=some true)
  (ha:At hp i (.mp ks vs)) (hm:MEnt (eqV kn T 20 kt) ks vs k z ks1 (v0::.int .i64 j::vs1)) (hput:Put hp i (.mp ks1 vs1) hp1) (ha1:At hp1 i (.mp ks1 vs1)) (hj:j<vs1.length) (hput2:Put hp1 i (.mp ks1 (vs1.set j v1)) hp2)
  (hl:MLook (eqV kn T 20 kt) ks vs k a0) (hlv:lookV ei a0=some (v0,fd)) (hl1:MLook (eqV kn T 20 kt) ks1 vs1 k [v0])
  (h3:∀ hp,Step P N hp [(d2,v0)] o3 v1 hp) (h5:∀ hp,Step P N hp [(d4,.tup [v0,.int .i64 j])] o5 (.int .i64 j) hp)
  {fo:Option Nat} {Qc:Exit→Act→World→Prop} {g0:G} {w0:World} {df:_} (hQ:∀ g' w' a',HRel g' w' hp2→ERel N g' w' (envO d2 d3 d4 d5 v0 v1 (.int .i64 j) false false false false env) a'→Ext g0 w0 g' w'→a'.defers=df→Qc .normal a' w') :
  ∀ (n:Nat) (s2 s3 s4 s5:Bool) (fuel:Nat) (listed:Array Bool) (g:G) (w:World) (a:Act),(1+s2.not.toNat+s3.not.toNat+s4.not.toNat+s5.not.toNat=n)→n≤fuel→(s3=true→s2=true)→(s5=true→s4=true)→Lst all listed (sOf m s2 s3 s4 s5) →
   HRel g w (bif s4 then hp1 else hp)→ERel N g w (envO d2 d3 d4 d5 v0 v1 (.int .i64 j) s2 s3 s4 s5 env) a→Ext g0 w0 g w→a.defers=df→wpAnyIn (FR fo) 0 P .any all.toArray Qc fuel listed a w
 | 0,s2,s3,s4,s5,_,_,_,_,_,h,_,_,_,_,_,_,_,_=>by omega
 | n+1,s2,s3,s4,s5,0,_,_,_,_,_,h,_,_,_,_,_,_,_=>by omega
 | n+1,s2,s3,s4,s5,fuel+1,listed,g,w,a,hn,hf,h32,h54,hL,hH,hE,hX,hd=>by
   obtain ⟨olen,oi2,oi3,oi4,oi5,oi6,og2,og3,og4,og5,og6,op2,op4,op6,oq2,oq3,oq4,oq5,oq6,oback,oe3,oe5,oe6a,oe6b,n23,n24,n25,n34,n35,n45⟩:=hO
   have hsz:=fun (s2 s3 s4 s5:Bool) (fuel:Nat) (listed:Array Bool) (g:G) (w:World) (a:Act)=>opas_go (fo:=fo) hT hkn ⟨olen,oi2,oi3,oi4,oi5,oi6,og2,og3,og4,og5,og6,op2,op4,op6,oq2,oq3,oq4,oq5,oq6,oback,oe3,oe5,oe6a,oe6b,n23,n24,n25,n34,n35,n45⟩ hN2 hN3 hN4 hN5 ht hk het hze hza hx hy hpl hs ha hm hput ha1 hj hput2 hl hlv hl1 h3 h5 hQ n s2 s3 s4 s5 fuel listed g w a
   refine ze9 hL oback (j0:=m+4) (by omega) (by simp [sOf]) fun q o ho hsq hedge=>?_
   have hq:q<m+5:=by
    have:=(yac.1 ho).1
    omega
   have hqm:m≤q:=by
    rcases yag q m with h|h
    ·simp [sOf,h] at hsq
    ·exact h
   have hq5:q=m∨q=m+1∨q=m+2∨q=m+3∨q=m+4:=by omega
   have s_m:∀ a b c d,sOf m a b c d m=a:=fun a b c d=>by simp [sOf]
   have s_1:∀ a b c d,sOf m a b c d (m+1)=b:=fun a b c d=>by unfold sOf;rw [if_neg (by omega),if_neg (by omega),if_pos rfl]
   have s_2:∀ a b c d,sOf m a b c d (m+2)=c:=fun a b c d=>by unfold sOf;rw [if_neg (by omega),if_neg (by omega),if_neg (by omega),if_pos rfl]
   have s_3:∀ a b c d,sOf m a b c d (m+3)=d:=fun a b c d=>by unfold sOf;rw [if_neg (by omega),if_neg (by omega),if_neg (by omega),if_neg (by omega),if_pos rfl]
   rcases hq5 with rfl|rfl|rfl|rfl|rfl
   ·rw [oi2] at ho
    cases ho
    rw [s_m] at hsq
    subst hsq
    have hs3:s3=false:=by cases s3 with
     | false=>rfl
     | true=>exact absurd (h32 rfl) (by simp)
    subst hs3
    have hstep:Step P N (bif s4 then hp1 else hp) (envO d2 d3 d4 d5 v0 v1 (.int .i64 j) false false s4 s5 env) o2 v0 (bif s4 then hp1 else hp):=by
     cases s4 with
     | false=>exact st_lookup hT hkn op2 ht hk het hze (.inl (.inl ⟨i,hx ..,ha⟩)) (hy ..) hs hl hlv
     | true=>exact st_lookup hT hkn op2 ht hk het hze (.inl (.inl ⟨i,hx ..,ha1⟩)) (hy ..) hs hl1 (show lookV ei [v0]=some (v0,true) from rfl)
    refine zgu oi2 og2 oq2 hstep hH hE fun c g' w' hH' hV hX'=>?_
    refine hsz true false s4 s5 fuel _ g' w' _ (by revert hn;cases s4 <;> cases s5 <;> simp <;> omega) (by omega) (fun h=>rfl) h54 ?_ hH' ?_ (hX.trans hX') hd
    ·exact hL.set (by omega) (s_m ..) fun r hr hne=>by unfold sOf;(repeat' split) <;> first|rfl|omega
    ·refine zfv ((hE.ext hX').put hN2 hV) fun s=>.inl ?_
     rw [zdp,zcm,zcm]
     by_cases h:d2=s
     ·rw [if_pos h,if_pos h];rfl
     ·rw [if_neg h,if_neg h,if_neg h]
   ·rw [oi3] at ho
    cases ho
    rw [s_1] at hsq
    subst hsq
    have hs2:s2=true:=by
     obtain ⟨e,he,hb,hon⟩:=oe3
     have:=hedge e he hb
     rw [hon,s_m] at this
     exact this
    subst hs2
    have hE3:ERel N g w [(d2,v0)] a:=zfv hE fun s=>by
     rw [zdp,zcm]
     by_cases h:d2=s
     ·rw [if_pos h,if_pos h];exact .inl rfl
     ·rw [if_neg h];exact .inr rfl
    refine zgu oi3 og3 oq3 (h3 _) hH hE3 fun c g' w' hH' hV hX'=>?_
    refine hsz true true s4 s5 fuel _ g' w' _ (by revert hn;cases s4 <;> cases s5 <;> simp <;> omega) (by omega) (fun h=>rfl) h54 ?_ hH' ?_ (hX.trans hX') hd
    ·exact hL.set (by omega) (s_1 ..) fun r hr hne=>by unfold sOf;(repeat' split) <;> first|rfl|omega
    ·refine zfv ((hE.ext hX').put hN3 hV) fun s=>.inl ?_
     rw [zdp,zcm,zcm]
     by_cases h:d3=s
     ·rw [if_pos h,if_neg (by rw [← h];exact n23),if_pos h];rfl
     ·rw [if_neg h,if_neg h,if_neg h]
   ·rw [oi4] at ho
    cases ho
    rw [s_2] at hsq
    subst hsq
    have hs5:s5=false:=by cases s5 with
     | false=>rfl
     | true=>exact absurd (h54 rfl) (by simp)
    subst hs5
    have hstep:Step P N hp (envO d2 d3 d4 d5 v0 v1 (.int .i64 j) s2 s3 false false env) o4 (.tup [v0,.int .i64 j]) hp1:=st_ent hT hkn op4 ht hk het hze hza (hx ..) ha (hy ..) hpl hs hm hput
    refine zgu oi4 og4 oq4 hstep hH hE fun c g' w' hH' hV hX'=>?_
    refine hsz s2 s3 true false fuel _ g' w' _ (by revert hn;cases s2 <;> cases s3 <;> simp <;> omega) (by omega) h32 (fun h=>rfl) ?_ hH' ?_ (hX.trans hX') hd
    ·exact hL.set (by omega) (s_2 ..) fun r hr hne=>by unfold sOf;(repeat' split) <;> first|rfl|omega
    ·refine zfv ((hE.ext hX').put hN4 hV) fun s=>.inl ?_
     rw [zdp,zcm,zcm]
     by_cases h:d4=s
     ·rw [if_pos h,if_neg (by rw [← h];exact n24),if_neg (by rw [← h];exact n34),if_pos h];rfl
     ·rw [if_neg h,if_neg h,if_neg h]
   ·rw [oi5] at ho
    cases ho
    rw [s_3] at hsq
    subst hsq
    have hs4:s4=true:=by
     obtain ⟨e,he,hb,hon⟩:=oe5
     have:=hedge e he hb
     rw [hon,s_2] at this
     exact this
    subst hs4
    have hE5:ERel N g w [(d4,.tup [v0,.int .i64 j])] a:=zfv hE fun s=>by
     rw [zdp,zcm]
     by_cases h:d4=s
     ·rw [if_pos h,if_neg (by rw [← h];exact n24),if_neg (by rw [← h];exact n34),if_pos h];exact .inl rfl
     ·rw [if_neg h];exact .inr rfl
    refine zgu oi5 og5 oq5 (h5 _) hH hE5 fun c g' w' hH' hV hX'=>?_
    refine hsz s2 s3 true true fuel _ g' w' _ (by revert hn;cases s2 <;> cases s3 <;> simp <;> omega) (by omega) h32 (fun h=>rfl) ?_ hH' ?_ (hX.trans hX') hd
    ·exact hL.set (by omega) (s_3 ..) fun r hr hne=>by unfold sOf;(repeat' split) <;> first|rfl|omega
    ·refine zfv ((hE.ext hX').put hN5 hV) fun s=>.inl ?_
     rw [zdp,zcm,zcm]
     by_cases h:d5=s
     ·rw [if_pos h,if_neg (by rw [← h];exact n25),if_neg (by rw [← h];exact n35),if_neg (by rw [← h];exact n45),if_pos h];rfl
     ·rw [if_neg h,if_neg h,if_neg h]
   ·rw [oi6] at ho
    cases ho
    have hs3:s3=true:=by
     obtain ⟨e,he,hb,hon⟩:=oe6a
     have:=hedge e he hb
     rw [hon,s_1] at this
     exact this
    have hs5:s5=true:=by
     obtain ⟨e,he,hb,hon⟩:=oe6b
     have:=hedge e he hb
     rw [hon,s_3] at this
     exact this
    have hs2:=h32 hs3
    have hs4:=h54 hs5
    subst hs2 hs3 hs4 hs5
    have e5:ev (envO d2 d3 d4 d5 v0 v1 (.int .i64 j) true true true true env) (.tmp d5)=.int .i64 (j:Int):=by
     show get _ d5=_
     rw [zcm,if_neg n25,if_neg n35,if_neg n45,if_pos rfl]
     rfl
    have e3:ev (envO d2 d3 d4 d5 v0 v1 (.int .i64 j) true true true true env) (.tmp d3)=v1:=by
     show get _ d3=_
     rw [zcm,if_neg n23,if_pos rfl]
     rfl
    refine wpOp_stepU oi6 og6 oq6 (st_ents op6 (hx ..) ha1 e5 e3 hj hput2) hH hE fun g' w' hH' hX'=>?_
    have hL2:=hL.set (s':=fun _=>true) (i:=m+4) (by omega) rfl fun r hr hne=>by
     simp only [sOf]
     have:r<m+4:=by omega
     split <;> (try rfl);split <;> (try rfl);split <;> (try rfl);split <;> (try rfl);split <;> (try rfl);omega
    refine any_done hL2 (fun _ _=>rfl) ?_
    refine hQ g' w' a hH' ?_ (hX.trans hX') hd
    refine zfv (hE.ext hX') fun s=>?_
    rw [zcm,zcm]
    by_cases q2:d2=s
    ·rw [if_pos q2];exact .inr rfl
    ·rw [if_neg q2,if_neg q2]
     by_cases q3:d3=s
     ·rw [if_pos q3];exact .inr rfl
     ·rw [if_neg q3,if_neg q3]
      by_cases q4:d4=s
      ·rw [if_pos q4];exact .inr rfl
      ·rw [if_neg q4,if_neg q4]
       by_cases q5:d5=s
       ·rw [if_pos q5];exact .inr rfl
       ·rw [if_neg q5,if_neg q5];exact .inl rfl
end
end
section
def mpChk (nn:Nat) (all:List Oper) (m:Nat) (o2 o3 o4 o5 o6:Oper) (x y:Operand) (d2 d3 d4 d5:Nat):Bool :=
 (zf6 all&&((List.range m).all fun i=>zff o2 i)&&((List.range m).all fun i=>zff o4 i)&&(zff o3 m&&zff o5 (m+2)&&zff o6 (m+1)&&zff o6 (m+3))) &&
 ((Nat.blt d2 nn&&Nat.blt d3 nn&&Nat.blt d4 nn&&Nat.blt d5 nn)&&(!Nat.beq d2 d3&&!Nat.beq d2 d4&&!Nat.beq d2 d5&&!Nat.beq d3 d4&&!Nat.beq d3 d5&&!Nat.beq d4 d5)) &&
 ((opNe x (.tmp d2)&&opNe x (.tmp d3)&&opNe x (.tmp d4)&&opNe x (.tmp d5))&&(opNe y (.tmp d2)&&opNe y (.tmp d3)&&opNe y (.tmp d4)&&opNe y (.tmp d5)))
inductive MpE [Glob] (P:Program) (T:TypeId→Option TI) (kn:TypeId→Nat) (N:FN) (n0:Nat) (all:List Oper) (m:Nat) (bot top:RE) (base:Heap) (k:Nat) (loc:Heap) (K:RE→Heap→Nat→Heap→Prop):Prop where
 | mk {o2 o3 o4 o5 o6:Oper} {t t6 kt et:TypeId} {x y:Operand} {d2 d3 d4 d5:Nat} {ti ei:TI} {i j:Nat} {ks vs ks1 vs1:List AV} {kv v0 v1 z:AV} {base1 loc1 base2 loc2:Heap}
   (hall:all.drop m=[o2,o3,o4,o5,o6]) (p2:o2.op=.lookup t x y false) (p4:o4.op=.mapEntry t x y) (p6:o6.op=.entryStore t6 x (.tmp d5) (.tmp d3))
   (q2:o2.dst=some d2) (q3:o3.dst=some d3) (q4:o4.dst=some d4) (q5:o5.dst=some d5) (q6:o6.dst=none)
   (g2:o2.guard=none) (g3:o3.guard=none) (g4:o4.guard=none) (g5:o5.guard=none) (g6:o6.guard=none)
   (hchk:mpChk N.n all m o2 o3 o4 o5 o6 x y d2 d3 d4 d5=true)
   (ht:T t=some ti) (hk:ti.kind=.mp kt et) (het:T et=some ei) (hza:zeroAV ei=some z)
   (hx:av n0 top bot x=.mp i) (hy:avF n0 top bot y=some kv) (hpl:plainV kv=true) (hs:eqV kn T 20 kt kv kv=some true)
   (hm:MEnt (eqV kn T 20 kt) ks vs kv z ks1 (v0::.int .i64 j::vs1)) (hj:j<vs1.length)
   (hown:OwnB n0 base loc i (.mp ks vs) (.mp ks1 vs1) base1 loc1)
   (h3:Res n0 base (stepS kn T n0 [(d2,.v v0)] [] [] o3.op) (.reg (.v v1))) (h5:Res n0 base (stepS kn T n0 [(d4,.v (.tup [v0,.int .i64 j]))] [] [] o5.op) (.reg (.v (.int .i64 j))))
   (hown2:OwnB n0 base1 loc1 i (.mp ks1 vs1) (.mp ks1 (vs1.set j v1)) base2 loc2)
   (a:K ((d2,.v .junk)::(d3,.v .junk)::(d4,.v .junk)::(d5,.v .junk)::top) base2 k loc2):MpE P T kn N n0 all m bot top base k loc K
theorem mfind_snoc {eq:AV→AV→Option Bool} {k:AV} (hs:eq k k=some true):∀ ks:List AV,mfind eq k ks=some none→mfind eq k (ks++[k])=some (some ks.length)
 | [],_=>by simp only [ydg,mfind,hs];rfl
 | x::l,h=>by
   simp only [mfind] at h
   simp only [yci,mfind]
   split at h
   ·cases h
   ·have h2:mfind eq k l=some none:=by
      split at h
      ·cases h
      ·assumption
      ·cases h
    rw [mfind_snoc hs l h2]
    simp
   ·cases h
theorem ev_opNe [Glob] {x:Operand} {d:Nat} {v:AV} {env:Env} (h:opNe x (.tmp d)=true):ev ((d,v)::env) x=ev env x:=by
 cases x with
 | tmp s =>
   have hne:d≠s:=fun e=>zet h (by rw [e])
   show get ((d,v)::env) s=get env s
   exact zch _ _ hne
 | _=>rfl
section
variable {P:Program} {N:FN} {n0:Nat} {T:TypeId→Option TI} {kn:TypeId→Nat}
theorem ev_envO [Glob] {x:Operand} {d2 d3 d4 d5:Nat} {v0 v1 J:AV} {env:Env} (h2:opNe x (.tmp d2)=true) (h3:opNe x (.tmp d3)=true) (h4:opNe x (.tmp d4)=true) (h5:opNe x (.tmp d5)=true) (s2 s3 s4 s5:Bool):ev (envO d2 d3 d4 d5 v0 v1 J s2 s3 s4 s5 env) x=ev env x:=by
 unfold envO
 rw [ev_opNe h2,ev_opNe h3,ev_opNe h4,ev_opNe h5]
theorem vw_mp [Glob] (he0:Env0 P T kn) (hm:P.follows .mixedOrders=true) {id m:Nat} {ops:List Oper} {W:List Nat} {bot top:RE} {base:Heap} {k:Nat} {loc:Heap} (hn:base.length=n0) {Q:Exit→Env→Hp→Prop} {K:RE→Heap→Nat→Heap→Prop}
  (hK:∀ top b1 k loc,b1.length=n0→K top b1 k loc→Q .normal (trE n0 (top++bot)) ⟨b1,k,loc⟩)
  (h:wpD W P kn T N n0 bot ops base loc (ops.take m) (fun top b1 k loc=>MpE P T kn N n0 ops m bot top b1 k loc K) [] top base k loc) :
  VW P N (.region id ops.toArray true) Q (trE n0 (top++bot)) ⟨base,k,loc⟩:=by
 obtain ⟨ks,h1,h2⟩:=zfg (N:=N) (k0:=k) (W:=W) he0 hn (ops.take m) [] top base k loc hn (fun _=>⟨rfl,Tame.refl _ _ _⟩) h
 simp only [List.reverse_nil,ydg,yak] at h1
 intro g w a hH hE
 refine wpIn_region_any hm ?_
 have hA:∃ top b1 k' loc',MpE P T kn N n0 ops m bot top b1 k' loc' K:=by
  obtain ⟨ds,-,-,h3⟩:=h2
  obtain ⟨hs,-,-,h4⟩:=h3.at_
  obtain ⟨top,b1,k',loc',-,-,-,h5⟩:=h4
  exact ⟨top,b1,k',loc',h5⟩
 obtain ⟨topA,bA,kA,locA,hA⟩:=hA
 obtain ⟨o2,o3,o4,o5,o6,x,y,d2,d3,d4,d5,hall,hchk⟩:∃ o2 o3 o4 o5 o6 x y d2 d3 d4 d5,ops.drop m=[o2,o3,o4,o5,o6]∧mpChk N.n ops m o2 o3 o4 o5 o6 x y d2 d3 d4 d5=true:=by
  cases hA with
  | mk hall p2 p4 p6 q2 q3 q4 q5 q6 g2 g3 g4 g5 g6 hchk=>exact ⟨_,_,_,_,_,_,_,_,_,_,_,hall,hchk⟩
 have hsplit:ops.take m++[o2,o3,o4,o5,o6]=ops:=by rw [← hall];exact yck m ops
 have hml:(ops.take m).length=m:=by
  have:=congrArg List.length hall
  simp at this
  simp
  omega
 have hlen:ops.length=m+5:=by
  have:=congrArg List.length hsplit
  rw [ya5,hml] at this
  simp at this
  omega
 unfold mpChk at hchk
 simp only [yak,yao,ybo] at hchk
 obtain ⟨⟨⟨⟨⟨c1,c2⟩,c4⟩,⟨⟨c3,c5⟩,c6⟩,c7⟩,-⟩,-⟩:=hchk
 have hback:∀ j oj,ops[j]? = some oj→∀ e∈oj.after.toList,Region.binds .any e=true→e.on<j:=by
  intro j oj hj e he hb
  unfold zf6 at c1
  simp only [yao,ybo] at c1
  have:=c1 j (yac.1 hj).1
  simp only [hj,yao] at this
  simpa [hb] using this e he
 have hget:∀ q,q<5→ops[m+q]? = [o2,o3,o4,o5,o6][q]? := by
  intro q _
  have h0:(ops.take m++[o2,o3,o4,o5,o6])[m+q]? = ops[m+q]? := by rw [hsplit]
  rw [← h0,yam (by omega),hml,ybk]
 have key:=zhi (l:=ops.take m) (tl:=[o2,o3,o4,o5,o6]) (Qc:=Lift N Q g w a.defers) (I:=IW W base k loc) (k:=k) (fun X=>⟨loc,X,Tq.refl _,rfl⟩) (closOf ops) ks (by rw [hsplit];exact h1.1) (by rw [hsplit];exact h1.2) (fun j oj hj ho=>by
  rw [hsplit] at ho
  rw [hml] at hj ⊢
  have hlt:=(yac.1 ho).1
  have hj5:j=m+0∨j=m+1∨j=m+2∨j=m+3∨j=m+4:=by omega
  rcases hj5 with rfl|rfl|rfl|rfl|rfl
  ·have hg:=hget 0 (by omega)
   simp only [yby] at hg
   rw [hg] at ho
   cases ho
   left
   intro i hi
   exact zbj (c2 i hi)
  ·rw [hget 1 (by omega)] at ho
   cases ho
   right
   obtain ⟨e,e1,e2,e3⟩:=zbj c3
   exact ⟨e,e1,e2,by omega⟩
  ·rw [hget 2 (by omega)] at ho
   cases ho
   left
   intro i hi
   exact zbj (c4 i hi)
  ·rw [hget 3 (by omega)] at ho
   cases ho
   right
   obtain ⟨e,e1,e2,e3⟩:=zbj c5
   exact ⟨e,e1,e2,by omega⟩
  ·rw [hget 4 (by omega)] at ho
   cases ho
   right
   obtain ⟨e,e1,e2,e3⟩:=zbj c6
   exact ⟨e,e1,e2,by omega⟩) (K:=KD n0 bot fun top b1 k loc=>MpE P T kn N n0 ops m bot top b1 k loc K) (by rw [hsplit];exact h2) hH hE (fun env' hp' g' w' a' fuel listed hKD r1 r2 r3 r4 hH' hE' hx' hd'=>by
  obtain ⟨top',b1,k1,loc1,hap,rfl,hb1,hA'⟩:=hKD
  have hE2:ERel N g' w' (trE n0 (top'++bot)) a':=⟨hE'.1,fun s=>hap s _ _ _ (hE'.rel s),hE'.ro,hE'.glob⟩
  rw [hsplit] at r1 ⊢
  rw [hml] at r2 r3
  cases hA' with
  | mk hall' p2 p4 p6 q2 q3 q4 q5 q6 g2 g3 g4 g5 g6 hchk ht hk het hza hx hy hpl hs hm2 hj hown h3 h5 hown2 ak =>
    rename_i t t6 kt et x y d2 d3 d4 d5 ti ei i j ks vs ks1 vs1 kv v0 v1 z base1 loc1 base2 loc2
    rw [hall] at hall'
    simp only [List.cons.injEq,and_true] at hall'
    obtain ⟨rfl,rfl,rfl,rfl,rfl⟩:=hall'
    unfold mpChk at hchk
    simp only [yak,yao,ybo] at hchk
    obtain ⟨⟨⟨⟨⟨-,-⟩,-⟩,-⟩,⟨⟨⟨u2,u3⟩,u4⟩,u5⟩,⟨⟨⟨⟨n23,n24⟩,n25⟩,n34⟩,n35⟩,n45⟩,⟨⟨⟨x2,x3⟩,x4⟩,x5⟩,⟨⟨y2,y3⟩,y4⟩,y5⟩:=hchk
    have nb:∀ {a b:Nat},(!Nat.beq a b)=true→a≠b:=fun h e=>by subst e;simp at h
    have hxe:=av_ev hx (by simp)
    have hye:ev (trE n0 (top'++bot)) y=kv:=avF_ev hy
    obtain ⟨s1,s2,s3⟩:=hown.at_ (k:=k1) hb1
    obtain ⟨t1,t2,t3⟩:=hown2.at_ (k:=k1) s3
    obtain ⟨a0,fd,hl,hlv,hl1⟩:∃ a0 fd,MLook (eqV kn T 20 kt) ks vs kv a0∧lookV ei a0=some (v0,fd)∧MLook (eqV kn T 20 kt) ks1 vs1 kv [v0]:=by
     cases hm2 with
     | old j v hf hkk hv=>exact ⟨[v0],true,⟨_,hf,hv⟩,rfl,⟨_,hf,hv⟩⟩
     | new hf=>exact ⟨[],false,hf,by simp only [lookV,hza],⟨_,mfind_snoc hs ks hf,by
        have hlv:ks.length=vs.length:=by
         obtain ⟨es,clk,-,-,z2,z3,-⟩:=hH'.rel i _ s1
         have e1:=z2.length
         have e2:=z3.length
         simp at e1 e2
         omega
        rw [hlv]
        simp⟩⟩
    refine opas_go he0.T he0.eq ⟨hlen,hget 0 (by omega),hget 1 (by omega),hget 2 (by omega),hget 3 (by omega),hget 4 (by omega),g2,g3,g4,g5,g6,p2,p4,p6,q2,q3,q4,q5,q6,hback,zbj c3,zbj c5,zbj c6,zbj c7,nb n23,nb n24,nb n25,nb n34,nb n35,nb n45⟩ u2 u3 u4 u5 ht hk het (he0.zr _ _ het) hza
     (fun _ _ _ _=>(ev_envO x2 x3 x4 x5 _ _ _ _).trans hxe) (fun _ _ _ _=>(ev_envO y2 y3 y4 y5 _ _ _ _).trans hye) hpl hs s1 hm2 s2 t1 hj t2 hl hlv hl1
     (fun hp=>zb5 (P:=P) (N:=N) (k:=0) he0 hb1 rfl h3 rfl hp) (fun hp=>zb5 (P:=P) (N:=N) (k:=0) he0 hb1 rfl h5 rfl hp)
     (g0:=g) (w0:=w) (df:=a.defers) (fun g2 w2 a2 hH2 hE3 hx2 hd2=>⟨_,_,g2,hK _ _ _ _ t3 ak,hH2,hE3,hx2,DRel.of_eq hd2⟩) 5 false false false false fuel listed g' w' a' rfl (by simpa using r4) (by simp) (by simp) ⟨r1,fun q hq=>?_⟩ hH' ?_ hx' hd'
    ·rcases yag q m with h|h
     ·rw [r2 q h]
      simp [sOf,h]
     ·rw [r3 q h]
      unfold sOf
      repeat' split
      all_goals first|rfl|omega
    ·refine zfv hE2 fun s=>?_
     rw [zcm]
     by_cases e2:d2=s
     ·rw [if_pos e2];exact .inr rfl
     ·rw [if_neg e2]
      by_cases e3:d3=s
      ·rw [if_pos e3];exact .inr rfl
      ·rw [if_neg e3]
       by_cases e4:d4=s
       ·rw [if_pos e4];exact .inr rfl
       ·rw [if_neg e4]
        by_cases e5:d5=s
        ·rw [if_pos e5];exact .inr rfl
        ·rw [if_neg e5];exact .inl rfl)
 rw [hsplit] at key
 simpa using key
end
end
end Go.Vsi
