/- A text of the proof: the parts PV41, AZ41, BA41, BB41, BC41, PM41, BD41, BE41, BF41, PK41, PL41, BG41, BH41, BU41, BV41, DZ41. -/
import Derived.ProofKit
import Derived.LaidMore
import Derived.OpenShut
import Derived.Test.YtgdmldelijeaoaaGreatDoorK11
set_option linter.unusedSimpArgs false
set_option linter.unusedVariables false
set_option maxHeartbeats 8000000
namespace Go.Proofs.YtgdmldelijeaoaaGreatDoor
open Go.Vsi
def aA:ByteArray:=⟨#[65]⟩
def aB:ByteArray:=⟨#[66]⟩
def aC:ByteArray:=⟨#[67]⟩
def abc:List ByteArray:=[aA,aB,aC]
def aN (n:Nat):ByteArray:=abc.getD n aA
def putQ:Fq→Fq
 | .at_ _ l=>.at_ (aN l.length) []
 | .fa=>.fa
 | .f1 a=>.f1 (putQ a)
 | .f2 k a b=>.f2 k (putQ a) (putQ b)
 | .qn _ _ a=>putQ a
def fpQ:Fq→P10.Fp
 | .at_ _ l=>.at (aN l.length)
 | .fa=>.fa
 | .f1 a=>.f1 (fpQ a)
 | .f2 k a b=>.f2 k (fpQ a) (fpQ b)
 | .qn _ _ a=>fpQ a
theorem aN_in:∀ n,aN n∈abc
 | 0=>by simp [aN,abc]
 | 1=>by simp [aN,abc]
 | 2=>by simp [aN,abc]
 | n+3=>by simp [aN,abc]
theorem abc_pred:∀ c∈abc,isPred c=true:=by
 intro c hc
 have hc:c=aA∨c=aB∨c=aC:=by simpa [abc] using hc
 have h1:isPred aA=true:=by kernel_rfl
 have h2:isPred aB=true:=by kernel_rfl
 have h3:isPred aC=true:=by kernel_rfl
 rcases hc with rfl|rfl|rfl
 ·exact h1
 ·exact h2
 ·exact h3
theorem fp_q:∀ p:Fq,(fpQ p).fo=(putQ p).fo
 | .at_ _ l=>rfl
 | .fa=>rfl
 | .f1 a=>by
   show P10.Fp.fo (.f1 (fpQ a))=Fq.fo (.f1 (putQ a))
   unfold P10.Fp.fo Fq.fo
   rw [fp_q a]
 | .f2 k a b=>by
   show P10.Fp.fo (.f2 k (fpQ a) (fpQ b))=Fq.fo (.f2 k (putQ a) (putQ b))
   unfold P10.Fp.fo Fq.fo
   rw [fp_q a,fp_q b]
 | .qn _ _ a=>fp_q a
theorem fpq_ok:∀ p:Fq,p.Ok→(fpQ p).Ok
 | .at_ _ l,_=>abc_pred _ (aN_in _)
 | .fa,_=>trivial
 | .f1 a,h=>fpq_ok a h
 | .f2 k a b,h=>⟨h.1,fpq_ok a h.2.1,fpq_ok b h.2.2⟩
 | .qn _ _ a,h=>fpq_ok a h.2
theorem fpq_has:∀ (p:Fq) (c:ByteArray),(fpQ p).has c→c∈abc
 | .at_ _ l,c,h=>by
   have h:c=aN l.length:=h
   rw [h]
   exact aN_in _
 | .fa,_,h=>h.elim
 | .f1 a,c,h=>fpq_has a c h
 | .f2 _ a b,c,h=>h.elim (fpq_has a c) (fpq_has b c)
 | .qn _ _ a,c,h=>fpq_has a c h
theorem fpq_prop:∀ p:Fq,p.Ok→P10.propF (putQ p).fo=true
 | .at_ _ l,_=>by
   show P10.propF (.mk 1 (aN l.length) [] [])=true
   unfold P10.propF P10.propFs
   rfl
 | .fa,_=>by
   show P10.propF (.mk 2 .empty [] [])=true
   unfold P10.propF P10.propFs
   rfl
 | .f1 a,h=>by
   show P10.propF (.mk 3 .empty [] [(putQ a).fo])=true
   unfold P10.propF
   rw [P10.propFs_all]
   simp [fpq_prop a h]
 | .f2 k a b,h=>by
   show P10.propF (.mk k .empty [] [(putQ a).fo,(putQ b).fo])=true
   unfold P10.propF
   rw [P10.propFs_all]
   have h1:=fpq_prop a h.2.1
   have h2:=fpq_prop b h.2.2
   rcases h.1 with rfl|rfl|rfl|rfl <;> simp [h1,h2]
 | .qn _ _ a,h=>fpq_prop a h.2
theorem put_ok:∀ p:Fq,p.Ok→(putQ p).Ok
 | .at_ _ l,_=>Nat.zero_le _
 | .fa,_=>trivial
 | .f1 a,h=>put_ok a h
 | .f2 k a b,h=>⟨h.1,put_ok a h.2.1,put_ok b h.2.2⟩
 | .qn _ _ a,h=>put_ok a h.2
theorem put_std:∀ p:Fq,p.Ok→stdF (putQ p)
 | .at_ _ l,_=>⟨abc_pred _ (aN_in _),Nat.zero_le _,fun t ht=>by cases ht⟩
 | .fa,_=>trivial
 | .f1 a,h=>put_std a h
 | .f2 k a b,h=>⟨h.1,put_std a h.2.1,put_std b h.2.2⟩
 | .qn _ _ a,h=>put_std a h.2
theorem put_dep:∀ p:Fq,dF (putQ p)≤dF p
 | .at_ _ l=>Nat.le_refl _
 | .fa=>Nat.le_refl _
 | .f1 a=>by
   have:=put_dep a
   show dF (putQ a)+1≤dF a+1
   omega
 | .f2 k a b=>by
   have h1:=put_dep a
   have h2:=put_dep b
   show max (dF (putQ a)) (dF (putQ b))+1≤max (dF a) (dF b)+1
   omega
 | .qn _ _ a=>by
   have:=put_dep a
   show dF (putQ a)≤dF a+1
   omega
theorem put_ms:∀ p:Fq,msF 1 0 (putQ p)≤msF 1 0 p
 | .at_ _ l=>Nat.le_refl _
 | .fa=>Nat.le_refl _
 | .f1 a=>by
   have:=put_ms a
   show msF 1 0 (putQ a)+1≤msF 1 0 a+1
   omega
 | .f2 k a b=>by
   have h1:=put_ms a
   have h2:=put_ms b
   show msF 1 0 (putQ a)+msF 1 0 (putQ b)+1≤msF 1 0 a+msF 1 0 b+1
   omega
 | .qn _ _ a=>by
   have:=put_ms a
   show msF 1 0 (putQ a)≤msF 1 0 a+1+0
   omega
theorem put_rank:∀ p:Fq,rankF (putQ p)=0
 | .at_ _ l=>rfl
 | .fa=>rfl
 | .f1 a=>put_rank a
 | .f2 k a b=>by
   show max (rankF (putQ a)) (rankF (putQ b))=0
   rw [put_rank a,put_rank b]
   rfl
 | .qn _ _ a=>put_rank a
theorem put_p:∀ (p:Fq) (s:ByteArray) (a:Int),(putQ p).hasP s a→s∈abc∧a=0
 | .at_ _ l,s,a,h=>by
   have h:aN l.length=s∧a=(([]:List Tq).length:Nat):=h
   exact ⟨h.1▸aN_in _,h.2⟩
 | .fa,_,_,h=>h.elim
 | .f1 x,s,a,h=>put_p x s a h
 | .f2 _ x y,s,a,h=>h.elim (put_p x s a) (put_p y s a)
 | .qn _ _ x,s,a,h=>put_p x s a h
theorem put_c:∀ (p:Fq) (s:ByteArray) (a:Int),¬ (putQ p).hasC s a
 | .at_ _ l,s,a,h=>by
   obtain ⟨t,ht,-⟩:=h
   cases ht
 | .fa,_,_,h=>h.elim
 | .f1 x,s,a,h=>put_c x s a h
 | .f2 _ x y,s,a,h=>h.elim (put_c x s a) (put_c y s a)
 | .qn _ _ x,s,a,h=>put_c x s a h
theorem put_v:∀ (p:Fq) (x:ByteArray),¬ (putQ p).free x
 | .at_ _ l,x,h=>by
   obtain ⟨t,ht,-⟩:=h
   cases ht
 | .fa,_,h=>h.elim
 | .f1 y,x,h=>put_v y x h
 | .f2 _ y z,x,h=>h.elim (put_v y x) (put_v z x)
 | .qn _ _ y,x,h=>put_v y x h
def valM (n:Nat) (t0 t1 t2:Nat):Mdl:=⟨2,n,[],0,[⟨aA,0,(t0:Nat)⟩,⟨aB,0,(t1:Nat)⟩,⟨aC,0,(t2:Nat)⟩],[],[]⟩
theorem val_valid {n t0 t1 t2:Nat} (hn:1≤n∧n≤3) (h0:t0<2) (h1:t1<2) (h2:t2<2):validM (valM n t0 t1 t2)=true:=by
 unfold validM
 rw [Bool.and_eq_true,Bool.and_eq_true,Bool.and_eq_true,Bool.and_eq_true,decide_eq_true_eq]
 refine ⟨⟨rfl,by show (1:Int)≤n;omega,by show (n:Int)≤3;omega,rfl,rfl⟩,?_,?_,rfl,rfl⟩
 ·show sigR ⟨[(aA,0),(aB,0),(aC,0)],[],[]⟩=true
  kernel_rfl
 ·rw [List.all_eq_true]
  intro f hf
  have hf:f=⟨aA,0,(t0:Nat)⟩∨f=⟨aB,0,(t1:Nat)⟩∨f=⟨aC,0,(t2:Nat)⟩:=by simpa [valM] using hf
  have e:((2 ^ ((n:Int)).toNat ^ (0:Int).toNat:Nat):Int)=2:=by
   rw [show (0:Int).toNat=0 from rfl,Nat.pow_zero]
   rfl
  unfold okFct
  rw [Bool.and_eq_true,decide_eq_true_eq,decide_eq_true_eq]
  rcases hf with rfl|rfl|rfl
  ·exact ⟨Int.natCast_nonneg _,by show ((t0:Nat):Int)<((2 ^ ((n:Int)).toNat ^ (0:Int).toNat:Nat):Int);rw [e];omega⟩
  ·exact ⟨Int.natCast_nonneg _,by show ((t1:Nat):Int)<((2 ^ ((n:Int)).toNat ^ (0:Int).toNat:Nat):Int);rw [e];omega⟩
  ·exact ⟨Int.natCast_nonneg _,by show ((t2:Nat):Int)<((2 ^ ((n:Int)).toNat ^ (0:Int).toNat:Nat):Int);rw [e];omega⟩
theorem val_sm (n t0 t1 t2:Nat):(valM n t0 t1 t2).Sm:=⟨Nat.zero_le _,by simp [valM],by simp [valM],by simp [valM],fun f hf=>by cases hf⟩
theorem val_nm (n t0 t1 t2:Nat):(valM n t0 t1 t2).Nm:=by
 refine ⟨fun f hf=>?_,fun f hf=>(by cases hf),fun f hf=>(by cases hf)⟩
 have hf:f=⟨aA,0,(t0:Nat)⟩∨f=⟨aB,0,(t1:Nat)⟩∨f=⟨aC,0,(t2:Nat)⟩:=by simpa [valM] using hf
 rcases hf with rfl|rfl|rfl <;> exact Nat.le_of_ble_eq_true rfl
structure Pg (q:Fq):Prop where
 sm:FqSm q
 right:rightF q.fo=true
 has:∀ n t0 t1 t2,hasB (valM n t0 t1 t2) (sigF q.fo)=true
theorem put_pg {p:Fq} (hg:Gd p):Pg (putQ p):=by
 have ho:=std_ok p hg.std
 have hs:=put_std p ho
 have hok:=put_ok p ho
 have hP:∀ x,x∈predY (putQ p).fo→x∈([(aA,0),(aB,0),(aC,0)]:List Sym):=fun x hx=>by
  have h1:=(mem_predY hok x).1 hx
  obtain ⟨s,a⟩:=x
  obtain ⟨q1,q2⟩:=put_p p _ _ h1
  have q2:((a:Nat):Int)=0:=q2
  have q3:a=0:=by omega
  have q1:s=aA∨s=aB∨s=aC:=by simpa [abc] using q1
  rw [q3]
  rcases q1 with rfl|rfl|rfl <;> simp
 have hU:∀ x,x ∉ funY (putQ p).fo:=fun x hx=>put_c p _ _ ((mem_funY hok x).1 hx)
 have hV:∀ x,x ∉ freeF (putQ p).fo:=fun x hx=>put_v p _ ((mem_freeF hok x).1 hx)
 have l1:(predY (putQ p).fo).length≤3:=len_sub _ _ (predY_nd _) hP
 have l2:(funY (putQ p).fo).length≤0:=len_sub [] _ (funY_nd _) fun x hx=>absurd hx (hU x)
 have l3:(freeF (putQ p).fo).length≤0:=len_sub [] _ (freeF_nd _) fun x hx=>absurd hx (hV x)
 refine ⟨⟨good_f _ hs,hok,by omega,by omega,by omega⟩,?_,fun n t0 t1 t2=>?_⟩
 ·have h1:=wF_le _ hs
  have h2:=put_ms p
  have h3:=put_dep p
  have h4:=hg.nod
  have h5:=hg.dep
  unfold rightF
  rw [jF_ok _ 1 400 hs (by omega) (by omega),foR_ok _ hok]
  rfl
 ·unfold hasB
  rw [Bool.and_eq_true,Bool.and_eq_true,List.all_eq_true,List.all_eq_true,List.all_eq_true]
  refine ⟨fun x hx=>?_,fun x hx=>?_,fun x hx=>?_⟩
  ·obtain ⟨y,hy,rfl⟩:=List.mem_map.1 hx
   have hy:=hP y ((sortY_perm _).mem_iff.1 hy)
   have hy:y=(aA,0)∨y=(aB,0)∨y=(aC,0):=by simpa using hy
   rcases hy with rfl|rfl|rfl
   ·exact List.find?_isSome.2 ⟨⟨aA,0,(t0:Nat)⟩,by simp [valM],by simp [factP,toI]⟩
   ·exact List.find?_isSome.2 ⟨⟨aB,0,(t1:Nat)⟩,by simp [valM],by simp [factP,toI]⟩
   ·exact List.find?_isSome.2 ⟨⟨aC,0,(t2:Nat)⟩,by simp [valM],by simp [factP,toI]⟩
  ·obtain ⟨y,hy,rfl⟩:=List.mem_map.1 hx
   exact absurd ((sortY_perm _).mem_iff.1 hy) (hU y)
  ·exact absurd ((sortB_perm _).mem_iff.1 hx) (hV x)
def vA (v i:Nat):Nat:=v / 2 ^ (2-i) % 2
theorem nAB:(aA.toList==aB.toList)=false:=by kernel_rfl
theorem nAC:(aA.toList==aC.toList)=false:=by kernel_rfl
theorem nBC:(aB.toList==aC.toList)=false:=by kernel_rfl
theorem fct_A (n t0 t1 t2:Nat):factF (valM n t0 t1 t2) aA 0=⟨aA,0,(t0:Nat)⟩:=by
 unfold factF valM
 rw [List.find?_cons_of_pos (by simp [factP])]
 rfl
theorem fct_B (n t0 t1 t2:Nat):factF (valM n t0 t1 t2) aB 0=⟨aB,0,(t1:Nat)⟩:=by
 unfold factF valM
 rw [List.find?_cons_of_neg (by simp only [factP,nAB];simp),List.find?_cons_of_pos (by simp [factP])]
 rfl
theorem fct_C (n t0 t1 t2:Nat):factF (valM n t0 t1 t2) aC 0=⟨aC,0,(t2:Nat)⟩:=by
 unfold factF valM
 rw [List.find?_cons_of_neg (by simp only [factP,nAC];simp),List.find?_cons_of_neg (by simp only [factP,nBC];simp),List.find?_cons_of_pos (by simp [factP])]
 rfl
theorem ev_at (n v:Nat) (r:Val) (c:ByteArray) (hc:c∈abc):av (valM n (vA v 0) (vA v 1) (vA v 2)) r c []=P10.vbG abc v c:=by
 have hc:c=aA∨c=aB∨c=aC:=by simpa [abc] using hc
 have key:∀ t:Nat,bitAt ((t % 2:Nat):Int) 0=t.testBit 0:=fun t=>by
  unfold bitAt
  rw [Int.toNat_natCast,show (0:Int).toNat=0 from rfl,Nat.testBit_zero,Nat.testBit_zero,Nat.mod_mod]
 have e2:(v / 2 ^ 2).testBit 0=v.testBit 2:=by rw [Nat.testBit_div_two_pow]
 have e1:(v / 2 ^ 1).testBit 0=v.testBit 1:=by rw [Nat.testBit_div_two_pow]
 have e0:(v / 2 ^ 0).testBit 0=v.testBit 0:=by rw [Nat.testBit_div_two_pow]
 have x2:P10.vbG abc v aA=v.testBit 2:=by
  unfold P10.vbG
  rw [show abc.length-1-P10.ixP abc aA=2 by decide]
 have x1:P10.vbG abc v aB=v.testBit 1:=by
  unfold P10.vbG
  rw [show abc.length-1-P10.ixP abc aB=1 by decide]
 have x0:P10.vbG abc v aC=v.testBit 0:=by
  unfold P10.vbG
  rw [show abc.length-1-P10.ixP abc aC=0 by decide]
 unfold av
 rw [show ((([]:List Tq).length:Nat):Int)=0 from rfl]
 rcases hc with rfl|rfl|rfl
 ·rw [fct_A,x2,← e2]
  exact key _
 ·rw [fct_B,x1,← e1]
  exact key _
 ·rw [fct_C,x0,← e0]
  exact key _
theorem ev_put (n v:Nat):∀ (p:Fq) (r:Val),(fpQ p).ev (P10.vbG abc v)=hv (valM n (vA v 0) (vA v 1) (vA v 2)) (putQ p) r
 | .at_ _ l,r=>(ev_at n v r _ (aN_in _)).symm
 | .fa,_=>rfl
 | .f1 a,r=>by
   show (!(fpQ a).ev (P10.vbG abc v))=!hv _ (putQ a) r
   rw [ev_put n v a r]
 | .f2 k a b,r=>by
   show (if k=4 then _&&_ else if k=5 then _ || _ else if k=6 then !_ || _ else _==_)=op2 k (hv _ (putQ a) r) (hv _ (putQ b) r)
   rw [ev_put n v a r,ev_put n v b r]
   rfl
 | .qn _ _ a,r=>ev_put n v a r
theorem errN_put {p:Fq} (hg:Gd p) (v:Nat) (hv8:v<8):P10.errN (putQ p).fo abc (v:Nat)=0:=by
 have ho:=std_ok p hg.std
 have hpg:=put_pg hg
 have h1:(jF 1 (putQ p).fo 400).2=true:=by
  have:=hpg.right
  unfold rightF at this
  rw [Bool.and_eq_true] at this
  exact this.1
 have hr:P10.rightF (putQ p).fo=true:=by
  show ((jF 1 (putQ p).fo 400).2&&P10.propF (putQ p).fo)=true
  rw [h1,fpq_prop p ho]
  rfl
 have hn:P10.isNmG abc=true:=by kernel_rfl
 have hi:P10.inAll (putQ p).fo abc=true:=by
  unfold P10.inAll
  rw [List.all_eq_true]
  intro c hc
  rw [P10.mem_namesG1,← fp_q,P10.addGs_cons,P10.addGs_nil,P10.mem_addG c (fpQ p) [] (fpq_ok p ho)] at hc
  rcases hc with hc|hc
  ·cases hc
  ·exact (P10.memG_iff c abc).2 (fpq_has p c hc)
 unfold P10.errN
 rw [if_neg (by decide),if_neg (not_not_intro ⟨hr,hn,by omega,by show ((v:Nat):Int)<((2 ^ 3:Nat):Int);omega⟩),hi,if_neg (by decide)]
theorem addG_put {p:Fq} (hg:Gd p):(P10.addGs [] [(putQ p).fo]).length≤100000:=by
 have ho:=std_ok p hg.std
 refine Nat.le_trans (len_sub abc _ (P10.addGs_nodup _ List.nodup_nil) fun c hc=>?_) (by decide)
 rw [← fp_q,P10.addGs_cons,P10.addGs_nil,P10.mem_addG c (fpQ p) [] (fpq_ok p ho)] at hc
 rcases hc with hc|hc
 ·cases hc
 ·exact fpq_has p c hc
section
attribute [local irreducible] VW VCall VO bits
theorem zat (n:Nat) (l:List Nat):zaa n (l.flatMap encN):=belowL_flat _ fun x=>by simp [encN,zaa,below]
theorem EqN.quoB {m n:Nat} {x y:Int} {k:Int→Prop} (hx:x=m) (hy:y=n) (hn:1≤n) (hm:m≤9223372036854775807) (a:k ((m / n:Nat):Int)):EqN (IntKind.i64.wrap (x.tdiv y)) k:=by
 subst hx
 subst hy
 refine EqN.quo ⟨by omega,by omega,by omega⟩ ?_
 rwa [← Int.natCast_ediv]
theorem digits_w (n b k:Nat) (hb:1≤b) (hn:n≤9223372036854775807) (hk:k≤3) (H:Heap) (i:Nat) (hi:H.length=i):VCall Tryz.prog 92 [.int .i64 (n:Nat),.int .i64 (b:Nat),.int .i64 (k:Nat)] H (fun r H'=>r=.ms i 0 k∧H'=H++[.box 3 ((digN b k n).flatMap encN)]):=by
 subst hi
 have d1:=Nat.div_le_self n b
 have d2:=Nat.div_le_self (n / b) b
 have d3:=Nat.div_le_self (n / b / b) b
 have:k=0∨k=1∨k=2∨k=3:=by omega
 rcases this with rfl|rfl|rfl|rfl
 all_goals
  refine za8 Tryz.E0 Tryz.mx Tryz.func92 (by kernel_rfl) rfl (Nat.le_of_ble_eq_true rfl) rfl fun hcl hbl=>?_
  (repeat' ((conv=>whnf);(first|refine OrN.natL ?_|(refine EqN.id ?_;first|(refine EqN.subN _ _ Cst.h Cst.h ?_ ?_;· omega)|refine EqN.i64 (by omega) ?_|fail)|(refine SideN.mk ?_ ?_;· first|kernel_rfl|omega|exact List.cons_ne_nil _ _|(simp;done)|(simp;omega)|exact trivial|assumption|fail)|refine NatN.mk _ rfl ?_|refine OrN.r ?_|refine DrawN.mk' [] ?_|fail)));all_goals (conv=>whnf)
  refine LoopN.rounds Tryz.E0 Tryz.mx 4 rfl ?_
  (repeat' ((conv=>whnf);(first|(refine IfN.id ?_;first|refine IfN.tt rfl ?_|refine IfN.ff rfl ?_|fail)|(refine EqN.id ?_;first|with_reducible refine EqN.quoB rfl rfl hb (by omega) ?_|(refine EqN.subN _ _ Cst.h Cst.h ?_ ?_;· omega)|refine EqN.remN _ _ Cst.h Cst.h ?_|refine EqN.i64 (by omega) ?_|fail)|(refine SideN.mk ?_ ?_;· first|kernel_rfl|omega|exact List.cons_ne_nil _ _|(simp;done)|(simp;omega)|exact trivial|assumption|fail)|refine PtrN.loc _ rfl ?_|refine OfsN.at_ (by omega) ?_|refine DrawN.mk' [] ?_|fail)));all_goals (conv=>whnf)
  exact EndN.keep _ (Wk.refl _) ⟨rfl,rfl⟩
theorem digits_c (n b k:Nat) (hb:1≤b) (hn:n≤9223372036854775807) (hk:k≤3) (H:Heap):VDet Tryz.prog 92 [.int .i64 (n:Nat),.int .i64 (b:Nat),.int .i64 (k:Nat)] H (.sl none k ((digN b k n).flatMap encN)):=by
 have d1:=Nat.div_le_self n b
 have d2:=Nat.div_le_self (n / b) b
 have d3:=Nat.div_le_self (n / b / b) b
 have:k=0∨k=1∨k=2∨k=3:=by omega
 rcases this with rfl|rfl|rfl|rfl
 all_goals
  refine zak Tryz.E0 Tryz.mx Tryz.func92 (by kernel_rfl) rfl (Nat.le_of_ble_eq_true rfl) rfl fun hcl hbl=>?_
  (repeat' ((conv=>whnf);(first|refine OrN.natL ?_|(refine EqN.id ?_;first|(refine EqN.subN _ _ Cst.h Cst.h ?_ ?_;· omega)|refine EqN.i64 (by omega) ?_|fail)|(refine SideN.mk ?_ ?_;· first|kernel_rfl|omega|exact List.cons_ne_nil _ _|(simp;done)|(simp;omega)|exact trivial|assumption|fail)|refine NatN.mk _ rfl ?_|refine OrN.r ?_|refine DrawN.mk' [] ?_|fail)));all_goals (conv=>whnf)
  refine LoopN.rounds Tryz.E0 Tryz.mx 4 rfl ?_
  (repeat' ((conv=>whnf);(first|(refine IfN.id ?_;first|refine IfN.tt rfl ?_|refine IfN.ff rfl ?_|fail)|(refine EqN.id ?_;first|with_reducible refine EqN.quoB rfl rfl hb (by omega) ?_|(refine EqN.subN _ _ Cst.h Cst.h ?_ ?_;· omega)|refine EqN.remN _ _ Cst.h Cst.h ?_|refine EqN.i64 (by omega) ?_|fail)|(refine SideN.mk ?_ ?_;· first|kernel_rfl|omega|exact List.cons_ne_nil _ _|(simp;done)|(simp;omega)|exact trivial|assumption|fail)|refine PtrN.loc _ rfl ?_|refine OfsN.at_ (by omega) ?_|refine DrawN.mk' [] ?_|fail)));all_goals (conv=>whnf)
  exact EndN.detF (u':=.sl none _ _) (by simp [below,zat]) (Frz.ms (by exact rfl) (by exact rfl) (FrzL.refl _)) (Wk.refl _)
theorem num_own (n:Nat) (hn:1≤n∧n≤3) (l:List Nat) (hl:l.length≤10) (h1:∀ v∈l,v<n) (H:Heap) (i:Nat) (hi:H[i]? = some (.box 3 (l.flatMap encN))):VDet Tryz.prog 104 [.ms i 0 l.length,.int .i64 (n:Nat)] H (.int .i64 ((numN n l:Nat):Int)) :=
 VDet.lend (as':=[.sl none l.length (l.flatMap encN),.int .i64 (n:Nat)]) (fun H=>number_c n hn l hl h1 H) (.cons (.ms hi rfl (LendL.refl _)) (LendL.refl _)) rfl
theorem mov_c (t n k:Nat) (p:List Nat) (hn:1≤n∧n≤3) (ht:t≤9223372036854775807) (hk:k≤2) (hp:PermOk n p) (H:Heap):VDet Tryz.prog 106 [.int .i64 (t:Nat),.int .i64 (n:Nat),.int .i64 (k:Nat),.sl none p.length (p.flatMap encN)] H (.int .i64 (mvN n p k t:Nat)):=by
 have hd:=fun H i hi=>digits_w t n k hn.1 ht (by omega) H i hi
 have m1:t % n<n:=Nat.mod_lt _ (by omega)
 have m2:t / n % n<n:=Nat.mod_lt _ (by omega)
 have l1:=hp.lt _ m1
 have l2:=hp.lt _ m2
 have hlen:=hp.len
 have:k=0∨k=1∨k=2:=by omega
 rcases this with rfl|rfl|rfl
 ·have hnu:=fun H i hi=>num_own n hn [] (by simp) (fun v hv=>by cases hv) H i hi
  refine zak Tryz.E0 Tryz.mx Tryz.func106 (by kernel_rfl) rfl (Nat.le_of_ble_eq_true rfl) rfl fun hcl hbl=>?_
  (repeat' ((conv=>whnf);(first|refine CallN.grow _ _ _ 1 (hd _ (H.length+0) (by simp)) rfl rfl rfl ?_|refine DrawN.mk' [] ?_|fail)));all_goals (conv=>whnf)
  refine LoopN.rounds Tryz.E0 Tryz.mx 1 rfl ?_
  (repeat' ((conv=>whnf);(first|refine IfN.ff rfl ?_|refine CallN.det _ (hnu _ _ (zar rfl)) ?_|refine DrawN.mk' [] ?_|fail)));all_goals (conv=>whnf)
  exact EndN.det trivial (Wk.refl _)
 ·have hnu:=fun H i hi=>num_own n hn [p.getD (t % n) 0] (by simp) (fun v hv=>by rw [List.mem_singleton.1 hv];exact l1) H i hi
  refine zak Tryz.E0 Tryz.mx Tryz.func106 (by kernel_rfl) rfl (Nat.le_of_ble_eq_true rfl) rfl fun hcl hbl=>?_
  (repeat' ((conv=>whnf);(first|refine CallN.grow _ _ _ 1 (hd _ (H.length+0) (by simp)) rfl rfl rfl ?_|refine DrawN.mk' [] ?_|fail)));all_goals (conv=>whnf)
  refine LoopN.rounds Tryz.E0 Tryz.mx 2 rfl ?_
  (repeat' ((conv=>whnf);(first|(refine IfN.id ?_;first|refine IfN.tt rfl ?_|refine IfN.ff rfl ?_|fail)|(refine EqN.addN _ _ Cst.h Cst.h ?_ ?_;· omega)|(refine SideN.mk ?_ ?_;· first|kernel_rfl|omega|exact List.cons_ne_nil _ _|(simp;done)|(simp;omega)|exact trivial|assumption|fail)|refine CallN.det _ (hnu _ _ (zar rfl)) ?_|refine SegN.nth (f:=encN) 0 (t % n) rfl (by omega) (fun _=>rfl) ?_|refine PtrN.loc _ rfl ?_|refine OfsN.at_ (by omega) ?_|refine DrawN.mk' [] ?_|fail)));all_goals (conv=>whnf)
  exact EndN.det trivial (Wk.refl _)
 ·have hnu:=fun H i hi=>num_own n hn [p.getD (t / n % n) 0,p.getD (t % n) 0] (by simp) (fun v hv=>by
   rcases List.mem_cons.1 hv with h|h
   ·rw [h];exact l2
   ·rw [List.mem_singleton.1 h];exact l1) H i hi
  refine zak Tryz.E0 Tryz.mx Tryz.func106 (by kernel_rfl) rfl (Nat.le_of_ble_eq_true rfl) rfl fun hcl hbl=>?_
  (repeat' ((conv=>whnf);(first|refine CallN.grow _ _ _ 1 (hd _ (H.length+0) (by simp)) rfl rfl rfl ?_|refine DrawN.mk' [] ?_|fail)));all_goals (conv=>whnf)
  refine LoopN.rounds Tryz.E0 Tryz.mx 3 rfl ?_
  (repeat' ((conv=>whnf);(first|(refine IfN.id ?_;first|refine IfN.tt rfl ?_|refine IfN.ff rfl ?_|fail)|(refine EqN.addN _ _ Cst.h Cst.h ?_ ?_;· omega)|(refine SideN.mk ?_ ?_;· first|kernel_rfl|omega|exact List.cons_ne_nil _ _|(simp;done)|(simp;omega)|exact trivial|assumption|fail)|refine CallN.det _ (hnu _ _ (zar rfl)) ?_|refine SegN.nth (f:=encN) 0 (t % n) rfl (by omega) (fun _=>rfl) ?_|refine SegN.nth (f:=encN) 0 (t / n % n) rfl (by omega) (fun _=>rfl) ?_|refine PtrN.loc _ rfl ?_|refine OfsN.at_ (by omega) ?_|refine DrawN.mk' [] ?_|fail)));all_goals (conv=>whnf)
  exact EndN.det trivial (Wk.refl _)
end
section
attribute [local irreducible] VW VCall VO bits
def pgo (n:Nat) (s:Nat→Bool):List Int→Bool
 | []=>true
 | a::l=>if a<0∨(n:Int)≤a∨s a.toNat=true then false else pgo n (fun v=>v==a.toNat || s v) l
def permB (n:Nat) (p:List Int):Bool:=decide (p.length=n)&&pgo n (fun _=>false) p
theorem permutes_c1 (p:List Int) (hl:p.length=1) (H:Heap):VDet Tryz.prog 105 [.sl none p.length (p.flatMap enc64),.int .i64 (1:Nat)] H (.bool (pgo 1 (fun _=>false) p)):=by
 refine zak Tryz.E0 Tryz.mx Tryz.func105 (by kernel_rfl) rfl (Nat.le_of_ble_eq_true rfl) rfl fun hcl hbl=>?_
 (repeat' ((conv=>whnf);(first|refine OrN.natL ?_|(refine IfN.id ?_;first|refine IfN.not ?_|refine IfN.dT (by omega) ?_|fail)|(refine SideN.mk ?_ ?_;· first|kernel_rfl|omega|exact List.cons_ne_nil _ _|(simp;done)|(simp;omega)|exact trivial|assumption|fail)|refine NatN.mk _ rfl ?_|refine OrN.r ?_|refine DrawN.mk' [] ?_|fail)));all_goals (conv=>whnf)
 refine za3 Tryz.E0 Tryz.mx (σ:=Nat×(Nat→Bool)) (fun q=>q.1≤p.length∧pgo 1 (fun _=>false) p=pgo 1 q.2 (p.drop q.1)) (fun q=>p.length-q.1) (fun q=>[(16,.v (.int .i64 q.1))]) (fun q=>[.box 4 [.bool (q.2 0)]]) _ (0,fun _=>false) rfl hcl [1,5,14,15] rfl ⟨Nat.zero_le _,rfl⟩ ⟨⟨_,rfl,Wk.refl _⟩,trivial⟩ rfl (fun _ _=>rfl) ?_
 rintro ⟨k,s⟩ ⟨hk,hj⟩
 simp only at hk hj
 rcases Nat.lt_or_ge k p.length with hlt|hge
 ·rw [drop_cons p 0 k hlt,pgo] at hj
  obtain ⟨a,ha⟩:∃ a,a=p.getD k 0:=⟨_,rfl⟩
  have e1:enc64 (p.getD k 0)=[.int .i64 a]:=by rw [ha];rfl
  rw [← ha] at hj
  by_cases h1:a<0
  ·rw [if_pos (.inl h1)] at hj
   rw [hj]
   (repeat' ((conv=>whnf);(first|refine IfN.dT (by omega) ?_|(refine SideN.mk ?_ ?_;· first|kernel_rfl|omega|exact List.cons_ne_nil _ _|(simp;done)|(simp;omega)|exact trivial|assumption|fail)|refine SegN.nthE (f:=enc64) 0 k rfl (by omega) i64_size e1 ?_|refine DrawN.mk' [] ?_|fail)));all_goals (conv=>whnf)
   exact EndN.det trivial (Wk.refl _)
  ·by_cases h2:1≤a
   ·rw [if_pos (.inr (.inl h2))] at hj
    rw [hj]
    (repeat' ((conv=>whnf);(first|(refine IfN.id ?_;first|refine IfN.dT (by omega) ?_|refine IfN.dF (by omega) ?_|fail)|(refine SideN.mk ?_ ?_;· first|kernel_rfl|omega|exact List.cons_ne_nil _ _|(simp;done)|(simp;omega)|exact trivial|assumption|fail)|refine SegN.nthE (f:=enc64) 0 k rfl (by omega) i64_size e1 ?_|refine DrawN.mk' [] ?_|fail)));all_goals (conv=>whnf)
    exact EndN.det trivial (Wk.refl _)
   ·obtain ⟨d,rfl⟩:∃ d:Nat,a=d:=⟨a.toNat,by omega⟩
    rw [Int.toNat_natCast] at hj
    have hd:d=0:=by omega
    rcases hd with rfl
    all_goals
     cases hb:s _ <;> rw [hb] at hj
     ·rw [if_neg (by simp)] at hj
      (repeat' ((conv=>whnf);(first|(refine IfN.id ?_;first|refine IfN.ff rfl ?_|refine IfN.dT (by omega) ?_|refine IfN.ff (by assumption) ?_|fail)|(refine EqN.addN _ _ Cst.h Cst.h ?_ ?_;· omega)|(refine SideN.mk ?_ ?_;· first|kernel_rfl|omega|exact List.cons_ne_nil _ _|(simp;done)|(simp;omega)|exact trivial|assumption|fail)|refine SegN.nthE (f:=enc64) 0 k rfl (by omega) i64_size e1 ?_|refine PtrN.loc _ rfl ?_|refine OfsN.at_ (by omega) ?_|refine DrawN.mk' [] ?_|fail)));all_goals (conv=>whnf)
      (refine ⟨⟨(k+1,fun v=>v==_ || s v),⟨by show k+1≤_;omega,hj⟩,by omega,?_,.inl ⟨rfl,rfl⟩,rfl,_,rfl,?_⟩⟩;rotate_left 1;(first|exact .inl rfl|exact .inr ⟨by simp [zal,below,zaa,tr,zad,zat],by simp [zap,Blk.below,zaa,below,zad,zat]⟩|fail);(repeat' (first|exact trivial|refine ⟨⟨_,rfl,?_⟩,?_⟩|fail));all_goals try (first|exact Wk.refl _|exact Wk.of_eq (congrArg (AV.int _) (by omega))|fail))
     ·rw [if_pos (.inr (.inr rfl))] at hj
      rw [hj]
      (repeat' ((conv=>whnf);(first|(refine IfN.id ?_;first|refine IfN.ff rfl ?_|refine IfN.dT (by omega) ?_|refine IfN.tt (by assumption) ?_|fail)|(refine SideN.mk ?_ ?_;· first|kernel_rfl|omega|exact List.cons_ne_nil _ _|(simp;done)|(simp;omega)|exact trivial|assumption|fail)|refine SegN.nthE (f:=enc64) 0 k rfl (by omega) i64_size e1 ?_|refine PtrN.loc _ rfl ?_|refine OfsN.at_ (by omega) ?_|refine DrawN.mk' [] ?_|fail)));all_goals (conv=>whnf)
      exact EndN.det trivial (Wk.refl _)
 ·have hke:k=p.length:=by omega
  subst hke
  rw [List.drop_length,pgo] at hj
  rw [hj]
  (repeat' ((conv=>whnf);(first|refine IfN.dF (by omega) ?_|refine DrawN.mk' [] ?_|fail)));all_goals (conv=>whnf)
  exact EndN.det trivial (Wk.refl _)
theorem permutes_c2 (p:List Int) (hl:p.length=2) (H:Heap):VDet Tryz.prog 105 [.sl none p.length (p.flatMap enc64),.int .i64 (2:Nat)] H (.bool (pgo 2 (fun _=>false) p)):=by
 refine zak Tryz.E0 Tryz.mx Tryz.func105 (by kernel_rfl) rfl (Nat.le_of_ble_eq_true rfl) rfl fun hcl hbl=>?_
 (repeat' ((conv=>whnf);(first|refine OrN.natL ?_|(refine IfN.id ?_;first|refine IfN.not ?_|refine IfN.dT (by omega) ?_|fail)|(refine SideN.mk ?_ ?_;· first|kernel_rfl|omega|exact List.cons_ne_nil _ _|(simp;done)|(simp;omega)|exact trivial|assumption|fail)|refine NatN.mk _ rfl ?_|refine OrN.r ?_|refine DrawN.mk' [] ?_|fail)));all_goals (conv=>whnf)
 refine za3 Tryz.E0 Tryz.mx (σ:=Nat×(Nat→Bool)) (fun q=>q.1≤p.length∧pgo 2 (fun _=>false) p=pgo 2 q.2 (p.drop q.1)) (fun q=>p.length-q.1) (fun q=>[(16,.v (.int .i64 q.1))]) (fun q=>[.box 4 [.bool (q.2 0),.bool (q.2 1)]]) _ (0,fun _=>false) rfl hcl [1,5,14,15] rfl ⟨Nat.zero_le _,rfl⟩ ⟨⟨_,rfl,Wk.refl _⟩,trivial⟩ rfl (fun _ _=>rfl) ?_
 rintro ⟨k,s⟩ ⟨hk,hj⟩
 simp only at hk hj
 rcases Nat.lt_or_ge k p.length with hlt|hge
 ·rw [drop_cons p 0 k hlt,pgo] at hj
  obtain ⟨a,ha⟩:∃ a,a=p.getD k 0:=⟨_,rfl⟩
  have e1:enc64 (p.getD k 0)=[.int .i64 a]:=by rw [ha];rfl
  rw [← ha] at hj
  by_cases h1:a<0
  ·rw [if_pos (.inl h1)] at hj
   rw [hj]
   (repeat' ((conv=>whnf);(first|refine IfN.dT (by omega) ?_|(refine SideN.mk ?_ ?_;· first|kernel_rfl|omega|exact List.cons_ne_nil _ _|(simp;done)|(simp;omega)|exact trivial|assumption|fail)|refine SegN.nthE (f:=enc64) 0 k rfl (by omega) i64_size e1 ?_|refine DrawN.mk' [] ?_|fail)));all_goals (conv=>whnf)
   exact EndN.det trivial (Wk.refl _)
  ·by_cases h2:2≤a
   ·rw [if_pos (.inr (.inl h2))] at hj
    rw [hj]
    (repeat' ((conv=>whnf);(first|(refine IfN.id ?_;first|refine IfN.dT (by omega) ?_|refine IfN.dF (by omega) ?_|fail)|(refine SideN.mk ?_ ?_;· first|kernel_rfl|omega|exact List.cons_ne_nil _ _|(simp;done)|(simp;omega)|exact trivial|assumption|fail)|refine SegN.nthE (f:=enc64) 0 k rfl (by omega) i64_size e1 ?_|refine DrawN.mk' [] ?_|fail)));all_goals (conv=>whnf)
    exact EndN.det trivial (Wk.refl _)
   ·obtain ⟨d,rfl⟩:∃ d:Nat,a=d:=⟨a.toNat,by omega⟩
    rw [Int.toNat_natCast] at hj
    have hd:d=0∨d=1:=by omega
    rcases hd with rfl|rfl
    all_goals
     cases hb:s _ <;> rw [hb] at hj
     ·rw [if_neg (by simp)] at hj
      (repeat' ((conv=>whnf);(first|(refine IfN.id ?_;first|refine IfN.ff rfl ?_|refine IfN.dT (by omega) ?_|refine IfN.ff (by assumption) ?_|fail)|(refine EqN.addN _ _ Cst.h Cst.h ?_ ?_;· omega)|(refine SideN.mk ?_ ?_;· first|kernel_rfl|omega|exact List.cons_ne_nil _ _|(simp;done)|(simp;omega)|exact trivial|assumption|fail)|refine SegN.nthE (f:=enc64) 0 k rfl (by omega) i64_size e1 ?_|refine PtrN.loc _ rfl ?_|refine OfsN.at_ (by omega) ?_|refine DrawN.mk' [] ?_|fail)));all_goals (conv=>whnf)
      (refine ⟨⟨(k+1,fun v=>v==_ || s v),⟨by show k+1≤_;omega,hj⟩,by omega,?_,.inl ⟨rfl,rfl⟩,rfl,_,rfl,?_⟩⟩;rotate_left 1;(first|exact .inl rfl|exact .inr ⟨by simp [zal,below,zaa,tr,zad,zat],by simp [zap,Blk.below,zaa,below,zad,zat]⟩|fail);(repeat' (first|exact trivial|refine ⟨⟨_,rfl,?_⟩,?_⟩|fail));all_goals try (first|exact Wk.refl _|exact Wk.of_eq (congrArg (AV.int _) (by omega))|fail))
     ·rw [if_pos (.inr (.inr rfl))] at hj
      rw [hj]
      (repeat' ((conv=>whnf);(first|(refine IfN.id ?_;first|refine IfN.ff rfl ?_|refine IfN.dT (by omega) ?_|refine IfN.tt (by assumption) ?_|fail)|(refine SideN.mk ?_ ?_;· first|kernel_rfl|omega|exact List.cons_ne_nil _ _|(simp;done)|(simp;omega)|exact trivial|assumption|fail)|refine SegN.nthE (f:=enc64) 0 k rfl (by omega) i64_size e1 ?_|refine PtrN.loc _ rfl ?_|refine OfsN.at_ (by omega) ?_|refine DrawN.mk' [] ?_|fail)));all_goals (conv=>whnf)
      exact EndN.det trivial (Wk.refl _)
 ·have hke:k=p.length:=by omega
  subst hke
  rw [List.drop_length,pgo] at hj
  rw [hj]
  (repeat' ((conv=>whnf);(first|refine IfN.dF (by omega) ?_|refine DrawN.mk' [] ?_|fail)));all_goals (conv=>whnf)
  exact EndN.det trivial (Wk.refl _)
theorem permutes_c3 (p:List Int) (hl:p.length=3) (H:Heap):VDet Tryz.prog 105 [.sl none p.length (p.flatMap enc64),.int .i64 (3:Nat)] H (.bool (pgo 3 (fun _=>false) p)):=by
 refine zak Tryz.E0 Tryz.mx Tryz.func105 (by kernel_rfl) rfl (Nat.le_of_ble_eq_true rfl) rfl fun hcl hbl=>?_
 (repeat' ((conv=>whnf);(first|refine OrN.natL ?_|(refine IfN.id ?_;first|refine IfN.not ?_|refine IfN.dT (by omega) ?_|fail)|(refine SideN.mk ?_ ?_;· first|kernel_rfl|omega|exact List.cons_ne_nil _ _|(simp;done)|(simp;omega)|exact trivial|assumption|fail)|refine NatN.mk _ rfl ?_|refine OrN.r ?_|refine DrawN.mk' [] ?_|fail)));all_goals (conv=>whnf)
 refine za3 Tryz.E0 Tryz.mx (σ:=Nat×(Nat→Bool)) (fun q=>q.1≤p.length∧pgo 3 (fun _=>false) p=pgo 3 q.2 (p.drop q.1)) (fun q=>p.length-q.1) (fun q=>[(16,.v (.int .i64 q.1))]) (fun q=>[.box 4 [.bool (q.2 0),.bool (q.2 1),.bool (q.2 2)]]) _ (0,fun _=>false) rfl hcl [1,5,14,15] rfl ⟨Nat.zero_le _,rfl⟩ ⟨⟨_,rfl,Wk.refl _⟩,trivial⟩ rfl (fun _ _=>rfl) ?_
 rintro ⟨k,s⟩ ⟨hk,hj⟩
 simp only at hk hj
 rcases Nat.lt_or_ge k p.length with hlt|hge
 ·rw [drop_cons p 0 k hlt,pgo] at hj
  obtain ⟨a,ha⟩:∃ a,a=p.getD k 0:=⟨_,rfl⟩
  have e1:enc64 (p.getD k 0)=[.int .i64 a]:=by rw [ha];rfl
  rw [← ha] at hj
  by_cases h1:a<0
  ·rw [if_pos (.inl h1)] at hj
   rw [hj]
   (repeat' ((conv=>whnf);(first|refine IfN.dT (by omega) ?_|(refine SideN.mk ?_ ?_;· first|kernel_rfl|omega|exact List.cons_ne_nil _ _|(simp;done)|(simp;omega)|exact trivial|assumption|fail)|refine SegN.nthE (f:=enc64) 0 k rfl (by omega) i64_size e1 ?_|refine DrawN.mk' [] ?_|fail)));all_goals (conv=>whnf)
   exact EndN.det trivial (Wk.refl _)
  ·by_cases h2:3≤a
   ·rw [if_pos (.inr (.inl h2))] at hj
    rw [hj]
    (repeat' ((conv=>whnf);(first|(refine IfN.id ?_;first|refine IfN.dT (by omega) ?_|refine IfN.dF (by omega) ?_|fail)|(refine SideN.mk ?_ ?_;· first|kernel_rfl|omega|exact List.cons_ne_nil _ _|(simp;done)|(simp;omega)|exact trivial|assumption|fail)|refine SegN.nthE (f:=enc64) 0 k rfl (by omega) i64_size e1 ?_|refine DrawN.mk' [] ?_|fail)));all_goals (conv=>whnf)
    exact EndN.det trivial (Wk.refl _)
   ·obtain ⟨d,rfl⟩:∃ d:Nat,a=d:=⟨a.toNat,by omega⟩
    rw [Int.toNat_natCast] at hj
    have hd:d=0∨d=1∨d=2:=by omega
    rcases hd with rfl|rfl|rfl
    all_goals
     cases hb:s _ <;> rw [hb] at hj
     ·rw [if_neg (by simp)] at hj
      (repeat' ((conv=>whnf);(first|(refine IfN.id ?_;first|refine IfN.ff rfl ?_|refine IfN.dT (by omega) ?_|refine IfN.ff (by assumption) ?_|fail)|(refine EqN.addN _ _ Cst.h Cst.h ?_ ?_;· omega)|(refine SideN.mk ?_ ?_;· first|kernel_rfl|omega|exact List.cons_ne_nil _ _|(simp;done)|(simp;omega)|exact trivial|assumption|fail)|refine SegN.nthE (f:=enc64) 0 k rfl (by omega) i64_size e1 ?_|refine PtrN.loc _ rfl ?_|refine OfsN.at_ (by omega) ?_|refine DrawN.mk' [] ?_|fail)));all_goals (conv=>whnf)
      (refine ⟨⟨(k+1,fun v=>v==_ || s v),⟨by show k+1≤_;omega,hj⟩,by omega,?_,.inl ⟨rfl,rfl⟩,rfl,_,rfl,?_⟩⟩;rotate_left 1;(first|exact .inl rfl|exact .inr ⟨by simp [zal,below,zaa,tr,zad,zat],by simp [zap,Blk.below,zaa,below,zad,zat]⟩|fail);(repeat' (first|exact trivial|refine ⟨⟨_,rfl,?_⟩,?_⟩|fail));all_goals try (first|exact Wk.refl _|exact Wk.of_eq (congrArg (AV.int _) (by omega))|fail))
     ·rw [if_pos (.inr (.inr rfl))] at hj
      rw [hj]
      (repeat' ((conv=>whnf);(first|(refine IfN.id ?_;first|refine IfN.ff rfl ?_|refine IfN.dT (by omega) ?_|refine IfN.tt (by assumption) ?_|fail)|(refine SideN.mk ?_ ?_;· first|kernel_rfl|omega|exact List.cons_ne_nil _ _|(simp;done)|(simp;omega)|exact trivial|assumption|fail)|refine SegN.nthE (f:=enc64) 0 k rfl (by omega) i64_size e1 ?_|refine PtrN.loc _ rfl ?_|refine OfsN.at_ (by omega) ?_|refine DrawN.mk' [] ?_|fail)));all_goals (conv=>whnf)
      exact EndN.det trivial (Wk.refl _)
 ·have hke:k=p.length:=by omega
  subst hke
  rw [List.drop_length,pgo] at hj
  rw [hj]
  (repeat' ((conv=>whnf);(first|refine IfN.dF (by omega) ?_|refine DrawN.mk' [] ?_|fail)));all_goals (conv=>whnf)
  exact EndN.det trivial (Wk.refl _)
theorem permutes_c (n:Nat) (hn:1≤n∧n≤3) (p:List Int) (H:Heap):VDet Tryz.prog 105 [.sl none p.length (p.flatMap enc64),.int .i64 (n:Nat)] H (.bool (permB n p)):=by
 unfold permB
 by_cases h:p.length=n
 ·rw [decide_eq_true h,Bool.true_and]
  have:n=1∨n=2∨n=3:=by omega
  rcases this with rfl|rfl|rfl
  ·exact permutes_c1 p h H
  ·exact permutes_c2 p h H
  ·exact permutes_c3 p h H
 ·rw [decide_eq_false h,Bool.false_and]
  refine zak Tryz.E0 Tryz.mx Tryz.func105 (by kernel_rfl) rfl (Nat.le_of_ble_eq_true rfl) rfl fun hcl hbl=>?_
  (repeat' ((conv=>whnf);(first|(refine IfN.id ?_;first|refine IfN.not ?_|refine IfN.dF (by omega) ?_|fail)|refine DrawN.mk' [] ?_|fail)));all_goals (conv=>whnf)
  exact EndN.det trivial (Wk.refl _)
theorem pgo_ok {n:Nat}:∀ (l:List Nat) (s:Nat→Bool),(∀ a∈l,a<n∧s a=false)→l.Nodup→pgo n s (l.map Int.ofNat)=true
 | [],_,_,_=>rfl
 | a::l,s,h,hn=>by
   obtain ⟨h1,h2⟩:=h a List.mem_cons_self
   rw [List.nodup_cons] at hn
   rw [List.map_cons,pgo,if_neg]
   ·refine pgo_ok l _ (fun b hb=>?_) hn.2
    obtain ⟨q1,q2⟩:=h b (List.mem_cons_of_mem _ hb)
    refine ⟨q1,?_⟩
    have hne:b≠a:=fun e=>hn.1 (e▸hb)
    simp [hne,q2]
   ·rintro (q|q|q)
    ·have:(0:Int)≤Int.ofNat a:=Int.natCast_nonneg a
     omega
    ·have q:(n:Int)≤(a:Int):=q
     omega
    ·have q:s a=true:=q
     rw [h2] at q
     cases q
end
section
attribute [local irreducible] VW VCall VO bits
theorem ranges_w (s:Sig) (n:Nat) (hn:1≤n∧n≤3) (l1:s.preds.length≤1000000) (l2:s.funcs.length≤1000000) (l3:s.vars.length≤1000000) (p1:∀ x∈s.preds,0≤x.2∧x.2≤2) (p2:∀ x∈s.funcs,0≤x.2∧x.2≤1) (H:Heap) (i:Nat) (hi:H.length+1=i) :
  VCall Tryz.prog 87 [.agg s.cells,.int .i64 (n:Nat)] H (fun r H'=>r=.vs i (rngS s n).length∧H'=H++[.box 58 s.cells,.vec 3 1 ((rngS s n).flatMap enc64)]):=by
 subst hi
 have hsc:s.cells=[.sl none s.preds.length (s.preds.flatMap symI),.sl none s.funcs.length (s.funcs.flatMap symI),.sl none s.vars.length (s.vars.flatMap encS)]:=rfl
 rw [hsc]
 refine za8 Tryz.E0 Tryz.mx Tryz.func87 (by kernel_rfl) rfl (Nat.le_of_ble_eq_true rfl) rfl fun hcl hbl=>?_
 (repeat' ((conv=>whnf);(first|refine DrawN.mk' [] ?_|fail)));all_goals (conv=>whnf)
 refine LoopN.tok 5 3 1 rfl rfl rfl ?_
 refine LoopN.tokVec 5 1 3 1 rfl rfl rfl ?_
 refine za3 Tryz.E0 Tryz.mx (σ:=Nat) (fun k=>k≤s.preds.length) (fun k=>s.preds.length-k) (fun k=>[(5,.v (.vs (H.length+1) k)),(13,.v (.int .i64 k))]) (fun k=>[.box 58 [.sl none s.preds.length (s.preds.flatMap symI),.sl none s.funcs.length (s.funcs.flatMap symI),.sl none s.vars.length (s.vars.flatMap encS)],.vec 3 1 (((s.preds.map (rP n)).take k).flatMap enc64)]) _ 0 rfl hcl [1,2,11,12] rfl (Nat.zero_le _) ⟨⟨_,rfl,Wk.refl _⟩,⟨_,rfl,Wk.refl _⟩,trivial⟩ rfl (fun _ _=>rfl) ?_
 intro k hk
 rcases Nat.lt_or_ge k s.preds.length with hlt|hge
 ·have hmem:s.preds.getD k symI0∈s.preds:=by rw [List.getD_eq_getElem?_getD,List.getElem?_eq_getElem hlt];exact List.getElem_mem hlt
  obtain ⟨u,v,hx,e1⟩:=symI_ex (s.preds.getD k symI0)
  have ha:=p1 _ hmem
  have hns:=take_mapD (rP n) symI0 s.preds k hlt
  rw [hx] at ha hns
  simp only at ha
  have hpw:=fun H=>powN_c n v.toNat hn (by omega) H
  rw [show ((v.toNat:Nat):Int)=v by omega] at hpw
  have hq:n ^ v.toNat≤9:=by
   have h1:n ^ v.toNat≤3 ^ v.toNat:=Nat.pow_le_pow_left hn.2 _
   have h2:3 ^ v.toNat≤3 ^ 2:=Nat.pow_le_pow_right (by decide) (by omega)
   omega
  have hrp:rP n (u,v)=((2 ^ n ^ v.toNat:Nat):Int):=rfl
  rw [hrp] at hns
  generalize n ^ v.toNat=q at hpw hq hns
  have hml:(((s.preds.map (rP n)).take k).flatMap enc64).length=k * 1:=by
   rw [zaq (f:=enc64) (sz:=1) (fun _=>rfl),List.length_take,List.length_map,Nat.min_eq_left hk]
  have hbt:(k+1) * 8≤140737488355328:=by omega
  have hmx:k+1≤maxLen:=Nat.le_trans (show k+1≤1000001 by omega) (by decide)
  (repeat' ((conv=>whnf);(first|refine IfN.dT (by omega) ?_|(refine EqN.id ?_;first|(refine EqN.shlN _ _ Cst.h Cst.h rfl ?_ ?_ ?_;(· (repeat' (first|omega|refine And.intro ?_ ?_|exact za4 (by omega)|exact bnd_andr (by omega)|refine bnd_or ?_ ?_|refine bnd_or31 ?_ ?_|refine bnd_xor ?_ ?_|refine bnd_xor31 ?_ ?_|refine bnd_shr ?_|refine bnd_shl ?_ ?_|refine bnd_mod ?_|refine za4 ?_|fail)));(· (repeat' (first|omega|refine And.intro ?_ ?_|exact za4 (by omega)|exact bnd_andr (by omega)|refine bnd_or ?_ ?_|refine bnd_or31 ?_ ?_|refine bnd_xor ?_ ?_|refine bnd_xor31 ?_ ?_|refine bnd_shr ?_|refine bnd_shl ?_ ?_|refine bnd_mod ?_|refine za4 ?_|fail))))|(refine EqN.addN _ _ Cst.h Cst.h ?_ ?_;· omega)|fail)|(refine SideN.mk ?_ ?_;· first|kernel_rfl|omega|exact List.cons_ne_nil _ _|(simp;done)|(simp;omega)|exact trivial|assumption|fail)|refine CallN.det _ (hpw _) ?_|refine SegN.nthE symI0 k rfl (by omega) symI_size e1 ?_|refine SideN.mk ⟨hml,rfl,rfl,hbt,hmx⟩ ?_|refine PtrN.loc _ rfl ?_|refine DrawN.mk' [] ?_|fail)));all_goals (conv=>whnf)
  have hns':((s.preds.map (rP n)).take (k+1)).flatMap enc64=((s.preds.map (rP n)).take k).flatMap enc64++[.int .i64 ((1 <<< q:Nat):Int)]:=by rw [Nat.one_shiftLeft];exact hns
  rw [← hns']
  (refine ⟨⟨k+1,by show k+1≤_;omega,by omega,?_,.inl ⟨rfl,rfl⟩,rfl,_,rfl,?_⟩⟩;rotate_left 1;(first|exact .inl rfl|exact .inr ⟨by simp [zal,below,zaa,tr,zad,zac,zae,zav],by simp [zap,Blk.below,zaa,below,zad,zac,zae,zav]⟩|fail);(repeat' (first|exact trivial|refine ⟨⟨_,rfl,?_⟩,?_⟩|fail));all_goals try (first|exact Wk.refl _|exact Wk.of_eq (congrArg (AV.int _) (by omega))|fail))
 ·have hke:k=s.preds.length:=by omega
  subst hke
  rw [List.take_of_length_le (by rw [List.length_map];exact Nat.le_refl _)]
  (repeat' ((conv=>whnf);(first|refine IfN.dF (by omega) ?_|refine DrawN.mk' [] ?_|fail)));all_goals (conv=>whnf)
  refine za3 Tryz.E0 Tryz.mx (σ:=Nat) (fun k=>k≤s.funcs.length) (fun k=>s.funcs.length-k) (fun k=>[(5,.v (.vs (H.length+1) (s.preds.length+k))),(29,.v (.int .i64 k))]) (fun k=>[.box 58 [.sl none s.preds.length (s.preds.flatMap symI),.sl none s.funcs.length (s.funcs.flatMap symI),.sl none s.vars.length (s.vars.flatMap encS)],.vec 3 1 ((s.preds.map (rP n)).flatMap enc64++((s.funcs.map (rF n)).take k).flatMap enc64)]) _ 0 rfl hcl [1,2,27,28] rfl (Nat.zero_le _) ⟨⟨_,rfl,Wk.of_eq (by simp [tr])⟩,⟨_,rfl,Wk.refl _⟩,trivial⟩ (by simp) (fun _ _=>rfl) ?_
  intro k hk
  rcases Nat.lt_or_ge k s.funcs.length with hlt|hge
  ·have hmem:s.funcs.getD k symI0∈s.funcs:=by rw [List.getD_eq_getElem?_getD,List.getElem?_eq_getElem hlt];exact List.getElem_mem hlt
   obtain ⟨u,v,hx,e1⟩:=symI_ex (s.funcs.getD k symI0)
   have ha:=p2 _ hmem
   have hns:=take_mapD (rF n) symI0 s.funcs k hlt
   rw [hx] at ha hns
   simp only at ha
   have hpw:=fun H=>powN_c n v.toNat hn (by omega) H
   rw [show ((v.toNat:Nat):Int)=v by omega] at hpw
   have hq:n ^ v.toNat≤3:=by
    have h1:n ^ v.toNat≤3 ^ v.toNat:=Nat.pow_le_pow_left hn.2 _
    have h2:3 ^ v.toNat≤3 ^ 1:=Nat.pow_le_pow_right (by decide) (by omega)
    omega
   have hrp:rF n (u,v)=((n ^ n ^ v.toNat:Nat):Int):=rfl
   rw [hrp] at hns
   generalize n ^ v.toNat=q at hpw hq hns
   have hpw2:=fun H=>powN_c n q hn (by omega) H
   have hml:((s.preds.map (rP n)).flatMap enc64++((s.funcs.map (rF n)).take k).flatMap enc64).length=(s.preds.length+k) * 1:=by
    rw [List.length_append,zaq (f:=enc64) (sz:=1) (fun _=>rfl),zaq (f:=enc64) (sz:=1) (fun _=>rfl),List.length_take,List.length_map,List.length_map,Nat.min_eq_left hk]
    omega
   have hbt:(s.preds.length+k+1) * 8≤140737488355328:=by omega
   have hmx:s.preds.length+k+1≤maxLen:=Nat.le_trans (show s.preds.length+k+1≤2000001 by omega) (by decide)
   (repeat' ((conv=>whnf);(first|refine IfN.dT (by omega) ?_|(refine EqN.addN _ _ Cst.h Cst.h ?_ ?_;· omega)|(refine SideN.mk ?_ ?_;· first|kernel_rfl|omega|exact List.cons_ne_nil _ _|(simp;done)|(simp;omega)|exact trivial|assumption|fail)|(refine CallN.id ?_;first|refine CallN.det _ (hpw _) ?_|refine CallN.det _ (hpw2 _) ?_|fail)|refine SegN.nthE symI0 k rfl (by omega) symI_size e1 ?_|refine SideN.mk ⟨hml,rfl,rfl,hbt,hmx⟩ ?_|refine PtrN.loc _ rfl ?_|refine DrawN.mk' [] ?_|fail)));all_goals (conv=>whnf)
   rw [List.append_assoc,← hns]
   (refine ⟨⟨k+1,by show k+1≤_;omega,by omega,?_,.inl ⟨rfl,rfl⟩,rfl,_,rfl,?_⟩⟩;rotate_left 1;(first|exact .inl rfl|exact .inr ⟨by simp [zal,below,zaa,tr,zad,zac,zae,zav],by simp [zap,Blk.below,zaa,below,zad,zac,zae,zav]⟩|fail);(repeat' (first|exact trivial|refine ⟨⟨_,rfl,?_⟩,?_⟩|fail));all_goals try (first|exact Wk.refl _|exact Wk.of_eq (congrArg (AV.int _) (by omega))|fail))
  ·have hke:k=s.funcs.length:=by omega
   subst hke
   rw [List.take_of_length_le (l:=s.funcs.map (rF n)) (by rw [List.length_map];exact Nat.le_refl _)]
   (repeat' ((conv=>whnf);(first|refine IfN.dF (by omega) ?_|refine DrawN.mk' [] ?_|fail)));all_goals (conv=>whnf)
   refine za3 Tryz.E0 Tryz.mx (σ:=Nat) (fun k=>k≤s.vars.length) (fun k=>s.vars.length-k) (fun k=>[(5,.v (.vs (H.length+1) (s.preds.length+s.funcs.length+k))),(46,.v (.int .i64 k))]) (fun k=>[.box 58 [.sl none s.preds.length (s.preds.flatMap symI),.sl none s.funcs.length (s.funcs.flatMap symI),.sl none s.vars.length (s.vars.flatMap encS)],.vec 3 1 ((s.preds.map (rP n)).flatMap enc64++(s.funcs.map (rF n)).flatMap enc64++((s.vars.map fun _=>(n:Int)).take k).flatMap enc64)]) _ 0 rfl hcl [1,2,44,45] rfl (Nat.zero_le _) ⟨⟨_,rfl,Wk.of_eq (by simp [tr])⟩,⟨_,rfl,Wk.refl _⟩,trivial⟩ (by simp) (fun _ _=>rfl) ?_
   intro k hk
   rcases Nat.lt_or_ge k s.vars.length with hlt|hge
   ·have hns:=take_mapD (fun _:ByteArray=>(n:Int)) .empty s.vars k hlt
    have hml:((s.preds.map (rP n)).flatMap enc64++(s.funcs.map (rF n)).flatMap enc64++((s.vars.map fun _=>(n:Int)).take k).flatMap enc64).length=(s.preds.length+s.funcs.length+k) * 1:=by
     rw [List.length_append,List.length_append,zaq (f:=enc64) (sz:=1) (fun _=>rfl),zaq (f:=enc64) (sz:=1) (fun _=>rfl),zaq (f:=enc64) (sz:=1) (fun _=>rfl),List.length_take,List.length_map,List.length_map,List.length_map,Nat.min_eq_left hk]
     omega
    have hbt:(s.preds.length+s.funcs.length+k+1) * 8≤140737488355328:=by omega
    have hmx:s.preds.length+s.funcs.length+k+1≤maxLen:=Nat.le_trans (show s.preds.length+s.funcs.length+k+1≤3000001 by omega) (by decide)
    (repeat' ((conv=>whnf);(first|refine IfN.dT (by omega) ?_|(refine EqN.addN _ _ Cst.h Cst.h ?_ ?_;· omega)|refine SideN.mk ⟨hml,rfl,rfl,hbt,hmx⟩ ?_|refine PtrN.loc _ rfl ?_|refine DrawN.mk' [] ?_|fail)));all_goals (conv=>whnf)
    rw [List.append_assoc _ _ [AV.int .i64 (n:Nat)],← hns]
    (refine ⟨⟨k+1,by show k+1≤_;omega,by omega,?_,.inl ⟨rfl,rfl⟩,rfl,_,rfl,?_⟩⟩;rotate_left 1;(first|exact .inl rfl|exact .inr ⟨by simp [zal,below,zaa,tr,zad,zac,zae,zav],by simp [zap,Blk.below,zaa,below,zad,zac,zae,zav]⟩|fail);(repeat' (first|exact trivial|refine ⟨⟨_,rfl,?_⟩,?_⟩|fail));all_goals try (first|exact Wk.refl _|exact Wk.of_eq (congrArg (AV.int _) (by omega))|fail))
   ·have hke:k=s.vars.length:=by omega
    subst hke
    rw [List.take_of_length_le (l:=s.vars.map fun _=>(n:Int)) (by rw [List.length_map];exact Nat.le_refl _)]
    (repeat' ((conv=>whnf);(first|refine IfN.dF (by omega) ?_|refine DrawN.mk' [] ?_|fail)));all_goals (conv=>whnf)
    have hr:(rngS s n).flatMap enc64=(s.preds.map (rP n)).flatMap enc64++(s.funcs.map (rF n)).flatMap enc64++(s.vars.map fun _=>(n:Int)).flatMap enc64:=by
     unfold rngS
     rw [List.flatMap_append,List.flatMap_append]
    have hr2:(rngS s n).length=s.preds.length+s.funcs.length+s.vars.length:=by
     unfold rngS
     rw [List.length_append,List.length_append,List.length_map,List.length_map,List.length_map]
    rw [hr,hr2]
    exact EndN.keep _ (Wk.refl _) ⟨rfl,rfl⟩
end
section
attribute [local irreducible] VW VCall VO bits
theorem SubN.tail {x:AV} {cs:List AV} {o n m:Nat} {k:List AV→Prop} (ho:o=1) (hn:n=m) (hc:cs.length=m) (a:k cs):SubN (x::cs) o n k:=by
 subst ho
 subst hn
 exact ⟨cs,⟨⟨[],by simp⟩,hc⟩,a⟩
theorem next_c (q n:Nat) (c:Int) (cs:List AV) (hc:cs.length=n) (hcs:∀ m,zaa m cs) (H:Heap) (hq:H[q]? = some (.box 32 [.sl none (n+1) (.int .i64 c::cs)])):VCall Tryz.prog 91 [.ptr q 0] H (setR H q (.box 32 [.sl none n cs]) (.int .i64 c)):=by
 refine za8 Tryz.E0 Tryz.mx Tryz.func91 (by kernel_rfl) rfl (Nat.le_of_ble_eq_true rfl) rfl fun hcl hbl=>?_
 (repeat' ((conv=>whnf);(first|(refine SideN.mk ?_ ?_;· first|kernel_rfl|omega|exact List.cons_ne_nil _ _|(simp;done)|(simp;omega)|exact trivial|assumption|fail)|refine SetN.mk _ rfl ?_|refine NatN.mk _ rfl ?_|refine SubN.tail rfl (by show (n+1-1) * 1=n;omega) hc ?_|refine PtrN.base _ (by (repeat' (first|assumption|exact zau _ rfl|exact zar rfl|refine zaw (B':=?_) ?_|refine zan ?_|fail))) ?_|refine SegN.mk _ (seg_rfl rfl) ?_|refine DrawN.mk' [] ?_|fail)));all_goals (conv=>whnf)
 exact EndN.setB (by simp [Blk.below,below,zaa,hcs]) trivial (Wk.refl _)
end
def rnN (s:Sig) (n:Nat):List Nat:=s.preds.map (fun x=>2 ^ n ^ x.2.toNat)++s.funcs.map (fun x=>n ^ n ^ x.2.toNat)++s.vars.map fun _=>n
theorem encN_map (l:List Nat):l.flatMap encN=l.map fun x=>AV.int .i64 ((x:Nat):Int):=by
 induction l with
 | nil=>rfl
 | cons x l ih=>rw [List.flatMap_cons,List.map_cons,ih];rfl
theorem enc64_map (l:List Int):l.flatMap enc64=l.map fun x=>AV.int .i64 x:=by
 induction l with
 | nil=>rfl
 | cons x l ih=>rw [List.flatMap_cons,List.map_cons,ih];rfl
theorem rng_nat (s:Sig) (n:Nat):rngS s n=(rnN s n).map fun x=>((x:Nat):Int):=by
 unfold rngS rnN
 rw [List.map_append,List.map_append,List.map_map,List.map_map,List.map_map]
 rfl
theorem rng_flat (s:Sig) (n:Nat):(rngS s n).flatMap enc64=(rnN s n).flatMap encN:=by
 rw [enc64_map,encN_map,rng_nat,List.map_map]
 rfl
theorem rng_len (s:Sig) (n:Nat):(rngS s n).length=(rnN s n).length:=by rw [rng_nat,List.length_map]
theorem rn_pos (s:Sig) (n:Nat) (hn:1≤n):∀ r∈rnN s n,0<r:=by
 intro r hr
 have:=rng_pos s n hn (r:Int) (by rw [rng_nat];exact List.mem_map.2 ⟨r,hr,rfl⟩)
 omega
def mixN (rs:List Nat) (N i:Nat):List Nat:=rs.take i++digR (rs.drop i) N
theorem mix_len (rs:List Nat) (N i:Nat) (h:i≤rs.length):(mixN rs N i).length=rs.length:=by
 unfold mixN
 rw [List.length_append,List.length_take,digR_len,List.length_drop]
 omega
theorem mix_full (rs:List Nat) (N:Nat):mixN rs N rs.length=rs:=by
 unfold mixN
 rw [List.take_length,List.drop_length]
 simp [digR]
theorem mix_zero (rs:List Nat) (N:Nat):mixN rs N 0=digR rs N:=by
 unfold mixN
 simp
theorem mix_get (rs:List Nat) (N i:Nat) (h:i<rs.length):(mixN rs N (i+1)).getD i 0=rs.getD i 0:=by
 unfold mixN
 rw [List.getD_eq_getElem?_getD,List.getElem?_append_left (by rw [List.length_take];omega),List.getElem?_take,if_pos (by omega),← List.getD_eq_getElem?_getD]
theorem mix_step (rs:List Nat) (N i:Nat) (h:i<rs.length):mixN rs N i=rs.take i++(N / prodR (rs.drop (i+1)) % rs.getD i 0)::digR (rs.drop (i+1)) N:=by
 unfold mixN
 rw [za7 rs i 0 h]
 rfl
theorem mix_set (rs:List Nat) (N i:Nat) (h:i<rs.length):setL ((mixN rs N (i+1)).flatMap encN) (i * 1) [.int .i64 ((N / prodR (rs.drop (i+1)) % rs.getD i 0:Nat):Int)]=(mixN rs N i).flatMap encN:=by
 rw [mix_step rs N i h]
 unfold setL mixN
 rw [encN_map,encN_map,List.map_append,List.map_append,List.map_cons,Nat.mul_one]
 have hl:((rs.take (i+1)).map fun x=>AV.int .i64 ((x:Nat):Int)).length=i+1:=by rw [List.length_map,List.length_take];omega
 rw [List.take_append_of_le_length (by omega),← List.map_take,List.take_take,Nat.min_eq_left (by omega)]
 have hd:List.drop (i+[AV.int IntKind.i64 ((N / prodR (rs.drop (i+1)) % rs.getD i 0:Nat):Int)].length) (((rs.take (i+1)).map fun x=>AV.int .i64 ((x:Nat):Int))++((digR (rs.drop (i+1)) N).map fun x=>AV.int .i64 ((x:Nat):Int)))=(digR (rs.drop (i+1)) N).map fun x=>AV.int .i64 ((x:Nat):Int):=List.drop_left' hl
 rw [hd,List.append_assoc]
 rfl
theorem mix_div (rs:List Nat) (N i:Nat) (h:i<rs.length):N / prodR (rs.drop (i+1)) / rs.getD i 0=N / prodR (rs.drop i):=by
 rw [za7 rs i 0 h,prodR_cons,Nat.div_div_eq_div_mul,Nat.mul_comm]
def mkFct (x:SymI) (d:Nat):Fct:=⟨x.1,x.2,(d:Nat)⟩
def mkFnc (n:Nat) (x:SymI) (d:Nat):Fnc:=⟨x.1,x.2,(digN n (n ^ x.2.toNat) d).map Int.ofNat⟩
def mkBnd (x:ByteArray) (d:Nat):Bnd:=⟨x,(d:Nat)⟩
def nthM (s:Sig) (n:Nat) (ds:List Nat):Mdl :=
 ⟨2,n,[],0,List.zipWith mkFct s.preds ds,List.zipWith (mkFnc n) s.funcs (ds.drop s.preds.length),List.zipWith mkBnd s.vars (ds.drop (s.preds.length+s.funcs.length))⟩
theorem zip_take {α β:Type} (f:α→Nat→β) (d:α):∀ (l:List α) (ds:List Nat) (k:Nat),k<l.length→k<ds.length→List.zipWith f (l.take (k+1)) ds=List.zipWith f (l.take k) ds++[f (l.getD k d) (ds.getD k 0)]
 | [],_,_,h,_=>by cases h
 | _::_,[],_,_,h=>by cases h
 | x::l,y::ds,0,_,_=>by simp
 | x::l,y::ds,k+1,h1,h2=>by
   simp only [List.take_succ_cons,List.zipWith_cons_cons,List.cons_append,List.getD_cons_succ]
   rw [zip_take f d l ds k (by simpa using h1) (by simpa using h2)]
theorem zip_len {α β:Type} (f:α→Nat→β) (l:List α) (ds:List Nat) (h:l.length≤ds.length):(List.zipWith f l ds).length=l.length:=by
 rw [List.length_zipWith]
 omega
theorem prodC_le:∀ (l:List Int) (p:Int),(∀ r∈l,1≤r)→1≤p→¬ 16384<prodC l p→prodC l p=p * (prodR (l.map Int.toNat):Nat)
 | [],p,_,_,_=>by
   show p=p * ((1:Nat):Int)
   omega
 | r::l,p,h,hp,hc=>by
   rw [prodC] at hc ⊢
   by_cases hb:16384 / p<r
   ·rw [if_pos hb] at hc
    omega
   ·rw [if_neg hb] at hc ⊢
    have hr:=h r List.mem_cons_self
    have hm:1≤p * r:=by
     have:=Int.mul_le_mul_of_nonneg_left hr (show 0≤p by omega)
     omega
    rw [prodC_le l (p * r) (fun x hx=>h x (List.mem_cons_of_mem _ hx)) hm hc,List.map_cons,prodR_cons,Int.mul_assoc,Int.natCast_mul]
    congr 2
    omega
theorem prodR_pos:∀ l:List Nat,(∀ r∈l,0<r)→0<prodR l
 | [],_=>Nat.one_pos
 | r::l,h=>by
   rw [prodR_cons]
   exact Nat.mul_pos (h r List.mem_cons_self) (prodR_pos l fun x hx=>h x (List.mem_cons_of_mem _ hx))
theorem prodR_take (l:List Nat) (h:∀ r∈l,0<r) (k:Nat):prodR (l.take k)≤prodR l:=by
 have h1:prodR l=prodR (l.take k) * prodR (l.drop k):=by rw [← prodR_app,List.take_append_drop]
 have h2:=prodR_pos (l.drop k) fun r hr=>h r (List.mem_of_mem_drop hr)
 rw [h1]
 exact Nat.le_mul_of_pos_right _ h2
section
attribute [local irreducible] VW VCall VO bits
theorem EqN.quoC {m n c:Nat} {x y:Int} {k:Int→Prop} (hx:x=m) (hy:y=n) (hn:1≤n) (hm:m≤9223372036854775807) (h:m / n=c) (a:k ((c:Nat):Int)):EqN (IntKind.i64.wrap (x.tdiv y)) k :=
 EqN.quoB hx hy hn hm (h▸a)
theorem digR_le:∀ (rs:List Nat) (N:Nat),∀ x∈digR rs N,x≤N
 | [],_,x,h=>by cases h
 | r::rs,N,x,h=>by
   rcases List.mem_cons.1 h with rfl|h
   ·exact Nat.le_trans (Nat.mod_le _ _) (Nat.div_le_self _ _)
   ·exact digR_le rs N x h
theorem getD_drop' (l:List Nat) (p k:Nat):(l.drop p).getD k 0=l.getD (p+k) 0:=by simp [List.getD_eq_getElem?_getD]
theorem fct_mk (x:SymI) (d:Nat) {u:ByteArray} {v:Int} (h:x=(u,v)):(mkFct x d).cells=[.str u,.int .i64 v,.int .i64 (d:Nat)]:=by rw [h];rfl
theorem fnc_mk (n:Nat) (x:SymI) (d:Nat) {u:ByteArray} {v:Int} (h:x=(u,v)):(mkFnc n x d).cells=[.str u,.int .i64 v,.sl none (n ^ v.toNat) ((digN n (n ^ v.toNat) d).flatMap encN)]:=by
 rw [h]
 unfold mkFnc Fnc.cells
 simp only [List.length_map,digN_len]
 rw [enc64_map,encN_map,List.map_map]
 rfl
theorem nth_c (s:Sig) (hs:s.Sm) (hr:sigR s=true) (n:Nat) (hn:1≤n∧n≤3) (l1:s.preds.length≤300000) (l2:s.funcs.length≤300000) (l3:s.vars.length≤300000) (N:Nat) (hc:¬ 16384<prodC (rngS s n) 1) (hN:(N:Int)<prodC (rngS s n) 1) (H:Heap) :
  VDet Tryz.prog 38 [.agg s.cells,.int .i64 (n:Nat),.int .i64 (N:Nat)] H (.tup [.agg (nthM s n (digR (rnN s n) N)).cells,.int .i64 0]):=by
 obtain ⟨p1,p2⟩:=sig_ar hr
 have g1:=fun H=>count_c s hs hr n hn l1 l2 l3 H
 have g2:=fun H i hi=>ranges_w s n hn (by omega) (by omega) (by omega) p1 p2 H i hi
 rw [if_neg hc] at g1
 have hpos:=rn_pos s n hn.1
 have hL:(rnN s n).length=s.preds.length+s.funcs.length+s.vars.length:=by
  unfold rnN
  rw [List.length_append,List.length_append,List.length_map,List.length_map,List.length_map]
 rw [rng_flat,rng_len] at g2
 have hrP:prodC (rngS s n) 1≤16384:=by omega
 generalize prodC (rngS s n) 1=P at g1 hN hc hrP
 have hsc:s.cells=[.sl none s.preds.length (s.preds.flatMap symI),.sl none s.funcs.length (s.funcs.flatMap symI),.sl none s.vars.length (s.vars.flatMap encS)]:=rfl
 rw [hsc] at g1 g2 ⊢
 unfold nthM
 generalize hrs:rnN s n=rs at g2 hpos hL
 clear hrs
 have hml:∀ i,i≤rs.length→((mixN rs N i).flatMap encN).length=rs.length * 1:=fun i hi=>by
  rw [zaq (f:=encN) (sz:=1) (fun _=>rfl),mix_len rs N i hi]
 refine zak Tryz.E0 Tryz.mx Tryz.func38 (by kernel_rfl) rfl (Nat.le_of_ble_eq_true rfl) rfl fun hcl hbl=>?_
 (repeat' ((conv=>whnf);(first|(refine IfN.id ?_;first|refine IfN.not ?_|refine IfN.tt rfl ?_|refine IfN.ff rfl ?_|refine IfN.dF (by omega) ?_|fail)|refine EqN.i64 (by omega) ?_|refine CallN.det _ (g1 _) ?_|refine CallN.grow _ _ _ 4 (g2 _ (H.length+3) (by simp)) rfl rfl rfl ?_|refine DrawN.mk' [] ?_|fail)));all_goals (conv=>whnf)
 refine za3 Tryz.E0 Tryz.mx (σ:=Nat) (fun i=>i≤rs.length) (fun i=>i) (fun i=>[(2,.v (.int .i64 ((N / prodR (rs.drop i):Nat):Int))),(11,.v (.int .i64 ((i:Int)-1)))]) (fun i=>[.box 58 [.sl none s.preds.length (s.preds.flatMap symI),.sl none s.funcs.length (s.funcs.flatMap symI),.sl none s.vars.length (s.vars.flatMap encS)],.box 37 [.int .u8 0,.int .i64 0,.nils,.int .i64 0,.nils,.nils,.nils],.box 58 [.sl none s.preds.length (s.preds.flatMap symI),.sl none s.funcs.length (s.funcs.flatMap symI),.sl none s.vars.length (s.vars.flatMap encS)],.vec 3 1 ((mixN rs N i).flatMap encN),.box 32 [.vs (H.length+3) rs.length]]) _ rs.length rfl hcl [1,3,6,10] rfl (Nat.le_refl _) ⟨⟨_,rfl,Wk.of_eq (by rw [List.drop_length];show AV.int IntKind.i64 ((N:Nat):Int)=AV.int IntKind.i64 ((N / 1:Nat):Int);rw [Nat.div_one])⟩,⟨_,rfl,Wk.refl _⟩,trivial⟩ (by rw [mix_full]) (fun _ _=>rfl) ?_
 intro i hi
 match i,hi with
 | j+1,hi =>
   have hne:(mixN rs N (j+1)).flatMap encN≠[]:=fun h=>by
    have:=hml (j+1) hi
    rw [h] at this
    simp at this
    omega
   have hget:encN ((mixN rs N (j+1)).getD j 0)=[.int .i64 (rs.getD j 0:Nat)]:=by rw [mix_get rs N j (by omega)];rfl
   have hrj:1≤rs.getD j 0:=hpos _ (zas rs j 0 (by omega))
   have hdl:=Nat.div_le_self N (prodR (rs.drop (j+1)))
   have hmlj:=hml (j+1) hi
   have hmln:(mixN rs N (j+1)).length=rs.length:=mix_len rs N _ hi
   have hdv:=mix_div rs N j (by omega)
   have hset:=mix_set rs N j (by omega)
   have hjt:(((j+1:Nat):Int)-1).toNat=j:=by omega
   (repeat' ((conv=>whnf);(first|refine SideN.mk ⟨⟨hmlj,hne⟩,by omega,by omega⟩ ?_|refine SideN.mk hmlj ?_|refine SideN.mk ⟨hmlj,by rw [hjt,hmlj];simp only [List.length_cons,List.length_nil];omega,by simp⟩ ?_|refine IfN.dT (by omega) ?_|(refine EqN.id ?_;first|with_reducible refine EqN.quoC rfl rfl hrj (by omega) hdv ?_|refine EqN.remN _ _ Cst.h Cst.h ?_|refine EqN.i64 (by omega) ?_|fail)|(refine SideN.mk ?_ ?_;· first|kernel_rfl|omega|exact List.cons_ne_nil _ _|(simp;done)|(simp;omega)|exact trivial|assumption|fail)|refine SegN.nthE (f:=encN) 0 j (by omega) (by omega) (fun _=>rfl) hget ?_|refine RelN.mk ((mixN rs N j).flatMap encN) [] (by rw [hjt];exact hset.symm) ?_|refine PtrN.loc _ rfl ?_|refine DrawN.mk' [] ?_|fail)));all_goals (conv=>whnf)
   (refine ⟨⟨j,by show j≤_;omega,by omega,?_,.inl ⟨rfl,rfl⟩,rfl,_,rfl,?_⟩⟩;rotate_left 1;(first|exact .inl rfl|exact .inr ⟨by simp [zal,below,zaa,tr,zad,zat,zac,zae,zag,zaf,zah],by simp [zap,Blk.below,zaa,below,zad,zat,zac,zae,zag,zaf,zah]⟩|fail);(repeat' (first|exact trivial|refine ⟨⟨_,rfl,?_⟩,?_⟩|fail));all_goals try (first|exact Wk.refl _|exact Wk.of_eq (congrArg (AV.int _) (by omega))|fail))
 | 0,hi =>
   simp only [mix_zero]
   generalize hds:digR rs N=ds
   have hdl:ds.length=rs.length:=by rw [← hds,digR_len]
   have hdle:∀ k,k<rs.length→ds.getD k 0≤N:=fun k hk=>by rw [← hds];exact digR_le rs N _ (zas _ k 0 (by rw [digR_len];exact hk))
   have hNN:N≤16384:=by omega
   have hnx:∀ k,k<rs.length→∀ (H2:Heap) (q:Nat),H2[q]? = some (.box 32 [.sl none (rs.length-k) ((ds.drop k).flatMap encN)])→VCall Tryz.prog 91 [.ptr q 0] H2 (setR H2 q (.box 32 [.sl none (rs.length-(k+1)) ((ds.drop (k+1)).flatMap encN)]) (.int .i64 (ds.getD k 0:Nat))):=fun k hk H2 q hq=>by
    refine next_c q (rs.length-(k+1)) _ _ ?_ (fun m=>zat m _) H2 ?_
    ·rw [encN_map,List.length_map,List.length_drop,hdl]
    ·rw [za7 ds k 0 (by omega),List.flatMap_cons,show rs.length-k=rs.length-(k+1)+1 by omega] at hq
     exact hq
   (repeat' ((conv=>whnf);(first|refine IfN.ff rfl ?_|refine DrawN.mk' [] ?_|fail)));all_goals (conv=>whnf)
   refine LoopN.frzVec 4 3 0 rs.length 3 0 (ds.flatMap encN) rfl rfl rfl rfl (by rw [zaq (f:=encN) (sz:=1) (fun _=>rfl),hdl]) rfl rfl rfl ?_
   refine LoopN.tokB 5 4 95 3 rfl rfl rfl rfl rfl rfl ?_
   refine za3 Tryz.E0 Tryz.mx (σ:=Nat) (fun k=>k≤s.preds.length) (fun k=>s.preds.length-k) (fun k=>[(70,.v (.int .i64 k))]) (fun k=>[.box 58 [.sl none s.preds.length (s.preds.flatMap symI),.sl none s.funcs.length (s.funcs.flatMap symI),.sl none s.vars.length (s.vars.flatMap encS)],.box 37 [.int .u8 0,.int .i64 0,.nils,.int .i64 0,.nils,.nils,.nils],.box 58 [.sl none s.preds.length (s.preds.flatMap symI),.sl none s.funcs.length (s.funcs.flatMap symI),.sl none s.vars.length (s.vars.flatMap encS)],.dead,.box 32 [.sl none (rs.length-(k)) ((ds.drop (k)).flatMap encN)],.box 37 [.int .u8 2,.int .i64 (n:Nat),.nils,.int .i64 0,.sl (some (H.length+6)) k ((List.zipWith mkFct (s.preds.take k) ds).flatMap Fct.cells),.nils,.nils],.tok 95 3 ((List.zipWith mkFct (s.preds.take k) ds).flatMap Fct.cells).length]) _ 0 rfl hcl [1,3,6,12,13,68,69] rfl (Nat.zero_le _) ⟨⟨_,rfl,Wk.refl _⟩,trivial⟩ rfl (fun _ _=>rfl) ?_
   intro k hk
   rcases Nat.lt_or_ge k s.preds.length with hlt|hge
   ·obtain ⟨u,v,hx,e1⟩:=symI_ex (s.preds.getD k symI0)
    have hns:(List.zipWith mkFct (s.preds.take (k+1)) ds).flatMap Fct.cells=(List.zipWith mkFct (s.preds.take k) ds).flatMap Fct.cells++[.str u,.int .i64 v,.int .i64 (ds.getD k 0:Nat)]:=by
     rw [zip_take mkFct symI0 s.preds ds k hlt (by omega),List.flatMap_append,List.flatMap_cons,List.flatMap_nil,List.append_nil,fct_mk _ _ hx]
    have hmlf:((List.zipWith mkFct (s.preds.take k) ds).flatMap Fct.cells).length=k * 3:=by
     rw [zaq fct_size,zip_len _ _ _ (by rw [List.length_take];omega),List.length_take,Nat.min_eq_left hk]
    have hbt:(k+1) * 32≤140737488355328:=by omega
    have hmx:k+1≤maxLen:=Nat.le_trans (show k+1≤1000001 by omega) (by decide)
    (repeat' ((conv=>whnf);(first|refine DrawN.mk' [4] ?_|refine IfN.dT (by omega) ?_|(refine EqN.addN _ _ Cst.h Cst.h ?_ ?_;· omega)|(refine SideN.mk ?_ ?_;· first|kernel_rfl|omega|exact List.cons_ne_nil _ _|(simp;done)|(simp;omega)|exact trivial|assumption|fail)|refine SegN.nthE symI0 k rfl (by omega) symI_size e1 ?_|refine CallD.setWL 4 _ _ _ rfl rfl rfl (hnx k (by omega) _ _ (zar rfl)) ?_|refine SideN.mk ⟨rfl,rfl,rfl,hbt,hmx⟩ ?_|refine PtrN.loc _ rfl ?_|refine DrawN.mk' [] ?_|fail)));all_goals (conv=>whnf)
    rw [← hns]
    (refine ⟨⟨k+1,by show k+1≤_;omega,by omega,?_,.inl ⟨rfl,rfl⟩,rfl,_,rfl,?_⟩⟩;rotate_left 1;(first|exact .inl rfl|exact .inr ⟨by simp [zal,below,zaa,tr,zad,zat,zac,zae,zag,zaf,zah],by simp [zap,Blk.below,zaa,below,zad,zat,zac,zae,zag,zaf,zah]⟩|fail);(repeat' (first|exact trivial|refine ⟨⟨_,rfl,?_⟩,?_⟩|fail));all_goals try (first|exact Wk.refl _|exact Wk.of_eq (congrArg (AV.int _) (by omega))|fail))
   ·have hke:k=s.preds.length:=by omega
    subst hke
    rw [List.take_length]
    (repeat' ((conv=>whnf);(first|refine IfN.dF (by omega) ?_|refine DrawN.mk' [] ?_|fail)));all_goals (conv=>whnf)
    refine LoopN.tokB 5 5 97 3 rfl rfl rfl rfl rfl rfl ?_
    refine za3 Tryz.E0 Tryz.mx (σ:=Nat) (fun k=>k≤s.funcs.length) (fun k=>s.funcs.length-k) (fun k=>[(90,.v (.int .i64 k))]) (fun k=>[.box 58 [.sl none s.preds.length (s.preds.flatMap symI),.sl none s.funcs.length (s.funcs.flatMap symI),.sl none s.vars.length (s.vars.flatMap encS)],.box 37 [.int .u8 0,.int .i64 0,.nils,.int .i64 0,.nils,.nils,.nils],.box 58 [.sl none s.preds.length (s.preds.flatMap symI),.sl none s.funcs.length (s.funcs.flatMap symI),.sl none s.vars.length (s.vars.flatMap encS)],.dead,.box 32 [.sl none (rs.length-(s.preds.length+k)) ((ds.drop (s.preds.length+k)).flatMap encN)],.box 37 [.int .u8 2,.int .i64 (n:Nat),.nils,.int .i64 0,.sl (some (H.length+6)) s.preds.length ((List.zipWith mkFct (s.preds) ds).flatMap Fct.cells),.sl (some (H.length+7)) k ((List.zipWith (mkFnc n) (s.funcs.take k) (ds.drop s.preds.length)).flatMap Fnc.cells),.nils],.tok 95 3 ((List.zipWith mkFct (s.preds) ds).flatMap Fct.cells).length,.tok 97 3 ((List.zipWith (mkFnc n) (s.funcs.take k) (ds.drop s.preds.length)).flatMap Fnc.cells).length]) _ 0 rfl hcl [1,3,6,12,13,88,89] rfl (Nat.zero_le _) ⟨⟨_,rfl,Wk.refl _⟩,trivial⟩ rfl (fun _ _=>rfl) ?_
    intro k hk
    rcases Nat.lt_or_ge k s.funcs.length with hlt|hge
    ·obtain ⟨u,v,hx,e1⟩:=symI_ex (s.funcs.getD k symI0)
     have hmem:s.funcs.getD k symI0∈s.funcs:=zas s.funcs k symI0 hlt
     have ha:=p2 _ hmem
     rw [hx] at ha
     simp only at ha
     have hpw:=fun H=>powN_c n v.toNat hn (by omega) H
     rw [show ((v.toNat:Nat):Int)=v by omega] at hpw
     have hq:n ^ v.toNat≤3:=by
      have h1:n ^ v.toNat≤3 ^ v.toNat:=Nat.pow_le_pow_left hn.2 _
      have h2:3 ^ v.toNat≤3 ^ 1:=Nat.pow_le_pow_right (by decide) (by omega)
      omega
     have hdk:=hdle (s.preds.length+k) (by omega)
     have hdg:=fun H=>digits_c (ds.getD (s.preds.length+k) 0) n (n ^ v.toNat) hn.1 (by omega) (by omega) H
     have hns:(List.zipWith (mkFnc n) (s.funcs.take (k+1)) (ds.drop s.preds.length)).flatMap Fnc.cells=(List.zipWith (mkFnc n) (s.funcs.take k) (ds.drop s.preds.length)).flatMap Fnc.cells++[.str u,.int .i64 v,.sl none (n ^ v.toNat) ((digN n (n ^ v.toNat) (ds.getD (s.preds.length+k) 0)).flatMap encN)]:=by
      rw [zip_take (mkFnc n) symI0 s.funcs (ds.drop s.preds.length) k hlt (by rw [List.length_drop];omega),List.flatMap_append,List.flatMap_cons,List.flatMap_nil,List.append_nil,getD_drop',fnc_mk n _ _ hx]
     have hmlf:((List.zipWith (mkFnc n) (s.funcs.take k) (ds.drop s.preds.length)).flatMap Fnc.cells).length=k * 3:=by
      rw [zaq fnc_size,zip_len _ _ _ (by rw [List.length_take,List.length_drop];omega),List.length_take,Nat.min_eq_left hk]
     have hbt:(k+1) * 48≤140737488355328:=by omega
     have hmx:k+1≤maxLen:=Nat.le_trans (show k+1≤1000001 by omega) (by decide)
     (repeat' ((conv=>whnf);(first|refine DrawN.mk' [4] ?_|refine IfN.dT (by omega) ?_|(refine EqN.addN _ _ Cst.h Cst.h ?_ ?_;· omega)|(refine SideN.mk ?_ ?_;· first|kernel_rfl|omega|exact List.cons_ne_nil _ _|(simp;done)|(simp;omega)|exact trivial|assumption|fail)|(refine CallD.id ?_;first|refine CallD.det _ (fun _ hq X=>hpw _) ?_|refine CallD.det _ (fun _ hq X=>hdg _) ?_|fail)|refine SegN.nthE symI0 k rfl (by omega) symI_size e1 ?_|refine CallD.setWL 4 _ _ _ rfl rfl rfl (hnx (s.preds.length+k) (by omega) _ _ (zar rfl)) ?_|refine SideN.mk ⟨rfl,rfl,rfl,hbt,hmx⟩ ?_|refine PtrN.loc _ rfl ?_|refine DrawN.mk' [] ?_|fail)));all_goals (conv=>whnf)
     rw [← hns]
     (refine ⟨⟨k+1,by show k+1≤_;omega,by omega,?_,.inl ⟨rfl,rfl⟩,rfl,_,rfl,?_⟩⟩;rotate_left 1;(first|exact .inl rfl|exact .inr ⟨by simp [zal,below,zaa,tr,zad,zat,zac,zae,zag,zaf,zah],by simp [zap,Blk.below,zaa,below,zad,zat,zac,zae,zag,zaf,zah]⟩|fail);(repeat' (first|exact trivial|refine ⟨⟨_,rfl,?_⟩,?_⟩|fail));all_goals try (first|exact Wk.refl _|exact Wk.of_eq (congrArg (AV.int _) (by omega))|fail))
    ·have hke:k=s.funcs.length:=by omega
     subst hke
     rw [List.take_length]
     (repeat' ((conv=>whnf);(first|refine IfN.dF (by omega) ?_|refine DrawN.mk' [] ?_|fail)));all_goals (conv=>whnf)
     refine LoopN.tokB 5 6 99 2 rfl rfl rfl rfl rfl rfl ?_
     refine za3 Tryz.E0 Tryz.mx (σ:=Nat) (fun k=>k≤s.vars.length) (fun k=>s.vars.length-k) (fun k=>[(117,.v (.int .i64 k))]) (fun k=>[.box 58 [.sl none s.preds.length (s.preds.flatMap symI),.sl none s.funcs.length (s.funcs.flatMap symI),.sl none s.vars.length (s.vars.flatMap encS)],.box 37 [.int .u8 0,.int .i64 0,.nils,.int .i64 0,.nils,.nils,.nils],.box 58 [.sl none s.preds.length (s.preds.flatMap symI),.sl none s.funcs.length (s.funcs.flatMap symI),.sl none s.vars.length (s.vars.flatMap encS)],.dead,.box 32 [.sl none (rs.length-(s.preds.length+s.funcs.length+k)) ((ds.drop (s.preds.length+s.funcs.length+k)).flatMap encN)],.box 37 [.int .u8 2,.int .i64 (n:Nat),.nils,.int .i64 0,.sl (some (H.length+6)) s.preds.length ((List.zipWith mkFct (s.preds) ds).flatMap Fct.cells),.sl (some (H.length+7)) s.funcs.length ((List.zipWith (mkFnc n) (s.funcs) (ds.drop s.preds.length)).flatMap Fnc.cells),.sl (some (H.length+8)) k ((List.zipWith mkBnd (s.vars.take k) (ds.drop (s.preds.length+s.funcs.length))).flatMap Bnd.cells)],.tok 95 3 ((List.zipWith mkFct (s.preds) ds).flatMap Fct.cells).length,.tok 97 3 ((List.zipWith (mkFnc n) (s.funcs) (ds.drop s.preds.length)).flatMap Fnc.cells).length,.tok 99 2 ((List.zipWith mkBnd (s.vars.take k) (ds.drop (s.preds.length+s.funcs.length))).flatMap Bnd.cells).length]) _ 0 rfl hcl [6,12,13,115,116] rfl (Nat.zero_le _) ⟨⟨_,rfl,Wk.refl _⟩,trivial⟩ rfl (fun _ _=>rfl) ?_
     intro k hk
     rcases Nat.lt_or_ge k s.vars.length with hlt|hge
     ·obtain ⟨u,hx,e1⟩:=encS_ex (s.vars.getD k .empty)
      have hns:(List.zipWith mkBnd (s.vars.take (k+1)) (ds.drop (s.preds.length+s.funcs.length))).flatMap Bnd.cells=(List.zipWith mkBnd (s.vars.take k) (ds.drop (s.preds.length+s.funcs.length))).flatMap Bnd.cells++[.str u,.int .i64 (ds.getD (s.preds.length+s.funcs.length+k) 0:Nat)]:=by
       rw [zip_take mkBnd .empty s.vars (ds.drop (s.preds.length+s.funcs.length)) k hlt (by rw [List.length_drop];omega),List.flatMap_append,List.flatMap_cons,List.flatMap_nil,List.append_nil,getD_drop',hx]
       rfl
      have hmlf:((List.zipWith mkBnd (s.vars.take k) (ds.drop (s.preds.length+s.funcs.length))).flatMap Bnd.cells).length=k * 2:=by
       rw [zaq bnd_size,zip_len _ _ _ (by rw [List.length_take,List.length_drop];omega),List.length_take,Nat.min_eq_left hk]
      have hbt:(k+1) * 24≤140737488355328:=by omega
      have hmx:k+1≤maxLen:=Nat.le_trans (show k+1≤1000001 by omega) (by decide)
      (repeat' ((conv=>whnf);(first|refine DrawN.mk' [4] ?_|refine IfN.dT (by omega) ?_|(refine EqN.addN _ _ Cst.h Cst.h ?_ ?_;· omega)|(refine SideN.mk ?_ ?_;· first|kernel_rfl|omega|exact List.cons_ne_nil _ _|(simp;done)|(simp;omega)|exact trivial|assumption|fail)|refine SegN.nthE .empty k rfl (by omega) encS_size e1 ?_|refine CallD.setWL 4 _ _ _ rfl rfl rfl (hnx (s.preds.length+s.funcs.length+k) (by omega) _ _ (zar rfl)) ?_|refine SideN.mk ⟨rfl,rfl,rfl,hbt,hmx⟩ ?_|refine PtrN.loc _ rfl ?_|refine DrawN.mk' [] ?_|fail)));all_goals (conv=>whnf)
      rw [← hns]
      (refine ⟨⟨k+1,by show k+1≤_;omega,by omega,?_,.inl ⟨rfl,rfl⟩,rfl,_,rfl,?_⟩⟩;rotate_left 1;(first|exact .inl rfl|exact .inr ⟨by simp [zal,below,zaa,tr,zad,zat,zac,zae,zag,zaf,zah],by simp [zap,Blk.below,zaa,below,zad,zat,zac,zae,zag,zaf,zah]⟩|fail);(repeat' (first|exact trivial|refine ⟨⟨_,rfl,?_⟩,?_⟩|fail));all_goals try (first|exact Wk.refl _|exact Wk.of_eq (congrArg (AV.int _) (by omega))|fail))
     ·have hke:k=s.vars.length:=by omega
      subst hke
      rw [List.take_length]
      have hz1:(List.zipWith mkFct s.preds ds).length=s.preds.length:=zip_len _ _ _ (by omega)
      have hz2:(List.zipWith (mkFnc n) s.funcs (ds.drop s.preds.length)).length=s.funcs.length:=zip_len _ _ _ (by rw [List.length_drop];omega)
      have hz3:(List.zipWith mkBnd s.vars (ds.drop (s.preds.length+s.funcs.length))).length=s.vars.length:=zip_len _ _ _ (by rw [List.length_drop];omega)
      (repeat' ((conv=>whnf);(first|refine IfN.dF (by omega) ?_|refine DrawN.mk' [] ?_|fail)));all_goals (conv=>whnf)
      unfold Mdl.cells
      simp only [hz1,hz2,hz3]
      refine EndN.det (by simp [below,zaa,zag,zaf,zah]) ?_
      (repeat' (first|exact trivial|refine And.intro ?_ ?_|exact Wk.refl _|exact wk_sl _ _ _|exact wk_sx _ _|exact wk_nils|refine wk_agg ?_|refine wk_tup ?_|fail));done
end
section
attribute [local irreducible] VW VCall VO bits
def dgM (n:Nat) (m:Mdl):List Nat:=m.facts.map (fun f=>f.tr.toNat)++m.funcs.map (fun f=>numN n (f.vl.map Int.toNat))++m.binds.map fun b=>b.at_.toNat
theorem numR_fold:∀ (l:List (Nat×Nat)) (a:Nat),numR l a=l.foldl (fun a x=>a * x.1+x.2) a
 | [],_=>rfl
 | (r,d)::l,a=>by rw [numR,numR_fold l,List.foldl_cons]
theorem numR_take (l:List (Nat×Nat)) (k:Nat) (h:k<l.length):numR (l.take (k+1)) 0=numR (l.take k) 0 * (l.getD k (0,0)).1+(l.getD k (0,0)).2:=by
 rw [numR_fold,numR_fold,foldl_takeB _ (0,0) 0 l k h]
theorem take_snocN (l:List Nat) (k:Nat) (h:k<l.length):(l.take (k+1)).flatMap encN=(l.take k).flatMap encN++[.int .i64 (l.getD k 0:Nat)]:=by
 rw [take_snocD l 0 k h,List.flatMap_append]
 rfl
theorem getD_app1 (a b:List Nat) (k:Nat) (h:k<a.length):(a++b).getD k 0=a.getD k 0:=by
 rw [List.getD_eq_getElem?_getD,List.getElem?_append_left h,← List.getD_eq_getElem?_getD]
theorem getD_app2 (a b:List Nat) (p k:Nat) (h:a.length=p):(a++b).getD (p+k) 0=b.getD k 0:=by
 rw [List.getD_eq_getElem?_getD,List.getElem?_append_right (by omega),h,Nat.add_sub_cancel_left,← List.getD_eq_getElem?_getD]
theorem getD_mapN {α:Type} (f:α→Nat) (d:α) (l:List α) (k:Nat) (h:k<l.length):(l.map f).getD k 0=f (l.getD k d):=by
 simp [List.getD_eq_getElem?_getD,List.getElem?_eq_getElem h]
theorem vl_nat (l:List Int) (h:∀ v∈l,0≤v):l.flatMap enc64=(l.map Int.toNat).flatMap encN:=by
 rw [enc64_map,encN_map,List.map_map]
 refine List.map_congr_left fun v hv=>?_
 have:=h v hv
 show AV.int .i64 v=AV.int .i64 ((v.toNat:Nat):Int)
 rw [show ((v.toNat:Nat):Int)=v by omega]
theorem number_m (m:Mdl) (hm:m.Sm) (hnm:m.Nm) (hv:validM m=true) (n:Nat) (hn:m.size=n) (l1:m.facts.length≤300000) (l2:m.funcs.length≤300000) (l3:m.binds.length≤300000) (hc:¬ 16384<prodC (rngS (sigM m) n) 1) (hin:∀ x∈(rnN (sigM m) n).zip (dgM n m),x.2<x.1) (H:Heap) :
  VDet Tryz.prog 45 [.agg m.cells] H (.tup [.int .i64 (numR ((rnN (sigM m) n).zip (dgM n m)) 0:Nat),.int .i64 0]):=by
 obtain ⟨vm,hk2,hrel,hloop⟩:=vm_of hv
 have hsr:sigR (sigM m)=true:=by
  unfold validM at hv
  rw [Bool.and_eq_true,Bool.and_eq_true] at hv
  exact hv.2.1
 have hn3:1≤n∧n≤3:=by
  have h1:=vm.pos
  have h2:=vm.le
  omega
 have hnt:m.size.toNat=n:=by omega
 rw [hnt] at vm
 have hsm:=sigM_sm hm hnm
 have e1:(sigM m).preds.length=m.facts.length:=List.length_map _
 have e2:(sigM m).funcs.length=m.funcs.length:=List.length_map _
 have e3:(sigM m).vars.length=m.binds.length:=List.length_map _
 obtain ⟨p1,p2⟩:=sig_ar hsr
 have g1:=fun H=>valid_c m hm hnm H
 have g2:=fun H=>sigM_c m hm H
 have g3:=fun H=>count_c (sigM m) hsm hsr n hn3 (by omega) (by omega) (by omega) H
 have g4:=fun H=>ranges_c (sigM m) n hn3 (by omega) (by omega) (by omega) p1 p2 H
 rw [if_neg hc] at g3
 rw [hv] at g1
 rw [rng_flat,rng_len] at g4
 have hLr:(rnN (sigM m) n).length=m.facts.length+m.funcs.length+m.binds.length:=by
  unfold rnN
  rw [List.length_append,List.length_append,List.length_map,List.length_map,List.length_map,e1,e2,e3]
 have hLd:(dgM n m).length=m.facts.length+m.funcs.length+m.binds.length:=by
  unfold dgM
  rw [List.length_append,List.length_append,List.length_map,List.length_map,List.length_map]
 have hD1:∀ k,k<m.facts.length→(dgM n m).getD k 0=(m.facts.getD k fct0).tr.toNat:=fun k hk=>by
  unfold dgM
  rw [getD_app1 _ _ _ (by rw [List.length_append,List.length_map];omega),getD_app1 _ _ _ (by rw [List.length_map];omega),getD_mapN (fun f:Fct=>f.tr.toNat) fct0 _ _ hk]
 have hD2:∀ k,k<m.funcs.length→(dgM n m).getD (m.facts.length+k) 0=numN n ((m.funcs.getD k fnc0).vl.map Int.toNat):=fun k hk=>by
  unfold dgM
  rw [getD_app1 _ _ _ (by rw [List.length_append,List.length_map,List.length_map];omega),getD_app2 _ _ _ _ (List.length_map _),getD_mapN (fun f:Fnc=>numN n (f.vl.map Int.toNat)) fnc0 _ _ hk]
 have hD3:∀ k,k<m.binds.length→(dgM n m).getD (m.facts.length+m.funcs.length+k) 0=(m.binds.getD k bnd0).at_.toNat:=fun k hk=>by
  unfold dgM
  rw [getD_app2 _ _ _ _ (by rw [List.length_append,List.length_map,List.length_map]),getD_mapN (fun b:Bnd=>b.at_.toNat) bnd0 _ _ hk]
 have hprod:prodR (rnN (sigM m) n)≤16384:=by
  have h1:=prodC_le (rngS (sigM m) n) 1 (rng_pos (sigM m) n hn3.1) (by omega) hc
  rw [rng_nat,List.map_map] at h1
  have h2:(rnN (sigM m) n).map (Int.toNat∘fun x:Nat=>(x:Int))=rnN (sigM m) n:=by
   refine (List.map_congr_left fun x _=>?_).trans (List.map_id _)
   rfl
  rw [h2] at h1
  rw [rng_nat] at hc
  omega
 have hpos:=rn_pos (sigM m) n hn3.1
 have hbd:∀ k,numR (((rnN (sigM m) n).zip (dgM n m)).take k) 0≤16384:=fun k=>by
  have h1:=numR_lt (l:=((rnN (sigM m) n).zip (dgM n m)).take k) fun x hx=>hin x (List.mem_of_mem_take hx)
  have h2:(((rnN (sigM m) n).zip (dgM n m)).take k).map Prod.fst=(rnN (sigM m) n).take k:=by
   rw [List.map_take,List.map_fst_zip (by omega)]
  rw [h2] at h1
  have h3:=prodR_take (rnN (sigM m) n) hpos k
  omega
 have hsc:(sigM m).cells=[.sl none (sigM m).preds.length ((sigM m).preds.flatMap symI),.sl none (sigM m).funcs.length ((sigM m).funcs.flatMap symI),.sl none (sigM m).vars.length ((sigM m).vars.flatMap encS)]:=rfl
 have hmc:m.cells=[.int .u8 m.kind,.int .i64 m.size,.sl none m.rel.length (m.rel.flatMap enc64),.int .i64 m.loop,.sl none m.facts.length (m.facts.flatMap Fct.cells),.sl none m.funcs.length (m.funcs.flatMap Fnc.cells),.sl none m.binds.length (m.binds.flatMap Bnd.cells)]:=rfl
 rw [hsc] at g2 g3 g4
 rw [hmc] at g1 g2 ⊢
 rw [← hn] at g3 g4
 generalize prodC (rngS (sigM m) n) 1=P at g3
 generalize hrs:rnN (sigM m) n=rs at g4 hLr hin hbd ⊢
 generalize hDD:dgM n m=D at hLd hD1 hD2 hD3 hin hbd ⊢
 refine zak Tryz.E0 Tryz.mx Tryz.func45 (by kernel_rfl) rfl (Nat.le_of_ble_eq_true rfl) rfl fun hcl hbl=>?_
 (repeat' ((conv=>whnf);(first|(refine IfN.id ?_;first|refine IfN.not ?_|refine IfN.tt rfl ?_|fail)|(refine CallN.id ?_;first|refine CallN.det _ (g1 _) ?_|refine CallN.det _ (g2 _) ?_|refine CallN.det _ (g3 _) ?_|fail)|refine DrawN.mk' [] ?_|fail)));all_goals (conv=>whnf)
 refine LoopN.tok 7 3 1 rfl rfl rfl ?_
 refine za3 Tryz.E0 Tryz.mx (σ:=Nat) (fun k=>k≤m.facts.length) (fun k=>m.facts.length-k) (fun k=>[(7,.v (.sl (some (H.length+2)) (k) ((D.take (k)).flatMap encN))),(35,.v (.int .i64 k))]) (fun k=>[.box 37 [.int .u8 m.kind,.int .i64 m.size,.sl none m.rel.length (m.rel.flatMap enc64),.int .i64 m.loop,.sl none m.facts.length (m.facts.flatMap Fct.cells),.sl none m.funcs.length (m.funcs.flatMap Fnc.cells),.sl none m.binds.length (m.binds.flatMap Bnd.cells)],.box 58 [.sl none (sigM m).preds.length ((sigM m).preds.flatMap symI),.sl none (sigM m).funcs.length ((sigM m).funcs.flatMap symI),.sl none (sigM m).vars.length ((sigM m).vars.flatMap encS)],.tok 3 1 ((D.take (k)).flatMap encN).length]) _ 0 rfl hcl [1,4,33,34] rfl (Nat.zero_le _) ⟨⟨_,rfl,Wk.refl _⟩,⟨_,rfl,Wk.refl _⟩,trivial⟩ rfl (fun _ _=>rfl) ?_
 intro k hk
 rcases Nat.lt_or_ge k m.facts.length with hlt|hge
 ·obtain ⟨u,v,z,hx,ex⟩:=fct_ex (f:=m.facts.getD k fct0) rfl
  have hmem:=zas m.facts k fct0 hlt
  have hf:=(vm.facts _ hmem).2
  have hns:=take_snocN D k (by omega)
  rw [hD1 k hlt,hx] at hns
  rw [hx] at hf
  simp only at hns hf
  rw [show ((z.toNat:Nat):Int)=z by omega] at hns
  have hml:((D.take k).flatMap encN).length=k * 1:=by
   rw [zaq (f:=encN) (sz:=1) (fun _=>rfl),List.length_take,Nat.min_eq_left (by omega)]
  have hbt:(k+1) * 8≤140737488355328:=by omega
  have hmx:k+1≤maxLen:=Nat.le_trans (show k+1≤1000001 by omega) (by decide)
  (repeat' ((conv=>whnf);(first|refine IfN.dT (by omega) ?_|(refine EqN.addN _ _ Cst.h Cst.h ?_ ?_;· omega)|(refine SideN.mk ?_ ?_;· first|kernel_rfl|omega|exact List.cons_ne_nil _ _|(simp;done)|(simp;omega)|exact trivial|assumption|fail)|refine SegN.nthE fct0 k rfl (by omega) fct_size ex ?_|refine SideN.mk ⟨rfl,rfl,rfl,hbt,hmx⟩ ?_|refine PtrN.loc _ rfl ?_|refine DrawN.mk' [] ?_|fail)));all_goals (conv=>whnf)
  rw [← hns]
  (refine ⟨⟨k+1,by show k+1≤_;omega,by omega,?_,.inl ⟨rfl,rfl⟩,rfl,_,rfl,?_⟩⟩;rotate_left 1;(first|exact .inl rfl|exact .inr ⟨by simp [zal,below,zaa,tr,zad,zat,zac,zae,zag,zaf,zah],by simp [zap,Blk.below,zaa,below,zad,zat,zac,zae,zag,zaf,zah]⟩|fail);(repeat' (first|exact trivial|refine ⟨⟨_,rfl,?_⟩,?_⟩|fail));all_goals try (first|exact Wk.refl _|exact Wk.of_eq (congrArg (AV.int _) (by omega))|fail))
 ·have hke:k=m.facts.length:=by omega
  subst hke
  (repeat' ((conv=>whnf);(first|refine IfN.dF (by omega) ?_|refine DrawN.mk' [] ?_|fail)));all_goals (conv=>whnf)
  refine za3 Tryz.E0 Tryz.mx (σ:=Nat) (fun k=>k≤m.funcs.length) (fun k=>m.funcs.length-k) (fun k=>[(7,.v (.sl (some (H.length+2)) (m.facts.length+k) ((D.take (m.facts.length+k)).flatMap encN))),(48,.v (.int .i64 k))]) (fun k=>[.box 37 [.int .u8 m.kind,.int .i64 m.size,.sl none m.rel.length (m.rel.flatMap enc64),.int .i64 m.loop,.sl none m.facts.length (m.facts.flatMap Fct.cells),.sl none m.funcs.length (m.funcs.flatMap Fnc.cells),.sl none m.binds.length (m.binds.flatMap Bnd.cells)],.box 58 [.sl none (sigM m).preds.length ((sigM m).preds.flatMap symI),.sl none (sigM m).funcs.length ((sigM m).funcs.flatMap symI),.sl none (sigM m).vars.length ((sigM m).vars.flatMap encS)],.tok 3 1 ((D.take (m.facts.length+k)).flatMap encN).length]) _ 0 rfl hcl [1,4,46,47] rfl (Nat.zero_le _) ⟨⟨_,rfl,Wk.refl _⟩,⟨_,rfl,Wk.refl _⟩,trivial⟩ rfl (fun _ _=>rfl) ?_
  intro k hk
  rcases Nat.lt_or_ge k m.funcs.length with hlt|hge
  ·obtain ⟨u,v,z,hx,ex⟩:=fnc_ex (f:=m.funcs.getD k fnc0) rfl
   have hmem:=zas m.funcs k fnc0 hlt
   obtain ⟨hf1,hf2,hf3⟩:=vm.funcs _ hmem
   have hns:=take_snocN D (m.facts.length+k) (by omega)
   rw [hD2 k hlt,hx] at hns
   rw [hx] at hf1 hf2 hf3
   simp only at hns hf1 hf2 hf3
   have hle:z.length≤3:=by
    rw [hf2]
    have h1:n ^ v.toNat≤3 ^ v.toNat:=Nat.pow_le_pow_left hn3.2 _
    have h2:3 ^ v.toNat≤3 ^ 1:=Nat.pow_le_pow_right (by decide) (by omega)
    omega
   have hnu:=fun H=>number_c n hn3 (z.map Int.toNat) (by rw [List.length_map];omega) (fun w hw=>by
    obtain ⟨y,hy,rfl⟩:=List.mem_map.1 hw
    have:=hf3 y hy
    omega) H
   rw [← vl_nat z (fun y hy=>(hf3 y hy).1),List.length_map,← hn] at hnu
   have hml:((D.take (m.facts.length+k)).flatMap encN).length=(m.facts.length+k) * 1:=by
    rw [zaq (f:=encN) (sz:=1) (fun _=>rfl),List.length_take,Nat.min_eq_left (by omega)]
   have hbt:(m.facts.length+k+1) * 8≤140737488355328:=by omega
   have hmx:m.facts.length+k+1≤maxLen:=Nat.le_trans (show m.facts.length+k+1≤1000001 by omega) (by decide)
   (repeat' ((conv=>whnf);(first|refine IfN.dT (by omega) ?_|(refine EqN.addN _ _ Cst.h Cst.h ?_ ?_;· omega)|(refine SideN.mk ?_ ?_;· first|kernel_rfl|omega|exact List.cons_ne_nil _ _|(simp;done)|(simp;omega)|exact trivial|assumption|fail)|refine CallN.det _ (hnu _) ?_|refine SegN.nthE fnc0 k rfl (by omega) fnc_size ex ?_|refine SideN.mk ⟨rfl,rfl,rfl,hbt,hmx⟩ ?_|refine PtrN.loc _ rfl ?_|refine DrawN.mk' [] ?_|fail)));all_goals (conv=>whnf)
   rw [← hns]
   (refine ⟨⟨k+1,by show k+1≤_;omega,by omega,?_,.inl ⟨rfl,rfl⟩,rfl,_,rfl,?_⟩⟩;rotate_left 1;(first|exact .inl rfl|exact .inr ⟨by simp [zal,below,zaa,tr,zad,zat,zac,zae,zag,zaf,zah],by simp [zap,Blk.below,zaa,below,zad,zat,zac,zae,zag,zaf,zah]⟩|fail);(repeat' (first|exact trivial|refine ⟨⟨_,rfl,?_⟩,?_⟩|fail));all_goals try (first|exact Wk.refl _|exact Wk.of_eq (congrArg (AV.int _) (by omega))|fail))
  ·have hke:k=m.funcs.length:=by omega
   subst hke
   (repeat' ((conv=>whnf);(first|refine IfN.dF (by omega) ?_|refine DrawN.mk' [] ?_|fail)));all_goals (conv=>whnf)
   refine za3 Tryz.E0 Tryz.mx (σ:=Nat) (fun k=>k≤m.binds.length) (fun k=>m.binds.length-k) (fun k=>[(7,.v (.sl (some (H.length+2)) (m.facts.length+m.funcs.length+k) ((D.take (m.facts.length+m.funcs.length+k)).flatMap encN))),(64,.v (.int .i64 k))]) (fun k=>[.box 37 [.int .u8 m.kind,.int .i64 m.size,.sl none m.rel.length (m.rel.flatMap enc64),.int .i64 m.loop,.sl none m.facts.length (m.facts.flatMap Fct.cells),.sl none m.funcs.length (m.funcs.flatMap Fnc.cells),.sl none m.binds.length (m.binds.flatMap Bnd.cells)],.box 58 [.sl none (sigM m).preds.length ((sigM m).preds.flatMap symI),.sl none (sigM m).funcs.length ((sigM m).funcs.flatMap symI),.sl none (sigM m).vars.length ((sigM m).vars.flatMap encS)],.tok 3 1 ((D.take (m.facts.length+m.funcs.length+k)).flatMap encN).length]) _ 0 rfl hcl [1,4,62,63] rfl (Nat.zero_le _) ⟨⟨_,rfl,Wk.refl _⟩,⟨_,rfl,Wk.refl _⟩,trivial⟩ rfl (fun _ _=>rfl) ?_
   intro k hk
   rcases Nat.lt_or_ge k m.binds.length with hlt|hge
   ·obtain ⟨u,v,hx,ex⟩:=bnd_ex (f:=m.binds.getD k bnd0) rfl
    have hmem:=zas m.binds k bnd0 hlt
    have hf:=vm.binds _ hmem
    have hns:=take_snocN D (m.facts.length+m.funcs.length+k) (by omega)
    rw [hD3 k hlt,hx] at hns
    rw [hx] at hf
    simp only at hns hf
    rw [show ((v.toNat:Nat):Int)=v by omega] at hns
    have hml:((D.take (m.facts.length+m.funcs.length+k)).flatMap encN).length=(m.facts.length+m.funcs.length+k) * 1:=by
     rw [zaq (f:=encN) (sz:=1) (fun _=>rfl),List.length_take,Nat.min_eq_left (by omega)]
    have hbt:(m.facts.length+m.funcs.length+k+1) * 8≤140737488355328:=by omega
    have hmx:m.facts.length+m.funcs.length+k+1≤maxLen:=Nat.le_trans (show m.facts.length+m.funcs.length+k+1≤1000001 by omega) (by decide)
    (repeat' ((conv=>whnf);(first|refine IfN.dT (by omega) ?_|(refine EqN.addN _ _ Cst.h Cst.h ?_ ?_;· omega)|(refine SideN.mk ?_ ?_;· first|kernel_rfl|omega|exact List.cons_ne_nil _ _|(simp;done)|(simp;omega)|exact trivial|assumption|fail)|refine SegN.nthE bnd0 k rfl (by omega) bnd_size ex ?_|refine SideN.mk ⟨rfl,rfl,rfl,hbt,hmx⟩ ?_|refine PtrN.loc _ rfl ?_|refine DrawN.mk' [] ?_|fail)));all_goals (conv=>whnf)
    rw [← hns]
    (refine ⟨⟨k+1,by show k+1≤_;omega,by omega,?_,.inl ⟨rfl,rfl⟩,rfl,_,rfl,?_⟩⟩;rotate_left 1;(first|exact .inl rfl|exact .inr ⟨by simp [zal,below,zaa,tr,zad,zat,zac,zae,zag,zaf,zah],by simp [zap,Blk.below,zaa,below,zad,zat,zac,zae,zag,zaf,zah]⟩|fail);(repeat' (first|exact trivial|refine ⟨⟨_,rfl,?_⟩,?_⟩|fail));all_goals try (first|exact Wk.refl _|exact Wk.of_eq (congrArg (AV.int _) (by omega))|fail))
   ·have hke:k=m.binds.length:=by omega
    subst hke
    have htk:D.take (m.facts.length+m.funcs.length+m.binds.length)=D:=List.take_of_length_le (by omega)
    rw [htk]
    (repeat' ((conv=>whnf);(first|refine IfN.dF (by omega) ?_|refine CallN.det _ (g4 _) ?_|refine DrawN.mk' [] ?_|fail)));all_goals (conv=>whnf)
    refine za3 Tryz.E0 Tryz.mx (σ:=Nat) (fun k=>k≤rs.length) (fun k=>rs.length-k) (fun k=>[(14,.v (.int .i64 (numR ((rs.zip D).take k) 0:Nat))),(79,.v (.int .i64 k))]) (fun _=>_) _ 0 rfl hcl [7,77,78] rfl (Nat.zero_le _) ⟨⟨_,rfl,Wk.refl _⟩,⟨_,rfl,Wk.refl _⟩,trivial⟩ rfl (fun _ _=>rfl) ?_
    intro k hk
    rcases Nat.lt_or_ge k rs.length with hlt|hge
    ·have hzl:(rs.zip D).length=rs.length:=by rw [List.length_zip];omega
     have hzk:(rs.zip D).getD k (0,0)=(rs.getD k 0,D.getD k 0):=by
      simp [List.getD_eq_getElem?_getD,List.getElem?_eq_getElem (show k<(rs.zip D).length by omega),List.getElem?_eq_getElem hlt,List.getElem?_eq_getElem (show k<D.length by omega)]
     have hs:=numR_take (rs.zip D) k (by omega)
     rw [hzk] at hs
     simp only at hs
     have b1:=hbd k
     have b2:=hbd (k+1)
     have b3:numR ((rs.zip D).take k) 0 * rs.getD k 0≤16384:=by omega
     (repeat' ((conv=>whnf);(first|refine IfN.dT (by omega) ?_|(refine EqN.id ?_;first|(refine EqN.addN _ _ Cst.h Cst.h ?_ ?_;· omega)|(refine EqN.mulN _ _ Cst.h Cst.h ?_ ?_;· omega)|fail)|(refine SideN.mk ?_ ?_;· first|kernel_rfl|omega|exact List.cons_ne_nil _ _|(simp;done)|(simp;omega)|exact trivial|assumption|fail)|refine SegN.nth (f:=encN) 0 k rfl (by omega) (fun _=>rfl) ?_|refine DrawN.mk' [] ?_|fail)));all_goals (conv=>whnf)
     (refine ⟨⟨k+1,by show k+1≤_;omega,by omega,?_,.inl ⟨rfl,rfl⟩,rfl,_,rfl,?_⟩⟩;rotate_left 1;(first|exact .inl rfl|exact .inr ⟨by simp [zal,below,zaa,tr,zad,zat,zac,zae,zag,zaf,zah],by simp [zap,Blk.below,zaa,below,zad,zat,zac,zae,zag,zaf,zah]⟩|fail);(repeat' (first|exact trivial|refine ⟨⟨_,rfl,?_⟩,?_⟩|fail));all_goals try (first|exact Wk.refl _|exact Wk.of_eq (congrArg (AV.int _) (by omega))|fail))
    ·have hke:k=rs.length:=by omega
     subst hke
     rw [List.take_of_length_le (by rw [List.length_zip];omega)]
     (repeat' ((conv=>whnf);(first|refine IfN.dF (by omega) ?_|refine DrawN.mk' [] ?_|fail)));all_goals (conv=>whnf)
     exact EndN.det (by simp [below,zaa]) (Wk.refl _)
end
section
attribute [local irreducible] VW VCall VO bits
theorem nat_flat (l:List Nat):(l.map Int.ofNat).flatMap enc64=l.flatMap encN:=by
 rw [enc64_map,encN_map,List.map_map]
 rfl
theorem perm_nd {n:Nat} {p:List Nat} (hp:PermOk n p):p.Nodup:=by
 refine List.pairwise_iff_getElem.2 fun i j hi hj hij h=>?_
 have hl:=hp.len
 have:=hp.inj i j (by omega) (by omega) (by
  rw [List.getD_eq_getElem?_getD,List.getD_eq_getElem?_getD,List.getElem?_eq_getElem hi,List.getElem?_eq_getElem hj,h])
 omega
theorem moved1 (fa:List Fct) (bi:List Bnd) (n:Nat) (p:List Nat) (c0:ByteArray) (v0:Nat) (hn:1≤n∧n≤3) (hv0:v0<n) (hp:PermOk n p) (m:Mdl) (hme:m=⟨2,n,[],0,fa,[⟨c0,0,[((v0:Nat):Int)]⟩],bi⟩) (hm:m.Sm) (hnm:m.Nm) (hv:validM m=true) (H:Heap) :
  VDet Tryz.prog 46 [.agg m.cells,.sl none p.length (p.flatMap encN)] H (.tup [.agg (movM n p m).cells,.int .i64 0]):=by
 have vm:=(vm_of hv).1
 have hsz:m.size.toNat=n:=by rw [hme];show ((n:Nat):Int).toNat=n;omega
 rw [hsz] at vm
 have l1:fa.length≤1000000:=by have:=hm.facts;rw [hme] at this;exact this
 have l3:bi.length≤1000000:=by have:=hm.binds;rw [hme] at this;exact this
 have hfv:∀ f∈fa,FctOk n f:=fun f hf=>vm.facts f (by rw [hme];exact hf)
 have hbv:∀ b∈bi,0≤b.at_∧b.at_<n:=fun b hb=>vm.binds b (by rw [hme];exact hb)
 have hplen:=hp.len
 have g1:=fun H=>valid_c m hm hnm H
 have g2:=fun H=>permutes_c n hn (p.map Int.ofNat) H
 have hpk:permB n (p.map Int.ofNat)=true:=by
  unfold permB
  rw [List.length_map,decide_eq_true hplen,Bool.true_and]
  exact pgo_ok p _ (fun a ha=>⟨by
   obtain ⟨i,hi,rfl⟩:=List.getElem_of_mem ha
   have:=hp.lt i (by omega)
   rwa [List.getD_eq_getElem?_getD,List.getElem?_eq_getElem hi] at this,rfl⟩) (perm_nd hp)
 rw [hpk,List.length_map,nat_flat] at g2
 rw [hv] at g1
 have hmc:m.cells=[.int .u8 2,.int .i64 (n:Nat),.sl none 0 [],.int .i64 0,.sl none fa.length (fa.flatMap Fct.cells),.sl none 1 [.str c0,.int .i64 0,.sl none 1 [.int .i64 (v0:Nat)]],.sl none bi.length (bi.flatMap Bnd.cells)]:=by
  rw [hme]
  unfold Mdl.cells
  rfl
 rw [hmc] at g1 ⊢
 have hmov:=fun t k ht hk H=>mov_c t n k p hn ht hk hp H
 have hmlt:=fun k t=>mvN_lt (show 0<n by omega) hp k t
 have hout:(movM n p m).cells=[.int .u8 2,.int .i64 (n:Nat),.sl none 0 [],.int .i64 0,.sl none fa.length ((fa.map (movFct n p)).flatMap Fct.cells),.sl none 1 [.str c0,.int .i64 0,.sl none 1 [.int .i64 (p.getD v0 0:Nat)]],.sl none bi.length ((bi.map (movBnd p)).flatMap Bnd.cells)]:=by
  rw [hme]
  unfold movM Mdl.cells
  simp only [List.length_map]
  rfl
 rw [hout]
 clear hout hmc hme hv hsz vm hpk
 refine zak Tryz.E0 Tryz.mx Tryz.func46 (by kernel_rfl) rfl (Nat.le_of_ble_eq_true rfl) rfl fun hcl hbl=>?_
 (repeat' ((conv=>whnf);(first|(refine IfN.id ?_;first|refine IfN.not ?_|refine IfN.tt rfl ?_|fail)|(refine CallN.id ?_;first|refine CallN.det _ (g1 _) ?_|refine CallN.det _ (g2 _) ?_|fail)|refine DrawN.mk' [] ?_|fail)));all_goals (conv=>whnf)
 refine LoopN.tokB 2 4 95 3 rfl rfl rfl rfl rfl rfl ?_
 refine za3 Tryz.E0 Tryz.mx (σ:=Nat) (fun k=>k≤fa.length) (fun k=>fa.length-k) (fun k=>[(37,.v (.int .i64 k))]) (fun k=>[.box 37 [.int .u8 2,.int .i64 (n:Nat),.sl none 0 [],.int .i64 0,.sl none fa.length (fa.flatMap Fct.cells),.sl none 1 [.str c0,.int .i64 0,.sl none 1 [.int .i64 (v0:Nat)]],.sl none bi.length (bi.flatMap Bnd.cells)],.box 37 [.int .u8 0,.int .i64 0,.nils,.int .i64 0,.nils,.nils,.nils],.box 37 [.int .u8 2,.int .i64 (n:Nat),.nils,.int .i64 0,.sl (some (H.length+3)) k (((fa.take k).map (movFct n p)).flatMap Fct.cells),.nils,.nils],.tok 95 3 (((fa.take k).map (movFct n p)).flatMap Fct.cells).length]) _ 0 rfl hcl [1,2,4,6,35,36] rfl (Nat.zero_le _) ⟨⟨_,rfl,Wk.refl _⟩,trivial⟩ rfl (fun _ _=>rfl) ?_
 intro k hk
 rcases Nat.lt_or_ge k fa.length with hlt|hge
 ·obtain ⟨u,v,z,hx,ex⟩:=fct_ex (f:=fa.getD k fct0) rfl
  have hok:=hfv _ (zas fa k fct0 hlt)
  rw [hx] at hok
  obtain ⟨har,htr1,htr2⟩:=hok
  simp only at har htr1 htr2
  obtain ⟨e,rfl⟩:∃ e:Nat,v=e:=⟨v.toNat,by omega⟩
  obtain ⟨zn,rfl⟩:∃ zn:Nat,z=zn:=⟨z.toNat,by omega⟩
  rw [Int.toNat_natCast,Int.toNat_natCast] at htr2
  have hpw:=fun H=>powN_c n e hn (by omega) H
  have hq:n ^ e≤9:=by
   have h1:n ^ e≤3 ^ e:=Nat.pow_le_pow_left hn.2 _
   have h2:3 ^ e≤3 ^ 2:=Nat.pow_le_pow_right (by decide) (by omega)
   omega
  have h512:2 ^ n ^ e≤512:=Nat.pow_le_pow_right (by decide) hq
  have hns:((fa.take (k+1)).map (movFct n p)).flatMap Fct.cells=((fa.take k).map (movFct n p)).flatMap Fct.cells++[.str u,.int .i64 (e:Nat),.int .i64 (movT n p e zn (n ^ e):Nat)]:=by
   rw [take_snocD fa fct0 k hlt,List.map_append,List.flatMap_append,hx]
   rfl
  have hmlf:(((fa.take k).map (movFct n p)).flatMap Fct.cells).length=k * 3:=by
   rw [zaq fct_size,List.length_map,List.length_take,Nat.min_eq_left hk]
  have hbt:(k+1) * 32≤140737488355328:=by omega
  have hmx:k+1≤maxLen:=Nat.le_trans (show k+1≤1000001 by omega) (by decide)
  have hm2:=fun t ht H=>hmov t e ht (by omega) H
  have hml2:=hmlt e
  have hmT:=movT_lt (show 0<n by omega) hp e zn
  generalize hqq:n ^ e=q at hpw hq hml2 hmT h512 hns htr2
  (repeat' ((conv=>whnf);(first|refine IfN.dT (by omega) ?_|(refine SideN.mk ?_ ?_;· first|kernel_rfl|omega|exact List.cons_ne_nil _ _|(simp;done)|(simp;omega)|exact trivial|assumption|fail)|refine CallN.det _ (hpw _) ?_|refine SegN.nthE fct0 k rfl (by omega) fct_size ex ?_|refine DrawN.mk' [] ?_|fail)));all_goals (conv=>whnf)
  refine za3 Tryz.E0 Tryz.mx (σ:=Nat) (fun t=>t≤q) (fun t=>q-t) (fun t=>[(51,.v (.int .i64 t))]) (fun t=>[.box 37 [.int .u8 2,.int .i64 (n:Nat),.sl none 0 [],.int .i64 0,.sl none fa.length (fa.flatMap Fct.cells),.sl none 1 [.str c0,.int .i64 0,.sl none 1 [.int .i64 (v0:Nat)]],.sl none bi.length (bi.flatMap Bnd.cells)],.box 37 [.int .u8 0,.int .i64 0,.nils,.int .i64 0,.nils,.nils,.nils],.box 37 [.int .u8 2,.int .i64 (n:Nat),.nils,.int .i64 0,.sl (some (H.length+3)) k (((fa.take k).map (movFct n p)).flatMap Fct.cells),.nils,.nils],.tok 95 3 (((fa.take k).map (movFct n p)).flatMap Fct.cells).length,.box 95 [.str u,.int .i64 (e:Nat),.int .i64 (zn:Nat)],.box 95 [.str u,.int .i64 (e:Nat),.int .i64 (movT n p e zn t:Nat)]]) _ 0 rfl hcl [1,2,4,6,8,9,35,36,37,50] rfl (Nat.zero_le _) ⟨⟨_,rfl,Wk.refl _⟩,trivial⟩ rfl (fun _ _=>rfl) ?_
  intro t ht
  rcases Nat.lt_or_ge t q with htl|htg
  ·have hm3:=hm2 t (by omega)
   have hl3:=hml2 t
   have hT3:=hmT t
   have hbit:(zn >>> t) &&& 1≤1:=Nat.and_le_right
   have hzt:zn >>> t<9223372036854775808:=by
    rw [Nat.shiftRight_eq_div_pow]
    have:=Nat.div_le_self zn (2 ^ t)
    omega
   have hsh:((zn >>> t) &&& 1) <<< mvN n p e t<9223372036854775808:=by
    rw [Nat.shiftLeft_eq]
    have h1:2 ^ mvN n p e t≤2 ^ 9:=Nat.pow_le_pow_right (by decide) (by omega)
    have h2:((zn >>> t) &&& 1) * 2 ^ mvN n p e t≤1 * 2 ^ 9:=Nat.mul_le_mul hbit h1
    omega
   have hst:movT n p e zn (t+1)=movT n p e zn t ||| (((zn >>> t) &&& 1) <<< mvN n p e t):=rfl
   (repeat' ((conv=>whnf);(first|refine IfN.dT (by omega) ?_|(refine EqN.id ?_;first|refine EqN.and (zn >>> t) 1 rfl rfl ⟨hzt,by decide⟩ ?_|refine EqN.shlN ((zn >>> t) &&& 1) (mvN n p e t) rfl rfl rfl (by omega) hsh ?_|refine EqN.or (movT n p e zn t) (((zn >>> t) &&& 1) <<< mvN n p e t) rfl rfl ⟨by omega,hsh⟩ ?_|(refine EqN.shrN _ _ Cst.h Cst.h rfl ?_ ?_;· (repeat' (first|omega|refine And.intro ?_ ?_|exact za4 (by omega)|exact bnd_andr (by omega)|refine bnd_or ?_ ?_|refine bnd_or31 ?_ ?_|refine bnd_xor ?_ ?_|refine bnd_xor31 ?_ ?_|refine bnd_shr ?_|refine bnd_shl ?_ ?_|refine bnd_mod ?_|refine za4 ?_|fail)))|(refine EqN.addN _ _ Cst.h Cst.h ?_ ?_;· omega)|fail)|(refine SideN.mk ?_ ?_;· first|kernel_rfl|omega|exact List.cons_ne_nil _ _|(simp;done)|(simp;omega)|exact trivial|assumption|fail)|refine CallD.det _ (fun _ hq X=>hm3 _) ?_|refine DrawN.mk' [] ?_|fail)));all_goals (conv=>whnf)
   (refine ⟨⟨t+1,by show t+1≤_;omega,by omega,?_,.inl ⟨rfl,rfl⟩,rfl,_,rfl,?_⟩⟩;rotate_left 1;(first|exact .inl rfl|exact .inr ⟨by simp [zal,below,zaa,tr,zad,zat,zac,zae,zag,zaf,zah],by simp [zap,Blk.below,zaa,below,zad,zat,zac,zae,zag,zaf,zah]⟩|fail);(repeat' (first|exact trivial|refine ⟨⟨_,rfl,?_⟩,?_⟩|fail));all_goals try (first|exact Wk.refl _|exact Wk.of_eq (congrArg (AV.int _) (by omega))|fail))
  ·have hte:t=q:=by omega
   subst hte
   (repeat' ((conv=>whnf);(first|refine IfN.dF (by omega) ?_|(refine EqN.addN _ _ Cst.h Cst.h ?_ ?_;· omega)|refine SideN.mk ⟨rfl,rfl,rfl,hbt,hmx⟩ ?_|refine PtrN.loc _ rfl ?_|refine DrawN.mk' [] ?_|fail)));all_goals (conv=>whnf)
   rw [← hns]
   (refine ⟨⟨k+1,by show k+1≤_;omega,by omega,?_,.inr ?_,rfl,_,rfl,?_⟩⟩;rotate_left 2;(first|exact .inl rfl|exact .inr ⟨by simp [zal,below,zaa,tr,zad,zat,zac,zae,zag,zaf,zah],by simp [zap,Blk.below,zaa,below,zad,zat,zac,zae,zag,zaf,zah]⟩|fail);all_goals (repeat' (first|exact trivial|refine ⟨⟨_,rfl,?_⟩,?_⟩|fail));all_goals try (first|exact Wk.refl _|exact Wk.of_eq (congrArg (AV.int _) (by omega))|fail))
 ·have hke:k=fa.length:=by omega
  subst hke
  rw [List.take_length]
  (repeat' ((conv=>whnf);(first|refine IfN.dF (by omega) ?_|refine DrawN.mk' [] ?_|fail)));all_goals (conv=>whnf)
  refine LoopN.tokB 2 5 97 3 rfl rfl rfl rfl rfl rfl ?_
  refine LoopN.rounds Tryz.E0 Tryz.mx 2 rfl ?_
  have hm0:∀ H,VDet Tryz.prog 106 [.int .i64 0,.int .i64 (n:Nat),.int .i64 0,.sl none p.length (p.flatMap encN)] H (.int .i64 0):=fun H=>hmov 0 0 (by omega) (by omega) H
  have hps:(p.getD v0 0:Nat)<n:=hp.lt v0 hv0
  (repeat' ((conv=>whnf);(first|refine OrN.natL ?_|refine IfN.tt rfl ?_|(refine SideN.mk ?_ ?_;· first|kernel_rfl|omega|exact List.cons_ne_nil _ _|(simp;done)|(simp;omega)|exact trivial|assumption|fail)|refine NatN.mk _ rfl ?_|refine OrN.r ?_|refine SegN.mk _ (seg_rfl rfl) ?_|refine DrawN.mk' [] ?_|fail)));all_goals (conv=>whnf)
  refine LoopN.rounds Tryz.E0 Tryz.mx 2 rfl ?_
  (repeat' ((conv=>whnf);(first|(refine IfN.id ?_;first|refine IfN.tt rfl ?_|refine IfN.ff rfl ?_|fail)|(refine EqN.addN _ _ Cst.h Cst.h ?_ ?_;· omega)|(refine SideN.mk ?_ ?_;· first|kernel_rfl|omega|exact List.cons_ne_nil _ _|(simp;done)|(simp;omega)|exact trivial|assumption|fail)|refine CallD.det _ (fun _ hq X=>hm0 _) ?_|refine SegN.nth (f:=encN) 0 v0 rfl (by omega) (fun _=>rfl) ?_|refine SideN.mk ⟨rfl,rfl,rfl,by decide,by decide⟩ ?_|refine PtrN.loc _ rfl ?_|refine SegN.mk _ (seg_rfl rfl) ?_|refine OfsN.at_ (by omega) ?_|refine DrawN.mk' [] ?_|fail)));all_goals (conv=>whnf)
  refine LoopN.tokB 2 6 99 2 rfl rfl rfl rfl rfl rfl ?_
  refine za3 Tryz.E0 Tryz.mx (σ:=Nat) (fun k=>k≤bi.length) (fun k=>bi.length-k) (fun k=>[(128,.v (.int .i64 k))]) (fun k=>[.box 37 [.int .u8 2,.int .i64 (n:Nat),.sl none 0 [],.int .i64 0,.sl none fa.length (fa.flatMap Fct.cells),.sl none 1 [.str c0,.int .i64 0,.sl none 1 [.int .i64 (v0:Nat)]],.sl none bi.length (bi.flatMap Bnd.cells)],.box 37 [.int .u8 0,.int .i64 0,.nils,.int .i64 0,.nils,.nils,.nils],.box 37 [.int .u8 2,.int .i64 (n:Nat),.nils,.int .i64 0,.sl (some (H.length+3)) fa.length ((fa.map (movFct n p)).flatMap Fct.cells),.sl (some (H.length+4)) 1 [.str c0,.int .i64 0,.ms (H.length+6) 0 1],.sl (some (H.length+8)) k (((bi.take k).map (movBnd p)).flatMap Bnd.cells)],.tok 95 3 ((fa.map (movFct n p)).flatMap Fct.cells).length,.tok 97 3 3,.box 97 [.str c0,.int .i64 0,.sl none 1 [.int .i64 (v0:Nat)]],.box 3 [.int .i64 (p.getD v0 0:Nat)],.box 97 [.str c0,.int .i64 0,.ms (H.length+6) 0 1],.tok 99 2 (((bi.take k).map (movBnd p)).flatMap Bnd.cells).length]) _ 0 rfl hcl [1,4,6,126,127] rfl (Nat.zero_le _) ⟨⟨_,rfl,Wk.refl _⟩,trivial⟩ rfl (fun _ _=>rfl) ?_
  intro k hk
  rcases Nat.lt_or_ge k bi.length with hlt|hge
  ·obtain ⟨u,v,hx,ex⟩:=bnd_ex (f:=bi.getD k bnd0) rfl
   have hbk:=hbv _ (zas bi k bnd0 hlt)
   rw [hx] at hbk
   simp only at hbk
   obtain ⟨bn,rfl⟩:∃ bn:Nat,v=bn:=⟨v.toNat,by omega⟩
   have hns:((bi.take (k+1)).map (movBnd p)).flatMap Bnd.cells=((bi.take k).map (movBnd p)).flatMap Bnd.cells++[.str u,.int .i64 (p.getD bn 0:Nat)]:=by
    rw [take_snocD bi bnd0 k hlt,List.map_append,List.flatMap_append,hx]
    rfl
   have hmlb:(((bi.take k).map (movBnd p)).flatMap Bnd.cells).length=k * 2:=by
    rw [zaq bnd_size,List.length_map,List.length_take,Nat.min_eq_left hk]
   have hbt:(k+1) * 24≤140737488355328:=by omega
   have hmx:k+1≤maxLen:=Nat.le_trans (show k+1≤1000001 by omega) (by decide)
   (repeat' ((conv=>whnf);(first|refine IfN.dT (by omega) ?_|(refine EqN.addN _ _ Cst.h Cst.h ?_ ?_;· omega)|(refine SideN.mk ?_ ?_;· first|kernel_rfl|omega|exact List.cons_ne_nil _ _|(simp;done)|(simp;omega)|exact trivial|assumption|fail)|refine SegN.nthE bnd0 k rfl (by omega) bnd_size ex ?_|refine SegN.nth (f:=encN) 0 bn rfl (by omega) (fun _=>rfl) ?_|refine SideN.mk ⟨rfl,rfl,rfl,hbt,hmx⟩ ?_|refine PtrN.loc _ rfl ?_|refine DrawN.mk' [] ?_|fail)));all_goals (conv=>whnf)
   rw [← hns]
   (refine ⟨⟨k+1,by show k+1≤_;omega,by omega,?_,.inl ⟨rfl,rfl⟩,rfl,_,rfl,?_⟩⟩;rotate_left 1;(first|exact .inl rfl|exact .inr ⟨by simp [zal,below,zaa,tr,zad,zat,zac,zae,zag,zaf,zah],by simp [zap,Blk.below,zaa,below,zad,zat,zac,zae,zag,zaf,zah]⟩|fail);(repeat' (first|exact trivial|refine ⟨⟨_,rfl,?_⟩,?_⟩|fail));all_goals try (first|exact Wk.refl _|exact Wk.of_eq (congrArg (AV.int _) (by omega))|fail))
  ·have hke:k=bi.length:=by omega
   subst hke
   rw [List.take_length]
   (repeat' ((conv=>whnf);(first|refine IfN.dF (by omega) ?_|refine DrawN.mk' [] ?_|fail)));all_goals (conv=>whnf)
   refine EndN.detF (by simp [below,zaa,zag,zaf,zah,zat]) (Frz.tup (.cons (Frz.agg (.cons (.refl _) (.cons (.refl _) (.cons (.refl _) (.cons (.refl _) (.cons (.refl _) (.cons (Frz.sl (.cons (.refl _) (.cons (.refl _) (.cons (Frz.ms (by exact rfl) (by exact rfl) (FrzL.refl _)) .nil)))) (.cons (.refl _) .nil)))))))) (.cons (.refl _) .nil))) ?_
   exact wk_tup ⟨wk_agg ⟨Wk.refl _,Wk.refl _,wk_nils,Wk.refl _,wk_sl _ _ _,Wk.refl _,wk_sl _ _ _,trivial⟩,Wk.refl _,trivial⟩
end
section
attribute [local irreducible] VW VCall VO bits
theorem has_mk {m:Mdl} {p:Fq} (hok:p.Ok) (h1:∀ s a,p.hasP s a→hasFct m s a) (h2:∀ s a,p.hasC s a→hasFnc m s a) (h3:∀ x,p.free x→hasBnd m x):hasB m (sigF p.fo)=true:=by
 unfold hasB
 rw [Bool.and_eq_true,Bool.and_eq_true,List.all_eq_true,List.all_eq_true,List.all_eq_true]
 refine ⟨fun x hx=>?_,fun x hx=>?_,fun x hx=>?_⟩
 ·obtain ⟨y,hy,rfl⟩:=List.mem_map.1 hx
  exact h1 _ _ ((mem_predY hok y).1 ((sortY_perm _).mem_iff.1 hy))
 ·obtain ⟨y,hy,rfl⟩:=List.mem_map.1 hx
  exact h2 _ _ ((mem_funY hok y).1 ((sortY_perm _).mem_iff.1 hy))
 ·exact h3 _ ((mem_freeF hok x).1 ((sortB_perm _).mem_iff.1 hx))
theorem evalG_c (m:Mdl) (hm:m.Sm) (hn:m.Nm) (hva:validM m=true) (p:Fq) (hp:Gd p) (hr:rankF p≤6) (hh:hasB m (sigF p.fo)=true) (H:Heap):VDet Tryz.prog 18 [.agg m.cells,.agg p.fo.cells] H (.tup [.bool (hv m p (bindF m)),.int .i64 0]):=by
 have:=eval_c m hm hn p hp.sm hva hp.right H
 rwa [if_neg (by omega),if_pos hh] at this
def mAw:Mdl:=⟨2,2,[],0,[⟨nR,2,6⟩],[⟨nF,1,[1,0]⟩],[⟨nX,1⟩]⟩
theorem mAw_sm:mAw.Sm:=⟨by decide,by decide,by decide,by decide,fun f hf=>by rw [List.mem_singleton.1 hf];decide⟩
theorem mAw_nm:mAw.Nm:=⟨fun f hf=>by rw [List.mem_singleton.1 hf];decide,fun f hf=>by rw [List.mem_singleton.1 hf];decide,fun f hf=>by rw [List.mem_singleton.1 hf];decide⟩
theorem mAw_v:validM mAw=true:=by kernel_rfl
def aw1:Fq:=.qn 8 nX (.qn 9 nY (.at_ nR [.vr nX,.vr nY]))
def aw2:Fq:=.qn 9 nY (.qn 8 nX (.at_ nR [.vr nX,.vr nY]))
def aw3:Fq:=.qn 8 nX (.at_ nR [.vr nX,.ap nF (.vr nX)])
def aw4:Fq:=.at_ nR [.vr nX,.ap nF (.ap nF (.vr nX))]
theorem awR {s:ByteArray} {a:Int} (h:nR=s∧a=2):inP s a∧hasFct mAw s a:=by
 obtain ⟨rfl,rfl⟩:=h
 exact ⟨.inr (.inr ⟨rfl,rfl⟩),by show (mAw.facts.find? (factP nR 2)).isSome=true;kernel_rfl⟩
theorem awF {s:ByteArray} {a:Int} (h:nF=s∧a=1):inC s a∧hasFnc mAw s a:=by
 obtain ⟨rfl,rfl⟩:=h
 exact ⟨.inr ⟨rfl,rfl⟩,by show (mAw.funcs.find? (funcP nF 1)).isSome=true;kernel_rfl⟩
theorem awX {x:ByteArray} (h:nX=x):inV x∧hasBnd mAw x:=by
 subst h
 exact ⟨.inl rfl,by show (mAw.binds.find? (bindP nX)).isSome=true;kernel_rfl⟩
theorem aw1_std:stdF aw1:=⟨.inl rfl,by kernel_rfl,.inr rfl,by kernel_rfl,by kernel_rfl,by decide,fun t ht=>by
  rcases List.mem_cons.1 ht with h|h
  ·rw [h];exact ⟨by show isVar nX=true;kernel_rfl,by decide⟩
  ·rw [List.mem_singleton.1 h];exact ⟨by show isVar nY=true;kernel_rfl,by decide⟩⟩
theorem aw1_p (s:ByteArray) (a:Int) (h:aw1.hasP s a):nR=s∧a=2:=h
theorem aw1_c (s:ByteArray) (a:Int) (h:aw1.hasC s a):nF=s∧a=1:=by
 obtain ⟨t,ht,h⟩:=h
 rcases List.mem_cons.1 ht with e|e
 ·rw [e] at h;exact h.elim
 ·rw [List.mem_singleton.1 e] at h
  exact h.elim
theorem aw1_v (x:ByteArray) (h:aw1.free x):nX=x:=by
 obtain ⟨⟨⟨t,ht,h⟩,h1⟩,h2⟩:=h
 rcases List.mem_cons.1 ht with e|e
 ·rw [e] at h;exact h
 ·rw [List.mem_singleton.1 e] at h;exact absurd (Eq.symm h) h1
theorem aw1_gd:Gd aw1:=⟨aw1_std,by decide,by decide,fun s a h=>(awR (aw1_p s a h)).1,fun s a h=>(awF (aw1_c s a h)).1,fun x h=>(awX (aw1_v x h)).1⟩
theorem aw1_e (H:Heap):VDet Tryz.prog 18 [.agg [.int .u8 2,.int .i64 2,.nils,.int .i64 0,.sx 1 [.str nR,.int .i64 2,.int .i64 6],.sx 1 [.str nF,.int .i64 1,.sx 2 [.int .i64 1,.int .i64 0]],.sx 1 [.str nX,.int .i64 1]],.agg [.int .u8 8,.str nX,.sl none 0 [],.sl none 1 [.int .u8 9,.str nY,.sl none 0 [],.sl none 1 [.int .u8 1,.str nR,.sl none 2 [.bool true,.str nX,.sl none 0 [],.bool true,.str nY,.sl none 0 []],.sl none 0 []]]]] H (.tup [.bool true,.int .i64 0]):=by
 have h:=evalG_c mAw mAw_sm mAw_nm mAw_v aw1 aw1_gd (by decide) (has_mk (std_ok _ aw1_std) (fun s a h=>(awR (aw1_p s a h)).2) (fun s a h=>(awF (aw1_c s a h)).2) fun x h=>(awX (aw1_v x h)).2) H
 have hb:hv mAw aw1 (bindF mAw)=true:=by kernel_rfl
 rw [hb] at h
 exact VDet.wk h ⟨wk_agg ⟨Wk.refl _,Wk.refl _,wk_nils,Wk.refl _,wk_sx _ _,wk_sxL ⟨Wk.refl _,Wk.refl _,wk_sx _ _,trivial⟩,wk_sx _ _,trivial⟩,Wk.refl _,trivial⟩
theorem aw2_std:stdF aw2:=⟨.inr rfl,by kernel_rfl,.inl rfl,by kernel_rfl,by kernel_rfl,by decide,fun t ht=>by
  rcases List.mem_cons.1 ht with h|h
  ·rw [h];exact ⟨by show isVar nX=true;kernel_rfl,by decide⟩
  ·rw [List.mem_singleton.1 h];exact ⟨by show isVar nY=true;kernel_rfl,by decide⟩⟩
theorem aw2_p (s:ByteArray) (a:Int) (h:aw2.hasP s a):nR=s∧a=2:=h
theorem aw2_c (s:ByteArray) (a:Int) (h:aw2.hasC s a):nF=s∧a=1:=by
 obtain ⟨t,ht,h⟩:=h
 rcases List.mem_cons.1 ht with e|e
 ·rw [e] at h;exact h.elim
 ·rw [List.mem_singleton.1 e] at h
  exact h.elim
theorem aw2_v (x:ByteArray) (h:aw2.free x):nX=x:=by
 obtain ⟨⟨⟨t,ht,h⟩,h2⟩,h1⟩:=h
 rcases List.mem_cons.1 ht with e|e
 ·rw [e] at h;exact h
 ·rw [List.mem_singleton.1 e] at h;exact absurd (Eq.symm h) h1
theorem aw2_gd:Gd aw2:=⟨aw2_std,by decide,by decide,fun s a h=>(awR (aw2_p s a h)).1,fun s a h=>(awF (aw2_c s a h)).1,fun x h=>(awX (aw2_v x h)).1⟩
theorem aw2_e (H:Heap):VDet Tryz.prog 18 [.agg [.int .u8 2,.int .i64 2,.nils,.int .i64 0,.sx 1 [.str nR,.int .i64 2,.int .i64 6],.sx 1 [.str nF,.int .i64 1,.sx 2 [.int .i64 1,.int .i64 0]],.sx 1 [.str nX,.int .i64 1]],.agg [.int .u8 9,.str nY,.sl none 0 [],.sl none 1 [.int .u8 8,.str nX,.sl none 0 [],.sl none 1 [.int .u8 1,.str nR,.sl none 2 [.bool true,.str nX,.sl none 0 [],.bool true,.str nY,.sl none 0 []],.sl none 0 []]]]] H (.tup [.bool false,.int .i64 0]):=by
 have h:=evalG_c mAw mAw_sm mAw_nm mAw_v aw2 aw2_gd (by decide) (has_mk (std_ok _ aw2_std) (fun s a h=>(awR (aw2_p s a h)).2) (fun s a h=>(awF (aw2_c s a h)).2) fun x h=>(awX (aw2_v x h)).2) H
 have hb:hv mAw aw2 (bindF mAw)=false:=by kernel_rfl
 rw [hb] at h
 exact VDet.wk h ⟨wk_agg ⟨Wk.refl _,Wk.refl _,wk_nils,Wk.refl _,wk_sx _ _,wk_sxL ⟨Wk.refl _,Wk.refl _,wk_sx _ _,trivial⟩,wk_sx _ _,trivial⟩,Wk.refl _,trivial⟩
theorem aw3_std:stdF aw3:=⟨.inl rfl,by kernel_rfl,by kernel_rfl,by decide,fun t ht=>by
  rcases List.mem_cons.1 ht with h|h
  ·rw [h];exact ⟨by show isVar nX=true;kernel_rfl,by decide⟩
  ·rw [List.mem_singleton.1 h];exact ⟨⟨by kernel_rfl,by show isVar nX=true;kernel_rfl⟩,by decide⟩⟩
theorem aw3_p (s:ByteArray) (a:Int) (h:aw3.hasP s a):nR=s∧a=2:=h
theorem aw3_c (s:ByteArray) (a:Int) (h:aw3.hasC s a):nF=s∧a=1:=by
 obtain ⟨t,ht,h⟩:=h
 rcases List.mem_cons.1 ht with e|e
 ·rw [e] at h;exact h.elim
 ·rw [List.mem_singleton.1 e] at h
  exact h.elim id fun h=>h.elim
theorem aw3_v (x:ByteArray) (h:aw3.free x):nX=x:=by
 obtain ⟨⟨t,ht,h⟩,h2⟩:=h
 rcases List.mem_cons.1 ht with e|e
 ·rw [e] at h;exact h
 ·rw [List.mem_singleton.1 e] at h;exact h
theorem aw3_gd:Gd aw3:=⟨aw3_std,by decide,by decide,fun s a h=>(awR (aw3_p s a h)).1,fun s a h=>(awF (aw3_c s a h)).1,fun x h=>(awX (aw3_v x h)).1⟩
theorem aw3_e (H:Heap):VDet Tryz.prog 18 [.agg [.int .u8 2,.int .i64 2,.nils,.int .i64 0,.sx 1 [.str nR,.int .i64 2,.int .i64 6],.sx 1 [.str nF,.int .i64 1,.sx 2 [.int .i64 1,.int .i64 0]],.sx 1 [.str nX,.int .i64 1]],.agg [.int .u8 8,.str nX,.sl none 0 [],.sl none 1 [.int .u8 1,.str nR,.sl none 2 [.bool true,.str nX,.sl none 0 [],.bool false,.str nF,.sl none 1 [.bool true,.str nX,.sl none 0 []]],.sl none 0 []]]] H (.tup [.bool true,.int .i64 0]):=by
 have h:=evalG_c mAw mAw_sm mAw_nm mAw_v aw3 aw3_gd (by decide) (has_mk (std_ok _ aw3_std) (fun s a h=>(awR (aw3_p s a h)).2) (fun s a h=>(awF (aw3_c s a h)).2) fun x h=>(awX (aw3_v x h)).2) H
 have hb:hv mAw aw3 (bindF mAw)=true:=by kernel_rfl
 rw [hb] at h
 exact VDet.wk h ⟨wk_agg ⟨Wk.refl _,Wk.refl _,wk_nils,Wk.refl _,wk_sx _ _,wk_sxL ⟨Wk.refl _,Wk.refl _,wk_sx _ _,trivial⟩,wk_sx _ _,trivial⟩,Wk.refl _,trivial⟩
theorem aw4_std:stdF aw4:=⟨by kernel_rfl,by decide,fun t ht=>by
  rcases List.mem_cons.1 ht with h|h
  ·rw [h];exact ⟨by show isVar nX=true;kernel_rfl,by decide⟩
  ·rw [List.mem_singleton.1 h];exact ⟨⟨by kernel_rfl,by kernel_rfl,by show isVar nX=true;kernel_rfl⟩,by decide⟩⟩
theorem aw4_p (s:ByteArray) (a:Int) (h:aw4.hasP s a):nR=s∧a=2:=h
theorem aw4_c (s:ByteArray) (a:Int) (h:aw4.hasC s a):nF=s∧a=1:=by
 obtain ⟨t,ht,h⟩:=h
 rcases List.mem_cons.1 ht with e|e
 ·rw [e] at h;exact h.elim
 ·rw [List.mem_singleton.1 e] at h
  exact h.elim id fun h=>h.elim id fun h=>h.elim
theorem aw4_v (x:ByteArray) (h:aw4.free x):nX=x:=by
 obtain ⟨t,ht,h⟩:=h
 rcases List.mem_cons.1 ht with e|e
 ·rw [e] at h;exact h
 ·rw [List.mem_singleton.1 e] at h;exact h
theorem aw4_gd:Gd aw4:=⟨aw4_std,by decide,by decide,fun s a h=>(awR (aw4_p s a h)).1,fun s a h=>(awF (aw4_c s a h)).1,fun x h=>(awX (aw4_v x h)).1⟩
theorem aw4_e (H:Heap):VDet Tryz.prog 18 [.agg [.int .u8 2,.int .i64 2,.nils,.int .i64 0,.sx 1 [.str nR,.int .i64 2,.int .i64 6],.sx 1 [.str nF,.int .i64 1,.sx 2 [.int .i64 1,.int .i64 0]],.sx 1 [.str nX,.int .i64 1]],.agg [.int .u8 1,.str nR,.sl none 2 [.bool true,.str nX,.sl none 0 [],.bool false,.str nF,.sl none 1 [.bool false,.str nF,.sl none 1 [.bool true,.str nX,.sl none 0 []]]],.sl none 0 []]] H (.tup [.bool false,.int .i64 0]):=by
 have h:=evalG_c mAw mAw_sm mAw_nm mAw_v aw4 aw4_gd (by decide) (has_mk (std_ok _ aw4_std) (fun s a h=>(awR (aw4_p s a h)).2) (fun s a h=>(awF (aw4_c s a h)).2) fun x h=>(awX (aw4_v x h)).2) H
 have hb:hv mAw aw4 (bindF mAw)=false:=by kernel_rfl
 rw [hb] at h
 exact VDet.wk h ⟨wk_agg ⟨Wk.refl _,Wk.refl _,wk_nils,Wk.refl _,wk_sx _ _,wk_sxL ⟨Wk.refl _,Wk.refl _,wk_sx _ _,trivial⟩,wk_sx _ _,trivial⟩,Wk.refl _,trivial⟩
def sAw:Sig:=⟨[(nP,1)],[(nA,0)],[]⟩
theorem sAw_sm:sAw.Sm:=⟨by decide,by decide,by decide,fun f hf=>by rw [List.mem_singleton.1 hf];decide,fun f hf=>by rw [List.mem_singleton.1 hf];decide,fun f hf=>by cases hf⟩
theorem sAw_r:sigR sAw=true:=by kernel_rfl
def fiveM:Mdl:=⟨2,2,[],0,[⟨nP,1,2⟩],[⟨nA,0,[1]⟩],[]⟩
theorem five_sm:fiveM.Sm:=⟨by decide,by decide,by decide,by decide,fun f hf=>by rw [List.mem_singleton.1 hf];decide⟩
theorem five_nm:fiveM.Nm:=⟨fun f hf=>by rw [List.mem_singleton.1 hf];decide,fun f hf=>by rw [List.mem_singleton.1 hf];decide,fun f hf=>by cases hf⟩
theorem five_v:validM fiveM=true:=by kernel_rfl
def twoM:Mdl:=⟨2,2,[],0,[⟨nP,1,1⟩],[⟨nA,0,[0]⟩],[]⟩
theorem two_sm:twoM.Sm:=⟨by decide,by decide,by decide,by decide,fun f hf=>by rw [List.mem_singleton.1 hf];decide⟩
theorem two_nm:twoM.Nm:=⟨fun f hf=>by rw [List.mem_singleton.1 hf];decide,fun f hf=>by rw [List.mem_singleton.1 hf];decide,fun f hf=>by cases hf⟩
theorem two_v:validM twoM=true:=by kernel_rfl
theorem p10_ok:PermOk 2 [1,0]:=by
 refine ⟨rfl,fun a ha=>?_,fun a b ha hb h=>?_,fun b hb=>?_⟩
 ·have:a=0∨a=1:=by omega
  rcases this with rfl|rfl <;> decide
 ·have h1:a=0∨a=1:=by omega
  have h2:b=0∨b=1:=by omega
  rcases h1 with rfl|rfl <;> rcases h2 with rfl|rfl <;> first|rfl|exact absurd h (by decide)
 ·have:b=0∨b=1:=by omega
  rcases this with rfl|rfl
  ·exact ⟨1,by omega,rfl⟩
  ·exact ⟨0,by omega,rfl⟩
theorem wkSAW:Wk (.agg [.sx 1 [.str nP,.int .i64 1],.sx 1 [.str nA,.int .i64 0],.nils]) (.agg sAw.cells):=wk_agg ⟨wk_sx _ _,wk_sx _ _,wk_nils,trivial⟩
theorem awake_c (H:Heap):VDet Tryz.prog 12 [] H (.bool true):=by
 have c1:∀ H,VDet Tryz.prog 35 [.agg [.sx 1 [.str nP,.int .i64 1],.sx 1 [.str nA,.int .i64 0],.nils],.int .i64 2] H (.tup [.int .i64 8,.int .i64 0]):=fun H=>VDet.wk (count_c sAw sAw_sm sAw_r 2 (by omega) (by decide) (by decide) (by decide) H) ⟨wkSAW,Wk.refl _,trivial⟩
 have c2:∀ H,VDet Tryz.prog 38 [.agg [.sx 1 [.str nP,.int .i64 1],.sx 1 [.str nA,.int .i64 0],.nils],.int .i64 2,.int .i64 5] H (.tup [.agg [.int .u8 2,.int .i64 2,.sl none 0 [],.int .i64 0,.sl none 1 [.str nP,.int .i64 1,.int .i64 2],.sl none 1 [.str nA,.int .i64 0,.sl none 1 [.int .i64 1]],.sl none 0 []],.int .i64 0]):=fun H=>VDet.wk (nth_c sAw sAw_sm sAw_r 2 (by omega) (by decide) (by decide) (by decide) 5 (by decide) (by decide) H) ⟨wkSAW,Wk.refl _,Wk.refl _,trivial⟩
 have c3:∀ H,VDet Tryz.prog 46 [.agg [.int .u8 2,.int .i64 2,.sl none 0 [],.int .i64 0,.sl none 1 [.str nP,.int .i64 1,.int .i64 2],.sl none 1 [.str nA,.int .i64 0,.sl none 1 [.int .i64 1]],.sl none 0 []],.sx 2 [.int .i64 1,.int .i64 0]] H (.tup [.agg [.int .u8 2,.int .i64 2,.sl none 0 [],.int .i64 0,.sl none 1 [.str nP,.int .i64 1,.int .i64 1],.sl none 1 [.str nA,.int .i64 0,.sl none 1 [.int .i64 0]],.sl none 0 []],.int .i64 0]):=fun H=>VDet.wk (moved1 [⟨nP,1,2⟩] [] 2 [1,0] nA 1 (by omega) (by omega) p10_ok fiveM rfl five_sm five_nm five_v H) ⟨Wk.refl _,wk_sx _ _,trivial⟩
 have c4:∀ H,VDet Tryz.prog 45 [.agg [.int .u8 2,.int .i64 2,.sl none 0 [],.int .i64 0,.sl none 1 [.str nP,.int .i64 1,.int .i64 1],.sl none 1 [.str nA,.int .i64 0,.sl none 1 [.int .i64 0]],.sl none 0 []]] H (.tup [.int .i64 2,.int .i64 0]):=fun H=>number_m twoM two_sm two_nm two_v 2 rfl (by decide) (by decide) (by decide) (by decide) (by decide) H
 have v1:=fun H=>v22_c nX H
 have v2:=fun H=>v22_c nY H
 have a1:∀ H,VDet Tryz.prog 14 [.str nR,.sx 2 [.bool true,.str nX,.sl none 0 [],.bool true,.str nY,.sl none 0 []]] H (.agg [.int .u8 1,.str nR,.sl none 2 [.bool true,.str nX,.sl none 0 [],.bool true,.str nY,.sl none 0 []],.sl none 0 []]):=fun H=>VDet.wk (atom14_c nR 2 [.bool true,.str nX,.sl none 0 [],.bool true,.str nY,.sl none 0 []] (fun m=>by simp [below,zaa]) H) ⟨Wk.refl _,wk_sx _ _,trivial⟩
 have a3:∀ H,VDet Tryz.prog 14 [.str nR,.sx 2 [.bool true,.str nX,.sl none 0 [],.bool false,.str nF,.sl none 1 [.bool true,.str nX,.sl none 0 []]]] H (.agg [.int .u8 1,.str nR,.sl none 2 [.bool true,.str nX,.sl none 0 [],.bool false,.str nF,.sl none 1 [.bool true,.str nX,.sl none 0 []]],.sl none 0 []]):=fun H=>VDet.wk (atom14_c nR 2 [.bool true,.str nX,.sl none 0 [],.bool false,.str nF,.sl none 1 [.bool true,.str nX,.sl none 0 []]] (fun m=>by simp [below,zaa]) H) ⟨Wk.refl _,wk_sx _ _,trivial⟩
 have a4:∀ H,VDet Tryz.prog 14 [.str nR,.sx 2 [.bool true,.str nX,.sl none 0 [],.bool false,.str nF,.sl none 1 [.bool false,.str nF,.sl none 1 [.bool true,.str nX,.sl none 0 []]]]] H (.agg [.int .u8 1,.str nR,.sl none 2 [.bool true,.str nX,.sl none 0 [],.bool false,.str nF,.sl none 1 [.bool false,.str nF,.sl none 1 [.bool true,.str nX,.sl none 0 []]]],.sl none 0 []]):=fun H=>VDet.wk (atom14_c nR 2 [.bool true,.str nX,.sl none 0 [],.bool false,.str nF,.sl none 1 [.bool false,.str nF,.sl none 1 [.bool true,.str nX,.sl none 0 []]]] (fun m=>by simp [below,zaa]) H) ⟨Wk.refl _,wk_sx _ _,trivial⟩
 have f1:∀ H,VDet Tryz.prog 68 [.str nF,.sx 1 [.bool true,.str nX,.sl none 0 []]] H (.agg [.bool false,.str nF,.sl none 1 [.bool true,.str nX,.sl none 0 []]]):=fun H=>VDet.wk (fn68_c nF 1 [.bool true,.str nX,.sl none 0 []] (fun m=>by simp [below,zaa]) H) ⟨Wk.refl _,wk_sx _ _,trivial⟩
 have f2:∀ H,VDet Tryz.prog 68 [.str nF,.sx 1 [.bool false,.str nF,.sl none 1 [.bool true,.str nX,.sl none 0 []]]] H (.agg [.bool false,.str nF,.sl none 1 [.bool false,.str nF,.sl none 1 [.bool true,.str nX,.sl none 0 []]]]):=fun H=>VDet.wk (fn68_c nF 1 [.bool false,.str nF,.sl none 1 [.bool true,.str nX,.sl none 0 []]] (fun m=>by simp [below,zaa]) H) ⟨Wk.refl _,wk_sx _ _,trivial⟩
 have b1:∀ H,VDet Tryz.prog 24 [.int .u8 9,.str nY,.agg [.int .u8 1,.str nR,.sl none 2 [.bool true,.str nX,.sl none 0 [],.bool true,.str nY,.sl none 0 []],.sl none 0 []]] H (.agg [.int .u8 9,.str nY,.sl none 0 [],.sl none 1 [.int .u8 1,.str nR,.sl none 2 [.bool true,.str nX,.sl none 0 [],.bool true,.str nY,.sl none 0 []],.sl none 0 []]]):=fun H=>bound_c 9 nY (Fq.fo (.at_ nR [.vr nX,.vr nY])) H
 have b2:∀ H,VDet Tryz.prog 24 [.int .u8 8,.str nX,.agg [.int .u8 9,.str nY,.sl none 0 [],.sl none 1 [.int .u8 1,.str nR,.sl none 2 [.bool true,.str nX,.sl none 0 [],.bool true,.str nY,.sl none 0 []],.sl none 0 []]]] H (.agg [.int .u8 8,.str nX,.sl none 0 [],.sl none 1 [.int .u8 9,.str nY,.sl none 0 [],.sl none 1 [.int .u8 1,.str nR,.sl none 2 [.bool true,.str nX,.sl none 0 [],.bool true,.str nY,.sl none 0 []],.sl none 0 []]]]):=fun H=>bound_c 8 nX (Fq.fo (.qn 9 nY (.at_ nR [.vr nX,.vr nY]))) H
 have b3:∀ H,VDet Tryz.prog 24 [.int .u8 8,.str nX,.agg [.int .u8 1,.str nR,.sl none 2 [.bool true,.str nX,.sl none 0 [],.bool true,.str nY,.sl none 0 []],.sl none 0 []]] H (.agg [.int .u8 8,.str nX,.sl none 0 [],.sl none 1 [.int .u8 1,.str nR,.sl none 2 [.bool true,.str nX,.sl none 0 [],.bool true,.str nY,.sl none 0 []],.sl none 0 []]]):=fun H=>bound_c 8 nX (Fq.fo (.at_ nR [.vr nX,.vr nY])) H
 have b4:∀ H,VDet Tryz.prog 24 [.int .u8 9,.str nY,.agg [.int .u8 8,.str nX,.sl none 0 [],.sl none 1 [.int .u8 1,.str nR,.sl none 2 [.bool true,.str nX,.sl none 0 [],.bool true,.str nY,.sl none 0 []],.sl none 0 []]]] H (.agg [.int .u8 9,.str nY,.sl none 0 [],.sl none 1 [.int .u8 8,.str nX,.sl none 0 [],.sl none 1 [.int .u8 1,.str nR,.sl none 2 [.bool true,.str nX,.sl none 0 [],.bool true,.str nY,.sl none 0 []],.sl none 0 []]]]):=fun H=>bound_c 9 nY (Fq.fo (.qn 8 nX (.at_ nR [.vr nX,.vr nY]))) H
 have b5:∀ H,VDet Tryz.prog 24 [.int .u8 8,.str nX,.agg [.int .u8 1,.str nR,.sl none 2 [.bool true,.str nX,.sl none 0 [],.bool false,.str nF,.sl none 1 [.bool true,.str nX,.sl none 0 []]],.sl none 0 []]] H (.agg [.int .u8 8,.str nX,.sl none 0 [],.sl none 1 [.int .u8 1,.str nR,.sl none 2 [.bool true,.str nX,.sl none 0 [],.bool false,.str nF,.sl none 1 [.bool true,.str nX,.sl none 0 []]],.sl none 0 []]]):=fun H=>bound_c 8 nX (Fq.fo (.at_ nR [.vr nX,.ap nF (.vr nX)])) H
 refine zak Tryz.E0 Tryz.mx Tryz.func12 (by kernel_rfl) rfl (Nat.le_of_ble_eq_true rfl) rfl fun hcl hbl=>?_
 (repeat' ((conv=>whnf);(first|(refine IfN.id ?_;first|refine IfN.not ?_|refine IfN.tt rfl ?_|refine IfN.ff rfl ?_|fail)|(refine EqN.addN _ _ Cst.h Cst.h ?_ ?_;· omega)|(refine SideN.mk ?_ ?_;· first|kernel_rfl|omega|exact List.cons_ne_nil _ _|(simp;done)|(simp;omega)|exact trivial|assumption|fail)|(refine CallN.id ?_;first|refine CallN.det _ (c1 _) ?_|refine CallN.det _ (c2 _) ?_|refine CallN.det _ (c3 _) ?_|refine CallN.det _ (c4 _) ?_|refine CallN.det _ (v1 _) ?_|refine CallN.det _ (v2 _) ?_|fail)|(refine CallD.id ?_;first|refine CallD.det _ (fun _ hq X=>a1 _) ?_|refine CallD.det _ (fun _ hq X=>a3 _) ?_|refine CallD.det _ (fun _ hq X=>a4 _) ?_|refine CallD.det _ (fun _ hq X=>f1 _) ?_|refine CallD.det _ (fun _ hq X=>f2 _) ?_|refine CallD.det _ (fun _ hq X=>b1 _) ?_|refine CallD.det _ (fun _ hq X=>b2 _) ?_|refine CallD.det _ (fun _ hq X=>b3 _) ?_|refine CallD.det _ (fun _ hq X=>b4 _) ?_|refine CallD.det _ (fun _ hq X=>b5 _) ?_|refine CallD.det _ (fun _ hq X=>aw1_e _) ?_|refine CallD.det _ (fun _ hq X=>aw2_e _) ?_|refine CallD.det _ (fun _ hq X=>aw3_e _) ?_|refine CallD.det _ (fun _ hq X=>aw4_e _) ?_|fail)|refine SegN.mk _ (seg_rfl rfl) ?_|refine DrawN.mk' [] ?_|fail)));all_goals (conv=>whnf)
 exact EndN.det trivial (Wk.refl _)
end
section
attribute [local irreducible] VW VCall VO bits
theorem fqx_ex (p:Fq):∃ o s n1 c1 n2 c2,fqx p=[.int .u8 ((o:Nat):Int),.str s,.sl none n1 c1,.sl none n2 c2]∧∀ n,zaa n c1∧zaa n c2 :=
 ⟨_,_,_,_,_,_,rfl,fun n=>⟨ftl_below n p,fsl_below n p⟩⟩
end
section
attribute [local irreducible] VW VCall VO bits
def PutP (p:Fq):Prop:=∀ (H:Heap) (px pc:Nat),H[px]? = some (.box 24 [.sx 3 [.str aA,.str aB,.str aC]])→H[pc]? = some (.box 25 [.clo (.func 13) [] [.ptr px 0,.ptr pc 0]])→VDet Tryz.prog 13 [.agg (fqx p),.ptr px 0,.ptr pc 0] H (.agg (fqx (putQ p)))
theorem atomN (s:ByteArray) (H:Heap):VDet Tryz.prog 14 [.str s,.nils] H (.agg [.int .u8 1,.str s,.sl none 0 [],.sl none 0 []]) :=
 VDet.wk (atom14_c s 0 [] (fun m=>trivial) H) ⟨Wk.refl _,wk_nils,trivial⟩
theorem put_fa:PutP .fa:=by
 intro H px pc hpx hpc
 show VDet _ _ [.agg [.int .u8 (2:Nat),.str .empty,.sl none 0 [],.sl none 0 []],_,_] _ (.agg [.int .u8 (2:Nat),.str .empty,.sl none 0 [],.sl none 0 []])
 refine zak Tryz.E0 Tryz.mx Tryz.func13 (by kernel_rfl) rfl (Nat.le_of_ble_eq_true rfl) rfl fun hcl hbl=>?_
 (repeat' ((conv=>whnf);(first|refine IfN.ff rfl ?_|refine DrawN.mk' [] ?_|fail)));all_goals (conv=>whnf)
 refine LoopN.rounds Tryz.E0 Tryz.mx 1 rfl ?_
 (repeat' ((conv=>whnf);(first|refine IfN.ff rfl ?_|refine DrawN.mk' [] ?_|fail)));all_goals (conv=>whnf)
 refine EndN.det (by simp [below,zaa]) ?_
 (repeat' (first|exact trivial|refine And.intro ?_ ?_|exact Wk.refl _|exact wk_sl _ _ _|exact wk_sx _ _|exact wk_nils|refine wk_agg ?_|refine wk_tup ?_|fail));done
theorem put_f1 (a:Fq) (ih:PutP a):PutP (.f1 a):=by
 intro H px pc hpx hpc
 have hi:=fun H q1 q2=>ih H px pc q1 q2
 show VDet _ _ [.agg [.int .u8 (3:Nat),.str .empty,.sl none 0 [],.sl none 1 a.fo.cells],_,_] _ (.agg [.int .u8 (3:Nat),.str .empty,.sl none 0 [],.sl none 1 (putQ a).fo.cells])
 rw [fqx_eq,fqx_eq]
 unfold fqx at hi ⊢
 refine zak Tryz.E0 Tryz.mx Tryz.func13 (by kernel_rfl) rfl (Nat.le_of_ble_eq_true rfl) rfl fun hcl hbl=>?_
 (repeat' ((conv=>whnf);(first|refine IfN.ff rfl ?_|refine DrawN.mk' [] ?_|fail)));all_goals (conv=>whnf)
 refine LoopN.rounds Tryz.E0 Tryz.mx 2 rfl ?_
 (repeat' ((conv=>whnf);(first|(refine IfN.id ?_;first|refine IfN.tt rfl ?_|refine IfN.ff rfl ?_|fail)|(refine EqN.addN _ _ Cst.h Cst.h ?_ ?_;· omega)|(refine SideN.mk ?_ ?_;· first|kernel_rfl|omega|exact List.cons_ne_nil _ _|(simp;done)|(simp;omega)|exact trivial|assumption|fail)|refine CallD.det _ (fun _ hq X=>hi _ (by (repeat' (first|assumption|exact zau _ rfl|exact zar rfl|refine zaw (B':=?_) ?_|refine zan ?_|fail))) (by (repeat' (first|assumption|exact zau _ rfl|exact zar rfl|refine zaw (B':=?_) ?_|refine zan ?_|fail)))) ?_|refine OrN.l ?_|refine SideN.mk ⟨Nat.le_of_ble_eq_true rfl,rfl,rfl,by dsimp only;omega,by simp only [maxLen];omega⟩ ?_|refine PtrN.base _ (by (repeat' (first|assumption|exact zau _ rfl|exact zar rfl|refine zaw (B':=?_) ?_|refine zan ?_|fail))) ?_|refine SegN.mk _ (seg_rfl rfl) ?_|refine DrawN.mk' [] ?_|fail)));all_goals (conv=>whnf)
 refine EndN.det (by simp [below,zaa,ftl_below,fsl_below]) ?_
 refine wk_agg ⟨Wk.refl _,Wk.refl _,wk_nils,wk_slL (WkL.id _),trivial⟩
theorem put_f2 (k:Nat) (hk:k=4∨k=5∨k=6∨k=7) (a b:Fq) (iha:PutP a) (ihb:PutP b):PutP (.f2 k a b):=by
 intro H px pc hpx hpc
 have hi:=fun H q1 q2=>iha H px pc q1 q2
 have hj:=fun H q1 q2=>ihb H px pc q1 q2
 show VDet _ _ [.agg [.int .u8 (k:Nat),.str .empty,.sl none 0 [],.sl none 2 (a.fo.cells++b.fo.cells)],_,_] _ (.agg [.int .u8 (k:Nat),.str .empty,.sl none 0 [],.sl none 2 ((putQ a).fo.cells++(putQ b).fo.cells)])
 rw [fqx_eq,fqx_eq,fqx_eq,fqx_eq]
 unfold fqx at hi hj ⊢
 refine zak Tryz.E0 Tryz.mx Tryz.func13 (by kernel_rfl) rfl (Nat.le_of_ble_eq_true rfl) rfl fun hcl hbl=>?_
 (repeat' ((conv=>whnf);(first|refine IfN.dF (by omega) ?_|refine DrawN.mk' [] ?_|fail)));all_goals (conv=>whnf)
 refine LoopN.rounds Tryz.E0 Tryz.mx 3 rfl ?_
 (repeat' ((conv=>whnf);(first|(refine IfN.id ?_;first|refine IfN.tt rfl ?_|refine IfN.ff rfl ?_|fail)|(refine EqN.addN _ _ Cst.h Cst.h ?_ ?_;· omega)|(refine SideN.mk ?_ ?_;· first|kernel_rfl|omega|exact List.cons_ne_nil _ _|(simp;done)|(simp;omega)|exact trivial|assumption|fail)|(refine CallD.id ?_;first|refine CallD.det _ (fun _ hq X=>hi _ (by (repeat' (first|assumption|exact zau _ rfl|exact zar rfl|refine zaw (B':=?_) ?_|refine zan ?_|fail))) (by (repeat' (first|assumption|exact zau _ rfl|exact zar rfl|refine zaw (B':=?_) ?_|refine zan ?_|fail)))) ?_|refine CallD.det _ (fun _ hq X=>hj _ (by (repeat' (first|assumption|exact zau _ rfl|exact zar rfl|refine zaw (B':=?_) ?_|refine zan ?_|fail))) (by (repeat' (first|assumption|exact zau _ rfl|exact zar rfl|refine zaw (B':=?_) ?_|refine zan ?_|fail)))) ?_|fail)|refine OrN.l ?_|refine SideN.mk ⟨rfl,rfl,rfl,by dsimp only;omega,by simp only [maxLen];omega⟩ ?_|refine SideN.mk ⟨Nat.le_of_ble_eq_true rfl,rfl,rfl,by dsimp only;omega,by simp only [maxLen];omega⟩ ?_|(refine PtrN.id ?_;first|refine PtrN.loc _ rfl ?_|refine PtrN.base _ (by (repeat' (first|assumption|exact zau _ rfl|exact zar rfl|refine zaw (B':=?_) ?_|refine zan ?_|fail))) ?_|fail)|refine SegN.mk _ (seg_rfl rfl) ?_|refine DrawN.mk' [] ?_|fail)));all_goals (conv=>whnf)
 refine EndN.det (by simp [below,zaa,ftl_below,fsl_below]) ?_
 refine wk_agg ⟨Wk.refl _,Wk.refl _,wk_nils,wk_slL (WkL.id _),trivial⟩
theorem put_qn (k:Nat) (hk:k=8∨k=9) (y:ByteArray) (a:Fq) (ih:PutP a):PutP (.qn k y a):=by
 intro H px pc hpx hpc
 have hi:=fun H q1 q2=>ih H px pc q1 q2
 rw [fqx_qn]
 unfold putQ
 unfold fqx at hi ⊢
 rcases hk with rfl|rfl
 all_goals
  refine zak Tryz.E0 Tryz.mx Tryz.func13 (by kernel_rfl) rfl (Nat.le_of_ble_eq_true rfl) rfl fun hcl hbl=>?_
  (repeat' ((conv=>whnf);(first|(refine IfN.id ?_;first|refine IfN.tt rfl ?_|refine IfN.ff rfl ?_|fail)|(refine SideN.mk ?_ ?_;· first|kernel_rfl|omega|exact List.cons_ne_nil _ _|(simp;done)|(simp;omega)|exact trivial|assumption|fail)|refine CallD.det _ (fun _ hq X=>hi _ (by (repeat' (first|assumption|exact zau _ rfl|exact zar rfl|refine zaw (B':=?_) ?_|refine zan ?_|fail))) (by (repeat' (first|assumption|exact zau _ rfl|exact zar rfl|refine zaw (B':=?_) ?_|refine zan ?_|fail)))) ?_|refine PtrN.base _ (by (repeat' (first|assumption|exact zau _ rfl|exact zar rfl|refine zaw (B':=?_) ?_|refine zan ?_|fail))) ?_|refine SegN.mk _ (seg_rfl rfl) ?_|refine DrawN.mk' [] ?_|fail)));all_goals (conv=>whnf)
  exact EndN.det (by simp [below,zaa,ftl_below,fsl_below]) (Wk.refl _)
theorem put_at (s:ByteArray) (l:List Tq) (hl:l.length≤2):PutP (.at_ s l):=by
 intro H px pc hpx hpc
 have e2:fqx (putQ (.at_ s l))=[.int .u8 1,.str (aN l.length),.sl none 0 [],.sl none 0 []]:=rfl
 rw [e2]
 match l,hl with
 | [],_ =>
   obtain ⟨Z,hZ⟩:∃ Z,fqx (.at_ s [])=[.int .u8 (1:Nat),.str s,.sl none 0 Z,.sl none 0 []]:=⟨_,rfl⟩
   rw [hZ]
   show VDet _ _ _ _ (.agg [.int .u8 1,.str aA,.sl none 0 [],.sl none 0 []])
   refine zak Tryz.E0 Tryz.mx Tryz.func13 (by kernel_rfl) rfl (Nat.le_of_ble_eq_true rfl) rfl fun hcl hbl=>?_
   (repeat' ((conv=>whnf);(first|refine IfN.tt rfl ?_|(refine SideN.mk ?_ ?_;· first|kernel_rfl|omega|exact List.cons_ne_nil _ _|(simp;done)|(simp;omega)|exact trivial|assumption|fail)|refine CallN.det _ (atomN _ _) ?_|refine PtrN.base _ (by (repeat' (first|assumption|exact zau _ rfl|exact zar rfl|refine zaw (B':=?_) ?_|refine zan ?_|fail))) ?_|refine SegN.mk _ (seg_rfl rfl) ?_|refine DrawN.mk' [] ?_|fail)));all_goals (conv=>whnf)
   exact EndN.det (by simp [below,zaa]) (Wk.refl _)
 | [t],_ =>
   obtain ⟨Z,hZ⟩:∃ Z,fqx (.at_ s [t])=[.int .u8 (1:Nat),.str s,.sl none 1 Z,.sl none 0 []]:=⟨_,rfl⟩
   rw [hZ]
   show VDet _ _ _ _ (.agg [.int .u8 1,.str aB,.sl none 0 [],.sl none 0 []])
   refine zak Tryz.E0 Tryz.mx Tryz.func13 (by kernel_rfl) rfl (Nat.le_of_ble_eq_true rfl) rfl fun hcl hbl=>?_
   (repeat' ((conv=>whnf);(first|refine IfN.tt rfl ?_|(refine SideN.mk ?_ ?_;· first|kernel_rfl|omega|exact List.cons_ne_nil _ _|(simp;done)|(simp;omega)|exact trivial|assumption|fail)|refine CallN.det _ (atomN _ _) ?_|refine PtrN.base _ (by (repeat' (first|assumption|exact zau _ rfl|exact zar rfl|refine zaw (B':=?_) ?_|refine zan ?_|fail))) ?_|refine SegN.mk _ (seg_rfl rfl) ?_|refine DrawN.mk' [] ?_|fail)));all_goals (conv=>whnf)
   exact EndN.det (by simp [below,zaa]) (Wk.refl _)
 | [t,u],_ =>
   obtain ⟨Z,hZ⟩:∃ Z,fqx (.at_ s [t,u])=[.int .u8 (1:Nat),.str s,.sl none 2 Z,.sl none 0 []]:=⟨_,rfl⟩
   rw [hZ]
   show VDet _ _ _ _ (.agg [.int .u8 1,.str aC,.sl none 0 [],.sl none 0 []])
   refine zak Tryz.E0 Tryz.mx Tryz.func13 (by kernel_rfl) rfl (Nat.le_of_ble_eq_true rfl) rfl fun hcl hbl=>?_
   (repeat' ((conv=>whnf);(first|refine IfN.tt rfl ?_|(refine SideN.mk ?_ ?_;· first|kernel_rfl|omega|exact List.cons_ne_nil _ _|(simp;done)|(simp;omega)|exact trivial|assumption|fail)|refine CallN.det _ (atomN _ _) ?_|refine PtrN.base _ (by (repeat' (first|assumption|exact zau _ rfl|exact zar rfl|refine zaw (B':=?_) ?_|refine zan ?_|fail))) ?_|refine SegN.mk _ (seg_rfl rfl) ?_|refine DrawN.mk' [] ?_|fail)));all_goals (conv=>whnf)
   exact EndN.det (by simp [below,zaa]) (Wk.refl _)
theorem putP_c:∀ p:Fq,p.Ok→PutP p
 | .at_ s l,h=>put_at s l h
 | .fa,_=>put_fa
 | .f1 a,h=>put_f1 a (putP_c a h)
 | .f2 k a b,h=>put_f2 k h.1 a b (putP_c a h.2.1) (putP_c b h.2.2)
 | .qn k y a,h=>put_qn k h.1 y a (putP_c a h.2)
theorem model_c (v:Nat) (hv:v<8) (H:Heap):VDet Tryz.prog 16 [.sl none 3 [.str aA,.str aB,.str aC],.int .i64 (v:Nat)] H (.tup [.agg [.int .u8 1,.int .i64 1,.sl none 0 [],.int .i64 0,.sl none 3 [.str aA,.int .i64 0,.int .i64 (vA v 0:Nat),.str aB,.int .i64 0,.int .i64 (vA v 1:Nat),.str aC,.int .i64 0,.int .i64 (vA v 2:Nat)],.sl none 0 [],.sl none 0 []],.int .i64 0]):=by
 have hnm:=fun H=>P10.isNames_g abc (by decide) (fun c hc=>by
  have hc:c=aA∨c=aB∨c=aC:=by simpa [abc] using hc
  rcases hc with rfl|rfl|rfl <;> decide) H
 rw [show P10.isNmG abc=true by kernel_rfl] at hnm
 have hnm:∀ H,VDet Tryz.prog 70 [.sl none 3 [.str aA,.str aB,.str aC]] H (.bool true):=hnm
 have hc:v=0∨v=1∨v=2∨v=3∨v=4∨v=5∨v=6∨v=7:=by omega
 rcases hc with rfl|rfl|rfl|rfl|rfl|rfl|rfl|rfl
 all_goals
  refine zak Tryz.E0 Tryz.mx Tryz.func16 (by kernel_rfl) rfl (Nat.le_of_ble_eq_true rfl) rfl fun hcl hbl=>?_
  (repeat' ((conv=>whnf);(first|(refine IfN.id ?_;first|refine IfN.not ?_|refine IfN.tt rfl ?_|refine IfN.ff rfl ?_|fail)|(refine EqN.shlN _ _ Cst.h Cst.h rfl ?_ ?_ ?_;(· (repeat' (first|omega|refine And.intro ?_ ?_|exact za4 (by omega)|exact bnd_andr (by omega)|refine bnd_or ?_ ?_|refine bnd_or31 ?_ ?_|refine bnd_xor ?_ ?_|refine bnd_xor31 ?_ ?_|refine bnd_shr ?_|refine bnd_shl ?_ ?_|refine bnd_mod ?_|refine za4 ?_|fail)));(· (repeat' (first|omega|refine And.intro ?_ ?_|exact za4 (by omega)|exact bnd_andr (by omega)|refine bnd_or ?_ ?_|refine bnd_or31 ?_ ?_|refine bnd_xor ?_ ?_|refine bnd_xor31 ?_ ?_|refine bnd_shr ?_|refine bnd_shl ?_ ?_|refine bnd_mod ?_|refine za4 ?_|fail))))|(refine SideN.mk ?_ ?_;· first|kernel_rfl|omega|exact List.cons_ne_nil _ _|(simp;done)|(simp;omega)|exact trivial|assumption|fail)|refine CallN.det _ (hnm _) ?_|refine DrawN.mk' [] ?_|fail)));all_goals (conv=>whnf)
  refine LoopN.tokB 1 4 95 3 rfl rfl rfl rfl rfl rfl ?_
  refine LoopN.rounds Tryz.E0 Tryz.mx 4 rfl ?_
  (repeat' ((conv=>whnf);(first|(refine IfN.id ?_;first|refine IfN.tt rfl ?_|refine IfN.ff rfl ?_|fail)|(refine EqN.id ?_;first|(refine EqN.and _ _ Cst.h Cst.h ?_ ?_;· (repeat' (first|omega|refine And.intro ?_ ?_|exact za4 (by omega)|exact bnd_andr (by omega)|refine bnd_or ?_ ?_|refine bnd_or31 ?_ ?_|refine bnd_xor ?_ ?_|refine bnd_xor31 ?_ ?_|refine bnd_shr ?_|refine bnd_shl ?_ ?_|refine bnd_mod ?_|refine za4 ?_|fail)))|(refine EqN.shrN _ _ Cst.h Cst.h rfl ?_ ?_;· (repeat' (first|omega|refine And.intro ?_ ?_|exact za4 (by omega)|exact bnd_andr (by omega)|refine bnd_or ?_ ?_|refine bnd_or31 ?_ ?_|refine bnd_xor ?_ ?_|refine bnd_xor31 ?_ ?_|refine bnd_shr ?_|refine bnd_shl ?_ ?_|refine bnd_mod ?_|refine za4 ?_|fail)))|(refine EqN.addN _ _ Cst.h Cst.h ?_ ?_;· omega)|(refine EqN.subN _ _ Cst.h Cst.h ?_ ?_;· omega)|fail)|(refine SideN.mk ?_ ?_;· first|kernel_rfl|omega|exact List.cons_ne_nil _ _|(simp;done)|(simp;omega)|exact trivial|assumption|fail)|refine SideN.mk ⟨rfl,rfl,rfl,by simp,by simp [maxLen]⟩ ?_|refine PtrN.loc _ rfl ?_|refine SegN.mk _ (seg_rfl rfl) ?_|refine DrawN.mk' [] ?_|fail)));all_goals (conv=>whnf)
  exact EndN.det (by simp [below,zaa]) (by (repeat' (first|exact trivial|refine And.intro ?_ ?_|exact Wk.refl _|exact wk_sl _ _ _|exact wk_sx _ _|exact wk_nils|refine wk_agg ?_|refine wk_tup ?_|fail));done)
end
section
attribute [local irreducible] VW VCall VO bits
theorem props_law (l:List Nat) (hl:l.length≤9223372036854775807) (hb:∀ i,i<l.length→l.getD i 0≤255) (v:Nat) (hv2:v≤255) (sz:Nat) (hsz:sz≤255) (H:Heap) :
  VDet Tryz.prog 3 [.sl none l.length (l.flatMap encB),.int .u8 (v:Nat),.int .u8 (sz:Nat)] H (.bool true):=by
 have hBl:=fun H=>built15_c l hl hb H
 have hgd:=blt_gd l
 generalize bltF l=p at hBl hgd
 have hpok:=std_ok p hgd.std
 have hpg:=put_pg hgd
 have hput:=putP_c p hpok
 obtain ⟨w,hw,hw8⟩:∃ w,v % 8=w∧w<8:=⟨_,rfl,Nat.mod_lt _ (by decide)⟩
 obtain ⟨r,hr,hr3⟩:∃ r,sz % 3=r∧r<3:=⟨_,rfl,Nat.mod_lt _ (by decide)⟩
 have hmod:∀ H,VDet Tryz.prog 16 [.sx 3 [.str aA,.str aB,.str aC],.int .i64 (w:Nat)] H (.tup [.agg [.int .u8 1,.int .i64 1,.sl none 0 [],.int .i64 0,.sl none 3 [.str aA,.int .i64 0,.int .i64 (vA w 0:Nat),.str aB,.int .i64 0,.int .i64 (vA w 1:Nat),.str aC,.int .i64 0,.int .i64 (vA w 2:Nat)],.sl none 0 [],.sl none 0 []],.int .i64 0]):=fun H=>VDet.wk (model_c w hw8 H) ⟨wk_sx _ _,Wk.refl _,trivial⟩
 have hA:vA w 0<2∧vA w 1<2∧vA w 2<2:=⟨Nat.mod_lt _ (by decide),Nat.mod_lt _ (by decide),Nat.mod_lt _ (by decide)⟩
 have hev:∀ H,VDet Tryz.prog 17 [.agg (fqx (putQ p)),.sx 3 [.str aA,.str aB,.str aC],.int .i64 (w:Nat)] H (.tup [.bool (hv (valM (1+r) (vA w 0) (vA w 1) (vA w 2)) (putQ p) (bindF (valM (1+r) (vA w 0) (vA w 1) (vA w 2)))),.int .i64 0]):=fun H=>by
  have h:=P10.eval_g (putQ p).fo hpg.sm.good (addG_put hgd) abc (by decide) (fun c hc=>by
   have hc:c=aA∨c=aB∨c=aC:=by simpa [abc] using hc
   rcases hc with rfl|rfl|rfl <;> decide) (w:Nat) H
  unfold P10.evalA at h
  rw [errN_put hgd w hw8,Int.toNat_natCast,← fp_q,P10.evF_fp _ _ (fpq_ok p hpok),ev_put (1+r) w p (bindF (valM (1+r) (vA w 0) (vA w 1) (vA w 2))),fp_q,fqx_eq,decide_eq_true rfl,Bool.true_and] at h
  have h:VDet Tryz.prog 17 [.agg (fqx (putQ p)),.sl none 3 [.str aA,.str aB,.str aC],.int .i64 (w:Nat)] H _:=h
  exact VDet.wk h ⟨Wk.refl _,wk_sx _ _,Wk.refl _,trivial⟩
 have hfe:∀ H,VDet Tryz.prog 18 [.agg (valM (1+r) (vA w 0) (vA w 1) (vA w 2)).cells,.agg (fqx (putQ p))] H (.tup [.bool (hv (valM (1+r) (vA w 0) (vA w 1) (vA w 2)) (putQ p) (bindF (valM (1+r) (vA w 0) (vA w 1) (vA w 2)))),.int .i64 0]):=fun H=>by
  have h:=eval_c (valM (1+r) (vA w 0) (vA w 1) (vA w 2)) (val_sm _ _ _ _) (val_nm _ _ _ _) (putQ p) hpg.sm (val_valid (by omega) hA.1 hA.2.1 hA.2.2) hpg.right H
  rw [put_rank,if_neg (by decide),hpg.has,if_pos rfl,fqx_eq] at h
  exact h
 have hrk:∀ H,VDet Tryz.prog 19 [.agg (fqx (putQ p))] H (.int .i64 0):=fun H=>by
  have h:=rank_c (putQ p) (put_ok p hpok) (by rw [put_rank];omega) H
  rw [put_rank,fqx_eq] at h
  exact h
 generalize hv (valM (1+r) (vA w 0) (vA w 1) (vA w 2)) (putQ p) (bindF (valM (1+r) (vA w 0) (vA w 1) (vA w 2)))=V at hev hfe
 have hmc:(valM (1+r) (vA w 0) (vA w 1) (vA w 2)).cells=[.int .u8 2,.int .i64 (1+r:Nat),.sl none 0 [],.int .i64 0,.sl none 3 [.str aA,.int .i64 0,.int .i64 (vA w 0:Nat),.str aB,.int .i64 0,.int .i64 (vA w 1:Nat),.str aC,.int .i64 0,.int .i64 (vA w 2:Nat)],.sl none 0 [],.sl none 0 []]:=rfl
 rw [hmc] at hfe
 unfold PutP at hput
 obtain ⟨o,s,n1,c1,n2,c2,hqe,hpb⟩:=fqx_ex p
 obtain ⟨o',s',n1',c1',n2',c2',hqe',hqb⟩:=fqx_ex (putQ p)
 rw [hqe] at hBl
 rw [hqe,hqe'] at hput
 rw [hqe'] at hev hfe hrk
 generalize vA w 0=t0 at *
 generalize vA w 1=t1 at *
 generalize vA w 2=t2 at *
 refine zak Tryz.E0 Tryz.mx Tryz.func3 (by kernel_rfl) rfl (Nat.le_of_ble_eq_true rfl) rfl fun hcl hbl=>?_
 (repeat' ((conv=>whnf);(first|(refine IfN.id ?_;first|refine IfN.tt (beq_self_eq_true V) ?_|refine IfN.not ?_|refine IfN.tt rfl ?_|fail)|(refine EqN.id ?_;first|refine EqN.remC w rfl rfl hw ?_|refine EqN.remC r rfl rfl hr ?_|(refine EqN.addN _ _ Cst.h Cst.h ?_ ?_;· omega)|refine EqN.i64 (by omega) ?_|fail)|(refine SideN.mk ?_ ?_;· first|kernel_rfl|omega|exact List.cons_ne_nil _ _|(simp;done)|(simp;omega)|exact trivial|assumption|fail)|(refine CallN.id ?_;first|refine CallN.det _ (awake_c _) ?_|refine CallN.det _ (hmod _) ?_|refine CallN.det _ (hev _) ?_|refine CallN.det _ (hfe _) ?_|refine CallN.det _ (hrk _) ?_|fail)|(refine CallD.id ?_;first|refine CallD.det _ (fun _ hq X=>hBl _) ?_|refine CallD.det _ (fun _ hq X=>hput _ _ _ (at_tq X hq rfl rfl rfl) (at_tq X hq rfl rfl rfl)) ?_|fail)|refine DrawN.mk' [] ?_|fail)));all_goals (conv=>whnf)
 all_goals exact EndN.det trivial (Wk.refl _)
end
end Go.Proofs.YtgdmldelijeaoaaGreatDoor
namespace Go.Proofs.YtgdmldelijeaoaaGreatDoor
section
open Go.ChangeShapes Go.WideShapes Go.ChangeAt Go.RowKit Go.Vsi
theorem mrel_of {g:G} {W:World} {b:Nat} (hg:∀ b o,¬ g.own b o):∀ (l:List AV) (cs:List Value) (o:Nat),LRel g W l cs→(∀ (i:Nat) c,cs[i]? = some c→W.cell? ⟨b,o+i,.none⟩=some c)→MRel g W l b o
 | [],_,_,_,_=>trivial
 | v::l,cs,o,h,hc=>by
   simp only [LRel] at h
   obtain ⟨c,r,rfl,h1,h2⟩:=h
   refine ⟨⟨c,by simpa using hc 0 c rfl,h1,hg _ _⟩,?_⟩
   exact mrel_of hg l r (o+1) h2 fun i c' hi=>by
    have:=hc (i+1) c' (by simpa using hi)
    rwa [show o+(i+1)=o+1+i by omega] at this
theorem mone {W:World} {n:String} {gi:Nat} {ty:TypeId} {T:Ty} {D:DataW Unit} {cells:List AV} {g0:Nat} {t0:TypeId} {cs0:Array Value} {f0:Nat} {p0:List MemPlace}
  (hg:Tryz.prog.globalNamed n=some gi) (ht:(Tryz.prog.globals[gi]?).map (·.type)=some ty) (hty:TyOk Tryz.prog ty T) (hpl:PlTy T) (hD:∃ l',DatOf (H:=Unit) D l'∧l'=cells)
  (hg0:Tryz.prog.globalNamed n=some g0) (ht0:(Tryz.prog.globals[g0]?).map (·.type)=some t0) (hv0:W.var? Tryz.prog n=some cs0) (hd0:DataW.trod (fun _=>()) Tryz.prog W 0 (fun _=>true) false f0 t0 cs0.toList=some (D,p0)):MRel G.none W cells gi 0:=by
 obtain rfl:=Option.some.inj (hg.symm.trans hg0)
 obtain rfl:=Option.some.inj (ht.symm.trans ht0)
 obtain ⟨l,h1,h2⟩:=trod_dat (g:=G.none) _ hpl hty hd0
 obtain ⟨l',hl1,hl2⟩:=hD
 have hll:l=cells:=(DatOf.det h1 hl1).trans hl2
 rw [← hll]
 refine mrel_of (fun _ _ h=>h) l cs0.toList 0 h2 fun i c hi=>?_
 have:=World.var?_cell hg0 hv0 i
 rw [Nat.zero_add,this]
 simpa using hi
theorem gl_of_laid {W:World} (h:laidMetH Tryz.prog [("lyceum/syntax.rows",Rows.laid_lyceum_syntax_rows),("lyceum/truth.patterns",Rows.laid_lyceum_truth_patterns)] W):∀ p∈Glob.gl,MRel G.none W p.2 p.1 0:=by
 rw [MakeChecks.laidMetH_plain _ _ _ (by kernel_rfl)] at h
 obtain ⟨ps,⟨g0,t0,cs0,f0,p0,q0,hg0,ht0,hv0,hd0,⟨g1,t1,cs1,f1,p1,q1,hg1,ht1,hv1,hd1,_⟩,_⟩,_⟩:=h
 have m0:MRel G.none W (Tryz.gl[1]).2 1 0:=mone (T:=repTy 17 (.pair .bool (.pair .bool (.pair (.int .u8) (.pair (.int .i64) (.pair (.int .i64) .unit)))))) (ty:=239) (by kernel_rfl) (by kernel_rfl) (tyOf_ok Tryz.T_ok 12 239 _ (by kernel_rfl)) (by simp [repTy,PlTy]) ⟨_,by unfold Rows.laid_lyceum_syntax_rows;repeat constructor,by kernel_rfl⟩ hg0 ht0 hv0 hd0
 have m1:MRel G.none W (Tryz.gl[0]).2 0 0:=mone (T:=repTy 6 (.int .u64)) (ty:=170) (by kernel_rfl) (by kernel_rfl) (tyOf_ok Tryz.T_ok 12 170 _ (by kernel_rfl)) (by simp [repTy,PlTy]) ⟨_,by unfold Rows.laid_lyceum_truth_patterns;repeat constructor,by kernel_rfl⟩ hg1 ht1 hv1 hd1
 intro p hp
 have hp0:p=Tryz.gl[0]∨p=Tryz.gl[1]:=by
  have:p∈Tryz.gl:=hp
  simpa [Tryz.gl] using this
 rcases hp0 with rfl|rfl
 ·exact m1
 ·exact m0
theorem u8_nat {n:Int} (h:(Lit.int .u8 n).wf=true):∃ m:Nat,n=m∧m≤255:=⟨n.toNat,by have:=wf_u8 h;omega,by have:=wf_u8 h;omega⟩
theorem bytes_nat {l:List Int} (h:l.length≤maxLen∧∀ x∈l,(Lit.int .u8 x).wf=true):∃ c:List Nat,l=c.map (fun n:Nat=>(n:Int))∧c.length≤9223372036854775807∧∀ i,i<c.length→c.getD i 0≤255:=by
 refine ⟨l.map Int.toNat,?_,by simpa using zbd h.1,fun i hi=>?_⟩
 ·rw [List.map_map]
  refine (List.map_id' l).symm.trans (List.map_congr_left fun x hx=>?_)
  have:=wf_u8 (h.2 x hx)
  simp only [Function.comp]
  omega
 ·have hi':i<l.length:=by simpa using hi
  have:=wf_u8 (h.2 _ (List.getElem_mem hi'))
  simp only [List.getD_eq_getElem?_getD,List.getElem?_map,List.getElem?_eq_getElem hi',Option.map_some,Option.getD_some]
  omega
theorem bytes_len (c:List Nat):List.length (α:=Ty.I (.int .u8)) (c.map fun n:Nat=>(n:Int))=c.length:=List.length_map ..
theorem bytes_enc (c:List Nat):List.flatMap (α:=Ty.I (.int .u8)) (Ty.enc (.int .u8)) (c.map fun n:Nat=>(n:Int))=c.flatMap fun n:Nat=>[.int .u8 (n:Int)]:=by
 induction c with
 | nil=>rfl
 | cons x c ih=>rw [List.flatMap_cons,← ih];rfl
theorem bytes_cast (c:List Nat) (p:AV→Prop) (h:p (.sl none c.length (c.flatMap fun n:Nat=>[.int .u8 (n:Int)]))):p (.sl none (List.length (α:=Ty.I (.int .u8)) (c.map fun n:Nat=>(n:Int))) (List.flatMap (α:=Ty.I (.int .u8)) (Ty.enc (.int .u8)) (c.map fun n:Nat=>(n:Int)))):=by
 rw [bytes_len,bytes_enc];exact h
end
end Go.Proofs.YtgdmldelijeaoaaGreatDoor
