/- A text of the proof: the parts PJ41, PK41, PL41, PN41, BG41, BH41, BJ41, BK41, PO41, BM41, DZ41. -/
import Derived.ProofKit
import Derived.LaidMore
import Derived.OpenShut
import Derived.Test.YtgdmldelijeaoaaGreatDoorK11
set_option linter.unusedSimpArgs false
set_option linter.unusedVariables false
/-! text PJ41 -/
namespace Go.Proofs.YtgdmldelijeaoaaGreatDoor
open Go.Vsi
set_option maxHeartbeats 4000000
theorem len_sub {α:Type}:∀ (M l:List α),l.Nodup→(∀ x∈l,x∈M)→l.length≤M.length:=by
 classical
 intro M
 induction M with
 | nil =>
   intro l _ h
   cases l with
   | nil=>exact Nat.le_refl _
   | cons x l=>exact absurd (h x List.mem_cons_self) (by simp)
 | cons a M ih =>
   intro l hn h
   by_cases ha:a∈l
   ·have h1:=ih (l.erase a) (hn.erase a) fun x hx=>by
     have hx:=(List.Nodup.mem_erase_iff hn).1 hx
     rcases List.mem_cons.1 (h x hx.2) with e|e
     ·exact absurd e hx.1
     ·exact e
    rw [List.length_erase_of_mem ha] at h1
    rw [List.length_cons]
    omega
   ·have h1:=ih l hn fun x hx=>by
     rcases List.mem_cons.1 (h x hx) with e|e
     ·exact absurd (e▸hx) ha
     ·exact e
    rw [List.length_cons]
    omega
def inP (s:ByteArray) (a:Int):Prop:=(s=nP∧a=1)∨(s=nQ∧a=0)∨(s=nR∧a=2)
def inC (s:ByteArray) (a:Int):Prop:=(s=nA∧a=0)∨(s=nF∧a=1)
def inV (x:ByteArray):Prop:=x=nX∨x=nY∨x=nZ
structure symF (q:Fq):Prop where
 p:∀ s a,q.hasP s a→inP s a
 c:∀ s a,q.hasC s a→inC s a
 v:∀ x,q.free x→inV x
theorem bTm_std:∀ k i:Nat,stdT (bTmI k i)
 | k,0=>by
   have hk:k % 4<4:=Nat.mod_lt _ (by decide)
   have:k % 4=0∨k % 4=1∨k % 4=2∨k % 4=3:=by omega
   unfold bTmI bts
   rcases this with e|e|e|e <;> rw [e]
   ·show isVar nX=true
    kernel_rfl
   ·show isVar nY=true
    kernel_rfl
   ·show isVar nZ=true
    kernel_rfl
   ·show isFun nA=true
    kernel_rfl
 | k,i+1=>⟨by kernel_rfl,bTm_std k i⟩
theorem bTm_w:∀ k i:Nat,wT (bTmI k i)=i+1
 | k,0=>by
   have hk:k % 4<4:=Nat.mod_lt _ (by decide)
   have:k % 4=0∨k % 4=1∨k % 4=2∨k % 4=3:=by omega
   unfold bTmI bts
   rcases this with e|e|e|e <;> rw [e] <;> rfl
 | k,i+1=>by
   show wT (bTmI k i)+1=_
   rw [bTm_w k i]
theorem bTm_w3 (k:Nat):wT (bTm k)≤3:=by
 unfold bTm
 rw [bTm_w]
 have:=Nat.mod_lt (k / 4) (show 0<3 by omega)
 omega
theorem bTm_C:∀ k i:Nat,∀ s a,(bTmI k i).hasC s a→inC s a
 | k,0,s,a,h=>by
   have hk:k % 4<4:=Nat.mod_lt _ (by decide)
   have:k % 4=0∨k % 4=1∨k % 4=2∨k % 4=3:=by omega
   unfold bTmI bts at h
   rcases this with e|e|e|e <;> rw [e] at h
   ·exact h.elim
   ·exact h.elim
   ·exact h.elim
   ·exact .inl ⟨Eq.symm h.1,h.2⟩
 | k,i+1,s,a,h=>by
   rcases h with h|h
   ·exact .inr ⟨Eq.symm h.1,h.2⟩
   ·exact bTm_C k i s a h
theorem ltr_in (j:Nat):inV (ltr j):=by
 have hk:j % 3<3:=Nat.mod_lt _ (by decide)
 have:j % 3=0∨j % 3=1∨j % 3=2:=by omega
 unfold ltr xyz
 rcases this with e|e|e <;> rw [e]
 ·exact .inl rfl
 ·exact .inr (.inl rfl)
 ·exact .inr (.inr rfl)
theorem inV_var {x:ByteArray} (h:inV x):isVar x=true:=by
 rcases h with rfl|rfl|rfl <;> kernel_rfl
theorem blt_std (l:List Nat):stdF (bltF l):=blt_all (Q:=stdF) trivial
 (fun k=>⟨by kernel_rfl,by show 1≤2;omega,fun t ht=>by rw [List.mem_singleton.1 ht];exact ⟨bTm_std _ _,bTm_w3 k⟩⟩)
 ⟨by kernel_rfl,Nat.zero_le _,fun t ht=>by cases ht⟩
 (fun k j=>⟨by kernel_rfl,Nat.le_refl _,fun t ht=>by
  rcases List.mem_cons.1 ht with h|h
  ·rw [h];exact ⟨bTm_std _ _,bTm_w3 k⟩
  ·rw [List.mem_singleton.1 h];exact ⟨bTm_std _ _,bTm_w3 j⟩⟩)
 (fun _ h=>h) (fun _ _ _ h1 h2 h3=>⟨h1,h2,h3⟩) (fun _ j _ h1 h2=>⟨h1,inV_var (ltr_in j),h2⟩) l
theorem blt_sym (l:List Nat):symF (bltF l):=blt_all (Q:=symF)
 ⟨fun _ _ h=>h.elim,fun _ _ h=>h.elim,fun _ h=>h.elim⟩
 (fun k=>⟨fun s a h=>.inl ⟨Eq.symm h.1,h.2⟩,fun s a ⟨t,ht,h⟩=>by rw [List.mem_singleton.1 ht] at h;exact bTm_C _ _ _ _ h,fun x ⟨t,ht,h⟩=>by rw [List.mem_singleton.1 ht] at h;exact bTm_noV _ _ _ h⟩)
 ⟨fun s a h=>.inr (.inl ⟨Eq.symm h.1,h.2⟩),fun s a ⟨t,ht,h⟩=>(by cases ht),fun x ⟨t,ht,h⟩=>by cases ht⟩
 (fun k j=>⟨fun s a h=>.inr (.inr ⟨Eq.symm h.1,h.2⟩),fun s a ⟨t,ht,h⟩=>by
  rcases List.mem_cons.1 ht with e|e
  ·rw [e] at h;exact bTm_C _ _ _ _ h
  ·rw [List.mem_singleton.1 e] at h;exact bTm_C _ _ _ _ h,fun x ⟨t,ht,h⟩=>by
  rcases List.mem_cons.1 ht with e|e
  ·rw [e] at h;exact bTm_noV _ _ _ h
  ·rw [List.mem_singleton.1 e] at h;exact bTm_noV _ _ _ h⟩)
 (fun _ h=>⟨h.p,h.c,h.v⟩)
 (fun _ _ _ _ h1 h2=>⟨fun s a h=>h.elim (h1.p s a) (h2.p s a),fun s a h=>h.elim (h1.c s a) (h2.c s a),fun x h=>h.elim (h1.v x) (h2.v x)⟩)
 (fun _ _ _ _ h=>⟨h.p,h.c,fun x q=>h.v x q.1⟩) l
theorem std_ok:∀ p:Fq,stdF p→p.Ok
 | .at_ _ _,h=>h.2.1
 | .fa,_=>trivial
 | .f1 a,h=>std_ok a h
 | .f2 _ a b,h=>⟨h.1,std_ok a h.2.1,std_ok b h.2.2⟩
 | .qn _ _ a,h=>⟨h.1,std_ok a h.2.2⟩
theorem name_sz {p q:UInt8→Bool} {s:ByteArray} (h:nameB p q s=true):s.size≤maxLen:=by
 unfold nameB at h
 rw [Bool.and_eq_true,decide_eq_true_eq] at h
 exact Nat.le_trans h.1.2 (by decide)
theorem good_t:∀ t:Tq,stdT t→t.tm.good
 | .vr s,h=>⟨name_sz h,Nat.zero_le _,trivial⟩
 | .cn s,h=>⟨name_sz h,Nat.zero_le _,trivial⟩
 | .ap s t,h=>⟨name_sz h.1,by show 1≤maxLen;decide,good_t t h.2,trivial⟩
theorem good_f:∀ p:Fq,stdF p→p.fo.good
 | .at_ s l,h=>⟨by decide,name_sz h.1,by rw [List.length_map];exact Nat.le_trans h.2.1 (by decide),Tm.goodL_of _ fun x hx=>by
   obtain ⟨t,ht,rfl⟩:=List.mem_map.1 hx
   exact good_t t (h.2.2 t ht).1,Nat.zero_le _,trivial⟩
 | .fa,_=>⟨by decide,by decide,Nat.zero_le _,trivial,Nat.zero_le _,trivial⟩
 | .f1 a,h=>⟨by decide,by decide,Nat.zero_le _,trivial,by show 1≤maxLen;decide,good_f a h,trivial⟩
 | .f2 k a b,h=>⟨by rcases h.1 with rfl|rfl|rfl|rfl <;> decide,by decide,Nat.zero_le _,trivial,by show 2≤maxLen;decide,good_f a h.2.1,good_f b h.2.2,trivial⟩
 | .qn k x a,h=>⟨by rcases h.1 with rfl|rfl <;> decide,name_sz h.2.1,Nat.zero_le _,trivial,by show 1≤maxLen;decide,good_f a h.2.2,trivial⟩
theorem tmR_ok:∀ t:Tq,tmR t.tm=true
 | .vr _=>rfl
 | .cn _=>rfl
 | .ap s t=>by
   show (decide (1≤1)&&(tmR t.tm&&true))=true
   rw [tmR_ok t]
   rfl
theorem foR_ok:∀ p:Fq,p.Ok→foR p.fo=true
 | .at_ s l,h=>by
   show (decide (1≤1∧1≤9∧(l.map Tq.tm).length≤2)&&(tmRs (l.map Tq.tm)&&true))=true
   rw [List.length_map,decide_eq_true ⟨by omega,by omega,h⟩,tmRs_all,List.all_eq_true.2 fun x hx=>by
    obtain ⟨t,-,rfl⟩:=List.mem_map.1 hx
    exact tmR_ok t]
   rfl
 | .fa,_=>rfl
 | .f1 a,h=>by
   show (decide (1≤3∧3≤9∧0≤2)&&(true&&(foR a.fo&&true)))=true
   rw [foR_ok a h]
   rfl
 | .f2 k a b,h=>by
   show (decide (1≤k∧k≤9∧0≤2)&&(true&&(foR a.fo&&(foR b.fo&&true))))=true
   have hk:=h.1
   rw [foR_ok a h.2.1,foR_ok b h.2.2,decide_eq_true (by omega)]
   rfl
 | .qn k x a,h=>by
   show (decide (1≤k∧k≤9∧0≤2)&&(true&&(foR a.fo&&true)))=true
   have hk:=h.1
   rw [foR_ok a h.2,decide_eq_true (by omega)]
   rfl
mutual
theorem frT_nd (c:ByteArray→Int):∀ (t:Tm) (ns:List ByteArray),ns.Nodup→(frT c ns t).Nodup
 | .mk v s l,ns,h=>by
   rw [frT_mk]
   refine frTs_nd c l _ ?_
   split
   ·exact nd_insG _ _ h
   ·exact h
theorem frTs_nd (c:ByteArray→Int):∀ (l:List Tm) (ns:List ByteArray),ns.Nodup→(frTs c ns l).Nodup
 | [],ns,h=>by rw [frTs_nil];exact h
 | x::l,ns,h=>by rw [frTs_cons];exact frTs_nd c l _ (frT_nd c x ns h)
end
mutual
theorem frF_nd:∀ (x:Fo) (c:ByteArray→Int) (ns:List ByteArray),ns.Nodup→(frF c ns x).Nodup
 | .mk op s l m,c,ns,h=>by
   rw [frF_mk]
   exact frFs_nd m _ _ (frTs_nd c l ns h)
theorem frFs_nd:∀ (l:List Fo) (c:ByteArray→Int) (ns:List ByteArray),ns.Nodup→(frFs c ns l).Nodup
 | [],c,ns,h=>by rw [frFs_nil];exact h
 | x::l,c,ns,h=>by rw [frFs_cons];exact frFs_nd l c _ (frF_nd x c ns h)
end
theorem freeF_nd (f:Fo):(freeF f).Nodup:=frF_nd f _ _ List.nodup_nil
structure Gd (p:Fq):Prop where
 std:stdF p
 dep:dF p≤30
 nod:msF 1 0 p≤55
 sym:symF p
theorem Gd.right {p:Fq} (h:Gd p):rightF p.fo=true:=by
 have h1:=wF_le p h.std
 have h2:=h.nod
 have h3:=h.dep
 unfold rightF
 rw [jF_ok p 1 400 h.std (by omega) (by omega),foR_ok p (std_ok p h.std)]
 rfl
theorem predY_len {p:Fq} (h:Gd p):(predY p.fo).length≤3:=by
 refine len_sub [(nP,1),(nQ,0),(nR,2)] _ (predY_nd _) fun x hx=>?_
 have h1:=(mem_predY (std_ok p h.std) x).1 hx
 obtain ⟨s,a⟩:=x
 rcases h.sym.p _ _ h1 with ⟨e1,e2⟩|⟨e1,e2⟩|⟨e1,e2⟩
 ·have e1:s=nP:=e1
  have e2:((a:Nat):Int)=1:=e2
  have e3:a=1:=by omega
  rw [e1,e3];simp
 ·have e1:s=nQ:=e1
  have e2:((a:Nat):Int)=0:=e2
  have e3:a=0:=by omega
  rw [e1,e3];simp
 ·have e1:s=nR:=e1
  have e2:((a:Nat):Int)=2:=e2
  have e3:a=2:=by omega
  rw [e1,e3];simp
theorem funY_len {p:Fq} (h:Gd p):(funY p.fo).length≤2:=by
 refine len_sub [(nA,0),(nF,1)] _ (funY_nd _) fun x hx=>?_
 have h1:=(mem_funY (std_ok p h.std) x).1 hx
 obtain ⟨s,a⟩:=x
 rcases h.sym.c _ _ h1 with ⟨e1,e2⟩|⟨e1,e2⟩
 ·have e1:s=nA:=e1
  have e2:((a:Nat):Int)=0:=e2
  have e3:a=0:=by omega
  rw [e1,e3];simp
 ·have e1:s=nF:=e1
  have e2:((a:Nat):Int)=1:=e2
  have e3:a=1:=by omega
  rw [e1,e3];simp
theorem freeF_len {p:Fq} (h:Gd p):(freeF p.fo).length≤3:=by
 refine len_sub [nX,nY,nZ] _ (freeF_nd _) fun x hx=>?_
 rcases h.sym.v _ ((mem_freeF (std_ok p h.std) x).1 hx) with e|e|e <;> rw [e] <;> simp
theorem Gd.sm {p:Fq} (h:Gd p):FqSm p :=
 ⟨good_f p h.std,std_ok p h.std,Nat.le_trans (predY_len h) (by omega),Nat.le_trans (funY_len h) (by omega),Nat.le_trans (freeF_len h) (by omega)⟩
structure HasAll (m:Mdl):Prop where
 p:∀ s a,inP s a→hasFct m s a
 c:∀ s a,inC s a→hasFnc m s a
 v:∀ x,inV x→hasBnd m x
theorem madW_all (n:Nat) (w:Nat→Nat):HasAll (madW n w):=by
 refine ⟨fun s a h=>?_,fun s a h=>?_,fun x h=>?_⟩
 ·refine List.find?_isSome.2 ?_
  rcases h with ⟨rfl,rfl⟩|⟨rfl,rfl⟩|⟨rfl,rfl⟩
  ·exact ⟨⟨nP,1,(w 0 % 2 ^ n:Nat)⟩,List.mem_cons_self,by simp [factP]⟩
  ·exact ⟨⟨nQ,0,(w 1 % 2:Nat)⟩,List.mem_cons_of_mem _ List.mem_cons_self,by simp [factP]⟩
  ·exact ⟨⟨nR,2,(w 2 % 2 ^ (n * n):Nat)⟩,List.mem_cons_of_mem _ (List.mem_cons_of_mem _ List.mem_cons_self),by simp [factP]⟩
 ·refine List.find?_isSome.2 ?_
  rcases h with ⟨rfl,rfl⟩|⟨rfl,rfl⟩
  ·exact ⟨⟨nA,0,[(w 3 % n:Nat)]⟩,List.mem_cons_self,by simp [funcP]⟩
  ·exact ⟨⟨nF,1,(List.range n).map fun i=>((w 4 / 2 ^ (4 * i) % 16 % n:Nat):Int)⟩,List.mem_cons_of_mem _ List.mem_cons_self,by simp [funcP]⟩
 ·refine List.find?_isSome.2 ?_
  rcases h with rfl|rfl|rfl
  ·exact ⟨⟨nX,(w 5 % n:Nat)⟩,List.mem_cons_self,by simp [bindP]⟩
  ·exact ⟨⟨nY,(w 6 % n:Nat)⟩,List.mem_cons_of_mem _ List.mem_cons_self,by simp [bindP]⟩
  ·exact ⟨⟨nZ,(w 7 % n:Nat)⟩,List.mem_cons_of_mem _ (List.mem_cons_of_mem _ List.mem_cons_self),by simp [bindP]⟩
theorem Gd.has {p:Fq} (h:Gd p) {m:Mdl} (ha:HasAll m):hasB m (sigF p.fo)=true:=by
 have hok:=std_ok p h.std
 unfold hasB
 rw [Bool.and_eq_true,Bool.and_eq_true,List.all_eq_true,List.all_eq_true,List.all_eq_true]
 refine ⟨fun x hx=>?_,fun x hx=>?_,fun x hx=>?_⟩
 ·obtain ⟨y,hy,rfl⟩:=List.mem_map.1 hx
  exact ha.p _ _ (h.sym.p _ _ ((mem_predY hok y).1 ((sortY_perm _).mem_iff.1 hy)))
 ·obtain ⟨y,hy,rfl⟩:=List.mem_map.1 hx
  exact ha.c _ _ (h.sym.c _ _ ((mem_funY hok y).1 ((sortY_perm _).mem_iff.1 hy)))
 ·exact ha.v _ (h.sym.v _ ((mem_freeF hok x).1 ((sortB_perm _).mem_iff.1 hx)))
theorem blt_gd (l:List Nat):Gd (bltF l):=⟨blt_std l,Nat.le_trans (blt_dep l) (by omega),Nat.le_trans (blt_nodes l) (by omega),blt_sym l⟩
end Go.Proofs.YtgdmldelijeaoaaGreatDoor
/-! text PK41 -/
namespace Go.Proofs.YtgdmldelijeaoaaGreatDoor
open Go.Vsi
set_option maxHeartbeats 4000000
end Go.Proofs.YtgdmldelijeaoaaGreatDoor
/-! text PL41 -/
namespace Go.Proofs.YtgdmldelijeaoaaGreatDoor
open Go.Vsi
set_option maxHeartbeats 4000000
end Go.Proofs.YtgdmldelijeaoaaGreatDoor
/-! text PN41 -/
namespace Go.Proofs.YtgdmldelijeaoaaGreatDoor
open Go.Vsi
set_option maxHeartbeats 4000000
theorem valid_of {m:Mdl} {n:Nat} (vm:VM m n) (h1:m.kind=2) (h2:m.rel.length=0) (h3:m.loop=0) (hs:sigR (sigM m)=true):validM m=true:=by
 have hz:=vm.size
 have hp:=vm.pos
 have hl:=vm.le
 unfold validM
 rw [Bool.and_eq_true,Bool.and_eq_true,Bool.and_eq_true,Bool.and_eq_true,decide_eq_true_eq,List.all_eq_true,List.all_eq_true,List.all_eq_true]
 have hnt:m.size.toNat=n:=by omega
 refine ⟨⟨h1,by omega,by omega,h2,h3⟩,hs,fun f hf=>?_,fun f hf=>?_,fun b hb=>?_⟩
 ·have:=vm.facts f hf
  unfold okFct
  rw [Bool.and_eq_true,decide_eq_true_eq,decide_eq_true_eq,hnt]
  exact ⟨this.tr.1,by have:=this.tr;omega⟩
 ·have:=vm.funcs f hf
  unfold okFnc
  rw [Bool.and_eq_true,decide_eq_true_eq,List.all_eq_true,hnt]
  refine ⟨this.len,fun v hv=>?_⟩
  have:=this.lt v hv
  unfold elB
  rw [Bool.and_eq_true,decide_eq_true_eq,decide_eq_true_eq]
  omega
 ·have:=vm.binds b hb
  unfold okBnd elB
  rw [Bool.and_eq_true,decide_eq_true_eq,decide_eq_true_eq]
  omega
end Go.Proofs.YtgdmldelijeaoaaGreatDoor
/-! text BG41 -/
namespace Go.Proofs.YtgdmldelijeaoaaGreatDoor
open Go.Vsi
set_option maxHeartbeats 4000000
set_option linter.unusedSimpArgs false
attribute [local irreducible] VW VCall VO bits
theorem has_mk {m:Mdl} {p:Fq} (hok:p.Ok) (h1:∀ s a,p.hasP s a→hasFct m s a) (h2:∀ s a,p.hasC s a→hasFnc m s a) (h3:∀ x,p.free x→hasBnd m x):hasB m (sigF p.fo)=true:=by
 unfold hasB
 rw [Bool.and_eq_true,Bool.and_eq_true,List.all_eq_true,List.all_eq_true,List.all_eq_true]
 refine ⟨fun x hx=>?_,fun x hx=>?_,fun x hx=>?_⟩
 ·obtain ⟨y,hy,rfl⟩:=List.mem_map.1 hx
  exact h1 _ _ ((mem_predY hok y).1 ((sortY_perm _).mem_iff.1 hy))
 ·obtain ⟨y,hy,rfl⟩:=List.mem_map.1 hx
  exact h2 _ _ ((mem_funY hok y).1 ((sortY_perm _).mem_iff.1 hy))
 ·exact h3 _ ((mem_freeF hok x).1 ((sortB_perm _).mem_iff.1 hx))
theorem evalG_c (m:Mdl) (hm:m.Sm) (hn:m.Nm) (hva:validM m=true) (p:Fq) (hp:Gd p) (hr:rankF p≤6) (hh:hasB m (sigF p.fo)=true) (H:Heap):VDet Tryz.prog 18 [.agg m.cells,.agg p.fo.cells] H (.tup [.bool (hv m p (bindF m)),.int .i64 0]):=by
 have:=eval_c m hm hn p hp.sm hva hp.right H
 rwa [if_neg (by omega),if_pos hh] at this
def mAw:Mdl:=⟨2,2,[],0,[⟨nR,2,6⟩],[⟨nF,1,[1,0]⟩],[⟨nX,1⟩]⟩
theorem mAw_sm:mAw.Sm:=⟨by decide,by decide,by decide,by decide,fun f hf=>by rw [List.mem_singleton.1 hf];decide⟩
theorem mAw_nm:mAw.Nm:=⟨fun f hf=>by rw [List.mem_singleton.1 hf];decide,fun f hf=>by rw [List.mem_singleton.1 hf];decide,fun f hf=>by rw [List.mem_singleton.1 hf];decide⟩
theorem mAw_v:validM mAw=true:=by kernel_rfl
def aw1:Fq:=.qn 8 nX (.qn 9 nY (.at_ nR [.vr nX,.vr nY]))
def aw2:Fq:=.qn 9 nY (.qn 8 nX (.at_ nR [.vr nX,.vr nY]))
def aw3:Fq:=.qn 8 nX (.at_ nR [.vr nX,.ap nF (.vr nX)])
def aw4:Fq:=.at_ nR [.vr nX,.ap nF (.ap nF (.vr nX))]
theorem awR {s:ByteArray} {a:Int} (h:nR=s∧a=2):inP s a∧hasFct mAw s a:=by
 obtain ⟨rfl,rfl⟩:=h
 exact ⟨.inr (.inr ⟨rfl,rfl⟩),by show (mAw.facts.find? (factP nR 2)).isSome=true;kernel_rfl⟩
theorem awF {s:ByteArray} {a:Int} (h:nF=s∧a=1):inC s a∧hasFnc mAw s a:=by
 obtain ⟨rfl,rfl⟩:=h
 exact ⟨.inr ⟨rfl,rfl⟩,by show (mAw.funcs.find? (funcP nF 1)).isSome=true;kernel_rfl⟩
theorem awX {x:ByteArray} (h:nX=x):inV x∧hasBnd mAw x:=by
 subst h
 exact ⟨.inl rfl,by show (mAw.binds.find? (bindP nX)).isSome=true;kernel_rfl⟩
theorem aw1_std:stdF aw1:=⟨.inl rfl,by kernel_rfl,.inr rfl,by kernel_rfl,by kernel_rfl,by decide,fun t ht=>by
  rcases List.mem_cons.1 ht with h|h
  ·rw [h];exact ⟨by show isVar nX=true;kernel_rfl,by decide⟩
  ·rw [List.mem_singleton.1 h];exact ⟨by show isVar nY=true;kernel_rfl,by decide⟩⟩
theorem aw1_p (s:ByteArray) (a:Int) (h:aw1.hasP s a):nR=s∧a=2:=h
theorem aw1_c (s:ByteArray) (a:Int) (h:aw1.hasC s a):nF=s∧a=1:=by
 obtain ⟨t,ht,h⟩:=h
 rcases List.mem_cons.1 ht with e|e
 ·rw [e] at h;exact h.elim
 ·rw [List.mem_singleton.1 e] at h
  exact h.elim
theorem aw1_v (x:ByteArray) (h:aw1.free x):nX=x:=by
 obtain ⟨⟨⟨t,ht,h⟩,h1⟩,h2⟩:=h
 rcases List.mem_cons.1 ht with e|e
 ·rw [e] at h;exact h
 ·rw [List.mem_singleton.1 e] at h;exact absurd (Eq.symm h) h1
theorem aw1_gd:Gd aw1:=⟨aw1_std,by decide,by decide,fun s a h=>(awR (aw1_p s a h)).1,fun s a h=>(awF (aw1_c s a h)).1,fun x h=>(awX (aw1_v x h)).1⟩
theorem aw1_e (H:Heap):VDet Tryz.prog 18 [.agg [.int .u8 2,.int .i64 2,.nils,.int .i64 0,.sx 1 [.str nR,.int .i64 2,.int .i64 6],.sx 1 [.str nF,.int .i64 1,.sx 2 [.int .i64 1,.int .i64 0]],.sx 1 [.str nX,.int .i64 1]],.agg [.int .u8 8,.str nX,.sl none 0 [],.sl none 1 [.int .u8 9,.str nY,.sl none 0 [],.sl none 1 [.int .u8 1,.str nR,.sl none 2 [.bool true,.str nX,.sl none 0 [],.bool true,.str nY,.sl none 0 []],.sl none 0 []]]]] H (.tup [.bool true,.int .i64 0]):=by
 have h:=evalG_c mAw mAw_sm mAw_nm mAw_v aw1 aw1_gd (by decide) (has_mk (std_ok _ aw1_std) (fun s a h=>(awR (aw1_p s a h)).2) (fun s a h=>(awF (aw1_c s a h)).2) fun x h=>(awX (aw1_v x h)).2) H
 have hb:hv mAw aw1 (bindF mAw)=true:=by kernel_rfl
 rw [hb] at h
 exact VDet.wk h ⟨wk_agg ⟨Wk.refl _,Wk.refl _,wk_nils,Wk.refl _,wk_sx _ _,wk_sxL ⟨Wk.refl _,Wk.refl _,wk_sx _ _,trivial⟩,wk_sx _ _,trivial⟩,Wk.refl _,trivial⟩
theorem aw2_std:stdF aw2:=⟨.inr rfl,by kernel_rfl,.inl rfl,by kernel_rfl,by kernel_rfl,by decide,fun t ht=>by
  rcases List.mem_cons.1 ht with h|h
  ·rw [h];exact ⟨by show isVar nX=true;kernel_rfl,by decide⟩
  ·rw [List.mem_singleton.1 h];exact ⟨by show isVar nY=true;kernel_rfl,by decide⟩⟩
theorem aw2_p (s:ByteArray) (a:Int) (h:aw2.hasP s a):nR=s∧a=2:=h
theorem aw2_c (s:ByteArray) (a:Int) (h:aw2.hasC s a):nF=s∧a=1:=by
 obtain ⟨t,ht,h⟩:=h
 rcases List.mem_cons.1 ht with e|e
 ·rw [e] at h;exact h.elim
 ·rw [List.mem_singleton.1 e] at h
  exact h.elim
theorem aw2_v (x:ByteArray) (h:aw2.free x):nX=x:=by
 obtain ⟨⟨⟨t,ht,h⟩,h2⟩,h1⟩:=h
 rcases List.mem_cons.1 ht with e|e
 ·rw [e] at h;exact h
 ·rw [List.mem_singleton.1 e] at h;exact absurd (Eq.symm h) h1
theorem aw2_gd:Gd aw2:=⟨aw2_std,by decide,by decide,fun s a h=>(awR (aw2_p s a h)).1,fun s a h=>(awF (aw2_c s a h)).1,fun x h=>(awX (aw2_v x h)).1⟩
theorem aw2_e (H:Heap):VDet Tryz.prog 18 [.agg [.int .u8 2,.int .i64 2,.nils,.int .i64 0,.sx 1 [.str nR,.int .i64 2,.int .i64 6],.sx 1 [.str nF,.int .i64 1,.sx 2 [.int .i64 1,.int .i64 0]],.sx 1 [.str nX,.int .i64 1]],.agg [.int .u8 9,.str nY,.sl none 0 [],.sl none 1 [.int .u8 8,.str nX,.sl none 0 [],.sl none 1 [.int .u8 1,.str nR,.sl none 2 [.bool true,.str nX,.sl none 0 [],.bool true,.str nY,.sl none 0 []],.sl none 0 []]]]] H (.tup [.bool false,.int .i64 0]):=by
 have h:=evalG_c mAw mAw_sm mAw_nm mAw_v aw2 aw2_gd (by decide) (has_mk (std_ok _ aw2_std) (fun s a h=>(awR (aw2_p s a h)).2) (fun s a h=>(awF (aw2_c s a h)).2) fun x h=>(awX (aw2_v x h)).2) H
 have hb:hv mAw aw2 (bindF mAw)=false:=by kernel_rfl
 rw [hb] at h
 exact VDet.wk h ⟨wk_agg ⟨Wk.refl _,Wk.refl _,wk_nils,Wk.refl _,wk_sx _ _,wk_sxL ⟨Wk.refl _,Wk.refl _,wk_sx _ _,trivial⟩,wk_sx _ _,trivial⟩,Wk.refl _,trivial⟩
theorem aw3_std:stdF aw3:=⟨.inl rfl,by kernel_rfl,by kernel_rfl,by decide,fun t ht=>by
  rcases List.mem_cons.1 ht with h|h
  ·rw [h];exact ⟨by show isVar nX=true;kernel_rfl,by decide⟩
  ·rw [List.mem_singleton.1 h];exact ⟨⟨by kernel_rfl,by show isVar nX=true;kernel_rfl⟩,by decide⟩⟩
theorem aw3_p (s:ByteArray) (a:Int) (h:aw3.hasP s a):nR=s∧a=2:=h
theorem aw3_c (s:ByteArray) (a:Int) (h:aw3.hasC s a):nF=s∧a=1:=by
 obtain ⟨t,ht,h⟩:=h
 rcases List.mem_cons.1 ht with e|e
 ·rw [e] at h;exact h.elim
 ·rw [List.mem_singleton.1 e] at h
  exact h.elim id fun h=>h.elim
theorem aw3_v (x:ByteArray) (h:aw3.free x):nX=x:=by
 obtain ⟨⟨t,ht,h⟩,h2⟩:=h
 rcases List.mem_cons.1 ht with e|e
 ·rw [e] at h;exact h
 ·rw [List.mem_singleton.1 e] at h;exact h
theorem aw3_gd:Gd aw3:=⟨aw3_std,by decide,by decide,fun s a h=>(awR (aw3_p s a h)).1,fun s a h=>(awF (aw3_c s a h)).1,fun x h=>(awX (aw3_v x h)).1⟩
theorem aw3_e (H:Heap):VDet Tryz.prog 18 [.agg [.int .u8 2,.int .i64 2,.nils,.int .i64 0,.sx 1 [.str nR,.int .i64 2,.int .i64 6],.sx 1 [.str nF,.int .i64 1,.sx 2 [.int .i64 1,.int .i64 0]],.sx 1 [.str nX,.int .i64 1]],.agg [.int .u8 8,.str nX,.sl none 0 [],.sl none 1 [.int .u8 1,.str nR,.sl none 2 [.bool true,.str nX,.sl none 0 [],.bool false,.str nF,.sl none 1 [.bool true,.str nX,.sl none 0 []]],.sl none 0 []]]] H (.tup [.bool true,.int .i64 0]):=by
 have h:=evalG_c mAw mAw_sm mAw_nm mAw_v aw3 aw3_gd (by decide) (has_mk (std_ok _ aw3_std) (fun s a h=>(awR (aw3_p s a h)).2) (fun s a h=>(awF (aw3_c s a h)).2) fun x h=>(awX (aw3_v x h)).2) H
 have hb:hv mAw aw3 (bindF mAw)=true:=by kernel_rfl
 rw [hb] at h
 exact VDet.wk h ⟨wk_agg ⟨Wk.refl _,Wk.refl _,wk_nils,Wk.refl _,wk_sx _ _,wk_sxL ⟨Wk.refl _,Wk.refl _,wk_sx _ _,trivial⟩,wk_sx _ _,trivial⟩,Wk.refl _,trivial⟩
theorem aw4_std:stdF aw4:=⟨by kernel_rfl,by decide,fun t ht=>by
  rcases List.mem_cons.1 ht with h|h
  ·rw [h];exact ⟨by show isVar nX=true;kernel_rfl,by decide⟩
  ·rw [List.mem_singleton.1 h];exact ⟨⟨by kernel_rfl,by kernel_rfl,by show isVar nX=true;kernel_rfl⟩,by decide⟩⟩
theorem aw4_p (s:ByteArray) (a:Int) (h:aw4.hasP s a):nR=s∧a=2:=h
theorem aw4_c (s:ByteArray) (a:Int) (h:aw4.hasC s a):nF=s∧a=1:=by
 obtain ⟨t,ht,h⟩:=h
 rcases List.mem_cons.1 ht with e|e
 ·rw [e] at h;exact h.elim
 ·rw [List.mem_singleton.1 e] at h
  exact h.elim id fun h=>h.elim id fun h=>h.elim
theorem aw4_v (x:ByteArray) (h:aw4.free x):nX=x:=by
 obtain ⟨t,ht,h⟩:=h
 rcases List.mem_cons.1 ht with e|e
 ·rw [e] at h;exact h
 ·rw [List.mem_singleton.1 e] at h;exact h
theorem aw4_gd:Gd aw4:=⟨aw4_std,by decide,by decide,fun s a h=>(awR (aw4_p s a h)).1,fun s a h=>(awF (aw4_c s a h)).1,fun x h=>(awX (aw4_v x h)).1⟩
theorem aw4_e (H:Heap):VDet Tryz.prog 18 [.agg [.int .u8 2,.int .i64 2,.nils,.int .i64 0,.sx 1 [.str nR,.int .i64 2,.int .i64 6],.sx 1 [.str nF,.int .i64 1,.sx 2 [.int .i64 1,.int .i64 0]],.sx 1 [.str nX,.int .i64 1]],.agg [.int .u8 1,.str nR,.sl none 2 [.bool true,.str nX,.sl none 0 [],.bool false,.str nF,.sl none 1 [.bool false,.str nF,.sl none 1 [.bool true,.str nX,.sl none 0 []]]],.sl none 0 []]] H (.tup [.bool false,.int .i64 0]):=by
 have h:=evalG_c mAw mAw_sm mAw_nm mAw_v aw4 aw4_gd (by decide) (has_mk (std_ok _ aw4_std) (fun s a h=>(awR (aw4_p s a h)).2) (fun s a h=>(awF (aw4_c s a h)).2) fun x h=>(awX (aw4_v x h)).2) H
 have hb:hv mAw aw4 (bindF mAw)=false:=by kernel_rfl
 rw [hb] at h
 exact VDet.wk h ⟨wk_agg ⟨Wk.refl _,Wk.refl _,wk_nils,Wk.refl _,wk_sx _ _,wk_sxL ⟨Wk.refl _,Wk.refl _,wk_sx _ _,trivial⟩,wk_sx _ _,trivial⟩,Wk.refl _,trivial⟩
def sAw:Sig:=⟨[(nP,1)],[(nA,0)],[]⟩
theorem sAw_sm:sAw.Sm:=⟨by decide,by decide,by decide,fun f hf=>by rw [List.mem_singleton.1 hf];decide,fun f hf=>by rw [List.mem_singleton.1 hf];decide,fun f hf=>by cases hf⟩
theorem sAw_r:sigR sAw=true:=by kernel_rfl
def fiveM:Mdl:=⟨2,2,[],0,[⟨nP,1,2⟩],[⟨nA,0,[1]⟩],[]⟩
theorem five_sm:fiveM.Sm:=⟨by decide,by decide,by decide,by decide,fun f hf=>by rw [List.mem_singleton.1 hf];decide⟩
theorem five_nm:fiveM.Nm:=⟨fun f hf=>by rw [List.mem_singleton.1 hf];decide,fun f hf=>by rw [List.mem_singleton.1 hf];decide,fun f hf=>by cases hf⟩
theorem five_v:validM fiveM=true:=by kernel_rfl
def twoM:Mdl:=⟨2,2,[],0,[⟨nP,1,1⟩],[⟨nA,0,[0]⟩],[]⟩
theorem two_sm:twoM.Sm:=⟨by decide,by decide,by decide,by decide,fun f hf=>by rw [List.mem_singleton.1 hf];decide⟩
theorem two_nm:twoM.Nm:=⟨fun f hf=>by rw [List.mem_singleton.1 hf];decide,fun f hf=>by rw [List.mem_singleton.1 hf];decide,fun f hf=>by cases hf⟩
theorem two_v:validM twoM=true:=by kernel_rfl
theorem p10_ok:PermOk 2 [1,0]:=by
 refine ⟨rfl,fun a ha=>?_,fun a b ha hb h=>?_,fun b hb=>?_⟩
 ·have:a=0∨a=1:=by omega
  rcases this with rfl|rfl <;> decide
 ·have h1:a=0∨a=1:=by omega
  have h2:b=0∨b=1:=by omega
  rcases h1 with rfl|rfl <;> rcases h2 with rfl|rfl <;> first|rfl|exact absurd h (by decide)
 ·have:b=0∨b=1:=by omega
  rcases this with rfl|rfl
  ·exact ⟨1,by omega,rfl⟩
  ·exact ⟨0,by omega,rfl⟩
theorem wkSAW:Wk (.agg [.sx 1 [.str nP,.int .i64 1],.sx 1 [.str nA,.int .i64 0],.nils]) (.agg sAw.cells):=wk_agg ⟨wk_sx _ _,wk_sx _ _,wk_nils,trivial⟩
theorem awake_c (H:Heap):VDet Tryz.prog 12 [] H (.bool true):=by
 have c1:∀ H,VDet Tryz.prog 35 [.agg [.sx 1 [.str nP,.int .i64 1],.sx 1 [.str nA,.int .i64 0],.nils],.int .i64 2] H (.tup [.int .i64 8,.int .i64 0]):=fun H=>VDet.wk (count_c sAw sAw_sm sAw_r 2 (by omega) (by decide) (by decide) (by decide) H) ⟨wkSAW,Wk.refl _,trivial⟩
 have c2:∀ H,VDet Tryz.prog 38 [.agg [.sx 1 [.str nP,.int .i64 1],.sx 1 [.str nA,.int .i64 0],.nils],.int .i64 2,.int .i64 5] H (.tup [.agg [.int .u8 2,.int .i64 2,.sl none 0 [],.int .i64 0,.sl none 1 [.str nP,.int .i64 1,.int .i64 2],.sl none 1 [.str nA,.int .i64 0,.sl none 1 [.int .i64 1]],.sl none 0 []],.int .i64 0]):=fun H=>VDet.wk (nth_c sAw sAw_sm sAw_r 2 (by omega) (by decide) (by decide) (by decide) 5 (by decide) (by decide) H) ⟨wkSAW,Wk.refl _,Wk.refl _,trivial⟩
 have c3:∀ H,VDet Tryz.prog 46 [.agg [.int .u8 2,.int .i64 2,.sl none 0 [],.int .i64 0,.sl none 1 [.str nP,.int .i64 1,.int .i64 2],.sl none 1 [.str nA,.int .i64 0,.sl none 1 [.int .i64 1]],.sl none 0 []],.sx 2 [.int .i64 1,.int .i64 0]] H (.tup [.agg [.int .u8 2,.int .i64 2,.sl none 0 [],.int .i64 0,.sl none 1 [.str nP,.int .i64 1,.int .i64 1],.sl none 1 [.str nA,.int .i64 0,.sl none 1 [.int .i64 0]],.sl none 0 []],.int .i64 0]):=fun H=>VDet.wk (moved1 [⟨nP,1,2⟩] [] 2 [1,0] nA 1 (by omega) (by omega) p10_ok fiveM rfl five_sm five_nm five_v H) ⟨Wk.refl _,wk_sx _ _,trivial⟩
 have c4:∀ H,VDet Tryz.prog 45 [.agg [.int .u8 2,.int .i64 2,.sl none 0 [],.int .i64 0,.sl none 1 [.str nP,.int .i64 1,.int .i64 1],.sl none 1 [.str nA,.int .i64 0,.sl none 1 [.int .i64 0]],.sl none 0 []]] H (.tup [.int .i64 2,.int .i64 0]):=fun H=>number_m twoM two_sm two_nm two_v 2 rfl (by decide) (by decide) (by decide) (by decide) (by decide) H
 have v1:=fun H=>v22_c nX H
 have v2:=fun H=>v22_c nY H
 have a1:∀ H,VDet Tryz.prog 14 [.str nR,.sx 2 [.bool true,.str nX,.sl none 0 [],.bool true,.str nY,.sl none 0 []]] H (.agg [.int .u8 1,.str nR,.sl none 2 [.bool true,.str nX,.sl none 0 [],.bool true,.str nY,.sl none 0 []],.sl none 0 []]):=fun H=>VDet.wk (atom14_c nR 2 [.bool true,.str nX,.sl none 0 [],.bool true,.str nY,.sl none 0 []] (fun m=>by simp [below,belowL]) H) ⟨Wk.refl _,wk_sx _ _,trivial⟩
 have a3:∀ H,VDet Tryz.prog 14 [.str nR,.sx 2 [.bool true,.str nX,.sl none 0 [],.bool false,.str nF,.sl none 1 [.bool true,.str nX,.sl none 0 []]]] H (.agg [.int .u8 1,.str nR,.sl none 2 [.bool true,.str nX,.sl none 0 [],.bool false,.str nF,.sl none 1 [.bool true,.str nX,.sl none 0 []]],.sl none 0 []]):=fun H=>VDet.wk (atom14_c nR 2 [.bool true,.str nX,.sl none 0 [],.bool false,.str nF,.sl none 1 [.bool true,.str nX,.sl none 0 []]] (fun m=>by simp [below,belowL]) H) ⟨Wk.refl _,wk_sx _ _,trivial⟩
 have a4:∀ H,VDet Tryz.prog 14 [.str nR,.sx 2 [.bool true,.str nX,.sl none 0 [],.bool false,.str nF,.sl none 1 [.bool false,.str nF,.sl none 1 [.bool true,.str nX,.sl none 0 []]]]] H (.agg [.int .u8 1,.str nR,.sl none 2 [.bool true,.str nX,.sl none 0 [],.bool false,.str nF,.sl none 1 [.bool false,.str nF,.sl none 1 [.bool true,.str nX,.sl none 0 []]]],.sl none 0 []]):=fun H=>VDet.wk (atom14_c nR 2 [.bool true,.str nX,.sl none 0 [],.bool false,.str nF,.sl none 1 [.bool false,.str nF,.sl none 1 [.bool true,.str nX,.sl none 0 []]]] (fun m=>by simp [below,belowL]) H) ⟨Wk.refl _,wk_sx _ _,trivial⟩
 have f1:∀ H,VDet Tryz.prog 68 [.str nF,.sx 1 [.bool true,.str nX,.sl none 0 []]] H (.agg [.bool false,.str nF,.sl none 1 [.bool true,.str nX,.sl none 0 []]]):=fun H=>VDet.wk (fn68_c nF 1 [.bool true,.str nX,.sl none 0 []] (fun m=>by simp [below,belowL]) H) ⟨Wk.refl _,wk_sx _ _,trivial⟩
 have f2:∀ H,VDet Tryz.prog 68 [.str nF,.sx 1 [.bool false,.str nF,.sl none 1 [.bool true,.str nX,.sl none 0 []]]] H (.agg [.bool false,.str nF,.sl none 1 [.bool false,.str nF,.sl none 1 [.bool true,.str nX,.sl none 0 []]]]):=fun H=>VDet.wk (fn68_c nF 1 [.bool false,.str nF,.sl none 1 [.bool true,.str nX,.sl none 0 []]] (fun m=>by simp [below,belowL]) H) ⟨Wk.refl _,wk_sx _ _,trivial⟩
 have b1:∀ H,VDet Tryz.prog 24 [.int .u8 9,.str nY,.agg [.int .u8 1,.str nR,.sl none 2 [.bool true,.str nX,.sl none 0 [],.bool true,.str nY,.sl none 0 []],.sl none 0 []]] H (.agg [.int .u8 9,.str nY,.sl none 0 [],.sl none 1 [.int .u8 1,.str nR,.sl none 2 [.bool true,.str nX,.sl none 0 [],.bool true,.str nY,.sl none 0 []],.sl none 0 []]]):=fun H=>bound_c 9 nY (Fq.fo (.at_ nR [.vr nX,.vr nY])) H
 have b2:∀ H,VDet Tryz.prog 24 [.int .u8 8,.str nX,.agg [.int .u8 9,.str nY,.sl none 0 [],.sl none 1 [.int .u8 1,.str nR,.sl none 2 [.bool true,.str nX,.sl none 0 [],.bool true,.str nY,.sl none 0 []],.sl none 0 []]]] H (.agg [.int .u8 8,.str nX,.sl none 0 [],.sl none 1 [.int .u8 9,.str nY,.sl none 0 [],.sl none 1 [.int .u8 1,.str nR,.sl none 2 [.bool true,.str nX,.sl none 0 [],.bool true,.str nY,.sl none 0 []],.sl none 0 []]]]):=fun H=>bound_c 8 nX (Fq.fo (.qn 9 nY (.at_ nR [.vr nX,.vr nY]))) H
 have b3:∀ H,VDet Tryz.prog 24 [.int .u8 8,.str nX,.agg [.int .u8 1,.str nR,.sl none 2 [.bool true,.str nX,.sl none 0 [],.bool true,.str nY,.sl none 0 []],.sl none 0 []]] H (.agg [.int .u8 8,.str nX,.sl none 0 [],.sl none 1 [.int .u8 1,.str nR,.sl none 2 [.bool true,.str nX,.sl none 0 [],.bool true,.str nY,.sl none 0 []],.sl none 0 []]]):=fun H=>bound_c 8 nX (Fq.fo (.at_ nR [.vr nX,.vr nY])) H
 have b4:∀ H,VDet Tryz.prog 24 [.int .u8 9,.str nY,.agg [.int .u8 8,.str nX,.sl none 0 [],.sl none 1 [.int .u8 1,.str nR,.sl none 2 [.bool true,.str nX,.sl none 0 [],.bool true,.str nY,.sl none 0 []],.sl none 0 []]]] H (.agg [.int .u8 9,.str nY,.sl none 0 [],.sl none 1 [.int .u8 8,.str nX,.sl none 0 [],.sl none 1 [.int .u8 1,.str nR,.sl none 2 [.bool true,.str nX,.sl none 0 [],.bool true,.str nY,.sl none 0 []],.sl none 0 []]]]):=fun H=>bound_c 9 nY (Fq.fo (.qn 8 nX (.at_ nR [.vr nX,.vr nY]))) H
 have b5:∀ H,VDet Tryz.prog 24 [.int .u8 8,.str nX,.agg [.int .u8 1,.str nR,.sl none 2 [.bool true,.str nX,.sl none 0 [],.bool false,.str nF,.sl none 1 [.bool true,.str nX,.sl none 0 []]],.sl none 0 []]] H (.agg [.int .u8 8,.str nX,.sl none 0 [],.sl none 1 [.int .u8 1,.str nR,.sl none 2 [.bool true,.str nX,.sl none 0 [],.bool false,.str nF,.sl none 1 [.bool true,.str nX,.sl none 0 []]],.sl none 0 []]]):=fun H=>bound_c 8 nX (Fq.fo (.at_ nR [.vr nX,.ap nF (.vr nX)])) H
 refine fn_det Tryz.E0 Tryz.mx Tryz.func12 (by kernel_rfl) rfl (Nat.le_of_ble_eq_true rfl) rfl fun hcl hbl=>?_
 (repeat' ((conv=>whnf);(first|(refine IfN.id ?_;first|refine IfN.not ?_|refine IfN.tt rfl ?_|refine IfN.ff rfl ?_|fail)|(refine EqN.addN _ _ Cst.h Cst.h ?_ ?_;· omega)|(refine SideN.mk ?_ ?_;· first|kernel_rfl|omega|exact List.cons_ne_nil _ _|(simp;done)|(simp;omega)|exact trivial|assumption|fail)|(refine CallN.id ?_;first|refine CallN.det _ (c1 _) ?_|refine CallN.det _ (c2 _) ?_|refine CallN.det _ (c3 _) ?_|refine CallN.det _ (c4 _) ?_|refine CallN.det _ (v1 _) ?_|refine CallN.det _ (v2 _) ?_|fail)|(refine CallD.id ?_;first|refine CallD.det _ (fun _ hq X=>a1 _) ?_|refine CallD.det _ (fun _ hq X=>a3 _) ?_|refine CallD.det _ (fun _ hq X=>a4 _) ?_|refine CallD.det _ (fun _ hq X=>f1 _) ?_|refine CallD.det _ (fun _ hq X=>f2 _) ?_|refine CallD.det _ (fun _ hq X=>b1 _) ?_|refine CallD.det _ (fun _ hq X=>b2 _) ?_|refine CallD.det _ (fun _ hq X=>b3 _) ?_|refine CallD.det _ (fun _ hq X=>b4 _) ?_|refine CallD.det _ (fun _ hq X=>b5 _) ?_|refine CallD.det _ (fun _ hq X=>aw1_e _) ?_|refine CallD.det _ (fun _ hq X=>aw2_e _) ?_|refine CallD.det _ (fun _ hq X=>aw3_e _) ?_|refine CallD.det _ (fun _ hq X=>aw4_e _) ?_|fail)|refine SegN.mk _ (seg_rfl rfl) ?_|refine DrawN.mk' [] ?_|fail)));all_goals (conv=>whnf)
 exact EndN.det trivial (Wk.refl _)
end Go.Proofs.YtgdmldelijeaoaaGreatDoor
/-! text BH41 -/
namespace Go.Proofs.YtgdmldelijeaoaaGreatDoor
open Go.Vsi
set_option maxHeartbeats 4000000
set_option linter.unusedSimpArgs false
attribute [local irreducible] VW VCall VO bits
theorem madN_le (k:Nat):1≤madN k∧madN k≤3:=by
 unfold madN
 have:=Nat.mod_lt k (show 0<3 by omega)
 omega
theorem fqx_ex (p:Fq):∃ o s n1 c1 n2 c2,fqx p=[.int .u8 ((o:Nat):Int),.str s,.sl none n1 c1,.sl none n2 c2]∧∀ n,belowL n c1∧belowL n c2 :=
 ⟨_,_,_,_,_,_,rfl,fun n=>⟨ftl_below n p,fsl_below n p⟩⟩
theorem evalQ (m:Mdl) (hm:m.Sm) (hn:m.Nm) (hva:validM m=true) (p:Fq) (hp:Gd p) (hr:rankF p≤6) (ha:HasAll m) (H:Heap):VDet Tryz.prog 18 [.agg m.cells,.agg (fqx p)] H (.tup [.bool (hv m p (bindF m)),.int .i64 0]):=by
 have:=evalG_c m hm hn hva p hp hr (hp.has ha) H
 rwa [fqx_eq p] at this
end Go.Proofs.YtgdmldelijeaoaaGreatDoor
/-! text BJ41 -/
namespace Go.Proofs.YtgdmldelijeaoaaGreatDoor
open Go.Vsi
set_option maxHeartbeats 4000000
set_option linter.unusedSimpArgs false
attribute [local irreducible] VW VCall VO bits
end Go.Proofs.YtgdmldelijeaoaaGreatDoor
/-! text BK41 -/
namespace Go.Proofs.YtgdmldelijeaoaaGreatDoor
open Go.Vsi
set_option maxHeartbeats 4000000
set_option linter.unusedSimpArgs false
attribute [local irreducible] VW VCall VO bits
end Go.Proofs.YtgdmldelijeaoaaGreatDoor
/-! text PO41 -/
namespace Go.Proofs.YtgdmldelijeaoaaGreatDoor
open Go.Vsi
set_option maxHeartbeats 4000000
def qF (f:Fct) (y:SymI):Bool:=f.nm.toList==y.1.toList&&f.ar==y.2
def qU (f:Fnc) (y:SymI):Bool:=f.nm.toList==y.1.toList&&f.ar==y.2
def qB (b:Bnd) (y:ByteArray):Bool:=b.nm.toList==y.toList
def kF (f:Fct):SymI:=(f.nm,f.ar)
def kU (f:Fnc):SymI:=(f.nm,f.ar)
theorem qF_iff {f:Fct} {y:SymI}:qF f y=true↔kF f=y:=by
 unfold qF kF
 rw [Bool.and_eq_true,ba_eq,beq_iff_eq]
 exact ⟨fun h=>Prod.ext h.1 h.2,fun h=>⟨congrArg Prod.fst h,congrArg Prod.snd h⟩⟩
theorem qU_iff {f:Fnc} {y:SymI}:qU f y=true↔kU f=y:=by
 unfold qU kU
 rw [Bool.and_eq_true,ba_eq,beq_iff_eq]
 exact ⟨fun h=>Prod.ext h.1 h.2,fun h=>⟨congrArg Prod.fst h,congrArg Prod.snd h⟩⟩
theorem qB_iff {b:Bnd} {y:ByteArray}:qB b y=true↔b.nm=y:=ba_eq
theorem any_key {α β:Type} {q:α→β→Bool} {key:α→β} (h:∀ x y,q x y=true↔key x=y) (x:α) (lb:List β):lb.any (q x)=true↔key x∈lb:=by
 rw [List.any_eq_true]
 constructor
 ·rintro ⟨y,hy,h2⟩
  rw [(h x y).1 h2]
  exact hy
 ·intro hy
  exact ⟨_,hy,(h x _).2 rfl⟩
theorem key_det {α β:Type} {q:α→β→Bool} {key:α→β} (h:∀ x y,q x y=true↔key x=y):∀ x y y',q x y=true→q x y'=true→y=y':=fun x y y' h1 h2=>((h x y).1 h1).symm.trans ((h x y').1 h2)
theorem filter_find {α:Type} {p q:α→Bool}:∀ l:List α,(∀ x∈l,q x=true→p x=true)→(l.filter p).find? q=l.find? q
 | [],_=>rfl
 | x::l,h=>by
   have ih:=filter_find (p:=p) (q:=q) l fun y hy=>h y (List.mem_cons_of_mem _ hy)
   rw [List.filter_cons]
   cases hq:q x
   ·rw [List.find?_cons_of_neg (by rw [hq];decide)]
    cases p x
    ·exact ih
    ·rw [if_pos rfl,List.find?_cons_of_neg (by rw [hq];decide)]
     exact ih
   ·rw [h x List.mem_cons_self hq,if_pos rfl,List.find?_cons_of_pos hq,List.find?_cons_of_pos hq]
theorem filter_len {α β:Type} {q:α→β→Bool} {key:α→β} (h:∀ x y,q x y=true↔key x=y) (la:List α) (hk:(la.map key).Nodup) (lb:List β) (hn:lb.Nodup) (hs:∀ y∈lb,∃ x∈la,key x=y):(la.filter fun x=>lb.any (q x)).length=lb.length:=by
 have h1:((la.filter fun x=>lb.any (q x)).map key).length≤lb.length:=len_sub lb _ (hk.sublist (List.filter_sublist.map key)) fun y hy=>by
  obtain ⟨x,hx,rfl⟩:=List.mem_map.1 hy
  exact (any_key h x lb).1 (List.mem_filter.1 hx).2
 have h2:lb.length≤((la.filter fun x=>lb.any (q x)).map key).length:=len_sub _ lb hn fun y hy=>by
  obtain ⟨x,hx,rfl⟩:=hs y hy
  exact List.mem_map.2 ⟨x,List.mem_filter.2 ⟨hx,(any_key h x lb).2 hy⟩,rfl⟩
 rw [List.length_map] at h1 h2
 omega
theorem sub_cons {α:Type} {l:List α} {a:α} {b:List α} (h:l.Sublist (a::b)):l.Sublist b∨∃ l',l=a::l'∧l'.Sublist b:=by
 cases h with
 | cons _ h=>exact .inl h
 | cons_cons _ h=>exact .inr ⟨_,rfl,h⟩
theorem sub_nil {α:Type} {l:List α} (h:l.Sublist []):l=[]:=List.sublist_nil.1 h
theorem incP_sub {l:List SymI} (h:l.Sublist [(nP,1),(nQ,0),(nR,2)]):sigR ⟨l,[],[]⟩=true:=by
 rcases sub_cons h with h1|⟨a,rfl,h1⟩ <;> rcases sub_cons h1 with h2|⟨b,rfl,h2⟩ <;> rcases sub_cons h2 with h3|⟨c,rfl,h3⟩ <;> rw [sub_nil h3] <;> kernel_rfl
theorem incU_sub {l:List SymI} (h:l.Sublist [(nA,0),(nF,1)]):sigR ⟨[],l,[]⟩=true:=by
 rcases sub_cons h with h1|⟨a,rfl,h1⟩ <;> rcases sub_cons h1 with h2|⟨b,rfl,h2⟩ <;> rw [sub_nil h2] <;> kernel_rfl
theorem incV_sub {l:List ByteArray} (h:l.Sublist [nX,nY,nZ]):sigR ⟨[],[],l⟩=true:=by
 rcases sub_cons h with h1|⟨a,rfl,h1⟩ <;> rcases sub_cons h1 with h2|⟨b,rfl,h2⟩ <;> rcases sub_cons h2 with h3|⟨c,rfl,h3⟩ <;> rw [sub_nil h3] <;> kernel_rfl
theorem sigR_parts {a b:List SymI} {c:List ByteArray} (h1:sigR ⟨a,[],[]⟩=true) (h2:sigR ⟨[],b,[]⟩=true) (h3:sigR ⟨[],[],c⟩=true):sigR ⟨a,b,c⟩=true:=by
 unfold sigR at *
 rw [Bool.and_eq_true,Bool.and_eq_true] at *
 exact ⟨h1.1,h2.2.1,h3.2.2⟩
structure PartOf (m:Mdl) (fa:List Fct) (fu:List Fnc) (bi:List Bnd):Prop where
 fa:fa.Sublist m.facts
 fu:fu.Sublist m.funcs
 bi:bi.Sublist m.binds
theorem part_valid {k:Nat} {w:Nat→Nat} {fa:List Fct} {fu:List Fnc} {bi:List Bnd} (hv:validM (mad k w)=true) (h:PartOf (mad k w) fa fu bi):validM ⟨2,(madN k:Nat),[],0,fa,fu,bi⟩=true:=by
 obtain ⟨vm,-,-,-⟩:=vm_of hv
 have hsz:(mad k w).size.toNat=madN k:=by show ((madN k:Nat):Int).toNat=_;omega
 rw [hsz] at vm
 refine valid_of (n:=madN k) ⟨rfl,vm.pos,vm.le,fun f hf=>vm.facts f (h.fa.subset hf),fun f hf=>vm.funcs f (h.fu.subset hf),fun b hb=>vm.binds b (h.bi.subset hb)⟩ rfl rfl rfl ?_
 exact sigR_parts (incP_sub (h.fa.map kF)) (incU_sub (h.fu.map kU)) (incV_sub (h.bi.map Bnd.nm))
theorem part_sm {m:Mdl} {n:Int} {fa:List Fct} {fu:List Fnc} {bi:List Bnd} (hm:m.Sm) (h:PartOf m fa fu bi):(Mdl.mk 2 n [] 0 fa fu bi).Sm :=
 ⟨Nat.zero_le _,Nat.le_trans h.fa.length_le hm.facts,Nat.le_trans h.fu.length_le hm.funcs,Nat.le_trans h.bi.length_le hm.binds,fun f hf=>hm.vals f (h.fu.subset hf)⟩
theorem part_nm {m:Mdl} {n:Int} {fa:List Fct} {fu:List Fnc} {bi:List Bnd} (hm:m.Nm) (h:PartOf m fa fu bi):(Mdl.mk 2 n [] 0 fa fu bi).Nm :=
 ⟨fun f hf=>hm.f f (h.fa.subset hf),fun f hf=>hm.u f (h.fu.subset hf),fun f hf=>hm.b f (h.bi.subset hf)⟩
theorem factP_iff {s:ByteArray} {a:Int} {f:Fct}:factP s a f=true↔kF f=(s,a):=by
 unfold factP kF
 rw [Bool.and_eq_true,ba_eq,beq_iff_eq]
 exact ⟨fun h=>Prod.ext h.1 h.2,fun h=>⟨congrArg Prod.fst h,congrArg Prod.snd h⟩⟩
theorem funcP_iff {s:ByteArray} {a:Int} {f:Fnc}:funcP s a f=true↔kU f=(s,a):=by
 unfold funcP kU
 rw [Bool.and_eq_true,ba_eq,beq_iff_eq]
 exact ⟨fun h=>Prod.ext h.1 h.2,fun h=>⟨congrArg Prod.fst h,congrArg Prod.snd h⟩⟩
theorem bindP_iff {s:ByteArray} {b:Bnd}:bindP s b=true↔b.nm=s:=ba_eq
def fltF (m:Mdl) (s:Sig):List Fct:=m.facts.filter fun x=>s.preds.any (qF x)
def fltU (m:Mdl) (s:Sig):List Fnc:=m.funcs.filter fun x=>s.funcs.any (qU x)
def fltB (m:Mdl) (s:Sig):List Bnd:=m.binds.filter fun x=>s.vars.any (qB x)
def partM (m:Mdl) (s:Sig):Mdl:=⟨2,m.size,[],0,fltF m s,fltU m s,fltB m s⟩
theorem flt_part (m:Mdl) (s:Sig):PartOf m (fltF m s) (fltU m s) (fltB m s):=⟨List.filter_sublist,List.filter_sublist,List.filter_sublist⟩
theorem part_fact {m:Mdl} {s:Sig} {c:ByteArray} {a:Int} (h:(c,a)∈s.preds):(fltF m s).find? (factP c a)=m.facts.find? (factP c a) :=
 filter_find _ fun x _ hx=>(any_key (fun _ _=>qF_iff) x _).2 (by rw [factP_iff.1 hx];exact h)
theorem part_func {m:Mdl} {s:Sig} {c:ByteArray} {a:Int} (h:(c,a)∈s.funcs):(fltU m s).find? (funcP c a)=m.funcs.find? (funcP c a) :=
 filter_find _ fun x _ hx=>(any_key (fun _ _=>qU_iff) x _).2 (by rw [funcP_iff.1 hx];exact h)
theorem part_bind {m:Mdl} {s:Sig} {c:ByteArray} (h:c∈s.vars):(fltB m s).find? (bindP c)=m.binds.find? (bindP c) :=
 filter_find _ fun x _ hx=>(any_key (key:=Bnd.nm) (fun _ _=>qB_iff) x _).2 (by rw [bindP_iff.1 hx];exact h)
theorem sig_p {p:Fq} (hok:p.Ok) {c:ByteArray} {a:Int}:(c,a)∈(sigF p.fo).preds↔p.hasP c a:=by
 constructor
 ·intro h
  obtain ⟨y,hy,e⟩:=List.mem_map.1 h
  have h2:=(mem_predY hok y).1 ((sortY_perm _).mem_iff.1 hy)
  have e1:y.1=c:=congrArg Prod.fst e
  have e2:((y.2:Nat):Int)=a:=congrArg Prod.snd e
  rwa [e1,e2] at h2
 ·intro h
  have hn:0≤a:=by
   have:∀ q:Fq,q.hasP c a→0≤a:=by
    intro q
    induction q with
    | at_ d l=>intro h;have:=h.2;omega
    | fa=>intro h;exact h.elim
    | f1 q ih=>exact fun h=>ih h
    | f2 k q r ih1 ih2=>exact fun h=>h.elim ih1 ih2
    | qn k x q ih=>exact fun h=>ih h
   exact this p h
  obtain ⟨n,rfl⟩:∃ n:Nat,a=n:=⟨a.toNat,by omega⟩
  exact List.mem_map.2 ⟨(c,n),(sortY_perm _).mem_iff.2 ((mem_predY hok (c,n)).2 h),rfl⟩
theorem sig_c {p:Fq} (hok:p.Ok) {c:ByteArray} {a:Int}:(c,a)∈(sigF p.fo).funcs↔p.hasC c a:=by
 constructor
 ·intro h
  obtain ⟨y,hy,e⟩:=List.mem_map.1 h
  have h2:=(mem_funY hok y).1 ((sortY_perm _).mem_iff.1 hy)
  have e1:y.1=c:=congrArg Prod.fst e
  have e2:((y.2:Nat):Int)=a:=congrArg Prod.snd e
  rwa [e1,e2] at h2
 ·intro h
  have nt:∀ t:Tq,t.hasC c a→0≤a:=by
   intro t
   induction t with
   | vr d=>intro h;exact h.elim
   | cn d=>intro h;have:=h.2;omega
   | ap d t ih=>exact fun h=>h.elim (fun h=>by have:=h.2;omega) ih
  have hn:0≤a:=by
   have:∀ q:Fq,q.hasC c a→0≤a:=by
    intro q
    induction q with
    | at_ d l=>exact fun ⟨t,_,h⟩=>nt t h
    | fa=>intro h;exact h.elim
    | f1 q ih=>exact fun h=>ih h
    | f2 k q r ih1 ih2=>exact fun h=>h.elim ih1 ih2
    | qn k x q ih=>exact fun h=>ih h
   exact this p h
  obtain ⟨n,rfl⟩:∃ n:Nat,a=n:=⟨a.toNat,by omega⟩
  exact List.mem_map.2 ⟨(c,n),(sortY_perm _).mem_iff.2 ((mem_funY hok (c,n)).2 h),rfl⟩
theorem sig_v {p:Fq} (hok:p.Ok) {x:ByteArray}:x∈(sigF p.fo).vars↔p.free x:=(sortB_perm _).mem_iff.trans (mem_freeF hok x)
theorem toI_inj {x y:Sym} (h:toI x=toI y):x=y:=by
 have e1:(toI x).1=(toI y).1:=congrArg Prod.fst h
 have e2:(toI x).2=(toI y).2:=congrArg Prod.snd h
 exact Prod.ext e1 (Int.ofNat.inj e2)
theorem sig_nd (f:Fo):(sigF f).preds.Nodup∧(sigF f).funcs.Nodup∧(sigF f).vars.Nodup:=by
 have key:∀ l:List Sym,l.Nodup→(l.map toI).Nodup:=fun l h=>List.pairwise_map.2 (h.imp fun hne e=>hne (toI_inj e))
 exact ⟨key _ (sortY_nd (predY_nd f)),key _ (sortY_nd (funY_nd f)),(sortB_perm _).symm.nodup (freeF_nd f)⟩
theorem hv_part {m:Mdl} {p:Fq} (hok:p.Ok):hv (partM m (sigF p.fo)) p (bindF (partM m (sigF p.fo)))=hv m p (bindF m) :=
 hv_congr (m:=partM m (sigF p.fo)) (m':=m) rfl p _ _ (fun x hx=>by
  show (((fltB m (sigF p.fo)).find? (bindP x)).getD bnd0).at_=((m.binds.find? (bindP x)).getD bnd0).at_
  rw [part_bind ((sig_v hok).2 hx)]) (fun s a h=>by
  show ((fltU m (sigF p.fo)).find? (funcP s a)).getD fnc0=(m.funcs.find? (funcP s a)).getD fnc0
  rw [part_func ((sig_c hok).2 h)]) fun s a h=>by
  show ((fltF m (sigF p.fo)).find? (factP s a)).getD fct0=(m.facts.find? (factP s a)).getD fct0
  rw [part_fact ((sig_p hok).2 h)]
theorem part_has {m:Mdl} {p:Fq} (hg:Gd p) (ha:HasAll m):hasB (partM m (sigF p.fo)) (sigF p.fo)=true:=by
 have hok:=std_ok p hg.std
 unfold hasB
 rw [Bool.and_eq_true,Bool.and_eq_true,List.all_eq_true,List.all_eq_true,List.all_eq_true]
 refine ⟨fun x hx=>?_,fun x hx=>?_,fun x hx=>?_⟩
 ·obtain ⟨s,a⟩:=x
  show ((fltF m (sigF p.fo)).find? (factP s a)).isSome=true
  rw [part_fact hx]
  exact ha.p s a (hg.sym.p s a ((sig_p hok).1 hx))
 ·obtain ⟨s,a⟩:=x
  show ((fltU m (sigF p.fo)).find? (funcP s a)).isSome=true
  rw [part_func hx]
  exact ha.c s a (hg.sym.c s a ((sig_c hok).1 hx))
 ·show ((fltB m (sigF p.fo)).find? (bindP x)).isSome=true
  rw [part_bind hx]
  exact ha.v x (hg.sym.v x ((sig_v hok).1 hx))
theorem nd_erase {α β:Type} (key:α→β) (l:List α) (h:(l.map key).Nodup) (k:Nat) (hk:k<l.length):∀ x∈l.eraseIdx k,key x≠key l[k]:=by
 intro x hx e
 obtain ⟨i,hi,hne,rfl⟩:=List.mem_eraseIdx_iff_getElem.1 hx
 have h2:=List.pairwise_iff_getElem.1 h
 rcases Nat.lt_or_gt_of_ne hne with hl|hl
 ·have:=h2 i k (by rw [List.length_map];exact hi) (by rw [List.length_map];exact hk) hl
  rw [List.getElem_map,List.getElem_map] at this
  exact this e
 ·have:=h2 k i (by rw [List.length_map];exact hk) (by rw [List.length_map];exact hi) hl
  rw [List.getElem_map,List.getElem_map] at this
  exact this e.symm
theorem part_less {m:Mdl} {s:Sig} (hk:(m.facts.map kF).Nodup) (k:Nat) (h:k<(fltF m s).length) (fu:List Fnc) (bi:List Bnd) (n:Int):hasB ⟨2,n,[],0,(fltF m s).eraseIdx k,fu,bi⟩ s=false:=by
 rw [Bool.eq_false_iff]
 intro hh
 unfold hasB at hh
 rw [Bool.and_eq_true,List.all_eq_true] at hh
 have hmem:(fltF m s)[k]∈fltF m s:=List.getElem_mem h
 have hin:kF (fltF m s)[k]∈s.preds:=(any_key (q:=qF) (key:=kF) (fun _ _=>qF_iff) _ _).1 (List.mem_filter.1 hmem).2
 obtain ⟨x,hx⟩:=Option.isSome_iff_exists.1 (hh.1 _ hin)
 have h1:=List.mem_of_find?_eq_some hx
 have h2:=factP_iff.1 (List.find?_some hx)
 exact nd_erase kF (fltF m s) (hk.sublist (List.filter_sublist.map kF)) k h x h1 h2
def inF {α β:Type} (q:α→β→Bool) (lb:List β) (x:α) (j:Nat):List α:=if (lb.take j).any (q x) then [x] else []
theorem inF_hit {α β:Type} {q:α→β→Bool} (hq:∀ x y y',q x y=true→q x y'=true→y=y') {lb:List β} (hn:lb.Nodup) (d:β) (x:α) (j:Nat) (hj:j<lb.length) (h:q x (lb.getD j d)=true):inF q lb x j=[]∧inF q lb x (j+1)=[x]:=by
 have e:lb.getD j d=lb[j]:=by simp [List.getElem?_eq_getElem hj]
 unfold inF
 constructor
 ·rw [if_neg]
  intro h2
  obtain ⟨y,hy,h3⟩:=List.any_eq_true.1 h2
  obtain ⟨i,hi,rfl⟩:=List.getElem_of_mem hy
  rw [List.length_take] at hi
  rw [List.getElem_take] at h3
  have h4:=hq x _ _ h3 h
  rw [e] at h4
  have:=(List.getElem_inj hn).1 h4
  omega
 ·rw [take_snocD lb d j hj,List.any_append,if_pos]
  simp only [List.any_cons,h,Bool.true_or,Bool.or_true]
theorem inF_miss {α β:Type} {q:α→β→Bool} {lb:List β} (d:β) (x:α) (j:Nat) (hj:j<lb.length) (h:q x (lb.getD j d)=false):inF q lb x (j+1)=inF q lb x j:=by
 unfold inF
 rw [take_snocD lb d j hj,List.any_append]
 simp only [List.any_cons,List.any_nil,h,Bool.or_false]
theorem inF_end {α β:Type} {q:α→β→Bool} {lb:List β} (la:List α) (d:α) (i:Nat) (hi:i<la.length):((la.take i).filter fun x=>lb.any (q x))++inF q lb (la.getD i d) lb.length=(la.take (i+1)).filter fun x=>lb.any (q x):=by
 rw [take_snocD la d i hi,List.filter_append,List.filter_cons,List.filter_nil]
 unfold inF
 rw [List.take_length]
theorem nd_of {α β:Type} (f:α→β) {l:List α} (h:(l.map f).Nodup):l.Nodup:=(List.pairwise_map.1 h).imp fun h e=>h (congrArg f e)
theorem mad_keys (n:Nat) (w:Nat→Nat):((madW n w).facts.map kF).Nodup∧((madW n w).funcs.map kU).Nodup∧((madW n w).binds.map Bnd.nm).Nodup :=
 ⟨nd_of Prod.snd (l:=[(nP,(1:Int)),(nQ,0),(nR,2)]) (show ([1,0,2]:List Int).Nodup by decide),nd_of Prod.snd (l:=[(nA,(0:Int)),(nF,1)]) (show ([0,1]:List Int).Nodup by decide),by
  show [nX,nY,nZ].Nodup
  decide⟩
theorem part_len {m:Mdl} {p:Fq} (hg:Gd p) (ha:HasAll m) (hk:(m.facts.map kF).Nodup∧(m.funcs.map kU).Nodup∧(m.binds.map Bnd.nm).Nodup):(fltF m (sigF p.fo)).length=(sigF p.fo).preds.length∧(fltU m (sigF p.fo)).length=(sigF p.fo).funcs.length∧(fltB m (sigF p.fo)).length=(sigF p.fo).vars.length:=by
 have hok:=std_ok p hg.std
 obtain ⟨n1,n2,n3⟩:=sig_nd p.fo
 refine ⟨filter_len (key:=kF) (fun _ _=>qF_iff) _ hk.1 _ n1 fun y hy=>?_,filter_len (key:=kU) (fun _ _=>qU_iff) _ hk.2.1 _ n2 fun y hy=>?_,filter_len (key:=Bnd.nm) (fun _ _=>qB_iff) _ hk.2.2 _ n3 fun y hy=>?_⟩
 ·obtain ⟨x,hx⟩:=Option.isSome_iff_exists.1 (ha.p y.1 y.2 (hg.sym.p y.1 y.2 ((sig_p hok).1 hy)))
  exact ⟨x,List.mem_of_find?_eq_some hx,factP_iff.1 (List.find?_some hx)⟩
 ·obtain ⟨x,hx⟩:=Option.isSome_iff_exists.1 (ha.c y.1 y.2 (hg.sym.c y.1 y.2 ((sig_c hok).1 hy)))
  exact ⟨x,List.mem_of_find?_eq_some hx,funcP_iff.1 (List.find?_some hx)⟩
 ·obtain ⟨x,hx⟩:=Option.isSome_iff_exists.1 (ha.v y (hg.sym.v y ((sig_v hok).1 hy)))
  exact ⟨x,List.mem_of_find?_eq_some hx,bindP_iff.1 (List.find?_some hx)⟩
end Go.Proofs.YtgdmldelijeaoaaGreatDoor
/-! text BM41 -/
namespace Go.Proofs.YtgdmldelijeaoaaGreatDoor
open Go.Vsi
set_option maxHeartbeats 4000000
set_option linter.unusedSimpArgs false
attribute [local irreducible] VW VCall VO bits
theorem ffb (n:Nat) (a b:List Fct):belowL n (a.flatMap Fct.cells++b.flatMap Fct.cells):=by
 rw [← List.flatMap_append]
 exact fcts_below n _
theorem uub (n:Nat) (a b:List Fnc):belowL n (a.flatMap Fnc.cells++b.flatMap Fnc.cells):=by
 rw [← List.flatMap_append]
 exact fncs_below n _
theorem bbb (n:Nat) (a b:List Bnd):belowL n (a.flatMap Bnd.cells++b.flatMap Bnd.cells):=by
 rw [← List.flatMap_append]
 exact bnds_below n _
theorem fct_one:∀ l:List Fct,allOne (l.flatMap Fct.cells)=true
 | []=>rfl
 | f::l=>by
   rw [List.flatMap_cons]
   exact fct_one l
theorem cW_bl (n:Nat) (w:Nat→Nat):belowL n (cW w):=by
 unfold cW
 simp [belowL,below]
theorem symbols_law (k:Nat) (hk:k≤255) (w:Nat→Nat) (hw:∀ i,w i≤65535) (l:List Nat) (hl:l.length≤9223372036854775807) (hb:∀ i,i<l.length→l.getD i 0≤255) (wh:Nat) (hwh:wh≤255) (H:Heap) :
  VDet Tryz.prog 8 [.int .u8 (k:Nat),.agg (cW w),.sl none l.length (l.flatMap encB),.int .u8 (wh:Nat)] H (.bool true):=by
 have hMd:=fun H=>made_c k hk w hw H
 have hBl:=fun H=>built15_c l hl hb H
 have hn:=madN_le k
 have hsm:(mad k w).Sm:=madW_sm (madN k) hn w
 have hnm:(mad k w).Nm:=madW_nm (madN k) w
 have hva:validM (mad k w)=true:=madW_valid (madN k) hn w
 have hal:HasAll (mad k w):=madW_all (madN k) w
 have hkk:=mad_keys (madN k) w
 have hgd:=blt_gd l
 have hrk:=blt_rank l
 generalize hp:bltF l=p at hBl hgd hrk
 have hlen:=part_len hgd hal hkk
 have hptv:=fun fa fu bi=>part_valid (k:=k) (w:=w) (fa:=fa) (fu:=fu) (bi:=bi) hva
 have hless:=fun j hj fu bi n=>part_less (m:=mad k w) (s:=sigF p.fo) hkk.1 j hj fu bi n
 have hflt:=flt_part (mad k w) (sigF p.fo)
 have e1:∀ H,VDet Tryz.prog 18 [.agg (mad k w).cells,.agg (fqx p)] H (.tup [.bool (hv (mad k w) p (bindF (mad k w))),.int .i64 0]):=fun H=>evalQ (mad k w) hsm hnm hva p hgd (by omega) hal H
 have e2:∀ H,VDet Tryz.prog 18 [.agg (partM (mad k w) (sigF p.fo)).cells,.agg (fqx p)] H (.tup [.bool (hv (mad k w) p (bindF (mad k w))),.int .i64 0]):=fun H=>by
  have:=evalG_c (partM (mad k w) (sigF p.fo)) (part_sm hsm hflt) (part_nm hnm hflt) (hptv _ _ _ hflt) p hgd (by omega) (part_has hgd hal) H
  rwa [hv_part (std_ok p hgd.std),fqx_eq p] at this
 have e3:∀ j,j<(fltF (mad k w) (sigF p.fo)).length→∀ H,VDet Tryz.prog 18 [.agg (Mdl.mk 2 (madN k:Nat) [] 0 ((fltF (mad k w) (sigF p.fo)).eraseIdx j) (fltU (mad k w) (sigF p.fo)) (fltB (mad k w) (sigF p.fo))).cells,.agg (fqx p)] H (.tup [.bool false,.int .i64 6]):=fun j hj H=>by
  have hpo:PartOf (mad k w) ((fltF (mad k w) (sigF p.fo)).eraseIdx j) (fltU (mad k w) (sigF p.fo)) (fltB (mad k w) (sigF p.fo)):=⟨(List.eraseIdx_sublist _ _).trans hflt.fa,hflt.fu,hflt.bi⟩
  have:=eval_c (Mdl.mk 2 (madN k:Nat) [] 0 ((fltF (mad k w) (sigF p.fo)).eraseIdx j) (fltU (mad k w) (sigF p.fo)) (fltB (mad k w) (sigF p.fo))) (part_sm hsm hpo) (part_nm hnm hpo) p hgd.sm (hptv _ _ _ hpo) hgd.right H
  rwa [if_neg (by omega),hless j hj,if_neg (by decide),fqx_eq p] at this
 have sg:∀ H,VDet Tryz.prog 29 [.sx 1 (fqx p)] H (.tup [.agg (sigF p.fo).cells,.int .i64 0]):=fun H=>by
  have:=sig1_c p hgd.sm hgd.right H
  rw [fqx_eq] at this
  exact VDet.wk this ⟨wk_sx _ _,trivial⟩
 obtain ⟨N1,N2,N3⟩:=sig_nd p.fo
 have hl1:=hsm.facts
 have hl2:=hsm.funcs
 have hl3:=hsm.binds
 have hmc:(mad k w).cells=[.int .u8 2,.int .i64 (madN k:Nat),.sl none 0 [],.int .i64 0,.sl none (mad k w).facts.length ((mad k w).facts.flatMap Fct.cells),.sl none (mad k w).funcs.length ((mad k w).funcs.flatMap Fnc.cells),.sl none (mad k w).binds.length ((mad k w).binds.flatMap Bnd.cells)]:=rfl
 have hpc:(partM (mad k w) (sigF p.fo)).cells=[.int .u8 2,.int .i64 (madN k:Nat),.sl none 0 [],.int .i64 0,.sl none (fltF (mad k w) (sigF p.fo)).length ((fltF (mad k w) (sigF p.fo)).flatMap Fct.cells),.sl none (fltU (mad k w) (sigF p.fo)).length ((fltU (mad k w) (sigF p.fo)).flatMap Fnc.cells),.sl none (fltB (mad k w) (sigF p.fo)).length ((fltB (mad k w) (sigF p.fo)).flatMap Bnd.cells)]:=rfl
 have hsc:(sigF p.fo).cells=[.sl none (sigF p.fo).preds.length ((sigF p.fo).preds.flatMap symI),.sl none (sigF p.fo).funcs.length ((sigF p.fo).funcs.flatMap symI),.sl none (sigF p.fo).vars.length ((sigF p.fo).vars.flatMap encS)]:=rfl
 rw [hsc] at sg
 rw [hpc] at e2
 have e3':∀ j,j<(fltF (mad k w) (sigF p.fo)).length→∀ H,VDet Tryz.prog 18 [.agg [.int .u8 2,.int .i64 (madN k:Nat),.sl none 0 [],.int .i64 0,.sl none ((fltF (mad k w) (sigF p.fo)).eraseIdx j).length (((fltF (mad k w) (sigF p.fo)).eraseIdx j).flatMap Fct.cells),.sl none (fltU (mad k w) (sigF p.fo)).length ((fltU (mad k w) (sigF p.fo)).flatMap Fnc.cells),.sl none (fltB (mad k w) (sigF p.fo)).length ((fltB (mad k w) (sigF p.fo)).flatMap Bnd.cells)],.agg (fqx p)] H (.tup [.bool false,.int .i64 6]):=e3
 clear hsc hpc e3 hless hptv hflt
 rw [hmc] at hMd e1
 clear hmc
 unfold fltF fltU fltB at e2 e3' hlen
 generalize hv (mad k w) p (bindF (mad k w))=B at e1 e2
 clear hsm hnm hva hal hkk
 generalize (mad k w).facts=fa at *
 generalize (mad k w).funcs=fu at *
 generalize (mad k w).binds=bi at *
 clear hgd hrk
 generalize (sigF p.fo).preds=SP at *
 generalize (sigF p.fo).funcs=SF at *
 generalize (sigF p.fo).vars=SV at *
 generalize madN k=n at *
 obtain ⟨o,s,n1,c1,n2,c2,hqe,hpb⟩:=fqx_ex p
 rw [hqe] at hBl sg
 simp only [hqe] at e1 e2 e3'
 obtain ⟨L1,L2,L3⟩:=hlen
 have S1:SP.length≤1000000:=by rw [← L1];exact Nat.le_trans (List.length_filter_le _ _) hl1
 have S2:SF.length≤1000000:=by rw [← L2];exact Nat.le_trans (List.length_filter_le _ _) hl2
 have S3:SV.length≤1000000:=by rw [← L3];exact Nat.le_trans (List.length_filter_le _ _) hl3
 refine fn_det Tryz.E0 Tryz.mx Tryz.func8 (by kernel_rfl) rfl (Nat.le_of_ble_eq_true rfl) rfl fun hcl hbl=>?_
 (repeat' ((conv=>whnf);(first|(refine IfN.id ?_;first|refine IfN.not ?_|refine IfN.tt rfl ?_|fail)|(refine CallN.id ?_;first|refine CallN.det _ (awake_c _) ?_|refine CallN.det _ (hMd _) ?_|refine CallN.det _ (hBl _) ?_|refine CallN.det _ (sg _) ?_|fail)|refine DrawN.mk' [] ?_|fail)));all_goals (conv=>whnf)
 have dF:=fun x y y'=>key_det (q:=qF) (key:=kF) (fun _ _=>qF_iff) x y y'
 have dU:=fun x y y'=>key_det (q:=qU) (key:=kU) (fun _ _=>qU_iff) x y y'
 have dB:=fun x y y'=>key_det (q:=qB) (key:=Bnd.nm) (fun _ _=>qB_iff) x y y'
 refine LoopN.tokB 4 4 95 3 rfl rfl rfl rfl rfl rfl ?_
 refine loop_R Tryz.E0 Tryz.mx (σ:=Nat) (fun i=>i≤fa.length) (fun i=>fa.length-i) (fun i=>[(53,.v (.int .i64 i))]) (fun i=>[.box 47 (cW w),.box 37 [.int .u8 2,.int .i64 (n:Nat),.sl none 0 [],.int .i64 0,.sl none fa.length (fa.flatMap Fct.cells),.sl none fu.length (fu.flatMap Fnc.cells),.sl none bi.length (bi.flatMap Bnd.cells)],.box 29 [.int .u8 o,.str s,.sl none n1 c1,.sl none n2 c2],.box 58 [.sl none SP.length (SP.flatMap symI),.sl none SF.length (SF.flatMap symI),.sl none SV.length (SV.flatMap encS)],.box 37 [.int .u8 2,.int .i64 (n:Nat),.nils,.int .i64 0,.sl (some (H.length+5)) ((fa.take i).filter fun x=>SP.any (qF x)).length (((fa.take i).filter fun x=>SP.any (qF x)).flatMap Fct.cells),.nils,.nils],.tok 95 3 (((fa.take i).filter fun x=>SP.any (qF x)).flatMap Fct.cells).length]) _ 0 rfl hcl [3,9,10,11,12,13,51,52] rfl (Nat.zero_le _) ⟨⟨_,rfl,Wk.refl _⟩,trivial⟩ rfl (fun _ _=>rfl) ?_
 intro i hi
 rcases Nat.lt_or_ge i fa.length with hlt|hge
 ·have hend:=inF_end (q:=qF) (lb:=SP) fa fct0 i hlt
  have hln:((fa.take i).filter fun x=>SP.any (qF x)).length≤i:=Nat.le_trans (List.length_filter_le _ _) (by rw [List.length_take];omega)
  generalize ((fa.take i).filter fun x=>SP.any (qF x))=A at hend hln ⊢
  obtain ⟨u,v,z,hx,ex⟩:=fct_ex (f:=fa.getD i fct0) rfl
  have h1:=fun j hj h=>inF_hit (q:=qF) dF N1 symI0 (fa.getD i fct0) j hj h
  have h0:=fun j hj h=>inF_miss (q:=qF) (lb:=SP) symI0 (fa.getD i fct0) j hj h
  rw [hx] at h1 h0 hend
  (repeat' ((conv=>whnf);(first|refine IfN.dT (by omega) ?_|(refine SideN.mk ?_ ?_;· first|kernel_rfl|omega|exact List.cons_ne_nil _ _|(simp;done)|(simp;omega)|exact trivial|assumption|fail)|refine SegN.nthE fct0 i rfl (by omega) fct_size ex ?_|refine DrawN.mk' [] ?_|fail)));all_goals (conv=>whnf)
  refine loop_R Tryz.E0 Tryz.mx (σ:=Nat) (fun j=>j≤SP.length) (fun j=>SP.length-j) (fun j=>[(60,.v (.int .i64 j))]) (fun j=>[.box 47 (cW w),.box 37 [.int .u8 2,.int .i64 (n:Nat),.sl none 0 [],.int .i64 0,.sl none fa.length (fa.flatMap Fct.cells),.sl none fu.length (fu.flatMap Fnc.cells),.sl none bi.length (bi.flatMap Bnd.cells)],.box 29 [.int .u8 o,.str s,.sl none n1 c1,.sl none n2 c2],.box 58 [.sl none SP.length (SP.flatMap symI),.sl none SF.length (SF.flatMap symI),.sl none SV.length (SV.flatMap encS)],.box 37 [.int .u8 2,.int .i64 (n:Nat),.nils,.int .i64 0,.sl (some (H.length+5)) (A++inF qF SP ⟨u,v,z⟩ j).length ((A++inF qF SP ⟨u,v,z⟩ j).flatMap Fct.cells),.nils,.nils],.tok 95 3 ((A++inF qF SP ⟨u,v,z⟩ j).flatMap Fct.cells).length,.box 95 [.str u,.int .i64 v,.int .i64 z]]) _ 0 rfl hcl [3,9,10,11,12,13,15,51,52,53,58,59] rfl (Nat.zero_le _) ⟨⟨_,rfl,Wk.refl _⟩,trivial⟩ (by rw [show inF qF SP ⟨u,v,z⟩ 0=[] from rfl,List.append_nil]) (fun _ _=>rfl) ?_
  intro j hj
  rcases Nat.lt_or_ge j SP.length with hjl|hjg
  ·have h1:=h1 j hjl
   have h0:=h0 j hjl
   obtain ⟨su,sv,hsx,es⟩:=symI_ex (SP.getD j symI0)
   rw [hsx] at h1 h0
   by_cases hu:(u.toList==su.toList)=true
   ·by_cases hvv:v=sv
    ·subst hvv
     obtain ⟨a1,a2⟩:=h1 (by unfold qF;simp only [hu];simp)
     rw [a1,List.append_nil]
     have hns:(A++inF qF SP ⟨u,v,z⟩ (j+1)).flatMap Fct.cells=A.flatMap Fct.cells++[.str u,.int .i64 v,.int .i64 z]:=by
      rw [a2,List.flatMap_append]
      rfl
     have hnl:(A++inF qF SP ⟨u,v,z⟩ (j+1)).length=A.length+1:=by rw [a2,List.length_append];rfl
     have hml:(A.flatMap Fct.cells).length=A.length * 3:=flat_length fct_size A
     have hbt:(A.length+1) * 32≤140737488355328:=by omega
     have hmx:A.length+1≤maxLen:=Nat.le_trans (show A.length+1≤1000001 by omega) (by decide)
     (repeat' ((conv=>whnf);(first|(refine IfN.id ?_;first|refine IfN.tt hu ?_|refine IfN.dT (by omega) ?_|fail)|(refine EqN.addN _ _ Cst.h Cst.h ?_ ?_;· omega)|(refine SideN.mk ?_ ?_;· first|kernel_rfl|omega|exact List.cons_ne_nil _ _|(simp;done)|(simp;omega)|exact trivial|assumption|fail)|refine SegN.nthE symI0 j rfl (by omega) symI_size es ?_|refine SideN.mk ⟨rfl,rfl,rfl,hbt,hmx⟩ ?_|refine PtrN.loc _ rfl ?_|refine DrawN.mk' [] ?_|fail)));all_goals (conv=>whnf)
     rw [← hns,← hnl]
     (refine ⟨⟨j+1,by show j+1≤_;omega,by omega,?_,.inl ⟨rfl,rfl⟩,rfl,_,rfl,?_⟩⟩;rotate_left 1;(first|exact .inl rfl|exact .inr ⟨by simp [belowRE,below,belowL,tr,i64_below,cW_bl,hpb,ffb,uub,bbb,symIs_below,strs_below,fcts_below,fncs_below,bnds_below],by simp [belowH,Blk.below,belowL,below,i64_below,cW_bl,hpb,ffb,uub,bbb,symIs_below,strs_below,fcts_below,fncs_below,bnds_below]⟩|fail);(repeat' (first|exact trivial|refine ⟨⟨_,rfl,?_⟩,?_⟩|fail));all_goals try (first|exact Wk.refl _|exact Wk.of_eq (congrArg (AV.int _) (by omega))|fail))
    ·have a0:=h0 (by unfold qF;simp [hvv])
     rw [← a0]
     (repeat' ((conv=>whnf);(first|(refine IfN.id ?_;first|refine IfN.tt hu ?_|refine IfN.dT (by omega) ?_|refine IfN.dF (by omega) ?_|fail)|(refine EqN.addN _ _ Cst.h Cst.h ?_ ?_;· omega)|(refine SideN.mk ?_ ?_;· first|kernel_rfl|omega|exact List.cons_ne_nil _ _|(simp;done)|(simp;omega)|exact trivial|assumption|fail)|refine SegN.nthE symI0 j rfl (by omega) symI_size es ?_|refine DrawN.mk' [] ?_|fail)));all_goals (conv=>whnf)
     (refine ⟨⟨j+1,by show j+1≤_;omega,by omega,?_,.inl ⟨rfl,rfl⟩,rfl,_,rfl,?_⟩⟩;rotate_left 1;(first|exact .inl rfl|exact .inr ⟨by simp [belowRE,below,belowL,tr,i64_below,cW_bl,hpb,ffb,uub,bbb,symIs_below,strs_below,fcts_below,fncs_below,bnds_below],by simp [belowH,Blk.below,belowL,below,i64_below,cW_bl,hpb,ffb,uub,bbb,symIs_below,strs_below,fcts_below,fncs_below,bnds_below]⟩|fail);(repeat' (first|exact trivial|refine ⟨⟨_,rfl,?_⟩,?_⟩|fail));all_goals try (first|exact Wk.refl _|exact Wk.of_eq (congrArg (AV.int _) (by omega))|fail))
   ·have hu0:(u.toList==su.toList)=false:=Bool.eq_false_iff.2 hu
    have a0:=h0 (by unfold qF;simp only [hu0];simp)
    rw [← a0]
    (repeat' ((conv=>whnf);(first|(refine IfN.id ?_;first|refine IfN.ff hu0 ?_|refine IfN.dT (by omega) ?_|fail)|(refine EqN.addN _ _ Cst.h Cst.h ?_ ?_;· omega)|(refine SideN.mk ?_ ?_;· first|kernel_rfl|omega|exact List.cons_ne_nil _ _|(simp;done)|(simp;omega)|exact trivial|assumption|fail)|refine SegN.nthE symI0 j rfl (by omega) symI_size es ?_|refine DrawN.mk' [] ?_|fail)));all_goals (conv=>whnf)
    (refine ⟨⟨j+1,by show j+1≤_;omega,by omega,?_,.inl ⟨rfl,rfl⟩,rfl,_,rfl,?_⟩⟩;rotate_left 1;(first|exact .inl rfl|exact .inr ⟨by simp [belowRE,below,belowL,tr,i64_below,cW_bl,hpb,ffb,uub,bbb,symIs_below,strs_below,fcts_below,fncs_below,bnds_below],by simp [belowH,Blk.below,belowL,below,i64_below,cW_bl,hpb,ffb,uub,bbb,symIs_below,strs_below,fcts_below,fncs_below,bnds_below]⟩|fail);(repeat' (first|exact trivial|refine ⟨⟨_,rfl,?_⟩,?_⟩|fail));all_goals try (first|exact Wk.refl _|exact Wk.of_eq (congrArg (AV.int _) (by omega))|fail))
  ·have hje:j=SP.length:=by omega
   subst hje
   rw [hend]
   (repeat' ((conv=>whnf);(first|refine IfN.dF (by omega) ?_|(refine EqN.addN _ _ Cst.h Cst.h ?_ ?_;· omega)|refine DrawN.mk' [] ?_|fail)));all_goals (conv=>whnf)
   (refine ⟨⟨i+1,by show i+1≤_;omega,by omega,?_,.inr ?_,rfl,_,rfl,?_⟩⟩;rotate_left 2;(first|exact .inl rfl|exact .inr ⟨by simp [belowRE,below,belowL,tr,i64_below,cW_bl,hpb,ffb,uub,bbb,symIs_below,strs_below,fcts_below,fncs_below,bnds_below],by simp [belowH,Blk.below,belowL,below,i64_below,cW_bl,hpb,ffb,uub,bbb,symIs_below,strs_below,fcts_below,fncs_below,bnds_below]⟩|fail);all_goals (repeat' (first|exact trivial|refine ⟨⟨_,rfl,?_⟩,?_⟩|fail));all_goals try (first|exact Wk.refl _|exact Wk.of_eq (congrArg (AV.int _) (by omega))|fail))
 ·have hie:i=fa.length:=by omega
  subst hie
  rw [List.take_length]
  (repeat' ((conv=>whnf);(first|refine IfN.dF (by omega) ?_|refine DrawN.mk' [] ?_|fail)));all_goals (conv=>whnf)
  refine LoopN.tokB 4 5 97 3 rfl rfl rfl rfl rfl rfl ?_
  refine loop_R Tryz.E0 Tryz.mx (σ:=Nat) (fun i=>i≤fu.length) (fun i=>fu.length-i) (fun i=>[(87,.v (.int .i64 i))]) (fun i=>[.box 47 (cW w),.box 37 [.int .u8 2,.int .i64 (n:Nat),.sl none 0 [],.int .i64 0,.sl none fa.length (fa.flatMap Fct.cells),.sl none fu.length (fu.flatMap Fnc.cells),.sl none bi.length (bi.flatMap Bnd.cells)],.box 29 [.int .u8 o,.str s,.sl none n1 c1,.sl none n2 c2],.box 58 [.sl none SP.length (SP.flatMap symI),.sl none SF.length (SF.flatMap symI),.sl none SV.length (SV.flatMap encS)],.box 37 [.int .u8 2,.int .i64 (n:Nat),.nils,.int .i64 0,.sl (some (H.length+5)) (fa.filter fun x=>SP.any (qF x)).length ((fa.filter fun x=>SP.any (qF x)).flatMap Fct.cells),.sl (some (H.length+6)) ((fu.take i).filter fun x=>SF.any (qU x)).length (((fu.take i).filter fun x=>SF.any (qU x)).flatMap Fnc.cells),.nils],.tok 95 3 ((fa.filter fun x=>SP.any (qF x)).flatMap Fct.cells).length,.tok 97 3 (((fu.take i).filter fun x=>SF.any (qU x)).flatMap Fnc.cells).length]) _ 0 rfl hcl [3,9,10,11,12,13,85,86] rfl (Nat.zero_le _) ⟨⟨_,rfl,Wk.refl _⟩,trivial⟩ rfl (fun _ _=>rfl) ?_
  intro i hi
  rcases Nat.lt_or_ge i fu.length with hlt|hge
  ·have hend:=inF_end (q:=qU) (lb:=SF) fu fnc0 i hlt
   have hln:((fu.take i).filter fun x=>SF.any (qU x)).length≤i:=Nat.le_trans (List.length_filter_le _ _) (by rw [List.length_take];omega)
   generalize ((fu.take i).filter fun x=>SF.any (qU x))=A at hend hln ⊢
   obtain ⟨u,v,z,hx,ex⟩:=fnc_ex (f:=fu.getD i fnc0) rfl
   have h1:=fun j hj h=>inF_hit (q:=qU) dU N2 symI0 (fu.getD i fnc0) j hj h
   have h0:=fun j hj h=>inF_miss (q:=qU) (lb:=SF) symI0 (fu.getD i fnc0) j hj h
   rw [hx] at h1 h0 hend
   (repeat' ((conv=>whnf);(first|refine IfN.dT (by omega) ?_|(refine SideN.mk ?_ ?_;· first|kernel_rfl|omega|exact List.cons_ne_nil _ _|(simp;done)|(simp;omega)|exact trivial|assumption|fail)|refine SegN.nthE fnc0 i rfl (by omega) fnc_size ex ?_|refine DrawN.mk' [] ?_|fail)));all_goals (conv=>whnf)
   refine loop_R Tryz.E0 Tryz.mx (σ:=Nat) (fun j=>j≤SF.length) (fun j=>SF.length-j) (fun j=>[(94,.v (.int .i64 j))]) (fun j=>[.box 47 (cW w),.box 37 [.int .u8 2,.int .i64 (n:Nat),.sl none 0 [],.int .i64 0,.sl none fa.length (fa.flatMap Fct.cells),.sl none fu.length (fu.flatMap Fnc.cells),.sl none bi.length (bi.flatMap Bnd.cells)],.box 29 [.int .u8 o,.str s,.sl none n1 c1,.sl none n2 c2],.box 58 [.sl none SP.length (SP.flatMap symI),.sl none SF.length (SF.flatMap symI),.sl none SV.length (SV.flatMap encS)],.box 37 [.int .u8 2,.int .i64 (n:Nat),.nils,.int .i64 0,.sl (some (H.length+5)) (fa.filter fun x=>SP.any (qF x)).length ((fa.filter fun x=>SP.any (qF x)).flatMap Fct.cells),.sl (some (H.length+6)) (A++inF qU SF ⟨u,v,z⟩ j).length ((A++inF qU SF ⟨u,v,z⟩ j).flatMap Fnc.cells),.nils],.tok 95 3 ((fa.filter fun x=>SP.any (qF x)).flatMap Fct.cells).length,.tok 97 3 ((A++inF qU SF ⟨u,v,z⟩ j).flatMap Fnc.cells).length,.box 97 [.str u,.int .i64 v,.sl none z.length (z.flatMap enc64)]]) _ 0 rfl hcl [3,9,10,11,12,13,19,85,86,87,92,93] rfl (Nat.zero_le _) ⟨⟨_,rfl,Wk.refl _⟩,trivial⟩ (by rw [show inF qU SF ⟨u,v,z⟩ 0=[] from rfl,List.append_nil]) (fun _ _=>rfl) ?_
   intro j hj
   rcases Nat.lt_or_ge j SF.length with hjl|hjg
   ·have h1:=h1 j hjl
    have h0:=h0 j hjl
    obtain ⟨su,sv,hsx,es⟩:=symI_ex (SF.getD j symI0)
    rw [hsx] at h1 h0
    by_cases hu:(u.toList==su.toList)=true
    ·by_cases hvv:v=sv
     ·subst hvv
      obtain ⟨a1,a2⟩:=h1 (by unfold qU;simp only [hu];simp)
      rw [a1,List.append_nil]
      have hns:(A++inF qU SF ⟨u,v,z⟩ (j+1)).flatMap Fnc.cells=A.flatMap Fnc.cells++[.str u,.int .i64 v,.sl none z.length (z.flatMap enc64)]:=by
       rw [a2,List.flatMap_append]
       rfl
      have hnl:(A++inF qU SF ⟨u,v,z⟩ (j+1)).length=A.length+1:=by rw [a2,List.length_append];rfl
      have hml:(A.flatMap Fnc.cells).length=A.length * 3:=flat_length fnc_size A
      have hbt:(A.length+1) * 48≤140737488355328:=by omega
      have hmx:A.length+1≤maxLen:=Nat.le_trans (show A.length+1≤1000001 by omega) (by decide)
      (repeat' ((conv=>whnf);(first|(refine IfN.id ?_;first|refine IfN.tt hu ?_|refine IfN.dT (by omega) ?_|fail)|(refine EqN.addN _ _ Cst.h Cst.h ?_ ?_;· omega)|(refine SideN.mk ?_ ?_;· first|kernel_rfl|omega|exact List.cons_ne_nil _ _|(simp;done)|(simp;omega)|exact trivial|assumption|fail)|refine SegN.nthE symI0 j rfl (by omega) symI_size es ?_|refine SideN.mk ⟨rfl,rfl,rfl,hbt,hmx⟩ ?_|refine PtrN.loc _ rfl ?_|refine DrawN.mk' [] ?_|fail)));all_goals (conv=>whnf)
      rw [← hns,← hnl]
      (refine ⟨⟨j+1,by show j+1≤_;omega,by omega,?_,.inl ⟨rfl,rfl⟩,rfl,_,rfl,?_⟩⟩;rotate_left 1;(first|exact .inl rfl|exact .inr ⟨by simp [belowRE,below,belowL,tr,i64_below,cW_bl,hpb,ffb,uub,bbb,symIs_below,strs_below,fcts_below,fncs_below,bnds_below],by simp [belowH,Blk.below,belowL,below,i64_below,cW_bl,hpb,ffb,uub,bbb,symIs_below,strs_below,fcts_below,fncs_below,bnds_below]⟩|fail);(repeat' (first|exact trivial|refine ⟨⟨_,rfl,?_⟩,?_⟩|fail));all_goals try (first|exact Wk.refl _|exact Wk.of_eq (congrArg (AV.int _) (by omega))|fail))
     ·have a0:=h0 (by unfold qU;simp [hvv])
      rw [← a0]
      (repeat' ((conv=>whnf);(first|(refine IfN.id ?_;first|refine IfN.tt hu ?_|refine IfN.dT (by omega) ?_|refine IfN.dF (by omega) ?_|fail)|(refine EqN.addN _ _ Cst.h Cst.h ?_ ?_;· omega)|(refine SideN.mk ?_ ?_;· first|kernel_rfl|omega|exact List.cons_ne_nil _ _|(simp;done)|(simp;omega)|exact trivial|assumption|fail)|refine SegN.nthE symI0 j rfl (by omega) symI_size es ?_|refine DrawN.mk' [] ?_|fail)));all_goals (conv=>whnf)
      (refine ⟨⟨j+1,by show j+1≤_;omega,by omega,?_,.inl ⟨rfl,rfl⟩,rfl,_,rfl,?_⟩⟩;rotate_left 1;(first|exact .inl rfl|exact .inr ⟨by simp [belowRE,below,belowL,tr,i64_below,cW_bl,hpb,ffb,uub,bbb,symIs_below,strs_below,fcts_below,fncs_below,bnds_below],by simp [belowH,Blk.below,belowL,below,i64_below,cW_bl,hpb,ffb,uub,bbb,symIs_below,strs_below,fcts_below,fncs_below,bnds_below]⟩|fail);(repeat' (first|exact trivial|refine ⟨⟨_,rfl,?_⟩,?_⟩|fail));all_goals try (first|exact Wk.refl _|exact Wk.of_eq (congrArg (AV.int _) (by omega))|fail))
    ·have hu0:(u.toList==su.toList)=false:=Bool.eq_false_iff.2 hu
     have a0:=h0 (by unfold qU;simp only [hu0];simp)
     rw [← a0]
     (repeat' ((conv=>whnf);(first|(refine IfN.id ?_;first|refine IfN.ff hu0 ?_|refine IfN.dT (by omega) ?_|fail)|(refine EqN.addN _ _ Cst.h Cst.h ?_ ?_;· omega)|(refine SideN.mk ?_ ?_;· first|kernel_rfl|omega|exact List.cons_ne_nil _ _|(simp;done)|(simp;omega)|exact trivial|assumption|fail)|refine SegN.nthE symI0 j rfl (by omega) symI_size es ?_|refine DrawN.mk' [] ?_|fail)));all_goals (conv=>whnf)
     (refine ⟨⟨j+1,by show j+1≤_;omega,by omega,?_,.inl ⟨rfl,rfl⟩,rfl,_,rfl,?_⟩⟩;rotate_left 1;(first|exact .inl rfl|exact .inr ⟨by simp [belowRE,below,belowL,tr,i64_below,cW_bl,hpb,ffb,uub,bbb,symIs_below,strs_below,fcts_below,fncs_below,bnds_below],by simp [belowH,Blk.below,belowL,below,i64_below,cW_bl,hpb,ffb,uub,bbb,symIs_below,strs_below,fcts_below,fncs_below,bnds_below]⟩|fail);(repeat' (first|exact trivial|refine ⟨⟨_,rfl,?_⟩,?_⟩|fail));all_goals try (first|exact Wk.refl _|exact Wk.of_eq (congrArg (AV.int _) (by omega))|fail))
   ·have hje:j=SF.length:=by omega
    subst hje
    rw [hend]
    (repeat' ((conv=>whnf);(first|refine IfN.dF (by omega) ?_|(refine EqN.addN _ _ Cst.h Cst.h ?_ ?_;· omega)|refine DrawN.mk' [] ?_|fail)));all_goals (conv=>whnf)
    (refine ⟨⟨i+1,by show i+1≤_;omega,by omega,?_,.inr ?_,rfl,_,rfl,?_⟩⟩;rotate_left 2;(first|exact .inl rfl|exact .inr ⟨by simp [belowRE,below,belowL,tr,i64_below,cW_bl,hpb,ffb,uub,bbb,symIs_below,strs_below,fcts_below,fncs_below,bnds_below],by simp [belowH,Blk.below,belowL,below,i64_below,cW_bl,hpb,ffb,uub,bbb,symIs_below,strs_below,fcts_below,fncs_below,bnds_below]⟩|fail);all_goals (repeat' (first|exact trivial|refine ⟨⟨_,rfl,?_⟩,?_⟩|fail));all_goals try (first|exact Wk.refl _|exact Wk.of_eq (congrArg (AV.int _) (by omega))|fail))
  ·have hie:i=fu.length:=by omega
   subst hie
   rw [List.take_length]
   (repeat' ((conv=>whnf);(first|refine IfN.dF (by omega) ?_|refine DrawN.mk' [] ?_|fail)));all_goals (conv=>whnf)
   refine LoopN.tokB 4 6 99 2 rfl rfl rfl rfl rfl rfl ?_
   refine loop_R Tryz.E0 Tryz.mx (σ:=Nat) (fun i=>i≤bi.length) (fun i=>bi.length-i) (fun i=>[(121,.v (.int .i64 i))]) (fun i=>[.box 47 (cW w),.box 37 [.int .u8 2,.int .i64 (n:Nat),.sl none 0 [],.int .i64 0,.sl none fa.length (fa.flatMap Fct.cells),.sl none fu.length (fu.flatMap Fnc.cells),.sl none bi.length (bi.flatMap Bnd.cells)],.box 29 [.int .u8 o,.str s,.sl none n1 c1,.sl none n2 c2],.box 58 [.sl none SP.length (SP.flatMap symI),.sl none SF.length (SF.flatMap symI),.sl none SV.length (SV.flatMap encS)],.box 37 [.int .u8 2,.int .i64 (n:Nat),.nils,.int .i64 0,.sl (some (H.length+5)) (fa.filter fun x=>SP.any (qF x)).length ((fa.filter fun x=>SP.any (qF x)).flatMap Fct.cells),.sl (some (H.length+6)) (fu.filter fun x=>SF.any (qU x)).length ((fu.filter fun x=>SF.any (qU x)).flatMap Fnc.cells),.sl (some (H.length+7)) ((bi.take i).filter fun x=>SV.any (qB x)).length (((bi.take i).filter fun x=>SV.any (qB x)).flatMap Bnd.cells)],.tok 95 3 ((fa.filter fun x=>SP.any (qF x)).flatMap Fct.cells).length,.tok 97 3 ((fu.filter fun x=>SF.any (qU x)).flatMap Fnc.cells).length,.tok 99 2 (((bi.take i).filter fun x=>SV.any (qB x)).flatMap Bnd.cells).length]) _ 0 rfl hcl [3,9,10,11,12,13,119,120] rfl (Nat.zero_le _) ⟨⟨_,rfl,Wk.refl _⟩,trivial⟩ rfl (fun _ _=>rfl) ?_
   intro i hi
   rcases Nat.lt_or_ge i bi.length with hlt|hge
   ·have hend:=inF_end (q:=qB) (lb:=SV) bi bnd0 i hlt
    have hln:((bi.take i).filter fun x=>SV.any (qB x)).length≤i:=Nat.le_trans (List.length_filter_le _ _) (by rw [List.length_take];omega)
    generalize ((bi.take i).filter fun x=>SV.any (qB x))=A at hend hln ⊢
    obtain ⟨u,v,hx,ex⟩:=bnd_ex (f:=bi.getD i bnd0) rfl
    have h1:=fun j hj h=>inF_hit (q:=qB) dB N3 .empty (bi.getD i bnd0) j hj h
    have h0:=fun j hj h=>inF_miss (q:=qB) (lb:=SV) .empty (bi.getD i bnd0) j hj h
    rw [hx] at h1 h0 hend
    (repeat' ((conv=>whnf);(first|refine IfN.dT (by omega) ?_|(refine SideN.mk ?_ ?_;· first|kernel_rfl|omega|exact List.cons_ne_nil _ _|(simp;done)|(simp;omega)|exact trivial|assumption|fail)|refine SegN.nthE bnd0 i rfl (by omega) bnd_size ex ?_|refine DrawN.mk' [] ?_|fail)));all_goals (conv=>whnf)
    refine loop_R Tryz.E0 Tryz.mx (σ:=Nat) (fun j=>j≤SV.length) (fun j=>SV.length-j) (fun j=>[(128,.v (.int .i64 j))]) (fun j=>[.box 47 (cW w),.box 37 [.int .u8 2,.int .i64 (n:Nat),.sl none 0 [],.int .i64 0,.sl none fa.length (fa.flatMap Fct.cells),.sl none fu.length (fu.flatMap Fnc.cells),.sl none bi.length (bi.flatMap Bnd.cells)],.box 29 [.int .u8 o,.str s,.sl none n1 c1,.sl none n2 c2],.box 58 [.sl none SP.length (SP.flatMap symI),.sl none SF.length (SF.flatMap symI),.sl none SV.length (SV.flatMap encS)],.box 37 [.int .u8 2,.int .i64 (n:Nat),.nils,.int .i64 0,.sl (some (H.length+5)) (fa.filter fun x=>SP.any (qF x)).length ((fa.filter fun x=>SP.any (qF x)).flatMap Fct.cells),.sl (some (H.length+6)) (fu.filter fun x=>SF.any (qU x)).length ((fu.filter fun x=>SF.any (qU x)).flatMap Fnc.cells),.sl (some (H.length+7)) (A++inF qB SV ⟨u,v⟩ j).length ((A++inF qB SV ⟨u,v⟩ j).flatMap Bnd.cells)],.tok 95 3 ((fa.filter fun x=>SP.any (qF x)).flatMap Fct.cells).length,.tok 97 3 ((fu.filter fun x=>SF.any (qU x)).flatMap Fnc.cells).length,.tok 99 2 ((A++inF qB SV ⟨u,v⟩ j).flatMap Bnd.cells).length,.box 99 [.str u,.int .i64 v]]) _ 0 rfl hcl [3,9,10,11,12,13,23,119,120,121,126,127] rfl (Nat.zero_le _) ⟨⟨_,rfl,Wk.refl _⟩,trivial⟩ (by rw [show inF qB SV ⟨u,v⟩ 0=[] from rfl,List.append_nil]) (fun _ _=>rfl) ?_
    intro j hj
    rcases Nat.lt_or_ge j SV.length with hjl|hjg
    ·have h1:=h1 j hjl
     have h0:=h0 j hjl
     obtain ⟨su,hsx,es⟩:=encS_ex (SV.getD j .empty)
     rw [hsx] at h1 h0
     by_cases hu:(u.toList==su.toList)=true
     ·obtain ⟨a1,a2⟩:=h1 (by unfold qB;exact hu)
      rw [a1,List.append_nil]
      have hns:(A++inF qB SV ⟨u,v⟩ (j+1)).flatMap Bnd.cells=A.flatMap Bnd.cells++[.str u,.int .i64 v]:=by
       rw [a2,List.flatMap_append]
       rfl
      have hnl:(A++inF qB SV ⟨u,v⟩ (j+1)).length=A.length+1:=by rw [a2,List.length_append];rfl
      have hml:(A.flatMap Bnd.cells).length=A.length * 2:=flat_length bnd_size A
      have hbt:(A.length+1) * 24≤140737488355328:=by omega
      have hmx:A.length+1≤maxLen:=Nat.le_trans (show A.length+1≤1000001 by omega) (by decide)
      (repeat' ((conv=>whnf);(first|(refine IfN.id ?_;first|refine IfN.tt hu ?_|refine IfN.dT (by omega) ?_|fail)|(refine EqN.addN _ _ Cst.h Cst.h ?_ ?_;· omega)|(refine SideN.mk ?_ ?_;· first|kernel_rfl|omega|exact List.cons_ne_nil _ _|(simp;done)|(simp;omega)|exact trivial|assumption|fail)|refine SegN.nthE .empty j rfl (by omega) encS_size es ?_|refine SideN.mk ⟨rfl,rfl,rfl,hbt,hmx⟩ ?_|refine PtrN.loc _ rfl ?_|refine DrawN.mk' [] ?_|fail)));all_goals (conv=>whnf)
      rw [← hns,← hnl]
      (refine ⟨⟨j+1,by show j+1≤_;omega,by omega,?_,.inl ⟨rfl,rfl⟩,rfl,_,rfl,?_⟩⟩;rotate_left 1;(first|exact .inl rfl|exact .inr ⟨by simp [belowRE,below,belowL,tr,i64_below,cW_bl,hpb,ffb,uub,bbb,symIs_below,strs_below,fcts_below,fncs_below,bnds_below],by simp [belowH,Blk.below,belowL,below,i64_below,cW_bl,hpb,ffb,uub,bbb,symIs_below,strs_below,fcts_below,fncs_below,bnds_below]⟩|fail);(repeat' (first|exact trivial|refine ⟨⟨_,rfl,?_⟩,?_⟩|fail));all_goals try (first|exact Wk.refl _|exact Wk.of_eq (congrArg (AV.int _) (by omega))|fail))
     ·have hu0:(u.toList==su.toList)=false:=Bool.eq_false_iff.2 hu
      have a0:=h0 (by unfold qB;exact hu0)
      rw [← a0]
      (repeat' ((conv=>whnf);(first|(refine IfN.id ?_;first|refine IfN.ff hu0 ?_|refine IfN.dT (by omega) ?_|fail)|(refine EqN.addN _ _ Cst.h Cst.h ?_ ?_;· omega)|(refine SideN.mk ?_ ?_;· first|kernel_rfl|omega|exact List.cons_ne_nil _ _|(simp;done)|(simp;omega)|exact trivial|assumption|fail)|refine SegN.nthE .empty j rfl (by omega) encS_size es ?_|refine DrawN.mk' [] ?_|fail)));all_goals (conv=>whnf)
      (refine ⟨⟨j+1,by show j+1≤_;omega,by omega,?_,.inl ⟨rfl,rfl⟩,rfl,_,rfl,?_⟩⟩;rotate_left 1;(first|exact .inl rfl|exact .inr ⟨by simp [belowRE,below,belowL,tr,i64_below,cW_bl,hpb,ffb,uub,bbb,symIs_below,strs_below,fcts_below,fncs_below,bnds_below],by simp [belowH,Blk.below,belowL,below,i64_below,cW_bl,hpb,ffb,uub,bbb,symIs_below,strs_below,fcts_below,fncs_below,bnds_below]⟩|fail);(repeat' (first|exact trivial|refine ⟨⟨_,rfl,?_⟩,?_⟩|fail));all_goals try (first|exact Wk.refl _|exact Wk.of_eq (congrArg (AV.int _) (by omega))|fail))
    ·have hje:j=SV.length:=by omega
     subst hje
     rw [hend]
     (repeat' ((conv=>whnf);(first|refine IfN.dF (by omega) ?_|(refine EqN.addN _ _ Cst.h Cst.h ?_ ?_;· omega)|refine DrawN.mk' [] ?_|fail)));all_goals (conv=>whnf)
     (refine ⟨⟨i+1,by show i+1≤_;omega,by omega,?_,.inr ?_,rfl,_,rfl,?_⟩⟩;rotate_left 2;(first|exact .inl rfl|exact .inr ⟨by simp [belowRE,below,belowL,tr,i64_below,cW_bl,hpb,ffb,uub,bbb,symIs_below,strs_below,fcts_below,fncs_below,bnds_below],by simp [belowH,Blk.below,belowL,below,i64_below,cW_bl,hpb,ffb,uub,bbb,symIs_below,strs_below,fcts_below,fncs_below,bnds_below]⟩|fail);all_goals (repeat' (first|exact trivial|refine ⟨⟨_,rfl,?_⟩,?_⟩|fail));all_goals try (first|exact Wk.refl _|exact Wk.of_eq (congrArg (AV.int _) (by omega))|fail))
   ·have hie:i=bi.length:=by omega
    subst hie
    rw [List.take_length]
    have e2b:∀ (a b c:Option Nat) H,VDet Tryz.prog 18 [.agg [.int .u8 2,.int .i64 (n:Nat),.nils,.int .i64 0,.sl a (fa.filter fun x=>SP.any (qF x)).length ((fa.filter fun x=>SP.any (qF x)).flatMap Fct.cells),.sl b (fu.filter fun x=>SF.any (qU x)).length ((fu.filter fun x=>SF.any (qU x)).flatMap Fnc.cells),.sl c (bi.filter fun x=>SV.any (qB x)).length ((bi.filter fun x=>SV.any (qB x)).flatMap Bnd.cells)],.agg [.int .u8 o,.str s,.sl none n1 c1,.sl none n2 c2]] H (.tup [.bool B,.int .i64 0]):=fun a b c H=>VDet.wk (e2 H) ⟨wk_agg ⟨Wk.refl _,Wk.refl _,wk_nils,Wk.refl _,wk_sl _ _ _,wk_sl _ _ _,wk_sl _ _ _,trivial⟩,Wk.refl _,trivial⟩
    have hX:(!(B==B))=false:=by cases B <;> rfl
    have hml:((fa.filter fun x=>SP.any (qF x)).flatMap Fct.cells).length=(fa.filter fun x=>SP.any (qF x)).length * 3:=flat_length fct_size _
    generalize (fa.filter fun x=>SP.any (qF x))=FA at *
    generalize (fu.filter fun x=>SF.any (qU x))=FU at *
    generalize (bi.filter fun x=>SV.any (qB x))=FB at *
    rcases Nat.eq_zero_or_pos FA.length with hz|hz
    ·(repeat' ((conv=>whnf);(first|(refine IfN.id ?_;first|refine IfN.ff hX ?_|refine IfN.not ?_|refine IfN.tt rfl ?_|refine IfN.dT (by omega) ?_|refine IfN.dF (by omega) ?_|fail)|(refine EqN.addN _ _ Cst.h Cst.h ?_ ?_;· omega)|(refine CallN.id ?_;first|refine CallN.det _ (e1 _) ?_|refine CallN.det _ (e2b _ _ _ _) ?_|fail)|refine DrawN.mk' [] ?_|fail)));all_goals (conv=>whnf)
     exact EndN.det trivial (Wk.refl _)
    ·obtain ⟨j,hjj,hj⟩:∃ j,wh % FA.length=j∧j<FA.length:=⟨_,rfl,Nat.mod_lt _ hz⟩
     have hjl:j+1≤FA.length:=hj
     have e3:=e3' j hj
     have e3w:∀ (v:AV),Wk v (.sl none (FA.eraseIdx j).length ((FA.eraseIdx j).flatMap Fct.cells))→∀ (b c:Option Nat) H,VDet Tryz.prog 18 [.agg [.int .u8 2,.int .i64 (n:Nat),.nils,.int .i64 0,v,.sl b FU.length (FU.flatMap Fnc.cells),.sl c FB.length (FB.flatMap Bnd.cells)],.agg [.int .u8 o,.str s,.sl none n1 c1,.sl none n2 c2]] H (.tup [.bool false,.int .i64 6]):=fun v hv b c H=>VDet.wk (e3 H) ⟨wk_agg ⟨Wk.refl _,Wk.refl _,wk_nils,Wk.refl _,hv,wk_sl _ _ _,wk_sl _ _ _,trivial⟩,Wk.refl _,trivial⟩
     have e3s:∀ (a:Option Nat) N X,N=(FA.eraseIdx j).length→X=(FA.eraseIdx j).flatMap Fct.cells→Wk (.sl a N X) (.sl none (FA.eraseIdx j).length ((FA.eraseIdx j).flatMap Fct.cells)):=fun a N X hN hX=>by
      rw [hN,hX]
      exact wk_sl _ _ _
     have hel:(FA.eraseIdx j).length=FA.length-1:=by rw [List.length_eraseIdx,if_pos hj]
     have hlt:∀ a b,a+b≤FA.length→(((FA.drop a).take b).flatMap Fct.cells).length=b * 3:=fun a b h=>by
      rw [flat_length fct_size,List.length_take,List.length_drop,Nat.min_eq_left (by omega)]
     have hfl:FA.length≤1000000:=by omega
     have hee:FA.eraseIdx j=((FA.drop 0).take (j-0))++((FA.drop (j+1)).take (FA.length-(j+1))):=by
      rw [List.eraseIdx_eq_take_drop_succ,List.drop_zero,Nat.sub_zero,List.take_of_length_le (i:=FA.length-(j+1)) (by rw [List.length_drop];exact Nat.le_refl _)]
     have hx3:([]++((FA.drop 0).take (j-0)).flatMap Fct.cells)++((FA.drop (j+1)).take (FA.length-(j+1))).flatMap Fct.cells=(FA.eraseIdx j).flatMap Fct.cells:=by
      rw [hee,List.flatMap_append,List.nil_append]
     rcases Nat.eq_zero_or_pos j with hj0|hj0
     ·subst hj0
      have hx2:[]++((FA.drop (0+1)).take (FA.length-(0+1))).flatMap Fct.cells=(FA.eraseIdx 0).flatMap Fct.cells:=by
       rw [← hx3]
       simp
      by_cases h1:FA.length=1
      ·have hnil:FA.eraseIdx 0=[]:=List.eq_nil_of_length_eq_zero (by omega)
       have hw0:Wk (.sx 0 []) (.sl none (FA.eraseIdx 0).length ((FA.eraseIdx 0).flatMap Fct.cells)):=by
        rw [hnil]
        exact wk_sx _ _
       (repeat' ((conv=>whnf);(first|(refine OrN.r ?_;(conv=>whnf);refine SideN.mk (by omega) ?_)|(refine IfN.id ?_;first|refine IfN.ff hX ?_|refine IfN.not ?_|refine IfN.tt rfl ?_|refine IfN.dT (by omega) ?_|refine IfN.dF (by omega) ?_|fail)|(refine EqN.id ?_;first|refine EqN.remC _ rfl rfl hjj ?_|(refine EqN.addN _ _ Cst.h Cst.h ?_ ?_;· omega)|refine EqN.i64 (by omega) ?_|fail)|(refine SideN.mk ?_ ?_;· first|kernel_rfl|omega|exact List.cons_ne_nil _ _|(simp;done)|(simp;omega)|exact trivial|assumption|fail)|refine NatN.mk _ rfl ?_|(refine CallN.id ?_;first|refine CallN.det _ (e1 _) ?_|refine CallN.det _ (e2b _ _ _ _) ?_|refine CallN.det _ (e3w _ hw0 _ _ _) ?_|fail)|refine SubN.flat fct_size (by omega) ?_|refine DrawN.mk' [] ?_|fail)));all_goals (conv=>whnf)
       exact EndN.det trivial (Wk.refl _)
      ·(repeat' ((conv=>whnf);(first|(refine OrN.r ?_;(conv=>whnf);refine SideN.mk (by omega) ?_)|(refine IfN.id ?_;first|refine IfN.ff hX ?_|refine IfN.not ?_|refine IfN.tt rfl ?_|refine IfN.dT (by omega) ?_|refine IfN.dF (by omega) ?_|fail)|(refine EqN.id ?_;first|refine EqN.remC _ rfl rfl hjj ?_|(refine EqN.addN _ _ Cst.h Cst.h ?_ ?_;· omega)|refine EqN.i64 (by omega) ?_|fail)|(refine SideN.mk ?_ ?_;· first|kernel_rfl|omega|exact List.cons_ne_nil _ _|(simp;done)|(simp;omega)|exact trivial|assumption|fail)|refine NatN.mk _ rfl ?_|(refine CallN.id ?_;first|refine CallN.det _ (e1 _) ?_|refine CallN.det _ (e2b _ _ _ _) ?_|refine CallN.det _ (e3w _ (e3s _ _ _ (by rw [hel];omega) hx2) _ _ _) ?_|fail)|refine SubN.flat fct_size (by omega) ?_|refine OrN.l ?_|refine SideN.mk ⟨by omega,rfl,hlt _ _ (by omega),by dsimp only;omega,by simp only [maxLen];omega⟩ ?_|refine DrawN.mk' [] ?_|fail)));all_goals (conv=>whnf)
       exact EndN.det trivial (Wk.refl _)
     ·(repeat' ((conv=>whnf);(first|(refine IfN.id ?_;first|refine IfN.ff hX ?_|refine IfN.not ?_|refine IfN.tt rfl ?_|refine IfN.dT (by omega) ?_|refine IfN.dF (by omega) ?_|fail)|(refine EqN.id ?_;first|refine EqN.remC _ rfl rfl hjj ?_|(refine EqN.addN _ _ Cst.h Cst.h ?_ ?_;· omega)|refine EqN.i64 (by omega) ?_|fail)|(refine SideN.mk ?_ ?_;· first|kernel_rfl|omega|exact List.cons_ne_nil _ _|(simp;done)|(simp;omega)|exact trivial|assumption|fail)|refine NatN.mk _ rfl ?_|(refine CallN.id ?_;first|refine CallN.det _ (e1 _) ?_|refine CallN.det _ (e2b _ _ _ _) ?_|refine CallN.det _ (e3w _ (e3s _ _ _ (by rw [hel];omega) hx3) _ _ _) ?_|fail)|refine SubN.flat fct_size (by omega) ?_|refine OrN.l ?_|refine SideN.mk ⟨by omega,rfl,hlt _ _ (by omega),by dsimp only;omega,by simp only [maxLen];omega⟩ ?_|refine SideN.mk ⟨rfl,fct_one _,hlt _ _ (by omega),by dsimp only;omega,by simp only [maxLen];omega⟩ ?_|refine PtrN.loc _ rfl ?_|refine DrawN.mk' [] ?_|fail)));all_goals (conv=>whnf)
      exact EndN.det trivial (Wk.refl _)
end Go.Proofs.YtgdmldelijeaoaaGreatDoor
/-! text DZ41 -/
namespace Go.Proofs.YtgdmldelijeaoaaGreatDoor
open Go.ChangeShapes Go.WideShapes Go.ChangeAt Go.RowKit Go.Vsi
theorem mrel_of {g:G} {W:World} {b:Nat} (hg:∀ b o,¬ g.own b o):∀ (l:List AV) (cs:List Value) (o:Nat),LRel g W l cs→(∀ (i:Nat) c,cs[i]? = some c→W.cell? ⟨b,o+i,.none⟩=some c)→MRel g W l b o
 | [],_,_,_,_=>trivial
 | v::l,cs,o,h,hc=>by
   simp only [LRel] at h
   obtain ⟨c,r,rfl,h1,h2⟩:=h
   refine ⟨⟨c,by simpa using hc 0 c rfl,h1,hg _ _⟩,?_⟩
   exact mrel_of hg l r (o+1) h2 fun i c' hi=>by
    have:=hc (i+1) c' (by simpa using hi)
    rwa [show o+(i+1)=o+1+i by omega] at this
theorem mone {W:World} {n:String} {gi:Nat} {ty:TypeId} {T:Ty} {D:DataW Unit} {cells:List AV} {g0:Nat} {t0:TypeId} {cs0:Array Value} {f0:Nat} {p0:List MemPlace}
  (hg:Tryz.prog.globalNamed n=some gi) (ht:(Tryz.prog.globals[gi]?).map (·.type)=some ty) (hty:TyOk Tryz.prog ty T) (hpl:PlTy T) (hD:∃ l',DatOf (H:=Unit) D l'∧l'=cells)
  (hg0:Tryz.prog.globalNamed n=some g0) (ht0:(Tryz.prog.globals[g0]?).map (·.type)=some t0) (hv0:W.var? Tryz.prog n=some cs0) (hd0:DataW.trod (fun _=>()) Tryz.prog W 0 (fun _=>true) false f0 t0 cs0.toList=some (D,p0)):MRel G.none W cells gi 0:=by
 obtain rfl:=Option.some.inj (hg.symm.trans hg0)
 obtain rfl:=Option.some.inj (ht.symm.trans ht0)
 obtain ⟨l,h1,h2⟩:=trod_dat (g:=G.none) _ hpl hty hd0
 obtain ⟨l',hl1,hl2⟩:=hD
 have hll:l=cells:=(DatOf.det h1 hl1).trans hl2
 rw [← hll]
 refine mrel_of (fun _ _ h=>h) l cs0.toList 0 h2 fun i c hi=>?_
 have:=World.var?_cell hg0 hv0 i
 rw [Nat.zero_add,this]
 simpa using hi
theorem gl_of_laid {W:World} (h:laidMetH Tryz.prog [("lyceum/syntax.rows",Rows.laid_lyceum_syntax_rows)] W):∀ p∈Glob.gl,MRel G.none W p.2 p.1 0:=by
 rw [MakeChecks.laidMetH_plain _ _ _ (by kernel_rfl)] at h
 obtain ⟨ps,⟨g0,t0,cs0,f0,p0,q0,hg0,ht0,hv0,hd0,_⟩,_⟩:=h
 have m0:MRel G.none W (Tryz.gl[0]).2 1 0:=mone (T:=repTy 17 (.pair .bool (.pair .bool (.pair (.int .u8) (.pair (.int .i64) (.pair (.int .i64) .unit)))))) (ty:=239) (by kernel_rfl) (by kernel_rfl) (tyOf_ok Tryz.T_ok 12 239 _ (by kernel_rfl)) (by simp [repTy,PlTy]) ⟨_,by unfold Rows.laid_lyceum_syntax_rows;repeat constructor,by kernel_rfl⟩ hg0 ht0 hv0 hd0
 intro p hp
 have hp0:p=Tryz.gl[0]:=by
  have:p∈Tryz.gl:=hp
  simpa [Tryz.gl] using this
 subst hp0
 exact m0
theorem u8_nat {n:Int} (h:(Lit.int .u8 n).wf=true):∃ m:Nat,n=m∧m≤255:=⟨n.toNat,by have:=wf_u8 h;omega,by have:=wf_u8 h;omega⟩
theorem u16_nat {n:Int} (h:(Lit.int .u16 n).wf=true):∃ m:Nat,n=m∧m≤65535:=⟨n.toNat,by have:=wf_u16 h;omega,by have:=wf_u16 h;omega⟩
theorem bytes_nat {l:List Int} (h:l.length≤maxLen∧∀ x∈l,(Lit.int .u8 x).wf=true):∃ c:List Nat,l=c.map (fun n:Nat=>(n:Int))∧c.length≤9223372036854775807∧∀ i,i<c.length→c.getD i 0≤255:=by
 refine ⟨l.map Int.toNat,?_,by simpa using maxLen_le h.1,fun i hi=>?_⟩
 ·rw [List.map_map]
  refine (List.map_id' l).symm.trans (List.map_congr_left fun x hx=>?_)
  have:=wf_u8 (h.2 x hx)
  simp only [Function.comp]
  omega
 ·have hi':i<l.length:=by simpa using hi
  have:=wf_u8 (h.2 _ (List.getElem_mem hi'))
  simp only [List.getD_eq_getElem?_getD,List.getElem?_map,List.getElem?_eq_getElem hi',Option.map_some,Option.getD_some]
  omega
theorem bytes_len (c:List Nat):List.length (α:=Ty.I (.int .u8)) (c.map fun n:Nat=>(n:Int))=c.length:=List.length_map ..
theorem bytes_enc (c:List Nat):List.flatMap (α:=Ty.I (.int .u8)) (Ty.enc (.int .u8)) (c.map fun n:Nat=>(n:Int))=c.flatMap fun n:Nat=>[.int .u8 (n:Int)]:=by
 induction c with
 | nil=>rfl
 | cons x c ih=>rw [List.flatMap_cons,← ih];rfl
theorem bytes_cast (c:List Nat) (p:AV→Prop) (h:p (.sl none c.length (c.flatMap fun n:Nat=>[.int .u8 (n:Int)]))):p (.sl none (List.length (α:=Ty.I (.int .u8)) (c.map fun n:Nat=>(n:Int))) (List.flatMap (α:=Ty.I (.int .u8)) (Ty.enc (.int .u8)) (c.map fun n:Nat=>(n:Int)))):=by
 rw [bytes_len,bytes_enc];exact h
def ty47w:Ty:=repTy 8 (.int .u16)
theorem words8 {x:ty47w.I} (h:ty47w.good x):∃ w:Nat→Nat,(∀ i,w i≤65535)∧ty47w.enc x=[.int .u16 (w 0:Nat),.int .u16 (w 1:Nat),.int .u16 (w 2:Nat),.int .u16 (w 3:Nat),.int .u16 (w 4:Nat),.int .u16 (w 5:Nat),.int .u16 (w 6:Nat),.int .u16 (w 7:Nat)]:=by
 obtain ⟨a0,e0,h0⟩:=u16_nat h.1
 obtain ⟨a1,e1,h1⟩:=u16_nat h.2.1
 obtain ⟨a2,e2,h2⟩:=u16_nat h.2.2.1
 obtain ⟨a3,e3,h3⟩:=u16_nat h.2.2.2.1
 obtain ⟨a4,e4,h4⟩:=u16_nat h.2.2.2.2.1
 obtain ⟨a5,e5,h5⟩:=u16_nat h.2.2.2.2.2.1
 obtain ⟨a6,e6,h6⟩:=u16_nat h.2.2.2.2.2.2.1
 obtain ⟨a7,e7,h7⟩:=u16_nat h.2.2.2.2.2.2.2.1
 refine ⟨fun i=>[a0,a1,a2,a3,a4,a5,a6,a7].getD i 0,fun i=>?_,?_⟩
 ·match i with
  | 0=>exact h0
  | 1=>exact h1
  | 2=>exact h2
  | 3=>exact h3
  | 4=>exact h4
  | 5=>exact h5
  | 6=>exact h6
  | 7=>exact h7
  | i+8=>exact Nat.zero_le _
 ·show [AV.int .u16 x.1,AV.int .u16 x.2.1,AV.int .u16 x.2.2.1,AV.int .u16 x.2.2.2.1,AV.int .u16 x.2.2.2.2.1,AV.int .u16 x.2.2.2.2.2.1,AV.int .u16 x.2.2.2.2.2.2.1,AV.int .u16 x.2.2.2.2.2.2.2.1]=[AV.int .u16 ((a0:Nat):Int),AV.int .u16 ((a1:Nat):Int),AV.int .u16 ((a2:Nat):Int),AV.int .u16 ((a3:Nat):Int),AV.int .u16 ((a4:Nat):Int),AV.int .u16 ((a5:Nat):Int),AV.int .u16 ((a6:Nat):Int),AV.int .u16 ((a7:Nat):Int)]
  rw [e0,e1,e2,e3,e4,e5,e6,e7]
end Go.Proofs.YtgdmldelijeaoaaGreatDoor
