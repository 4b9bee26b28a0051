/- A text of the proof: the parts PJ41, PK41, PL41, PN41, BG41, BH41, BJ41, BK41, BL41, BN41, PO41, PQ41, PR41, PS41, PT41, BQ41, PU41, BS41. -/
import Derived.Test.YtgdmldelijeaoaaGreatDoorK11
set_option linter.unusedSimpArgs false
set_option linter.unusedVariables false
/-! text PJ41 -/
namespace Go.Proofs.YtgdmldelijeaoaaGreatDoor
open Go.Vsi
set_option maxHeartbeats 4000000
theorem len_sub {α:Type}:∀ (M l:List α),l.Nodup→(∀ x∈l,x∈M)→l.length≤M.length:=by
 classical
 intro M
 induction M with
 | nil =>
   intro l _ h
   cases l with
   | nil=>exact Nat.le_refl _
   | cons x l=>exact absurd (h x List.mem_cons_self) (by simp)
 | cons a M ih =>
   intro l hn h
   by_cases ha:a∈l
   ·have h1:=ih (l.erase a) (hn.erase a) fun x hx=>by
     have hx:=(List.Nodup.mem_erase_iff hn).1 hx
     rcases List.mem_cons.1 (h x hx.2) with e|e
     ·exact absurd e hx.1
     ·exact e
    rw [List.length_erase_of_mem ha] at h1
    rw [List.length_cons]
    omega
   ·have h1:=ih l hn fun x hx=>by
     rcases List.mem_cons.1 (h x hx) with e|e
     ·exact absurd (e▸hx) ha
     ·exact e
    rw [List.length_cons]
    omega
def inP (s:ByteArray) (a:Int):Prop:=(s=nP∧a=1)∨(s=nQ∧a=0)∨(s=nR∧a=2)
def inC (s:ByteArray) (a:Int):Prop:=(s=nA∧a=0)∨(s=nF∧a=1)
def inV (x:ByteArray):Prop:=x=nX∨x=nY∨x=nZ
structure symF (q:Fq):Prop where
 p:∀ s a,q.hasP s a→inP s a
 c:∀ s a,q.hasC s a→inC s a
 v:∀ x,q.free x→inV x
theorem bTm_std:∀ k i:Nat,stdT (bTmI k i)
 | k,0=>by
   have hk:k % 4<4:=Nat.mod_lt _ (by decide)
   have:k % 4=0∨k % 4=1∨k % 4=2∨k % 4=3:=by omega
   unfold bTmI bts
   rcases this with e|e|e|e <;> rw [e]
   ·show isVar nX=true
    kernel_rfl
   ·show isVar nY=true
    kernel_rfl
   ·show isVar nZ=true
    kernel_rfl
   ·show isFun nA=true
    kernel_rfl
 | k,i+1=>⟨by kernel_rfl,bTm_std k i⟩
theorem bTm_w:∀ k i:Nat,wT (bTmI k i)=i+1
 | k,0=>by
   have hk:k % 4<4:=Nat.mod_lt _ (by decide)
   have:k % 4=0∨k % 4=1∨k % 4=2∨k % 4=3:=by omega
   unfold bTmI bts
   rcases this with e|e|e|e <;> rw [e] <;> rfl
 | k,i+1=>by
   show wT (bTmI k i)+1=_
   rw [bTm_w k i]
theorem bTm_w3 (k:Nat):wT (bTm k)≤3:=by
 unfold bTm
 rw [bTm_w]
 have:=Nat.mod_lt (k / 4) (show 0<3 by omega)
 omega
theorem bTm_C:∀ k i:Nat,∀ s a,(bTmI k i).hasC s a→inC s a
 | k,0,s,a,h=>by
   have hk:k % 4<4:=Nat.mod_lt _ (by decide)
   have:k % 4=0∨k % 4=1∨k % 4=2∨k % 4=3:=by omega
   unfold bTmI bts at h
   rcases this with e|e|e|e <;> rw [e] at h
   ·exact h.elim
   ·exact h.elim
   ·exact h.elim
   ·exact .inl ⟨Eq.symm h.1,h.2⟩
 | k,i+1,s,a,h=>by
   rcases h with h|h
   ·exact .inr ⟨Eq.symm h.1,h.2⟩
   ·exact bTm_C k i s a h
theorem ltr_in (j:Nat):inV (ltr j):=by
 have hk:j % 3<3:=Nat.mod_lt _ (by decide)
 have:j % 3=0∨j % 3=1∨j % 3=2:=by omega
 unfold ltr xyz
 rcases this with e|e|e <;> rw [e]
 ·exact .inl rfl
 ·exact .inr (.inl rfl)
 ·exact .inr (.inr rfl)
theorem inV_var {x:ByteArray} (h:inV x):isVar x=true:=by
 rcases h with rfl|rfl|rfl <;> kernel_rfl
theorem blt_std (l:List Nat):stdF (bltF l):=blt_all (Q:=stdF) trivial
 (fun k=>⟨by kernel_rfl,by show 1≤2;omega,fun t ht=>by rw [List.mem_singleton.1 ht];exact ⟨bTm_std _ _,bTm_w3 k⟩⟩)
 ⟨by kernel_rfl,Nat.zero_le _,fun t ht=>by cases ht⟩
 (fun k j=>⟨by kernel_rfl,Nat.le_refl _,fun t ht=>by
  rcases List.mem_cons.1 ht with h|h
  ·rw [h];exact ⟨bTm_std _ _,bTm_w3 k⟩
  ·rw [List.mem_singleton.1 h];exact ⟨bTm_std _ _,bTm_w3 j⟩⟩)
 (fun _ h=>h) (fun _ _ _ h1 h2 h3=>⟨h1,h2,h3⟩) (fun _ j _ h1 h2=>⟨h1,inV_var (ltr_in j),h2⟩) l
theorem blt_sym (l:List Nat):symF (bltF l):=blt_all (Q:=symF)
 ⟨fun _ _ h=>h.elim,fun _ _ h=>h.elim,fun _ h=>h.elim⟩
 (fun k=>⟨fun s a h=>.inl ⟨Eq.symm h.1,h.2⟩,fun s a ⟨t,ht,h⟩=>by rw [List.mem_singleton.1 ht] at h;exact bTm_C _ _ _ _ h,fun x ⟨t,ht,h⟩=>by rw [List.mem_singleton.1 ht] at h;exact bTm_noV _ _ _ h⟩)
 ⟨fun s a h=>.inr (.inl ⟨Eq.symm h.1,h.2⟩),fun s a ⟨t,ht,h⟩=>(by cases ht),fun x ⟨t,ht,h⟩=>by cases ht⟩
 (fun k j=>⟨fun s a h=>.inr (.inr ⟨Eq.symm h.1,h.2⟩),fun s a ⟨t,ht,h⟩=>by
  rcases List.mem_cons.1 ht with e|e
  ·rw [e] at h;exact bTm_C _ _ _ _ h
  ·rw [List.mem_singleton.1 e] at h;exact bTm_C _ _ _ _ h,fun x ⟨t,ht,h⟩=>by
  rcases List.mem_cons.1 ht with e|e
  ·rw [e] at h;exact bTm_noV _ _ _ h
  ·rw [List.mem_singleton.1 e] at h;exact bTm_noV _ _ _ h⟩)
 (fun _ h=>⟨h.p,h.c,h.v⟩)
 (fun _ _ _ _ h1 h2=>⟨fun s a h=>h.elim (h1.p s a) (h2.p s a),fun s a h=>h.elim (h1.c s a) (h2.c s a),fun x h=>h.elim (h1.v x) (h2.v x)⟩)
 (fun _ _ _ _ h=>⟨h.p,h.c,fun x q=>h.v x q.1⟩) l
theorem std_ok:∀ p:Fq,stdF p→p.Ok
 | .at_ _ _,h=>h.2.1
 | .fa,_=>trivial
 | .f1 a,h=>std_ok a h
 | .f2 _ a b,h=>⟨h.1,std_ok a h.2.1,std_ok b h.2.2⟩
 | .qn _ _ a,h=>⟨h.1,std_ok a h.2.2⟩
theorem name_sz {p q:UInt8→Bool} {s:ByteArray} (h:nameB p q s=true):s.size≤maxLen:=by
 unfold nameB at h
 rw [Bool.and_eq_true,decide_eq_true_eq] at h
 exact Nat.le_trans h.1.2 (by decide)
theorem good_t:∀ t:Tq,stdT t→t.tm.good
 | .vr s,h=>⟨name_sz h,Nat.zero_le _,trivial⟩
 | .cn s,h=>⟨name_sz h,Nat.zero_le _,trivial⟩
 | .ap s t,h=>⟨name_sz h.1,by show 1≤maxLen;decide,good_t t h.2,trivial⟩
theorem good_f:∀ p:Fq,stdF p→p.fo.good
 | .at_ s l,h=>⟨by decide,name_sz h.1,by rw [List.length_map];exact Nat.le_trans h.2.1 (by decide),Tm.goodL_of _ fun x hx=>by
   obtain ⟨t,ht,rfl⟩:=List.mem_map.1 hx
   exact good_t t (h.2.2 t ht).1,Nat.zero_le _,trivial⟩
 | .fa,_=>⟨by decide,by decide,Nat.zero_le _,trivial,Nat.zero_le _,trivial⟩
 | .f1 a,h=>⟨by decide,by decide,Nat.zero_le _,trivial,by show 1≤maxLen;decide,good_f a h,trivial⟩
 | .f2 k a b,h=>⟨by rcases h.1 with rfl|rfl|rfl|rfl <;> decide,by decide,Nat.zero_le _,trivial,by show 2≤maxLen;decide,good_f a h.2.1,good_f b h.2.2,trivial⟩
 | .qn k x a,h=>⟨by rcases h.1 with rfl|rfl <;> decide,name_sz h.2.1,Nat.zero_le _,trivial,by show 1≤maxLen;decide,good_f a h.2.2,trivial⟩
theorem tmR_ok:∀ t:Tq,tmR t.tm=true
 | .vr _=>rfl
 | .cn _=>rfl
 | .ap s t=>by
   show (decide (1≤1)&&(tmR t.tm&&true))=true
   rw [tmR_ok t]
   rfl
theorem foR_ok:∀ p:Fq,p.Ok→foR p.fo=true
 | .at_ s l,h=>by
   show (decide (1≤1∧1≤9∧(l.map Tq.tm).length≤2)&&(tmRs (l.map Tq.tm)&&true))=true
   rw [List.length_map,decide_eq_true ⟨by omega,by omega,h⟩,tmRs_all,List.all_eq_true.2 fun x hx=>by
    obtain ⟨t,-,rfl⟩:=List.mem_map.1 hx
    exact tmR_ok t]
   rfl
 | .fa,_=>rfl
 | .f1 a,h=>by
   show (decide (1≤3∧3≤9∧0≤2)&&(true&&(foR a.fo&&true)))=true
   rw [foR_ok a h]
   rfl
 | .f2 k a b,h=>by
   show (decide (1≤k∧k≤9∧0≤2)&&(true&&(foR a.fo&&(foR b.fo&&true))))=true
   have hk:=h.1
   rw [foR_ok a h.2.1,foR_ok b h.2.2,decide_eq_true (by omega)]
   rfl
 | .qn k x a,h=>by
   show (decide (1≤k∧k≤9∧0≤2)&&(true&&(foR a.fo&&true)))=true
   have hk:=h.1
   rw [foR_ok a h.2,decide_eq_true (by omega)]
   rfl
mutual
theorem frT_nd (c:ByteArray→Int):∀ (t:Tm) (ns:List ByteArray),ns.Nodup→(frT c ns t).Nodup
 | .mk v s l,ns,h=>by
   rw [frT_mk]
   refine frTs_nd c l _ ?_
   split
   ·exact nd_insG _ _ h
   ·exact h
theorem frTs_nd (c:ByteArray→Int):∀ (l:List Tm) (ns:List ByteArray),ns.Nodup→(frTs c ns l).Nodup
 | [],ns,h=>by rw [frTs_nil];exact h
 | x::l,ns,h=>by rw [frTs_cons];exact frTs_nd c l _ (frT_nd c x ns h)
end
mutual
theorem frF_nd:∀ (x:Fo) (c:ByteArray→Int) (ns:List ByteArray),ns.Nodup→(frF c ns x).Nodup
 | .mk op s l m,c,ns,h=>by
   rw [frF_mk]
   exact frFs_nd m _ _ (frTs_nd c l ns h)
theorem frFs_nd:∀ (l:List Fo) (c:ByteArray→Int) (ns:List ByteArray),ns.Nodup→(frFs c ns l).Nodup
 | [],c,ns,h=>by rw [frFs_nil];exact h
 | x::l,c,ns,h=>by rw [frFs_cons];exact frFs_nd l c _ (frF_nd x c ns h)
end
theorem freeF_nd (f:Fo):(freeF f).Nodup:=frF_nd f _ _ List.nodup_nil
structure Gd (p:Fq):Prop where
 std:stdF p
 dep:dF p≤30
 nod:msF 1 0 p≤55
 sym:symF p
theorem Gd.right {p:Fq} (h:Gd p):rightF p.fo=true:=by
 have h1:=wF_le p h.std
 have h2:=h.nod
 have h3:=h.dep
 unfold rightF
 rw [jF_ok p 1 400 h.std (by omega) (by omega),foR_ok p (std_ok p h.std)]
 rfl
theorem predY_len {p:Fq} (h:Gd p):(predY p.fo).length≤3:=by
 refine len_sub [(nP,1),(nQ,0),(nR,2)] _ (predY_nd _) fun x hx=>?_
 have h1:=(mem_predY (std_ok p h.std) x).1 hx
 obtain ⟨s,a⟩:=x
 rcases h.sym.p _ _ h1 with ⟨e1,e2⟩|⟨e1,e2⟩|⟨e1,e2⟩
 ·have e1:s=nP:=e1
  have e2:((a:Nat):Int)=1:=e2
  have e3:a=1:=by omega
  rw [e1,e3];simp
 ·have e1:s=nQ:=e1
  have e2:((a:Nat):Int)=0:=e2
  have e3:a=0:=by omega
  rw [e1,e3];simp
 ·have e1:s=nR:=e1
  have e2:((a:Nat):Int)=2:=e2
  have e3:a=2:=by omega
  rw [e1,e3];simp
theorem funY_len {p:Fq} (h:Gd p):(funY p.fo).length≤2:=by
 refine len_sub [(nA,0),(nF,1)] _ (funY_nd _) fun x hx=>?_
 have h1:=(mem_funY (std_ok p h.std) x).1 hx
 obtain ⟨s,a⟩:=x
 rcases h.sym.c _ _ h1 with ⟨e1,e2⟩|⟨e1,e2⟩
 ·have e1:s=nA:=e1
  have e2:((a:Nat):Int)=0:=e2
  have e3:a=0:=by omega
  rw [e1,e3];simp
 ·have e1:s=nF:=e1
  have e2:((a:Nat):Int)=1:=e2
  have e3:a=1:=by omega
  rw [e1,e3];simp
theorem freeF_len {p:Fq} (h:Gd p):(freeF p.fo).length≤3:=by
 refine len_sub [nX,nY,nZ] _ (freeF_nd _) fun x hx=>?_
 rcases h.sym.v _ ((mem_freeF (std_ok p h.std) x).1 hx) with e|e|e <;> rw [e] <;> simp
theorem Gd.sm {p:Fq} (h:Gd p):FqSm p :=
 ⟨good_f p h.std,std_ok p h.std,Nat.le_trans (predY_len h) (by omega),Nat.le_trans (funY_len h) (by omega),Nat.le_trans (freeF_len h) (by omega)⟩
structure HasAll (m:Mdl):Prop where
 p:∀ s a,inP s a→hasFct m s a
 c:∀ s a,inC s a→hasFnc m s a
 v:∀ x,inV x→hasBnd m x
theorem madW_all (n:Nat) (w:Nat→Nat):HasAll (madW n w):=by
 refine ⟨fun s a h=>?_,fun s a h=>?_,fun x h=>?_⟩
 ·refine List.find?_isSome.2 ?_
  rcases h with ⟨rfl,rfl⟩|⟨rfl,rfl⟩|⟨rfl,rfl⟩
  ·exact ⟨⟨nP,1,(w 0 % 2 ^ n:Nat)⟩,List.mem_cons_self,by simp [factP]⟩
  ·exact ⟨⟨nQ,0,(w 1 % 2:Nat)⟩,List.mem_cons_of_mem _ List.mem_cons_self,by simp [factP]⟩
  ·exact ⟨⟨nR,2,(w 2 % 2 ^ (n * n):Nat)⟩,List.mem_cons_of_mem _ (List.mem_cons_of_mem _ List.mem_cons_self),by simp [factP]⟩
 ·refine List.find?_isSome.2 ?_
  rcases h with ⟨rfl,rfl⟩|⟨rfl,rfl⟩
  ·exact ⟨⟨nA,0,[(w 3 % n:Nat)]⟩,List.mem_cons_self,by simp [funcP]⟩
  ·exact ⟨⟨nF,1,(List.range n).map fun i=>((w 4 / 2 ^ (4 * i) % 16 % n:Nat):Int)⟩,List.mem_cons_of_mem _ List.mem_cons_self,by simp [funcP]⟩
 ·refine List.find?_isSome.2 ?_
  rcases h with rfl|rfl|rfl
  ·exact ⟨⟨nX,(w 5 % n:Nat)⟩,List.mem_cons_self,by simp [bindP]⟩
  ·exact ⟨⟨nY,(w 6 % n:Nat)⟩,List.mem_cons_of_mem _ List.mem_cons_self,by simp [bindP]⟩
  ·exact ⟨⟨nZ,(w 7 % n:Nat)⟩,List.mem_cons_of_mem _ (List.mem_cons_of_mem _ List.mem_cons_self),by simp [bindP]⟩
theorem Gd.has {p:Fq} (h:Gd p) {m:Mdl} (ha:HasAll m):hasB m (sigF p.fo)=true:=by
 have hok:=std_ok p h.std
 unfold hasB
 rw [Bool.and_eq_true,Bool.and_eq_true,List.all_eq_true,List.all_eq_true,List.all_eq_true]
 refine ⟨fun x hx=>?_,fun x hx=>?_,fun x hx=>?_⟩
 ·obtain ⟨y,hy,rfl⟩:=List.mem_map.1 hx
  exact ha.p _ _ (h.sym.p _ _ ((mem_predY hok y).1 ((sortY_perm _).mem_iff.1 hy)))
 ·obtain ⟨y,hy,rfl⟩:=List.mem_map.1 hx
  exact ha.c _ _ (h.sym.c _ _ ((mem_funY hok y).1 ((sortY_perm _).mem_iff.1 hy)))
 ·exact ha.v _ (h.sym.v _ ((mem_freeF hok x).1 ((sortB_perm _).mem_iff.1 hx)))
theorem blt_gd (l:List Nat):Gd (bltF l):=⟨blt_std l,Nat.le_trans (blt_dep l) (by omega),Nat.le_trans (blt_nodes l) (by omega),blt_sym l⟩
end Go.Proofs.YtgdmldelijeaoaaGreatDoor
/-! text PK41 -/
namespace Go.Proofs.YtgdmldelijeaoaaGreatDoor
open Go.Vsi
set_option maxHeartbeats 4000000
end Go.Proofs.YtgdmldelijeaoaaGreatDoor
/-! text PL41 -/
namespace Go.Proofs.YtgdmldelijeaoaaGreatDoor
open Go.Vsi
set_option maxHeartbeats 4000000
end Go.Proofs.YtgdmldelijeaoaaGreatDoor
/-! text PN41 -/
namespace Go.Proofs.YtgdmldelijeaoaaGreatDoor
open Go.Vsi
set_option maxHeartbeats 4000000
end Go.Proofs.YtgdmldelijeaoaaGreatDoor
/-! text BG41 -/
namespace Go.Proofs.YtgdmldelijeaoaaGreatDoor
open Go.Vsi
set_option maxHeartbeats 4000000
set_option linter.unusedSimpArgs false
attribute [local irreducible] VW VCall VO bits
theorem has_mk {m:Mdl} {p:Fq} (hok:p.Ok) (h1:∀ s a,p.hasP s a→hasFct m s a) (h2:∀ s a,p.hasC s a→hasFnc m s a) (h3:∀ x,p.free x→hasBnd m x):hasB m (sigF p.fo)=true:=by
 unfold hasB
 rw [Bool.and_eq_true,Bool.and_eq_true,List.all_eq_true,List.all_eq_true,List.all_eq_true]
 refine ⟨fun x hx=>?_,fun x hx=>?_,fun x hx=>?_⟩
 ·obtain ⟨y,hy,rfl⟩:=List.mem_map.1 hx
  exact h1 _ _ ((mem_predY hok y).1 ((sortY_perm _).mem_iff.1 hy))
 ·obtain ⟨y,hy,rfl⟩:=List.mem_map.1 hx
  exact h2 _ _ ((mem_funY hok y).1 ((sortY_perm _).mem_iff.1 hy))
 ·exact h3 _ ((mem_freeF hok x).1 ((sortB_perm _).mem_iff.1 hx))
theorem evalG_c (m:Mdl) (hm:m.Sm) (hn:m.Nm) (hva:validM m=true) (p:Fq) (hp:Gd p) (hr:rankF p≤6) (hh:hasB m (sigF p.fo)=true) (H:Heap):VDet Tryz.prog 18 [.agg m.cells,.agg p.fo.cells] H (.tup [.bool (hv m p (bindF m)),.int .i64 0]):=by
 have:=eval_c m hm hn p hp.sm hva hp.right H
 rwa [if_neg (by omega),if_pos hh] at this
def mAw:Mdl:=⟨2,2,[],0,[⟨nR,2,6⟩],[⟨nF,1,[1,0]⟩],[⟨nX,1⟩]⟩
theorem mAw_sm:mAw.Sm:=⟨by decide,by decide,by decide,by decide,fun f hf=>by rw [List.mem_singleton.1 hf];decide⟩
theorem mAw_nm:mAw.Nm:=⟨fun f hf=>by rw [List.mem_singleton.1 hf];decide,fun f hf=>by rw [List.mem_singleton.1 hf];decide,fun f hf=>by rw [List.mem_singleton.1 hf];decide⟩
theorem mAw_v:validM mAw=true:=by kernel_rfl
def aw1:Fq:=.qn 8 nX (.qn 9 nY (.at_ nR [.vr nX,.vr nY]))
def aw2:Fq:=.qn 9 nY (.qn 8 nX (.at_ nR [.vr nX,.vr nY]))
def aw3:Fq:=.qn 8 nX (.at_ nR [.vr nX,.ap nF (.vr nX)])
def aw4:Fq:=.at_ nR [.vr nX,.ap nF (.ap nF (.vr nX))]
theorem awR {s:ByteArray} {a:Int} (h:nR=s∧a=2):inP s a∧hasFct mAw s a:=by
 obtain ⟨rfl,rfl⟩:=h
 exact ⟨.inr (.inr ⟨rfl,rfl⟩),by show (mAw.facts.find? (factP nR 2)).isSome=true;kernel_rfl⟩
theorem awF {s:ByteArray} {a:Int} (h:nF=s∧a=1):inC s a∧hasFnc mAw s a:=by
 obtain ⟨rfl,rfl⟩:=h
 exact ⟨.inr ⟨rfl,rfl⟩,by show (mAw.funcs.find? (funcP nF 1)).isSome=true;kernel_rfl⟩
theorem awX {x:ByteArray} (h:nX=x):inV x∧hasBnd mAw x:=by
 subst h
 exact ⟨.inl rfl,by show (mAw.binds.find? (bindP nX)).isSome=true;kernel_rfl⟩
theorem aw1_std:stdF aw1:=⟨.inl rfl,by kernel_rfl,.inr rfl,by kernel_rfl,by kernel_rfl,by decide,fun t ht=>by
  rcases List.mem_cons.1 ht with h|h
  ·rw [h];exact ⟨by show isVar nX=true;kernel_rfl,by decide⟩
  ·rw [List.mem_singleton.1 h];exact ⟨by show isVar nY=true;kernel_rfl,by decide⟩⟩
theorem aw1_p (s:ByteArray) (a:Int) (h:aw1.hasP s a):nR=s∧a=2:=h
theorem aw1_c (s:ByteArray) (a:Int) (h:aw1.hasC s a):nF=s∧a=1:=by
 obtain ⟨t,ht,h⟩:=h
 rcases List.mem_cons.1 ht with e|e
 ·rw [e] at h;exact h.elim
 ·rw [List.mem_singleton.1 e] at h
  exact h.elim
theorem aw1_v (x:ByteArray) (h:aw1.free x):nX=x:=by
 obtain ⟨⟨⟨t,ht,h⟩,h1⟩,h2⟩:=h
 rcases List.mem_cons.1 ht with e|e
 ·rw [e] at h;exact h
 ·rw [List.mem_singleton.1 e] at h;exact absurd (Eq.symm h) h1
theorem aw1_gd:Gd aw1:=⟨aw1_std,by decide,by decide,fun s a h=>(awR (aw1_p s a h)).1,fun s a h=>(awF (aw1_c s a h)).1,fun x h=>(awX (aw1_v x h)).1⟩
theorem aw1_e (H:Heap):VDet Tryz.prog 18 [.agg [.int .u8 2,.int .i64 2,.nils,.int .i64 0,.sx 1 [.str nR,.int .i64 2,.int .i64 6],.sx 1 [.str nF,.int .i64 1,.sx 2 [.int .i64 1,.int .i64 0]],.sx 1 [.str nX,.int .i64 1]],.agg [.int .u8 8,.str nX,.sl none 0 [],.sl none 1 [.int .u8 9,.str nY,.sl none 0 [],.sl none 1 [.int .u8 1,.str nR,.sl none 2 [.bool true,.str nX,.sl none 0 [],.bool true,.str nY,.sl none 0 []],.sl none 0 []]]]] H (.tup [.bool true,.int .i64 0]):=by
 have h:=evalG_c mAw mAw_sm mAw_nm mAw_v aw1 aw1_gd (by decide) (has_mk (std_ok _ aw1_std) (fun s a h=>(awR (aw1_p s a h)).2) (fun s a h=>(awF (aw1_c s a h)).2) fun x h=>(awX (aw1_v x h)).2) H
 have hb:hv mAw aw1 (bindF mAw)=true:=by kernel_rfl
 rw [hb] at h
 exact VDet.wk h ⟨wk_agg ⟨Wk.refl _,Wk.refl _,wk_nils,Wk.refl _,wk_sx _ _,wk_sxL ⟨Wk.refl _,Wk.refl _,wk_sx _ _,trivial⟩,wk_sx _ _,trivial⟩,Wk.refl _,trivial⟩
theorem aw2_std:stdF aw2:=⟨.inr rfl,by kernel_rfl,.inl rfl,by kernel_rfl,by kernel_rfl,by decide,fun t ht=>by
  rcases List.mem_cons.1 ht with h|h
  ·rw [h];exact ⟨by show isVar nX=true;kernel_rfl,by decide⟩
  ·rw [List.mem_singleton.1 h];exact ⟨by show isVar nY=true;kernel_rfl,by decide⟩⟩
theorem aw2_p (s:ByteArray) (a:Int) (h:aw2.hasP s a):nR=s∧a=2:=h
theorem aw2_c (s:ByteArray) (a:Int) (h:aw2.hasC s a):nF=s∧a=1:=by
 obtain ⟨t,ht,h⟩:=h
 rcases List.mem_cons.1 ht with e|e
 ·rw [e] at h;exact h.elim
 ·rw [List.mem_singleton.1 e] at h
  exact h.elim
theorem aw2_v (x:ByteArray) (h:aw2.free x):nX=x:=by
 obtain ⟨⟨⟨t,ht,h⟩,h2⟩,h1⟩:=h
 rcases List.mem_cons.1 ht with e|e
 ·rw [e] at h;exact h
 ·rw [List.mem_singleton.1 e] at h;exact absurd (Eq.symm h) h1
theorem aw2_gd:Gd aw2:=⟨aw2_std,by decide,by decide,fun s a h=>(awR (aw2_p s a h)).1,fun s a h=>(awF (aw2_c s a h)).1,fun x h=>(awX (aw2_v x h)).1⟩
theorem aw2_e (H:Heap):VDet Tryz.prog 18 [.agg [.int .u8 2,.int .i64 2,.nils,.int .i64 0,.sx 1 [.str nR,.int .i64 2,.int .i64 6],.sx 1 [.str nF,.int .i64 1,.sx 2 [.int .i64 1,.int .i64 0]],.sx 1 [.str nX,.int .i64 1]],.agg [.int .u8 9,.str nY,.sl none 0 [],.sl none 1 [.int .u8 8,.str nX,.sl none 0 [],.sl none 1 [.int .u8 1,.str nR,.sl none 2 [.bool true,.str nX,.sl none 0 [],.bool true,.str nY,.sl none 0 []],.sl none 0 []]]]] H (.tup [.bool false,.int .i64 0]):=by
 have h:=evalG_c mAw mAw_sm mAw_nm mAw_v aw2 aw2_gd (by decide) (has_mk (std_ok _ aw2_std) (fun s a h=>(awR (aw2_p s a h)).2) (fun s a h=>(awF (aw2_c s a h)).2) fun x h=>(awX (aw2_v x h)).2) H
 have hb:hv mAw aw2 (bindF mAw)=false:=by kernel_rfl
 rw [hb] at h
 exact VDet.wk h ⟨wk_agg ⟨Wk.refl _,Wk.refl _,wk_nils,Wk.refl _,wk_sx _ _,wk_sxL ⟨Wk.refl _,Wk.refl _,wk_sx _ _,trivial⟩,wk_sx _ _,trivial⟩,Wk.refl _,trivial⟩
theorem aw3_std:stdF aw3:=⟨.inl rfl,by kernel_rfl,by kernel_rfl,by decide,fun t ht=>by
  rcases List.mem_cons.1 ht with h|h
  ·rw [h];exact ⟨by show isVar nX=true;kernel_rfl,by decide⟩
  ·rw [List.mem_singleton.1 h];exact ⟨⟨by kernel_rfl,by show isVar nX=true;kernel_rfl⟩,by decide⟩⟩
theorem aw3_p (s:ByteArray) (a:Int) (h:aw3.hasP s a):nR=s∧a=2:=h
theorem aw3_c (s:ByteArray) (a:Int) (h:aw3.hasC s a):nF=s∧a=1:=by
 obtain ⟨t,ht,h⟩:=h
 rcases List.mem_cons.1 ht with e|e
 ·rw [e] at h;exact h.elim
 ·rw [List.mem_singleton.1 e] at h
  exact h.elim id fun h=>h.elim
theorem aw3_v (x:ByteArray) (h:aw3.free x):nX=x:=by
 obtain ⟨⟨t,ht,h⟩,h2⟩:=h
 rcases List.mem_cons.1 ht with e|e
 ·rw [e] at h;exact h
 ·rw [List.mem_singleton.1 e] at h;exact h
theorem aw3_gd:Gd aw3:=⟨aw3_std,by decide,by decide,fun s a h=>(awR (aw3_p s a h)).1,fun s a h=>(awF (aw3_c s a h)).1,fun x h=>(awX (aw3_v x h)).1⟩
theorem aw3_e (H:Heap):VDet Tryz.prog 18 [.agg [.int .u8 2,.int .i64 2,.nils,.int .i64 0,.sx 1 [.str nR,.int .i64 2,.int .i64 6],.sx 1 [.str nF,.int .i64 1,.sx 2 [.int .i64 1,.int .i64 0]],.sx 1 [.str nX,.int .i64 1]],.agg [.int .u8 8,.str nX,.sl none 0 [],.sl none 1 [.int .u8 1,.str nR,.sl none 2 [.bool true,.str nX,.sl none 0 [],.bool false,.str nF,.sl none 1 [.bool true,.str nX,.sl none 0 []]],.sl none 0 []]]] H (.tup [.bool true,.int .i64 0]):=by
 have h:=evalG_c mAw mAw_sm mAw_nm mAw_v aw3 aw3_gd (by decide) (has_mk (std_ok _ aw3_std) (fun s a h=>(awR (aw3_p s a h)).2) (fun s a h=>(awF (aw3_c s a h)).2) fun x h=>(awX (aw3_v x h)).2) H
 have hb:hv mAw aw3 (bindF mAw)=true:=by kernel_rfl
 rw [hb] at h
 exact VDet.wk h ⟨wk_agg ⟨Wk.refl _,Wk.refl _,wk_nils,Wk.refl _,wk_sx _ _,wk_sxL ⟨Wk.refl _,Wk.refl _,wk_sx _ _,trivial⟩,wk_sx _ _,trivial⟩,Wk.refl _,trivial⟩
theorem aw4_std:stdF aw4:=⟨by kernel_rfl,by decide,fun t ht=>by
  rcases List.mem_cons.1 ht with h|h
  ·rw [h];exact ⟨by show isVar nX=true;kernel_rfl,by decide⟩
  ·rw [List.mem_singleton.1 h];exact ⟨⟨by kernel_rfl,by kernel_rfl,by show isVar nX=true;kernel_rfl⟩,by decide⟩⟩
theorem aw4_p (s:ByteArray) (a:Int) (h:aw4.hasP s a):nR=s∧a=2:=h
theorem aw4_c (s:ByteArray) (a:Int) (h:aw4.hasC s a):nF=s∧a=1:=by
 obtain ⟨t,ht,h⟩:=h
 rcases List.mem_cons.1 ht with e|e
 ·rw [e] at h;exact h.elim
 ·rw [List.mem_singleton.1 e] at h
  exact h.elim id fun h=>h.elim id fun h=>h.elim
theorem aw4_v (x:ByteArray) (h:aw4.free x):nX=x:=by
 obtain ⟨t,ht,h⟩:=h
 rcases List.mem_cons.1 ht with e|e
 ·rw [e] at h;exact h
 ·rw [List.mem_singleton.1 e] at h;exact h
theorem aw4_gd:Gd aw4:=⟨aw4_std,by decide,by decide,fun s a h=>(awR (aw4_p s a h)).1,fun s a h=>(awF (aw4_c s a h)).1,fun x h=>(awX (aw4_v x h)).1⟩
theorem aw4_e (H:Heap):VDet Tryz.prog 18 [.agg [.int .u8 2,.int .i64 2,.nils,.int .i64 0,.sx 1 [.str nR,.int .i64 2,.int .i64 6],.sx 1 [.str nF,.int .i64 1,.sx 2 [.int .i64 1,.int .i64 0]],.sx 1 [.str nX,.int .i64 1]],.agg [.int .u8 1,.str nR,.sl none 2 [.bool true,.str nX,.sl none 0 [],.bool false,.str nF,.sl none 1 [.bool false,.str nF,.sl none 1 [.bool true,.str nX,.sl none 0 []]]],.sl none 0 []]] H (.tup [.bool false,.int .i64 0]):=by
 have h:=evalG_c mAw mAw_sm mAw_nm mAw_v aw4 aw4_gd (by decide) (has_mk (std_ok _ aw4_std) (fun s a h=>(awR (aw4_p s a h)).2) (fun s a h=>(awF (aw4_c s a h)).2) fun x h=>(awX (aw4_v x h)).2) H
 have hb:hv mAw aw4 (bindF mAw)=false:=by kernel_rfl
 rw [hb] at h
 exact VDet.wk h ⟨wk_agg ⟨Wk.refl _,Wk.refl _,wk_nils,Wk.refl _,wk_sx _ _,wk_sxL ⟨Wk.refl _,Wk.refl _,wk_sx _ _,trivial⟩,wk_sx _ _,trivial⟩,Wk.refl _,trivial⟩
def sAw:Sig:=⟨[(nP,1)],[(nA,0)],[]⟩
theorem sAw_sm:sAw.Sm:=⟨by decide,by decide,by decide,fun f hf=>by rw [List.mem_singleton.1 hf];decide,fun f hf=>by rw [List.mem_singleton.1 hf];decide,fun f hf=>by cases hf⟩
theorem sAw_r:sigR sAw=true:=by kernel_rfl
def fiveM:Mdl:=⟨2,2,[],0,[⟨nP,1,2⟩],[⟨nA,0,[1]⟩],[]⟩
theorem five_sm:fiveM.Sm:=⟨by decide,by decide,by decide,by decide,fun f hf=>by rw [List.mem_singleton.1 hf];decide⟩
theorem five_nm:fiveM.Nm:=⟨fun f hf=>by rw [List.mem_singleton.1 hf];decide,fun f hf=>by rw [List.mem_singleton.1 hf];decide,fun f hf=>by cases hf⟩
theorem five_v:validM fiveM=true:=by kernel_rfl
def twoM:Mdl:=⟨2,2,[],0,[⟨nP,1,1⟩],[⟨nA,0,[0]⟩],[]⟩
theorem two_sm:twoM.Sm:=⟨by decide,by decide,by decide,by decide,fun f hf=>by rw [List.mem_singleton.1 hf];decide⟩
theorem two_nm:twoM.Nm:=⟨fun f hf=>by rw [List.mem_singleton.1 hf];decide,fun f hf=>by rw [List.mem_singleton.1 hf];decide,fun f hf=>by cases hf⟩
theorem two_v:validM twoM=true:=by kernel_rfl
theorem p10_ok:PermOk 2 [1,0]:=by
 refine ⟨rfl,fun a ha=>?_,fun a b ha hb h=>?_,fun b hb=>?_⟩
 ·have:a=0∨a=1:=by omega
  rcases this with rfl|rfl <;> decide
 ·have h1:a=0∨a=1:=by omega
  have h2:b=0∨b=1:=by omega
  rcases h1 with rfl|rfl <;> rcases h2 with rfl|rfl <;> first|rfl|exact absurd h (by decide)
 ·have:b=0∨b=1:=by omega
  rcases this with rfl|rfl
  ·exact ⟨1,by omega,rfl⟩
  ·exact ⟨0,by omega,rfl⟩
theorem wkSAW:Wk (.agg [.sx 1 [.str nP,.int .i64 1],.sx 1 [.str nA,.int .i64 0],.nils]) (.agg sAw.cells):=wk_agg ⟨wk_sx _ _,wk_sx _ _,wk_nils,trivial⟩
theorem awake_c (H:Heap):VDet Tryz.prog 12 [] H (.bool true):=by
 have c1:∀ H,VDet Tryz.prog 35 [.agg [.sx 1 [.str nP,.int .i64 1],.sx 1 [.str nA,.int .i64 0],.nils],.int .i64 2] H (.tup [.int .i64 8,.int .i64 0]):=fun H=>VDet.wk (count_c sAw sAw_sm sAw_r 2 (by omega) (by decide) (by decide) (by decide) H) ⟨wkSAW,Wk.refl _,trivial⟩
 have c2:∀ H,VDet Tryz.prog 38 [.agg [.sx 1 [.str nP,.int .i64 1],.sx 1 [.str nA,.int .i64 0],.nils],.int .i64 2,.int .i64 5] H (.tup [.agg [.int .u8 2,.int .i64 2,.sl none 0 [],.int .i64 0,.sl none 1 [.str nP,.int .i64 1,.int .i64 2],.sl none 1 [.str nA,.int .i64 0,.sl none 1 [.int .i64 1]],.sl none 0 []],.int .i64 0]):=fun H=>VDet.wk (nth_c sAw sAw_sm sAw_r 2 (by omega) (by decide) (by decide) (by decide) 5 (by decide) (by decide) H) ⟨wkSAW,Wk.refl _,Wk.refl _,trivial⟩
 have c3:∀ H,VDet Tryz.prog 46 [.agg [.int .u8 2,.int .i64 2,.sl none 0 [],.int .i64 0,.sl none 1 [.str nP,.int .i64 1,.int .i64 2],.sl none 1 [.str nA,.int .i64 0,.sl none 1 [.int .i64 1]],.sl none 0 []],.sx 2 [.int .i64 1,.int .i64 0]] H (.tup [.agg [.int .u8 2,.int .i64 2,.sl none 0 [],.int .i64 0,.sl none 1 [.str nP,.int .i64 1,.int .i64 1],.sl none 1 [.str nA,.int .i64 0,.sl none 1 [.int .i64 0]],.sl none 0 []],.int .i64 0]):=fun H=>VDet.wk (moved1 [⟨nP,1,2⟩] [] 2 [1,0] nA 1 (by omega) (by omega) p10_ok fiveM rfl five_sm five_nm five_v H) ⟨Wk.refl _,wk_sx _ _,trivial⟩
 have c4:∀ H,VDet Tryz.prog 45 [.agg [.int .u8 2,.int .i64 2,.sl none 0 [],.int .i64 0,.sl none 1 [.str nP,.int .i64 1,.int .i64 1],.sl none 1 [.str nA,.int .i64 0,.sl none 1 [.int .i64 0]],.sl none 0 []]] H (.tup [.int .i64 2,.int .i64 0]):=fun H=>number_m twoM two_sm two_nm two_v 2 rfl (by decide) (by decide) (by decide) (by decide) (by decide) H
 have v1:=fun H=>v22_c nX H
 have v2:=fun H=>v22_c nY H
 have a1:∀ H,VDet Tryz.prog 14 [.str nR,.sx 2 [.bool true,.str nX,.sl none 0 [],.bool true,.str nY,.sl none 0 []]] H (.agg [.int .u8 1,.str nR,.sl none 2 [.bool true,.str nX,.sl none 0 [],.bool true,.str nY,.sl none 0 []],.sl none 0 []]):=fun H=>VDet.wk (atom14_c nR 2 [.bool true,.str nX,.sl none 0 [],.bool true,.str nY,.sl none 0 []] (fun m=>by simp [below,belowL]) H) ⟨Wk.refl _,wk_sx _ _,trivial⟩
 have a3:∀ H,VDet Tryz.prog 14 [.str nR,.sx 2 [.bool true,.str nX,.sl none 0 [],.bool false,.str nF,.sl none 1 [.bool true,.str nX,.sl none 0 []]]] H (.agg [.int .u8 1,.str nR,.sl none 2 [.bool true,.str nX,.sl none 0 [],.bool false,.str nF,.sl none 1 [.bool true,.str nX,.sl none 0 []]],.sl none 0 []]):=fun H=>VDet.wk (atom14_c nR 2 [.bool true,.str nX,.sl none 0 [],.bool false,.str nF,.sl none 1 [.bool true,.str nX,.sl none 0 []]] (fun m=>by simp [below,belowL]) H) ⟨Wk.refl _,wk_sx _ _,trivial⟩
 have a4:∀ H,VDet Tryz.prog 14 [.str nR,.sx 2 [.bool true,.str nX,.sl none 0 [],.bool false,.str nF,.sl none 1 [.bool false,.str nF,.sl none 1 [.bool true,.str nX,.sl none 0 []]]]] H (.agg [.int .u8 1,.str nR,.sl none 2 [.bool true,.str nX,.sl none 0 [],.bool false,.str nF,.sl none 1 [.bool false,.str nF,.sl none 1 [.bool true,.str nX,.sl none 0 []]]],.sl none 0 []]):=fun H=>VDet.wk (atom14_c nR 2 [.bool true,.str nX,.sl none 0 [],.bool false,.str nF,.sl none 1 [.bool false,.str nF,.sl none 1 [.bool true,.str nX,.sl none 0 []]]] (fun m=>by simp [below,belowL]) H) ⟨Wk.refl _,wk_sx _ _,trivial⟩
 have f1:∀ H,VDet Tryz.prog 68 [.str nF,.sx 1 [.bool true,.str nX,.sl none 0 []]] H (.agg [.bool false,.str nF,.sl none 1 [.bool true,.str nX,.sl none 0 []]]):=fun H=>VDet.wk (fn68_c nF 1 [.bool true,.str nX,.sl none 0 []] (fun m=>by simp [below,belowL]) H) ⟨Wk.refl _,wk_sx _ _,trivial⟩
 have f2:∀ H,VDet Tryz.prog 68 [.str nF,.sx 1 [.bool false,.str nF,.sl none 1 [.bool true,.str nX,.sl none 0 []]]] H (.agg [.bool false,.str nF,.sl none 1 [.bool false,.str nF,.sl none 1 [.bool true,.str nX,.sl none 0 []]]]):=fun H=>VDet.wk (fn68_c nF 1 [.bool false,.str nF,.sl none 1 [.bool true,.str nX,.sl none 0 []]] (fun m=>by simp [below,belowL]) H) ⟨Wk.refl _,wk_sx _ _,trivial⟩
 have b1:∀ H,VDet Tryz.prog 24 [.int .u8 9,.str nY,.agg [.int .u8 1,.str nR,.sl none 2 [.bool true,.str nX,.sl none 0 [],.bool true,.str nY,.sl none 0 []],.sl none 0 []]] H (.agg [.int .u8 9,.str nY,.sl none 0 [],.sl none 1 [.int .u8 1,.str nR,.sl none 2 [.bool true,.str nX,.sl none 0 [],.bool true,.str nY,.sl none 0 []],.sl none 0 []]]):=fun H=>bound_c 9 nY (Fq.fo (.at_ nR [.vr nX,.vr nY])) H
 have b2:∀ H,VDet Tryz.prog 24 [.int .u8 8,.str nX,.agg [.int .u8 9,.str nY,.sl none 0 [],.sl none 1 [.int .u8 1,.str nR,.sl none 2 [.bool true,.str nX,.sl none 0 [],.bool true,.str nY,.sl none 0 []],.sl none 0 []]]] H (.agg [.int .u8 8,.str nX,.sl none 0 [],.sl none 1 [.int .u8 9,.str nY,.sl none 0 [],.sl none 1 [.int .u8 1,.str nR,.sl none 2 [.bool true,.str nX,.sl none 0 [],.bool true,.str nY,.sl none 0 []],.sl none 0 []]]]):=fun H=>bound_c 8 nX (Fq.fo (.qn 9 nY (.at_ nR [.vr nX,.vr nY]))) H
 have b3:∀ H,VDet Tryz.prog 24 [.int .u8 8,.str nX,.agg [.int .u8 1,.str nR,.sl none 2 [.bool true,.str nX,.sl none 0 [],.bool true,.str nY,.sl none 0 []],.sl none 0 []]] H (.agg [.int .u8 8,.str nX,.sl none 0 [],.sl none 1 [.int .u8 1,.str nR,.sl none 2 [.bool true,.str nX,.sl none 0 [],.bool true,.str nY,.sl none 0 []],.sl none 0 []]]):=fun H=>bound_c 8 nX (Fq.fo (.at_ nR [.vr nX,.vr nY])) H
 have b4:∀ H,VDet Tryz.prog 24 [.int .u8 9,.str nY,.agg [.int .u8 8,.str nX,.sl none 0 [],.sl none 1 [.int .u8 1,.str nR,.sl none 2 [.bool true,.str nX,.sl none 0 [],.bool true,.str nY,.sl none 0 []],.sl none 0 []]]] H (.agg [.int .u8 9,.str nY,.sl none 0 [],.sl none 1 [.int .u8 8,.str nX,.sl none 0 [],.sl none 1 [.int .u8 1,.str nR,.sl none 2 [.bool true,.str nX,.sl none 0 [],.bool true,.str nY,.sl none 0 []],.sl none 0 []]]]):=fun H=>bound_c 9 nY (Fq.fo (.qn 8 nX (.at_ nR [.vr nX,.vr nY]))) H
 have b5:∀ H,VDet Tryz.prog 24 [.int .u8 8,.str nX,.agg [.int .u8 1,.str nR,.sl none 2 [.bool true,.str nX,.sl none 0 [],.bool false,.str nF,.sl none 1 [.bool true,.str nX,.sl none 0 []]],.sl none 0 []]] H (.agg [.int .u8 8,.str nX,.sl none 0 [],.sl none 1 [.int .u8 1,.str nR,.sl none 2 [.bool true,.str nX,.sl none 0 [],.bool false,.str nF,.sl none 1 [.bool true,.str nX,.sl none 0 []]],.sl none 0 []]]):=fun H=>bound_c 8 nX (Fq.fo (.at_ nR [.vr nX,.ap nF (.vr nX)])) H
 refine fn_det Tryz.E0 Tryz.mx Tryz.func12 (by kernel_rfl) rfl (Nat.le_of_ble_eq_true rfl) rfl fun hcl hbl=>?_
 (repeat' ((conv=>whnf);(first|(refine IfN.id ?_;first|refine IfN.not ?_|refine IfN.tt rfl ?_|refine IfN.ff rfl ?_|fail)|(refine EqN.addN _ _ Cst.h Cst.h ?_ ?_;· omega)|(refine SideN.mk ?_ ?_;· first|kernel_rfl|omega|exact List.cons_ne_nil _ _|(simp;done)|(simp;omega)|exact trivial|assumption|fail)|(refine CallN.id ?_;first|refine CallN.det _ (c1 _) ?_|refine CallN.det _ (c2 _) ?_|refine CallN.det _ (c3 _) ?_|refine CallN.det _ (c4 _) ?_|refine CallN.det _ (v1 _) ?_|refine CallN.det _ (v2 _) ?_|fail)|(refine CallD.id ?_;first|refine CallD.det _ (fun _ hq X=>a1 _) ?_|refine CallD.det _ (fun _ hq X=>a3 _) ?_|refine CallD.det _ (fun _ hq X=>a4 _) ?_|refine CallD.det _ (fun _ hq X=>f1 _) ?_|refine CallD.det _ (fun _ hq X=>f2 _) ?_|refine CallD.det _ (fun _ hq X=>b1 _) ?_|refine CallD.det _ (fun _ hq X=>b2 _) ?_|refine CallD.det _ (fun _ hq X=>b3 _) ?_|refine CallD.det _ (fun _ hq X=>b4 _) ?_|refine CallD.det _ (fun _ hq X=>b5 _) ?_|refine CallD.det _ (fun _ hq X=>aw1_e _) ?_|refine CallD.det _ (fun _ hq X=>aw2_e _) ?_|refine CallD.det _ (fun _ hq X=>aw3_e _) ?_|refine CallD.det _ (fun _ hq X=>aw4_e _) ?_|fail)|refine SegN.mk _ (seg_rfl rfl) ?_|refine DrawN.mk' [] ?_|fail)));all_goals (conv=>whnf)
 exact EndN.det trivial (Wk.refl _)
end Go.Proofs.YtgdmldelijeaoaaGreatDoor
/-! text BH41 -/
namespace Go.Proofs.YtgdmldelijeaoaaGreatDoor
open Go.Vsi
set_option maxHeartbeats 4000000
set_option linter.unusedSimpArgs false
attribute [local irreducible] VW VCall VO bits
theorem madN_le (k:Nat):1≤madN k∧madN k≤3:=by
 unfold madN
 have:=Nat.mod_lt k (show 0<3 by omega)
 omega
theorem fqx_ex (p:Fq):∃ o s n1 c1 n2 c2,fqx p=[.int .u8 ((o:Nat):Int),.str s,.sl none n1 c1,.sl none n2 c2]∧∀ n,belowL n c1∧belowL n c2 :=
 ⟨_,_,_,_,_,_,rfl,fun n=>⟨ftl_below n p,fsl_below n p⟩⟩
theorem boundQ (k:Nat) (x:ByteArray) (p:Fq) (H:Heap):VDet Tryz.prog 24 [.int .u8 (k:Nat),.str x,.agg (fqx p)] H (.agg [.int .u8 (k:Nat),.str x,.sl none 0 [],.sl none 1 (fqx p)]):=by
 have:=bound_c k x p.fo H
 rwa [fqx_eq p] at this
theorem evalQ (m:Mdl) (hm:m.Sm) (hn:m.Nm) (hva:validM m=true) (p:Fq) (hp:Gd p) (hr:rankF p≤6) (ha:HasAll m) (H:Heap):VDet Tryz.prog 18 [.agg m.cells,.agg (fqx p)] H (.tup [.bool (hv m p (bindF m)),.int .i64 0]):=by
 have:=evalG_c m hm hn hva p hp hr (hp.has ha) H
 rwa [fqx_eq p] at this
end Go.Proofs.YtgdmldelijeaoaaGreatDoor
/-! text BJ41 -/
namespace Go.Proofs.YtgdmldelijeaoaaGreatDoor
open Go.Vsi
set_option maxHeartbeats 4000000
set_option linter.unusedSimpArgs false
attribute [local irreducible] VW VCall VO bits
end Go.Proofs.YtgdmldelijeaoaaGreatDoor
/-! text BK41 -/
namespace Go.Proofs.YtgdmldelijeaoaaGreatDoor
open Go.Vsi
set_option maxHeartbeats 4000000
set_option linter.unusedSimpArgs false
attribute [local irreducible] VW VCall VO bits
end Go.Proofs.YtgdmldelijeaoaaGreatDoor
/-! text BL41 -/
namespace Go.Proofs.YtgdmldelijeaoaaGreatDoor
open Go.Vsi
set_option maxHeartbeats 4000000
set_option linter.unusedSimpArgs false
attribute [local irreducible] VW VCall VO bits
end Go.Proofs.YtgdmldelijeaoaaGreatDoor
/-! text BN41 -/
namespace Go.Proofs.YtgdmldelijeaoaaGreatDoor
open Go.Vsi
set_option maxHeartbeats 4000000
set_option linter.unusedSimpArgs false
attribute [local irreducible] VW VCall VO bits
theorem count_bad (s:Sig) (hs:s.Sm) (n:Int) (h:sigR s=false∨n<1∨3<n) (H:Heap) :
  VDet Tryz.prog 35 [.agg s.cells,.int .i64 n] H (.tup [.int .i64 0,.int .i64 2]):=by
 have g1:=fun H=>sigR_c s hs H
 obtain ⟨sp,sc,sfu,sfc,sv,svc,hsc,hsb⟩:∃ a b c d e f,s.cells=[.sl none a b,.sl none c d,.sl none e f]∧∀ n,belowL n b∧belowL n d∧belowL n f:=⟨_,_,_,_,_,_,rfl,fun n=>⟨symIs_below n _,symIs_below n _,strs_below n _⟩⟩
 rw [hsc] at g1 ⊢
 cases hr:sigR s <;> rw [hr] at g1
 ·refine fn_det Tryz.E0 Tryz.mx Tryz.func35 (by kernel_rfl) rfl (Nat.le_of_ble_eq_true rfl) rfl fun hcl hbl=>?_
  (repeat' ((conv=>whnf);(first|(refine IfN.id ?_;first|refine IfN.not ?_|refine IfN.ff rfl ?_|fail)|refine CallN.det _ (g1 _) ?_|refine DrawN.mk' [] ?_|fail)));all_goals (conv=>whnf)
  exact EndN.det (by simp [below,belowL]) (Wk.refl _)
 ·rcases h with h|h|h
  ·rw [hr] at h
   cases h
  ·refine fn_det Tryz.E0 Tryz.mx Tryz.func35 (by kernel_rfl) rfl (Nat.le_of_ble_eq_true rfl) rfl fun hcl hbl=>?_
   (repeat' ((conv=>whnf);(first|(refine IfN.id ?_;first|refine IfN.not ?_|refine IfN.tt rfl ?_|refine IfN.dT (by omega) ?_|fail)|refine CallN.det _ (g1 _) ?_|refine DrawN.mk' [] ?_|fail)));all_goals (conv=>whnf)
   exact EndN.det (by simp [below,belowL]) (Wk.refl _)
  ·refine fn_det Tryz.E0 Tryz.mx Tryz.func35 (by kernel_rfl) rfl (Nat.le_of_ble_eq_true rfl) rfl fun hcl hbl=>?_
   (repeat' ((conv=>whnf);(first|(refine IfN.id ?_;first|refine IfN.not ?_|refine IfN.tt rfl ?_|refine IfN.dT (by omega) ?_|refine IfN.dF (by omega) ?_|fail)|refine CallN.det _ (g1 _) ?_|refine DrawN.mk' [] ?_|fail)));all_goals (conv=>whnf)
   exact EndN.det (by simp [below,belowL]) (Wk.refl _)
theorem nth_bad (s:Sig) (hs:s.Sm) (n N:Int) (e:Nat) (he:0<e) (h:∀ H,VDet Tryz.prog 35 [.agg s.cells,.int .i64 n] H (.tup [.int .i64 0,.int .i64 (e:Nat)])) (H:Heap) :
  VDet Tryz.prog 38 [.agg s.cells,.int .i64 n,.int .i64 N] H (.tup [.agg mdl0.cells,.int .i64 (e:Nat)]):=by
 obtain ⟨sp,sc,sfu,sfc,sv,svc,hsc,hsb⟩:∃ a b c d e f,s.cells=[.sl none a b,.sl none c d,.sl none e f]∧∀ n,belowL n b∧belowL n d∧belowL n f:=⟨_,_,_,_,_,_,rfl,fun n=>⟨symIs_below n _,symIs_below n _,strs_below n _⟩⟩
 rw [hsc] at h ⊢
 refine fn_det Tryz.E0 Tryz.mx Tryz.func38 (by kernel_rfl) rfl (Nat.le_of_ble_eq_true rfl) rfl fun hcl hbl=>?_
 (repeat' ((conv=>whnf);(first|(refine IfN.id ?_;first|refine IfN.not ?_|refine IfN.dF (by omega) ?_|fail)|refine CallN.det _ (h _) ?_|refine DrawN.mk' [] ?_|fail)));all_goals (conv=>whnf)
 unfold mdl0 Mdl.cells
 exact EndN.det (by simp [below,belowL]) (by simp only [List.flatMap_nil,List.length_nil];(repeat' (first|exact trivial|refine And.intro ?_ ?_|exact Wk.refl _|exact wk_sl _ _ _|exact wk_sx _ _|exact wk_nils|refine wk_agg ?_|refine wk_tup ?_|fail));done)
theorem nth_out (s:Sig) (hs:s.Sm) (n N:Int) (P:Nat) (hN:N<0∨(P:Int)≤N) (h:∀ H,VDet Tryz.prog 35 [.agg s.cells,.int .i64 n] H (.tup [.int .i64 (P:Nat),.int .i64 0])) (H:Heap) :
  VDet Tryz.prog 38 [.agg s.cells,.int .i64 n,.int .i64 N] H (.tup [.agg mdl0.cells,.int .i64 6]):=by
 obtain ⟨sp,sc,sfu,sfc,sv,svc,hsc,hsb⟩:∃ a b c d e f,s.cells=[.sl none a b,.sl none c d,.sl none e f]∧∀ n,belowL n b∧belowL n d∧belowL n f:=⟨_,_,_,_,_,_,rfl,fun n=>⟨symIs_below n _,symIs_below n _,strs_below n _⟩⟩
 rw [hsc] at h ⊢
 rcases hN with hN|hN
 ·refine fn_det Tryz.E0 Tryz.mx Tryz.func38 (by kernel_rfl) rfl (Nat.le_of_ble_eq_true rfl) rfl fun hcl hbl=>?_
  (repeat' ((conv=>whnf);(first|(refine IfN.id ?_;first|refine IfN.not ?_|refine IfN.tt rfl ?_|refine IfN.dT (by omega) ?_|fail)|refine CallN.det _ (h _) ?_|refine DrawN.mk' [] ?_|fail)));all_goals (conv=>whnf)
  unfold mdl0 Mdl.cells
  exact EndN.det (by simp [below,belowL]) (by simp only [List.flatMap_nil,List.length_nil];(repeat' (first|exact trivial|refine And.intro ?_ ?_|exact Wk.refl _|exact wk_sl _ _ _|exact wk_sx _ _|exact wk_nils|refine wk_agg ?_|refine wk_tup ?_|fail));done)
 ·by_cases h0:N<0
  ·refine fn_det Tryz.E0 Tryz.mx Tryz.func38 (by kernel_rfl) rfl (Nat.le_of_ble_eq_true rfl) rfl fun hcl hbl=>?_
   (repeat' ((conv=>whnf);(first|(refine IfN.id ?_;first|refine IfN.not ?_|refine IfN.tt rfl ?_|refine IfN.dT (by omega) ?_|fail)|refine CallN.det _ (h _) ?_|refine DrawN.mk' [] ?_|fail)));all_goals (conv=>whnf)
   unfold mdl0 Mdl.cells
   exact EndN.det (by simp [below,belowL]) (by simp only [List.flatMap_nil,List.length_nil];(repeat' (first|exact trivial|refine And.intro ?_ ?_|exact Wk.refl _|exact wk_sl _ _ _|exact wk_sx _ _|exact wk_nils|refine wk_agg ?_|refine wk_tup ?_|fail));done)
  ·refine fn_det Tryz.E0 Tryz.mx Tryz.func38 (by kernel_rfl) rfl (Nat.le_of_ble_eq_true rfl) rfl fun hcl hbl=>?_
   (repeat' ((conv=>whnf);(first|(refine IfN.id ?_;first|refine IfN.not ?_|refine IfN.tt rfl ?_|refine IfN.dT (by omega) ?_|refine IfN.dF (by omega) ?_|fail)|refine CallN.det _ (h _) ?_|refine DrawN.mk' [] ?_|fail)));all_goals (conv=>whnf)
   unfold mdl0 Mdl.cells
   exact EndN.det (by simp [below,belowL]) (by simp only [List.flatMap_nil,List.length_nil];(repeat' (first|exact trivial|refine And.intro ?_ ?_|exact Wk.refl _|exact wk_sl _ _ _|exact wk_sx _ _|exact wk_nils|refine wk_agg ?_|refine wk_tup ?_|fail));done)
end Go.Proofs.YtgdmldelijeaoaaGreatDoor
/-! text PO41 -/
namespace Go.Proofs.YtgdmldelijeaoaaGreatDoor
open Go.Vsi
set_option maxHeartbeats 4000000
end Go.Proofs.YtgdmldelijeaoaaGreatDoor
/-! text PQ41 -/
namespace Go.Proofs.YtgdmldelijeaoaaGreatDoor
open Go.Vsi
set_option maxHeartbeats 4000000
end Go.Proofs.YtgdmldelijeaoaaGreatDoor
/-! text PR41 -/
namespace Go.Proofs.YtgdmldelijeaoaaGreatDoor
open Go.Vsi
set_option maxHeartbeats 4000000
end Go.Proofs.YtgdmldelijeaoaaGreatDoor
/-! text PS41 -/
namespace Go.Proofs.YtgdmldelijeaoaaGreatDoor
open Go.Vsi
set_option maxHeartbeats 4000000
end Go.Proofs.YtgdmldelijeaoaaGreatDoor
/-! text PT41 -/
namespace Go.Proofs.YtgdmldelijeaoaaGreatDoor
open Go.Vsi
set_option maxHeartbeats 4000000
def badM (K S L t0 t2:Int) (q y:ByteArray) (a0:Int) (n:Nat) (w:Nat→Nat):Mdl :=
 ⟨K,S,[],L,[⟨nP,1,t0⟩,⟨q,0,(w 1 % 2:Nat)⟩,⟨nR,2,t2⟩],[⟨nA,0,[(w 3 % n:Nat)]⟩,⟨nF,1,(List.range n).map fun i=>((w 4 / 2 ^ (4 * i) % 16 % n:Nat):Int)⟩],[⟨nX,a0⟩,⟨y,(w 6 % n:Nat)⟩,⟨nZ,(w 7 % n:Nat)⟩]⟩
def badC (K S L t0 t2:Int) (q y:ByteArray) (a0:Int) (n:Nat):Prop :=
 4≤S∨S≤0∨(S=n∧((2 ^ n:Nat):Int)≤t0)∨t2≤-1∨(S=n∧(n:Int)≤a0)∨(q=nQ∧y=nX)∨(q=nP∧y=nY)∨K≠2∨1≤L
theorem bad_no {K S L t0 t2:Int} {q y:ByteArray} {a0:Int} {n:Nat} {w:Nat→Nat} (h:badC K S L t0 t2 q y a0 n):validM (badM K S L t0 t2 q y a0 n w)=false:=by
 rw [← Bool.not_eq_true]
 intro hv
 unfold validM at hv
 rw [Bool.and_eq_true,Bool.and_eq_true,Bool.and_eq_true,Bool.and_eq_true,decide_eq_true_eq,List.all_eq_true,List.all_eq_true,List.all_eq_true] at hv
 obtain ⟨⟨h1,h2,h3,-,h5⟩,hs,hf,-,hb⟩:=hv
 have h1:K=2:=h1
 have h2:1≤S:=h2
 have h3:S≤3:=h3
 have h5:L=0:=h5
 have f0:=hf ⟨nP,1,t0⟩ (by simp [badM])
 have f2:=hf ⟨nR,2,t2⟩ (by simp [badM])
 have b0:=hb ⟨nX,a0⟩ (by simp [badM])
 unfold okFct at f0 f2
 unfold okBnd elB at b0
 rw [Bool.and_eq_true,decide_eq_true_eq,decide_eq_true_eq] at f0 f2 b0
 have hs:sigR ⟨[(nP,1),(q,0),(nR,2)],[(nA,0),(nF,1)],[nX,y,nZ]⟩=true:=hs
 rcases h with h|h|⟨h,h'⟩|h|⟨h,h'⟩|⟨rfl,rfl⟩|⟨rfl,rfl⟩|h|h
 ·omega
 ·omega
 ·subst h
  have f0:t0<((2 ^ (n:Int).toNat ^ (1:Int).toNat:Nat):Int):=f0.2
  rw [Int.toNat_natCast,show (1:Int).toNat=1 from rfl,Nat.pow_one] at f0
  omega
 ·have:=f2.1
  simp only at this
  omega
 ·subst h
  have b0:a0<(n:Int):=b0.2
  omega
 ·have:sigR ⟨[(nP,1),(nQ,0),(nR,2)],[(nA,0),(nF,1)],[nX,nX,nZ]⟩=false:=by kernel_rfl
  rw [this] at hs
  cases hs
 ·have:sigR ⟨[(nP,1),(nP,0),(nR,2)],[(nA,0),(nF,1)],[nX,nY,nZ]⟩=false:=by kernel_rfl
  rw [this] at hs
  cases hs
 ·exact h h1
 ·omega
theorem bad_sm {K S L t0 t2:Int} {q y:ByteArray} {a0:Int} {n:Nat} {w:Nat→Nat} (hn:1≤n∧n≤3):(badM K S L t0 t2 q y a0 n w).Sm:=by
 refine ⟨Nat.zero_le _,by simp [badM],by simp [badM],by simp [badM],fun f hf=>?_⟩
 have hf:f=⟨nA,0,[(w 3 % n:Nat)]⟩∨f=⟨nF,1,(List.range n).map fun i=>((w 4 / 2 ^ (4 * i) % 16 % n:Nat):Int)⟩:=by simpa [badM] using hf
 rcases hf with rfl|rfl
 ·simp
 ·simp only [List.length_map,List.length_range]
  omega
theorem bad_nm {K S L t0 t2:Int} {q y:ByteArray} {a0:Int} {n:Nat} {w:Nat→Nat} (hq:q.size≤100) (hy:y.size≤100):(badM K S L t0 t2 q y a0 n w).Nm:=by
 refine ⟨fun f hf=>?_,fun f hf=>?_,fun f hf=>?_⟩
 ·have hf:f=⟨nP,1,t0⟩∨f=⟨q,0,(w 1 % 2:Nat)⟩∨f=⟨nR,2,t2⟩:=by simpa [badM] using hf
  rcases hf with rfl|rfl|rfl
  ·exact Nat.le_of_ble_eq_true rfl
  ·show q.size≤_
   omega
  ·exact Nat.le_of_ble_eq_true rfl
 ·have hf:f=⟨nA,0,[(w 3 % n:Nat)]⟩∨f=⟨nF,1,(List.range n).map fun i=>((w 4 / 2 ^ (4 * i) % 16 % n:Nat):Int)⟩:=by simpa [badM] using hf
  rcases hf with rfl|rfl <;> exact Nat.le_of_ble_eq_true rfl
 ·have hf:f=⟨nX,a0⟩∨f=⟨y,(w 6 % n:Nat)⟩∨f=⟨nZ,(w 7 % n:Nat)⟩:=by simpa [badM] using hf
  rcases hf with rfl|rfl|rfl
  ·exact Nat.le_of_ble_eq_true rfl
  ·show y.size≤_
   omega
  ·exact Nat.le_of_ble_eq_true rfl
end Go.Proofs.YtgdmldelijeaoaaGreatDoor
/-! text BQ41 -/
namespace Go.Proofs.YtgdmldelijeaoaaGreatDoor
open Go.Vsi
set_option maxHeartbeats 4000000
set_option linter.unusedSimpArgs false
attribute [local irreducible] VW VCall VO bits
theorem value_bad (m:Mdl) (hm:m.Sm) (hn:m.Nm) (h:validM m=false) (v:Bool) (s:ByteArray) (n:Nat) (c:List AV) (H:Heap):VDet Tryz.prog 58 [.agg m.cells,.agg [.bool v,.str s,.sl none n c]] H (.tup [.int .i64 0,.int .i64 2]):=by
 have h1:=fun H=>valid_c m hm hn H
 rw [h] at h1
 obtain ⟨e1,e2,e3,e4,e5,e6,e7,e8,e9,e10,e11,hmc,hb⟩:=mdl_ex m
 rw [hmc] at h1 ⊢
 refine fn_det Tryz.E0 Tryz.mx Tryz.func58 (by kernel_rfl) rfl (Nat.le_of_ble_eq_true rfl) rfl fun hcl hbl=>?_
 (repeat' ((conv=>whnf);(first|(refine IfN.id ?_;first|refine IfN.not ?_|refine IfN.ff rfl ?_|fail)|refine CallN.det _ (h1 _) ?_|refine DrawN.mk' [] ?_|fail)));all_goals (conv=>whnf)
 exact EndN.det (by simp [below,belowL]) (Wk.refl _)
theorem number_bad (m:Mdl) (hm:m.Sm) (hn:m.Nm) (h:validM m=false) (H:Heap):VDet Tryz.prog 45 [.agg m.cells] H (.tup [.int .i64 0,.int .i64 2]):=by
 have h1:=fun H=>valid_c m hm hn H
 rw [h] at h1
 obtain ⟨e1,e2,e3,e4,e5,e6,e7,e8,e9,e10,e11,hmc,hb⟩:=mdl_ex m
 rw [hmc] at h1 ⊢
 refine fn_det Tryz.E0 Tryz.mx Tryz.func45 (by kernel_rfl) rfl (Nat.le_of_ble_eq_true rfl) rfl fun hcl hbl=>?_
 (repeat' ((conv=>whnf);(first|(refine IfN.id ?_;first|refine IfN.not ?_|refine IfN.ff rfl ?_|fail)|refine CallN.det _ (h1 _) ?_|refine DrawN.mk' [] ?_|fail)));all_goals (conv=>whnf)
 exact EndN.det (by simp [below,belowL]) (Wk.refl _)
theorem moved_bad (m:Mdl) (hm:m.Sm) (hn:m.Nm) (h:validM m=false) (n:Nat) (c:List AV) (H:Heap):VDet Tryz.prog 46 [.agg m.cells,.sl none n c] H (.tup [.agg [.int .u8 0,.int .i64 0,.nils,.int .i64 0,.nils,.nils,.nils],.int .i64 2]):=by
 have h1:=fun H=>valid_c m hm hn H
 rw [h] at h1
 obtain ⟨e1,e2,e3,e4,e5,e6,e7,e8,e9,e10,e11,hmc,hb⟩:=mdl_ex m
 rw [hmc] at h1 ⊢
 refine fn_det Tryz.E0 Tryz.mx Tryz.func46 (by kernel_rfl) rfl (Nat.le_of_ble_eq_true rfl) rfl fun hcl hbl=>?_
 (repeat' ((conv=>whnf);(first|(refine IfN.id ?_;first|refine IfN.not ?_|refine IfN.ff rfl ?_|fail)|refine CallN.det _ (h1 _) ?_|refine DrawN.mk' [] ?_|fail)));all_goals (conv=>whnf)
 exact EndN.det (by simp [below,belowL]) (Wk.refl _)
theorem movedp_bad (m:Mdl) (hm:m.Sm) (hn:m.Nm) (hv:validM m=true) (n:Nat) (hn3:1≤n∧n≤3) (hs:m.size=n) (p:List Int) (hp:permB n p=false) (H:Heap):VDet Tryz.prog 46 [.agg m.cells,.sl none p.length (p.flatMap enc64)] H (.tup [.agg [.int .u8 0,.int .i64 0,.nils,.int .i64 0,.nils,.nils,.nils],.int .i64 2]):=by
 have h1:=fun H=>valid_c m hm hn H
 have h2:=fun H=>permutes_c n hn3 p H
 rw [hv] at h1
 rw [hp] at h2
 generalize p.flatMap enc64=pc at h2 ⊢
 obtain ⟨e1,e2,e3,e4,e5,e6,e7,e8,e9,e10,e11,hmc,hb,hes⟩:∃ e1 e2 e3 e4 e5 e6 e7 e8 e9 e10 e11,m.cells=[.int .u8 e1,.int .i64 e2,.sl none e3 e4,.int .i64 e5,.sl none e6 e7,.sl none e8 e9,.sl none e10 e11]∧True∧e2=(n:Nat):=⟨_,_,_,_,_,_,_,_,_,_,_,rfl,trivial,hs⟩
 subst hes
 rw [hmc] at h1 ⊢
 refine fn_det Tryz.E0 Tryz.mx Tryz.func46 (by kernel_rfl) rfl (Nat.le_of_ble_eq_true rfl) rfl fun hcl hbl=>?_
 (repeat' ((conv=>whnf);(first|(refine IfN.id ?_;first|refine IfN.not ?_|refine IfN.tt rfl ?_|refine IfN.ff rfl ?_|fail)|(refine CallN.id ?_;first|refine CallN.det _ (h1 _) ?_|refine CallN.det _ (h2 _) ?_|fail)|refine DrawN.mk' [] ?_|fail)));all_goals (conv=>whnf)
 exact EndN.det (by simp [below,belowL]) (Wk.refl _)
theorem sig_bad2 (f g:Fo) (hf:f.good) (hg:g.good) (h1:rightF f=true) (h2:rightF g=false) (H:Heap):VDet Tryz.prog 29 [.sl none 2 (f.cells++g.cells)] H (.tup [.agg [.sl none 0 [],.sl none 0 [],.sl none 0 []],.int .i64 2]):=by
 have g1:=fun H=>rightQ_c f hf H
 have g2:=fun H=>rightQ_c g hg H
 rw [h1] at g1
 rw [h2] at g2
 obtain ⟨w1,w2,w3,w4,w5,w6,hw,hwb⟩:=fo_ex4 f
 obtain ⟨u1,u2,u3,u4,u5,u6,hu,hub⟩:=fo_ex4 g
 rw [hw] at g1 ⊢
 rw [hu] at g2 ⊢
 refine fn_det Tryz.E0 Tryz.mx Tryz.func29 (by kernel_rfl) rfl (Nat.le_of_ble_eq_true rfl) rfl fun hcl hbl=>?_
 (repeat' ((conv=>whnf);(first|refine DrawN.mk' [] ?_|fail)));all_goals (conv=>whnf)
 refine LoopN.rounds Tryz.E0 Tryz.mx 3 rfl ?_
 (repeat' ((conv=>whnf);(first|(refine IfN.id ?_;first|refine IfN.not ?_|refine IfN.tt rfl ?_|refine IfN.ff rfl ?_|fail)|(refine EqN.addN _ _ Cst.h Cst.h ?_ ?_;· omega)|(refine SideN.mk ?_ ?_;· first|kernel_rfl|omega|exact List.cons_ne_nil _ _|(simp;done)|(simp;omega)|exact trivial|assumption|fail)|(refine CallN.id ?_;first|refine CallN.det _ (g1 _) ?_|refine CallN.det _ (g2 _) ?_|fail)|refine SegN.mk _ (seg_rfl rfl) ?_|refine DrawN.mk' [] ?_|fail)));all_goals (conv=>whnf)
 exact EndN.det (by simp [below,belowL]) (by (repeat' (first|exact trivial|refine And.intro ?_ ?_|exact Wk.refl _|exact wk_sl _ _ _|exact wk_sx _ _|exact wk_nils|refine wk_agg ?_|refine wk_tup ?_|fail));done)
end Go.Proofs.YtgdmldelijeaoaaGreatDoor
/-! text PU41 -/
namespace Go.Proofs.YtgdmldelijeaoaaGreatDoor
open Go.Vsi
set_option maxHeartbeats 4000000
theorem foR_mk (op:Nat) (s:ByteArray) (l:List Tm) (m:List Fo):foR (.mk op s l m)=(decide (1≤op∧op≤9∧l.length≤2)&&(tmRs l&&foRs m)):=by rw [foR.eq_def]
theorem tmR_mk (v:Bool) (s:ByteArray) (l:List Tm):tmR (.mk v s l)=(decide (l.length≤1)&&tmRs l):=by rw [tmR.eq_def]
def fDia (p:Fq):Fo:=.mk 4 .empty [] [p.fo,.mk 11 .empty [] [p.fo]]
theorem fDia_no (p:Fq):rightF (fDia p)=false:=by
 unfold rightF fDia
 rw [foR_mk,foRs_all]
 simp only [List.all_cons,List.all_nil]
 rw [foR_mk 11]
 simp
def fTwo:Fo:=.mk 1 nP [.mk false nF [.mk true nX [],.mk true nY []]] []
theorem fTwo_no:rightF fTwo=false:=by
 unfold rightF fTwo
 rw [foR_mk,tmRs_all]
 simp only [List.all_cons,List.all_nil]
 rw [tmR_mk false]
 simp
def fThree:Fo:=.mk 1 nR [(bTm 0).tm,(bTm 1).tm,(bTm 2).tm] []
theorem fThree_no:rightF fThree=false:=by
 unfold rightF fThree
 rw [foR_mk]
 simp
theorem fDia_good {p:Fq} (h:p.fo.good):(fDia p).good:=⟨by decide,by decide,Nat.zero_le _,trivial,by show 2≤maxLen;decide,h,⟨by decide,by decide,Nat.zero_le _,trivial,by show 1≤maxLen;decide,h,trivial⟩,trivial⟩
theorem fTwo_good:fTwo.good:=⟨by decide,by decide,by show 1≤maxLen;decide,⟨⟨by decide,by show 2≤maxLen;decide,⟨by decide,Nat.zero_le _,trivial⟩,⟨by decide,Nat.zero_le _,trivial⟩,trivial⟩,trivial⟩,Nat.zero_le _,trivial⟩
theorem fThree_good:fThree.good:=⟨by decide,by decide,by show 3≤maxLen;decide,⟨good_t _ (bTm_std _ _),good_t _ (bTm_std _ _),good_t _ (bTm_std _ _),trivial⟩,Nat.zero_le _,trivial⟩
theorem fDia_cells (p:Fq):(fDia p).cells=[.int .u8 4,.str .empty,.sl none 0 [],.sl none 2 (fqx p++[.int .u8 11,.str .empty,.sl none 0 [],.sl none 1 (fqx p)])]:=by
 unfold fDia
 rw [Fo.cells_mk]
 simp only [List.flatMap_cons,List.flatMap_nil,List.append_nil,List.length_cons,List.length_nil,Fo.cells_mk,fqx_eq]
 rfl
theorem fTwo_cells:fTwo.cells=[.int .u8 1,.str nP,.sl none 1 [.bool false,.str nF,.sl none 2 [.bool true,.str nX,.sl none 0 [],.bool true,.str nY,.sl none 0 []]],.sl none 0 []]:=by
 unfold fTwo
 rw [Fo.cells_mk]
 simp only [List.flatMap_cons,List.flatMap_nil,List.append_nil,List.length_cons,List.length_nil,Tm.cells_mk]
 rfl
theorem fThree_cells:fThree.cells=[.int .u8 1,.str nR,.sl none 3 [.bool true,.str nX,.sl none 0 [],.bool true,.str nY,.sl none 0 [],.bool true,.str nZ,.sl none 0 []],.sl none 0 []]:=by
 unfold fThree
 rw [Fo.cells_mk]
 rw [show bTm 0=.vr nX from rfl,show bTm 1=.vr nY from rfl,show bTm 2=.vr nZ from rfl]
 simp only [List.flatMap_cons,List.flatMap_nil,List.append_nil,List.length_cons,List.length_nil,Tq.tm,Tm.cells_mk]
 rfl
def longQ:Nat→Fq
 | 0=>.at_ nQ []
 | k+1=>.qn 9 nX (longQ k)
theorem long_rank:∀ k,rankF (longQ k)=k
 | 0=>rfl
 | k+1=>by
   show rankF (longQ k)+1=k+1
   rw [long_rank k]
theorem long_dep:∀ k,dF (longQ k)≤k+dF (.at_ nQ [])
 | 0=>Nat.le_of_eq (Nat.zero_add _).symm
 | k+1=>by
   have:=long_dep k
   show dF (longQ k)+1≤_
   omega
theorem long_ms:∀ k,msF 1 0 (longQ k)≤k+msF 1 0 (.at_ nQ [])
 | 0=>Nat.le_of_eq (Nat.zero_add _).symm
 | k+1=>by
   have:=long_ms k
   show msF 1 0 (longQ k)+1+0≤_
   omega
theorem long_std:∀ k,stdF (longQ k)
 | 0=>⟨by kernel_rfl,Nat.zero_le _,fun t ht=>by cases ht⟩
 | k+1=>⟨.inr rfl,inV_var (.inl rfl),long_std k⟩
theorem long_p:∀ k s a,(longQ k).hasP s a→inP s a
 | 0,s,a,h=>.inr (.inl ⟨h.1.symm,h.2⟩)
 | k+1,s,a,h=>long_p k s a h
theorem long_c:∀ k s a,(longQ k).hasC s a→inC s a
 | 0,s,a,h=>by
   obtain ⟨t,ht,-⟩:=h
   cases ht
 | k+1,s,a,h=>long_c k s a h
theorem long_v:∀ k x,(longQ k).free x→inV x
 | 0,x,h=>by
   obtain ⟨t,ht,-⟩:=h
   cases ht
 | k+1,x,h=>long_v k x h.1
theorem long_gd (k:Nat) (hk:k≤7):Gd (longQ k) :=
 ⟨long_std k,Nat.le_trans (long_dep k) (by have:dF (.at_ nQ [])≤1:=by decide
                                           omega),Nat.le_trans (long_ms k) (by have:msF 1 0 (.at_ nQ [])≤1:=by decide
                                                                               omega),⟨long_p k,long_c k,long_v k⟩⟩
theorem perm_long {n:Nat} {p:List Nat} (h:p.length=n):permB n ((p++[n]).map Int.ofNat)=false:=by
 unfold permB
 rw [List.length_map,List.length_append,List.length_singleton,decide_eq_false (by omega)]
 rfl
theorem permN_len (n k:Nat) (hn:1≤n∧n≤3):(permN n k).length=n:=by
 have h:n=1∨n=2∨n=3:=by omega
 rcases h with rfl|rfl|rfl
 ·rfl
 ·unfold permN
  simp only
  split <;> rfl
 ·unfold permN
  simp only
  split <;> rfl
theorem perm_zero {n:Nat} (hn:1≤n∧n≤3):permB n (List.replicate (max n 2) 0)=false:=by
 have h:n=1∨n=2∨n=3:=by omega
 rcases h with rfl|rfl|rfl <;> decide
end Go.Proofs.YtgdmldelijeaoaaGreatDoor
/-! text BS41 -/
namespace Go.Proofs.YtgdmldelijeaoaaGreatDoor
open Go.Vsi
set_option maxHeartbeats 4000000
set_option linter.unusedSimpArgs false
attribute [local irreducible] VW VCall VO bits
theorem perm_s (n k:Nat) (hn:1≤n∧n≤3) (hk:k≤255) (H:Heap):VDet Tryz.prog 66 [.int .i64 (n:Nat),.int .u8 k] H (.sx n ((permN n k).flatMap encN)):=by
 have:n=1∨n=2∨n=3:=by omega
 rcases this with rfl|rfl|rfl
 ·have hc:k % 1=0:=by omega
  refine fn_det Tryz.E0 Tryz.mx Tryz.func66 (by kernel_rfl) rfl (Nat.le_of_ble_eq_true rfl) rfl fun hcl hbl=>?_
  (repeat' ((conv=>whnf);(first|(refine EqN.id ?_;first|refine EqN.remC 0 rfl rfl hc ?_|(refine EqN.subN _ _ Cst.h Cst.h ?_ ?_;· omega)|refine EqN.i64 (by omega) ?_|fail)|(refine SideN.mk ?_ ?_;· first|kernel_rfl|omega|exact List.cons_ne_nil _ _|(simp;done)|(simp;omega)|exact trivial|assumption|fail)|refine SegN.mk _ (seg_rfl rfl) ?_|refine DrawN.mk' [] ?_|fail)));all_goals (conv=>whnf)
  exact EndN.det (by simp [below,belowL,permN,encN]) (Wk.refl _)
 ·have:k % 2=0∨k % 2=1:=by omega
  rcases this with hc|hc
  all_goals
   unfold permN
   simp only [hc]
   refine fn_det Tryz.E0 Tryz.mx Tryz.func66 (by kernel_rfl) rfl (Nat.le_of_ble_eq_true rfl) rfl fun hcl hbl=>?_
   (repeat' ((conv=>whnf);(first|(refine EqN.id ?_;first|refine EqN.remC _ rfl rfl hc ?_|(refine EqN.subN _ _ Cst.h Cst.h ?_ ?_;· omega)|refine EqN.i64 (by omega) ?_|fail)|(refine SideN.mk ?_ ?_;· first|kernel_rfl|omega|exact List.cons_ne_nil _ _|(simp;done)|(simp;omega)|exact trivial|assumption|fail)|refine SegN.mk _ (seg_rfl rfl) ?_|refine DrawN.mk' [] ?_|fail)));all_goals (conv=>whnf)
   exact EndN.det (by simp [below,belowL,encN]) (Wk.refl _)
 ·have:k % 6=0∨k % 6=1∨k % 6=2∨k % 6=3∨k % 6=4∨k % 6=5:=by omega
  rcases this with hc|hc|hc|hc|hc|hc
  all_goals
   unfold permN
   simp only [hc]
   refine fn_det Tryz.E0 Tryz.mx Tryz.func66 (by kernel_rfl) rfl (Nat.le_of_ble_eq_true rfl) rfl fun hcl hbl=>?_
   (repeat' ((conv=>whnf);(first|(refine EqN.id ?_;first|refine EqN.remC _ rfl rfl hc ?_|(refine EqN.subN _ _ Cst.h Cst.h ?_ ?_;· omega)|refine EqN.i64 (by omega) ?_|fail)|(refine SideN.mk ?_ ?_;· first|kernel_rfl|omega|exact List.cons_ne_nil _ _|(simp;done)|(simp;omega)|exact trivial|assumption|fail)|refine SegN.mk _ (seg_rfl rfl) ?_|refine DrawN.mk' [] ?_|fail)));all_goals (conv=>whnf)
   exact EndN.det (by simp [below,belowL,encN]) (Wk.refl _)
def bdA (K S L:Int) (uc:List AV) (i j:Nat):AV:=.agg [.int .u8 K,.int .i64 S,.sl none 0 [],.int .i64 L,.ms i 0 3,.sl none 2 uc,.ms j 0 3]
def bdF (t0 t1 t2:Int) (q:ByteArray):List AV:=[.str nP,.int .i64 1,.int .i64 t0,.str q,.int .i64 0,.int .i64 t1,.str nR,.int .i64 2,.int .i64 t2]
def bdB (a0 a1 a2:Int) (y:ByteArray):List AV:=[.str nX,.int .i64 a0,.str y,.int .i64 a1,.str nZ,.int .i64 a2]
theorem lendW {K S L:Int} {fc uc bc:List AV} {F:FuncId} {v:AV} {post:List AV} (hs:∀ H,VDet Tryz.prog F (.agg [.int .u8 K,.int .i64 S,.sl none 0 [],.int .i64 L,.sl none 3 fc,.sl none 2 uc,.sl none 3 bc]::post) H v) (hf:flatV v=true) (H:Heap) (i j s s':Nat) (hi:H[i]? = some (.box 95 (fc++List.replicate s .junk))) (hj:H[j]? = some (.box 99 (bc++List.replicate s' .junk))):VDet Tryz.prog F (bdA K S L uc i j::post) H v:=by
 refine VDet.lend (as':=.agg [.int .u8 K,.int .i64 S,.sl none 0 [],.int .i64 L,.sl none 3 (fc++List.replicate s .junk),.sl none 2 uc,.sl none 3 (bc++List.replicate s' .junk)]::post) (fun H=>VDet.wk (hs H) ⟨wk_agg ⟨Wk.refl _,Wk.refl _,Wk.refl _,Wk.refl _,wk_pre _ _ _,Wk.refl _,wk_pre _ _ _,trivial⟩,WkL.id _⟩) ?_ hf
 exact .cons (.agg (.cons (.refl _) (.cons (.refl _) (.cons (.refl _) (.cons (.refl _) (.cons (.ms hi rfl (LendL.refl _)) (.cons (.refl _) (.cons (.ms hj rfl (LendL.refl _)) .nil)))))))) (LendL.refl _)
def sYX:Sig:=⟨[],[],[nY,nX]⟩
def sP1:Sig:=⟨[(nP,1)],[],[]⟩
theorem sYX_sm:sYX.Sm:=⟨by decide,by decide,by decide,fun f hf=>(by cases hf),fun f hf=>(by cases hf),fun f hf=>by
 rcases List.mem_cons.1 hf with rfl|hf
 ·decide
 ·rw [List.mem_singleton.1 hf];decide⟩
theorem sYX_r:sigR sYX=false:=by kernel_rfl
theorem sP1_sm:sP1.Sm:=⟨by decide,by decide,by decide,fun f hf=>(by rw [List.mem_singleton.1 hf];decide),fun f hf=>(by cases hf),fun f hf=>by cases hf⟩
theorem sP1_r:sigR sP1=true:=by kernel_rfl
theorem cntYX (H:Heap):VDet Tryz.prog 35 [.agg [.nils,.nils,.sx 2 [.str nY,.str nX]],.int .i64 1] H (.tup [.int .i64 0,.int .i64 2]) :=
 VDet.wk (count_bad sYX sYX_sm 1 (.inl sYX_r) H) ⟨wk_agg ⟨wk_nils,wk_nils,wk_sx _ _,trivial⟩,Wk.refl _,trivial⟩
theorem nthP1 (n:Int) (h:4≤n) (H:Heap):VDet Tryz.prog 38 [.agg [.sx 1 [.str nP,.int .i64 1],.nils,.nils],.int .i64 n,.int .i64 0] H (.tup [.agg mdl0.cells,.int .i64 2]) :=
 VDet.wk (nth_bad sP1 sP1_sm n 0 2 (by decide) (fun H=>count_bad sP1 sP1_sm n (.inr (.inr (by omega))) H) H) ⟨wk_agg ⟨wk_sx _ _,wk_nils,wk_nils,trivial⟩,Wk.refl _,Wk.refl _,trivial⟩
theorem nthP2 (n:Int) (h:4≤n) (H:Heap):VDet Tryz.prog 38 [.agg [.sx 1 [.str nP,.int .i64 1],.nils,.nils],.int .i64 2,.int .i64 n] H (.tup [.agg mdl0.cells,.int .i64 6]) :=
 VDet.wk (nth_out sP1 sP1_sm 2 n 4 (.inr h) (fun H=>count_c sP1 sP1_sm sP1_r 2 (by omega) (by decide) (by decide) (by decide) H) H) ⟨wk_agg ⟨wk_sx _ _,wk_nils,wk_nils,trivial⟩,Wk.refl _,Wk.refl _,trivial⟩
theorem repC_add (z:List AV) (b:Nat):∀ a,repC (a+b) z=repC a z++repC b z
 | 0=>by rw [Nat.zero_add];rfl
 | a+1=>by
   rw [Nat.succ_add]
   show z++repC (a+b) z=(z++repC a z)++repC b z
   rw [repC_add z b a,List.append_assoc]
theorem SubN.rep {n m o c:Nat} {v:AV} {k:List AV→Prop} (ho:o=0) (hc:c=m) (h:m≤n) (a:k (repC m [v])):SubN (repC n [v]) o c k:=by
 subst ho
 subst hc
 obtain ⟨b,rfl⟩:=Nat.exists_eq_add_of_le h
 refine ⟨repC c [v],⟨⟨repC b [v],by rw [List.drop_zero,repC_add]⟩,?_⟩,a⟩
 rw [repC_length]
 simp
theorem rep_zero:∀ m:Nat,(List.replicate m (0:Int)).flatMap enc64=repC m [.int .i64 0]
 | 0=>rfl
 | m+1=>by
   rw [List.replicate_succ,List.flatMap_cons,rep_zero m]
   rfl
end Go.Proofs.YtgdmldelijeaoaaGreatDoor
