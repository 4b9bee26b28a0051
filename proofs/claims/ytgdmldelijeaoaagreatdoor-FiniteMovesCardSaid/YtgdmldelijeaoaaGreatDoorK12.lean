/- A text of the proof: the parts PJ41, PK41, PL41, PN41, BG41, BH41, BJ41, BK41, BL41, DZ41. -/
import Derived.ProofKit
import Derived.LaidMore
import Derived.OpenShut
import Derived.Test.YtgdmldelijeaoaaGreatDoorK11
set_option linter.unusedSimpArgs false
set_option linter.unusedVariables false
/-! text PJ41 -/
namespace Go.Proofs.YtgdmldelijeaoaaGreatDoor
open Go.Vsi
set_option maxHeartbeats 4000000
theorem len_sub {α:Type}:∀ (M l:List α),l.Nodup→(∀ x∈l,x∈M)→l.length≤M.length:=by
 classical
 intro M
 induction M with
 | nil =>
   intro l _ h
   cases l with
   | nil=>exact Nat.le_refl _
   | cons x l=>exact absurd (h x List.mem_cons_self) (by simp)
 | cons a M ih =>
   intro l hn h
   by_cases ha:a∈l
   ·have h1:=ih (l.erase a) (hn.erase a) fun x hx=>by
     have hx:=(List.Nodup.mem_erase_iff hn).1 hx
     rcases List.mem_cons.1 (h x hx.2) with e|e
     ·exact absurd e hx.1
     ·exact e
    rw [List.length_erase_of_mem ha] at h1
    rw [List.length_cons]
    omega
   ·have h1:=ih l hn fun x hx=>by
     rcases List.mem_cons.1 (h x hx) with e|e
     ·exact absurd (e▸hx) ha
     ·exact e
    rw [List.length_cons]
    omega
def inP (s:ByteArray) (a:Int):Prop:=(s=nP∧a=1)∨(s=nQ∧a=0)∨(s=nR∧a=2)
def inC (s:ByteArray) (a:Int):Prop:=(s=nA∧a=0)∨(s=nF∧a=1)
def inV (x:ByteArray):Prop:=x=nX∨x=nY∨x=nZ
structure symF (q:Fq):Prop where
 p:∀ s a,q.hasP s a→inP s a
 c:∀ s a,q.hasC s a→inC s a
 v:∀ x,q.free x→inV x
theorem bTm_std:∀ k i:Nat,stdT (bTmI k i)
 | k,0=>by
   have hk:k % 4<4:=Nat.mod_lt _ (by decide)
   have:k % 4=0∨k % 4=1∨k % 4=2∨k % 4=3:=by omega
   unfold bTmI bts
   rcases this with e|e|e|e <;> rw [e]
   ·show isVar nX=true
    kernel_rfl
   ·show isVar nY=true
    kernel_rfl
   ·show isVar nZ=true
    kernel_rfl
   ·show isFun nA=true
    kernel_rfl
 | k,i+1=>⟨by kernel_rfl,bTm_std k i⟩
theorem bTm_w:∀ k i:Nat,wT (bTmI k i)=i+1
 | k,0=>by
   have hk:k % 4<4:=Nat.mod_lt _ (by decide)
   have:k % 4=0∨k % 4=1∨k % 4=2∨k % 4=3:=by omega
   unfold bTmI bts
   rcases this with e|e|e|e <;> rw [e] <;> rfl
 | k,i+1=>by
   show wT (bTmI k i)+1=_
   rw [bTm_w k i]
theorem bTm_w3 (k:Nat):wT (bTm k)≤3:=by
 unfold bTm
 rw [bTm_w]
 have:=Nat.mod_lt (k / 4) (show 0<3 by omega)
 omega
theorem bTm_C:∀ k i:Nat,∀ s a,(bTmI k i).hasC s a→inC s a
 | k,0,s,a,h=>by
   have hk:k % 4<4:=Nat.mod_lt _ (by decide)
   have:k % 4=0∨k % 4=1∨k % 4=2∨k % 4=3:=by omega
   unfold bTmI bts at h
   rcases this with e|e|e|e <;> rw [e] at h
   ·exact h.elim
   ·exact h.elim
   ·exact h.elim
   ·exact .inl ⟨Eq.symm h.1,h.2⟩
 | k,i+1,s,a,h=>by
   rcases h with h|h
   ·exact .inr ⟨Eq.symm h.1,h.2⟩
   ·exact bTm_C k i s a h
theorem ltr_in (j:Nat):inV (ltr j):=by
 have hk:j % 3<3:=Nat.mod_lt _ (by decide)
 have:j % 3=0∨j % 3=1∨j % 3=2:=by omega
 unfold ltr xyz
 rcases this with e|e|e <;> rw [e]
 ·exact .inl rfl
 ·exact .inr (.inl rfl)
 ·exact .inr (.inr rfl)
theorem inV_var {x:ByteArray} (h:inV x):isVar x=true:=by
 rcases h with rfl|rfl|rfl <;> kernel_rfl
theorem blt_std (l:List Nat):stdF (bltF l):=blt_all (Q:=stdF) trivial
 (fun k=>⟨by kernel_rfl,by show 1≤2;omega,fun t ht=>by rw [List.mem_singleton.1 ht];exact ⟨bTm_std _ _,bTm_w3 k⟩⟩)
 ⟨by kernel_rfl,Nat.zero_le _,fun t ht=>by cases ht⟩
 (fun k j=>⟨by kernel_rfl,Nat.le_refl _,fun t ht=>by
  rcases List.mem_cons.1 ht with h|h
  ·rw [h];exact ⟨bTm_std _ _,bTm_w3 k⟩
  ·rw [List.mem_singleton.1 h];exact ⟨bTm_std _ _,bTm_w3 j⟩⟩)
 (fun _ h=>h) (fun _ _ _ h1 h2 h3=>⟨h1,h2,h3⟩) (fun _ j _ h1 h2=>⟨h1,inV_var (ltr_in j),h2⟩) l
theorem blt_sym (l:List Nat):symF (bltF l):=blt_all (Q:=symF)
 ⟨fun _ _ h=>h.elim,fun _ _ h=>h.elim,fun _ h=>h.elim⟩
 (fun k=>⟨fun s a h=>.inl ⟨Eq.symm h.1,h.2⟩,fun s a ⟨t,ht,h⟩=>by rw [List.mem_singleton.1 ht] at h;exact bTm_C _ _ _ _ h,fun x ⟨t,ht,h⟩=>by rw [List.mem_singleton.1 ht] at h;exact bTm_noV _ _ _ h⟩)
 ⟨fun s a h=>.inr (.inl ⟨Eq.symm h.1,h.2⟩),fun s a ⟨t,ht,h⟩=>(by cases ht),fun x ⟨t,ht,h⟩=>by cases ht⟩
 (fun k j=>⟨fun s a h=>.inr (.inr ⟨Eq.symm h.1,h.2⟩),fun s a ⟨t,ht,h⟩=>by
  rcases List.mem_cons.1 ht with e|e
  ·rw [e] at h;exact bTm_C _ _ _ _ h
  ·rw [List.mem_singleton.1 e] at h;exact bTm_C _ _ _ _ h,fun x ⟨t,ht,h⟩=>by
  rcases List.mem_cons.1 ht with e|e
  ·rw [e] at h;exact bTm_noV _ _ _ h
  ·rw [List.mem_singleton.1 e] at h;exact bTm_noV _ _ _ h⟩)
 (fun _ h=>⟨h.p,h.c,h.v⟩)
 (fun _ _ _ _ h1 h2=>⟨fun s a h=>h.elim (h1.p s a) (h2.p s a),fun s a h=>h.elim (h1.c s a) (h2.c s a),fun x h=>h.elim (h1.v x) (h2.v x)⟩)
 (fun _ _ _ _ h=>⟨h.p,h.c,fun x q=>h.v x q.1⟩) l
theorem std_ok:∀ p:Fq,stdF p→p.Ok
 | .at_ _ _,h=>h.2.1
 | .fa,_=>trivial
 | .f1 a,h=>std_ok a h
 | .f2 _ a b,h=>⟨h.1,std_ok a h.2.1,std_ok b h.2.2⟩
 | .qn _ _ a,h=>⟨h.1,std_ok a h.2.2⟩
theorem name_sz {p q:UInt8→Bool} {s:ByteArray} (h:nameB p q s=true):s.size≤maxLen:=by
 unfold nameB at h
 rw [Bool.and_eq_true,decide_eq_true_eq] at h
 exact Nat.le_trans h.1.2 (by decide)
theorem good_t:∀ t:Tq,stdT t→t.tm.good
 | .vr s,h=>⟨name_sz h,Nat.zero_le _,trivial⟩
 | .cn s,h=>⟨name_sz h,Nat.zero_le _,trivial⟩
 | .ap s t,h=>⟨name_sz h.1,by show 1≤maxLen;decide,good_t t h.2,trivial⟩
theorem good_f:∀ p:Fq,stdF p→p.fo.good
 | .at_ s l,h=>⟨by decide,name_sz h.1,by rw [List.length_map];exact Nat.le_trans h.2.1 (by decide),Tm.goodL_of _ fun x hx=>by
   obtain ⟨t,ht,rfl⟩:=List.mem_map.1 hx
   exact good_t t (h.2.2 t ht).1,Nat.zero_le _,trivial⟩
 | .fa,_=>⟨by decide,by decide,Nat.zero_le _,trivial,Nat.zero_le _,trivial⟩
 | .f1 a,h=>⟨by decide,by decide,Nat.zero_le _,trivial,by show 1≤maxLen;decide,good_f a h,trivial⟩
 | .f2 k a b,h=>⟨by rcases h.1 with rfl|rfl|rfl|rfl <;> decide,by decide,Nat.zero_le _,trivial,by show 2≤maxLen;decide,good_f a h.2.1,good_f b h.2.2,trivial⟩
 | .qn k x a,h=>⟨by rcases h.1 with rfl|rfl <;> decide,name_sz h.2.1,Nat.zero_le _,trivial,by show 1≤maxLen;decide,good_f a h.2.2,trivial⟩
theorem tmR_ok:∀ t:Tq,tmR t.tm=true
 | .vr _=>rfl
 | .cn _=>rfl
 | .ap s t=>by
   show (decide (1≤1)&&(tmR t.tm&&true))=true
   rw [tmR_ok t]
   rfl
theorem foR_ok:∀ p:Fq,p.Ok→foR p.fo=true
 | .at_ s l,h=>by
   show (decide (1≤1∧1≤9∧(l.map Tq.tm).length≤2)&&(tmRs (l.map Tq.tm)&&true))=true
   rw [List.length_map,decide_eq_true ⟨by omega,by omega,h⟩,tmRs_all,List.all_eq_true.2 fun x hx=>by
    obtain ⟨t,-,rfl⟩:=List.mem_map.1 hx
    exact tmR_ok t]
   rfl
 | .fa,_=>rfl
 | .f1 a,h=>by
   show (decide (1≤3∧3≤9∧0≤2)&&(true&&(foR a.fo&&true)))=true
   rw [foR_ok a h]
   rfl
 | .f2 k a b,h=>by
   show (decide (1≤k∧k≤9∧0≤2)&&(true&&(foR a.fo&&(foR b.fo&&true))))=true
   have hk:=h.1
   rw [foR_ok a h.2.1,foR_ok b h.2.2,decide_eq_true (by omega)]
   rfl
 | .qn k x a,h=>by
   show (decide (1≤k∧k≤9∧0≤2)&&(true&&(foR a.fo&&true)))=true
   have hk:=h.1
   rw [foR_ok a h.2,decide_eq_true (by omega)]
   rfl
mutual
theorem frT_nd (c:ByteArray→Int):∀ (t:Tm) (ns:List ByteArray),ns.Nodup→(frT c ns t).Nodup
 | .mk v s l,ns,h=>by
   rw [frT_mk]
   refine frTs_nd c l _ ?_
   split
   ·exact nd_insG _ _ h
   ·exact h
theorem frTs_nd (c:ByteArray→Int):∀ (l:List Tm) (ns:List ByteArray),ns.Nodup→(frTs c ns l).Nodup
 | [],ns,h=>by rw [frTs_nil];exact h
 | x::l,ns,h=>by rw [frTs_cons];exact frTs_nd c l _ (frT_nd c x ns h)
end
mutual
theorem frF_nd:∀ (x:Fo) (c:ByteArray→Int) (ns:List ByteArray),ns.Nodup→(frF c ns x).Nodup
 | .mk op s l m,c,ns,h=>by
   rw [frF_mk]
   exact frFs_nd m _ _ (frTs_nd c l ns h)
theorem frFs_nd:∀ (l:List Fo) (c:ByteArray→Int) (ns:List ByteArray),ns.Nodup→(frFs c ns l).Nodup
 | [],c,ns,h=>by rw [frFs_nil];exact h
 | x::l,c,ns,h=>by rw [frFs_cons];exact frFs_nd l c _ (frF_nd x c ns h)
end
theorem freeF_nd (f:Fo):(freeF f).Nodup:=frF_nd f _ _ List.nodup_nil
structure Gd (p:Fq):Prop where
 std:stdF p
 dep:dF p≤30
 nod:msF 1 0 p≤55
 sym:symF p
theorem Gd.right {p:Fq} (h:Gd p):rightF p.fo=true:=by
 have h1:=wF_le p h.std
 have h2:=h.nod
 have h3:=h.dep
 unfold rightF
 rw [jF_ok p 1 400 h.std (by omega) (by omega),foR_ok p (std_ok p h.std)]
 rfl
theorem predY_len {p:Fq} (h:Gd p):(predY p.fo).length≤3:=by
 refine len_sub [(nP,1),(nQ,0),(nR,2)] _ (predY_nd _) fun x hx=>?_
 have h1:=(mem_predY (std_ok p h.std) x).1 hx
 obtain ⟨s,a⟩:=x
 rcases h.sym.p _ _ h1 with ⟨e1,e2⟩|⟨e1,e2⟩|⟨e1,e2⟩
 ·have e1:s=nP:=e1
  have e2:((a:Nat):Int)=1:=e2
  have e3:a=1:=by omega
  rw [e1,e3];simp
 ·have e1:s=nQ:=e1
  have e2:((a:Nat):Int)=0:=e2
  have e3:a=0:=by omega
  rw [e1,e3];simp
 ·have e1:s=nR:=e1
  have e2:((a:Nat):Int)=2:=e2
  have e3:a=2:=by omega
  rw [e1,e3];simp
theorem funY_len {p:Fq} (h:Gd p):(funY p.fo).length≤2:=by
 refine len_sub [(nA,0),(nF,1)] _ (funY_nd _) fun x hx=>?_
 have h1:=(mem_funY (std_ok p h.std) x).1 hx
 obtain ⟨s,a⟩:=x
 rcases h.sym.c _ _ h1 with ⟨e1,e2⟩|⟨e1,e2⟩
 ·have e1:s=nA:=e1
  have e2:((a:Nat):Int)=0:=e2
  have e3:a=0:=by omega
  rw [e1,e3];simp
 ·have e1:s=nF:=e1
  have e2:((a:Nat):Int)=1:=e2
  have e3:a=1:=by omega
  rw [e1,e3];simp
theorem freeF_len {p:Fq} (h:Gd p):(freeF p.fo).length≤3:=by
 refine len_sub [nX,nY,nZ] _ (freeF_nd _) fun x hx=>?_
 rcases h.sym.v _ ((mem_freeF (std_ok p h.std) x).1 hx) with e|e|e <;> rw [e] <;> simp
theorem Gd.sm {p:Fq} (h:Gd p):FqSm p :=
 ⟨good_f p h.std,std_ok p h.std,Nat.le_trans (predY_len h) (by omega),Nat.le_trans (funY_len h) (by omega),Nat.le_trans (freeF_len h) (by omega)⟩
structure HasAll (m:Mdl):Prop where
 p:∀ s a,inP s a→hasFct m s a
 c:∀ s a,inC s a→hasFnc m s a
 v:∀ x,inV x→hasBnd m x
theorem madW_all (n:Nat) (w:Nat→Nat):HasAll (madW n w):=by
 refine ⟨fun s a h=>?_,fun s a h=>?_,fun x h=>?_⟩
 ·refine List.find?_isSome.2 ?_
  rcases h with ⟨rfl,rfl⟩|⟨rfl,rfl⟩|⟨rfl,rfl⟩
  ·exact ⟨⟨nP,1,(w 0 % 2 ^ n:Nat)⟩,List.mem_cons_self,by simp [factP]⟩
  ·exact ⟨⟨nQ,0,(w 1 % 2:Nat)⟩,List.mem_cons_of_mem _ List.mem_cons_self,by simp [factP]⟩
  ·exact ⟨⟨nR,2,(w 2 % 2 ^ (n * n):Nat)⟩,List.mem_cons_of_mem _ (List.mem_cons_of_mem _ List.mem_cons_self),by simp [factP]⟩
 ·refine List.find?_isSome.2 ?_
  rcases h with ⟨rfl,rfl⟩|⟨rfl,rfl⟩
  ·exact ⟨⟨nA,0,[(w 3 % n:Nat)]⟩,List.mem_cons_self,by simp [funcP]⟩
  ·exact ⟨⟨nF,1,(List.range n).map fun i=>((w 4 / 2 ^ (4 * i) % 16 % n:Nat):Int)⟩,List.mem_cons_of_mem _ List.mem_cons_self,by simp [funcP]⟩
 ·refine List.find?_isSome.2 ?_
  rcases h with rfl|rfl|rfl
  ·exact ⟨⟨nX,(w 5 % n:Nat)⟩,List.mem_cons_self,by simp [bindP]⟩
  ·exact ⟨⟨nY,(w 6 % n:Nat)⟩,List.mem_cons_of_mem _ List.mem_cons_self,by simp [bindP]⟩
  ·exact ⟨⟨nZ,(w 7 % n:Nat)⟩,List.mem_cons_of_mem _ (List.mem_cons_of_mem _ List.mem_cons_self),by simp [bindP]⟩
theorem Gd.has {p:Fq} (h:Gd p) {m:Mdl} (ha:HasAll m):hasB m (sigF p.fo)=true:=by
 have hok:=std_ok p h.std
 unfold hasB
 rw [Bool.and_eq_true,Bool.and_eq_true,List.all_eq_true,List.all_eq_true,List.all_eq_true]
 refine ⟨fun x hx=>?_,fun x hx=>?_,fun x hx=>?_⟩
 ·obtain ⟨y,hy,rfl⟩:=List.mem_map.1 hx
  exact ha.p _ _ (h.sym.p _ _ ((mem_predY hok y).1 ((sortY_perm _).mem_iff.1 hy)))
 ·obtain ⟨y,hy,rfl⟩:=List.mem_map.1 hx
  exact ha.c _ _ (h.sym.c _ _ ((mem_funY hok y).1 ((sortY_perm _).mem_iff.1 hy)))
 ·exact ha.v _ (h.sym.v _ ((mem_freeF hok x).1 ((sortB_perm _).mem_iff.1 hx)))
theorem blt_gd (l:List Nat):Gd (bltF l):=⟨blt_std l,Nat.le_trans (blt_dep l) (by omega),Nat.le_trans (blt_nodes l) (by omega),blt_sym l⟩
end Go.Proofs.YtgdmldelijeaoaaGreatDoor
/-! text PK41 -/
namespace Go.Proofs.YtgdmldelijeaoaaGreatDoor
open Go.Vsi
set_option maxHeartbeats 4000000
end Go.Proofs.YtgdmldelijeaoaaGreatDoor
/-! text PL41 -/
namespace Go.Proofs.YtgdmldelijeaoaaGreatDoor
open Go.Vsi
set_option maxHeartbeats 4000000
end Go.Proofs.YtgdmldelijeaoaaGreatDoor
/-! text PN41 -/
namespace Go.Proofs.YtgdmldelijeaoaaGreatDoor
open Go.Vsi
set_option maxHeartbeats 4000000
theorem valid_of {m:Mdl} {n:Nat} (vm:VM m n) (h1:m.kind=2) (h2:m.rel.length=0) (h3:m.loop=0) (hs:sigR (sigM m)=true):validM m=true:=by
 have hz:=vm.size
 have hp:=vm.pos
 have hl:=vm.le
 unfold validM
 rw [Bool.and_eq_true,Bool.and_eq_true,Bool.and_eq_true,Bool.and_eq_true,decide_eq_true_eq,List.all_eq_true,List.all_eq_true,List.all_eq_true]
 have hnt:m.size.toNat=n:=by omega
 refine ⟨⟨h1,by omega,by omega,h2,h3⟩,hs,fun f hf=>?_,fun f hf=>?_,fun b hb=>?_⟩
 ·have:=vm.facts f hf
  unfold okFct
  rw [Bool.and_eq_true,decide_eq_true_eq,decide_eq_true_eq,hnt]
  exact ⟨this.tr.1,by have:=this.tr;omega⟩
 ·have:=vm.funcs f hf
  unfold okFnc
  rw [Bool.and_eq_true,decide_eq_true_eq,List.all_eq_true,hnt]
  refine ⟨this.len,fun v hv=>?_⟩
  have:=this.lt v hv
  unfold elB
  rw [Bool.and_eq_true,decide_eq_true_eq,decide_eq_true_eq]
  omega
 ·have:=vm.binds b hb
  unfold okBnd elB
  rw [Bool.and_eq_true,decide_eq_true_eq,decide_eq_true_eq]
  omega
theorem sig_mov (m:Mdl) (n:Nat) (p:List Nat):sigM (movM n p m)=sigM m:=by
 show (⟨(m.facts.map (movFct n p)).map _,(m.funcs.map (movFnc n p)).map _,(m.binds.map (movBnd p)).map _⟩:Sig)=_
 rw [List.map_map,List.map_map,List.map_map]
 rfl
theorem valid_mov {m:Mdl} {n:Nat} {p:List Nat} (hv:validM m=true) (hn:m.size=n) (hp:PermOk n p):validM (movM n p m)=true:=by
 obtain ⟨vm,h1,h2,h3⟩:=vm_of hv
 have hnt:m.size.toNat=n:=by omega
 rw [hnt] at vm
 refine valid_of (mov_ok vm hp) h1 rfl rfl ?_
 rw [sig_mov]
 unfold validM at hv
 rw [Bool.and_eq_true,Bool.and_eq_true] at hv
 exact hv.2.1
theorem mov_sm {m:Mdl} {n:Nat} {p:List Nat} (h:m.Sm):(movM n p m).Sm :=
 ⟨Nat.zero_le _,by show (m.facts.map _).length≤_;rw [List.length_map];exact h.facts,by show (m.funcs.map _).length≤_;rw [List.length_map];exact h.funcs,by show (m.binds.map _).length≤_;rw [List.length_map];exact h.binds,fun f hf=>by
  obtain ⟨g,hg,rfl⟩:=List.mem_map.1 hf
  show ((movV n p g.ar.toNat (g.vl.map Int.toNat) (n ^ g.ar.toNat)).map Int.ofNat).length≤_
  rw [List.length_map,movV_len,List.length_map]
  exact h.vals g hg⟩
theorem mov_nm {m:Mdl} {n:Nat} {p:List Nat} (h:m.Nm):(movM n p m).Nm :=
 ⟨fun f hf=>by obtain ⟨g,hg,rfl⟩:=List.mem_map.1 hf;exact h.f g hg,fun f hf=>by obtain ⟨g,hg,rfl⟩:=List.mem_map.1 hf;exact h.u g hg,fun f hf=>by obtain ⟨g,hg,rfl⟩:=List.mem_map.1 hf;exact h.b g hg⟩
theorem mov_all {m:Mdl} {n:Nat} {p:List Nat} (h:HasAll m):HasAll (movM n p m) :=
 ⟨fun s a q=>(has_mov.1 s a).2 (h.p s a q),fun s a q=>(has_mov.2.1 s a).2 (h.c s a q),fun x q=>(has_mov.2.2 x).2 (h.v x q)⟩
def bkP (n:Nat) (p:List Nat):Nat→List Nat
 | 0=>List.replicate n 0
 | k+1=>(bkP n p k).set (p.getD k 0) k
theorem bkP_len (n:Nat) (p:List Nat):∀ k,(bkP n p k).length=n
 | 0=>List.length_replicate
 | k+1=>by
   unfold bkP
   rw [List.length_set,bkP_len n p k]
theorem bkP_at {n:Nat} {p:List Nat} (hp:PermOk n p):∀ k,k≤n→∀ a,a<k→(bkP n p k).getD (p.getD a 0) 0=a
 | 0,_,a,h=>by omega
 | k+1,hk,a,ha=>by
   unfold bkP
   by_cases h:a=k
   ·subst h
    rw [List.getD_eq_getElem?_getD,List.getElem?_set_self (by rw [bkP_len];exact hp.lt a (by omega))]
    rfl
   ·rw [List.getD_eq_getElem?_getD,List.getElem?_set_ne (fun e=>h (hp.inj k a (by omega) (by omega) e).symm),← List.getD_eq_getElem?_getD]
    exact bkP_at hp k (by omega) a (by omega)
theorem bkP_back {n:Nat} {p:List Nat} (hp:PermOk n p):∀ a,a<n→(bkP n p n).getD (p.getD a 0) 0=a:=bkP_at hp n (Nat.le_refl _)
theorem bkP_ok {n:Nat} {p:List Nat} (hp:PermOk n p):PermOk n (bkP n p n):=by
 refine ⟨bkP_len n p n,fun b hb=>?_,fun b c hb hc h=>?_,fun a ha=>?_⟩
 ·obtain ⟨a,ha,rfl⟩:=hp.sur b hb
  rw [bkP_back hp a ha]
  exact ha
 ·obtain ⟨a,ha,rfl⟩:=hp.sur b hb
  obtain ⟨d,hd,rfl⟩:=hp.sur c hc
  rw [bkP_back hp a ha,bkP_back hp d hd] at h
  rw [h]
 ·exact ⟨p.getD a 0,hp.lt a ha,bkP_back hp a ha⟩
theorem facts_back {m:Mdl} {n:Nat} (vm:VM m n) {p q:List Nat} (hp:PermOk n p) (hq:PermOk n q) (hpq:∀ a,a<n→q.getD (p.getD a 0) 0=a):(movM n q (movM n p m)).facts=m.facts:=by
 show (m.facts.map (movFct n p)).map (movFct n q)=m.facts
 rw [List.map_map]
 refine (List.map_congr_left fun f hf=>?_).trans (List.map_id _)
 have ho:=vm.facts f hf
 obtain ⟨s,a,t⟩:=f
 show (⟨s,a,((movT n q a.toNat ((movT n p a.toNat t.toNat (n ^ a.toNat):Nat):Int).toNat (n ^ a.toNat):Nat):Int)⟩:Fct)=⟨s,a,t⟩
 rw [Int.toNat_natCast,movT_back vm.pos hp hq hpq ho.tr.2]
 have h1:(0:Int)≤t:=ho.tr.1
 rw [show ((t.toNat:Nat):Int)=t by omega]
theorem permN_ok (n k:Nat) (hn:1≤n∧n≤3):PermOk n (permN n k):=by
 have c1:∀ p:List Nat,p=[0]→PermOk 1 p:=fun p h=>by
  subst h
  refine ⟨rfl,fun a ha=>?_,fun a b ha hb h=>?_,fun b hb=>⟨0,by omega,?_⟩⟩
  ·obtain rfl:a=0:=by omega
   decide
  ·omega
  ·obtain rfl:b=0:=by omega
   rfl
 have c2:∀ p:List Nat,(p.length=2∧(∀ a,a<2→p.getD a 0<2)∧p.getD 0 0≠p.getD 1 0)→PermOk 2 p:=fun p ⟨h1,h2,h3⟩=>by
  refine ⟨h1,h2,fun a b ha hb h=>?_,fun b hb=>?_⟩
  ·have e1:a=0∨a=1:=by omega
   have e2:b=0∨b=1:=by omega
   rcases e1 with rfl|rfl <;> rcases e2 with rfl|rfl <;> first|rfl|exact absurd h h3|exact absurd h.symm h3
  ·have q0:=h2 0 (by omega)
   have q1:=h2 1 (by omega)
   by_cases e:p.getD 0 0=b
   ·exact ⟨0,by omega,e⟩
   ·exact ⟨1,by omega,by omega⟩
 have c3:∀ p:List Nat,(p.length=3∧(∀ a,a<3→p.getD a 0<3)∧p.getD 0 0≠p.getD 1 0∧p.getD 0 0≠p.getD 2 0∧p.getD 1 0≠p.getD 2 0)→PermOk 3 p:=fun p ⟨h1,h2,h3,h4,h5⟩=>by
  refine ⟨h1,h2,fun a b ha hb h=>?_,fun b hb=>?_⟩
  ·have e1:a=0∨a=1∨a=2:=by omega
   have e2:b=0∨b=1∨b=2:=by omega
   rcases e1 with rfl|rfl|rfl <;> rcases e2 with rfl|rfl|rfl <;> first|rfl|exact absurd h h3|exact absurd h.symm h3|exact absurd h h4|exact absurd h.symm h4|exact absurd h h5|exact absurd h.symm h5
  ·have q0:=h2 0 (by omega)
   have q1:=h2 1 (by omega)
   have q2:=h2 2 (by omega)
   by_cases e:p.getD 0 0=b
   ·exact ⟨0,by omega,e⟩
   ·by_cases e':p.getD 1 0=b
    ·exact ⟨1,by omega,e'⟩
    ·exact ⟨2,by omega,by omega⟩
 have hl:∀ (l:List Nat) (N:Nat),(∀ v∈l,v<N)→∀ a,a<l.length→l.getD a 0<N:=fun l N h a ha=>h _ (getD_memT l a 0 ha)
 have:n=1∨n=2∨n=3:=by omega
 rcases this with rfl|rfl|rfl
 ·exact c1 _ rfl
 ·have:k % 2=0∨k % 2=1:=by omega
  rcases this with e|e
  ·have h:permN 2 k=[0,1]:=by unfold permN;simp only [e];rfl
   rw [h]
   exact c2 _ ⟨rfl,hl [0,1] 2 (by decide),by decide⟩
  ·have h:permN 2 k=[1,0]:=by unfold permN;simp only [e];rfl
   rw [h]
   exact c2 _ ⟨rfl,hl [1,0] 2 (by decide),by decide⟩
 ·have:k % 6=0∨k % 6=1∨k % 6=2∨k % 6=3∨k % 6=4∨k % 6=5:=by omega
  rcases this with e|e|e|e|e|e
  ·have h:permN 3 k=[0,1,2]:=by unfold permN;simp only [e]
   rw [h]
   exact c3 _ ⟨rfl,hl [0,1,2] 3 (by decide),by decide,by decide,by decide⟩
  ·have h:permN 3 k=[1,0,2]:=by unfold permN;simp only [e]
   rw [h]
   exact c3 _ ⟨rfl,hl [1,0,2] 3 (by decide),by decide,by decide,by decide⟩
  ·have h:permN 3 k=[2,1,0]:=by unfold permN;simp only [e]
   rw [h]
   exact c3 _ ⟨rfl,hl [2,1,0] 3 (by decide),by decide,by decide,by decide⟩
  ·have h:permN 3 k=[0,2,1]:=by unfold permN;simp only [e]
   rw [h]
   exact c3 _ ⟨rfl,hl [0,2,1] 3 (by decide),by decide,by decide,by decide⟩
  ·have h:permN 3 k=[1,2,0]:=by unfold permN;simp only [e]
   rw [h]
   exact c3 _ ⟨rfl,hl [1,2,0] 3 (by decide),by decide,by decide,by decide⟩
  ·have h:permN 3 k=[2,0,1]:=by unfold permN;simp only [e]
   rw [h]
   exact c3 _ ⟨rfl,hl [2,0,1] 3 (by decide),by decide,by decide,by decide⟩
end Go.Proofs.YtgdmldelijeaoaaGreatDoor
/-! text BG41 -/
namespace Go.Proofs.YtgdmldelijeaoaaGreatDoor
open Go.Vsi
set_option maxHeartbeats 4000000
set_option linter.unusedSimpArgs false
attribute [local irreducible] VW VCall VO bits
theorem has_mk {m:Mdl} {p:Fq} (hok:p.Ok) (h1:∀ s a,p.hasP s a→hasFct m s a) (h2:∀ s a,p.hasC s a→hasFnc m s a) (h3:∀ x,p.free x→hasBnd m x):hasB m (sigF p.fo)=true:=by
 unfold hasB
 rw [Bool.and_eq_true,Bool.and_eq_true,List.all_eq_true,List.all_eq_true,List.all_eq_true]
 refine ⟨fun x hx=>?_,fun x hx=>?_,fun x hx=>?_⟩
 ·obtain ⟨y,hy,rfl⟩:=List.mem_map.1 hx
  exact h1 _ _ ((mem_predY hok y).1 ((sortY_perm _).mem_iff.1 hy))
 ·obtain ⟨y,hy,rfl⟩:=List.mem_map.1 hx
  exact h2 _ _ ((mem_funY hok y).1 ((sortY_perm _).mem_iff.1 hy))
 ·exact h3 _ ((mem_freeF hok x).1 ((sortB_perm _).mem_iff.1 hx))
theorem evalG_c (m:Mdl) (hm:m.Sm) (hn:m.Nm) (hva:validM m=true) (p:Fq) (hp:Gd p) (hr:rankF p≤6) (hh:hasB m (sigF p.fo)=true) (H:Heap):VDet Tryz.prog 18 [.agg m.cells,.agg p.fo.cells] H (.tup [.bool (hv m p (bindF m)),.int .i64 0]):=by
 have:=eval_c m hm hn p hp.sm hva hp.right H
 rwa [if_neg (by omega),if_pos hh] at this
def mAw:Mdl:=⟨2,2,[],0,[⟨nR,2,6⟩],[⟨nF,1,[1,0]⟩],[⟨nX,1⟩]⟩
theorem mAw_sm:mAw.Sm:=⟨by decide,by decide,by decide,by decide,fun f hf=>by rw [List.mem_singleton.1 hf];decide⟩
theorem mAw_nm:mAw.Nm:=⟨fun f hf=>by rw [List.mem_singleton.1 hf];decide,fun f hf=>by rw [List.mem_singleton.1 hf];decide,fun f hf=>by rw [List.mem_singleton.1 hf];decide⟩
theorem mAw_v:validM mAw=true:=by kernel_rfl
def aw1:Fq:=.qn 8 nX (.qn 9 nY (.at_ nR [.vr nX,.vr nY]))
def aw2:Fq:=.qn 9 nY (.qn 8 nX (.at_ nR [.vr nX,.vr nY]))
def aw3:Fq:=.qn 8 nX (.at_ nR [.vr nX,.ap nF (.vr nX)])
def aw4:Fq:=.at_ nR [.vr nX,.ap nF (.ap nF (.vr nX))]
theorem awR {s:ByteArray} {a:Int} (h:nR=s∧a=2):inP s a∧hasFct mAw s a:=by
 obtain ⟨rfl,rfl⟩:=h
 exact ⟨.inr (.inr ⟨rfl,rfl⟩),by show (mAw.facts.find? (factP nR 2)).isSome=true;kernel_rfl⟩
theorem awF {s:ByteArray} {a:Int} (h:nF=s∧a=1):inC s a∧hasFnc mAw s a:=by
 obtain ⟨rfl,rfl⟩:=h
 exact ⟨.inr ⟨rfl,rfl⟩,by show (mAw.funcs.find? (funcP nF 1)).isSome=true;kernel_rfl⟩
theorem awX {x:ByteArray} (h:nX=x):inV x∧hasBnd mAw x:=by
 subst h
 exact ⟨.inl rfl,by show (mAw.binds.find? (bindP nX)).isSome=true;kernel_rfl⟩
theorem aw1_std:stdF aw1:=⟨.inl rfl,by kernel_rfl,.inr rfl,by kernel_rfl,by kernel_rfl,by decide,fun t ht=>by
  rcases List.mem_cons.1 ht with h|h
  ·rw [h];exact ⟨by show isVar nX=true;kernel_rfl,by decide⟩
  ·rw [List.mem_singleton.1 h];exact ⟨by show isVar nY=true;kernel_rfl,by decide⟩⟩
theorem aw1_p (s:ByteArray) (a:Int) (h:aw1.hasP s a):nR=s∧a=2:=h
theorem aw1_c (s:ByteArray) (a:Int) (h:aw1.hasC s a):nF=s∧a=1:=by
 obtain ⟨t,ht,h⟩:=h
 rcases List.mem_cons.1 ht with e|e
 ·rw [e] at h;exact h.elim
 ·rw [List.mem_singleton.1 e] at h
  exact h.elim
theorem aw1_v (x:ByteArray) (h:aw1.free x):nX=x:=by
 obtain ⟨⟨⟨t,ht,h⟩,h1⟩,h2⟩:=h
 rcases List.mem_cons.1 ht with e|e
 ·rw [e] at h;exact h
 ·rw [List.mem_singleton.1 e] at h;exact absurd (Eq.symm h) h1
theorem aw1_gd:Gd aw1:=⟨aw1_std,by decide,by decide,fun s a h=>(awR (aw1_p s a h)).1,fun s a h=>(awF (aw1_c s a h)).1,fun x h=>(awX (aw1_v x h)).1⟩
theorem aw1_e (H:Heap):VDet Tryz.prog 18 [.agg [.int .u8 2,.int .i64 2,.nils,.int .i64 0,.sx 1 [.str nR,.int .i64 2,.int .i64 6],.sx 1 [.str nF,.int .i64 1,.sx 2 [.int .i64 1,.int .i64 0]],.sx 1 [.str nX,.int .i64 1]],.agg [.int .u8 8,.str nX,.sl none 0 [],.sl none 1 [.int .u8 9,.str nY,.sl none 0 [],.sl none 1 [.int .u8 1,.str nR,.sl none 2 [.bool true,.str nX,.sl none 0 [],.bool true,.str nY,.sl none 0 []],.sl none 0 []]]]] H (.tup [.bool true,.int .i64 0]):=by
 have h:=evalG_c mAw mAw_sm mAw_nm mAw_v aw1 aw1_gd (by decide) (has_mk (std_ok _ aw1_std) (fun s a h=>(awR (aw1_p s a h)).2) (fun s a h=>(awF (aw1_c s a h)).2) fun x h=>(awX (aw1_v x h)).2) H
 have hb:hv mAw aw1 (bindF mAw)=true:=by kernel_rfl
 rw [hb] at h
 exact VDet.wk h ⟨wk_agg ⟨Wk.refl _,Wk.refl _,wk_nils,Wk.refl _,wk_sx _ _,wk_sxL ⟨Wk.refl _,Wk.refl _,wk_sx _ _,trivial⟩,wk_sx _ _,trivial⟩,Wk.refl _,trivial⟩
theorem aw2_std:stdF aw2:=⟨.inr rfl,by kernel_rfl,.inl rfl,by kernel_rfl,by kernel_rfl,by decide,fun t ht=>by
  rcases List.mem_cons.1 ht with h|h
  ·rw [h];exact ⟨by show isVar nX=true;kernel_rfl,by decide⟩
  ·rw [List.mem_singleton.1 h];exact ⟨by show isVar nY=true;kernel_rfl,by decide⟩⟩
theorem aw2_p (s:ByteArray) (a:Int) (h:aw2.hasP s a):nR=s∧a=2:=h
theorem aw2_c (s:ByteArray) (a:Int) (h:aw2.hasC s a):nF=s∧a=1:=by
 obtain ⟨t,ht,h⟩:=h
 rcases List.mem_cons.1 ht with e|e
 ·rw [e] at h;exact h.elim
 ·rw [List.mem_singleton.1 e] at h
  exact h.elim
theorem aw2_v (x:ByteArray) (h:aw2.free x):nX=x:=by
 obtain ⟨⟨⟨t,ht,h⟩,h2⟩,h1⟩:=h
 rcases List.mem_cons.1 ht with e|e
 ·rw [e] at h;exact h
 ·rw [List.mem_singleton.1 e] at h;exact absurd (Eq.symm h) h1
theorem aw2_gd:Gd aw2:=⟨aw2_std,by decide,by decide,fun s a h=>(awR (aw2_p s a h)).1,fun s a h=>(awF (aw2_c s a h)).1,fun x h=>(awX (aw2_v x h)).1⟩
theorem aw2_e (H:Heap):VDet Tryz.prog 18 [.agg [.int .u8 2,.int .i64 2,.nils,.int .i64 0,.sx 1 [.str nR,.int .i64 2,.int .i64 6],.sx 1 [.str nF,.int .i64 1,.sx 2 [.int .i64 1,.int .i64 0]],.sx 1 [.str nX,.int .i64 1]],.agg [.int .u8 9,.str nY,.sl none 0 [],.sl none 1 [.int .u8 8,.str nX,.sl none 0 [],.sl none 1 [.int .u8 1,.str nR,.sl none 2 [.bool true,.str nX,.sl none 0 [],.bool true,.str nY,.sl none 0 []],.sl none 0 []]]]] H (.tup [.bool false,.int .i64 0]):=by
 have h:=evalG_c mAw mAw_sm mAw_nm mAw_v aw2 aw2_gd (by decide) (has_mk (std_ok _ aw2_std) (fun s a h=>(awR (aw2_p s a h)).2) (fun s a h=>(awF (aw2_c s a h)).2) fun x h=>(awX (aw2_v x h)).2) H
 have hb:hv mAw aw2 (bindF mAw)=false:=by kernel_rfl
 rw [hb] at h
 exact VDet.wk h ⟨wk_agg ⟨Wk.refl _,Wk.refl _,wk_nils,Wk.refl _,wk_sx _ _,wk_sxL ⟨Wk.refl _,Wk.refl _,wk_sx _ _,trivial⟩,wk_sx _ _,trivial⟩,Wk.refl _,trivial⟩
theorem aw3_std:stdF aw3:=⟨.inl rfl,by kernel_rfl,by kernel_rfl,by decide,fun t ht=>by
  rcases List.mem_cons.1 ht with h|h
  ·rw [h];exact ⟨by show isVar nX=true;kernel_rfl,by decide⟩
  ·rw [List.mem_singleton.1 h];exact ⟨⟨by kernel_rfl,by show isVar nX=true;kernel_rfl⟩,by decide⟩⟩
theorem aw3_p (s:ByteArray) (a:Int) (h:aw3.hasP s a):nR=s∧a=2:=h
theorem aw3_c (s:ByteArray) (a:Int) (h:aw3.hasC s a):nF=s∧a=1:=by
 obtain ⟨t,ht,h⟩:=h
 rcases List.mem_cons.1 ht with e|e
 ·rw [e] at h;exact h.elim
 ·rw [List.mem_singleton.1 e] at h
  exact h.elim id fun h=>h.elim
theorem aw3_v (x:ByteArray) (h:aw3.free x):nX=x:=by
 obtain ⟨⟨t,ht,h⟩,h2⟩:=h
 rcases List.mem_cons.1 ht with e|e
 ·rw [e] at h;exact h
 ·rw [List.mem_singleton.1 e] at h;exact h
theorem aw3_gd:Gd aw3:=⟨aw3_std,by decide,by decide,fun s a h=>(awR (aw3_p s a h)).1,fun s a h=>(awF (aw3_c s a h)).1,fun x h=>(awX (aw3_v x h)).1⟩
theorem aw3_e (H:Heap):VDet Tryz.prog 18 [.agg [.int .u8 2,.int .i64 2,.nils,.int .i64 0,.sx 1 [.str nR,.int .i64 2,.int .i64 6],.sx 1 [.str nF,.int .i64 1,.sx 2 [.int .i64 1,.int .i64 0]],.sx 1 [.str nX,.int .i64 1]],.agg [.int .u8 8,.str nX,.sl none 0 [],.sl none 1 [.int .u8 1,.str nR,.sl none 2 [.bool true,.str nX,.sl none 0 [],.bool false,.str nF,.sl none 1 [.bool true,.str nX,.sl none 0 []]],.sl none 0 []]]] H (.tup [.bool true,.int .i64 0]):=by
 have h:=evalG_c mAw mAw_sm mAw_nm mAw_v aw3 aw3_gd (by decide) (has_mk (std_ok _ aw3_std) (fun s a h=>(awR (aw3_p s a h)).2) (fun s a h=>(awF (aw3_c s a h)).2) fun x h=>(awX (aw3_v x h)).2) H
 have hb:hv mAw aw3 (bindF mAw)=true:=by kernel_rfl
 rw [hb] at h
 exact VDet.wk h ⟨wk_agg ⟨Wk.refl _,Wk.refl _,wk_nils,Wk.refl _,wk_sx _ _,wk_sxL ⟨Wk.refl _,Wk.refl _,wk_sx _ _,trivial⟩,wk_sx _ _,trivial⟩,Wk.refl _,trivial⟩
theorem aw4_std:stdF aw4:=⟨by kernel_rfl,by decide,fun t ht=>by
  rcases List.mem_cons.1 ht with h|h
  ·rw [h];exact ⟨by show isVar nX=true;kernel_rfl,by decide⟩
  ·rw [List.mem_singleton.1 h];exact ⟨⟨by kernel_rfl,by kernel_rfl,by show isVar nX=true;kernel_rfl⟩,by decide⟩⟩
theorem aw4_p (s:ByteArray) (a:Int) (h:aw4.hasP s a):nR=s∧a=2:=h
theorem aw4_c (s:ByteArray) (a:Int) (h:aw4.hasC s a):nF=s∧a=1:=by
 obtain ⟨t,ht,h⟩:=h
 rcases List.mem_cons.1 ht with e|e
 ·rw [e] at h;exact h.elim
 ·rw [List.mem_singleton.1 e] at h
  exact h.elim id fun h=>h.elim id fun h=>h.elim
theorem aw4_v (x:ByteArray) (h:aw4.free x):nX=x:=by
 obtain ⟨t,ht,h⟩:=h
 rcases List.mem_cons.1 ht with e|e
 ·rw [e] at h;exact h
 ·rw [List.mem_singleton.1 e] at h;exact h
theorem aw4_gd:Gd aw4:=⟨aw4_std,by decide,by decide,fun s a h=>(awR (aw4_p s a h)).1,fun s a h=>(awF (aw4_c s a h)).1,fun x h=>(awX (aw4_v x h)).1⟩
theorem aw4_e (H:Heap):VDet Tryz.prog 18 [.agg [.int .u8 2,.int .i64 2,.nils,.int .i64 0,.sx 1 [.str nR,.int .i64 2,.int .i64 6],.sx 1 [.str nF,.int .i64 1,.sx 2 [.int .i64 1,.int .i64 0]],.sx 1 [.str nX,.int .i64 1]],.agg [.int .u8 1,.str nR,.sl none 2 [.bool true,.str nX,.sl none 0 [],.bool false,.str nF,.sl none 1 [.bool false,.str nF,.sl none 1 [.bool true,.str nX,.sl none 0 []]]],.sl none 0 []]] H (.tup [.bool false,.int .i64 0]):=by
 have h:=evalG_c mAw mAw_sm mAw_nm mAw_v aw4 aw4_gd (by decide) (has_mk (std_ok _ aw4_std) (fun s a h=>(awR (aw4_p s a h)).2) (fun s a h=>(awF (aw4_c s a h)).2) fun x h=>(awX (aw4_v x h)).2) H
 have hb:hv mAw aw4 (bindF mAw)=false:=by kernel_rfl
 rw [hb] at h
 exact VDet.wk h ⟨wk_agg ⟨Wk.refl _,Wk.refl _,wk_nils,Wk.refl _,wk_sx _ _,wk_sxL ⟨Wk.refl _,Wk.refl _,wk_sx _ _,trivial⟩,wk_sx _ _,trivial⟩,Wk.refl _,trivial⟩
def sAw:Sig:=⟨[(nP,1)],[(nA,0)],[]⟩
theorem sAw_sm:sAw.Sm:=⟨by decide,by decide,by decide,fun f hf=>by rw [List.mem_singleton.1 hf];decide,fun f hf=>by rw [List.mem_singleton.1 hf];decide,fun f hf=>by cases hf⟩
theorem sAw_r:sigR sAw=true:=by kernel_rfl
def fiveM:Mdl:=⟨2,2,[],0,[⟨nP,1,2⟩],[⟨nA,0,[1]⟩],[]⟩
theorem five_sm:fiveM.Sm:=⟨by decide,by decide,by decide,by decide,fun f hf=>by rw [List.mem_singleton.1 hf];decide⟩
theorem five_nm:fiveM.Nm:=⟨fun f hf=>by rw [List.mem_singleton.1 hf];decide,fun f hf=>by rw [List.mem_singleton.1 hf];decide,fun f hf=>by cases hf⟩
theorem five_v:validM fiveM=true:=by kernel_rfl
def twoM:Mdl:=⟨2,2,[],0,[⟨nP,1,1⟩],[⟨nA,0,[0]⟩],[]⟩
theorem two_sm:twoM.Sm:=⟨by decide,by decide,by decide,by decide,fun f hf=>by rw [List.mem_singleton.1 hf];decide⟩
theorem two_nm:twoM.Nm:=⟨fun f hf=>by rw [List.mem_singleton.1 hf];decide,fun f hf=>by rw [List.mem_singleton.1 hf];decide,fun f hf=>by cases hf⟩
theorem two_v:validM twoM=true:=by kernel_rfl
theorem p10_ok:PermOk 2 [1,0]:=by
 refine ⟨rfl,fun a ha=>?_,fun a b ha hb h=>?_,fun b hb=>?_⟩
 ·have:a=0∨a=1:=by omega
  rcases this with rfl|rfl <;> decide
 ·have h1:a=0∨a=1:=by omega
  have h2:b=0∨b=1:=by omega
  rcases h1 with rfl|rfl <;> rcases h2 with rfl|rfl <;> first|rfl|exact absurd h (by decide)
 ·have:b=0∨b=1:=by omega
  rcases this with rfl|rfl
  ·exact ⟨1,by omega,rfl⟩
  ·exact ⟨0,by omega,rfl⟩
theorem wkSAW:Wk (.agg [.sx 1 [.str nP,.int .i64 1],.sx 1 [.str nA,.int .i64 0],.nils]) (.agg sAw.cells):=wk_agg ⟨wk_sx _ _,wk_sx _ _,wk_nils,trivial⟩
theorem awake_c (H:Heap):VDet Tryz.prog 12 [] H (.bool true):=by
 have c1:∀ H,VDet Tryz.prog 35 [.agg [.sx 1 [.str nP,.int .i64 1],.sx 1 [.str nA,.int .i64 0],.nils],.int .i64 2] H (.tup [.int .i64 8,.int .i64 0]):=fun H=>VDet.wk (count_c sAw sAw_sm sAw_r 2 (by omega) (by decide) (by decide) (by decide) H) ⟨wkSAW,Wk.refl _,trivial⟩
 have c2:∀ H,VDet Tryz.prog 38 [.agg [.sx 1 [.str nP,.int .i64 1],.sx 1 [.str nA,.int .i64 0],.nils],.int .i64 2,.int .i64 5] H (.tup [.agg [.int .u8 2,.int .i64 2,.sl none 0 [],.int .i64 0,.sl none 1 [.str nP,.int .i64 1,.int .i64 2],.sl none 1 [.str nA,.int .i64 0,.sl none 1 [.int .i64 1]],.sl none 0 []],.int .i64 0]):=fun H=>VDet.wk (nth_c sAw sAw_sm sAw_r 2 (by omega) (by decide) (by decide) (by decide) 5 (by decide) (by decide) H) ⟨wkSAW,Wk.refl _,Wk.refl _,trivial⟩
 have c3:∀ H,VDet Tryz.prog 46 [.agg [.int .u8 2,.int .i64 2,.sl none 0 [],.int .i64 0,.sl none 1 [.str nP,.int .i64 1,.int .i64 2],.sl none 1 [.str nA,.int .i64 0,.sl none 1 [.int .i64 1]],.sl none 0 []],.sx 2 [.int .i64 1,.int .i64 0]] H (.tup [.agg [.int .u8 2,.int .i64 2,.sl none 0 [],.int .i64 0,.sl none 1 [.str nP,.int .i64 1,.int .i64 1],.sl none 1 [.str nA,.int .i64 0,.sl none 1 [.int .i64 0]],.sl none 0 []],.int .i64 0]):=fun H=>VDet.wk (moved1 [⟨nP,1,2⟩] [] 2 [1,0] nA 1 (by omega) (by omega) p10_ok fiveM rfl five_sm five_nm five_v H) ⟨Wk.refl _,wk_sx _ _,trivial⟩
 have c4:∀ H,VDet Tryz.prog 45 [.agg [.int .u8 2,.int .i64 2,.sl none 0 [],.int .i64 0,.sl none 1 [.str nP,.int .i64 1,.int .i64 1],.sl none 1 [.str nA,.int .i64 0,.sl none 1 [.int .i64 0]],.sl none 0 []]] H (.tup [.int .i64 2,.int .i64 0]):=fun H=>number_m twoM two_sm two_nm two_v 2 rfl (by decide) (by decide) (by decide) (by decide) (by decide) H
 have v1:=fun H=>v22_c nX H
 have v2:=fun H=>v22_c nY H
 have a1:∀ H,VDet Tryz.prog 14 [.str nR,.sx 2 [.bool true,.str nX,.sl none 0 [],.bool true,.str nY,.sl none 0 []]] H (.agg [.int .u8 1,.str nR,.sl none 2 [.bool true,.str nX,.sl none 0 [],.bool true,.str nY,.sl none 0 []],.sl none 0 []]):=fun H=>VDet.wk (atom14_c nR 2 [.bool true,.str nX,.sl none 0 [],.bool true,.str nY,.sl none 0 []] (fun m=>by simp [below,belowL]) H) ⟨Wk.refl _,wk_sx _ _,trivial⟩
 have a3:∀ H,VDet Tryz.prog 14 [.str nR,.sx 2 [.bool true,.str nX,.sl none 0 [],.bool false,.str nF,.sl none 1 [.bool true,.str nX,.sl none 0 []]]] H (.agg [.int .u8 1,.str nR,.sl none 2 [.bool true,.str nX,.sl none 0 [],.bool false,.str nF,.sl none 1 [.bool true,.str nX,.sl none 0 []]],.sl none 0 []]):=fun H=>VDet.wk (atom14_c nR 2 [.bool true,.str nX,.sl none 0 [],.bool false,.str nF,.sl none 1 [.bool true,.str nX,.sl none 0 []]] (fun m=>by simp [below,belowL]) H) ⟨Wk.refl _,wk_sx _ _,trivial⟩
 have a4:∀ H,VDet Tryz.prog 14 [.str nR,.sx 2 [.bool true,.str nX,.sl none 0 [],.bool false,.str nF,.sl none 1 [.bool false,.str nF,.sl none 1 [.bool true,.str nX,.sl none 0 []]]]] H (.agg [.int .u8 1,.str nR,.sl none 2 [.bool true,.str nX,.sl none 0 [],.bool false,.str nF,.sl none 1 [.bool false,.str nF,.sl none 1 [.bool true,.str nX,.sl none 0 []]]],.sl none 0 []]):=fun H=>VDet.wk (atom14_c nR 2 [.bool true,.str nX,.sl none 0 [],.bool false,.str nF,.sl none 1 [.bool false,.str nF,.sl none 1 [.bool true,.str nX,.sl none 0 []]]] (fun m=>by simp [below,belowL]) H) ⟨Wk.refl _,wk_sx _ _,trivial⟩
 have f1:∀ H,VDet Tryz.prog 68 [.str nF,.sx 1 [.bool true,.str nX,.sl none 0 []]] H (.agg [.bool false,.str nF,.sl none 1 [.bool true,.str nX,.sl none 0 []]]):=fun H=>VDet.wk (fn68_c nF 1 [.bool true,.str nX,.sl none 0 []] (fun m=>by simp [below,belowL]) H) ⟨Wk.refl _,wk_sx _ _,trivial⟩
 have f2:∀ H,VDet Tryz.prog 68 [.str nF,.sx 1 [.bool false,.str nF,.sl none 1 [.bool true,.str nX,.sl none 0 []]]] H (.agg [.bool false,.str nF,.sl none 1 [.bool false,.str nF,.sl none 1 [.bool true,.str nX,.sl none 0 []]]]):=fun H=>VDet.wk (fn68_c nF 1 [.bool false,.str nF,.sl none 1 [.bool true,.str nX,.sl none 0 []]] (fun m=>by simp [below,belowL]) H) ⟨Wk.refl _,wk_sx _ _,trivial⟩
 have b1:∀ H,VDet Tryz.prog 24 [.int .u8 9,.str nY,.agg [.int .u8 1,.str nR,.sl none 2 [.bool true,.str nX,.sl none 0 [],.bool true,.str nY,.sl none 0 []],.sl none 0 []]] H (.agg [.int .u8 9,.str nY,.sl none 0 [],.sl none 1 [.int .u8 1,.str nR,.sl none 2 [.bool true,.str nX,.sl none 0 [],.bool true,.str nY,.sl none 0 []],.sl none 0 []]]):=fun H=>bound_c 9 nY (Fq.fo (.at_ nR [.vr nX,.vr nY])) H
 have b2:∀ H,VDet Tryz.prog 24 [.int .u8 8,.str nX,.agg [.int .u8 9,.str nY,.sl none 0 [],.sl none 1 [.int .u8 1,.str nR,.sl none 2 [.bool true,.str nX,.sl none 0 [],.bool true,.str nY,.sl none 0 []],.sl none 0 []]]] H (.agg [.int .u8 8,.str nX,.sl none 0 [],.sl none 1 [.int .u8 9,.str nY,.sl none 0 [],.sl none 1 [.int .u8 1,.str nR,.sl none 2 [.bool true,.str nX,.sl none 0 [],.bool true,.str nY,.sl none 0 []],.sl none 0 []]]]):=fun H=>bound_c 8 nX (Fq.fo (.qn 9 nY (.at_ nR [.vr nX,.vr nY]))) H
 have b3:∀ H,VDet Tryz.prog 24 [.int .u8 8,.str nX,.agg [.int .u8 1,.str nR,.sl none 2 [.bool true,.str nX,.sl none 0 [],.bool true,.str nY,.sl none 0 []],.sl none 0 []]] H (.agg [.int .u8 8,.str nX,.sl none 0 [],.sl none 1 [.int .u8 1,.str nR,.sl none 2 [.bool true,.str nX,.sl none 0 [],.bool true,.str nY,.sl none 0 []],.sl none 0 []]]):=fun H=>bound_c 8 nX (Fq.fo (.at_ nR [.vr nX,.vr nY])) H
 have b4:∀ H,VDet Tryz.prog 24 [.int .u8 9,.str nY,.agg [.int .u8 8,.str nX,.sl none 0 [],.sl none 1 [.int .u8 1,.str nR,.sl none 2 [.bool true,.str nX,.sl none 0 [],.bool true,.str nY,.sl none 0 []],.sl none 0 []]]] H (.agg [.int .u8 9,.str nY,.sl none 0 [],.sl none 1 [.int .u8 8,.str nX,.sl none 0 [],.sl none 1 [.int .u8 1,.str nR,.sl none 2 [.bool true,.str nX,.sl none 0 [],.bool true,.str nY,.sl none 0 []],.sl none 0 []]]]):=fun H=>bound_c 9 nY (Fq.fo (.qn 8 nX (.at_ nR [.vr nX,.vr nY]))) H
 have b5:∀ H,VDet Tryz.prog 24 [.int .u8 8,.str nX,.agg [.int .u8 1,.str nR,.sl none 2 [.bool true,.str nX,.sl none 0 [],.bool false,.str nF,.sl none 1 [.bool true,.str nX,.sl none 0 []]],.sl none 0 []]] H (.agg [.int .u8 8,.str nX,.sl none 0 [],.sl none 1 [.int .u8 1,.str nR,.sl none 2 [.bool true,.str nX,.sl none 0 [],.bool false,.str nF,.sl none 1 [.bool true,.str nX,.sl none 0 []]],.sl none 0 []]]):=fun H=>bound_c 8 nX (Fq.fo (.at_ nR [.vr nX,.ap nF (.vr nX)])) H
 refine fn_det Tryz.E0 Tryz.mx Tryz.func12 (by kernel_rfl) rfl (Nat.le_of_ble_eq_true rfl) rfl fun hcl hbl=>?_
 (repeat' ((conv=>whnf);(first|(refine IfN.id ?_;first|refine IfN.not ?_|refine IfN.tt rfl ?_|refine IfN.ff rfl ?_|fail)|(refine EqN.addN _ _ Cst.h Cst.h ?_ ?_;· omega)|(refine SideN.mk ?_ ?_;· first|kernel_rfl|omega|exact List.cons_ne_nil _ _|(simp;done)|(simp;omega)|exact trivial|assumption|fail)|(refine CallN.id ?_;first|refine CallN.det _ (c1 _) ?_|refine CallN.det _ (c2 _) ?_|refine CallN.det _ (c3 _) ?_|refine CallN.det _ (c4 _) ?_|refine CallN.det _ (v1 _) ?_|refine CallN.det _ (v2 _) ?_|fail)|(refine CallD.id ?_;first|refine CallD.det _ (fun _ hq X=>a1 _) ?_|refine CallD.det _ (fun _ hq X=>a3 _) ?_|refine CallD.det _ (fun _ hq X=>a4 _) ?_|refine CallD.det _ (fun _ hq X=>f1 _) ?_|refine CallD.det _ (fun _ hq X=>f2 _) ?_|refine CallD.det _ (fun _ hq X=>b1 _) ?_|refine CallD.det _ (fun _ hq X=>b2 _) ?_|refine CallD.det _ (fun _ hq X=>b3 _) ?_|refine CallD.det _ (fun _ hq X=>b4 _) ?_|refine CallD.det _ (fun _ hq X=>b5 _) ?_|refine CallD.det _ (fun _ hq X=>aw1_e _) ?_|refine CallD.det _ (fun _ hq X=>aw2_e _) ?_|refine CallD.det _ (fun _ hq X=>aw3_e _) ?_|refine CallD.det _ (fun _ hq X=>aw4_e _) ?_|fail)|refine SegN.mk _ (seg_rfl rfl) ?_|refine DrawN.mk' [] ?_|fail)));all_goals (conv=>whnf)
 exact EndN.det trivial (Wk.refl _)
end Go.Proofs.YtgdmldelijeaoaaGreatDoor
/-! text BH41 -/
namespace Go.Proofs.YtgdmldelijeaoaaGreatDoor
open Go.Vsi
set_option maxHeartbeats 4000000
set_option linter.unusedSimpArgs false
attribute [local irreducible] VW VCall VO bits
theorem madN_le (k:Nat):1≤madN k∧madN k≤3:=by
 unfold madN
 have:=Nat.mod_lt k (show 0<3 by omega)
 omega
theorem fqx_ex (p:Fq):∃ o s n1 c1 n2 c2,fqx p=[.int .u8 ((o:Nat):Int),.str s,.sl none n1 c1,.sl none n2 c2]∧∀ n,belowL n c1∧belowL n c2 :=
 ⟨_,_,_,_,_,_,rfl,fun n=>⟨ftl_below n p,fsl_below n p⟩⟩
theorem evalQ (m:Mdl) (hm:m.Sm) (hn:m.Nm) (hva:validM m=true) (p:Fq) (hp:Gd p) (hr:rankF p≤6) (ha:HasAll m) (H:Heap):VDet Tryz.prog 18 [.agg m.cells,.agg (fqx p)] H (.tup [.bool (hv m p (bindF m)),.int .i64 0]):=by
 have:=evalG_c m hm hn hva p hp hr (hp.has ha) H
 rwa [fqx_eq p] at this
end Go.Proofs.YtgdmldelijeaoaaGreatDoor
/-! text BJ41 -/
namespace Go.Proofs.YtgdmldelijeaoaaGreatDoor
open Go.Vsi
set_option maxHeartbeats 4000000
set_option linter.unusedSimpArgs false
attribute [local irreducible] VW VCall VO bits
end Go.Proofs.YtgdmldelijeaoaaGreatDoor
/-! text BK41 -/
namespace Go.Proofs.YtgdmldelijeaoaaGreatDoor
open Go.Vsi
set_option maxHeartbeats 4000000
set_option linter.unusedSimpArgs false
attribute [local irreducible] VW VCall VO bits
def jM (L:Int):Blk:=.box 208 [.bool false,.int .i64 L,.int .i64 9223372036854775807]
theorem jM_below (L:Int) (n:Nat):(jM L).below n:=by simp [jM,Blk.below,belowL,below]
theorem nodeM (H:Heap) (i:Nat) (L:Int) (d:Nat) (hi:H[i]? = some (jM L)) (hL:1≤L∧L≤9223372036854775807) (hd:d≤41):VCall Tryz.prog 220 [.ptr i 0,.int .i64 d] H (setR H i (jM (L-1)) (.bool true)):=by
 unfold jM at hi ⊢
 refine fn_gen Tryz.E0 Tryz.mx Tryz.func220 (by kernel_rfl) rfl (Nat.le_of_ble_eq_true rfl) rfl fun hcl hbl=>?_
 (repeat' ((conv=>whnf);(first|refine IfN.dT (by omega) ?_|refine EqN.i64 (by omega) ?_|refine SetN.mk _ rfl ?_|refine PtrN.base _ (by (repeat' (first|assumption|exact at_loc' _ rfl|exact at_loc0 rfl|refine at_set (B':=?_) ?_|refine at_base' ?_|fail))) ?_|refine DrawN.mk' [] ?_|fail)));all_goals (conv=>whnf)
 all_goals exact EndN.setB (by simp [Blk.below,belowL,below]) trivial (Wk.of_eq (by simp;try omega))
def TermM (t:Tq):Prop:=∀ (H:Heap) (i:Nat) (L:Int) (d:Nat),H[i]? = some (jM L)→(wT t:Int)≤L∧L≤9223372036854775807→d+wT t≤41→VCall Tryz.prog 179 [.ptr i 0,.agg (tqx t),.int .i64 d] H (setR H i (jM (L-wT t)) (.bool true))
theorem termM_vr (s:ByteArray) (hs:isVar s=true):TermM (.vr s):=by
 intro H i L d hi hL hd
 have hL1:(1:Int)≤L:=hL.1
 have hd1:d+1≤41:=hd
 have hv:=fun H=>variable_g s (Nat.le_trans (name_sz hs) (by decide)) H
 rw [hs] at hv
 have hno:=fun X=>nodeM (H++X) i L d (at_base' hi) ⟨hL1,hL.2⟩ (by omega)
 show VCall _ _ [_,.agg [.bool true,.str s,.sl none 0 []],_] _ _
 generalize hB:jM (L-1)=B at hno
 refine fn_gen Tryz.E0 Tryz.mx Tryz.func179 (by kernel_rfl) rfl (Nat.le_of_ble_eq_true rfl) rfl fun hcl hbl=>?_
 (repeat' ((conv=>whnf);(first|(refine IfN.id ?_;first|refine IfN.not ?_|refine IfN.tt rfl ?_|fail)|refine CallN.det _ (hv _) ?_|refine CallN.setB i _ _ _ _ hi rfl rfl (hno _) rfl ?_|refine DrawN.mk' [] ?_|fail)));all_goals (conv=>whnf)
 subst hB
 exact EndN.setB (jM_below _ _) trivial (Wk.refl _)
theorem termM_cn (s:ByteArray) (hs:isFun s=true):TermM (.cn s):=by
 intro H i L d hi hL hd
 have hL1:(1:Int)≤L:=hL.1
 have hd1:d+1≤41:=hd
 have hv:=fun H=>function_g s (Nat.le_trans (name_sz hs) (by decide)) H
 rw [hs] at hv
 have hno:=fun X=>nodeM (H++X) i L d (at_base' hi) ⟨hL1,hL.2⟩ (by omega)
 have ht:∀ X,VCall Tryz.prog 222 [.ptr i 0,.sl none 0 [],.int .i64 ((d:Int)+1)] (H.set i (jM (L-1))++X) (setR (H.set i (jM (L-1))++X) i (jM (L-1)) (.bool true)):=fun X=>by
  have hi2:(H.set i (jM (L-1))++X)[i]? = some (jM (L-1)):=at_base' (at_set hi)
  generalize hB2:H.set i (jM (L-1))++X=H2 at hi2 ⊢
  generalize jM (L-1)=B at hi2 ⊢
  refine fn_gen Tryz.E0 Tryz.mx Tryz.func222 (by kernel_rfl) rfl (Nat.le_of_ble_eq_true rfl) rfl fun hcl hbl=>?_
  (repeat' ((conv=>whnf);(first|refine DrawN.mk' [] ?_|fail)));all_goals (conv=>whnf)
  refine LoopN.rounds Tryz.E0 Tryz.mx 1 rfl ?_
  (repeat' ((conv=>whnf);(first|refine IfN.ff rfl ?_|refine DrawN.mk' [] ?_|fail)));all_goals (conv=>whnf)
  exact EndN.same hi2 trivial (Wk.refl _)
 show VCall _ _ [_,.agg [.bool false,.str s,.sl none 0 []],_] _ _
 generalize hB:jM (L-1)=B at hno ht
 refine fn_gen Tryz.E0 Tryz.mx Tryz.func179 (by kernel_rfl) rfl (Nat.le_of_ble_eq_true rfl) rfl fun hcl hbl=>?_
 (repeat' ((conv=>whnf);(first|(refine IfN.id ?_;first|refine IfN.not ?_|refine IfN.tt rfl ?_|refine IfN.ff rfl ?_|fail)|(refine EqN.addN _ _ Cst.h Cst.h ?_ ?_;· omega)|refine CallN.det _ (hv _) ?_|refine CallN.setB i _ _ _ _ hi rfl rfl (hno _) rfl ?_|refine CallN.setB i _ _ _ _ (at_set hi) (by simp) rfl (ht _) (List.set_set ..) ?_|refine DrawN.mk' [] ?_|fail)));all_goals (conv=>whnf)
 subst hB
 exact EndN.setB (jM_below _ _) trivial (Wk.refl _)
theorem termM_ap (s:ByteArray) (t:Tq) (hs:isFun s=true) (ih:TermM t):TermM (.ap s t):=by
 intro H i L d hi hL hd
 have hw:wT (.ap s t)=wT t+1:=rfl
 rw [hw] at hL hd ⊢
 have hv:=fun H=>function_g s (Nat.le_trans (name_sz hs) (by decide)) H
 rw [hs] at hv
 have hno:=fun X=>nodeM (H++X) i L d (at_base' hi) ⟨by omega,hL.2⟩ (by omega)
 have ht:∀ X,VCall Tryz.prog 222 [.ptr i 0,.sl none 1 (tqx t),.int .i64 ((d:Int)+1)] (H.set i (jM (L-1))++X) (setR (H.set i (jM (L-1))++X) i (jM (L-1-wT t)) (.bool true)):=fun X=>by
  have hi2:(H.set i (jM (L-1))++X)[i]? = some (jM (L-1)):=at_base' (at_set hi)
  generalize hB2:H.set i (jM (L-1))++X=H2 at hi2 ⊢
  have hih:=fun X=>ih (H2++X) i (L-1) (d+1) (at_base' hi2) ⟨by omega,by omega⟩ (by omega)
  unfold tqx at hih ⊢
  generalize hB3:jM (L-1-wT t)=B3 at hih ⊢
  generalize jM (L-1)=B at hi2
  refine fn_gen Tryz.E0 Tryz.mx Tryz.func222 (by kernel_rfl) rfl (Nat.le_of_ble_eq_true rfl) rfl fun hcl hbl=>?_
  (repeat' ((conv=>whnf);(first|refine DrawN.mk' [] ?_|fail)));all_goals (conv=>whnf)
  refine LoopN.rounds Tryz.E0 Tryz.mx 2 rfl ?_
  (repeat' ((conv=>whnf);(first|(refine IfN.id ?_;first|refine IfN.not ?_|refine IfN.tt rfl ?_|refine IfN.ff rfl ?_|fail)|(refine EqN.addN _ _ Cst.h Cst.h ?_ ?_;· omega)|(refine SideN.mk ?_ ?_;· first|kernel_rfl|omega|exact List.cons_ne_nil _ _|(simp;done)|(simp;omega)|exact trivial|assumption|fail)|refine CallN.setB i _ _ _ _ hi2 rfl rfl (hih _) rfl ?_|refine SegN.mk _ (seg_rfl rfl) ?_|refine DrawN.mk' [] ?_|fail)));all_goals (conv=>whnf)
  subst hB3
  exact EndN.setB (jM_below _ _) trivial (Wk.refl _)
 show VCall _ _ [_,.agg [.bool false,.str s,.sl none 1 t.tm.cells],_] _ _
 rw [show t.tm.cells=tqx t from tqc_eq t]
 have e:L-((wT t+1:Nat):Int)=L-1-wT t:=by omega
 rw [e]
 unfold tqx at ht ⊢
 generalize hB:jM (L-1)=B at hno ht
 generalize hB3:jM (L-1-wT t)=B3 at ht ⊢
 refine fn_gen Tryz.E0 Tryz.mx Tryz.func179 (by kernel_rfl) rfl (Nat.le_of_ble_eq_true rfl) rfl fun hcl hbl=>?_
 (repeat' ((conv=>whnf);(first|(refine IfN.id ?_;first|refine IfN.not ?_|refine IfN.tt rfl ?_|refine IfN.ff rfl ?_|fail)|(refine EqN.addN _ _ Cst.h Cst.h ?_ ?_;· omega)|refine CallN.det _ (hv _) ?_|refine CallN.setB i _ _ _ _ hi rfl rfl (hno _) rfl ?_|refine CallN.setB i _ _ _ _ (at_set hi) (by simp) rfl (ht _) (List.set_set ..) ?_|refine DrawN.mk' [] ?_|fail)));all_goals (conv=>whnf)
 subst hB3
 exact EndN.setB (jM_below _ _) trivial (Wk.refl _)
theorem termM:∀ t:Tq,stdT t→TermM t
 | .vr s,h=>termM_vr s h
 | .cn s,h=>termM_cn s h
 | .ap s t,h=>termM_ap s t h.1 (termM t h.2)
theorem term117_c (t:Tq) (ht:stdT t) (hw:wT t≤3) (H:Heap):VDet Tryz.prog 117 [.agg (tqx t)] H (.bool true):=by
 have h:=fun (H:Heap) i hi=>termM t ht H i 9223372036854775807 1 hi ⟨by omega,by omega⟩ (by omega)
 unfold jM at h
 unfold tqx at h ⊢
 refine fn_det Tryz.E0 Tryz.mx Tryz.func117 (by kernel_rfl) rfl (Nat.le_of_ble_eq_true rfl) rfl fun hcl hbl=>?_
 (repeat' ((conv=>whnf);(first|refine CallN.setL 1 _ _ _ rfl rfl (h _ (H.length+1) (at_loc0 rfl)) rfl ?_|refine DrawN.mk' [] ?_|fail)));all_goals (conv=>whnf)
 exact EndN.det trivial (Wk.refl _)
def fT (t:Tq):Fo:=.mk 0 .empty ([t].map Tq.tm) []
theorem predY_fT (t:Tq) (s:Sym):s ∉ predY (fT t):=by
 intro h
 unfold predY at h
 rw [foldY_mem] at h
 rcases h with h|⟨x,hx,h⟩
 ·cases h
 ·unfold fT at hx
  rw [fpart_mk,fparts_nil] at hx
  rw [List.mem_singleton.1 hx] at h
  exact absurd h.1 (by decide)
theorem funY_fT (t:Tq) (s:Sym):s∈funY (fT t)↔t.hasC s.1 s.2:=by
 unfold funY fT
 rw [foldZ_mem,fpart_mk,fparts_nil,ex_cons,no_ex,or_false]
 constructor
 ·rintro (h|h)
  ·cases h
  ·obtain ⟨u,hu,h⟩:=(tqs_parts [t] s).1 h
   rw [List.mem_singleton.1 hu] at h
   exact h
 ·intro h
  exact .inr ((tqs_parts [t] s).2 ⟨t,List.mem_singleton.2 rfl,h⟩)
theorem freeF_fT (t:Tq) (x:ByteArray):x∈freeF (fT t)↔t.hasV x:=by
 unfold freeF fT
 rw [frF_mk,frFs_nil,frTs_mem]
 constructor
 ·rintro (h|⟨⟨u,hu,h⟩,-⟩)
  ·cases h
  ·rw [List.mem_singleton.1 hu] at h
   exact h
 ·intro h
  exact .inr ⟨⟨t,List.mem_singleton.2 rfl,h⟩,rfl⟩
structure GdT (t:Tq):Prop where
 std:stdT t
 w:wT t≤3
 c:∀ s a,t.hasC s a→inC s a
 v:∀ x,t.hasV x→inV x
theorem bTm_gd (k:Nat):GdT (bTm k):=⟨bTm_std _ _,bTm_w3 k,bTm_C _ _,bTm_noV _ _⟩
theorem value58_c (m:Mdl) (hm:m.Sm) (hnm:m.Nm) (hva:validM m=true) (ha:HasAll m) (t:Tq) (ht:GdT t) (H:Heap):VDet Tryz.prog 58 [.agg m.cells,.agg (tqx t)] H (.tup [.int .i64 (tv m (bindF m) t),.int .i64 0]):=by
 obtain ⟨vm,-,-,-⟩:=vm_of hva
 have g1:=fun H=>valid_c m hm hnm H
 rw [hva] at g1
 have g2:=fun H=>term117_c t ht.std ht.w H
 have g3:∀ H,VDet Tryz.prog 118 [.agg t.tm.cells] H (.bool (tmR t.tm)):=fun H=>tr_c t.tm (good_t t ht.std) H
 have l1:(predY (fT t)).length≤0:=len_sub [] _ (predY_nd _) fun x hx=>absurd hx (predY_fT t x)
 have l2:(funY (fT t)).length≤2:=by
  refine len_sub [(nA,0),(nF,1)] _ (funY_nd _) fun x hx=>?_
  have h1:=(funY_fT t x).1 hx
  obtain ⟨s,a⟩:=x
  rcases ht.c _ _ h1 with ⟨q1,q2⟩|⟨q1,q2⟩
  ·have q1:s=nA:=q1
   have q2:((a:Nat):Int)=0:=q2
   have q3:a=0:=by omega
   rw [q1,q3];simp
  ·have q1:s=nF:=q1
   have q2:((a:Nat):Int)=1:=q2
   have q3:a=1:=by omega
   rw [q1,q3];simp
 have l3:(freeF (fT t)).length≤3:=by
  refine len_sub [nX,nY,nZ] _ (freeF_nd _) fun x hx=>?_
  rcases ht.v _ ((freeF_fT t x).1 hx) with e|e|e <;> rw [e] <;> simp
 have hgood:(fT t).good:=⟨by decide,by decide,by show 1≤maxLen;decide,⟨good_t t ht.std,trivial⟩,Nat.zero_le _,trivial⟩
 have hqd:qdF (fT t)≤1000000:=by
  unfold fT
  rw [qdF_mk,qdFs.eq_def]
  decide
 have g4:=fun H=>symbols_c (fT t) hgood (by omega) (by omega) (by omega) hqd H
 have g5:=fun H=>has_c m hm (sigF (fT t)) (by show ((sortY _).map _).length≤_;rw [List.length_map,(sortY_perm _).length_eq];omega) (by show ((sortY _).map _).length≤_;rw [List.length_map,(sortY_perm _).length_eq];omega) (by show (sortB _).length≤_;rw [(sortB_perm _).length_eq];omega) H
 have hh:hasB m (sigF (fT t))=true:=by
  unfold hasB
  rw [Bool.and_eq_true,Bool.and_eq_true,List.all_eq_true,List.all_eq_true,List.all_eq_true]
  refine ⟨fun x hx=>?_,fun x hx=>?_,fun x hx=>?_⟩
  ·obtain ⟨y,hy,rfl⟩:=List.mem_map.1 hx
   exact absurd ((sortY_perm _).mem_iff.1 hy) (predY_fT t y)
  ·obtain ⟨y,hy,rfl⟩:=List.mem_map.1 hx
   exact ha.c _ _ (ht.c _ _ ((funY_fT t y).1 ((sortY_perm _).mem_iff.1 hy)))
  ·exact ha.v _ (ht.v _ ((freeF_fT t x).1 ((sortB_perm _).mem_iff.1 hx)))
 rw [hh] at g5
 rw [tmR_ok t,show t.tm.cells=tqx t from tqc_eq t] at g3
 have g6:=fun H=>valuesOf_c m H
 have g7:=fun H=>value_c m hm _ vm t (values_c m hm) (fun x hx=>by
  obtain ⟨b,hb,-,he⟩:=bind_in (ha.v x (ht.v x hx))
  rw [he]
  exact vm.binds b hb) (fun s a h=>ha.c s a (ht.c s a h)) H
 rw [show t.tm.cells=tqx t from tqc_eq t] at g7
 have hfc:(fT t).cells=[.int .u8 (0:Nat),.str .empty,.sl none 1 (tqx t),.sl none 0 []]:=by
  unfold fT
  rw [Fo.cells_mk]
  show [AV.int .u8 (0:Nat),AV.str .empty,AV.sl none 1 ([t.tm].flatMap Tm.cells),AV.sl none 0 []]=_
  rw [List.flatMap_cons,List.flatMap_nil,List.append_nil,show t.tm.cells=tqx t from tqc_eq t]
 rw [hfc] at g4
 obtain ⟨sp,sc,sfu,sfc,sv,svc,hsc,hsb⟩:∃ a b c d e f,(sigF (fT t)).cells=[.sl none a b,.sl none c d,.sl none e f]∧∀ n,belowL n b∧belowL n d∧belowL n f:=⟨_,_,_,_,_,_,rfl,fun n=>⟨symIs_below n _,symIs_below n _,strs_below n _⟩⟩
 rw [hsc] at g4 g5
 have hwb:∀ n,belowL n (tql t):=fun n=>tql_below n t
 have g4:∀ H,VDet Tryz.prog 74 [.sx 1 [.int .u8 0,.str .empty,.sx 1 (tqx t),.nils]] H (.agg [.sl none sp sc,.sl none sfu sfc,.sl none sv svc]):=fun H=>VDet.wk (g4 H) ⟨wk_sxL ⟨Wk.refl _,Wk.refl _,wk_sx _ _,wk_nils,trivial⟩,trivial⟩
 obtain ⟨e1,e2,e3,e4,e5,e6,e7,e8,e9,e10,e11,hmc,hb⟩:=mdl_ex m
 generalize tv m (bindF m) t=V at g7 ⊢
 rw [hmc] at g1 g5 g6 g7 ⊢
 unfold tqx at g2 g3 g4 g7 ⊢
 generalize tql t=tl at g2 g3 g4 g7 hwb ⊢
 refine fn_det Tryz.E0 Tryz.mx Tryz.func58 (by kernel_rfl) rfl (Nat.le_of_ble_eq_true rfl) rfl fun hcl hbl=>?_
 (repeat' ((conv=>whnf);(first|(refine IfN.id ?_;first|refine IfN.not ?_|refine IfN.tt rfl ?_|fail)|(refine SideN.mk ?_ ?_;· first|kernel_rfl|omega|exact List.cons_ne_nil _ _|(simp;done)|(simp;omega)|exact trivial|assumption|fail)|(refine CallN.id ?_;first|refine CallN.det _ (g1 _) ?_|refine CallN.det _ (g2 _) ?_|refine CallN.det _ (g3 _) ?_|fail)|(refine CallD.id ?_;first|refine CallD.det _ (fun _ hq X=>g4 _) ?_|refine CallD.det _ (fun _ hq X=>g5 _) ?_|refine CallD.det _ (fun _ hq X=>g6 _) ?_|refine CallD.det _ (fun _ hq X=>g7 _) ?_|fail)|refine DrawN.mk' [] ?_|fail)));all_goals (conv=>whnf)
 exact EndN.det (by simp [below,belowL]) (Wk.refl _)
end Go.Proofs.YtgdmldelijeaoaaGreatDoor
/-! text BL41 -/
namespace Go.Proofs.YtgdmldelijeaoaaGreatDoor
open Go.Vsi
set_option maxHeartbeats 4000000
set_option linter.unusedSimpArgs false
attribute [local irreducible] VW VCall VO bits
theorem bk_rep (n:Nat) (p:List Nat):(bkP n p 0).flatMap encN=repC n [.int .i64 0]:=by
 have:=rep_enc n p 1 (List.replicate n 0)
 unfold movV at this
 rw [List.length_replicate] at this
 exact this
theorem funcs_mov (n:Nat) (p:List Nat) (c0 c1:ByteArray) (v0:Nat) (vl:List Nat):[(⟨c0,0,[((v0:Nat):Int)]⟩:Fnc),⟨c1,1,vl.map Int.ofNat⟩].map (movFnc n p)=[⟨c0,0,[((p.getD v0 0:Nat):Int)]⟩,⟨c1,1,(movV n p 1 vl n).map Int.ofNat⟩]:=by
 have e:(vl.map Int.ofNat).map Int.toNat=vl:=by
  rw [List.map_map]
  exact (List.map_congr_left fun x _=>rfl).trans (List.map_id _)
 show [movFnc n p ⟨c0,0,[((v0:Nat):Int)]⟩,movFnc n p ⟨c1,1,vl.map Int.ofNat⟩]=_
 have e2:movFnc n p ⟨c1,1,vl.map Int.ofNat⟩=⟨c1,1,(movV n p 1 vl n).map Int.ofNat⟩:=by
  show (⟨c1,1,(movV n p 1 ((vl.map Int.ofNat).map Int.toNat) (n ^ 1)).map Int.ofNat⟩:Fnc)=_
  rw [e,Nat.pow_one]
 rw [e2]
 rfl
theorem hv_movB {m:Mdl} {n:Nat} (vm:VM m n) (ha:HasAll m) {p:List Nat} (hp:PermOk n p) {f:Fq} (hf:symF f):hv (movM n p m) f (bindF (movM n p m))=hv m f (bindF m) :=
 hv_mov vm hp f _ _ (fun x hx=>by
  have hb:=ha.v x (hf.v x hx)
  obtain ⟨b,hb1,-,he⟩:=bind_in hb
  have:=vm.binds b hb1
  rw [he]
  exact ⟨this.1,this.2,by rw [bind_mov hb,he]⟩) (fun s a h=>ha.c s a (hf.c s a h)) fun s a h=>ha.p s a (hf.p s a h)
theorem tv_movB {m:Mdl} {n:Nat} (vm:VM m n) (ha:HasAll m) {p:List Nat} (hp:PermOk n p) {t:Tq} (ht:GdT t):tv (movM n p m) (bindF (movM n p m)) t=pa p (tv m (bindF m) t)∧0≤tv m (bindF m) t∧tv m (bindF m) t<n:=by
 have hb:∀ x,t.hasV x→0≤bindF m x∧bindF m x<n∧bindF (movM n p m) x=pa p (bindF m x):=fun x hx=>by
  have hb:=ha.v x (ht.v x hx)
  obtain ⟨b,hb1,-,he⟩:=bind_in hb
  have:=vm.binds b hb1
  rw [he]
  exact ⟨this.1,this.2,by rw [bind_mov hb,he]⟩
 exact ⟨tv_mov vm hp t hb (fun s a h=>ha.c s a (ht.c s a h)),tv_in vm t (fun x hx=>⟨(hb x hx).1,(hb x hx).2.1⟩) fun s a h=>ha.c s a (ht.c s a h)⟩
theorem moves_c (k:Nat) (hk:k≤255) (w:Nat→Nat) (hw:∀ i,w i≤65535) (l:List Nat) (hl:l.length≤9223372036854775807) (hb:∀ i,i<l.length→l.getD i 0≤255) (wh:Nat) (hwh:wh≤255) (tb:Nat) (htb:tb≤255) (H:Heap) :
  VDet Tryz.prog 10 [.int .u8 (k:Nat),.agg (cW w),.sl none l.length (l.flatMap encB),.int .u8 (wh:Nat),.int .u8 (tb:Nat)] H (.bool true):=by
 have hMd:=fun H=>made_c k hk w hw H
 have hBl:=fun H=>built15_c l hl hb H
 have hn:=madN_le k
 have hPm:=fun H=>perm_c (madN k) wh hn hwh H
 have hTm:=fun H=>term67_c tb htb H
 have hsm:(mad k w).Sm:=madW_sm (madN k) hn w
 have hnm:(mad k w).Nm:=madW_nm (madN k) w
 have hva:validM (mad k w)=true:=madW_valid (madN k) hn w
 have hal:HasAll (mad k w):=madW_all (madN k) w
 have hgd:=blt_gd l
 have hrk:=blt_rank l
 generalize hp:bltF l=p at hBl hgd hrk
 have hpo:=permN_ok (madN k) wh hn
 have hpl:=hpo.len
 generalize hPP:permN (madN k) wh=P at hPm hpo hpl
 have hgt:=bTm_gd tb
 generalize htt:bTm tb=t at hTm hgt
 obtain ⟨fa,bi,v0,vl,hme,hv0,hvl,hvlt⟩:∃ (fa:List Fct) (bi:List Bnd) (v0:Nat) (vl:List Nat),mad k w=⟨2,(madN k:Nat),[],0,fa,[⟨nA,0,[((v0:Nat):Int)]⟩,⟨nF,1,vl.map Int.ofNat⟩],bi⟩∧v0<madN k∧vl.length=madN k∧∀ v∈vl,v<madN k :=
  ⟨(mad k w).facts,(mad k w).binds,w 3 % madN k,(List.range (madN k)).map fun i=>w 4 / 2 ^ (4 * i) % 16 % madN k,by rw [List.map_map];rfl,Nat.mod_lt _ (by omega),by rw [List.length_map,List.length_range],fun v hv=>by
    obtain ⟨i,-,rfl⟩:=List.mem_map.1 hv
    exact Nat.mod_lt _ (by omega)⟩
 generalize mad k w=m at hMd hsm hnm hva hal hme
 generalize madN k=n at *
 have hsz:m.size=n:=by rw [hme]
 obtain ⟨vm,-,-,-⟩:=vm_of hva
 have hnt:m.size.toNat=n:=by omega
 rw [hnt] at vm
 have hqo:=bkP_ok hpo
 have hql:=hqo.len
 have hva1:=valid_mov hva hsz hpo
 have hsm1:=mov_sm (n:=n) (p:=P) hsm
 have hnm1:=mov_nm (n:=n) (p:=P) hnm
 have hal1:=mov_all (n:=n) (p:=P) hal
 have vm1:=mov_ok vm hpo
 have hsz1:(movM n P m).size=n:=hsz
 have hva2:=valid_mov hva1 hsz1 hqo
 have hm1e:movM n P m=⟨2,(n:Nat),[],0,fa.map (movFct n P),[⟨nA,0,[((P.getD v0 0:Nat):Int)]⟩,⟨nF,1,(movV n P 1 vl n).map Int.ofNat⟩],bi.map (movBnd P)⟩:=by
  rw [hme]
  unfold movM
  simp only
  rw [funcs_mov]
 have g1:∀ H,VDet Tryz.prog 46 [.agg m.cells,.sl none n (P.flatMap encN)] H (.tup [.agg (movM n P m).cells,.int .i64 0]):=fun H=>by
  have:=moved2 fa bi n P nA v0 nF vl hn hv0 hvl hvlt hpo m hme hsm hnm hva H
  rwa [hpl] at this
 have g2:∀ (H:Heap) (i:Nat),H[i]? = some (.box 3 ((bkP n P n).flatMap encN))→VCall Tryz.prog 46 [.agg (movM n P m).cells,.ms i 0 n] H (setR H i .dead (.tup [.agg (movM n (bkP n P n) (movM n P m)).cells,.int .i64 0])):=fun H i hi =>
  VCall.mono (VDet.give (as':=[.agg (movM n P m).cells,.sl none n ((bkP n P n).flatMap encN)]) (fun H=>by
   have:=moved2 (fa.map (movFct n P)) (bi.map (movBnd P)) n (bkP n P n) nA (P.getD v0 0) nF (movV n P 1 vl n) hn (hpo.lt v0 hv0) (by rw [movV_len];exact hvl) (movV_lt (by omega) hpo hvlt (by rw [Nat.pow_one];exact hvl) n (by rw [Nat.pow_one];exact Nat.le_refl _)) hqo (movM n P m) hm1e hsm1 hnm1 hva1 H
   rwa [hql] at this) hi (.same (.ms .nil))) fun r H' h=>⟨h.2,h.1⟩
 have e1:∀ H,VDet Tryz.prog 18 [.agg m.cells,.agg (fqx p)] H (.tup [.bool (hv m p (bindF m)),.int .i64 0]):=fun H=>evalQ m hsm hnm hva p hgd (by omega) hal H
 have e2:∀ H,VDet Tryz.prog 18 [.agg (movM n P m).cells,.agg (fqx p)] H (.tup [.bool (hv m p (bindF m)),.int .i64 0]):=fun H=>by
  have:=evalQ (movM n P m) hsm1 hnm1 hva1 p hgd (by omega) hal1 H
  rwa [hv_movB vm hal hpo hgd.sym] at this
 have e3:∀ H,VDet Tryz.prog 18 [.agg (movM n (bkP n P n) (movM n P m)).cells,.agg (fqx p)] H (.tup [.bool (hv m p (bindF m)),.int .i64 0]):=fun H=>by
  have:=evalQ (movM n (bkP n P n) (movM n P m)) (mov_sm hsm1) (mov_nm hnm1) hva2 p hgd (by omega) (mov_all hal1) H
  rwa [hv_movB vm1 hal1 hqo hgd.sym,hv_movB vm hal hpo hgd.sym] at this
 obtain ⟨t1,t2,t3⟩:=tv_movB vm hal hpo hgt
 have u1:=fun H=>value58_c m hsm hnm hva hal t hgt H
 have u2:=fun H=>value58_c (movM n P m) hsm1 hnm1 hva1 hal1 t hgt H
 rw [t1] at u2
 have w1:=fun H=>valid_c (movM n P m) hsm1 hnm1 H
 rw [hva1] at w1
 obtain ⟨xn,hxn⟩:∃ xn:Nat,tv m (bindF m) t=xn:=⟨(tv m (bindF m) t).toNat,by omega⟩
 have hxlt:xn<n:=by omega
 have hpa:pa P ((xn:Nat):Int)=(P.getD xn 0:Nat):=rfl
 rw [hxn] at u1 u2
 rw [hpa] at u2
 obtain ⟨un,uc,bn,bc,hmc,hub,hbb⟩:∃ un uc bn bc,m.cells=[.int .u8 2,.int .i64 (n:Nat),.sl none 0 [],.int .i64 0,.sl none fa.length (fa.flatMap Fct.cells),.sl none un uc,.sl none bn bc]∧(∀ n,belowL n uc)∧∀ n,belowL n bc:=by
  rw [hme]
  exact ⟨_,_,_,_,rfl,fun n=>fncs_below n _,fun n=>bnds_below n _⟩
 obtain ⟨f1,un1,uc1,bn1,bc1,hmc1,h1b,h2b,h3b⟩:∃ f1 un uc bn bc,(movM n P m).cells=[.int .u8 2,.int .i64 (n:Nat),.sl none 0 [],.int .i64 0,.sl none fa.length f1,.sl none un uc,.sl none bn bc]∧(∀ n,belowL n f1)∧(∀ n,belowL n uc)∧∀ n,belowL n bc:=by
  rw [hm1e]
  refine ⟨_,_,_,_,_,by unfold Mdl.cells;rw [List.length_map];rfl,fun n=>fcts_below n _,fun n=>fncs_below n _,fun n=>bnds_below n _⟩
 obtain ⟨un2,uc2,bn2,bc2,hmc2,h4b,h5b⟩:∃ un uc bn bc,(movM n (bkP n P n) (movM n P m)).cells=[.int .u8 2,.int .i64 (n:Nat),.sl none 0 [],.int .i64 0,.sl none fa.length (fa.flatMap Fct.cells),.sl none un uc,.sl none bn bc]∧(∀ n,belowL n uc)∧∀ n,belowL n bc:=by
  have hf:=facts_back vm hpo hqo (bkP_back hpo)
  have hfa:m.facts=fa:=by rw [hme]
  rw [hfa] at hf
  have hk2:m.kind=2:=by rw [hme]
  refine ⟨(movM n (bkP n P n) (movM n P m)).funcs.length,(movM n (bkP n P n) (movM n P m)).funcs.flatMap Fnc.cells,(movM n (bkP n P n) (movM n P m)).binds.length,(movM n (bkP n P n) (movM n P m)).binds.flatMap Bnd.cells,?_,fun n=>fncs_below n _,fun n=>bnds_below n _⟩
  unfold Mdl.cells
  rw [hf]
  show [AV.int .u8 m.kind,AV.int .i64 m.size,_,_,_,_,_]=_
  rw [hk2,hsz]
  rfl
 have hfl:fa.length≤1000000:=by have:=hsm.facts;rw [hme] at this;exact this
 generalize movM n (bkP n P n) (movM n P m)=m2 at g2 e3 hmc2
 generalize movM n P m=m1 at g1 g2 e2 u2 w1 hmc1
 generalize hv m p (bindF m)=V at e1 e2 e3
 clear hme hsm hnm hva hal vm hva1 hsm1 hnm1 hal1 vm1 hm1e hsz hsz1 hva2 t1 t2 t3 hxn hnt
 simp only [hmc] at hMd g1 e1 u1
 simp only [hmc1] at g1 g2 e2 u2 w1
 simp only [hmc2] at g2 e3
 obtain ⟨o,s,n1,c1,n2,c2,hqe,hpb⟩:=fqx_ex p
 rw [hqe] at hBl
 simp only [hqe] at e1 e2 e3
 have hwb:∀ n,belowL n (tql t):=fun n=>tql_below n t
 unfold tqx at hTm u1 u2
 cases V
 all_goals
  refine fn_det Tryz.E0 Tryz.mx Tryz.func10 (by kernel_rfl) rfl (Nat.le_of_ble_eq_true rfl) rfl fun hcl hbl=>?_
  (repeat' ((conv=>whnf);(first|refine OrN.natL ?_|(refine IfN.id ?_;first|refine IfN.not ?_|refine IfN.tt rfl ?_|fail)|(refine SideN.mk ?_ ?_;· first|kernel_rfl|omega|exact List.cons_ne_nil _ _|(simp;done)|(simp;omega)|exact trivial|assumption|fail)|refine NatN.mk _ rfl ?_|(refine CallN.id ?_;first|refine CallN.det _ (awake_c _) ?_|refine CallN.det _ (hMd _) ?_|refine CallN.det _ (hBl _) ?_|refine CallN.det _ (hPm _) ?_|fail)|refine OrN.r ?_|refine DrawN.mk' [] ?_|fail)));all_goals (conv=>whnf)
  refine loop_R Tryz.E0 Tryz.mx (σ:=Nat) (fun k=>k≤n) (fun k=>n-k) (fun k=>[(48,.v (.int .i64 k))]) (fun k=>[.box 47 (cW w),.box 37 [.int .u8 2,.int .i64 (n:Nat),.sl none 0 [],.int .i64 0,.sl none fa.length (fa.flatMap Fct.cells),.sl none un uc,.sl none bn bc],.box 29 [.int .u8 (o:Nat),.str s,.sl none n1 c1,.sl none n2 c2],.box 3 ((bkP n P k).flatMap encN)]) _ 0 rfl hcl [4,11,12,13,14,46,47] rfl (Nat.zero_le _) ⟨⟨_,rfl,Wk.refl _⟩,trivial⟩ (by rw [bk_rep n P]) (fun _ _=>rfl) ?_
  intro kk hkk
  rcases Nat.lt_or_ge kk n with hlt|hge
  ·have hPk:P.getD kk 0<n:=hpo.lt kk hlt
   have hset:setC ((bkP n P kk).flatMap encN) (0+((P.getD kk 0:Nat):Int).toNat * 1) [.int .i64 (kk:Nat)]=some ((bkP n P (kk+1)).flatMap encN):=by
    rw [Int.toNat_natCast,Nat.zero_add,Nat.mul_one]
    exact set_enc _ _ _ (by rw [bkP_len];exact hPk)
   have hst:storeS Tryz.T 3 [.box 47 (cW w),.box 37 [.int .u8 2,.int .i64 (n:Nat),.sl none 0 [],.int .i64 0,.sl none fa.length (fa.flatMap Fct.cells),.sl none un uc,.sl none bn bc],.box 29 [.int .u8 (o:Nat),.str s,.sl none n1 c1,.sl none n2 c2],.box 3 ((bkP n P kk).flatMap encN)] (some (.lp 3 (0+((P.getD kk 0:Nat):Int).toNat * 1))) (some (.int .i64 (kk:Nat)))=.upd 3 (.box 3 ((bkP n P (kk+1)).flatMap encN)) none:=storeS_box rfl rfl rfl rfl hset
   (repeat' ((conv=>whnf);(first|refine IfN.dT (by omega) ?_|(refine EqN.addN _ _ Cst.h Cst.h ?_ ?_;· omega)|(refine SideN.mk ?_ ?_;· first|kernel_rfl|omega|exact List.cons_ne_nil _ _|(simp;done)|(simp;omega)|exact trivial|assumption|fail)|refine SegN.nth (f:=encN) 0 kk rfl (by omega) (fun _=>rfl) ?_|refine Eq.mpr (congrArg (@SR.rec (fun _=>Prop) _ _ _ _ _ _ _ _ _ _ _ _ _ _ _ _ _ _ _ _ _) hst) ?_|refine PtrN.loc _ rfl ?_|refine OfsN.at_ (by omega) ?_|refine DrawN.mk' [] ?_|fail)));all_goals (conv=>whnf)
   (refine ⟨⟨kk+1,by show kk+1≤_;omega,by omega,?_,.inl ⟨rfl,rfl⟩,rfl,_,rfl,?_⟩⟩;rotate_left 1;(first|exact .inl rfl|exact .inr ⟨by simp [belowRE,below,belowL,tr,i64_below,encN_below,hfb,hub,hbb,hpb,hwb,h1b,h2b,h3b,h4b,h5b,fcts_below],by simp [belowH,Blk.below,belowL,below,i64_below,encN_below,hfb,hub,hbb,hpb,hwb,h1b,h2b,h3b,h4b,h5b,fcts_below]⟩|fail);(repeat' (first|exact trivial|refine ⟨⟨_,rfl,?_⟩,?_⟩|fail));all_goals try (first|exact Wk.refl _|exact Wk.of_eq (congrArg (AV.int _) (by omega))|fail))
  ·have hke:n=kk:=by omega
   subst hke
   (repeat' ((conv=>whnf);(first|(refine IfN.id ?_;first|refine IfN.not ?_|refine IfN.tt rfl ?_|refine IfN.ff rfl ?_|refine IfN.dT (by omega) ?_|refine IfN.dF (by omega) ?_|fail)|(refine EqN.addN _ _ Cst.h Cst.h ?_ ?_;· omega)|(refine SideN.mk ?_ ?_;· first|kernel_rfl|omega|exact List.cons_ne_nil _ _|(simp;done)|(simp;omega)|exact trivial|assumption|fail)|(refine CallN.id ?_;first|refine CallN.det _ (g1 _) ?_|refine CallN.det _ (e1 _) ?_|refine CallN.det _ (e2 _) ?_|refine CallN.det _ (e3 _) ?_|refine CallN.det _ (w1 _) ?_|fail)|(refine CallD.id ?_;first|refine CallD.det _ (fun _ hq X=>hTm _) ?_|refine CallD.det _ (fun _ hq X=>u1 _) ?_|refine CallD.det _ (fun _ hq X=>u2 _) ?_|fail)|refine CallN.setL 3 _ _ _ rfl rfl (g2 _ (H.length+3) (at_loc0 rfl)) rfl ?_|refine SegN.nth (f:=encN) 0 xn rfl (by omega) (fun _=>rfl) ?_|refine DrawN.mk' [] ?_|fail)));all_goals (conv=>whnf)
   refine loop_R Tryz.E0 Tryz.mx (σ:=Nat) (fun j=>j≤fa.length) (fun j=>fa.length-j) (fun j=>[(152,.v (.int .i64 j))]) (fun _=>_) _ 0 rfl hcl [11,17,19,151] rfl (Nat.zero_le _) ⟨⟨_,rfl,Wk.refl _⟩,trivial⟩ rfl (fun _ _=>rfl) ?_
   intro j hj
   rcases Nat.lt_or_ge j fa.length with hjl|hjg
   ·obtain ⟨u,v,z,hx,ex⟩:=fct_ex (f:=fa.getD j fct0) rfl
    have hE:(u.toList==u.toList&&(v==v&&(z==z&&true)))=true:=by simp
    (repeat' ((conv=>whnf);(first|(refine IfN.id ?_;first|refine IfN.ff (congrArg not hE) ?_|refine IfN.dT (by omega) ?_|fail)|(refine EqN.addN _ _ Cst.h Cst.h ?_ ?_;· omega)|(refine SideN.mk ?_ ?_;· first|kernel_rfl|omega|exact List.cons_ne_nil _ _|(simp;done)|(simp;omega)|exact trivial|assumption|fail)|refine SegN.nthE fct0 j rfl (by omega) fct_size ex ?_|refine DrawN.mk' [] ?_|fail)));all_goals (conv=>whnf)
    (refine ⟨⟨j+1,by show j+1≤_;omega,by omega,?_,.inl ⟨rfl,rfl⟩,rfl,_,rfl,?_⟩⟩;rotate_left 1;(first|exact .inl rfl|exact .inr ⟨by simp [belowRE,below,belowL,tr,i64_below,encN_below,hfb,hub,hbb,hpb,hwb,h1b,h2b,h3b,h4b,h5b,fcts_below],by simp [belowH,Blk.below,belowL,below,i64_below,encN_below,hfb,hub,hbb,hpb,hwb,h1b,h2b,h3b,h4b,h5b,fcts_below]⟩|fail);(repeat' (first|exact trivial|refine ⟨⟨_,rfl,?_⟩,?_⟩|fail));all_goals try (first|exact Wk.refl _|exact Wk.of_eq (congrArg (AV.int _) (by omega))|fail))
   ·have hje:fa.length=j:=by omega
    subst hje
    (repeat' ((conv=>whnf);(first|(refine IfN.id ?_;first|refine IfN.dT (by omega) ?_|refine IfN.dF (by omega) ?_|fail)|refine DrawN.mk' [] ?_|fail)));all_goals (conv=>whnf)
    exact EndN.det trivial (Wk.of_eq (congrArg AV.bool (by simp)))
end Go.Proofs.YtgdmldelijeaoaaGreatDoor
/-! text DZ41 -/
namespace Go.Proofs.YtgdmldelijeaoaaGreatDoor
open Go.ChangeShapes Go.WideShapes Go.ChangeAt Go.RowKit Go.Vsi
theorem mrel_of {g:G} {W:World} {b:Nat} (hg:∀ b o,¬ g.own b o):∀ (l:List AV) (cs:List Value) (o:Nat),LRel g W l cs→(∀ (i:Nat) c,cs[i]? = some c→W.cell? ⟨b,o+i,.none⟩=some c)→MRel g W l b o
 | [],_,_,_,_=>trivial
 | v::l,cs,o,h,hc=>by
   simp only [LRel] at h
   obtain ⟨c,r,rfl,h1,h2⟩:=h
   refine ⟨⟨c,by simpa using hc 0 c rfl,h1,hg _ _⟩,?_⟩
   exact mrel_of hg l r (o+1) h2 fun i c' hi=>by
    have:=hc (i+1) c' (by simpa using hi)
    rwa [show o+(i+1)=o+1+i by omega] at this
theorem mone {W:World} {n:String} {gi:Nat} {ty:TypeId} {T:Ty} {D:DataW Unit} {cells:List AV} {g0:Nat} {t0:TypeId} {cs0:Array Value} {f0:Nat} {p0:List MemPlace}
  (hg:Tryz.prog.globalNamed n=some gi) (ht:(Tryz.prog.globals[gi]?).map (·.type)=some ty) (hty:TyOk Tryz.prog ty T) (hpl:PlTy T) (hD:∃ l',DatOf (H:=Unit) D l'∧l'=cells)
  (hg0:Tryz.prog.globalNamed n=some g0) (ht0:(Tryz.prog.globals[g0]?).map (·.type)=some t0) (hv0:W.var? Tryz.prog n=some cs0) (hd0:DataW.trod (fun _=>()) Tryz.prog W 0 (fun _=>true) false f0 t0 cs0.toList=some (D,p0)):MRel G.none W cells gi 0:=by
 obtain rfl:=Option.some.inj (hg.symm.trans hg0)
 obtain rfl:=Option.some.inj (ht.symm.trans ht0)
 obtain ⟨l,h1,h2⟩:=trod_dat (g:=G.none) _ hpl hty hd0
 obtain ⟨l',hl1,hl2⟩:=hD
 have hll:l=cells:=(DatOf.det h1 hl1).trans hl2
 rw [← hll]
 refine mrel_of (fun _ _ h=>h) l cs0.toList 0 h2 fun i c hi=>?_
 have:=World.var?_cell hg0 hv0 i
 rw [Nat.zero_add,this]
 simpa using hi
theorem gl_of_laid {W:World} (h:laidMetH Tryz.prog [("lyceum/syntax.rows",Rows.laid_lyceum_syntax_rows)] W):∀ p∈Glob.gl,MRel G.none W p.2 p.1 0:=by
 rw [MakeChecks.laidMetH_plain _ _ _ (by kernel_rfl)] at h
 obtain ⟨ps,⟨g0,t0,cs0,f0,p0,q0,hg0,ht0,hv0,hd0,_⟩,_⟩:=h
 have m0:MRel G.none W (Tryz.gl[0]).2 1 0:=mone (T:=repTy 17 (.pair .bool (.pair .bool (.pair (.int .u8) (.pair (.int .i64) (.pair (.int .i64) .unit)))))) (ty:=239) (by kernel_rfl) (by kernel_rfl) (tyOf_ok Tryz.T_ok 12 239 _ (by kernel_rfl)) (by simp [repTy,PlTy]) ⟨_,by unfold Rows.laid_lyceum_syntax_rows;repeat constructor,by kernel_rfl⟩ hg0 ht0 hv0 hd0
 intro p hp
 have hp0:p=Tryz.gl[0]:=by
  have:p∈Tryz.gl:=hp
  simpa [Tryz.gl] using this
 subst hp0
 exact m0
theorem u8_nat {n:Int} (h:(Lit.int .u8 n).wf=true):∃ m:Nat,n=m∧m≤255:=⟨n.toNat,by have:=wf_u8 h;omega,by have:=wf_u8 h;omega⟩
theorem u16_nat {n:Int} (h:(Lit.int .u16 n).wf=true):∃ m:Nat,n=m∧m≤65535:=⟨n.toNat,by have:=wf_u16 h;omega,by have:=wf_u16 h;omega⟩
theorem bytes_nat {l:List Int} (h:l.length≤maxLen∧∀ x∈l,(Lit.int .u8 x).wf=true):∃ c:List Nat,l=c.map (fun n:Nat=>(n:Int))∧c.length≤9223372036854775807∧∀ i,i<c.length→c.getD i 0≤255:=by
 refine ⟨l.map Int.toNat,?_,by simpa using maxLen_le h.1,fun i hi=>?_⟩
 ·rw [List.map_map]
  refine (List.map_id' l).symm.trans (List.map_congr_left fun x hx=>?_)
  have:=wf_u8 (h.2 x hx)
  simp only [Function.comp]
  omega
 ·have hi':i<l.length:=by simpa using hi
  have:=wf_u8 (h.2 _ (List.getElem_mem hi'))
  simp only [List.getD_eq_getElem?_getD,List.getElem?_map,List.getElem?_eq_getElem hi',Option.map_some,Option.getD_some]
  omega
theorem bytes_len (c:List Nat):List.length (α:=Ty.I (.int .u8)) (c.map fun n:Nat=>(n:Int))=c.length:=List.length_map ..
theorem bytes_enc (c:List Nat):List.flatMap (α:=Ty.I (.int .u8)) (Ty.enc (.int .u8)) (c.map fun n:Nat=>(n:Int))=c.flatMap fun n:Nat=>[.int .u8 (n:Int)]:=by
 induction c with
 | nil=>rfl
 | cons x c ih=>rw [List.flatMap_cons,← ih];rfl
theorem bytes_cast (c:List Nat) (p:AV→Prop) (h:p (.sl none c.length (c.flatMap fun n:Nat=>[.int .u8 (n:Int)]))):p (.sl none (List.length (α:=Ty.I (.int .u8)) (c.map fun n:Nat=>(n:Int))) (List.flatMap (α:=Ty.I (.int .u8)) (Ty.enc (.int .u8)) (c.map fun n:Nat=>(n:Int)))):=by
 rw [bytes_len,bytes_enc];exact h
def ty47w:Ty:=repTy 8 (.int .u16)
theorem words8 {x:ty47w.I} (h:ty47w.good x):∃ w:Nat→Nat,(∀ i,w i≤65535)∧ty47w.enc x=[.int .u16 (w 0:Nat),.int .u16 (w 1:Nat),.int .u16 (w 2:Nat),.int .u16 (w 3:Nat),.int .u16 (w 4:Nat),.int .u16 (w 5:Nat),.int .u16 (w 6:Nat),.int .u16 (w 7:Nat)]:=by
 obtain ⟨a0,e0,h0⟩:=u16_nat h.1
 obtain ⟨a1,e1,h1⟩:=u16_nat h.2.1
 obtain ⟨a2,e2,h2⟩:=u16_nat h.2.2.1
 obtain ⟨a3,e3,h3⟩:=u16_nat h.2.2.2.1
 obtain ⟨a4,e4,h4⟩:=u16_nat h.2.2.2.2.1
 obtain ⟨a5,e5,h5⟩:=u16_nat h.2.2.2.2.2.1
 obtain ⟨a6,e6,h6⟩:=u16_nat h.2.2.2.2.2.2.1
 obtain ⟨a7,e7,h7⟩:=u16_nat h.2.2.2.2.2.2.2.1
 refine ⟨fun i=>[a0,a1,a2,a3,a4,a5,a6,a7].getD i 0,fun i=>?_,?_⟩
 ·match i with
  | 0=>exact h0
  | 1=>exact h1
  | 2=>exact h2
  | 3=>exact h3
  | 4=>exact h4
  | 5=>exact h5
  | 6=>exact h6
  | 7=>exact h7
  | i+8=>exact Nat.zero_le _
 ·show [AV.int .u16 x.1,AV.int .u16 x.2.1,AV.int .u16 x.2.2.1,AV.int .u16 x.2.2.2.1,AV.int .u16 x.2.2.2.2.1,AV.int .u16 x.2.2.2.2.2.1,AV.int .u16 x.2.2.2.2.2.2.1,AV.int .u16 x.2.2.2.2.2.2.2.1]=[AV.int .u16 ((a0:Nat):Int),AV.int .u16 ((a1:Nat):Int),AV.int .u16 ((a2:Nat):Int),AV.int .u16 ((a3:Nat):Int),AV.int .u16 ((a4:Nat):Int),AV.int .u16 ((a5:Nat):Int),AV.int .u16 ((a6:Nat):Int),AV.int .u16 ((a7:Nat):Int)]
  rw [e0,e1,e2,e3,e4,e5,e6,e7]
end Go.Proofs.YtgdmldelijeaoaaGreatDoor
