/- A text of the proof: the parts PQ41, PR41, BE41, PS41, BO41, BF41, BG41, BH41, BR41, BP41, DZ41. -/
import Derived.ProofKit
import Derived.LaidMore
import Derived.OpenShut
import Derived.Test.YtgdmldelijeaoaaGreatDoorK11
set_option linter.unusedSimpArgs false
set_option linter.unusedVariables false
/-! text PQ41 -/
namespace Go.Proofs.YtgdmldelijeaoaaGreatDoor
open Go.Vsi
set_option maxHeartbeats 4000000
def pR:List Nat→Nat
 | []=>1
 | x::l=>x * pR l
theorem pR_fold:∀ (l:List Nat) (a:Nat),l.foldl (fun p n=>p * n) a=a * pR l
 | [],a=>by simp [pR]
 | x::l,a=>by
   rw [List.foldl_cons,pR_fold l,pR,Nat.mul_assoc]
theorem prodR_pR (l:List Nat):prodR l=pR l:=by
 unfold prodR
 rw [pR_fold,Nat.one_mul]
theorem pR_app:∀ a b:List Nat,pR (a++b)=pR a * pR b
 | [],b=>by simp [pR]
 | x::a,b=>by
   rw [List.cons_append,pR,pR_app a b,pR,Nat.mul_assoc]
theorem pR_pos:∀ l:List Nat,(∀ x∈l,1≤x)→1≤pR l
 | [],_=>Nat.le_refl _
 | x::l,h=>Nat.mul_pos (h x List.mem_cons_self) (pR_pos l fun y hy=>h y (List.mem_cons_of_mem _ hy))
theorem pR_take (l:List Nat) (h:∀ x∈l,1≤x) (i:Nat):pR (l.take i)≤pR l:=by
 have e:pR l=pR (l.take i) * pR (l.drop i):=by rw [← pR_app,List.take_append_drop]
 have:=pR_pos (l.drop i) fun x hx=>h x (List.mem_of_mem_drop hx)
 rw [e]
 exact Nat.le_mul_of_pos_right _ this
theorem pR_succ (l:List Nat) (i:Nat) (h:i<l.length):pR (l.take (i+1))=pR (l.take i) * l.getD i 0:=by
 rw [take_snocD l 0 i h,pR_app]
 simp [pR]
theorem pR_perm {a b:List Nat} (h:a.Perm b):pR a=pR b:=by
 induction h with
 | nil=>rfl
 | cons x _ ih=>simp only [pR,ih]
 | swap x y l=>simp only [pR];rw [← Nat.mul_assoc,← Nat.mul_assoc,Nat.mul_comm x y]
 | trans _ _ h1 h2=>exact h1.trans h2
theorem pR_sub {α:Type} [DecidableEq α] (f:α→Nat):∀ (M l:List α),l.Nodup→(∀ x∈l,x∈M)→(∀ x∈M,1≤f x)→pR (l.map f)≤pR (M.map f)
 | [],l,_,h,_=>by
   cases l with
   | nil=>exact Nat.le_refl _
   | cons x l=>cases h x List.mem_cons_self
 | a::M,l,hn,h,hf=>by
   by_cases ha:a∈l
   ·have hp:=List.perm_cons_erase ha
    rw [pR_perm (hp.map f),List.map_cons,List.map_cons,pR,pR]
    refine Nat.mul_le_mul_left _ (pR_sub f M (l.erase a) (hn.erase a) (fun x hx=>?_) fun x hx=>hf x (List.mem_cons_of_mem _ hx))
    have h1:=(hn.mem_erase_iff.1 hx)
    exact (List.mem_cons.1 (h x h1.2)).resolve_left h1.1
   ·have:=pR_sub f M l hn (fun x hx=>(List.mem_cons.1 (h x hx)).resolve_left fun e=>ha (e▸hx)) fun x hx=>hf x (List.mem_cons_of_mem _ hx)
    rw [List.map_cons,pR]
    exact Nat.le_trans this (Nat.le_mul_of_pos_left _ (hf a List.mem_cons_self))
theorem sig_arP {p:Fq} (hg:Gd p) (j:Nat) (h:j<(sigF p.fo).preds.length):((sigF p.fo).preds.getD j symI0).2=1∨((sigF p.fo).preds.getD j symI0).2=0∨((sigF p.fo).preds.getD j symI0).2=2:=by
 have hm:=getD_memT (sigF p.fo).preds j symI0 h
 generalize (sigF p.fo).preds.getD j symI0=x at hm
 obtain ⟨s,a⟩:=x
 rcases hg.sym.p s a ((sig_p (std_ok p hg.std)).1 hm) with ⟨-,e⟩|⟨-,e⟩|⟨-,e⟩
 ·exact .inl e
 ·exact .inr (.inl e)
 ·exact .inr (.inr e)
theorem sig_arC {p:Fq} (hg:Gd p) (j:Nat) (h:j<(sigF p.fo).funcs.length):((sigF p.fo).funcs.getD j symI0).2=0∨((sigF p.fo).funcs.getD j symI0).2=1:=by
 have hm:=getD_memT (sigF p.fo).funcs j symI0 h
 generalize (sigF p.fo).funcs.getD j symI0=x at hm
 obtain ⟨s,a⟩:=x
 rcases hg.sym.c s a ((sig_c (std_ok p hg.std)).1 hm) with ⟨-,e⟩|⟨-,e⟩
 ·exact .inl e
 ·exact .inr e
theorem rn_small {p:Fq} (hg:Gd p) (n:Nat) (hn:1≤n∧n≤3):pR (rnN (sigF p.fo) n)≤20000000:=by
 have hok:=std_ok p hg.std
 obtain ⟨n1,n2,n3⟩:=sig_nd p.fo
 unfold rnN
 rw [pR_app,pR_app]
 have h1:pR ((sigF p.fo).preds.map fun x=>2 ^ n ^ x.2.toNat)≤8192:=by
  refine Nat.le_trans (pR_sub _ [(nP,(1:Int)),(nQ,0),(nR,2)] _ n1 (fun x hx=>?_) fun x _=>Nat.one_le_two_pow) ?_
  ·obtain ⟨s,a⟩:=x
   rcases hg.sym.p s a ((sig_p hok).1 hx) with ⟨rfl,rfl⟩|⟨rfl,rfl⟩|⟨rfl,rfl⟩ <;> simp
  ·have hc:n=1∨n=2∨n=3:=by omega
   rcases hc with rfl|rfl|rfl <;> simp [pR]
 have h2:pR ((sigF p.fo).funcs.map fun x=>n ^ n ^ x.2.toNat)≤81:=by
  refine Nat.le_trans (pR_sub _ [(nA,(0:Int)),(nF,1)] _ n2 (fun x hx=>?_) fun x _=>Nat.one_le_pow _ _ hn.1) ?_
  ·obtain ⟨s,a⟩:=x
   rcases hg.sym.c s a ((sig_c hok).1 hx) with ⟨rfl,rfl⟩|⟨rfl,rfl⟩ <;> simp
  ·have hc:n=1∨n=2∨n=3:=by omega
   rcases hc with rfl|rfl|rfl <;> simp [pR]
 have h3:pR ((sigF p.fo).vars.map fun _=>n)≤27:=by
  refine Nat.le_trans (pR_sub _ [nX,nY,nZ] _ n3 (fun x hx=>?_) fun x _=>hn.1) ?_
  ·rcases hg.sym.v x ((sig_v hok).1 hx) with rfl|rfl|rfl <;> simp
  ·have hc:n=1∨n=2∨n=3:=by omega
   rcases hc with rfl|rfl|rfl <;> simp [pR]
 exact Nat.le_trans (Nat.mul_le_mul (Nat.mul_le_mul h1 h2) h3) (by decide)
theorem rn_len' (S:Sig) (n:Nat):(rnN S n).length=S.preds.length+S.funcs.length+S.vars.length:=by
 unfold rnN
 rw [List.length_append,List.length_append,List.length_map,List.length_map,List.length_map]
theorem rn_get1 (S:Sig) (n i:Nat) (h:i<S.preds.length):(rnN S n).getD i 0=2 ^ n ^ (S.preds.getD i symI0).2.toNat:=by
 unfold rnN
 rw [List.append_assoc,List.getD_eq_getElem?_getD,List.getElem?_append_left (by rw [List.length_map];exact h),List.getElem?_map,List.getD_eq_getElem?_getD,List.getElem?_eq_getElem h]
 rfl
theorem rn_get2 (S:Sig) (n i:Nat) (h:i<S.funcs.length):(rnN S n).getD (S.preds.length+i) 0=n ^ n ^ (S.funcs.getD i symI0).2.toNat:=by
 unfold rnN
 rw [List.append_assoc,List.getD_eq_getElem?_getD,List.getElem?_append_right (by rw [List.length_map];omega),List.getElem?_append_left (by rw [List.length_map,List.length_map];omega),List.length_map,Nat.add_sub_cancel_left,List.getElem?_map,List.getD_eq_getElem?_getD,List.getElem?_eq_getElem h]
 rfl
theorem rn_get3 (S:Sig) (n i:Nat) (h:i<S.vars.length):(rnN S n).getD (S.preds.length+S.funcs.length+i) 0=n:=by
 unfold rnN
 rw [List.getD_eq_getElem?_getD,List.getElem?_append_right (by rw [List.length_append,List.length_map,List.length_map];omega),List.length_append,List.length_map,List.length_map,Nat.add_sub_cancel_left,List.getElem?_map,List.getElem?_eq_getElem h]
 rfl
theorem prodC_gt:∀ (l:List Int) (p:Int),(∀ r∈l,1≤r)→1≤p→16384<prodC l p→16384<p * (prodR (l.map Int.toNat):Nat)
 | [],p,_,_,h=>by
   have h:16384<p:=h
   show 16384<p * ((1:Nat):Int)
   omega
 | r::l,p,h,hp,hc=>by
   rw [prodC] at hc
   have hr:=h r List.mem_cons_self
   have hm:1≤p * r:=by
    have:=Int.mul_le_mul_of_nonneg_left hr (show 0≤p by omega)
    omega
   have e:p * ((prodR ((r::l).map Int.toNat):Nat):Int)=p * r * (prodR (l.map Int.toNat):Nat):=by
    rw [List.map_cons,prodR_cons,Int.mul_assoc,Int.natCast_mul]
    congr 2
    omega
   rw [e]
   by_cases hb:16384 / p<r
   ·have h1:16384<p * r:=by
     have:=Int.lt_mul_of_ediv_lt (show 0<p by omega) hb
     rwa [Int.mul_comm] at this
    have h2:(1:Int)≤(prodR (l.map Int.toNat):Nat):=by
     have:=prodR_pos (l.map Int.toNat) fun x hx=>by
      obtain ⟨y,hy,rfl⟩:=List.mem_map.1 hx
      have:=h y (List.mem_cons_of_mem _ hy)
      omega
     omega
    have:=Int.mul_le_mul_of_nonneg_left h2 (show 0≤p * r by omega)
    omega
   ·rw [if_neg hb] at hc
    exact prodC_gt l (p * r) (fun x hx=>h x (List.mem_cons_of_mem _ hx)) hm hc
end Go.Proofs.YtgdmldelijeaoaaGreatDoor
/-! text PR41 -/
namespace Go.Proofs.YtgdmldelijeaoaaGreatDoor
open Go.Vsi
set_option maxHeartbeats 4000000
theorem perm_filter {α:Type} [DecidableEq α] {l M:List α} (hl:l.Nodup) (hM:M.Nodup) (h:∀ x∈l,x∈M):l.Perm (M.filter fun x=>decide (x∈l)):=by
 rw [List.perm_ext_iff_of_nodup hl (hM.sublist List.filter_sublist)]
 intro a
 rw [List.mem_filter,decide_eq_true_iff]
 exact ⟨fun h1=>⟨h a h1,h1⟩,fun h1=>h1.2⟩
theorem sortY_sub {l M:List Sym} (hl:l.Nodup) (hM:M.Nodup) (h:∀ x∈l,x∈M) (hs:M.Pairwise fun x y=>(!(ltOf cSym) y x)=true):(sortY l).Sublist M:=by
 rw [sortY_eq (perm_filter hl hM h)]
 unfold sortY
 rw [List.mergeSort_of_pairwise (hs.sublist List.filter_sublist)]
 exact List.filter_sublist
theorem sortB_sub {l M:List ByteArray} (hl:l.Nodup) (hM:M.Nodup) (h:∀ x∈l,x∈M) (hs:M.Pairwise fun x y=>(!(ltOf cmpB) y x)=true):(sortB l).Sublist M:=by
 rw [sortB_eq (perm_filter hl hM h)]
 unfold sortB
 rw [List.mergeSort_of_pairwise (hs.sublist List.filter_sublist)]
 exact List.filter_sublist
theorem pw3 {α:Type} {r:α→α→Prop} {a b c:α} (h1:r a b) (h2:r a c) (h3:r b c):[a,b,c].Pairwise r:=by
 simp [h1,h2,h3]
theorem pw2 {α:Type} {r:α→α→Prop} {a b:α} (h1:r a b):[a,b].Pairwise r:=by
 simp [h1]
theorem preds_sub {p:Fq} (hg:Gd p):(sigF p.fo).preds.Sublist [(nP,1),(nQ,0),(nR,2)]:=by
 have h:=sortY_sub (M:=[(nP,1),(nQ,0),(nR,2)]) (predY_nd p.fo) (nd_of Prod.snd (show ([1,0,2]:List Nat).Nodup by decide)) (fun x hx=>by
  have h1:=(mem_predY (std_ok p hg.std) x).1 hx
  obtain ⟨s,a⟩:=x
  rcases hg.sym.p _ _ h1 with ⟨e1,e2⟩|⟨e1,e2⟩|⟨e1,e2⟩
  ·have e1:s=nP:=e1
   have e2:((a:Nat):Int)=1:=e2
   rw [e1,show a=1 by omega];simp
  ·have e1:s=nQ:=e1
   have e2:((a:Nat):Int)=0:=e2
   rw [e1,show a=0 by omega];simp
  ·have e1:s=nR:=e1
   have e2:((a:Nat):Int)=2:=e2
   rw [e1,show a=2 by omega];simp) (pw3 (by kernel_rfl) (by kernel_rfl) (by kernel_rfl))
 exact h.map toI
theorem funcs_sub {p:Fq} (hg:Gd p):(sigF p.fo).funcs.Sublist [(nA,0),(nF,1)]:=by
 have h:=sortY_sub (M:=[(nA,0),(nF,1)]) (funY_nd p.fo) (nd_of Prod.snd (show ([0,1]:List Nat).Nodup by decide)) (fun x hx=>by
  have h1:=(mem_funY (std_ok p hg.std) x).1 hx
  obtain ⟨s,a⟩:=x
  rcases hg.sym.c _ _ h1 with ⟨e1,e2⟩|⟨e1,e2⟩
  ·have e1:s=nA:=e1
   have e2:((a:Nat):Int)=0:=e2
   rw [e1,show a=0 by omega];simp
  ·have e1:s=nF:=e1
   have e2:((a:Nat):Int)=1:=e2
   rw [e1,show a=1 by omega];simp) (pw2 (by kernel_rfl))
 exact h.map toI
theorem vars_sub {p:Fq} (hg:Gd p):(sigF p.fo).vars.Sublist [nX,nY,nZ] :=
 sortB_sub (M:=[nX,nY,nZ]) (freeF_nd p.fo) (by decide) (fun x hx=>by
  rcases hg.sym.v _ ((mem_freeF (std_ok p hg.std) x).1 hx) with e|e|e <;> rw [e] <;> simp) (pw3 (by kernel_rfl) (by kernel_rfl) (by kernel_rfl))
theorem sigF_right {p:Fq} (hg:Gd p):sigR (sigF p.fo)=true :=
 sigR_parts (incP_sub (preds_sub hg)) (incU_sub (funcs_sub hg)) (incV_sub (vars_sub hg))
theorem sigF_sm {p:Fq} (hg:Gd p):(sigF p.fo).Sm:=by
 have h1:=preds_sub hg
 have h2:=funcs_sub hg
 have h3:=vars_sub hg
 refine ⟨Nat.le_trans h1.length_le (by decide),Nat.le_trans h2.length_le (by decide),Nat.le_trans h3.length_le (by decide),fun x hx=>?_,fun x hx=>?_,fun x hx=>?_⟩
 ·have:=h1.subset hx
  simp only [List.mem_cons,List.not_mem_nil,or_false] at this
  rcases this with rfl|rfl|rfl <;> exact Nat.le_of_ble_eq_true rfl
 ·have:=h2.subset hx
  simp only [List.mem_cons,List.not_mem_nil,or_false] at this
  rcases this with rfl|rfl <;> exact Nat.le_of_ble_eq_true rfl
 ·have:=h3.subset hx
  simp only [List.mem_cons,List.not_mem_nil,or_false] at this
  rcases this with rfl|rfl|rfl <;> exact Nat.le_of_ble_eq_true rfl
end Go.Proofs.YtgdmldelijeaoaaGreatDoor
/-! text BE41 -/
namespace Go.Proofs.YtgdmldelijeaoaaGreatDoor
open Go.Vsi
set_option maxHeartbeats 4000000
set_option linter.unusedSimpArgs false
attribute [local irreducible] VW VCall VO bits
def dgM (n:Nat) (m:Mdl):List Nat:=m.facts.map (fun f=>f.tr.toNat)++m.funcs.map (fun f=>numN n (f.vl.map Int.toNat))++m.binds.map fun b=>b.at_.toNat
theorem numR_fold:∀ (l:List (Nat×Nat)) (a:Nat),numR l a=l.foldl (fun a x=>a * x.1+x.2) a
 | [],_=>rfl
 | (r,d)::l,a=>by rw [numR,numR_fold l,List.foldl_cons]
theorem numR_take (l:List (Nat×Nat)) (k:Nat) (h:k<l.length):numR (l.take (k+1)) 0=numR (l.take k) 0 * (l.getD k (0,0)).1+(l.getD k (0,0)).2:=by
 rw [numR_fold,numR_fold,foldl_takeB _ (0,0) 0 l k h]
theorem take_snocN (l:List Nat) (k:Nat) (h:k<l.length):(l.take (k+1)).flatMap encN=(l.take k).flatMap encN++[.int .i64 (l.getD k 0:Nat)]:=by
 rw [take_snocD l 0 k h,List.flatMap_append]
 rfl
theorem getD_app1 (a b:List Nat) (k:Nat) (h:k<a.length):(a++b).getD k 0=a.getD k 0:=by
 rw [List.getD_eq_getElem?_getD,List.getElem?_append_left h,← List.getD_eq_getElem?_getD]
theorem getD_app2 (a b:List Nat) (p k:Nat) (h:a.length=p):(a++b).getD (p+k) 0=b.getD k 0:=by
 rw [List.getD_eq_getElem?_getD,List.getElem?_append_right (by omega),h,Nat.add_sub_cancel_left,← List.getD_eq_getElem?_getD]
theorem getD_mapN {α:Type} (f:α→Nat) (d:α) (l:List α) (k:Nat) (h:k<l.length):(l.map f).getD k 0=f (l.getD k d):=by
 simp [List.getD_eq_getElem?_getD,List.getElem?_eq_getElem h]
theorem vl_nat (l:List Int) (h:∀ v∈l,0≤v):l.flatMap enc64=(l.map Int.toNat).flatMap encN:=by
 rw [enc64_map,encN_map,List.map_map]
 refine List.map_congr_left fun v hv=>?_
 have:=h v hv
 show AV.int .i64 v=AV.int .i64 ((v.toNat:Nat):Int)
 rw [show ((v.toNat:Nat):Int)=v by omega]
theorem number_m (m:Mdl) (hm:m.Sm) (hnm:m.Nm) (hv:validM m=true) (n:Nat) (hn:m.size=n) (l1:m.facts.length≤300000) (l2:m.funcs.length≤300000) (l3:m.binds.length≤300000) (hc:¬ 16384<prodC (rngS (sigM m) n) 1) (hin:∀ x∈(rnN (sigM m) n).zip (dgM n m),x.2<x.1) (H:Heap) :
  VDet Tryz.prog 45 [.agg m.cells] H (.tup [.int .i64 (numR ((rnN (sigM m) n).zip (dgM n m)) 0:Nat),.int .i64 0]):=by
 obtain ⟨vm,hk2,hrel,hloop⟩:=vm_of hv
 have hsr:sigR (sigM m)=true:=by
  unfold validM at hv
  rw [Bool.and_eq_true,Bool.and_eq_true] at hv
  exact hv.2.1
 have hn3:1≤n∧n≤3:=by
  have h1:=vm.pos
  have h2:=vm.le
  omega
 have hnt:m.size.toNat=n:=by omega
 rw [hnt] at vm
 have hsm:=sigM_sm hm hnm
 have e1:(sigM m).preds.length=m.facts.length:=List.length_map _
 have e2:(sigM m).funcs.length=m.funcs.length:=List.length_map _
 have e3:(sigM m).vars.length=m.binds.length:=List.length_map _
 obtain ⟨p1,p2⟩:=sig_ar hsr
 have g1:=fun H=>valid_c m hm hnm H
 have g2:=fun H=>sigM_c m hm H
 have g3:=fun H=>count_c (sigM m) hsm hsr n hn3 (by omega) (by omega) (by omega) H
 have g4:=fun H=>ranges_c (sigM m) n hn3 (by omega) (by omega) (by omega) p1 p2 H
 rw [if_neg hc] at g3
 rw [hv] at g1
 rw [rng_flat,rng_len] at g4
 have hLr:(rnN (sigM m) n).length=m.facts.length+m.funcs.length+m.binds.length:=by
  unfold rnN
  rw [List.length_append,List.length_append,List.length_map,List.length_map,List.length_map,e1,e2,e3]
 have hLd:(dgM n m).length=m.facts.length+m.funcs.length+m.binds.length:=by
  unfold dgM
  rw [List.length_append,List.length_append,List.length_map,List.length_map,List.length_map]
 have hD1:∀ k,k<m.facts.length→(dgM n m).getD k 0=(m.facts.getD k fct0).tr.toNat:=fun k hk=>by
  unfold dgM
  rw [getD_app1 _ _ _ (by rw [List.length_append,List.length_map];omega),getD_app1 _ _ _ (by rw [List.length_map];omega),getD_mapN (fun f:Fct=>f.tr.toNat) fct0 _ _ hk]
 have hD2:∀ k,k<m.funcs.length→(dgM n m).getD (m.facts.length+k) 0=numN n ((m.funcs.getD k fnc0).vl.map Int.toNat):=fun k hk=>by
  unfold dgM
  rw [getD_app1 _ _ _ (by rw [List.length_append,List.length_map,List.length_map];omega),getD_app2 _ _ _ _ (List.length_map _),getD_mapN (fun f:Fnc=>numN n (f.vl.map Int.toNat)) fnc0 _ _ hk]
 have hD3:∀ k,k<m.binds.length→(dgM n m).getD (m.facts.length+m.funcs.length+k) 0=(m.binds.getD k bnd0).at_.toNat:=fun k hk=>by
  unfold dgM
  rw [getD_app2 _ _ _ _ (by rw [List.length_append,List.length_map,List.length_map]),getD_mapN (fun b:Bnd=>b.at_.toNat) bnd0 _ _ hk]
 have hprod:prodR (rnN (sigM m) n)≤16384:=by
  have h1:=prodC_le (rngS (sigM m) n) 1 (rng_pos (sigM m) n hn3.1) (by omega) hc
  rw [rng_nat,List.map_map] at h1
  have h2:(rnN (sigM m) n).map (Int.toNat∘fun x:Nat=>(x:Int))=rnN (sigM m) n:=by
   refine (List.map_congr_left fun x _=>?_).trans (List.map_id _)
   rfl
  rw [h2] at h1
  rw [rng_nat] at hc
  omega
 have hpos:=rn_pos (sigM m) n hn3.1
 have hbd:∀ k,numR (((rnN (sigM m) n).zip (dgM n m)).take k) 0≤16384:=fun k=>by
  have h1:=numR_lt (l:=((rnN (sigM m) n).zip (dgM n m)).take k) fun x hx=>hin x (List.mem_of_mem_take hx)
  have h2:(((rnN (sigM m) n).zip (dgM n m)).take k).map Prod.fst=(rnN (sigM m) n).take k:=by
   rw [List.map_take,List.map_fst_zip (by omega)]
  rw [h2] at h1
  have h3:=prodR_take (rnN (sigM m) n) hpos k
  omega
 have hsc:(sigM m).cells=[.sl none (sigM m).preds.length ((sigM m).preds.flatMap symI),.sl none (sigM m).funcs.length ((sigM m).funcs.flatMap symI),.sl none (sigM m).vars.length ((sigM m).vars.flatMap encS)]:=rfl
 have hmc:m.cells=[.int .u8 m.kind,.int .i64 m.size,.sl none m.rel.length (m.rel.flatMap enc64),.int .i64 m.loop,.sl none m.facts.length (m.facts.flatMap Fct.cells),.sl none m.funcs.length (m.funcs.flatMap Fnc.cells),.sl none m.binds.length (m.binds.flatMap Bnd.cells)]:=rfl
 rw [hsc] at g2 g3 g4
 rw [hmc] at g1 g2 ⊢
 rw [← hn] at g3 g4
 generalize prodC (rngS (sigM m) n) 1=P at g3
 generalize hrs:rnN (sigM m) n=rs at g4 hLr hin hbd ⊢
 generalize hDD:dgM n m=D at hLd hD1 hD2 hD3 hin hbd ⊢
 refine fn_det Tryz.E0 Tryz.mx Tryz.func45 (by kernel_rfl) rfl (Nat.le_of_ble_eq_true rfl) rfl fun hcl hbl=>?_
 (repeat' ((conv=>whnf);(first|(refine IfN.id ?_;first|refine IfN.not ?_|refine IfN.tt rfl ?_|fail)|(refine CallN.id ?_;first|refine CallN.det _ (g1 _) ?_|refine CallN.det _ (g2 _) ?_|refine CallN.det _ (g3 _) ?_|fail)|refine DrawN.mk' [] ?_|fail)));all_goals (conv=>whnf)
 refine LoopN.tok 7 3 1 rfl rfl rfl ?_
 refine loop_R Tryz.E0 Tryz.mx (σ:=Nat) (fun k=>k≤m.facts.length) (fun k=>m.facts.length-k) (fun k=>[(7,.v (.sl (some (H.length+2)) (k) ((D.take (k)).flatMap encN))),(35,.v (.int .i64 k))]) (fun k=>[.box 37 [.int .u8 m.kind,.int .i64 m.size,.sl none m.rel.length (m.rel.flatMap enc64),.int .i64 m.loop,.sl none m.facts.length (m.facts.flatMap Fct.cells),.sl none m.funcs.length (m.funcs.flatMap Fnc.cells),.sl none m.binds.length (m.binds.flatMap Bnd.cells)],.box 58 [.sl none (sigM m).preds.length ((sigM m).preds.flatMap symI),.sl none (sigM m).funcs.length ((sigM m).funcs.flatMap symI),.sl none (sigM m).vars.length ((sigM m).vars.flatMap encS)],.tok 3 1 ((D.take (k)).flatMap encN).length]) _ 0 rfl hcl [1,4,33,34] rfl (Nat.zero_le _) ⟨⟨_,rfl,Wk.refl _⟩,⟨_,rfl,Wk.refl _⟩,trivial⟩ rfl (fun _ _=>rfl) ?_
 intro k hk
 rcases Nat.lt_or_ge k m.facts.length with hlt|hge
 ·obtain ⟨u,v,z,hx,ex⟩:=fct_ex (f:=m.facts.getD k fct0) rfl
  have hmem:=getD_memT m.facts k fct0 hlt
  have hf:=(vm.facts _ hmem).2
  have hns:=take_snocN D k (by omega)
  rw [hD1 k hlt,hx] at hns
  rw [hx] at hf
  simp only at hns hf
  rw [show ((z.toNat:Nat):Int)=z by omega] at hns
  have hml:((D.take k).flatMap encN).length=k * 1:=by
   rw [flat_length (f:=encN) (sz:=1) (fun _=>rfl),List.length_take,Nat.min_eq_left (by omega)]
  have hbt:(k+1) * 8≤140737488355328:=by omega
  have hmx:k+1≤maxLen:=Nat.le_trans (show k+1≤1000001 by omega) (by decide)
  (repeat' ((conv=>whnf);(first|refine IfN.dT (by omega) ?_|(refine EqN.addN _ _ Cst.h Cst.h ?_ ?_;· omega)|(refine SideN.mk ?_ ?_;· first|kernel_rfl|omega|exact List.cons_ne_nil _ _|(simp;done)|(simp;omega)|exact trivial|assumption|fail)|refine SegN.nthE fct0 k rfl (by omega) fct_size ex ?_|refine SideN.mk ⟨rfl,rfl,rfl,hbt,hmx⟩ ?_|refine PtrN.loc _ rfl ?_|refine DrawN.mk' [] ?_|fail)));all_goals (conv=>whnf)
  rw [← hns]
  (refine ⟨⟨k+1,by show k+1≤_;omega,by omega,?_,.inl ⟨rfl,rfl⟩,rfl,_,rfl,?_⟩⟩;rotate_left 1;(first|exact .inl rfl|exact .inr ⟨by simp [belowRE,below,belowL,tr,i64_below,encN_below,symIs_below,strs_below,fcts_below,fncs_below,bnds_below],by simp [belowH,Blk.below,belowL,below,i64_below,encN_below,symIs_below,strs_below,fcts_below,fncs_below,bnds_below]⟩|fail);(repeat' (first|exact trivial|refine ⟨⟨_,rfl,?_⟩,?_⟩|fail));all_goals try (first|exact Wk.refl _|exact Wk.of_eq (congrArg (AV.int _) (by omega))|fail))
 ·have hke:k=m.facts.length:=by omega
  subst hke
  (repeat' ((conv=>whnf);(first|refine IfN.dF (by omega) ?_|refine DrawN.mk' [] ?_|fail)));all_goals (conv=>whnf)
  refine loop_R Tryz.E0 Tryz.mx (σ:=Nat) (fun k=>k≤m.funcs.length) (fun k=>m.funcs.length-k) (fun k=>[(7,.v (.sl (some (H.length+2)) (m.facts.length+k) ((D.take (m.facts.length+k)).flatMap encN))),(48,.v (.int .i64 k))]) (fun k=>[.box 37 [.int .u8 m.kind,.int .i64 m.size,.sl none m.rel.length (m.rel.flatMap enc64),.int .i64 m.loop,.sl none m.facts.length (m.facts.flatMap Fct.cells),.sl none m.funcs.length (m.funcs.flatMap Fnc.cells),.sl none m.binds.length (m.binds.flatMap Bnd.cells)],.box 58 [.sl none (sigM m).preds.length ((sigM m).preds.flatMap symI),.sl none (sigM m).funcs.length ((sigM m).funcs.flatMap symI),.sl none (sigM m).vars.length ((sigM m).vars.flatMap encS)],.tok 3 1 ((D.take (m.facts.length+k)).flatMap encN).length]) _ 0 rfl hcl [1,4,46,47] rfl (Nat.zero_le _) ⟨⟨_,rfl,Wk.refl _⟩,⟨_,rfl,Wk.refl _⟩,trivial⟩ rfl (fun _ _=>rfl) ?_
  intro k hk
  rcases Nat.lt_or_ge k m.funcs.length with hlt|hge
  ·obtain ⟨u,v,z,hx,ex⟩:=fnc_ex (f:=m.funcs.getD k fnc0) rfl
   have hmem:=getD_memT m.funcs k fnc0 hlt
   obtain ⟨hf1,hf2,hf3⟩:=vm.funcs _ hmem
   have hns:=take_snocN D (m.facts.length+k) (by omega)
   rw [hD2 k hlt,hx] at hns
   rw [hx] at hf1 hf2 hf3
   simp only at hns hf1 hf2 hf3
   have hle:z.length≤3:=by
    rw [hf2]
    have h1:n ^ v.toNat≤3 ^ v.toNat:=Nat.pow_le_pow_left hn3.2 _
    have h2:3 ^ v.toNat≤3 ^ 1:=Nat.pow_le_pow_right (by decide) (by omega)
    omega
   have hnu:=fun H=>number_c n hn3 (z.map Int.toNat) (by rw [List.length_map];omega) (fun w hw=>by
    obtain ⟨y,hy,rfl⟩:=List.mem_map.1 hw
    have:=hf3 y hy
    omega) H
   rw [← vl_nat z (fun y hy=>(hf3 y hy).1),List.length_map,← hn] at hnu
   have hml:((D.take (m.facts.length+k)).flatMap encN).length=(m.facts.length+k) * 1:=by
    rw [flat_length (f:=encN) (sz:=1) (fun _=>rfl),List.length_take,Nat.min_eq_left (by omega)]
   have hbt:(m.facts.length+k+1) * 8≤140737488355328:=by omega
   have hmx:m.facts.length+k+1≤maxLen:=Nat.le_trans (show m.facts.length+k+1≤1000001 by omega) (by decide)
   (repeat' ((conv=>whnf);(first|refine IfN.dT (by omega) ?_|(refine EqN.addN _ _ Cst.h Cst.h ?_ ?_;· omega)|(refine SideN.mk ?_ ?_;· first|kernel_rfl|omega|exact List.cons_ne_nil _ _|(simp;done)|(simp;omega)|exact trivial|assumption|fail)|refine CallN.det _ (hnu _) ?_|refine SegN.nthE fnc0 k rfl (by omega) fnc_size ex ?_|refine SideN.mk ⟨rfl,rfl,rfl,hbt,hmx⟩ ?_|refine PtrN.loc _ rfl ?_|refine DrawN.mk' [] ?_|fail)));all_goals (conv=>whnf)
   rw [← hns]
   (refine ⟨⟨k+1,by show k+1≤_;omega,by omega,?_,.inl ⟨rfl,rfl⟩,rfl,_,rfl,?_⟩⟩;rotate_left 1;(first|exact .inl rfl|exact .inr ⟨by simp [belowRE,below,belowL,tr,i64_below,encN_below,symIs_below,strs_below,fcts_below,fncs_below,bnds_below],by simp [belowH,Blk.below,belowL,below,i64_below,encN_below,symIs_below,strs_below,fcts_below,fncs_below,bnds_below]⟩|fail);(repeat' (first|exact trivial|refine ⟨⟨_,rfl,?_⟩,?_⟩|fail));all_goals try (first|exact Wk.refl _|exact Wk.of_eq (congrArg (AV.int _) (by omega))|fail))
  ·have hke:k=m.funcs.length:=by omega
   subst hke
   (repeat' ((conv=>whnf);(first|refine IfN.dF (by omega) ?_|refine DrawN.mk' [] ?_|fail)));all_goals (conv=>whnf)
   refine loop_R Tryz.E0 Tryz.mx (σ:=Nat) (fun k=>k≤m.binds.length) (fun k=>m.binds.length-k) (fun k=>[(7,.v (.sl (some (H.length+2)) (m.facts.length+m.funcs.length+k) ((D.take (m.facts.length+m.funcs.length+k)).flatMap encN))),(64,.v (.int .i64 k))]) (fun k=>[.box 37 [.int .u8 m.kind,.int .i64 m.size,.sl none m.rel.length (m.rel.flatMap enc64),.int .i64 m.loop,.sl none m.facts.length (m.facts.flatMap Fct.cells),.sl none m.funcs.length (m.funcs.flatMap Fnc.cells),.sl none m.binds.length (m.binds.flatMap Bnd.cells)],.box 58 [.sl none (sigM m).preds.length ((sigM m).preds.flatMap symI),.sl none (sigM m).funcs.length ((sigM m).funcs.flatMap symI),.sl none (sigM m).vars.length ((sigM m).vars.flatMap encS)],.tok 3 1 ((D.take (m.facts.length+m.funcs.length+k)).flatMap encN).length]) _ 0 rfl hcl [1,4,62,63] rfl (Nat.zero_le _) ⟨⟨_,rfl,Wk.refl _⟩,⟨_,rfl,Wk.refl _⟩,trivial⟩ rfl (fun _ _=>rfl) ?_
   intro k hk
   rcases Nat.lt_or_ge k m.binds.length with hlt|hge
   ·obtain ⟨u,v,hx,ex⟩:=bnd_ex (f:=m.binds.getD k bnd0) rfl
    have hmem:=getD_memT m.binds k bnd0 hlt
    have hf:=vm.binds _ hmem
    have hns:=take_snocN D (m.facts.length+m.funcs.length+k) (by omega)
    rw [hD3 k hlt,hx] at hns
    rw [hx] at hf
    simp only at hns hf
    rw [show ((v.toNat:Nat):Int)=v by omega] at hns
    have hml:((D.take (m.facts.length+m.funcs.length+k)).flatMap encN).length=(m.facts.length+m.funcs.length+k) * 1:=by
     rw [flat_length (f:=encN) (sz:=1) (fun _=>rfl),List.length_take,Nat.min_eq_left (by omega)]
    have hbt:(m.facts.length+m.funcs.length+k+1) * 8≤140737488355328:=by omega
    have hmx:m.facts.length+m.funcs.length+k+1≤maxLen:=Nat.le_trans (show m.facts.length+m.funcs.length+k+1≤1000001 by omega) (by decide)
    (repeat' ((conv=>whnf);(first|refine IfN.dT (by omega) ?_|(refine EqN.addN _ _ Cst.h Cst.h ?_ ?_;· omega)|(refine SideN.mk ?_ ?_;· first|kernel_rfl|omega|exact List.cons_ne_nil _ _|(simp;done)|(simp;omega)|exact trivial|assumption|fail)|refine SegN.nthE bnd0 k rfl (by omega) bnd_size ex ?_|refine SideN.mk ⟨rfl,rfl,rfl,hbt,hmx⟩ ?_|refine PtrN.loc _ rfl ?_|refine DrawN.mk' [] ?_|fail)));all_goals (conv=>whnf)
    rw [← hns]
    (refine ⟨⟨k+1,by show k+1≤_;omega,by omega,?_,.inl ⟨rfl,rfl⟩,rfl,_,rfl,?_⟩⟩;rotate_left 1;(first|exact .inl rfl|exact .inr ⟨by simp [belowRE,below,belowL,tr,i64_below,encN_below,symIs_below,strs_below,fcts_below,fncs_below,bnds_below],by simp [belowH,Blk.below,belowL,below,i64_below,encN_below,symIs_below,strs_below,fcts_below,fncs_below,bnds_below]⟩|fail);(repeat' (first|exact trivial|refine ⟨⟨_,rfl,?_⟩,?_⟩|fail));all_goals try (first|exact Wk.refl _|exact Wk.of_eq (congrArg (AV.int _) (by omega))|fail))
   ·have hke:k=m.binds.length:=by omega
    subst hke
    have htk:D.take (m.facts.length+m.funcs.length+m.binds.length)=D:=List.take_of_length_le (by omega)
    rw [htk]
    (repeat' ((conv=>whnf);(first|refine IfN.dF (by omega) ?_|refine CallN.det _ (g4 _) ?_|refine DrawN.mk' [] ?_|fail)));all_goals (conv=>whnf)
    refine loop_R Tryz.E0 Tryz.mx (σ:=Nat) (fun k=>k≤rs.length) (fun k=>rs.length-k) (fun k=>[(14,.v (.int .i64 (numR ((rs.zip D).take k) 0:Nat))),(79,.v (.int .i64 k))]) (fun _=>_) _ 0 rfl hcl [7,77,78] rfl (Nat.zero_le _) ⟨⟨_,rfl,Wk.refl _⟩,⟨_,rfl,Wk.refl _⟩,trivial⟩ rfl (fun _ _=>rfl) ?_
    intro k hk
    rcases Nat.lt_or_ge k rs.length with hlt|hge
    ·have hzl:(rs.zip D).length=rs.length:=by rw [List.length_zip];omega
     have hzk:(rs.zip D).getD k (0,0)=(rs.getD k 0,D.getD k 0):=by
      simp [List.getD_eq_getElem?_getD,List.getElem?_eq_getElem (show k<(rs.zip D).length by omega),List.getElem?_eq_getElem hlt,List.getElem?_eq_getElem (show k<D.length by omega)]
     have hs:=numR_take (rs.zip D) k (by omega)
     rw [hzk] at hs
     simp only at hs
     have b1:=hbd k
     have b2:=hbd (k+1)
     have b3:numR ((rs.zip D).take k) 0 * rs.getD k 0≤16384:=by omega
     (repeat' ((conv=>whnf);(first|refine IfN.dT (by omega) ?_|(refine EqN.id ?_;first|(refine EqN.addN _ _ Cst.h Cst.h ?_ ?_;· omega)|(refine EqN.mulN _ _ Cst.h Cst.h ?_ ?_;· omega)|fail)|(refine SideN.mk ?_ ?_;· first|kernel_rfl|omega|exact List.cons_ne_nil _ _|(simp;done)|(simp;omega)|exact trivial|assumption|fail)|refine SegN.nth (f:=encN) 0 k rfl (by omega) (fun _=>rfl) ?_|refine DrawN.mk' [] ?_|fail)));all_goals (conv=>whnf)
     (refine ⟨⟨k+1,by show k+1≤_;omega,by omega,?_,.inl ⟨rfl,rfl⟩,rfl,_,rfl,?_⟩⟩;rotate_left 1;(first|exact .inl rfl|exact .inr ⟨by simp [belowRE,below,belowL,tr,i64_below,encN_below,symIs_below,strs_below,fcts_below,fncs_below,bnds_below],by simp [belowH,Blk.below,belowL,below,i64_below,encN_below,symIs_below,strs_below,fcts_below,fncs_below,bnds_below]⟩|fail);(repeat' (first|exact trivial|refine ⟨⟨_,rfl,?_⟩,?_⟩|fail));all_goals try (first|exact Wk.refl _|exact Wk.of_eq (congrArg (AV.int _) (by omega))|fail))
    ·have hke:k=rs.length:=by omega
     subst hke
     rw [List.take_of_length_le (by rw [List.length_zip];omega)]
     (repeat' ((conv=>whnf);(first|refine IfN.dF (by omega) ?_|refine DrawN.mk' [] ?_|fail)));all_goals (conv=>whnf)
     exact EndN.det (by simp [below,belowL]) (Wk.refl _)
end Go.Proofs.YtgdmldelijeaoaaGreatDoor
/-! text PS41 -/
namespace Go.Proofs.YtgdmldelijeaoaaGreatDoor
open Go.Vsi
set_option maxHeartbeats 4000000
theorem zw_mem {α γ:Type} {f:α→Nat→γ}:∀ {l:List α} {ds:List Nat} {y:γ},y∈List.zipWith f l ds→∃ x d,(x,d)∈l.zip ds∧y=f x d
 | [],_,y,h=>by simp at h
 | _::_,[],y,h=>by simp at h
 | x::l,d::ds,y,h=>by
   rcases List.mem_cons.1 h with rfl|h
   ·exact ⟨x,d,List.mem_cons_self,rfl⟩
   ·obtain ⟨a,b,h1,h2⟩:=zw_mem h
    exact ⟨a,b,List.mem_cons_of_mem _ h1,h2⟩
theorem zw_fst {α γ δ:Type} (f:α→Nat→γ) (g:γ→δ) (h:α→δ) (he:∀ x d,g (f x d)=h x):∀ (l:List α) (ds:List Nat),l.length≤ds.length→(List.zipWith f l ds).map g=l.map h
 | [],_,_=>by simp
 | _::_,[],hl=>by simp at hl
 | x::l,d::ds,hl=>by
   rw [List.zipWith_cons_cons,List.map_cons,List.map_cons,he,zw_fst f g h he l ds (by simpa using hl)]
theorem zw_snd {α γ:Type} (f:α→Nat→γ) (g:γ→Nat):∀ (l:List α) (ds:List Nat),l.length≤ds.length→(∀ x d,(x,d)∈l.zip ds→g (f x d)=d)→(List.zipWith f l ds).map g=ds.take l.length
 | [],_,_,_=>by simp
 | _::_,[],hl,_=>by simp at hl
 | x::l,d::ds,hl,h=>by
   rw [List.zipWith_cons_cons,List.map_cons,h x d List.mem_cons_self,zw_snd f g l ds (by simpa using hl) fun y e hy=>h y e (List.mem_cons_of_mem _ hy)]
   rfl
theorem zw_get {α γ:Type} (f:α→Nat→γ) (d0:α) (g0:γ):∀ (l:List α) (ds:List Nat) (i:Nat),i<l.length→i<ds.length→(List.zipWith f l ds).getD i g0=f (l.getD i d0) (ds.getD i 0)
 | [],_,_,h,_=>by simp at h
 | _::_,[],_,_,h=>by simp at h
 | x::l,d::ds,0,_,_=>rfl
 | x::l,d::ds,i+1,h1,h2=>by
   simp only [List.zipWith_cons_cons,List.getD_cons_succ]
   exact zw_get f d0 g0 l ds i (by simpa using h1) (by simpa using h2)
theorem zip_app {α:Type}:∀ (a b:List α) (ds:List Nat),a.length≤ds.length→(a++b).zip ds=a.zip ds++b.zip (ds.drop a.length)
 | [],b,ds,_=>by simp
 | _::_,b,[],h=>by simp at h
 | x::a,b,d::ds,h=>by
   simp only [List.cons_append,List.zip_cons_cons,List.length_cons,List.drop_succ_cons]
   rw [zip_app a b ds (by simpa using h)]
theorem zm_mem {α β:Type} {f:α→β}:∀ {l:List α} {ds:List Nat} {x:α} {d:Nat},(x,d)∈l.zip ds→(f x,d)∈(l.map f).zip ds
 | [],_,_,_,h=>by simp at h
 | _::_,[],_,_,h=>by simp at h
 | y::l,e::ds,x,d,h=>by
   simp only [List.zip_cons_cons,List.map_cons] at h ⊢
   rcases List.mem_cons.1 h with h|h
   ·cases h
    exact List.mem_cons_self
   ·exact List.mem_cons_of_mem _ (zm_mem h)
structure DgOk (S:Sig) (n:Nat) (ds:List Nat):Prop where
 len:ds.length=S.preds.length+S.funcs.length+S.vars.length
 p:∀ x d,(x,d)∈S.preds.zip ds→d<2 ^ n ^ x.2.toNat
 u:∀ x d,(x,d)∈S.funcs.zip (ds.drop S.preds.length)→d<n ^ n ^ x.2.toNat
 v:∀ x d,(x,d)∈S.vars.zip (ds.drop (S.preds.length+S.funcs.length))→d<n
theorem dg_of {S:Sig} {n:Nat} {ds:List Nat} (hl:ds.length=(rnN S n).length) (h:∀ x∈(rnN S n).zip ds,x.2<x.1):DgOk S n ds:=by
 have hl':=rn_len' S n
 unfold rnN at h
 rw [List.append_assoc,zip_app _ _ _ (by rw [List.length_map];omega),List.length_map,zip_app _ _ _ (by rw [List.length_map,List.length_drop];omega),List.length_map,List.drop_drop] at h
 refine ⟨by omega,fun x d hx=>?_,fun x d hx=>?_,fun x d hx=>?_⟩
 ·exact h (2 ^ n ^ x.2.toNat,d) (List.mem_append_left _ (zm_mem (f:=fun x:SymI=>2 ^ n ^ x.2.toNat) hx))
 ·exact h (n ^ n ^ x.2.toNat,d) (List.mem_append_right _ (List.mem_append_left _ (zm_mem (f:=fun x:SymI=>n ^ n ^ x.2.toNat) hx)))
 ·exact h (n,d) (List.mem_append_right _ (List.mem_append_right _ (zm_mem (f:=fun _:ByteArray=>n) hx)))
theorem nth_sig {S:Sig} {n:Nat} {ds:List Nat} (h:DgOk S n ds):sigM (nthM S n ds)=S:=by
 have hl:=h.len
 show (⟨(List.zipWith mkFct S.preds ds).map (fun f=>(f.nm,f.ar)),(List.zipWith (mkFnc n) S.funcs (ds.drop S.preds.length)).map (fun f=>(f.nm,f.ar)),(List.zipWith mkBnd S.vars (ds.drop (S.preds.length+S.funcs.length))).map Bnd.nm⟩:Sig)=S
 rw [zw_fst mkFct (fun f:Fct=>(f.nm,f.ar)) (fun x=>x) (fun _ _=>rfl) _ _ (by omega),zw_fst (mkFnc n) (fun f:Fnc=>(f.nm,f.ar)) (fun x=>x) (fun _ _=>rfl) _ _ (by rw [List.length_drop];omega),zw_fst mkBnd Bnd.nm (fun x=>x) (fun _ _=>rfl) _ _ (by rw [List.length_drop];omega)]
 simp only [List.map_id']
theorem nth_vm {S:Sig} {n:Nat} {ds:List Nat} (hr:sigR S=true) (hn:1≤n∧n≤3) (h:DgOk S n ds):VM (nthM S n ds) n:=by
 obtain ⟨p1,p2⟩:=sig_ar hr
 refine ⟨rfl,hn.1,hn.2,fun f hf=>?_,fun f hf=>?_,fun b hb=>?_⟩
 ·obtain ⟨x,d,hx,rfl⟩:=zw_mem hf
  have h1:=h.p x d hx
  have h2:=p1 x (List.of_mem_zip hx).1
  exact ⟨by show x.2=0∨x.2=1∨x.2=2;omega,Int.natCast_nonneg _,h1⟩
 ·obtain ⟨x,d,hx,rfl⟩:=zw_mem hf
  have h2:=p2 x (List.of_mem_zip hx).1
  refine ⟨by show x.2=0∨x.2=1;omega,?_,fun v hv=>?_⟩
  ·show ((digN n (n ^ x.2.toNat) d).map Int.ofNat).length=_
   rw [List.length_map,digN_len]
   rfl
  ·obtain ⟨w,hw,rfl⟩:=List.mem_map.1 hv
   have:=digN_lt (n:=n) hn.1 _ _ w hw
   show 0≤(w:Int)∧(w:Int)<n
   omega
 ·obtain ⟨x,d,hx,rfl⟩:=zw_mem hb
  have h1:=h.v x d hx
  show 0≤(d:Int)∧(d:Int)<n
  omega
theorem nth_valid {S:Sig} {n:Nat} {ds:List Nat} (hr:sigR S=true) (hn:1≤n∧n≤3) (h:DgOk S n ds):validM (nthM S n ds)=true :=
 valid_of (nth_vm hr hn h) rfl rfl rfl (by rw [nth_sig h];exact hr)
theorem nth_sm {S:Sig} {n:Nat} {ds:List Nat} (hs:S.Sm) (hr:sigR S=true) (hn:1≤n∧n≤3) (h:DgOk S n ds):(nthM S n ds).Sm:=by
 refine ⟨Nat.zero_le _,?_,?_,?_,fun f hf=>?_⟩
 ·exact Nat.le_trans (List.length_zipWith▸Nat.min_le_left _ _) hs.preds
 ·exact Nat.le_trans (List.length_zipWith▸Nat.min_le_left _ _) hs.funcs
 ·exact Nat.le_trans (List.length_zipWith▸Nat.min_le_left _ _) hs.vars
 ·have hv:=(nth_vm hr hn h).funcs f hf
  rw [hv.len]
  have h1:n ^ f.ar.toNat≤3 ^ f.ar.toNat:=Nat.pow_le_pow_left hn.2 _
  have h2:3 ^ f.ar.toNat≤3 ^ 1:=Nat.pow_le_pow_right (by decide) (by have:=hv.ar;omega)
  omega
theorem nth_nm {S:Sig} {n:Nat} {ds:List Nat} (hs:S.Sm):(nthM S n ds).Nm:=by
 refine ⟨fun f hf=>?_,fun f hf=>?_,fun f hf=>?_⟩
 ·obtain ⟨x,d,hx,rfl⟩:=zw_mem hf
  exact hs.np x (List.of_mem_zip hx).1
 ·obtain ⟨x,d,hx,rfl⟩:=zw_mem hf
  exact hs.nf x (List.of_mem_zip hx).1
 ·obtain ⟨x,d,hx,rfl⟩:=zw_mem hf
  exact hs.nv x (List.of_mem_zip hx).1
theorem num_dgN {n:Nat} (hn:1≤n) {k d:Nat} (h:d<n ^ k):numN n (((digN n k d).map Int.ofNat).map Int.toNat)=d:=by
 rw [List.map_map,show (Int.toNat∘Int.ofNat)=id from rfl,List.map_id]
 exact num_dig hn k d h
theorem nth_dg {S:Sig} {n:Nat} {ds:List Nat} (hn:1≤n) (h:DgOk S n ds):dgM n (nthM S n ds)=ds:=by
 have hl:=h.len
 show (List.zipWith mkFct S.preds ds).map (fun f=>f.tr.toNat)++(List.zipWith (mkFnc n) S.funcs (ds.drop S.preds.length)).map (fun f=>numN n (f.vl.map Int.toNat))++(List.zipWith mkBnd S.vars (ds.drop (S.preds.length+S.funcs.length))).map (fun b=>b.at_.toNat)=ds
 rw [zw_snd mkFct (fun f:Fct=>f.tr.toNat) _ _ (by omega) fun _ _ _=>rfl,zw_snd (mkFnc n) (fun f:Fnc=>numN n (f.vl.map Int.toNat)) _ _ (by rw [List.length_drop];omega) fun x d hx=>num_dgN hn (h.u x d hx),zw_snd mkBnd (fun b:Bnd=>b.at_.toNat) _ _ (by rw [List.length_drop];omega) fun _ _ _=>rfl]
 rw [← List.drop_drop,List.append_assoc]
 have e:((ds.drop S.preds.length).drop S.funcs.length).take S.vars.length=(ds.drop S.preds.length).drop S.funcs.length:=List.take_of_length_le (by rw [List.length_drop,List.length_drop];omega)
 rw [e,List.take_append_drop,List.take_append_drop]
def cmp1 (o a b:Int):Int:=if o=0 then (if a<b then -1 else if b<a then 1 else 0) else o
theorem cmpD_snoc:∀ (l m:List Nat) (a b:Nat),l.length=m.length→cmpD (l++[a]) (m++[b])=cmp1 (cmpD l m) a b
 | [],[],a,b,_=>by
   show (if a<b then (-1:Int) else if b<a then 1 else 0)=cmp1 0 a b
   unfold cmp1
   by_cases h1:a<b
   ·simp only [h1,Int.ofNat_lt,if_true]
   ·by_cases h2:b<a
    ·simp only [h1,h2,Int.ofNat_lt,if_true,if_false]
    ·simp only [h1,h2,Int.ofNat_lt,if_true,if_false]
 | [],_::_,_,_,h=>by simp at h
 | _::_,[],_,_,h=>by simp at h
 | x::l,y::m,a,b,h=>by
   simp only [List.cons_append,cmpD]
   by_cases h1:x<y
   ·rw [if_pos h1,if_pos h1]
    rfl
   ·rw [if_neg h1,if_neg h1]
    by_cases h2:y<x
    ·rw [if_pos h2,if_pos h2]
     rfl
    ·rw [if_neg h2,if_neg h2,cmpD_snoc l m a b (by simpa using h)]
theorem cmpD_take (l m:List Nat) (i:Nat) (h1:i<l.length) (h2:i<m.length):cmpD (l.take (i+1)) (m.take (i+1))=cmp1 (cmpD (l.take i) (m.take i)) (l.getD i 0:Nat) (m.getD i 0:Nat):=by
 rw [take_snocD l 0 i h1,take_snocD m 0 i h2,cmpD_snoc _ _ _ _ (by rw [List.length_take,List.length_take];omega)]
def cmpO (o:Int) (l m:List Nat):Int:=if o=0 then cmpD l m else o
theorem cmpO_zero (o:Int) (l m:List Nat):cmpO o (l.take 0) (m.take 0)=o:=by
 rw [List.take_zero,List.take_zero]
 unfold cmpO
 by_cases h:o=0
 ·rw [if_pos h,h]
  rfl
 ·rw [if_neg h]
theorem cmpO_take (o:Int) (l m:List Nat) (i:Nat) (h1:i<l.length) (h2:i<m.length):cmpO o (l.take (i+1)) (m.take (i+1))=cmp1 (cmpO o (l.take i) (m.take i)) (l.getD i 0:Nat) (m.getD i 0:Nat):=by
 unfold cmpO
 by_cases h:o=0
 ·rw [if_pos h,if_pos h]
  exact cmpD_take l m i h1 h2
 ·rw [if_neg h,if_neg h]
  unfold cmp1
  rw [if_neg h]
theorem num_rep (n:Nat):∀ (l:List Nat) (a:Nat),numR ((List.replicate l.length n).zip l) a=l.foldl (fun b v=>b * n+v) a
 | [],a=>rfl
 | x::l,a=>by
   rw [List.length_cons,List.replicate_succ,List.zip_cons_cons,numR,num_rep n l,List.foldl_cons]
theorem rep_lt {n:Nat}:∀ {l:List Nat},(∀ v∈l,v<n)→∀ x∈(List.replicate l.length n).zip l,x.2<x.1
 | [],_,x,h=>by simp at h
 | y::l,hl,x,h=>by
   rw [List.length_cons,List.replicate_succ,List.zip_cons_cons] at h
   rcases List.mem_cons.1 h with rfl|h
   ·exact hl y List.mem_cons_self
   ·exact rep_lt (fun v hv=>hl v (List.mem_cons_of_mem _ hv)) x h
theorem cmpO_num {n k:Nat} (o:Int) {l m:List Nat} (h1:l.length=k) (h2:m.length=k) (h3:∀ v∈l,v<n) (h4:∀ v∈m,v<n):cmpO o l m=cmp1 o (numN n l:Nat) (numN n m:Nat):=by
 unfold cmpO
 by_cases h:o=0
 ·rw [if_pos h,h]
  have e1:=num_rep n l 0
  have e2:=num_rep n m 0
  have b1:=rep_lt h3
  have b2:=rep_lt h4
  rw [h1] at e1 b1
  rw [h2] at e2 b2
  have key:=numR_cmp (List.replicate k n) l m 0 (by rw [List.length_replicate];omega) (by rw [List.length_replicate];omega) b1 b2
  rw [e1,e2] at key
  unfold cmp1 numN
  rw [if_pos rfl]
  rcases key with ⟨q1,q2⟩|⟨q1,q2⟩|⟨q1,q2,-⟩
  ·rw [q1,if_pos (by omega)]
  ·rw [q1,if_neg (by omega),if_pos (by omega)]
  ·rw [q1,if_neg (by omega),if_neg (by omega)]
 ·rw [if_neg h]
  unfold cmp1
  rw [if_neg h]
theorem cmpD_fin {rs:List Nat} (hp:∀ r∈rs,0<r) {a b:Nat} (ha:a<pR rs) (hb:b<pR rs):(cmpD (digR rs a) (digR rs b)=-1∧a<b)∨(cmpD (digR rs a) (digR rs b)=1∧b<a)∨(cmpD (digR rs a) (digR rs b)=0∧a=b):=by
 rw [← prodR_pR] at ha hb
 have:=numR_cmp rs (digR rs a) (digR rs b) 0 (digR_len _ _).symm (digR_len _ _).symm (digR_lt _ _ hp) (digR_lt _ _ hp)
 rw [digR_num hp ha,digR_num hp hb] at this
 rcases this with q|q|⟨q1,q2,-⟩
 ·exact .inl q
 ·exact .inr (.inl q)
 ·exact .inr (.inr ⟨q1,q2⟩)
theorem nth_i {S:Sig} {n:Nat} (hn:1≤n) (N:Nat):DgOk S n (digR (rnN S n) N) :=
 dg_of (digR_len _ _) (digR_lt _ _ (rn_pos S n hn))
theorem zip_gmem {α:Type} (d0:α):∀ (l:List α) (ds:List Nat) (i:Nat),i<l.length→i<ds.length→(l.getD i d0,ds.getD i 0)∈l.zip ds
 | [],_,_,h,_=>by simp at h
 | _::_,[],_,_,h=>by simp at h
 | x::l,d::ds,0,_,_=>List.mem_cons_self
 | x::l,d::ds,i+1,h1,h2=>by
   simp only [List.getD_cons_succ]
   exact List.mem_cons_of_mem _ (zip_gmem d0 l ds i (by simpa using h1) (by simpa using h2))
structure NX (n np nf nv:Nat) (ks:Nat→Nat) (ds:List Nat) (fa:List Fct) (fu:List Fnc) (bi:List Bnd):Prop where
 l1:fa.length=np
 l2:fu.length=nf
 l3:bi.length=nv
 e1:∀ i,i<np→∃ u v,(fa.getD i fct0).cells=[.str u,.int .i64 v,.int .i64 (ds.getD i 0:Nat)]
 e2:∀ i,i<nf→∃ u v,∃ vs:List Nat,(fu.getD i fnc0).cells=[.str u,.int .i64 v,.sl none (ks i) (vs.flatMap encN)]∧vs.length=ks i∧(∀ x∈vs,x<n)∧numN n vs=ds.getD (np+i) 0
 e3:∀ i,i<nv→∃ u,(bi.getD i bnd0).cells=[.str u,.int .i64 (ds.getD (np+nf+i) 0:Nat)]
theorem nth_nx {S:Sig} {n:Nat} {ds:List Nat} (hn:1≤n) (h:DgOk S n ds):NX n S.preds.length S.funcs.length S.vars.length (fun i=>n ^ (S.funcs.getD i symI0).2.toNat) ds (List.zipWith mkFct S.preds ds) (List.zipWith (mkFnc n) S.funcs (ds.drop S.preds.length)) (List.zipWith mkBnd S.vars (ds.drop (S.preds.length+S.funcs.length))):=by
 have hl:=h.len
 have d1:(ds.drop S.preds.length).length=S.funcs.length+S.vars.length:=by rw [List.length_drop];omega
 have d2:(ds.drop (S.preds.length+S.funcs.length)).length=S.vars.length:=by rw [List.length_drop];omega
 refine ⟨zip_len _ _ _ (by omega),zip_len _ _ _ (by omega),zip_len _ _ _ (by omega),fun i hi=>?_,fun i hi=>?_,fun i hi=>?_⟩
 ·rw [zw_get mkFct symI0 fct0 _ _ i hi (by omega)]
  exact ⟨_,_,rfl⟩
 ·have hm:=zip_gmem symI0 S.funcs (ds.drop S.preds.length) i hi (by omega)
  have hd:=h.u _ _ hm
  rw [zw_get (mkFnc n) symI0 fnc0 _ _ i hi (by omega)]
  rw [getD_drop'] at hd ⊢
  exact ⟨_,_,_,fnc_mk n _ _ rfl,digN_len _ _ _,digN_lt hn _ _,num_dig hn _ _ hd⟩
 ·rw [zw_get mkBnd .empty bnd0 _ _ i hi (by omega),getD_drop']
  exact ⟨_,rfl⟩
end Go.Proofs.YtgdmldelijeaoaaGreatDoor
/-! text BO41 -/
namespace Go.Proofs.YtgdmldelijeaoaaGreatDoor
open Go.Vsi
set_option maxHeartbeats 4000000
set_option linter.unusedSimpArgs false
attribute [local irreducible] VW VCall VO bits
theorem ord_c (q:Nat) (o a b:Int) (H:Heap) (hq:H[q]? = some (.box 3 [.int .i64 o])):VCall Tryz.prog 54 [.int .i64 a,.int .i64 b,.ptr q 0] H (setR H q (.box 3 [.int .i64 (cmp1 o a b)]) (.tup [])):=by
 by_cases ho:o=0
 ·subst ho
  by_cases h1:a<b
  ·have e:cmp1 0 a b=-1:=by unfold cmp1;rw [if_pos rfl,if_pos h1]
   rw [e]
   refine fn_gen Tryz.E0 Tryz.mx Tryz.func54 (by kernel_rfl) rfl (Nat.le_of_ble_eq_true rfl) rfl fun hcl hbl=>?_
   (repeat' ((conv=>whnf);(first|(refine IfN.id ?_;first|refine IfN.not ?_|refine IfN.tt rfl ?_|refine IfN.dT (by omega) ?_|refine IfN.dF (by omega) ?_|fail)|refine SetN.mk _ rfl ?_|refine PtrN.base _ (by (repeat' (first|assumption|exact at_loc' _ rfl|exact at_loc0 rfl|refine at_set (B':=?_) ?_|refine at_base' ?_|fail))) ?_|refine DrawN.mk' [] ?_|fail)));all_goals (conv=>whnf)
   rw [List.set_set]
   exact EndN.setB (by simp [Blk.below,below,belowL]) trivial (Wk.refl _)
  ·by_cases h2:b<a
   ·have e:cmp1 0 a b=1:=by unfold cmp1;rw [if_pos rfl,if_neg h1,if_pos h2]
    rw [e]
    refine fn_gen Tryz.E0 Tryz.mx Tryz.func54 (by kernel_rfl) rfl (Nat.le_of_ble_eq_true rfl) rfl fun hcl hbl=>?_
    (repeat' ((conv=>whnf);(first|(refine IfN.id ?_;first|refine IfN.not ?_|refine IfN.tt rfl ?_|refine IfN.dF (by omega) ?_|fail)|refine SetN.mk _ rfl ?_|refine PtrN.base _ (by (repeat' (first|assumption|exact at_loc' _ rfl|exact at_loc0 rfl|refine at_set (B':=?_) ?_|refine at_base' ?_|fail))) ?_|refine DrawN.mk' [] ?_|fail)));all_goals (conv=>whnf)
    exact EndN.setB (by simp [Blk.below,below,belowL]) trivial (Wk.refl _)
   ·have e:cmp1 0 a b=0:=by unfold cmp1;rw [if_pos rfl,if_neg h1,if_neg h2]
    rw [e]
    refine fn_gen Tryz.E0 Tryz.mx Tryz.func54 (by kernel_rfl) rfl (Nat.le_of_ble_eq_true rfl) rfl fun hcl hbl=>?_
    (repeat' ((conv=>whnf);(first|(refine IfN.id ?_;first|refine IfN.not ?_|refine IfN.tt rfl ?_|refine IfN.dT (by omega) ?_|fail)|refine PtrN.base _ (by (repeat' (first|assumption|exact at_loc' _ rfl|exact at_loc0 rfl|refine at_set (B':=?_) ?_|refine at_base' ?_|fail))) ?_|refine DrawN.mk' [] ?_|fail)));all_goals (conv=>whnf)
    exact EndN.same hq trivial (Wk.refl _)
 ·have e:cmp1 o a b=o:=by unfold cmp1;rw [if_neg ho]
  rw [e]
  refine fn_gen Tryz.E0 Tryz.mx Tryz.func54 (by kernel_rfl) rfl (Nat.le_of_ble_eq_true rfl) rfl fun hcl hbl=>?_
  (repeat' ((conv=>whnf);(first|refine IfN.dF (by omega) ?_|refine PtrN.base _ (by (repeat' (first|assumption|exact at_loc' _ rfl|exact at_loc0 rfl|refine at_set (B':=?_) ?_|refine at_base' ?_|fail))) ?_|refine DrawN.mk' [] ?_|fail)));all_goals (conv=>whnf)
  exact EndN.same hq trivial (Wk.refl _)
end Go.Proofs.YtgdmldelijeaoaaGreatDoor
/-! text BF41 -/
namespace Go.Proofs.YtgdmldelijeaoaaGreatDoor
open Go.Vsi
set_option maxHeartbeats 4000000
set_option linter.unusedSimpArgs false
attribute [local irreducible] VW VCall VO bits
theorem nat_flat (l:List Nat):(l.map Int.ofNat).flatMap enc64=l.flatMap encN:=by
 rw [enc64_map,encN_map,List.map_map]
 rfl
theorem perm_nd {n:Nat} {p:List Nat} (hp:PermOk n p):p.Nodup:=by
 refine List.pairwise_iff_getElem.2 fun i j hi hj hij h=>?_
 have hl:=hp.len
 have:=hp.inj i j (by omega) (by omega) (by
  rw [List.getD_eq_getElem?_getD,List.getD_eq_getElem?_getD,List.getElem?_eq_getElem hi,List.getElem?_eq_getElem hj,h])
 omega
theorem moved1 (fa:List Fct) (bi:List Bnd) (n:Nat) (p:List Nat) (c0:ByteArray) (v0:Nat) (hn:1≤n∧n≤3) (hv0:v0<n) (hp:PermOk n p) (m:Mdl) (hme:m=⟨2,n,[],0,fa,[⟨c0,0,[((v0:Nat):Int)]⟩],bi⟩) (hm:m.Sm) (hnm:m.Nm) (hv:validM m=true) (H:Heap) :
  VDet Tryz.prog 46 [.agg m.cells,.sl none p.length (p.flatMap encN)] H (.tup [.agg (movM n p m).cells,.int .i64 0]):=by
 have vm:=(vm_of hv).1
 have hsz:m.size.toNat=n:=by rw [hme];show ((n:Nat):Int).toNat=n;omega
 rw [hsz] at vm
 have l1:fa.length≤1000000:=by have:=hm.facts;rw [hme] at this;exact this
 have l3:bi.length≤1000000:=by have:=hm.binds;rw [hme] at this;exact this
 have hfv:∀ f∈fa,FctOk n f:=fun f hf=>vm.facts f (by rw [hme];exact hf)
 have hbv:∀ b∈bi,0≤b.at_∧b.at_<n:=fun b hb=>vm.binds b (by rw [hme];exact hb)
 have hplen:=hp.len
 have g1:=fun H=>valid_c m hm hnm H
 have g2:=fun H=>permutes_c n hn (p.map Int.ofNat) H
 have hpk:permB n (p.map Int.ofNat)=true:=by
  unfold permB
  rw [List.length_map,decide_eq_true hplen,Bool.true_and]
  exact pgo_ok p _ (fun a ha=>⟨by
   obtain ⟨i,hi,rfl⟩:=List.getElem_of_mem ha
   have:=hp.lt i (by omega)
   rwa [List.getD_eq_getElem?_getD,List.getElem?_eq_getElem hi] at this,rfl⟩) (perm_nd hp)
 rw [hpk,List.length_map,nat_flat] at g2
 rw [hv] at g1
 have hmc:m.cells=[.int .u8 2,.int .i64 (n:Nat),.sl none 0 [],.int .i64 0,.sl none fa.length (fa.flatMap Fct.cells),.sl none 1 [.str c0,.int .i64 0,.sl none 1 [.int .i64 (v0:Nat)]],.sl none bi.length (bi.flatMap Bnd.cells)]:=by
  rw [hme]
  unfold Mdl.cells
  rfl
 rw [hmc] at g1 ⊢
 have hmov:=fun t k ht hk H=>mov_c t n k p hn ht hk hp H
 have hmlt:=fun k t=>mvN_lt (show 0<n by omega) hp k t
 have hout:(movM n p m).cells=[.int .u8 2,.int .i64 (n:Nat),.sl none 0 [],.int .i64 0,.sl none fa.length ((fa.map (movFct n p)).flatMap Fct.cells),.sl none 1 [.str c0,.int .i64 0,.sl none 1 [.int .i64 (p.getD v0 0:Nat)]],.sl none bi.length ((bi.map (movBnd p)).flatMap Bnd.cells)]:=by
  rw [hme]
  unfold movM Mdl.cells
  simp only [List.length_map]
  rfl
 rw [hout]
 clear hout hmc hme hv hsz vm hpk
 refine fn_det Tryz.E0 Tryz.mx Tryz.func46 (by kernel_rfl) rfl (Nat.le_of_ble_eq_true rfl) rfl fun hcl hbl=>?_
 (repeat' ((conv=>whnf);(first|(refine IfN.id ?_;first|refine IfN.not ?_|refine IfN.tt rfl ?_|fail)|(refine CallN.id ?_;first|refine CallN.det _ (g1 _) ?_|refine CallN.det _ (g2 _) ?_|fail)|refine DrawN.mk' [] ?_|fail)));all_goals (conv=>whnf)
 refine LoopN.tokB 2 4 95 3 rfl rfl rfl rfl rfl rfl ?_
 refine loop_R Tryz.E0 Tryz.mx (σ:=Nat) (fun k=>k≤fa.length) (fun k=>fa.length-k) (fun k=>[(37,.v (.int .i64 k))]) (fun k=>[.box 37 [.int .u8 2,.int .i64 (n:Nat),.sl none 0 [],.int .i64 0,.sl none fa.length (fa.flatMap Fct.cells),.sl none 1 [.str c0,.int .i64 0,.sl none 1 [.int .i64 (v0:Nat)]],.sl none bi.length (bi.flatMap Bnd.cells)],.box 37 [.int .u8 0,.int .i64 0,.nils,.int .i64 0,.nils,.nils,.nils],.box 37 [.int .u8 2,.int .i64 (n:Nat),.nils,.int .i64 0,.sl (some (H.length+3)) k (((fa.take k).map (movFct n p)).flatMap Fct.cells),.nils,.nils],.tok 95 3 (((fa.take k).map (movFct n p)).flatMap Fct.cells).length]) _ 0 rfl hcl [1,2,4,6,35,36] rfl (Nat.zero_le _) ⟨⟨_,rfl,Wk.refl _⟩,trivial⟩ rfl (fun _ _=>rfl) ?_
 intro k hk
 rcases Nat.lt_or_ge k fa.length with hlt|hge
 ·obtain ⟨u,v,z,hx,ex⟩:=fct_ex (f:=fa.getD k fct0) rfl
  have hok:=hfv _ (getD_memT fa k fct0 hlt)
  rw [hx] at hok
  obtain ⟨har,htr1,htr2⟩:=hok
  simp only at har htr1 htr2
  obtain ⟨e,rfl⟩:∃ e:Nat,v=e:=⟨v.toNat,by omega⟩
  obtain ⟨zn,rfl⟩:∃ zn:Nat,z=zn:=⟨z.toNat,by omega⟩
  rw [Int.toNat_natCast,Int.toNat_natCast] at htr2
  have hpw:=fun H=>powN_c n e hn (by omega) H
  have hq:n ^ e≤9:=by
   have h1:n ^ e≤3 ^ e:=Nat.pow_le_pow_left hn.2 _
   have h2:3 ^ e≤3 ^ 2:=Nat.pow_le_pow_right (by decide) (by omega)
   omega
  have h512:2 ^ n ^ e≤512:=Nat.pow_le_pow_right (by decide) hq
  have hns:((fa.take (k+1)).map (movFct n p)).flatMap Fct.cells=((fa.take k).map (movFct n p)).flatMap Fct.cells++[.str u,.int .i64 (e:Nat),.int .i64 (movT n p e zn (n ^ e):Nat)]:=by
   rw [take_snocD fa fct0 k hlt,List.map_append,List.flatMap_append,hx]
   rfl
  have hmlf:(((fa.take k).map (movFct n p)).flatMap Fct.cells).length=k * 3:=by
   rw [flat_length fct_size,List.length_map,List.length_take,Nat.min_eq_left hk]
  have hbt:(k+1) * 32≤140737488355328:=by omega
  have hmx:k+1≤maxLen:=Nat.le_trans (show k+1≤1000001 by omega) (by decide)
  have hm2:=fun t ht H=>hmov t e ht (by omega) H
  have hml2:=hmlt e
  have hmT:=movT_lt (show 0<n by omega) hp e zn
  generalize hqq:n ^ e=q at hpw hq hml2 hmT h512 hns htr2
  (repeat' ((conv=>whnf);(first|refine IfN.dT (by omega) ?_|(refine SideN.mk ?_ ?_;· first|kernel_rfl|omega|exact List.cons_ne_nil _ _|(simp;done)|(simp;omega)|exact trivial|assumption|fail)|refine CallN.det _ (hpw _) ?_|refine SegN.nthE fct0 k rfl (by omega) fct_size ex ?_|refine DrawN.mk' [] ?_|fail)));all_goals (conv=>whnf)
  refine loop_R Tryz.E0 Tryz.mx (σ:=Nat) (fun t=>t≤q) (fun t=>q-t) (fun t=>[(51,.v (.int .i64 t))]) (fun t=>[.box 37 [.int .u8 2,.int .i64 (n:Nat),.sl none 0 [],.int .i64 0,.sl none fa.length (fa.flatMap Fct.cells),.sl none 1 [.str c0,.int .i64 0,.sl none 1 [.int .i64 (v0:Nat)]],.sl none bi.length (bi.flatMap Bnd.cells)],.box 37 [.int .u8 0,.int .i64 0,.nils,.int .i64 0,.nils,.nils,.nils],.box 37 [.int .u8 2,.int .i64 (n:Nat),.nils,.int .i64 0,.sl (some (H.length+3)) k (((fa.take k).map (movFct n p)).flatMap Fct.cells),.nils,.nils],.tok 95 3 (((fa.take k).map (movFct n p)).flatMap Fct.cells).length,.box 95 [.str u,.int .i64 (e:Nat),.int .i64 (zn:Nat)],.box 95 [.str u,.int .i64 (e:Nat),.int .i64 (movT n p e zn t:Nat)]]) _ 0 rfl hcl [1,2,4,6,8,9,35,36,37,50] rfl (Nat.zero_le _) ⟨⟨_,rfl,Wk.refl _⟩,trivial⟩ rfl (fun _ _=>rfl) ?_
  intro t ht
  rcases Nat.lt_or_ge t q with htl|htg
  ·have hm3:=hm2 t (by omega)
   have hl3:=hml2 t
   have hT3:=hmT t
   have hbit:(zn >>> t) &&& 1≤1:=Nat.and_le_right
   have hzt:zn >>> t<9223372036854775808:=by
    rw [Nat.shiftRight_eq_div_pow]
    have:=Nat.div_le_self zn (2 ^ t)
    omega
   have hsh:((zn >>> t) &&& 1) <<< mvN n p e t<9223372036854775808:=by
    rw [Nat.shiftLeft_eq]
    have h1:2 ^ mvN n p e t≤2 ^ 9:=Nat.pow_le_pow_right (by decide) (by omega)
    have h2:((zn >>> t) &&& 1) * 2 ^ mvN n p e t≤1 * 2 ^ 9:=Nat.mul_le_mul hbit h1
    omega
   have hst:movT n p e zn (t+1)=movT n p e zn t ||| (((zn >>> t) &&& 1) <<< mvN n p e t):=rfl
   (repeat' ((conv=>whnf);(first|refine IfN.dT (by omega) ?_|(refine EqN.id ?_;first|refine EqN.and (zn >>> t) 1 rfl rfl ⟨hzt,by decide⟩ ?_|refine EqN.shlN ((zn >>> t) &&& 1) (mvN n p e t) rfl rfl rfl (by omega) hsh ?_|refine EqN.or (movT n p e zn t) (((zn >>> t) &&& 1) <<< mvN n p e t) rfl rfl ⟨by omega,hsh⟩ ?_|(refine EqN.shrN _ _ Cst.h Cst.h rfl ?_ ?_;· (repeat' (first|omega|refine And.intro ?_ ?_|exact bnd_andl (by omega)|exact bnd_andr (by omega)|refine bnd_or ?_ ?_|refine bnd_or31 ?_ ?_|refine bnd_xor ?_ ?_|refine bnd_xor31 ?_ ?_|refine bnd_shr ?_|refine bnd_shl ?_ ?_|refine bnd_mod ?_|refine bnd_andl ?_|fail)))|(refine EqN.addN _ _ Cst.h Cst.h ?_ ?_;· omega)|fail)|(refine SideN.mk ?_ ?_;· first|kernel_rfl|omega|exact List.cons_ne_nil _ _|(simp;done)|(simp;omega)|exact trivial|assumption|fail)|refine CallD.det _ (fun _ hq X=>hm3 _) ?_|refine DrawN.mk' [] ?_|fail)));all_goals (conv=>whnf)
   (refine ⟨⟨t+1,by show t+1≤_;omega,by omega,?_,.inl ⟨rfl,rfl⟩,rfl,_,rfl,?_⟩⟩;rotate_left 1;(first|exact .inl rfl|exact .inr ⟨by simp [belowRE,below,belowL,tr,i64_below,encN_below,symIs_below,strs_below,fcts_below,fncs_below,bnds_below],by simp [belowH,Blk.below,belowL,below,i64_below,encN_below,symIs_below,strs_below,fcts_below,fncs_below,bnds_below]⟩|fail);(repeat' (first|exact trivial|refine ⟨⟨_,rfl,?_⟩,?_⟩|fail));all_goals try (first|exact Wk.refl _|exact Wk.of_eq (congrArg (AV.int _) (by omega))|fail))
  ·have hte:t=q:=by omega
   subst hte
   (repeat' ((conv=>whnf);(first|refine IfN.dF (by omega) ?_|(refine EqN.addN _ _ Cst.h Cst.h ?_ ?_;· omega)|refine SideN.mk ⟨rfl,rfl,rfl,hbt,hmx⟩ ?_|refine PtrN.loc _ rfl ?_|refine DrawN.mk' [] ?_|fail)));all_goals (conv=>whnf)
   rw [← hns]
   (refine ⟨⟨k+1,by show k+1≤_;omega,by omega,?_,.inr ?_,rfl,_,rfl,?_⟩⟩;rotate_left 2;(first|exact .inl rfl|exact .inr ⟨by simp [belowRE,below,belowL,tr,i64_below,encN_below,symIs_below,strs_below,fcts_below,fncs_below,bnds_below],by simp [belowH,Blk.below,belowL,below,i64_below,encN_below,symIs_below,strs_below,fcts_below,fncs_below,bnds_below]⟩|fail);all_goals (repeat' (first|exact trivial|refine ⟨⟨_,rfl,?_⟩,?_⟩|fail));all_goals try (first|exact Wk.refl _|exact Wk.of_eq (congrArg (AV.int _) (by omega))|fail))
 ·have hke:k=fa.length:=by omega
  subst hke
  rw [List.take_length]
  (repeat' ((conv=>whnf);(first|refine IfN.dF (by omega) ?_|refine DrawN.mk' [] ?_|fail)));all_goals (conv=>whnf)
  refine LoopN.tokB 2 5 97 3 rfl rfl rfl rfl rfl rfl ?_
  refine LoopN.rounds Tryz.E0 Tryz.mx 2 rfl ?_
  have hm0:∀ H,VDet Tryz.prog 106 [.int .i64 0,.int .i64 (n:Nat),.int .i64 0,.sl none p.length (p.flatMap encN)] H (.int .i64 0):=fun H=>hmov 0 0 (by omega) (by omega) H
  have hps:(p.getD v0 0:Nat)<n:=hp.lt v0 hv0
  (repeat' ((conv=>whnf);(first|refine OrN.natL ?_|refine IfN.tt rfl ?_|(refine SideN.mk ?_ ?_;· first|kernel_rfl|omega|exact List.cons_ne_nil _ _|(simp;done)|(simp;omega)|exact trivial|assumption|fail)|refine NatN.mk _ rfl ?_|refine OrN.r ?_|refine SegN.mk _ (seg_rfl rfl) ?_|refine DrawN.mk' [] ?_|fail)));all_goals (conv=>whnf)
  refine LoopN.rounds Tryz.E0 Tryz.mx 2 rfl ?_
  (repeat' ((conv=>whnf);(first|(refine IfN.id ?_;first|refine IfN.tt rfl ?_|refine IfN.ff rfl ?_|fail)|(refine EqN.addN _ _ Cst.h Cst.h ?_ ?_;· omega)|(refine SideN.mk ?_ ?_;· first|kernel_rfl|omega|exact List.cons_ne_nil _ _|(simp;done)|(simp;omega)|exact trivial|assumption|fail)|refine CallD.det _ (fun _ hq X=>hm0 _) ?_|refine SegN.nth (f:=encN) 0 v0 rfl (by omega) (fun _=>rfl) ?_|refine SideN.mk ⟨rfl,rfl,rfl,by decide,by decide⟩ ?_|refine PtrN.loc _ rfl ?_|refine SegN.mk _ (seg_rfl rfl) ?_|refine OfsN.at_ (by omega) ?_|refine DrawN.mk' [] ?_|fail)));all_goals (conv=>whnf)
  refine LoopN.tokB 2 6 99 2 rfl rfl rfl rfl rfl rfl ?_
  refine loop_R Tryz.E0 Tryz.mx (σ:=Nat) (fun k=>k≤bi.length) (fun k=>bi.length-k) (fun k=>[(128,.v (.int .i64 k))]) (fun k=>[.box 37 [.int .u8 2,.int .i64 (n:Nat),.sl none 0 [],.int .i64 0,.sl none fa.length (fa.flatMap Fct.cells),.sl none 1 [.str c0,.int .i64 0,.sl none 1 [.int .i64 (v0:Nat)]],.sl none bi.length (bi.flatMap Bnd.cells)],.box 37 [.int .u8 0,.int .i64 0,.nils,.int .i64 0,.nils,.nils,.nils],.box 37 [.int .u8 2,.int .i64 (n:Nat),.nils,.int .i64 0,.sl (some (H.length+3)) fa.length ((fa.map (movFct n p)).flatMap Fct.cells),.sl (some (H.length+4)) 1 [.str c0,.int .i64 0,.ms (H.length+6) 0 1],.sl (some (H.length+8)) k (((bi.take k).map (movBnd p)).flatMap Bnd.cells)],.tok 95 3 ((fa.map (movFct n p)).flatMap Fct.cells).length,.tok 97 3 3,.box 97 [.str c0,.int .i64 0,.sl none 1 [.int .i64 (v0:Nat)]],.box 3 [.int .i64 (p.getD v0 0:Nat)],.box 97 [.str c0,.int .i64 0,.ms (H.length+6) 0 1],.tok 99 2 (((bi.take k).map (movBnd p)).flatMap Bnd.cells).length]) _ 0 rfl hcl [1,4,6,126,127] rfl (Nat.zero_le _) ⟨⟨_,rfl,Wk.refl _⟩,trivial⟩ rfl (fun _ _=>rfl) ?_
  intro k hk
  rcases Nat.lt_or_ge k bi.length with hlt|hge
  ·obtain ⟨u,v,hx,ex⟩:=bnd_ex (f:=bi.getD k bnd0) rfl
   have hbk:=hbv _ (getD_memT bi k bnd0 hlt)
   rw [hx] at hbk
   simp only at hbk
   obtain ⟨bn,rfl⟩:∃ bn:Nat,v=bn:=⟨v.toNat,by omega⟩
   have hns:((bi.take (k+1)).map (movBnd p)).flatMap Bnd.cells=((bi.take k).map (movBnd p)).flatMap Bnd.cells++[.str u,.int .i64 (p.getD bn 0:Nat)]:=by
    rw [take_snocD bi bnd0 k hlt,List.map_append,List.flatMap_append,hx]
    rfl
   have hmlb:(((bi.take k).map (movBnd p)).flatMap Bnd.cells).length=k * 2:=by
    rw [flat_length bnd_size,List.length_map,List.length_take,Nat.min_eq_left hk]
   have hbt:(k+1) * 24≤140737488355328:=by omega
   have hmx:k+1≤maxLen:=Nat.le_trans (show k+1≤1000001 by omega) (by decide)
   (repeat' ((conv=>whnf);(first|refine IfN.dT (by omega) ?_|(refine EqN.addN _ _ Cst.h Cst.h ?_ ?_;· omega)|(refine SideN.mk ?_ ?_;· first|kernel_rfl|omega|exact List.cons_ne_nil _ _|(simp;done)|(simp;omega)|exact trivial|assumption|fail)|refine SegN.nthE bnd0 k rfl (by omega) bnd_size ex ?_|refine SegN.nth (f:=encN) 0 bn rfl (by omega) (fun _=>rfl) ?_|refine SideN.mk ⟨rfl,rfl,rfl,hbt,hmx⟩ ?_|refine PtrN.loc _ rfl ?_|refine DrawN.mk' [] ?_|fail)));all_goals (conv=>whnf)
   rw [← hns]
   (refine ⟨⟨k+1,by show k+1≤_;omega,by omega,?_,.inl ⟨rfl,rfl⟩,rfl,_,rfl,?_⟩⟩;rotate_left 1;(first|exact .inl rfl|exact .inr ⟨by simp [belowRE,below,belowL,tr,i64_below,encN_below,symIs_below,strs_below,fcts_below,fncs_below,bnds_below],by simp [belowH,Blk.below,belowL,below,i64_below,encN_below,symIs_below,strs_below,fcts_below,fncs_below,bnds_below]⟩|fail);(repeat' (first|exact trivial|refine ⟨⟨_,rfl,?_⟩,?_⟩|fail));all_goals try (first|exact Wk.refl _|exact Wk.of_eq (congrArg (AV.int _) (by omega))|fail))
  ·have hke:k=bi.length:=by omega
   subst hke
   rw [List.take_length]
   (repeat' ((conv=>whnf);(first|refine IfN.dF (by omega) ?_|refine DrawN.mk' [] ?_|fail)));all_goals (conv=>whnf)
   refine EndN.detF (by simp [below,belowL,fcts_below,fncs_below,bnds_below,encN_below]) (Frz.tup (.cons (Frz.agg (.cons (.refl _) (.cons (.refl _) (.cons (.refl _) (.cons (.refl _) (.cons (.refl _) (.cons (Frz.sl (.cons (.refl _) (.cons (.refl _) (.cons (Frz.ms (by exact rfl) (by exact rfl) (FrzL.refl _)) .nil)))) (.cons (.refl _) .nil)))))))) (.cons (.refl _) .nil))) ?_
   exact wk_tup ⟨wk_agg ⟨Wk.refl _,Wk.refl _,wk_nils,Wk.refl _,wk_sl _ _ _,Wk.refl _,wk_sl _ _ _,trivial⟩,Wk.refl _,trivial⟩
end Go.Proofs.YtgdmldelijeaoaaGreatDoor
/-! text BG41 -/
namespace Go.Proofs.YtgdmldelijeaoaaGreatDoor
open Go.Vsi
set_option maxHeartbeats 4000000
set_option linter.unusedSimpArgs false
attribute [local irreducible] VW VCall VO bits
theorem has_mk {m:Mdl} {p:Fq} (hok:p.Ok) (h1:∀ s a,p.hasP s a→hasFct m s a) (h2:∀ s a,p.hasC s a→hasFnc m s a) (h3:∀ x,p.free x→hasBnd m x):hasB m (sigF p.fo)=true:=by
 unfold hasB
 rw [Bool.and_eq_true,Bool.and_eq_true,List.all_eq_true,List.all_eq_true,List.all_eq_true]
 refine ⟨fun x hx=>?_,fun x hx=>?_,fun x hx=>?_⟩
 ·obtain ⟨y,hy,rfl⟩:=List.mem_map.1 hx
  exact h1 _ _ ((mem_predY hok y).1 ((sortY_perm _).mem_iff.1 hy))
 ·obtain ⟨y,hy,rfl⟩:=List.mem_map.1 hx
  exact h2 _ _ ((mem_funY hok y).1 ((sortY_perm _).mem_iff.1 hy))
 ·exact h3 _ ((mem_freeF hok x).1 ((sortB_perm _).mem_iff.1 hx))
theorem evalG_c (m:Mdl) (hm:m.Sm) (hn:m.Nm) (hva:validM m=true) (p:Fq) (hp:Gd p) (hr:rankF p≤6) (hh:hasB m (sigF p.fo)=true) (H:Heap):VDet Tryz.prog 18 [.agg m.cells,.agg p.fo.cells] H (.tup [.bool (hv m p (bindF m)),.int .i64 0]):=by
 have:=eval_c m hm hn p hp.sm hva hp.right H
 rwa [if_neg (by omega),if_pos hh] at this
def mAw:Mdl:=⟨2,2,[],0,[⟨nR,2,6⟩],[⟨nF,1,[1,0]⟩],[⟨nX,1⟩]⟩
theorem mAw_sm:mAw.Sm:=⟨by decide,by decide,by decide,by decide,fun f hf=>by rw [List.mem_singleton.1 hf];decide⟩
theorem mAw_nm:mAw.Nm:=⟨fun f hf=>by rw [List.mem_singleton.1 hf];decide,fun f hf=>by rw [List.mem_singleton.1 hf];decide,fun f hf=>by rw [List.mem_singleton.1 hf];decide⟩
theorem mAw_v:validM mAw=true:=by kernel_rfl
def aw1:Fq:=.qn 8 nX (.qn 9 nY (.at_ nR [.vr nX,.vr nY]))
def aw2:Fq:=.qn 9 nY (.qn 8 nX (.at_ nR [.vr nX,.vr nY]))
def aw3:Fq:=.qn 8 nX (.at_ nR [.vr nX,.ap nF (.vr nX)])
def aw4:Fq:=.at_ nR [.vr nX,.ap nF (.ap nF (.vr nX))]
theorem awR {s:ByteArray} {a:Int} (h:nR=s∧a=2):inP s a∧hasFct mAw s a:=by
 obtain ⟨rfl,rfl⟩:=h
 exact ⟨.inr (.inr ⟨rfl,rfl⟩),by show (mAw.facts.find? (factP nR 2)).isSome=true;kernel_rfl⟩
theorem awF {s:ByteArray} {a:Int} (h:nF=s∧a=1):inC s a∧hasFnc mAw s a:=by
 obtain ⟨rfl,rfl⟩:=h
 exact ⟨.inr ⟨rfl,rfl⟩,by show (mAw.funcs.find? (funcP nF 1)).isSome=true;kernel_rfl⟩
theorem awX {x:ByteArray} (h:nX=x):inV x∧hasBnd mAw x:=by
 subst h
 exact ⟨.inl rfl,by show (mAw.binds.find? (bindP nX)).isSome=true;kernel_rfl⟩
theorem aw1_std:stdF aw1:=⟨.inl rfl,by kernel_rfl,.inr rfl,by kernel_rfl,by kernel_rfl,by decide,fun t ht=>by
  rcases List.mem_cons.1 ht with h|h
  ·rw [h];exact ⟨by show isVar nX=true;kernel_rfl,by decide⟩
  ·rw [List.mem_singleton.1 h];exact ⟨by show isVar nY=true;kernel_rfl,by decide⟩⟩
theorem aw1_p (s:ByteArray) (a:Int) (h:aw1.hasP s a):nR=s∧a=2:=h
theorem aw1_c (s:ByteArray) (a:Int) (h:aw1.hasC s a):nF=s∧a=1:=by
 obtain ⟨t,ht,h⟩:=h
 rcases List.mem_cons.1 ht with e|e
 ·rw [e] at h;exact h.elim
 ·rw [List.mem_singleton.1 e] at h
  exact h.elim
theorem aw1_v (x:ByteArray) (h:aw1.free x):nX=x:=by
 obtain ⟨⟨⟨t,ht,h⟩,h1⟩,h2⟩:=h
 rcases List.mem_cons.1 ht with e|e
 ·rw [e] at h;exact h
 ·rw [List.mem_singleton.1 e] at h;exact absurd (Eq.symm h) h1
theorem aw1_gd:Gd aw1:=⟨aw1_std,by decide,by decide,fun s a h=>(awR (aw1_p s a h)).1,fun s a h=>(awF (aw1_c s a h)).1,fun x h=>(awX (aw1_v x h)).1⟩
theorem aw1_e (H:Heap):VDet Tryz.prog 18 [.agg [.int .u8 2,.int .i64 2,.nils,.int .i64 0,.sx 1 [.str nR,.int .i64 2,.int .i64 6],.sx 1 [.str nF,.int .i64 1,.sx 2 [.int .i64 1,.int .i64 0]],.sx 1 [.str nX,.int .i64 1]],.agg [.int .u8 8,.str nX,.sl none 0 [],.sl none 1 [.int .u8 9,.str nY,.sl none 0 [],.sl none 1 [.int .u8 1,.str nR,.sl none 2 [.bool true,.str nX,.sl none 0 [],.bool true,.str nY,.sl none 0 []],.sl none 0 []]]]] H (.tup [.bool true,.int .i64 0]):=by
 have h:=evalG_c mAw mAw_sm mAw_nm mAw_v aw1 aw1_gd (by decide) (has_mk (std_ok _ aw1_std) (fun s a h=>(awR (aw1_p s a h)).2) (fun s a h=>(awF (aw1_c s a h)).2) fun x h=>(awX (aw1_v x h)).2) H
 have hb:hv mAw aw1 (bindF mAw)=true:=by kernel_rfl
 rw [hb] at h
 exact VDet.wk h ⟨wk_agg ⟨Wk.refl _,Wk.refl _,wk_nils,Wk.refl _,wk_sx _ _,wk_sxL ⟨Wk.refl _,Wk.refl _,wk_sx _ _,trivial⟩,wk_sx _ _,trivial⟩,Wk.refl _,trivial⟩
theorem aw2_std:stdF aw2:=⟨.inr rfl,by kernel_rfl,.inl rfl,by kernel_rfl,by kernel_rfl,by decide,fun t ht=>by
  rcases List.mem_cons.1 ht with h|h
  ·rw [h];exact ⟨by show isVar nX=true;kernel_rfl,by decide⟩
  ·rw [List.mem_singleton.1 h];exact ⟨by show isVar nY=true;kernel_rfl,by decide⟩⟩
theorem aw2_p (s:ByteArray) (a:Int) (h:aw2.hasP s a):nR=s∧a=2:=h
theorem aw2_c (s:ByteArray) (a:Int) (h:aw2.hasC s a):nF=s∧a=1:=by
 obtain ⟨t,ht,h⟩:=h
 rcases List.mem_cons.1 ht with e|e
 ·rw [e] at h;exact h.elim
 ·rw [List.mem_singleton.1 e] at h
  exact h.elim
theorem aw2_v (x:ByteArray) (h:aw2.free x):nX=x:=by
 obtain ⟨⟨⟨t,ht,h⟩,h2⟩,h1⟩:=h
 rcases List.mem_cons.1 ht with e|e
 ·rw [e] at h;exact h
 ·rw [List.mem_singleton.1 e] at h;exact absurd (Eq.symm h) h1
theorem aw2_gd:Gd aw2:=⟨aw2_std,by decide,by decide,fun s a h=>(awR (aw2_p s a h)).1,fun s a h=>(awF (aw2_c s a h)).1,fun x h=>(awX (aw2_v x h)).1⟩
theorem aw2_e (H:Heap):VDet Tryz.prog 18 [.agg [.int .u8 2,.int .i64 2,.nils,.int .i64 0,.sx 1 [.str nR,.int .i64 2,.int .i64 6],.sx 1 [.str nF,.int .i64 1,.sx 2 [.int .i64 1,.int .i64 0]],.sx 1 [.str nX,.int .i64 1]],.agg [.int .u8 9,.str nY,.sl none 0 [],.sl none 1 [.int .u8 8,.str nX,.sl none 0 [],.sl none 1 [.int .u8 1,.str nR,.sl none 2 [.bool true,.str nX,.sl none 0 [],.bool true,.str nY,.sl none 0 []],.sl none 0 []]]]] H (.tup [.bool false,.int .i64 0]):=by
 have h:=evalG_c mAw mAw_sm mAw_nm mAw_v aw2 aw2_gd (by decide) (has_mk (std_ok _ aw2_std) (fun s a h=>(awR (aw2_p s a h)).2) (fun s a h=>(awF (aw2_c s a h)).2) fun x h=>(awX (aw2_v x h)).2) H
 have hb:hv mAw aw2 (bindF mAw)=false:=by kernel_rfl
 rw [hb] at h
 exact VDet.wk h ⟨wk_agg ⟨Wk.refl _,Wk.refl _,wk_nils,Wk.refl _,wk_sx _ _,wk_sxL ⟨Wk.refl _,Wk.refl _,wk_sx _ _,trivial⟩,wk_sx _ _,trivial⟩,Wk.refl _,trivial⟩
theorem aw3_std:stdF aw3:=⟨.inl rfl,by kernel_rfl,by kernel_rfl,by decide,fun t ht=>by
  rcases List.mem_cons.1 ht with h|h
  ·rw [h];exact ⟨by show isVar nX=true;kernel_rfl,by decide⟩
  ·rw [List.mem_singleton.1 h];exact ⟨⟨by kernel_rfl,by show isVar nX=true;kernel_rfl⟩,by decide⟩⟩
theorem aw3_p (s:ByteArray) (a:Int) (h:aw3.hasP s a):nR=s∧a=2:=h
theorem aw3_c (s:ByteArray) (a:Int) (h:aw3.hasC s a):nF=s∧a=1:=by
 obtain ⟨t,ht,h⟩:=h
 rcases List.mem_cons.1 ht with e|e
 ·rw [e] at h;exact h.elim
 ·rw [List.mem_singleton.1 e] at h
  exact h.elim id fun h=>h.elim
theorem aw3_v (x:ByteArray) (h:aw3.free x):nX=x:=by
 obtain ⟨⟨t,ht,h⟩,h2⟩:=h
 rcases List.mem_cons.1 ht with e|e
 ·rw [e] at h;exact h
 ·rw [List.mem_singleton.1 e] at h;exact h
theorem aw3_gd:Gd aw3:=⟨aw3_std,by decide,by decide,fun s a h=>(awR (aw3_p s a h)).1,fun s a h=>(awF (aw3_c s a h)).1,fun x h=>(awX (aw3_v x h)).1⟩
theorem aw3_e (H:Heap):VDet Tryz.prog 18 [.agg [.int .u8 2,.int .i64 2,.nils,.int .i64 0,.sx 1 [.str nR,.int .i64 2,.int .i64 6],.sx 1 [.str nF,.int .i64 1,.sx 2 [.int .i64 1,.int .i64 0]],.sx 1 [.str nX,.int .i64 1]],.agg [.int .u8 8,.str nX,.sl none 0 [],.sl none 1 [.int .u8 1,.str nR,.sl none 2 [.bool true,.str nX,.sl none 0 [],.bool false,.str nF,.sl none 1 [.bool true,.str nX,.sl none 0 []]],.sl none 0 []]]] H (.tup [.bool true,.int .i64 0]):=by
 have h:=evalG_c mAw mAw_sm mAw_nm mAw_v aw3 aw3_gd (by decide) (has_mk (std_ok _ aw3_std) (fun s a h=>(awR (aw3_p s a h)).2) (fun s a h=>(awF (aw3_c s a h)).2) fun x h=>(awX (aw3_v x h)).2) H
 have hb:hv mAw aw3 (bindF mAw)=true:=by kernel_rfl
 rw [hb] at h
 exact VDet.wk h ⟨wk_agg ⟨Wk.refl _,Wk.refl _,wk_nils,Wk.refl _,wk_sx _ _,wk_sxL ⟨Wk.refl _,Wk.refl _,wk_sx _ _,trivial⟩,wk_sx _ _,trivial⟩,Wk.refl _,trivial⟩
theorem aw4_std:stdF aw4:=⟨by kernel_rfl,by decide,fun t ht=>by
  rcases List.mem_cons.1 ht with h|h
  ·rw [h];exact ⟨by show isVar nX=true;kernel_rfl,by decide⟩
  ·rw [List.mem_singleton.1 h];exact ⟨⟨by kernel_rfl,by kernel_rfl,by show isVar nX=true;kernel_rfl⟩,by decide⟩⟩
theorem aw4_p (s:ByteArray) (a:Int) (h:aw4.hasP s a):nR=s∧a=2:=h
theorem aw4_c (s:ByteArray) (a:Int) (h:aw4.hasC s a):nF=s∧a=1:=by
 obtain ⟨t,ht,h⟩:=h
 rcases List.mem_cons.1 ht with e|e
 ·rw [e] at h;exact h.elim
 ·rw [List.mem_singleton.1 e] at h
  exact h.elim id fun h=>h.elim id fun h=>h.elim
theorem aw4_v (x:ByteArray) (h:aw4.free x):nX=x:=by
 obtain ⟨t,ht,h⟩:=h
 rcases List.mem_cons.1 ht with e|e
 ·rw [e] at h;exact h
 ·rw [List.mem_singleton.1 e] at h;exact h
theorem aw4_gd:Gd aw4:=⟨aw4_std,by decide,by decide,fun s a h=>(awR (aw4_p s a h)).1,fun s a h=>(awF (aw4_c s a h)).1,fun x h=>(awX (aw4_v x h)).1⟩
theorem aw4_e (H:Heap):VDet Tryz.prog 18 [.agg [.int .u8 2,.int .i64 2,.nils,.int .i64 0,.sx 1 [.str nR,.int .i64 2,.int .i64 6],.sx 1 [.str nF,.int .i64 1,.sx 2 [.int .i64 1,.int .i64 0]],.sx 1 [.str nX,.int .i64 1]],.agg [.int .u8 1,.str nR,.sl none 2 [.bool true,.str nX,.sl none 0 [],.bool false,.str nF,.sl none 1 [.bool false,.str nF,.sl none 1 [.bool true,.str nX,.sl none 0 []]]],.sl none 0 []]] H (.tup [.bool false,.int .i64 0]):=by
 have h:=evalG_c mAw mAw_sm mAw_nm mAw_v aw4 aw4_gd (by decide) (has_mk (std_ok _ aw4_std) (fun s a h=>(awR (aw4_p s a h)).2) (fun s a h=>(awF (aw4_c s a h)).2) fun x h=>(awX (aw4_v x h)).2) H
 have hb:hv mAw aw4 (bindF mAw)=false:=by kernel_rfl
 rw [hb] at h
 exact VDet.wk h ⟨wk_agg ⟨Wk.refl _,Wk.refl _,wk_nils,Wk.refl _,wk_sx _ _,wk_sxL ⟨Wk.refl _,Wk.refl _,wk_sx _ _,trivial⟩,wk_sx _ _,trivial⟩,Wk.refl _,trivial⟩
def sAw:Sig:=⟨[(nP,1)],[(nA,0)],[]⟩
theorem sAw_sm:sAw.Sm:=⟨by decide,by decide,by decide,fun f hf=>by rw [List.mem_singleton.1 hf];decide,fun f hf=>by rw [List.mem_singleton.1 hf];decide,fun f hf=>by cases hf⟩
theorem sAw_r:sigR sAw=true:=by kernel_rfl
def fiveM:Mdl:=⟨2,2,[],0,[⟨nP,1,2⟩],[⟨nA,0,[1]⟩],[]⟩
theorem five_sm:fiveM.Sm:=⟨by decide,by decide,by decide,by decide,fun f hf=>by rw [List.mem_singleton.1 hf];decide⟩
theorem five_nm:fiveM.Nm:=⟨fun f hf=>by rw [List.mem_singleton.1 hf];decide,fun f hf=>by rw [List.mem_singleton.1 hf];decide,fun f hf=>by cases hf⟩
theorem five_v:validM fiveM=true:=by kernel_rfl
def twoM:Mdl:=⟨2,2,[],0,[⟨nP,1,1⟩],[⟨nA,0,[0]⟩],[]⟩
theorem two_sm:twoM.Sm:=⟨by decide,by decide,by decide,by decide,fun f hf=>by rw [List.mem_singleton.1 hf];decide⟩
theorem two_nm:twoM.Nm:=⟨fun f hf=>by rw [List.mem_singleton.1 hf];decide,fun f hf=>by rw [List.mem_singleton.1 hf];decide,fun f hf=>by cases hf⟩
theorem two_v:validM twoM=true:=by kernel_rfl
theorem p10_ok:PermOk 2 [1,0]:=by
 refine ⟨rfl,fun a ha=>?_,fun a b ha hb h=>?_,fun b hb=>?_⟩
 ·have:a=0∨a=1:=by omega
  rcases this with rfl|rfl <;> decide
 ·have h1:a=0∨a=1:=by omega
  have h2:b=0∨b=1:=by omega
  rcases h1 with rfl|rfl <;> rcases h2 with rfl|rfl <;> first|rfl|exact absurd h (by decide)
 ·have:b=0∨b=1:=by omega
  rcases this with rfl|rfl
  ·exact ⟨1,by omega,rfl⟩
  ·exact ⟨0,by omega,rfl⟩
theorem wkSAW:Wk (.agg [.sx 1 [.str nP,.int .i64 1],.sx 1 [.str nA,.int .i64 0],.nils]) (.agg sAw.cells):=wk_agg ⟨wk_sx _ _,wk_sx _ _,wk_nils,trivial⟩
theorem awake_c (H:Heap):VDet Tryz.prog 12 [] H (.bool true):=by
 have c1:∀ H,VDet Tryz.prog 35 [.agg [.sx 1 [.str nP,.int .i64 1],.sx 1 [.str nA,.int .i64 0],.nils],.int .i64 2] H (.tup [.int .i64 8,.int .i64 0]):=fun H=>VDet.wk (count_c sAw sAw_sm sAw_r 2 (by omega) (by decide) (by decide) (by decide) H) ⟨wkSAW,Wk.refl _,trivial⟩
 have c2:∀ H,VDet Tryz.prog 38 [.agg [.sx 1 [.str nP,.int .i64 1],.sx 1 [.str nA,.int .i64 0],.nils],.int .i64 2,.int .i64 5] H (.tup [.agg [.int .u8 2,.int .i64 2,.sl none 0 [],.int .i64 0,.sl none 1 [.str nP,.int .i64 1,.int .i64 2],.sl none 1 [.str nA,.int .i64 0,.sl none 1 [.int .i64 1]],.sl none 0 []],.int .i64 0]):=fun H=>VDet.wk (nth_c sAw sAw_sm sAw_r 2 (by omega) (by decide) (by decide) (by decide) 5 (by decide) (by decide) H) ⟨wkSAW,Wk.refl _,Wk.refl _,trivial⟩
 have c3:∀ H,VDet Tryz.prog 46 [.agg [.int .u8 2,.int .i64 2,.sl none 0 [],.int .i64 0,.sl none 1 [.str nP,.int .i64 1,.int .i64 2],.sl none 1 [.str nA,.int .i64 0,.sl none 1 [.int .i64 1]],.sl none 0 []],.sx 2 [.int .i64 1,.int .i64 0]] H (.tup [.agg [.int .u8 2,.int .i64 2,.sl none 0 [],.int .i64 0,.sl none 1 [.str nP,.int .i64 1,.int .i64 1],.sl none 1 [.str nA,.int .i64 0,.sl none 1 [.int .i64 0]],.sl none 0 []],.int .i64 0]):=fun H=>VDet.wk (moved1 [⟨nP,1,2⟩] [] 2 [1,0] nA 1 (by omega) (by omega) p10_ok fiveM rfl five_sm five_nm five_v H) ⟨Wk.refl _,wk_sx _ _,trivial⟩
 have c4:∀ H,VDet Tryz.prog 45 [.agg [.int .u8 2,.int .i64 2,.sl none 0 [],.int .i64 0,.sl none 1 [.str nP,.int .i64 1,.int .i64 1],.sl none 1 [.str nA,.int .i64 0,.sl none 1 [.int .i64 0]],.sl none 0 []]] H (.tup [.int .i64 2,.int .i64 0]):=fun H=>number_m twoM two_sm two_nm two_v 2 rfl (by decide) (by decide) (by decide) (by decide) (by decide) H
 have v1:=fun H=>v22_c nX H
 have v2:=fun H=>v22_c nY H
 have a1:∀ H,VDet Tryz.prog 14 [.str nR,.sx 2 [.bool true,.str nX,.sl none 0 [],.bool true,.str nY,.sl none 0 []]] H (.agg [.int .u8 1,.str nR,.sl none 2 [.bool true,.str nX,.sl none 0 [],.bool true,.str nY,.sl none 0 []],.sl none 0 []]):=fun H=>VDet.wk (atom14_c nR 2 [.bool true,.str nX,.sl none 0 [],.bool true,.str nY,.sl none 0 []] (fun m=>by simp [below,belowL]) H) ⟨Wk.refl _,wk_sx _ _,trivial⟩
 have a3:∀ H,VDet Tryz.prog 14 [.str nR,.sx 2 [.bool true,.str nX,.sl none 0 [],.bool false,.str nF,.sl none 1 [.bool true,.str nX,.sl none 0 []]]] H (.agg [.int .u8 1,.str nR,.sl none 2 [.bool true,.str nX,.sl none 0 [],.bool false,.str nF,.sl none 1 [.bool true,.str nX,.sl none 0 []]],.sl none 0 []]):=fun H=>VDet.wk (atom14_c nR 2 [.bool true,.str nX,.sl none 0 [],.bool false,.str nF,.sl none 1 [.bool true,.str nX,.sl none 0 []]] (fun m=>by simp [below,belowL]) H) ⟨Wk.refl _,wk_sx _ _,trivial⟩
 have a4:∀ H,VDet Tryz.prog 14 [.str nR,.sx 2 [.bool true,.str nX,.sl none 0 [],.bool false,.str nF,.sl none 1 [.bool false,.str nF,.sl none 1 [.bool true,.str nX,.sl none 0 []]]]] H (.agg [.int .u8 1,.str nR,.sl none 2 [.bool true,.str nX,.sl none 0 [],.bool false,.str nF,.sl none 1 [.bool false,.str nF,.sl none 1 [.bool true,.str nX,.sl none 0 []]]],.sl none 0 []]):=fun H=>VDet.wk (atom14_c nR 2 [.bool true,.str nX,.sl none 0 [],.bool false,.str nF,.sl none 1 [.bool false,.str nF,.sl none 1 [.bool true,.str nX,.sl none 0 []]]] (fun m=>by simp [below,belowL]) H) ⟨Wk.refl _,wk_sx _ _,trivial⟩
 have f1:∀ H,VDet Tryz.prog 68 [.str nF,.sx 1 [.bool true,.str nX,.sl none 0 []]] H (.agg [.bool false,.str nF,.sl none 1 [.bool true,.str nX,.sl none 0 []]]):=fun H=>VDet.wk (fn68_c nF 1 [.bool true,.str nX,.sl none 0 []] (fun m=>by simp [below,belowL]) H) ⟨Wk.refl _,wk_sx _ _,trivial⟩
 have f2:∀ H,VDet Tryz.prog 68 [.str nF,.sx 1 [.bool false,.str nF,.sl none 1 [.bool true,.str nX,.sl none 0 []]]] H (.agg [.bool false,.str nF,.sl none 1 [.bool false,.str nF,.sl none 1 [.bool true,.str nX,.sl none 0 []]]]):=fun H=>VDet.wk (fn68_c nF 1 [.bool false,.str nF,.sl none 1 [.bool true,.str nX,.sl none 0 []]] (fun m=>by simp [below,belowL]) H) ⟨Wk.refl _,wk_sx _ _,trivial⟩
 have b1:∀ H,VDet Tryz.prog 24 [.int .u8 9,.str nY,.agg [.int .u8 1,.str nR,.sl none 2 [.bool true,.str nX,.sl none 0 [],.bool true,.str nY,.sl none 0 []],.sl none 0 []]] H (.agg [.int .u8 9,.str nY,.sl none 0 [],.sl none 1 [.int .u8 1,.str nR,.sl none 2 [.bool true,.str nX,.sl none 0 [],.bool true,.str nY,.sl none 0 []],.sl none 0 []]]):=fun H=>bound_c 9 nY (Fq.fo (.at_ nR [.vr nX,.vr nY])) H
 have b2:∀ H,VDet Tryz.prog 24 [.int .u8 8,.str nX,.agg [.int .u8 9,.str nY,.sl none 0 [],.sl none 1 [.int .u8 1,.str nR,.sl none 2 [.bool true,.str nX,.sl none 0 [],.bool true,.str nY,.sl none 0 []],.sl none 0 []]]] H (.agg [.int .u8 8,.str nX,.sl none 0 [],.sl none 1 [.int .u8 9,.str nY,.sl none 0 [],.sl none 1 [.int .u8 1,.str nR,.sl none 2 [.bool true,.str nX,.sl none 0 [],.bool true,.str nY,.sl none 0 []],.sl none 0 []]]]):=fun H=>bound_c 8 nX (Fq.fo (.qn 9 nY (.at_ nR [.vr nX,.vr nY]))) H
 have b3:∀ H,VDet Tryz.prog 24 [.int .u8 8,.str nX,.agg [.int .u8 1,.str nR,.sl none 2 [.bool true,.str nX,.sl none 0 [],.bool true,.str nY,.sl none 0 []],.sl none 0 []]] H (.agg [.int .u8 8,.str nX,.sl none 0 [],.sl none 1 [.int .u8 1,.str nR,.sl none 2 [.bool true,.str nX,.sl none 0 [],.bool true,.str nY,.sl none 0 []],.sl none 0 []]]):=fun H=>bound_c 8 nX (Fq.fo (.at_ nR [.vr nX,.vr nY])) H
 have b4:∀ H,VDet Tryz.prog 24 [.int .u8 9,.str nY,.agg [.int .u8 8,.str nX,.sl none 0 [],.sl none 1 [.int .u8 1,.str nR,.sl none 2 [.bool true,.str nX,.sl none 0 [],.bool true,.str nY,.sl none 0 []],.sl none 0 []]]] H (.agg [.int .u8 9,.str nY,.sl none 0 [],.sl none 1 [.int .u8 8,.str nX,.sl none 0 [],.sl none 1 [.int .u8 1,.str nR,.sl none 2 [.bool true,.str nX,.sl none 0 [],.bool true,.str nY,.sl none 0 []],.sl none 0 []]]]):=fun H=>bound_c 9 nY (Fq.fo (.qn 8 nX (.at_ nR [.vr nX,.vr nY]))) H
 have b5:∀ H,VDet Tryz.prog 24 [.int .u8 8,.str nX,.agg [.int .u8 1,.str nR,.sl none 2 [.bool true,.str nX,.sl none 0 [],.bool false,.str nF,.sl none 1 [.bool true,.str nX,.sl none 0 []]],.sl none 0 []]] H (.agg [.int .u8 8,.str nX,.sl none 0 [],.sl none 1 [.int .u8 1,.str nR,.sl none 2 [.bool true,.str nX,.sl none 0 [],.bool false,.str nF,.sl none 1 [.bool true,.str nX,.sl none 0 []]],.sl none 0 []]]):=fun H=>bound_c 8 nX (Fq.fo (.at_ nR [.vr nX,.ap nF (.vr nX)])) H
 refine fn_det Tryz.E0 Tryz.mx Tryz.func12 (by kernel_rfl) rfl (Nat.le_of_ble_eq_true rfl) rfl fun hcl hbl=>?_
 (repeat' ((conv=>whnf);(first|(refine IfN.id ?_;first|refine IfN.not ?_|refine IfN.tt rfl ?_|refine IfN.ff rfl ?_|fail)|(refine EqN.addN _ _ Cst.h Cst.h ?_ ?_;· omega)|(refine SideN.mk ?_ ?_;· first|kernel_rfl|omega|exact List.cons_ne_nil _ _|(simp;done)|(simp;omega)|exact trivial|assumption|fail)|(refine CallN.id ?_;first|refine CallN.det _ (c1 _) ?_|refine CallN.det _ (c2 _) ?_|refine CallN.det _ (c3 _) ?_|refine CallN.det _ (c4 _) ?_|refine CallN.det _ (v1 _) ?_|refine CallN.det _ (v2 _) ?_|fail)|(refine CallD.id ?_;first|refine CallD.det _ (fun _ hq X=>a1 _) ?_|refine CallD.det _ (fun _ hq X=>a3 _) ?_|refine CallD.det _ (fun _ hq X=>a4 _) ?_|refine CallD.det _ (fun _ hq X=>f1 _) ?_|refine CallD.det _ (fun _ hq X=>f2 _) ?_|refine CallD.det _ (fun _ hq X=>b1 _) ?_|refine CallD.det _ (fun _ hq X=>b2 _) ?_|refine CallD.det _ (fun _ hq X=>b3 _) ?_|refine CallD.det _ (fun _ hq X=>b4 _) ?_|refine CallD.det _ (fun _ hq X=>b5 _) ?_|refine CallD.det _ (fun _ hq X=>aw1_e _) ?_|refine CallD.det _ (fun _ hq X=>aw2_e _) ?_|refine CallD.det _ (fun _ hq X=>aw3_e _) ?_|refine CallD.det _ (fun _ hq X=>aw4_e _) ?_|fail)|refine SegN.mk _ (seg_rfl rfl) ?_|refine DrawN.mk' [] ?_|fail)));all_goals (conv=>whnf)
 exact EndN.det trivial (Wk.refl _)
end Go.Proofs.YtgdmldelijeaoaaGreatDoor
/-! text BH41 -/
namespace Go.Proofs.YtgdmldelijeaoaaGreatDoor
open Go.Vsi
set_option maxHeartbeats 4000000
set_option linter.unusedSimpArgs false
attribute [local irreducible] VW VCall VO bits
theorem fqx_ex (p:Fq):∃ o s n1 c1 n2 c2,fqx p=[.int .u8 ((o:Nat):Int),.str s,.sl none n1 c1,.sl none n2 c2]∧∀ n,belowL n c1∧belowL n c2 :=
 ⟨_,_,_,_,_,_,rfl,fun n=>⟨ftl_below n p,fsl_below n p⟩⟩
end Go.Proofs.YtgdmldelijeaoaaGreatDoor
/-! text BR41 -/
namespace Go.Proofs.YtgdmldelijeaoaaGreatDoor
open Go.Vsi
set_option maxHeartbeats 4000000
set_option linter.unusedSimpArgs false
theorem nth_all (S:Sig) (hs:S.Sm) (hr:sigR S=true) (n:Nat) (hn:1≤n∧n≤3) (l1:S.preds.length≤300000) (l2:S.funcs.length≤300000) (l3:S.vars.length≤300000) (hc:¬ 16384<prodC (rngS S n) 1) (N:Nat) (hN:(N:Int)<prodC (rngS S n) 1) :
  ∃ fa fu bi,NX n S.preds.length S.funcs.length S.vars.length (fun i=>n ^ (S.funcs.getD i symI0).2.toNat) (digR (rnN S n) N) fa fu bi ∧
   (∀ H,VDet Tryz.prog 38 [.agg S.cells,.int .i64 (n:Nat),.int .i64 (N:Nat)] H (.tup [.agg [.int .u8 2,.int .i64 (n:Nat),.sl none 0 [],.int .i64 0,.sl none S.preds.length (fa.flatMap Fct.cells),.sl none S.funcs.length (fu.flatMap Fnc.cells),.sl none S.vars.length (bi.flatMap Bnd.cells)],.int .i64 0])) ∧
   (∀ H,VDet Tryz.prog 45 [.agg [.int .u8 2,.int .i64 (n:Nat),.sl none 0 [],.int .i64 0,.sl none S.preds.length (fa.flatMap Fct.cells),.sl none S.funcs.length (fu.flatMap Fnc.cells),.sl none S.vars.length (bi.flatMap Bnd.cells)]] H (.tup [.int .i64 (N:Nat),.int .i64 0])) ∧
   (∀ H,VDet Tryz.prog 53 [.agg [.int .u8 2,.int .i64 (n:Nat),.sl none 0 [],.int .i64 0,.sl none S.preds.length (fa.flatMap Fct.cells),.sl none S.funcs.length (fu.flatMap Fnc.cells),.sl none S.vars.length (bi.flatMap Bnd.cells)]] H (.bool true)):=by
 have hd:=nth_i (S:=S) hn.1 N
 have nx:=nth_nx hn.1 hd
 refine ⟨_,_,_,nx,fun H=>?_,fun H=>?_,fun H=>?_⟩
 all_goals
  have hmc:(nthM S n (digR (rnN S n) N)).cells=[.int .u8 2,.int .i64 (n:Nat),.sl none 0 [],.int .i64 0,.sl none S.preds.length ((List.zipWith mkFct S.preds (digR (rnN S n) N)).flatMap Fct.cells),.sl none S.funcs.length ((List.zipWith (mkFnc n) S.funcs ((digR (rnN S n) N).drop S.preds.length)).flatMap Fnc.cells),.sl none S.vars.length ((List.zipWith mkBnd S.vars ((digR (rnN S n) N).drop (S.preds.length+S.funcs.length))).flatMap Bnd.cells)]:=by
   have e:∀ a b c,a=S.preds.length→b=S.funcs.length→c=S.vars.length→([.int .u8 2,.int .i64 (n:Nat),.sl none 0 [],.int .i64 0,.sl none a ((List.zipWith mkFct S.preds (digR (rnN S n) N)).flatMap Fct.cells),.sl none b ((List.zipWith (mkFnc n) S.funcs ((digR (rnN S n) N).drop S.preds.length)).flatMap Fnc.cells),.sl none c ((List.zipWith mkBnd S.vars ((digR (rnN S n) N).drop (S.preds.length+S.funcs.length))).flatMap Bnd.cells)]:List AV)=[.int .u8 2,.int .i64 (n:Nat),.sl none 0 [],.int .i64 0,.sl none S.preds.length ((List.zipWith mkFct S.preds (digR (rnN S n) N)).flatMap Fct.cells),.sl none S.funcs.length ((List.zipWith (mkFnc n) S.funcs ((digR (rnN S n) N).drop S.preds.length)).flatMap Fnc.cells),.sl none S.vars.length ((List.zipWith mkBnd S.vars ((digR (rnN S n) N).drop (S.preds.length+S.funcs.length))).flatMap Bnd.cells)]:=fun a b c h1 h2 h3=>by rw [h1,h2,h3]
   exact e _ _ _ nx.l1 nx.l2 nx.l3
  rw [← hmc]
 ·exact nth_c S hs hr n hn l1 l2 l3 N hc hN H
 ·have hp:=prodC_le (rngS S n) 1 (rng_pos S n hn.1) (by decide) hc
  rw [rng_nat,List.map_map,show (Int.toNat∘fun x:Nat=>(x:Int))=id from rfl,List.map_id,Int.one_mul,← rng_nat] at hp
  have h:=number_m (nthM S n (digR (rnN S n) N)) (nth_sm hs hr hn hd) (nth_nm hs) (nth_valid hr hn hd) n rfl (by show (List.zipWith mkFct S.preds (digR (rnN S n) N)).length≤_;rw [nx.l1];exact l1) (by show (List.zipWith (mkFnc n) S.funcs _).length≤_;rw [nx.l2];exact l2) (by show (List.zipWith mkBnd S.vars _).length≤_;rw [nx.l3];exact l3) (by rw [nth_sig hd];exact hc) (by rw [nth_sig hd,nth_dg hn.1 hd];exact digR_lt _ _ (rn_pos S n hn.1)) H
  rw [nth_sig hd,nth_dg hn.1 hd,digR_num (rn_pos S n hn.1) (by omega)] at h
  exact h
 ·have h:=valid_c (nthM S n (digR (rnN S n) N)) (nth_sm hs hr hn hd) (nth_nm hs) H
  rw [nth_valid hr hn hd] at h
  exact h
end Go.Proofs.YtgdmldelijeaoaaGreatDoor
/-! text BP41 -/
namespace Go.Proofs.YtgdmldelijeaoaaGreatDoor
open Go.Vsi
set_option maxHeartbeats 4000000
set_option linter.unusedSimpArgs false
attribute [local irreducible] VW VCall VO bits
theorem order_law (l:List Nat) (hl:l.length≤9223372036854775807) (hb:∀ i,i<l.length→l.getD i 0≤255) (wh:Nat) (hwh:wh≤255) (A B:Nat) (hA:A≤65535) (hB:B≤65535) (H:Heap) :
  VDet Tryz.prog 7 [.sl none l.length (l.flatMap encB),.int .u8 (wh:Nat),.int .u16 (A:Nat),.int .u16 (B:Nat)] H (.bool true):=by
 have hBl:=fun H=>built15_c l hl hb H
 have hgd:=blt_gd l
 generalize hp:bltF l=p at hBl hgd
 obtain ⟨r,hr,hr3⟩:∃ r,wh % 3=r∧r<3:=⟨_,rfl,Nat.mod_lt _ (by decide)⟩
 have hsml:=rn_small hgd (1+r) (by omega)
 have hpos:=rn_pos (sigF p.fo) (1+r) (by omega)
 have arP:=fun j h=>sig_arP hgd j h
 have arC:=fun j h=>sig_arC hgd j h
 have sg:∀ H,VDet Tryz.prog 29 [.sx 1 (fqx p)] H (.tup [.agg (sigF p.fo).cells,.int .i64 0]):=fun H=>by
  have:=sig1_c p hgd.sm hgd.right H
  rw [fqx_eq] at this
  exact VDet.wk this ⟨wk_sx _ _,trivial⟩
 have hsc:(sigF p.fo).cells=[.sl none (sigF p.fo).preds.length ((sigF p.fo).preds.flatMap symI),.sl none (sigF p.fo).funcs.length ((sigF p.fo).funcs.flatMap symI),.sl none (sigF p.fo).vars.length ((sigF p.fo).vars.flatMap encS)]:=rfl
 rw [hsc] at sg
 have hL1:(sigF p.fo).preds.length≤3:=by
  show ((sortY (predY p.fo)).map toI).length≤3
  rw [List.length_map,sortY_len]
  exact predY_len hgd
 have hL2:(sigF p.fo).funcs.length≤2:=by
  show ((sortY (funY p.fo)).map toI).length≤2
  rw [List.length_map,sortY_len]
  exact funY_len hgd
 have hL3:(sigF p.fo).vars.length≤3:=by
  show (sortB (freeF p.fo)).length≤3
  rw [sortB_len]
  exact freeF_len hgd
 have cnt:=fun H=>count_c (sigF p.fo) (sigF_sm hgd) (sigF_right hgd) (1+r) (by omega) (by omega) (by omega) (by omega) H
 have nbad:=fun N e he h H=>nth_bad (sigF p.fo) (sigF_sm hgd) ((1+r:Nat):Int) N e he h H
 have hmn:(rngS (sigF p.fo) (1+r)).map Int.toNat=rnN (sigF p.fo) (1+r):=by
  rw [rng_nat,List.map_map,show (Int.toNat∘fun x:Nat=>(x:Int))=id from rfl,List.map_id]
 have hbig:=prodC_gt (rngS (sigF p.fo) (1+r)) 1 (rng_pos _ _ (by omega)) (by decide)
 have hsmall:=prodC_le (rngS (sigF p.fo) (1+r)) 1 (rng_pos _ _ (by omega)) (by decide)
 rw [hmn,prodR_pR,Int.one_mul] at hbig hsmall
 have hall:=fun hc N hN=>nth_all (sigF p.fo) (sigF_sm hgd) (sigF_right hgd) (1+r) (by omega) (by omega) (by omega) (by omega) hc N hN
 have nout:=fun P N h1 h2 H=>nth_out (sigF p.fo) (sigF_sm hgd) ((1+r:Nat):Int) N P h1 h2 H
 have hm0:mdl0.cells=[.int .u8 0,.int .i64 0,.sl none 0 [],.int .i64 0,.sl none 0 [],.sl none 0 [],.sl none 0 []]:=rfl
 rw [hm0] at nbad nout
 rw [hsc] at cnt nbad nout hall
 obtain ⟨o,s,n1,c1,n2,c2,hqe,hpb⟩:=fqx_ex p
 rw [hqe] at hBl sg
 generalize hrs:rnN (sigF p.fo) (1+r)=rs at hsml hpos hbig hsmall hall
 generalize prodC (rngS (sigF p.fo) (1+r)) 1=P at cnt hbig hsmall hall
 clear hmn
 generalize (sigF p.fo)=S at *
 have hbound:∀ i,pR (rs.take i)≤20000000:=fun i=>Nat.le_trans (pR_take rs hpos i) hsml
 have hg1:∀ i,i<S.preds.length→rs.getD i 0=2 ^ (1+r) ^ (S.preds.getD i symI0).2.toNat:=fun i h=>by
  rw [← hrs]
  exact rn_get1 S _ i h
 have hg2:∀ i,i<S.funcs.length→rs.getD (S.preds.length+i) 0=(1+r) ^ (1+r) ^ (S.funcs.getD i symI0).2.toNat:=fun i h=>by
  rw [← hrs]
  exact rn_get2 S _ i h
 have hg3:∀ i,i<S.vars.length→rs.getD (S.preds.length+S.funcs.length+i) 0=1+r:=fun i h=>by
  rw [← hrs]
  exact rn_get3 S _ i h
 have hlen:rs.length=S.preds.length+S.funcs.length+S.vars.length:=by
  rw [← hrs]
  exact rn_len' S _
 refine fn_det Tryz.E0 Tryz.mx Tryz.func7 (by kernel_rfl) rfl (Nat.le_of_ble_eq_true rfl) rfl fun hcl hbl=>?_
 (repeat' ((conv=>whnf);(first|(refine IfN.id ?_;first|refine IfN.not ?_|refine IfN.tt rfl ?_|fail)|(refine EqN.id ?_;first|refine EqN.remC _ rfl rfl hr ?_|(refine EqN.addN _ _ Cst.h Cst.h ?_ ?_;· omega)|refine EqN.i64 (by omega) ?_|fail)|(refine SideN.mk ?_ ?_;· first|kernel_rfl|omega|exact List.cons_ne_nil _ _|(simp;done)|(simp;omega)|exact trivial|assumption|fail)|(refine CallN.id ?_;first|refine CallN.det _ (awake_c _) ?_|refine CallN.det _ (hBl _) ?_|refine CallN.det _ (sg _) ?_|fail)|refine DrawN.mk' [] ?_|fail)));all_goals (conv=>whnf)
 refine loop_R Tryz.E0 Tryz.mx (σ:=Nat) (fun i=>i≤S.preds.length) (fun i=>S.preds.length-i) (fun i=>[(12,.v (.int .i64 (pR (rs.take i):Nat))),(53,.v (.int .i64 i))]) (fun _=>_) _ 0 rfl hcl [2,3,9,10,11,51,52] rfl (Nat.zero_le _) ⟨⟨_,rfl,Wk.refl _⟩,⟨_,rfl,Wk.refl _⟩,trivial⟩ rfl (fun _ _=>rfl) ?_
 intro i hi
 rcases Nat.lt_or_ge i S.preds.length with hlt|hge
 ·obtain ⟨su,sv,hsx,es⟩:=symI_ex (S.preds.getD i symI0)
  have hs:=pR_succ rs i (by omega)
  have hb1:=hbound (i+1)
  have hb0:=hbound i
  have ha:=arP i hlt
  have hgi:=hg1 i hlt
  rw [hsx] at ha hgi
  simp only at ha hgi
  rw [hgi] at hs
  have hnn:(1+r) * (1+r)≤9:=Nat.mul_le_mul (show 1+r≤3 by omega) (show 1+r≤3 by omega)
  have hsh:∀ X,X≤9→1 <<< X<9223372036854775808:=fun X hX=>by
   rw [Nat.one_shiftLeft]
   exact Nat.lt_of_le_of_lt (Nat.pow_le_pow_right (by decide) hX) (by decide)
  have hmu:∀ X,pR (rs.take i) * (1 <<< X)=pR (rs.take (i+1))→pR (rs.take i) * (1 <<< X)<9223372036854775808:=fun X hX=>by omega
  rcases ha with rfl|rfl|rfl
  ·have hq:pR (rs.take i) * (1 <<< (1+r))=pR (rs.take (i+1)):=by
    rw [hs,Nat.one_shiftLeft]
    show _=_ * 2 ^ (1+r) ^ 1
    rw [Nat.pow_one]
   (repeat' ((conv=>whnf);(first|refine IfN.dT (by omega) ?_|(refine EqN.id ?_;first|refine EqN.mulN (1+r) (1+r) rfl rfl (by omega) ?_|refine EqN.mulN (pR (rs.take i)) (1 <<< (1+r)) rfl rfl (hmu _ hq) ?_|refine EqN.shlN 1 (1+r) rfl rfl rfl (by omega) (hsh _ (by omega)) ?_|(refine EqN.addN _ _ Cst.h Cst.h ?_ ?_;· omega)|fail)|(refine SideN.mk ?_ ?_;· first|kernel_rfl|omega|exact List.cons_ne_nil _ _|(simp;done)|(simp;omega)|exact trivial|assumption|fail)|refine SegN.nthE symI0 i rfl (by omega) symI_size es ?_|refine SegN.mk _ (seg_rfl rfl) ?_|refine DrawN.mk' [] ?_|fail)));all_goals (conv=>whnf)
   rw [hq]
   (refine ⟨⟨i+1,by show i+1≤_;omega,by omega,?_,.inl ⟨rfl,rfl⟩,rfl,_,rfl,?_⟩⟩;rotate_left 1;(first|exact .inl rfl|exact .inr ⟨by simp [belowRE,below,belowL,tr,i64_below,encN_below,symIs_below,strs_below,fcts_below,fncs_below,bnds_below],by simp [belowH,Blk.below,belowL,below,i64_below,encN_below,symIs_below,strs_below,fcts_below,fncs_below,bnds_below]⟩|fail);(repeat' (first|exact trivial|refine ⟨⟨_,rfl,?_⟩,?_⟩|fail));all_goals try (first|exact Wk.refl _|exact Wk.of_eq (congrArg (AV.int _) (by omega))|fail))
  ·have hq:pR (rs.take i) * (1 <<< 1)=pR (rs.take (i+1)):=by
    rw [hs,Nat.one_shiftLeft]
    rfl
   (repeat' ((conv=>whnf);(first|refine IfN.dT (by omega) ?_|(refine EqN.id ?_;first|refine EqN.mulN (1+r) (1+r) rfl rfl (by omega) ?_|refine EqN.mulN (pR (rs.take i)) (1 <<< 1) rfl rfl (hmu _ hq) ?_|refine EqN.shlN 1 1 rfl rfl rfl (by omega) (hsh _ (by omega)) ?_|(refine EqN.addN _ _ Cst.h Cst.h ?_ ?_;· omega)|fail)|(refine SideN.mk ?_ ?_;· first|kernel_rfl|omega|exact List.cons_ne_nil _ _|(simp;done)|(simp;omega)|exact trivial|assumption|fail)|refine SegN.nthE symI0 i rfl (by omega) symI_size es ?_|refine SegN.mk _ (seg_rfl rfl) ?_|refine DrawN.mk' [] ?_|fail)));all_goals (conv=>whnf)
   rw [hq]
   (refine ⟨⟨i+1,by show i+1≤_;omega,by omega,?_,.inl ⟨rfl,rfl⟩,rfl,_,rfl,?_⟩⟩;rotate_left 1;(first|exact .inl rfl|exact .inr ⟨by simp [belowRE,below,belowL,tr,i64_below,encN_below,symIs_below,strs_below,fcts_below,fncs_below,bnds_below],by simp [belowH,Blk.below,belowL,below,i64_below,encN_below,symIs_below,strs_below,fcts_below,fncs_below,bnds_below]⟩|fail);(repeat' (first|exact trivial|refine ⟨⟨_,rfl,?_⟩,?_⟩|fail));all_goals try (first|exact Wk.refl _|exact Wk.of_eq (congrArg (AV.int _) (by omega))|fail))
  ·have hq:pR (rs.take i) * (1 <<< ((1+r) * (1+r)))=pR (rs.take (i+1)):=by
    rw [hs,Nat.one_shiftLeft]
    show _=_ * 2 ^ (1+r) ^ 2
    rw [Nat.pow_two]
   (repeat' ((conv=>whnf);(first|refine IfN.dT (by omega) ?_|(refine EqN.id ?_;first|refine EqN.mulN (1+r) (1+r) rfl rfl (by omega) ?_|refine EqN.mulN (pR (rs.take i)) (1 <<< ((1+r) * (1+r))) rfl rfl (hmu _ hq) ?_|refine EqN.shlN 1 ((1+r) * (1+r)) rfl rfl rfl (by omega) (hsh _ hnn) ?_|(refine EqN.addN _ _ Cst.h Cst.h ?_ ?_;· omega)|fail)|(refine SideN.mk ?_ ?_;· first|kernel_rfl|omega|exact List.cons_ne_nil _ _|(simp;done)|(simp;omega)|exact trivial|assumption|fail)|refine SegN.nthE symI0 i rfl (by omega) symI_size es ?_|refine SegN.mk _ (seg_rfl rfl) ?_|refine DrawN.mk' [] ?_|fail)));all_goals (conv=>whnf)
   rw [hq]
   (refine ⟨⟨i+1,by show i+1≤_;omega,by omega,?_,.inl ⟨rfl,rfl⟩,rfl,_,rfl,?_⟩⟩;rotate_left 1;(first|exact .inl rfl|exact .inr ⟨by simp [belowRE,below,belowL,tr,i64_below,encN_below,symIs_below,strs_below,fcts_below,fncs_below,bnds_below],by simp [belowH,Blk.below,belowL,below,i64_below,encN_below,symIs_below,strs_below,fcts_below,fncs_below,bnds_below]⟩|fail);(repeat' (first|exact trivial|refine ⟨⟨_,rfl,?_⟩,?_⟩|fail));all_goals try (first|exact Wk.refl _|exact Wk.of_eq (congrArg (AV.int _) (by omega))|fail))
 ·have hie:i=S.preds.length:=by omega
  subst hie
  (repeat' ((conv=>whnf);(first|refine IfN.dF (by omega) ?_|refine DrawN.mk' [] ?_|fail)));all_goals (conv=>whnf)
  refine loop_R Tryz.E0 Tryz.mx (σ:=Nat) (fun i=>i≤S.funcs.length) (fun i=>S.funcs.length-i) (fun i=>[(12,.v (.int .i64 (pR (rs.take (S.preds.length+i)):Nat))),(73,.v (.int .i64 i))]) (fun _=>_) _ 0 rfl hcl [2,3,9,10,11,71,72] rfl (Nat.zero_le _) ⟨⟨_,rfl,Wk.refl _⟩,⟨_,rfl,Wk.refl _⟩,trivial⟩ rfl (fun _ _=>rfl) ?_
  intro i hi
  rcases Nat.lt_or_ge i S.funcs.length with hlt|hge
  ·obtain ⟨su,sv,hsx,es⟩:=symI_ex (S.funcs.getD i symI0)
   have hs:pR (rs.take (S.preds.length+(i+1)))=_:=pR_succ rs (S.preds.length+i) (by omega)
   have hb1:=hbound (S.preds.length+(i+1))
   have ha:=arC i hlt
   have hgi:=hg2 i hlt
   rw [hsx] at ha hgi
   simp only at ha hgi
   rw [hgi] at hs
   have hc:r=0∨r=1∨r=2:=by omega
   rcases hc with rfl|rfl|rfl <;> rcases ha with rfl|rfl
   all_goals
    simp only [show ((0:Int).toNat=0) from rfl,show ((1:Int).toNat=1) from rfl,Nat.reducePow,Nat.reduceAdd] at hs
    (repeat' ((conv=>whnf);(first|refine IfN.dT (by omega) ?_|(refine EqN.id ?_;first|(refine EqN.addN _ _ Cst.h Cst.h ?_ ?_;· omega)|(refine EqN.subN _ _ Cst.h Cst.h ?_ ?_;· omega)|(refine EqN.mulN _ _ Cst.h Cst.h ?_ ?_;· omega)|refine EqN.i64 (by omega) ?_|fail)|(refine SideN.mk ?_ ?_;· first|kernel_rfl|omega|exact List.cons_ne_nil _ _|(simp;done)|(simp;omega)|exact trivial|assumption|fail)|refine SegN.nthE symI0 i rfl (by omega) symI_size es ?_|refine SegN.mk _ (seg_rfl rfl) ?_|refine DrawN.mk' [] ?_|fail)));all_goals (conv=>whnf)
    (refine ⟨⟨i+1,by show i+1≤_;omega,by omega,?_,.inl ⟨rfl,rfl⟩,rfl,_,rfl,?_⟩⟩;rotate_left 1;(first|exact .inl rfl|exact .inr ⟨by simp [belowRE,below,belowL,tr,i64_below,encN_below,symIs_below,strs_below,fcts_below,fncs_below,bnds_below],by simp [belowH,Blk.below,belowL,below,i64_below,encN_below,symIs_below,strs_below,fcts_below,fncs_below,bnds_below]⟩|fail);(repeat' (first|exact trivial|refine ⟨⟨_,rfl,?_⟩,?_⟩|fail));all_goals try (first|exact Wk.refl _|exact Wk.of_eq (congrArg (AV.int _) (by omega))|fail))
  ·have hie:i=S.funcs.length:=by omega
   subst hie
   (repeat' ((conv=>whnf);(first|refine IfN.dF (by omega) ?_|refine DrawN.mk' [] ?_|fail)));all_goals (conv=>whnf)
   refine loop_R Tryz.E0 Tryz.mx (σ:=Nat) (fun i=>i≤S.vars.length) (fun i=>S.vars.length-i) (fun i=>[(12,.v (.int .i64 (pR (rs.take (S.preds.length+S.funcs.length+i)):Nat))),(94,.v (.int .i64 i))]) (fun _=>_) _ 0 rfl hcl [2,3,9,10,11,93] rfl (Nat.zero_le _) ⟨⟨_,rfl,Wk.refl _⟩,⟨_,rfl,Wk.refl _⟩,trivial⟩ rfl (fun _ _=>rfl) ?_
   intro i hi
   rcases Nat.lt_or_ge i S.vars.length with hlt|hge
   ·have hs:=pR_succ rs (S.preds.length+S.funcs.length+i) (by omega)
    have hb1:=hbound (S.preds.length+S.funcs.length+i+1)
    rw [hg3 i hlt] at hs
    (repeat' ((conv=>whnf);(first|refine IfN.dT (by omega) ?_|(refine EqN.id ?_;first|refine EqN.mulN (pR (rs.take (S.preds.length+S.funcs.length+i))) (1+r) rfl rfl (by omega) ?_|(refine EqN.addN _ _ Cst.h Cst.h ?_ ?_;· omega)|fail)|refine DrawN.mk' [] ?_|fail)));all_goals (conv=>whnf)
    rw [← hs]
    (refine ⟨⟨i+1,by show i+1≤_;omega,by omega,?_,.inl ⟨rfl,rfl⟩,rfl,_,rfl,?_⟩⟩;rotate_left 1;(first|exact .inl rfl|exact .inr ⟨by simp [belowRE,below,belowL,tr,i64_below,encN_below,symIs_below,strs_below,fcts_below,fncs_below,bnds_below],by simp [belowH,Blk.below,belowL,below,i64_below,encN_below,symIs_below,strs_below,fcts_below,fncs_below,bnds_below]⟩|fail);(repeat' (first|exact trivial|refine ⟨⟨_,rfl,?_⟩,?_⟩|fail));all_goals try (first|exact Wk.refl _|exact Wk.of_eq (congrArg (AV.int _) (by omega))|fail))
   ·have hie:i=S.vars.length:=by omega
    subst hie
    have hall:pR (rs.take (S.preds.length+S.funcs.length+S.vars.length))=pR rs:=by rw [← hlen,List.take_length]
    rw [hall]
    by_cases hP:16384<P
    ·have hw:=hbig hP
     rw [if_pos hP] at cnt
     have nb:=nbad ((pR rs:Nat):Int) 5 (by decide) cnt
     (repeat' ((conv=>whnf);(first|(refine IfN.id ?_;first|refine IfN.not ?_|refine IfN.tt rfl ?_|refine IfN.ff rfl ?_|refine IfN.dT (by omega) ?_|refine IfN.dF (by omega) ?_|fail)|(refine CallN.id ?_;first|refine CallN.det _ (cnt _) ?_|refine CallN.det _ (nb _) ?_|fail)|refine DrawN.mk' [] ?_|fail)));all_goals (conv=>whnf)
     exact EndN.det trivial (Wk.refl _)
    ·have hw:=hsmall hP
     rw [if_neg hP] at cnt
     subst hw
     have hP1:1≤pR rs:=pR_pos rs hpos
     obtain ⟨ia,hia⟩:∃ ia,A % pR rs=ia:=⟨_,rfl⟩
     obtain ⟨ib,hib⟩:∃ ib,B % pR rs=ib:=⟨_,rfl⟩
     have hia2:ia<pR rs:=hia▸Nat.mod_lt _ hP1
     have hib2:ib<pR rs:=hib▸Nat.mod_lt _ hP1
     obtain ⟨fax,fux,bix,nx,hx⟩:=hall hP ia (by omega)
     obtain ⟨fay,fuy,biy,ny,hy⟩:=hall hP ib (by omega)
     obtain ⟨x1,x2,x3⟩:=hx
     obtain ⟨y1,y2,y3⟩:=hy
     have hfin:=cmpD_fin (rs:=rs) hpos hia2 hib2
     have lx:(digR rs ia).length=S.preds.length+S.funcs.length+S.vars.length:=by rw [digR_len,hlen]
     have ly:(digR rs ib).length=S.preds.length+S.funcs.length+S.vars.length:=by rw [digR_len,hlen]
     generalize digR rs ia=da at *
     generalize digR rs ib=db at *
     have no:=nout (pR rs) ((pR rs:Nat):Int) (.inr (Int.le_refl _)) cnt
     have xl1:=nx.l1
     have xl2:=nx.l2
     have xl3:=nx.l3
     have yl1:=ny.l1
     have yl2:=ny.l2
     have yl3:=ny.l3
     clear hall nout nbad hbig hsmall hg1 hg2 hg3 arP hbound
     (repeat' ((conv=>whnf);(first|(refine IfN.id ?_;first|refine IfN.not ?_|refine IfN.tt rfl ?_|refine IfN.dT (by omega) ?_|refine IfN.dF (by omega) ?_|fail)|(refine EqN.id ?_;first|refine EqN.remC ia rfl rfl hia ?_|refine EqN.remC ib rfl rfl hib ?_|(refine EqN.addN _ _ Cst.h Cst.h ?_ ?_;· omega)|refine EqN.i64 (by omega) ?_|fail)|(refine SideN.mk ?_ ?_;· first|kernel_rfl|omega|exact List.cons_ne_nil _ _|(simp;done)|(simp;omega)|exact trivial|assumption|fail)|(refine CallN.id ?_;first|refine CallN.det _ (cnt _) ?_|refine CallN.det _ (no _) ?_|refine CallN.det _ (x1 _) ?_|refine CallN.det _ (y1 _) ?_|refine CallN.det _ (x2 _) ?_|refine CallN.det _ (y2 _) ?_|refine CallN.det _ (x3 _) ?_|fail)|refine DrawN.mk' [] ?_|fail)));all_goals (conv=>whnf)
     refine loop_R Tryz.E0 Tryz.mx (σ:=Nat) (fun i=>i≤S.preds.length) (fun i=>S.preds.length-i) (fun i=>[(213,.v (.int .i64 i))]) (fun i=>[.box 58 [.sl none S.preds.length (S.preds.flatMap symI),.sl none S.funcs.length (S.funcs.flatMap symI),.sl none S.vars.length (S.vars.flatMap encS)],.box 37 [.int .u8 0,.int .i64 0,.sl none 0 [],.int .i64 0,.sl none 0 [],.sl none 0 [],.sl none 0 []],.box 37 [.int .u8 2,.int .i64 ((1+r:Nat):Int),.sl none 0 [],.int .i64 0,.sl none S.preds.length (fax.flatMap Fct.cells),.sl none S.funcs.length (fux.flatMap Fnc.cells),.sl none S.vars.length (bix.flatMap Bnd.cells)],.box 37 [.int .u8 2,.int .i64 ((1+r:Nat):Int),.sl none 0 [],.int .i64 0,.sl none S.preds.length (fay.flatMap Fct.cells),.sl none S.funcs.length (fuy.flatMap Fnc.cells),.sl none S.vars.length (biy.flatMap Bnd.cells)],.box 3 [.int .i64 (cmpD (da.take i) (db.take i))]]) _ 0 rfl hcl [21,22,23,25,31,32,212] rfl (Nat.zero_le _) ⟨⟨_,rfl,Wk.refl _⟩,trivial⟩ rfl (fun _ _=>rfl) ?_
     intro i hi
     rcases Nat.lt_or_ge i S.preds.length with hlt|hge
     ·obtain ⟨u1,v1,es1⟩:=nx.e1 i hlt
      obtain ⟨u2,v2,es2⟩:=ny.e1 i hlt
      have hs:=cmpD_take da db i (by omega) (by omega)
      (repeat' ((conv=>whnf);(first|refine DrawN.mk' [4] ?_|refine IfN.dT (by omega) ?_|(refine EqN.addN _ _ Cst.h Cst.h ?_ ?_;· omega)|(refine SideN.mk ?_ ?_;· first|kernel_rfl|omega|exact List.cons_ne_nil _ _|(simp;done)|(simp;omega)|exact trivial|assumption|fail)|refine SegN.nthE fct0 i rfl (by omega) fct_size es1 ?_|refine SegN.nthE fct0 i rfl (by omega) fct_size es2 ?_|refine CallD.setWL 4 _ _ _ rfl rfl rfl (ord_c _ _ _ _ _ (at_loc0 rfl)) ?_|refine DrawN.mk' [] ?_|fail)));all_goals (conv=>whnf)
      rw [← hs]
      (refine ⟨⟨i+1,by show i+1≤_;omega,by omega,?_,.inl ⟨rfl,rfl⟩,rfl,_,rfl,?_⟩⟩;rotate_left 1;(first|exact .inl rfl|exact .inr ⟨by simp [belowRE,below,belowL,tr,i64_below,encN_below,symIs_below,strs_below,fcts_below,fncs_below,bnds_below],by simp [belowH,Blk.below,belowL,below,i64_below,encN_below,symIs_below,strs_below,fcts_below,fncs_below,bnds_below]⟩|fail);(repeat' (first|exact trivial|refine ⟨⟨_,rfl,?_⟩,?_⟩|fail));all_goals try (first|exact Wk.refl _|exact Wk.of_eq (congrArg (AV.int _) (by omega))|fail))
     ·have hie:i=S.preds.length:=by omega
      subst hie
      (repeat' ((conv=>whnf);(first|refine IfN.dF (by omega) ?_|refine DrawN.mk' [] ?_|fail)));all_goals (conv=>whnf)
      refine loop_R Tryz.E0 Tryz.mx (σ:=Nat) (fun i=>i≤S.funcs.length) (fun i=>S.funcs.length-i) (fun i=>[(234,.v (.int .i64 i))]) (fun i=>[.box 58 [.sl none S.preds.length (S.preds.flatMap symI),.sl none S.funcs.length (S.funcs.flatMap symI),.sl none S.vars.length (S.vars.flatMap encS)],.box 37 [.int .u8 0,.int .i64 0,.sl none 0 [],.int .i64 0,.sl none 0 [],.sl none 0 [],.sl none 0 []],.box 37 [.int .u8 2,.int .i64 ((1+r:Nat):Int),.sl none 0 [],.int .i64 0,.sl none S.preds.length (fax.flatMap Fct.cells),.sl none S.funcs.length (fux.flatMap Fnc.cells),.sl none S.vars.length (bix.flatMap Bnd.cells)],.box 37 [.int .u8 2,.int .i64 ((1+r:Nat):Int),.sl none 0 [],.int .i64 0,.sl none S.preds.length (fay.flatMap Fct.cells),.sl none S.funcs.length (fuy.flatMap Fnc.cells),.sl none S.vars.length (biy.flatMap Bnd.cells)],.box 3 [.int .i64 (cmpD (da.take (S.preds.length+i)) (db.take (S.preds.length+i)))]]) _ 0 rfl hcl [21,22,23,25,31,32,233] rfl (Nat.zero_le _) ⟨⟨_,rfl,Wk.refl _⟩,trivial⟩ rfl (fun _ _=>rfl) ?_
      intro i hi
      rcases Nat.lt_or_ge i S.funcs.length with hlt|hge
      ·obtain ⟨u1,v1,va,es1,la,ra,na⟩:=nx.e2 i hlt
       obtain ⟨u2,v2,vb,es2,lb,rb,nb⟩:=ny.e2 i hlt
       have hs:cmpD (da.take (S.preds.length+(i+1))) (db.take (S.preds.length+(i+1)))=_:=cmpD_take da db (S.preds.length+i) (by omega) (by omega)
       rw [← na,← nb] at hs
       have hK:(1+r) ^ (S.funcs.getD i symI0).2.toNat≤3:=by
        rcases arC i hlt with h|h <;> rw [h]
        ·show (1+r) ^ 0≤3
         rw [Nat.pow_zero]
         omega
        ·show (1+r) ^ 1≤3
         rw [Nat.pow_one]
         omega
       generalize (1+r) ^ (S.funcs.getD i symI0).2.toNat=K at es1 es2 la lb hK
       rw [← cmpO_num (n:=1+r) (cmpD (da.take (S.preds.length+i)) (db.take (S.preds.length+i))) la lb ra rb] at hs
       generalize cmpD (da.take (S.preds.length+i)) (db.take (S.preds.length+i))=o at hs ⊢
       rw [← cmpO_zero o va vb]
       (repeat' ((conv=>whnf);(first|refine IfN.dT (by omega) ?_|(refine SideN.mk ?_ ?_;· first|kernel_rfl|omega|exact List.cons_ne_nil _ _|(simp;done)|(simp;omega)|exact trivial|assumption|fail)|refine SegN.nthE fnc0 i rfl (by omega) fnc_size es1 ?_|refine DrawN.mk' [] ?_|fail)));all_goals (conv=>whnf)
       refine loop_R Tryz.E0 Tryz.mx (σ:=Nat) (fun i=>i≤K) (fun i=>K-i) (fun i=>[(244,.v (.int .i64 i))]) (fun i=>[.box 58 [.sl none S.preds.length (S.preds.flatMap symI),.sl none S.funcs.length (S.funcs.flatMap symI),.sl none S.vars.length (S.vars.flatMap encS)],.box 37 [.int .u8 0,.int .i64 0,.sl none 0 [],.int .i64 0,.sl none 0 [],.sl none 0 [],.sl none 0 []],.box 37 [.int .u8 2,.int .i64 ((1+r:Nat):Int),.sl none 0 [],.int .i64 0,.sl none S.preds.length (fax.flatMap Fct.cells),.sl none S.funcs.length (fux.flatMap Fnc.cells),.sl none S.vars.length (bix.flatMap Bnd.cells)],.box 37 [.int .u8 2,.int .i64 ((1+r:Nat):Int),.sl none 0 [],.int .i64 0,.sl none S.preds.length (fay.flatMap Fct.cells),.sl none S.funcs.length (fuy.flatMap Fnc.cells),.sl none S.vars.length (biy.flatMap Bnd.cells)],.box 3 [.int .i64 (cmpO o (va.take i) (vb.take i))]]) _ 0 rfl hcl [21,22,23,25,31,32,34,233,234,243] rfl (Nat.zero_le _) ⟨⟨_,rfl,Wk.refl _⟩,trivial⟩ rfl (fun _ _=>rfl) ?_
       intro c hc
       rcases Nat.lt_or_ge c K with hlt2|hge2
       ·have hs2:=cmpO_take o va vb c (by omega) (by omega)
        (repeat' ((conv=>whnf);(first|refine DrawN.mk' [4] ?_|refine IfN.dT (by omega) ?_|(refine EqN.addN _ _ Cst.h Cst.h ?_ ?_;· omega)|(refine SideN.mk ?_ ?_;· first|kernel_rfl|omega|exact List.cons_ne_nil _ _|(simp;done)|(simp;omega)|exact trivial|assumption|fail)|refine SegN.nthE fnc0 i rfl (by omega) fnc_size es1 ?_|refine SegN.nthE fnc0 i rfl (by omega) fnc_size es2 ?_|refine SegN.nth (f:=encN) 0 c rfl (by omega) (fun _=>rfl) ?_|refine CallD.setWL 4 _ _ _ rfl rfl rfl (ord_c _ _ _ _ _ (at_loc0 rfl)) ?_|refine DrawN.mk' [] ?_|fail)));all_goals (conv=>whnf)
        rw [← hs2]
        (refine ⟨⟨c+1,by show c+1≤_;omega,by omega,?_,.inl ⟨rfl,rfl⟩,rfl,_,rfl,?_⟩⟩;rotate_left 1;(first|exact .inl rfl|exact .inr ⟨by simp [belowRE,below,belowL,tr,i64_below,encN_below,symIs_below,strs_below,fcts_below,fncs_below,bnds_below],by simp [belowH,Blk.below,belowL,below,i64_below,encN_below,symIs_below,strs_below,fcts_below,fncs_below,bnds_below]⟩|fail);(repeat' (first|exact trivial|refine ⟨⟨_,rfl,?_⟩,?_⟩|fail));all_goals try (first|exact Wk.refl _|exact Wk.of_eq (congrArg (AV.int _) (by omega))|fail))
       ·have hce:c=K:=by omega
        subst hce
        rw [List.take_of_length_le (Nat.le_of_eq la),List.take_of_length_le (Nat.le_of_eq lb),← hs]
        (repeat' ((conv=>whnf);(first|refine IfN.dF (by omega) ?_|(refine EqN.addN _ _ Cst.h Cst.h ?_ ?_;· omega)|refine DrawN.mk' [] ?_|fail)));all_goals (conv=>whnf)
        (refine ⟨⟨i+1,by show i+1≤_;omega,by omega,?_,.inr ?_,rfl,_,rfl,?_⟩⟩;rotate_left 2;(first|exact .inl rfl|exact .inr ⟨by simp [belowRE,below,belowL,tr,i64_below,encN_below,symIs_below,strs_below,fcts_below,fncs_below,bnds_below],by simp [belowH,Blk.below,belowL,below,i64_below,encN_below,symIs_below,strs_below,fcts_below,fncs_below,bnds_below]⟩|fail);all_goals (repeat' (first|exact trivial|refine ⟨⟨_,rfl,?_⟩,?_⟩|fail));all_goals try (first|exact Wk.refl _|exact Wk.of_eq (congrArg (AV.int _) (by omega))|fail))
      ·have hie:i=S.funcs.length:=by omega
       subst hie
       (repeat' ((conv=>whnf);(first|refine IfN.dF (by omega) ?_|refine DrawN.mk' [] ?_|fail)));all_goals (conv=>whnf)
       refine loop_R Tryz.E0 Tryz.mx (σ:=Nat) (fun i=>i≤S.vars.length) (fun i=>S.vars.length-i) (fun i=>[(272,.v (.int .i64 i))]) (fun i=>[.box 58 [.sl none S.preds.length (S.preds.flatMap symI),.sl none S.funcs.length (S.funcs.flatMap symI),.sl none S.vars.length (S.vars.flatMap encS)],.box 37 [.int .u8 0,.int .i64 0,.sl none 0 [],.int .i64 0,.sl none 0 [],.sl none 0 [],.sl none 0 []],.box 37 [.int .u8 2,.int .i64 ((1+r:Nat):Int),.sl none 0 [],.int .i64 0,.sl none S.preds.length (fax.flatMap Fct.cells),.sl none S.funcs.length (fux.flatMap Fnc.cells),.sl none S.vars.length (bix.flatMap Bnd.cells)],.box 37 [.int .u8 2,.int .i64 ((1+r:Nat):Int),.sl none 0 [],.int .i64 0,.sl none S.preds.length (fay.flatMap Fct.cells),.sl none S.funcs.length (fuy.flatMap Fnc.cells),.sl none S.vars.length (biy.flatMap Bnd.cells)],.box 3 [.int .i64 (cmpD (da.take (S.preds.length+S.funcs.length+i)) (db.take (S.preds.length+S.funcs.length+i)))]]) _ 0 rfl hcl [21,22,23,25,31,32,271] rfl (Nat.zero_le _) ⟨⟨_,rfl,Wk.refl _⟩,trivial⟩ rfl (fun _ _=>rfl) ?_
       intro i hi
       rcases Nat.lt_or_ge i S.vars.length with hlt|hge
       ·obtain ⟨u1,es1⟩:=nx.e3 i hlt
        obtain ⟨u2,es2⟩:=ny.e3 i hlt
        have hs:cmpD (da.take (S.preds.length+S.funcs.length+(i+1))) (db.take (S.preds.length+S.funcs.length+(i+1)))=_:=cmpD_take da db (S.preds.length+S.funcs.length+i) (by omega) (by omega)
        (repeat' ((conv=>whnf);(first|refine DrawN.mk' [4] ?_|refine IfN.dT (by omega) ?_|(refine EqN.addN _ _ Cst.h Cst.h ?_ ?_;· omega)|(refine SideN.mk ?_ ?_;· first|kernel_rfl|omega|exact List.cons_ne_nil _ _|(simp;done)|(simp;omega)|exact trivial|assumption|fail)|refine SegN.nthE bnd0 i rfl (by omega) bnd_size es1 ?_|refine SegN.nthE bnd0 i rfl (by omega) bnd_size es2 ?_|refine CallD.setWL 4 _ _ _ rfl rfl rfl (ord_c _ _ _ _ _ (at_loc0 rfl)) ?_|refine DrawN.mk' [] ?_|fail)));all_goals (conv=>whnf)
        rw [← hs]
        (refine ⟨⟨i+1,by show i+1≤_;omega,by omega,?_,.inl ⟨rfl,rfl⟩,rfl,_,rfl,?_⟩⟩;rotate_left 1;(first|exact .inl rfl|exact .inr ⟨by simp [belowRE,below,belowL,tr,i64_below,encN_below,symIs_below,strs_below,fcts_below,fncs_below,bnds_below],by simp [belowH,Blk.below,belowL,below,i64_below,encN_below,symIs_below,strs_below,fcts_below,fncs_below,bnds_below]⟩|fail);(repeat' (first|exact trivial|refine ⟨⟨_,rfl,?_⟩,?_⟩|fail));all_goals try (first|exact Wk.refl _|exact Wk.of_eq (congrArg (AV.int _) (by omega))|fail))
       ·have hie:i=S.vars.length:=by omega
        subst hie
        rw [List.take_of_length_le (Nat.le_of_eq lx),List.take_of_length_le (Nat.le_of_eq ly)]
        rcases hfin with ⟨q1,q2⟩|⟨q1,q2⟩|⟨q1,q2⟩
        all_goals
         rw [q1]
         (repeat' ((conv=>whnf);(first|(refine IfN.id ?_;first|refine IfN.tt rfl ?_|refine IfN.ff rfl ?_|refine IfN.dT (by omega) ?_|refine IfN.dF (by omega) ?_|fail)|refine DrawN.mk' [] ?_|fail)));all_goals (conv=>whnf)
         first|exact EndN.det trivial (Wk.refl _)|exact EndN.det trivial (Wk.of_eq (congrArg AV.bool (by rw [q2];simp)))|fail
end Go.Proofs.YtgdmldelijeaoaaGreatDoor
/-! text DZ41 -/
namespace Go.Proofs.YtgdmldelijeaoaaGreatDoor
open Go.ChangeShapes Go.WideShapes Go.ChangeAt Go.RowKit Go.Vsi
theorem mrel_of {g:G} {W:World} {b:Nat} (hg:∀ b o,¬ g.own b o):∀ (l:List AV) (cs:List Value) (o:Nat),LRel g W l cs→(∀ (i:Nat) c,cs[i]? = some c→W.cell? ⟨b,o+i,.none⟩=some c)→MRel g W l b o
 | [],_,_,_,_=>trivial
 | v::l,cs,o,h,hc=>by
   simp only [LRel] at h
   obtain ⟨c,r,rfl,h1,h2⟩:=h
   refine ⟨⟨c,by simpa using hc 0 c rfl,h1,hg _ _⟩,?_⟩
   exact mrel_of hg l r (o+1) h2 fun i c' hi=>by
    have:=hc (i+1) c' (by simpa using hi)
    rwa [show o+(i+1)=o+1+i by omega] at this
theorem mone {W:World} {n:String} {gi:Nat} {ty:TypeId} {T:Ty} {D:DataW Unit} {cells:List AV} {g0:Nat} {t0:TypeId} {cs0:Array Value} {f0:Nat} {p0:List MemPlace}
  (hg:Tryz.prog.globalNamed n=some gi) (ht:(Tryz.prog.globals[gi]?).map (·.type)=some ty) (hty:TyOk Tryz.prog ty T) (hpl:PlTy T) (hD:∃ l',DatOf (H:=Unit) D l'∧l'=cells)
  (hg0:Tryz.prog.globalNamed n=some g0) (ht0:(Tryz.prog.globals[g0]?).map (·.type)=some t0) (hv0:W.var? Tryz.prog n=some cs0) (hd0:DataW.trod (fun _=>()) Tryz.prog W 0 (fun _=>true) false f0 t0 cs0.toList=some (D,p0)):MRel G.none W cells gi 0:=by
 obtain rfl:=Option.some.inj (hg.symm.trans hg0)
 obtain rfl:=Option.some.inj (ht.symm.trans ht0)
 obtain ⟨l,h1,h2⟩:=trod_dat (g:=G.none) _ hpl hty hd0
 obtain ⟨l',hl1,hl2⟩:=hD
 have hll:l=cells:=(DatOf.det h1 hl1).trans hl2
 rw [← hll]
 refine mrel_of (fun _ _ h=>h) l cs0.toList 0 h2 fun i c hi=>?_
 have:=World.var?_cell hg0 hv0 i
 rw [Nat.zero_add,this]
 simpa using hi
theorem gl_of_laid {W:World} (h:laidMetH Tryz.prog [("lyceum/syntax.rows",Rows.laid_lyceum_syntax_rows)] W):∀ p∈Glob.gl,MRel G.none W p.2 p.1 0:=by
 rw [MakeChecks.laidMetH_plain _ _ _ (by kernel_rfl)] at h
 obtain ⟨ps,⟨g0,t0,cs0,f0,p0,q0,hg0,ht0,hv0,hd0,_⟩,_⟩:=h
 have m0:MRel G.none W (Tryz.gl[0]).2 1 0:=mone (T:=repTy 17 (.pair .bool (.pair .bool (.pair (.int .u8) (.pair (.int .i64) (.pair (.int .i64) .unit)))))) (ty:=239) (by kernel_rfl) (by kernel_rfl) (tyOf_ok Tryz.T_ok 12 239 _ (by kernel_rfl)) (by simp [repTy,PlTy]) ⟨_,by unfold Rows.laid_lyceum_syntax_rows;repeat constructor,by kernel_rfl⟩ hg0 ht0 hv0 hd0
 intro p hp
 have hp0:p=Tryz.gl[0]:=by
  have:p∈Tryz.gl:=hp
  simpa [Tryz.gl] using this
 subst hp0
 exact m0
theorem u8_nat {n:Int} (h:(Lit.int .u8 n).wf=true):∃ m:Nat,n=m∧m≤255:=⟨n.toNat,by have:=wf_u8 h;omega,by have:=wf_u8 h;omega⟩
theorem u16_nat {n:Int} (h:(Lit.int .u16 n).wf=true):∃ m:Nat,n=m∧m≤65535:=⟨n.toNat,by have:=wf_u16 h;omega,by have:=wf_u16 h;omega⟩
theorem bytes_nat {l:List Int} (h:l.length≤maxLen∧∀ x∈l,(Lit.int .u8 x).wf=true):∃ c:List Nat,l=c.map (fun n:Nat=>(n:Int))∧c.length≤9223372036854775807∧∀ i,i<c.length→c.getD i 0≤255:=by
 refine ⟨l.map Int.toNat,?_,by simpa using maxLen_le h.1,fun i hi=>?_⟩
 ·rw [List.map_map]
  refine (List.map_id' l).symm.trans (List.map_congr_left fun x hx=>?_)
  have:=wf_u8 (h.2 x hx)
  simp only [Function.comp]
  omega
 ·have hi':i<l.length:=by simpa using hi
  have:=wf_u8 (h.2 _ (List.getElem_mem hi'))
  simp only [List.getD_eq_getElem?_getD,List.getElem?_map,List.getElem?_eq_getElem hi',Option.map_some,Option.getD_some]
  omega
theorem bytes_len (c:List Nat):List.length (α:=Ty.I (.int .u8)) (c.map fun n:Nat=>(n:Int))=c.length:=List.length_map ..
theorem bytes_enc (c:List Nat):List.flatMap (α:=Ty.I (.int .u8)) (Ty.enc (.int .u8)) (c.map fun n:Nat=>(n:Int))=c.flatMap fun n:Nat=>[.int .u8 (n:Int)]:=by
 induction c with
 | nil=>rfl
 | cons x c ih=>rw [List.flatMap_cons,← ih];rfl
theorem bytes_cast (c:List Nat) (p:AV→Prop) (h:p (.sl none c.length (c.flatMap fun n:Nat=>[.int .u8 (n:Int)]))):p (.sl none (List.length (α:=Ty.I (.int .u8)) (c.map fun n:Nat=>(n:Int))) (List.flatMap (α:=Ty.I (.int .u8)) (Ty.enc (.int .u8)) (c.map fun n:Nat=>(n:Int)))):=by
 rw [bytes_len,bytes_enc];exact h
end Go.Proofs.YtgdmldelijeaoaaGreatDoor
