/- A text of the proof: the parts AS41, AT41, AU41, AV41, AW41, AX41, AY41, PF41, PG41, PH41, PI41, PJ41, YL41, SK41, SL41, SM41, SN41, SO41, SP41, UX41, UJ41, UN41, UA41, UB41, UC41, UD41, UF41, UG41, SQ41, SR41, SS41, ST41. -/
import Derived.Shelf.SlIter.Nil
import Derived.Shelf.SortM.Plain
import Derived.Shelf.SortM.SortNone
import Derived.Test.YtgdmldelijeaoaaGreatDoorK10
set_option linter.unusedSimpArgs false
set_option linter.unusedVariables false
set_option maxHeartbeats 8000000
namespace Go.Proofs.YtgdmldelijeaoaaGreatDoor
open Go.Vsi
section
attribute [local irreducible] VW VCall VO bits
theorem built15_c (l:List Nat) (hl:l.length≤9223372036854775807) (hb:∀ i,i<l.length→l.getD i 0≤255) (H:Heap):VDet Tryz.prog 15 [.sl none l.length (l.flatMap encB)] H (.agg (fqx (bltF l))):=by
 have h:=fun H=>built69_c l hl hb H
 unfold fqx at h ⊢
 refine zak Tryz.E0 Tryz.mx Tryz.func15 (by kernel_rfl) rfl (Nat.le_of_ble_eq_true rfl) rfl fun hcl hbl=>?_
 (repeat' ((conv=>whnf);(first|refine CallN.det _ (h _) ?_|refine DrawN.mk' [] ?_|fail)));all_goals (conv=>whnf)
 exact EndN.det (fqx_below _ _) (Wk.refl _)
end
section
attribute [local irreducible] VW VCall VO bits
def prodC:List Int→Int→Int
 | [],p=>p
 | r::l,p=>if 16384 / p<r then 16385 else prodC l (p * r)
theorem product_c (l:List Int) (hl:l.length≤1000000) (h1:∀ r∈l,1≤r) (H:Heap):VDet Tryz.prog 86 [.sl none l.length (l.flatMap enc64)] H (.int .i64 (prodC l 1)):=by
 refine zak Tryz.E0 Tryz.mx Tryz.func86 (by kernel_rfl) rfl (Nat.le_of_ble_eq_true rfl) rfl fun hcl hbl=>?_
 (repeat' ((conv=>whnf);(first|refine DrawN.mk' [] ?_|fail)));all_goals (conv=>whnf)
 refine za3 Tryz.E0 Tryz.mx (σ:=Nat×Int) (fun p=>p.1≤l.length∧(1≤p.2∧p.2≤16384)∧prodC l 1=prodC (l.drop p.1) p.2) (fun p=>l.length-p.1) (fun p=>[(8,.v (.int .i64 p.1)),(3,.v (.int .i64 p.2))]) (fun _=>[]) _ (0,1) rfl hcl [2,6,7] rfl ⟨Nat.zero_le _,⟨by decide,by decide⟩,rfl⟩ ⟨⟨_,rfl,Wk.refl _⟩,⟨_,rfl,Wk.refl _⟩,trivial⟩ rfl (fun _ _=>rfl) ?_
 rintro ⟨k,p⟩ ⟨hk,⟨hp1,hp2⟩,hj⟩
 simp only at hk hp1 hp2 hj
 rcases Nat.lt_or_ge k l.length with hlt|hge
 ·have hr:=h1 _ (show l.getD k 0∈l by rw [List.getD_eq_getElem?_getD,List.getElem?_eq_getElem hlt];exact List.getElem_mem hlt)
  rw [drop_cons l 0 k hlt,prodC] at hj
  have hq:(16384:Int) / p * p≤16384:=Int.ediv_mul_le _ (by omega)
  by_cases hc:16384 / p<l.getD k 0
  ·rw [if_pos hc] at hj
   rw [hj]
   (repeat' ((conv=>whnf);(first|refine IfN.dT (by omega) ?_|refine EqN.quo (by omega) ?_|(refine SideN.mk ?_ ?_;· first|kernel_rfl|omega|exact List.cons_ne_nil _ _|(simp;done)|(simp;omega)|exact trivial|assumption|fail)|refine SegN.nth (f:=enc64) 0 k rfl (by omega) (fun _=>rfl) ?_|refine DrawN.mk' [] ?_|fail)));all_goals (conv=>whnf)
   exact EndN.det trivial (Wk.refl _)
  ·rw [if_neg hc] at hj
   have hm:p * l.getD k 0≤16384:=by
    have:p * l.getD k 0≤p * (16384 / p):=Int.mul_le_mul_of_nonneg_left (by omega) (by omega)
    rw [Int.mul_comm p (16384 / p)] at this
    omega
   have hm1:1≤p * l.getD k 0:=by
    have:=Int.mul_le_mul_of_nonneg_left hr (show 0≤p by omega)
    omega
   (repeat' ((conv=>whnf);(first|(refine IfN.id ?_;first|refine IfN.dT (by omega) ?_|refine IfN.dF (by omega) ?_|fail)|(refine EqN.id ?_;first|(refine EqN.addN _ _ Cst.h Cst.h ?_ ?_;· omega)|refine EqN.quo (by omega) ?_|refine EqN.mk _ rfl ?_|fail)|(refine SideN.mk ?_ ?_;· first|kernel_rfl|omega|exact List.cons_ne_nil _ _|(simp;done)|(simp;omega)|exact trivial|assumption|fail)|refine SegN.nth (f:=enc64) 0 k rfl (by omega) (fun _=>rfl) ?_|refine DrawN.mk' [] ?_|fail)));all_goals (conv=>whnf)
   (refine ⟨⟨(k+1,p * l.getD k 0),⟨by show k+1≤_;omega,⟨hm1,hm⟩,hj⟩,by omega,?_,.inl ⟨rfl,rfl⟩,rfl,_,rfl,?_⟩⟩;rotate_left 1;(first|exact .inl rfl|exact .inr ⟨by simp [zal,below,zaa,tr,zad],by simp [zap,Blk.below,zaa,below,zad]⟩|fail);(repeat' (first|exact trivial|refine ⟨⟨_,rfl,?_⟩,?_⟩|fail));all_goals try (first|exact Wk.refl _|exact Wk.of_eq (congrArg (AV.int _) (by omega))|fail))
   all_goals exact Wk.of_eq (congrArg (AV.int IntKind.i64) (wrap_small _ (by show _≤p * l.getD k 0;omega) (by show p * l.getD k 0<_;omega)))
 ·have hke:k=l.length:=by omega
  subst hke
  rw [List.drop_length,prodC] at hj
  rw [hj]
  (repeat' ((conv=>whnf);(first|refine IfN.dF (by omega) ?_|refine DrawN.mk' [] ?_|fail)));all_goals (conv=>whnf)
  exact EndN.det trivial (Wk.refl _)
end
section
attribute [local irreducible] VW VCall VO bits
def rP (n:Nat) (x:SymI):Int:=((2 ^ n ^ x.2.toNat:Nat):Int)
def rF (n:Nat) (x:SymI):Int:=((n ^ n ^ x.2.toNat:Nat):Int)
def rngS (s:Sig) (n:Nat):List Int:=s.preds.map (rP n)++s.funcs.map (rF n)++s.vars.map fun _=>(n:Int)
theorem take_mapD {α:Type} (f:α→Int) (d:α) (l:List α) (k:Nat) (hk:k<l.length):((l.map f).take (k+1)).flatMap enc64=((l.map f).take k).flatMap enc64++[.int .i64 (f (l.getD k d))]:=by
 rw [take_snocD _ (f d) k (by rw [List.length_map];exact hk),List.flatMap_append]
 have:(l.map f).getD k (f d)=f (l.getD k d):=by
  simp [List.getD_eq_getElem?_getD,List.getElem?_eq_getElem hk]
 rw [this]
 rfl
theorem ranges_c (s:Sig) (n:Nat) (hn:1≤n∧n≤3) (l1:s.preds.length≤1000000) (l2:s.funcs.length≤1000000) (l3:s.vars.length≤1000000) (p1:∀ x∈s.preds,0≤x.2∧x.2≤2) (p2:∀ x∈s.funcs,0≤x.2∧x.2≤1) (H:Heap) :
  VDet Tryz.prog 87 [.agg s.cells,.int .i64 (n:Nat)] H (.sl none (rngS s n).length ((rngS s n).flatMap enc64)):=by
 have hsc:s.cells=[.sl none s.preds.length (s.preds.flatMap symI),.sl none s.funcs.length (s.funcs.flatMap symI),.sl none s.vars.length (s.vars.flatMap encS)]:=rfl
 rw [hsc]
 refine zak Tryz.E0 Tryz.mx Tryz.func87 (by kernel_rfl) rfl (Nat.le_of_ble_eq_true rfl) rfl fun hcl hbl=>?_
 (repeat' ((conv=>whnf);(first|refine DrawN.mk' [] ?_|fail)));all_goals (conv=>whnf)
 refine LoopN.tok 5 3 1 rfl rfl rfl ?_
 refine za3 Tryz.E0 Tryz.mx (σ:=Nat) (fun k=>k≤s.preds.length) (fun k=>s.preds.length-k) (fun k=>[(5,.v (.sl (some (H.length+1)) k (((s.preds.map (rP n)).take k).flatMap enc64))),(13,.v (.int .i64 k))]) (fun k=>[.box 58 [.sl none s.preds.length (s.preds.flatMap symI),.sl none s.funcs.length (s.funcs.flatMap symI),.sl none s.vars.length (s.vars.flatMap encS)],.tok 3 1 (((s.preds.map (rP n)).take k).flatMap enc64).length]) _ 0 rfl hcl [1,2,11,12] rfl (Nat.zero_le _) ⟨⟨_,rfl,Wk.refl _⟩,⟨_,rfl,Wk.refl _⟩,trivial⟩ rfl (fun _ _=>rfl) ?_
 intro k hk
 rcases Nat.lt_or_ge k s.preds.length with hlt|hge
 ·have hmem:s.preds.getD k symI0∈s.preds:=by rw [List.getD_eq_getElem?_getD,List.getElem?_eq_getElem hlt];exact List.getElem_mem hlt
  obtain ⟨u,v,hx,e1⟩:=symI_ex (s.preds.getD k symI0)
  have ha:=p1 _ hmem
  have hns:=take_mapD (rP n) symI0 s.preds k hlt
  rw [hx] at ha hns
  simp only at ha
  have hpw:=fun H=>powN_c n v.toNat hn (by omega) H
  rw [show ((v.toNat:Nat):Int)=v by omega] at hpw
  have hq:n ^ v.toNat≤9:=by
   have h1:n ^ v.toNat≤3 ^ v.toNat:=Nat.pow_le_pow_left hn.2 _
   have h2:3 ^ v.toNat≤3 ^ 2:=Nat.pow_le_pow_right (by decide) (by omega)
   omega
  have hrp:rP n (u,v)=((2 ^ n ^ v.toNat:Nat):Int):=rfl
  rw [hrp] at hns
  generalize n ^ v.toNat=q at hpw hq hns
  have hml:(((s.preds.map (rP n)).take k).flatMap enc64).length=k * 1:=by
   rw [zaq (f:=enc64) (sz:=1) (fun _=>rfl),List.length_take,List.length_map,Nat.min_eq_left hk]
  have hbt:(k+1) * 8≤140737488355328:=by omega
  have hmx:k+1≤maxLen:=Nat.le_trans (show k+1≤1000001 by omega) (by decide)
  (repeat' ((conv=>whnf);(first|refine IfN.dT (by omega) ?_|(refine EqN.id ?_;first|(refine EqN.shlN _ _ Cst.h Cst.h rfl ?_ ?_ ?_;(· (repeat' (first|omega|refine And.intro ?_ ?_|exact za4 (by omega)|exact bnd_andr (by omega)|refine bnd_or ?_ ?_|refine bnd_or31 ?_ ?_|refine bnd_xor ?_ ?_|refine bnd_xor31 ?_ ?_|refine bnd_shr ?_|refine bnd_shl ?_ ?_|refine bnd_mod ?_|refine za4 ?_|fail)));(· (repeat' (first|omega|refine And.intro ?_ ?_|exact za4 (by omega)|exact bnd_andr (by omega)|refine bnd_or ?_ ?_|refine bnd_or31 ?_ ?_|refine bnd_xor ?_ ?_|refine bnd_xor31 ?_ ?_|refine bnd_shr ?_|refine bnd_shl ?_ ?_|refine bnd_mod ?_|refine za4 ?_|fail))))|(refine EqN.addN _ _ Cst.h Cst.h ?_ ?_;· omega)|fail)|(refine SideN.mk ?_ ?_;· first|kernel_rfl|omega|exact List.cons_ne_nil _ _|(simp;done)|(simp;omega)|exact trivial|assumption|fail)|refine CallN.det _ (hpw _) ?_|refine SegN.nthE symI0 k rfl (by omega) symI_size e1 ?_|refine SideN.mk ⟨rfl,rfl,rfl,hbt,hmx⟩ ?_|refine PtrN.loc _ rfl ?_|refine DrawN.mk' [] ?_|fail)));all_goals (conv=>whnf)
  have hns':((s.preds.map (rP n)).take (k+1)).flatMap enc64=((s.preds.map (rP n)).take k).flatMap enc64++[.int .i64 ((1 <<< q:Nat):Int)]:=by rw [Nat.one_shiftLeft];exact hns
  rw [← hns']
  (refine ⟨⟨k+1,by show k+1≤_;omega,by omega,?_,.inl ⟨rfl,rfl⟩,rfl,_,rfl,?_⟩⟩;rotate_left 1;(first|exact .inl rfl|exact .inr ⟨by simp [zal,below,zaa,tr,zad,zac,zae,zav],by simp [zap,Blk.below,zaa,below,zad,zac,zae,zav]⟩|fail);(repeat' (first|exact trivial|refine ⟨⟨_,rfl,?_⟩,?_⟩|fail));all_goals try (first|exact Wk.refl _|exact Wk.of_eq (congrArg (AV.int _) (by omega))|fail))
 ·have hke:k=s.preds.length:=by omega
  subst hke
  rw [List.take_of_length_le (by rw [List.length_map];exact Nat.le_refl _)]
  (repeat' ((conv=>whnf);(first|refine IfN.dF (by omega) ?_|refine DrawN.mk' [] ?_|fail)));all_goals (conv=>whnf)
  refine za3 Tryz.E0 Tryz.mx (σ:=Nat) (fun k=>k≤s.funcs.length) (fun k=>s.funcs.length-k) (fun k=>[(5,.v (.sl (some (H.length+1)) (s.preds.length+k) ((s.preds.map (rP n)).flatMap enc64++((s.funcs.map (rF n)).take k).flatMap enc64))),(29,.v (.int .i64 k))]) (fun k=>[.box 58 [.sl none s.preds.length (s.preds.flatMap symI),.sl none s.funcs.length (s.funcs.flatMap symI),.sl none s.vars.length (s.vars.flatMap encS)],.tok 3 1 ((s.preds.map (rP n)).flatMap enc64++((s.funcs.map (rF n)).take k).flatMap enc64).length]) _ 0 rfl hcl [1,2,27,28] rfl (Nat.zero_le _) ⟨⟨_,rfl,Wk.of_eq (by simp [tr])⟩,⟨_,rfl,Wk.refl _⟩,trivial⟩ (by simp) (fun _ _=>rfl) ?_
  intro k hk
  rcases Nat.lt_or_ge k s.funcs.length with hlt|hge
  ·have hmem:s.funcs.getD k symI0∈s.funcs:=by rw [List.getD_eq_getElem?_getD,List.getElem?_eq_getElem hlt];exact List.getElem_mem hlt
   obtain ⟨u,v,hx,e1⟩:=symI_ex (s.funcs.getD k symI0)
   have ha:=p2 _ hmem
   have hns:=take_mapD (rF n) symI0 s.funcs k hlt
   rw [hx] at ha hns
   simp only at ha
   have hpw:=fun H=>powN_c n v.toNat hn (by omega) H
   rw [show ((v.toNat:Nat):Int)=v by omega] at hpw
   have hq:n ^ v.toNat≤3:=by
    have h1:n ^ v.toNat≤3 ^ v.toNat:=Nat.pow_le_pow_left hn.2 _
    have h2:3 ^ v.toNat≤3 ^ 1:=Nat.pow_le_pow_right (by decide) (by omega)
    omega
   have hrp:rF n (u,v)=((n ^ n ^ v.toNat:Nat):Int):=rfl
   rw [hrp] at hns
   generalize n ^ v.toNat=q at hpw hq hns
   have hpw2:=fun H=>powN_c n q hn (by omega) H
   have hml:((s.preds.map (rP n)).flatMap enc64++((s.funcs.map (rF n)).take k).flatMap enc64).length=(s.preds.length+k) * 1:=by
    rw [List.length_append,zaq (f:=enc64) (sz:=1) (fun _=>rfl),zaq (f:=enc64) (sz:=1) (fun _=>rfl),List.length_take,List.length_map,List.length_map,Nat.min_eq_left hk]
    omega
   have hbt:(s.preds.length+k+1) * 8≤140737488355328:=by omega
   have hmx:s.preds.length+k+1≤maxLen:=Nat.le_trans (show s.preds.length+k+1≤2000001 by omega) (by decide)
   (repeat' ((conv=>whnf);(first|refine IfN.dT (by omega) ?_|(refine EqN.addN _ _ Cst.h Cst.h ?_ ?_;· omega)|(refine SideN.mk ?_ ?_;· first|kernel_rfl|omega|exact List.cons_ne_nil _ _|(simp;done)|(simp;omega)|exact trivial|assumption|fail)|(refine CallN.id ?_;first|refine CallN.det _ (hpw _) ?_|refine CallN.det _ (hpw2 _) ?_|fail)|refine SegN.nthE symI0 k rfl (by omega) symI_size e1 ?_|refine SideN.mk ⟨rfl,rfl,rfl,hbt,hmx⟩ ?_|refine PtrN.loc _ rfl ?_|refine DrawN.mk' [] ?_|fail)));all_goals (conv=>whnf)
   rw [List.append_assoc,← hns]
   (refine ⟨⟨k+1,by show k+1≤_;omega,by omega,?_,.inl ⟨rfl,rfl⟩,rfl,_,rfl,?_⟩⟩;rotate_left 1;(first|exact .inl rfl|exact .inr ⟨by simp [zal,below,zaa,tr,zad,zac,zae,zav],by simp [zap,Blk.below,zaa,below,zad,zac,zae,zav]⟩|fail);(repeat' (first|exact trivial|refine ⟨⟨_,rfl,?_⟩,?_⟩|fail));all_goals try (first|exact Wk.refl _|exact Wk.of_eq (congrArg (AV.int _) (by omega))|fail))
  ·have hke:k=s.funcs.length:=by omega
   subst hke
   rw [List.take_of_length_le (l:=s.funcs.map (rF n)) (by rw [List.length_map];exact Nat.le_refl _)]
   (repeat' ((conv=>whnf);(first|refine IfN.dF (by omega) ?_|refine DrawN.mk' [] ?_|fail)));all_goals (conv=>whnf)
   refine za3 Tryz.E0 Tryz.mx (σ:=Nat) (fun k=>k≤s.vars.length) (fun k=>s.vars.length-k) (fun k=>[(5,.v (.sl (some (H.length+1)) (s.preds.length+s.funcs.length+k) ((s.preds.map (rP n)).flatMap enc64++(s.funcs.map (rF n)).flatMap enc64++((s.vars.map fun _=>(n:Int)).take k).flatMap enc64))),(46,.v (.int .i64 k))]) (fun k=>[.box 58 [.sl none s.preds.length (s.preds.flatMap symI),.sl none s.funcs.length (s.funcs.flatMap symI),.sl none s.vars.length (s.vars.flatMap encS)],.tok 3 1 ((s.preds.map (rP n)).flatMap enc64++(s.funcs.map (rF n)).flatMap enc64++((s.vars.map fun _=>(n:Int)).take k).flatMap enc64).length]) _ 0 rfl hcl [1,2,44,45] rfl (Nat.zero_le _) ⟨⟨_,rfl,Wk.of_eq (by simp [tr])⟩,⟨_,rfl,Wk.refl _⟩,trivial⟩ (by simp) (fun _ _=>rfl) ?_
   intro k hk
   rcases Nat.lt_or_ge k s.vars.length with hlt|hge
   ·have hns:=take_mapD (fun _:ByteArray=>(n:Int)) .empty s.vars k hlt
    have hml:((s.preds.map (rP n)).flatMap enc64++(s.funcs.map (rF n)).flatMap enc64++((s.vars.map fun _=>(n:Int)).take k).flatMap enc64).length=(s.preds.length+s.funcs.length+k) * 1:=by
     rw [List.length_append,List.length_append,zaq (f:=enc64) (sz:=1) (fun _=>rfl),zaq (f:=enc64) (sz:=1) (fun _=>rfl),zaq (f:=enc64) (sz:=1) (fun _=>rfl),List.length_take,List.length_map,List.length_map,List.length_map,Nat.min_eq_left hk]
     omega
    have hbt:(s.preds.length+s.funcs.length+k+1) * 8≤140737488355328:=by omega
    have hmx:s.preds.length+s.funcs.length+k+1≤maxLen:=Nat.le_trans (show s.preds.length+s.funcs.length+k+1≤3000001 by omega) (by decide)
    (repeat' ((conv=>whnf);(first|refine IfN.dT (by omega) ?_|(refine EqN.addN _ _ Cst.h Cst.h ?_ ?_;· omega)|refine SideN.mk ⟨rfl,rfl,rfl,hbt,hmx⟩ ?_|refine PtrN.loc _ rfl ?_|refine DrawN.mk' [] ?_|fail)));all_goals (conv=>whnf)
    rw [List.append_assoc _ _ [AV.int .i64 (n:Nat)],← hns]
    (refine ⟨⟨k+1,by show k+1≤_;omega,by omega,?_,.inl ⟨rfl,rfl⟩,rfl,_,rfl,?_⟩⟩;rotate_left 1;(first|exact .inl rfl|exact .inr ⟨by simp [zal,below,zaa,tr,zad,zac,zae,zav],by simp [zap,Blk.below,zaa,below,zad,zac,zae,zav]⟩|fail);(repeat' (first|exact trivial|refine ⟨⟨_,rfl,?_⟩,?_⟩|fail));all_goals try (first|exact Wk.refl _|exact Wk.of_eq (congrArg (AV.int _) (by omega))|fail))
   ·have hke:k=s.vars.length:=by omega
    subst hke
    rw [List.take_of_length_le (l:=s.vars.map fun _=>(n:Int)) (by rw [List.length_map];exact Nat.le_refl _)]
    (repeat' ((conv=>whnf);(first|refine IfN.dF (by omega) ?_|refine DrawN.mk' [] ?_|fail)));all_goals (conv=>whnf)
    refine EndN.det (by simp [below,zad]) ?_
    have hr:(rngS s n).flatMap enc64=(s.preds.map (rP n)).flatMap enc64++(s.funcs.map (rF n)).flatMap enc64++(s.vars.map fun _=>(n:Int)).flatMap enc64:=by
     unfold rngS
     rw [List.flatMap_append,List.flatMap_append]
    have hr2:(rngS s n).length=s.preds.length+s.funcs.length+s.vars.length:=by
     unfold rngS
     rw [List.length_append,List.length_append,List.length_map,List.length_map,List.length_map]
    rw [hr,hr2]
    exact wk_sl _ _ _
end
section
attribute [local irreducible] VW VCall VO bits
theorem sig_ar {s:Sig} (h:sigR s=true):(∀ x∈s.preds,0≤x.2∧x.2≤2)∧∀ x∈s.funcs,0≤x.2∧x.2≤1:=by
 unfold sigR at h
 rw [Bool.and_eq_true,Bool.and_eq_true] at h
 refine ⟨fun x hx=>?_,fun x hx=>?_⟩
 ·have hp:=inc_p h.1 x hx
  unfold predO at hp
  simp only [Bool.and_eq_true,decide_eq_true_eq] at hp
  omega
 ·have hp:=inc_p h.2.1 x hx
  unfold funcO at hp
  simp only [Bool.and_eq_true,decide_eq_true_eq] at hp
  omega
theorem rng_pos (s:Sig) (n:Nat) (hn:1≤n):∀ r∈rngS s n,1≤r:=by
 intro r hr
 unfold rngS at hr
 rw [List.mem_append,List.mem_append] at hr
 rcases hr with (hr|hr)|hr
 ·obtain ⟨x,-,rfl⟩:=List.mem_map.1 hr
  have:1≤2 ^ n ^ x.2.toNat:=Nat.one_le_two_pow
  unfold rP
  omega
 ·obtain ⟨x,-,rfl⟩:=List.mem_map.1 hr
  have:1≤n ^ n ^ x.2.toNat:=Nat.one_le_pow _ _ hn
  unfold rF
  omega
 ·obtain ⟨x,-,rfl⟩:=List.mem_map.1 hr
  omega
theorem count_c (s:Sig) (hs:s.Sm) (hr:sigR s=true) (n:Nat) (hn:1≤n∧n≤3) (l1:s.preds.length≤300000) (l2:s.funcs.length≤300000) (l3:s.vars.length≤300000) (H:Heap) :
  VDet Tryz.prog 35 [.agg s.cells,.int .i64 (n:Nat)] H (if 16384<prodC (rngS s n) 1 then .tup [.int .i64 0,.int .i64 5] else .tup [.int .i64 (prodC (rngS s n) 1),.int .i64 0]):=by
 obtain ⟨p1,p2⟩:=sig_ar hr
 have g1:=fun H=>sigR_c s hs H
 have g2:=fun H=>ranges_c s n hn (by omega) (by omega) (by omega) p1 p2 H
 have g3:=fun H=>product_c (rngS s n) (by unfold rngS;simp only [List.length_append,List.length_map];omega) (rng_pos s n hn.1) H
 rw [hr] at g1
 obtain ⟨sp,sc,sfu,sfc,sv,svc,hsc,hsb⟩:∃ a b c d e f,s.cells=[.sl none a b,.sl none c d,.sl none e f]∧∀ n,zaa n b∧zaa n d∧zaa n f:=⟨_,_,_,_,_,_,rfl,fun n=>⟨zac n _,zac n _,zae n _⟩⟩
 rw [hsc] at g1 g2 ⊢
 generalize prodC (rngS s n) 1=P at g3 ⊢
 by_cases hP:16384<P
 ·rw [if_pos hP]
  refine zak Tryz.E0 Tryz.mx Tryz.func35 (by kernel_rfl) rfl (Nat.le_of_ble_eq_true rfl) rfl fun hcl hbl=>?_
  (repeat' ((conv=>whnf);(first|(refine IfN.id ?_;first|refine IfN.not ?_|refine IfN.tt rfl ?_|refine IfN.dT (by omega) ?_|refine IfN.dF (by omega) ?_|fail)|(refine CallN.id ?_;first|refine CallN.det _ (g1 _) ?_|refine CallN.det _ (g2 _) ?_|refine CallN.det _ (g3 _) ?_|fail)|refine DrawN.mk' [] ?_|fail)));all_goals (conv=>whnf)
  exact EndN.det (by simp [below,zaa]) (Wk.refl _)
 ·rw [if_neg hP]
  refine zak Tryz.E0 Tryz.mx Tryz.func35 (by kernel_rfl) rfl (Nat.le_of_ble_eq_true rfl) rfl fun hcl hbl=>?_
  (repeat' ((conv=>whnf);(first|(refine IfN.id ?_;first|refine IfN.not ?_|refine IfN.tt rfl ?_|refine IfN.dF (by omega) ?_|fail)|(refine CallN.id ?_;first|refine CallN.det _ (g1 _) ?_|refine CallN.det _ (g2 _) ?_|refine CallN.det _ (g3 _) ?_|fail)|refine DrawN.mk' [] ?_|fail)));all_goals (conv=>whnf)
  exact EndN.det (by simp [below,zaa]) (Wk.refl _)
end
section
attribute [local irreducible] VW VCall VO bits
def encN (x:Nat):List AV:=[.int .i64 (x:Nat)]
theorem number_c (n:Nat) (hn:1≤n∧n≤3) (l:List Nat) (hl:l.length≤10) (h1:∀ v∈l,v<n) (H:Heap):VDet Tryz.prog 104 [.sl none l.length (l.flatMap encN),.int .i64 (n:Nat)] H (.int .i64 ((numN n l:Nat):Int)):=by
 have hb:∀ k,numN n (l.take k)<59049:=by
  intro k
  have h2:=num_lt (show 0<n by omega) (l.take k) fun v hv=>h1 v (List.mem_of_mem_take hv)
  have h3:n ^ (l.take k).length≤3 ^ (l.take k).length:=Nat.pow_le_pow_left hn.2 _
  have h4:3 ^ (l.take k).length≤3 ^ 10:=Nat.pow_le_pow_right (by decide) (by rw [List.length_take];omega)
  omega
 refine zak Tryz.E0 Tryz.mx Tryz.func104 (by kernel_rfl) rfl (Nat.le_of_ble_eq_true rfl) rfl fun hcl hbl=>?_
 (repeat' ((conv=>whnf);(first|refine DrawN.mk' [] ?_|fail)));all_goals (conv=>whnf)
 refine za3 Tryz.E0 Tryz.mx (σ:=Nat) (fun k=>k≤l.length) (fun k=>l.length-k) (fun k=>[(10,.v (.int .i64 k)),(5,.v (.int .i64 (numN n (l.take k):Nat)))]) (fun _=>[]) _ 0 rfl hcl [1,8,9] rfl (Nat.zero_le _) ⟨⟨_,rfl,Wk.refl _⟩,⟨_,rfl,Wk.refl _⟩,trivial⟩ rfl (fun _ _=>rfl) ?_
 intro k hk
 rcases Nat.lt_or_ge k l.length with hlt|hge
 ·have hs:numN n (l.take (k+1))=numN n (l.take k) * n+l.getD k 0:=foldl_takeB (fun b v=>b * n+v) 0 0 l k hlt
  have b1:=hb k
  have b2:=hb (k+1)
  have b3:numN n (l.take k) * n≤59049:=by omega
  (repeat' ((conv=>whnf);(first|refine IfN.dT (by omega) ?_|(refine EqN.id ?_;first|(refine EqN.addN _ _ Cst.h Cst.h ?_ ?_;· omega)|(refine EqN.mulN _ _ Cst.h Cst.h ?_ ?_;· omega)|fail)|(refine SideN.mk ?_ ?_;· first|kernel_rfl|omega|exact List.cons_ne_nil _ _|(simp;done)|(simp;omega)|exact trivial|assumption|fail)|refine SegN.nth (f:=encN) 0 k rfl (by omega) (fun _=>rfl) ?_|refine DrawN.mk' [] ?_|fail)));all_goals (conv=>whnf)
  (refine ⟨⟨k+1,by show k+1≤_;omega,by omega,?_,.inl ⟨rfl,rfl⟩,rfl,_,rfl,?_⟩⟩;rotate_left 1;(first|exact .inl rfl|exact .inr ⟨by simp [zal,below,zaa,tr,zad],by simp [zap,Blk.below,zaa,below,zad]⟩|fail);(repeat' (first|exact trivial|refine ⟨⟨_,rfl,?_⟩,?_⟩|fail));all_goals try (first|exact Wk.refl _|exact Wk.of_eq (congrArg (AV.int _) (by omega))|fail))
 ·have hke:k=l.length:=by omega
  subst hke
  rw [List.take_length]
  (repeat' ((conv=>whnf);(first|refine IfN.dF (by omega) ?_|refine DrawN.mk' [] ?_|fail)));all_goals (conv=>whnf)
  exact EndN.det trivial (Wk.refl _)
end
theorem bTm_noV:∀ k i:Nat,∀ x,(bTmI k i).hasV x→x=nX∨x=nY∨x=nZ
 | k,0,x,h=>by
   have hk:k % 4<4:=Nat.mod_lt _ (by decide)
   have:k % 4=0∨k % 4=1∨k % 4=2∨k % 4=3:=by omega
   unfold bTmI bts at h
   rcases this with e|e|e|e <;> rw [e] at h
   ·exact .inl (Eq.symm h)
   ·exact .inr (.inl (Eq.symm h))
   ·exact .inr (.inr (Eq.symm h))
   ·exact h.elim
 | k,i+1,x,h=>bTm_noV k i x h
theorem gF_mem {Q:Fq→Prop} {S:List Fq} {i:Nat} (h:∀ p∈S,Q p) (hi:i<S.length):Q (gF S i):=by
 unfold gF
 rw [List.getD_eq_getElem?_getD,List.getElem?_eq_getElem hi]
 exact h _ (List.getElem_mem hi)
theorem stp_all {Q:Fq→Prop} (hP:∀ k,Q (.at_ nP [bTm k])) (hQ:Q (.at_ nQ [])) (hR:∀ k j,Q (.at_ nR [bTm k,bTm j])) (h1:∀ a,Q a→Q (.f1 a)) (h2:∀ k a b,(k=4∨k=5∨k=6∨k=7)→Q a→Q b→Q (.f2 k a b)) (hq:∀ k j a,(k=8∨k=9)→Q a→Q (.qn k (ltr j) a)) (S:List Fq) (q k c:Nat) (h:∀ p∈S,Q p):∀ p∈(stpC S q k c).1,Q p:=by
 have ht:∀ n,∀ p∈S.take n,Q p:=fun n p hp=>h p (List.mem_of_mem_take hp)
 unfold stpC
 split
 all_goals try split
 all_goals try exact h
 all_goals
  intro p hp
  rcases List.mem_append.1 hp with hp|hp
  ·first|exact h p hp|exact ht _ p hp
  ·rw [List.mem_singleton.1 hp]
   first
   | exact hP _
   | exact hQ
   | exact hR _ _
   | exact h1 _ (gF_mem h (by omega))
   | exact h2 _ _ _ (by omega) (gF_mem h (by omega)) (gF_mem h (by omega))
   | exact hq _ _ _ (by omega) (gF_mem h (by omega))
theorem blt_all {Q:Fq→Prop} (hfa:Q .fa) (hP:∀ k,Q (.at_ nP [bTm k])) (hQ:Q (.at_ nQ [])) (hR:∀ k j,Q (.at_ nR [bTm k,bTm j])) (h1:∀ a,Q a→Q (.f1 a)) (h2:∀ k a b,(k=4∨k=5∨k=6∨k=7)→Q a→Q b→Q (.f2 k a b)) (hq:∀ k j a,(k=8∨k=9)→Q a→Q (.qn k (ltr j) a)) (l:List Nat):Q (bltF l):=by
 have hf:∀ (l:List Nat) (s:BS),(∀ p∈s.1,Q p)→∀ p∈(l.foldl stp s).1,Q p:=by
  intro l
  induction l with
  | nil=>exact fun s h=>h
  | cons b l ih=>exact fun s h=>ih _ (stp_all hP hQ hR h1 h2 hq s.1 s.2 _ _ h)
 have hS:∀ p∈(bst (l.take 24)).1,Q p:=hf _ _ (fun p hp=>by cases hp)
 unfold bltF
 generalize (bst (l.take 24)).1=S at hS
 unfold finF
 split
 ·exact hfa
 ·rename_i h0
  have:∀ j,j<S.length→Q (andN S j):=by
   intro j
   induction j with
   | zero=>exact fun hj=>gF_mem hS hj
   | succ j ih=>exact fun hj=>h2 _ _ _ (by omega) (ih (by omega)) (gF_mem hS hj)
  exact this _ (by omega)
def msF (c q:Nat):Fq→Nat
 | .at_ _ _=>c
 | .fa=>c
 | .f1 a=>msF c q a+c
 | .f2 _ a b=>msF c q a+msF c q b+c
 | .qn _ _ a=>msF c q a+c+q
def totF (c q:Nat) (S:List Fq):Nat:=(S.map (msF c q)).sum
theorem tot_app (c q:Nat) (S T:List Fq):totF c q (S++T)=totF c q S+totF c q T:=by simp [totF]
theorem tot_one (c q:Nat) (p:Fq):totF c q [p]=msF c q p:=by simp [totF]
theorem last1 {S:List Fq} (h:1≤S.length):S=S.take (S.length-1)++[gF S (S.length-1)]:=by
 have h1:=(List.take_append_drop (S.length-1) S).symm
 rw [za7 S (S.length-1) .fa (by omega),show S.length-1+1=S.length by omega,List.drop_length] at h1
 exact h1
theorem last2 {S:List Fq} (h:2≤S.length):S=S.take (S.length-2)++[gF S (S.length-2),gF S (S.length-1)]:=by
 have h1:=(List.take_append_drop (S.length-2) S).symm
 rw [za7 S (S.length-2) .fa (by omega),show S.length-2+1=S.length-1 by omega,za7 S (S.length-1) .fa (by omega),show S.length-1+1=S.length by omega,List.drop_length] at h1
 exact h1
theorem tot_l1 (c q:Nat) (S:List Fq) (h:1≤S.length):totF c q (S.take (S.length-1))+msF c q (gF S (S.length-1))=totF c q S:=by
 have:=congrArg (totF c q) (last1 h)
 rw [tot_app,tot_one] at this
 exact this.symm
theorem tot_l2 (c q:Nat) (S:List Fq) (h:2≤S.length):totF c q (S.take (S.length-2))+(msF c q (gF S (S.length-2))+msF c q (gF S (S.length-1)))=totF c q S:=by
 have:=congrArg (totF c q) (last2 h)
 rw [tot_app,show [gF S (S.length-2),gF S (S.length-1)]=[gF S (S.length-2)]++[gF S (S.length-1)] from rfl,tot_app,tot_one,tot_one] at this
 exact this.symm
theorem tot_step (c q:Nat) (S:List Fq) (u k o:Nat):totF c q (stpC S u k o).1+q * u≤totF c q S+c+q * (stpC S u k o).2:=by
 have h1:=fun h=>tot_l1 c q S h
 have h2:=fun h=>tot_l2 c q S h
 unfold stpC
 split
 all_goals try split
 all_goals try (rename_i h;have h1:=h1 (by omega))
 all_goals try (have h2:=h2 (by omega))
 all_goals simp only [tot_app,tot_one,msF,Nat.mul_add,Nat.mul_one]
 all_goals omega
theorem tot_fold (c q:Nat):∀ (l:List Nat) (s:BS),totF c q (l.foldl stp s).1+q * s.2≤totF c q s.1+c * l.length+q * (l.foldl stp s).2
 | [],s=>by simp
 | b::l,s=>by
   have h1:=tot_fold c q l (stp s b)
   have h2:=tot_step c q s.1 s.2 (b / 12) (b % 12)
   rw [List.foldl_cons,List.length_cons,Nat.mul_add,Nat.mul_one]
   unfold stp at h1 ⊢
   omega
theorem bst_nodes (l:List Nat):totF 1 0 (bst (l.take 24)).1≤24:=by
 have:=tot_fold 1 0 (l.take 24) ([],0)
 have h2:(l.take 24).length≤24:=by rw [List.length_take];omega
 unfold bst
 have e0:totF 1 0 ([]:List Fq)=0:=rfl
 simp only [e0] at this
 omega
def dF:Fq→Nat
 | .at_ _ _=>1
 | .fa=>1
 | .f1 a=>dF a+1
 | .f2 _ a b=>max (dF a) (dF b)+1
 | .qn _ _ a=>dF a+1
theorem ms_pos:∀ p:Fq,1≤msF 1 0 p
 | .at_ _ _=>Nat.le_refl _
 | .fa=>Nat.le_refl _
 | .f1 a=>Nat.le_add_left _ _
 | .f2 _ a b=>Nat.le_add_left _ _
 | .qn _ _ a=>Nat.le_add_left _ _
theorem dF_le:∀ p:Fq,dF p≤msF 1 0 p
 | .at_ _ _=>Nat.le_refl _
 | .fa=>Nat.le_refl _
 | .f1 a=>Nat.succ_le_succ (dF_le a)
 | .f2 _ a b=>by
   have h1:=dF_le a
   have h2:=dF_le b
   show max (dF a) (dF b)+1≤msF 1 0 a+msF 1 0 b+1
   omega
 | .qn _ _ a=>Nat.succ_le_succ (dF_le a)
theorem tot_mem {c q:Nat}:∀ {S:List Fq} {p:Fq},p∈S→(∀ x,c≤msF c q x)→msF c q p+c * (S.length-1)≤totF c q S
 | x::S,p,h,hp=>by
   have hlen:∀ T:List Fq,c * T.length≤totF c q T:=by
    intro T
    induction T with
    | nil=>simp
    | cons y T ih =>
      have e1:totF c q (y::T)=msF c q y+totF c q T:=by simp [totF]
      rw [e1,List.length_cons,Nat.mul_add,Nat.mul_one]
      have:=hp y
      omega
   have e1:totF c q (x::S)=msF c q x+totF c q S:=by simp [totF]
   rw [e1,List.length_cons,Nat.add_sub_cancel]
   rcases List.mem_cons.1 h with rfl|h
   ·have:=hlen S
    omega
   ·have h1:=tot_mem h hp
    have h2:1≤S.length:=List.length_pos_of_mem h
    obtain ⟨n,hn⟩:∃ n,S.length=n+1:=⟨S.length-1,by omega⟩
    rw [hn,Nat.add_sub_cancel] at h1
    rw [hn,Nat.mul_add,Nat.mul_one]
    have:=hp x
    omega
theorem gF_in {S:List Fq} {i:Nat} (h:i<S.length):gF S i∈S:=gF_mem (Q:=fun p=>p∈S) (fun _ h=>h) h
theorem and_dep (S:List Fq) (m:Nat) (hm:∀ p∈S,dF p≤m):∀ j,j<S.length→dF (andN S j)≤j+m
 | 0,h=>by
   have:=hm _ (gF_in h)
   show dF (gF S 0)≤_
   omega
 | j+1,h=>by
   have h1:=and_dep S m hm j (by omega)
   have h2:=hm _ (gF_in h)
   show max (dF (andN S j)) (dF (gF S (j+1)))+1≤_
   omega
theorem and_ms (c q:Nat) (S:List Fq):∀ j,j<S.length→msF c q (andN S j)=totF c q (S.take (j+1))+c * j
 | 0,h=>by
   show msF c q (gF S 0)=_
   have:S.take 1=[gF S 0]:=by
    unfold gF
    rw [List.take_add_one,List.getD_eq_getElem?_getD,List.getElem?_eq_getElem h]
    rfl
   rw [this,tot_one]
   omega
 | j+1,h=>by
   have h1:=and_ms c q S j (by omega)
   have h2:S.take (j+1+1)=S.take (j+1)++[gF S (j+1)]:=by
    unfold gF
    rw [List.take_add_one,List.getD_eq_getElem?_getD,List.getElem?_eq_getElem h]
    rfl
   show msF c q (andN S j)+msF c q (gF S (j+1))+c=_
   rw [h1,h2,tot_app,tot_one,Nat.mul_add,Nat.mul_one]
   omega
theorem blt_dep (l:List Nat):dF (bltF l)≤24:=by
 have ht:=bst_nodes l
 unfold bltF
 generalize (bst (l.take 24)).1=S at ht
 unfold finF
 split
 ·show 1≤24
  omega
 ·have:=and_dep S (24-(S.length-1)) (fun p hp=>by
   have h1:=tot_mem (c:=1) (q:=0) hp ms_pos
   have h2:=dF_le p
   omega) (S.length-1) (by omega)
  have h3:S.length≤24:=by
   have h1:=tot_mem (c:=1) (q:=0) (gF_in (S:=S) (i:=0) (by omega)) ms_pos
   have h2:=ms_pos (gF S 0)
   omega
  omega
theorem blt_nodes (l:List Nat):msF 1 0 (bltF l)≤47:=by
 have ht:=bst_nodes l
 unfold bltF
 generalize (bst (l.take 24)).1=S at ht
 unfold finF
 split
 ·show 1≤47
  omega
 ·rw [and_ms 1 0 S (S.length-1) (by omega),show S.length-1+1=S.length by omega,List.take_length]
  have h1:=tot_mem (c:=1) (q:=0) (gF_in (S:=S) (i:=0) (by omega)) ms_pos
  have h2:=ms_pos (gF S 0)
  omega
def wT:Tq→Nat
 | .vr _=>1
 | .cn _=>1
 | .ap _ t=>wT t+1
def stdT:Tq→Prop
 | .vr s=>isVar s=true
 | .cn s=>isFun s=true
 | .ap s t=>isFun s=true∧stdT t
def wF:Fq→Nat
 | .at_ _ l=>(l.map wT).sum+1
 | .fa=>1
 | .f1 a=>wF a+1
 | .f2 _ a b=>wF a+wF b+1
 | .qn _ _ a=>wF a+1
def stdF:Fq→Prop
 | .at_ s l=>isPred s=true∧l.length≤2∧∀ t∈l,stdT t∧wT t≤3
 | .fa=>True
 | .f1 a=>stdF a
 | .f2 k a b=>(k=4∨k=5∨k=6∨k=7)∧stdF a∧stdF b
 | .qn k x a=>(k=8∨k=9)∧isVar x=true∧stdF a
theorem jT_ok:∀ (t:Tq) (d:Nat) (L:Int),stdT t→(wT t:Int)≤L→d+wT t≤41→jT d t.tm L=(L-wT t,true)
 | .vr s,d,L,h,h1,h2=>by
   have h1:(1:Int)≤L:=h1
   have h2:d+1≤41:=h2
   show jT d (.mk true s []) L=(L-1,true)
   unfold jT
   rw [if_neg (by omega),if_pos rfl,show isVar s=true from h]
   rfl
 | .cn s,d,L,h,h1,h2=>by
   have h1:(1:Int)≤L:=h1
   have h2:d+1≤41:=h2
   show jT d (.mk false s []) L=(L-1,true)
   unfold jT
   rw [if_neg (by omega),if_neg (by decide),if_pos ⟨Nat.zero_le _,h⟩,jTs_nil]
 | .ap s t,d,L,h,h1,h2=>by
   have h1:((wT t+1:Nat):Int)≤L:=h1
   have h2:d+(wT t+1)≤41:=h2
   have ih:=jT_ok t (d+1) (L-1) h.2 (by omega) (by omega)
   show jT d (.mk false s [t.tm]) L=(L-((wT t+1:Nat):Int),true)
   unfold jT
   rw [if_neg (by omega),if_neg (by decide),if_pos ⟨by show 1≤4;omega,h.1⟩,jTs_cons,ih,if_pos rfl,jTs_nil]
   simp only [Prod.mk.injEq,and_true]
   omega
theorem jTs_ok:∀ (l:List Tq) (d:Nat) (L:Int),(∀ t∈l,stdT t∧wT t≤3)→(((l.map wT).sum:Nat):Int)≤L→d≤38→jTs d (l.map Tq.tm) L=(L-((l.map wT).sum:Nat),true)
 | [],d,L,_,_,_=>by
   rw [List.map_nil,jTs_nil]
   simp
 | t::l,d,L,h,h1,h2=>by
   have e:((t::l).map wT).sum=wT t+(l.map wT).sum:=by simp
   rw [e] at h1 ⊢
   obtain ⟨q1,q2⟩:=h t List.mem_cons_self
   rw [List.map_cons,jTs_cons,jT_ok t d L q1 (by omega) (by omega),if_pos rfl,jTs_ok l d _ (fun x hx=>h x (List.mem_cons_of_mem _ hx)) (by simp only;omega) h2]
   simp only [Prod.mk.injEq,and_true]
   omega
theorem jF_ok:∀ (p:Fq) (d:Nat) (L:Int),stdF p→(wF p:Int)≤L→d+dF p≤38→jF d p.fo L=(L-wF p,true)
 | .at_ s l,d,L,h,h1,h2=>by
   have h1:(((l.map wT).sum+1:Nat):Int)≤L:=h1
   have h2:d+1≤38:=h2
   show jF d (.mk 1 s (l.map Tq.tm) []) L=(L-(((l.map wT).sum+1:Nat):Int),true)
   unfold jF
   rw [if_neg (by omega),if_neg (by decide),if_neg (fun hn=>hn ⟨h.1,by rw [List.length_map];exact Nat.le_trans h.2.1 (by decide),rfl⟩),jTs_ok l (d+1) (L-1) h.2.2 (by omega) (by omega),if_pos rfl,jFs_nil]
   simp only [Prod.mk.injEq,and_true]
   omega
 | .fa,d,L,h,h1,h2=>by
   have h1:(1:Int)≤L:=h1
   have h2:d+1≤38:=h2
   show jF d (.mk 2 .empty [] []) L=(L-1,true)
   unfold jF
   rw [if_neg (by omega),if_neg (by decide),if_neg (fun hn=>hn ⟨by kernel_rfl,Nat.zero_le _,rfl⟩),jTs_nil,if_pos rfl,jFs_nil]
 | .f1 a,d,L,h,h1,h2=>by
   have h1:((wF a+1:Nat):Int)≤L:=h1
   have h2:d+(dF a+1)≤38:=h2
   have ih:=jF_ok a (d+1) (L-1) h (by omega) (by omega)
   show jF d (.mk 3 .empty [] [a.fo]) L=(L-((wF a+1:Nat):Int),true)
   unfold jF
   rw [if_neg (by omega),if_neg (by decide),if_neg (fun hn=>hn ⟨by kernel_rfl,Nat.zero_le _,rfl⟩),jTs_nil,if_pos rfl,jFs_cons,ih,if_pos rfl,jFs_nil]
   simp only [Prod.mk.injEq,and_true]
   omega
 | .f2 k a b,d,L,h,h1,h2=>by
   have h1:((wF a+wF b+1:Nat):Int)≤L:=h1
   have h2:d+(max (dF a) (dF b)+1)≤38:=h2
   have ih:=jF_ok a (d+1) (L-1) h.2.1 (by omega) (by omega)
   have ih2:=jF_ok b (d+1) (L-1-wF a) h.2.2 (by omega) (by omega)
   obtain ⟨r1,r2,r3⟩:rowK k=true∧rowN k=0∧rowS k=2:=by rcases h.1 with rfl|rfl|rfl|rfl <;> decide
   have hk:k<17:=by have:=h.1;omega
   show jF d (.mk k .empty [] [a.fo,b.fo]) L=(L-((wF a+wF b+1:Nat):Int),true)
   unfold jF
   rw [if_neg (by omega),r1,if_neg (by decide),r2,r3,if_neg (fun hn=>hn ⟨by kernel_rfl,Nat.zero_le _,rfl⟩),jTs_nil,if_pos rfl,jFs_cons,ih,if_pos rfl,jFs_cons,ih2,if_pos rfl,jFs_nil]
   simp only [Prod.mk.injEq,and_true]
   omega
 | .qn k x a,d,L,h,h1,h2=>by
   have h1:((wF a+1:Nat):Int)≤L:=h1
   have h2:d+(dF a+1)≤38:=h2
   have ih:=jF_ok a (d+1) (L-1) h.2.2 (by omega) (by omega)
   obtain ⟨r1,r2,r3⟩:rowK k=true∧rowN k=2∧rowS k=1:=by rcases h.1 with rfl|rfl <;> decide
   have hk:k<17:=by have:=h.1;omega
   show jF d (.mk k x [] [a.fo]) L=(L-((wF a+1:Nat):Int),true)
   unfold jF
   rw [if_neg (by omega),r1,if_neg (by decide),r2,r3,if_neg (fun hn=>hn ⟨h.2.1,Nat.zero_le _,rfl⟩),jTs_nil,if_pos rfl,jFs_cons,ih,if_pos rfl,jFs_nil]
   simp only [Prod.mk.injEq,and_true]
   omega
theorem wF_le:∀ p:Fq,stdF p→wF p≤7 * msF 1 0 p
 | .at_ s l,h=>by
   show (l.map wT).sum+1≤7 * 1
   match l,h with
   | [],_=>show 0+1≤7;omega
   | [t],h =>
     have:=(h.2.2 t List.mem_cons_self).2
     simp
     omega
   | [t,u],h =>
     have:=(h.2.2 t List.mem_cons_self).2
     have:=(h.2.2 u (List.mem_cons_of_mem _ List.mem_cons_self)).2
     simp
     omega
   | _::_::_::_,h=>exact absurd h.2.1 (by simp)
 | .fa,_=>by show 1≤7 * 1;omega
 | .f1 a,h=>by
   have:=wF_le a h
   show wF a+1≤7 * (msF 1 0 a+1)
   omega
 | .f2 _ a b,h=>by
   have:=wF_le a h.2.1
   have:=wF_le b h.2.2
   show wF a+wF b+1≤7 * (msF 1 0 a+msF 1 0 b+1)
   omega
 | .qn _ _ a,h=>by
   have:=wF_le a h.2.2
   show wF a+1≤7 * (msF 1 0 a+1+0)
   omega
theorem len_sub {α:Type}:∀ (M l:List α),l.Nodup→(∀ x∈l,x∈M)→l.length≤M.length:=by
 classical
 intro M
 induction M with
 | nil =>
   intro l _ h
   cases l with
   | nil=>exact Nat.le_refl _
   | cons x l=>exact absurd (h x List.mem_cons_self) (by simp)
 | cons a M ih =>
   intro l hn h
   by_cases ha:a∈l
   ·have h1:=ih (l.erase a) (hn.erase a) fun x hx=>by
     have hx:=(List.Nodup.mem_erase_iff hn).1 hx
     rcases List.mem_cons.1 (h x hx.2) with e|e
     ·exact absurd e hx.1
     ·exact e
    rw [List.length_erase_of_mem ha] at h1
    rw [List.length_cons]
    omega
   ·have h1:=ih l hn fun x hx=>by
     rcases List.mem_cons.1 (h x hx) with e|e
     ·exact absurd (e▸hx) ha
     ·exact e
    rw [List.length_cons]
    omega
def inP (s:ByteArray) (a:Int):Prop:=(s=nP∧a=1)∨(s=nQ∧a=0)∨(s=nR∧a=2)
def inC (s:ByteArray) (a:Int):Prop:=(s=nA∧a=0)∨(s=nF∧a=1)
def inV (x:ByteArray):Prop:=x=nX∨x=nY∨x=nZ
structure symF (q:Fq):Prop where
 p:∀ s a,q.hasP s a→inP s a
 c:∀ s a,q.hasC s a→inC s a
 v:∀ x,q.free x→inV x
theorem bTm_std:∀ k i:Nat,stdT (bTmI k i)
 | k,0=>by
   have hk:k % 4<4:=Nat.mod_lt _ (by decide)
   have:k % 4=0∨k % 4=1∨k % 4=2∨k % 4=3:=by omega
   unfold bTmI bts
   rcases this with e|e|e|e <;> rw [e]
   ·show isVar nX=true
    kernel_rfl
   ·show isVar nY=true
    kernel_rfl
   ·show isVar nZ=true
    kernel_rfl
   ·show isFun nA=true
    kernel_rfl
 | k,i+1=>⟨by kernel_rfl,bTm_std k i⟩
theorem bTm_w:∀ k i:Nat,wT (bTmI k i)=i+1
 | k,0=>by
   have hk:k % 4<4:=Nat.mod_lt _ (by decide)
   have:k % 4=0∨k % 4=1∨k % 4=2∨k % 4=3:=by omega
   unfold bTmI bts
   rcases this with e|e|e|e <;> rw [e] <;> rfl
 | k,i+1=>by
   show wT (bTmI k i)+1=_
   rw [bTm_w k i]
theorem bTm_w3 (k:Nat):wT (bTm k)≤3:=by
 unfold bTm
 rw [bTm_w]
 have:=Nat.mod_lt (k / 4) (show 0<3 by omega)
 omega
theorem bTm_C:∀ k i:Nat,∀ s a,(bTmI k i).hasC s a→inC s a
 | k,0,s,a,h=>by
   have hk:k % 4<4:=Nat.mod_lt _ (by decide)
   have:k % 4=0∨k % 4=1∨k % 4=2∨k % 4=3:=by omega
   unfold bTmI bts at h
   rcases this with e|e|e|e <;> rw [e] at h
   ·exact h.elim
   ·exact h.elim
   ·exact h.elim
   ·exact .inl ⟨Eq.symm h.1,h.2⟩
 | k,i+1,s,a,h=>by
   rcases h with h|h
   ·exact .inr ⟨Eq.symm h.1,h.2⟩
   ·exact bTm_C k i s a h
theorem ltr_in (j:Nat):inV (ltr j):=by
 have hk:j % 3<3:=Nat.mod_lt _ (by decide)
 have:j % 3=0∨j % 3=1∨j % 3=2:=by omega
 unfold ltr xyz
 rcases this with e|e|e <;> rw [e]
 ·exact .inl rfl
 ·exact .inr (.inl rfl)
 ·exact .inr (.inr rfl)
theorem inV_var {x:ByteArray} (h:inV x):isVar x=true:=by
 rcases h with rfl|rfl|rfl <;> kernel_rfl
theorem blt_std (l:List Nat):stdF (bltF l):=blt_all (Q:=stdF) trivial
 (fun k=>⟨by kernel_rfl,by show 1≤2;omega,fun t ht=>by rw [List.mem_singleton.1 ht];exact ⟨bTm_std _ _,bTm_w3 k⟩⟩)
 ⟨by kernel_rfl,Nat.zero_le _,fun t ht=>by cases ht⟩
 (fun k j=>⟨by kernel_rfl,Nat.le_refl _,fun t ht=>by
  rcases List.mem_cons.1 ht with h|h
  ·rw [h];exact ⟨bTm_std _ _,bTm_w3 k⟩
  ·rw [List.mem_singleton.1 h];exact ⟨bTm_std _ _,bTm_w3 j⟩⟩)
 (fun _ h=>h) (fun _ _ _ h1 h2 h3=>⟨h1,h2,h3⟩) (fun _ j _ h1 h2=>⟨h1,inV_var (ltr_in j),h2⟩) l
theorem blt_sym (l:List Nat):symF (bltF l):=blt_all (Q:=symF)
 ⟨fun _ _ h=>h.elim,fun _ _ h=>h.elim,fun _ h=>h.elim⟩
 (fun k=>⟨fun s a h=>.inl ⟨Eq.symm h.1,h.2⟩,fun s a ⟨t,ht,h⟩=>by rw [List.mem_singleton.1 ht] at h;exact bTm_C _ _ _ _ h,fun x ⟨t,ht,h⟩=>by rw [List.mem_singleton.1 ht] at h;exact bTm_noV _ _ _ h⟩)
 ⟨fun s a h=>.inr (.inl ⟨Eq.symm h.1,h.2⟩),fun s a ⟨t,ht,h⟩=>(by cases ht),fun x ⟨t,ht,h⟩=>by cases ht⟩
 (fun k j=>⟨fun s a h=>.inr (.inr ⟨Eq.symm h.1,h.2⟩),fun s a ⟨t,ht,h⟩=>by
  rcases List.mem_cons.1 ht with e|e
  ·rw [e] at h;exact bTm_C _ _ _ _ h
  ·rw [List.mem_singleton.1 e] at h;exact bTm_C _ _ _ _ h,fun x ⟨t,ht,h⟩=>by
  rcases List.mem_cons.1 ht with e|e
  ·rw [e] at h;exact bTm_noV _ _ _ h
  ·rw [List.mem_singleton.1 e] at h;exact bTm_noV _ _ _ h⟩)
 (fun _ h=>⟨h.p,h.c,h.v⟩)
 (fun _ _ _ _ h1 h2=>⟨fun s a h=>h.elim (h1.p s a) (h2.p s a),fun s a h=>h.elim (h1.c s a) (h2.c s a),fun x h=>h.elim (h1.v x) (h2.v x)⟩)
 (fun _ _ _ _ h=>⟨h.p,h.c,fun x q=>h.v x q.1⟩) l
theorem std_ok:∀ p:Fq,stdF p→p.Ok
 | .at_ _ _,h=>h.2.1
 | .fa,_=>trivial
 | .f1 a,h=>std_ok a h
 | .f2 _ a b,h=>⟨h.1,std_ok a h.2.1,std_ok b h.2.2⟩
 | .qn _ _ a,h=>⟨h.1,std_ok a h.2.2⟩
theorem name_sz {p q:UInt8→Bool} {s:ByteArray} (h:nameB p q s=true):s.size≤maxLen:=by
 unfold nameB at h
 rw [Bool.and_eq_true,decide_eq_true_eq] at h
 exact Nat.le_trans h.1.2 (by decide)
theorem good_t:∀ t:Tq,stdT t→t.tm.good
 | .vr s,h=>⟨name_sz h,Nat.zero_le _,trivial⟩
 | .cn s,h=>⟨name_sz h,Nat.zero_le _,trivial⟩
 | .ap s t,h=>⟨name_sz h.1,by show 1≤maxLen;decide,good_t t h.2,trivial⟩
theorem good_f:∀ p:Fq,stdF p→p.fo.good
 | .at_ s l,h=>⟨by decide,name_sz h.1,by rw [List.length_map];exact Nat.le_trans h.2.1 (by decide),Tm.goodL_of _ fun x hx=>by
   obtain ⟨t,ht,rfl⟩:=List.mem_map.1 hx
   exact good_t t (h.2.2 t ht).1,Nat.zero_le _,trivial⟩
 | .fa,_=>⟨by decide,by decide,Nat.zero_le _,trivial,Nat.zero_le _,trivial⟩
 | .f1 a,h=>⟨by decide,by decide,Nat.zero_le _,trivial,by show 1≤maxLen;decide,good_f a h,trivial⟩
 | .f2 k a b,h=>⟨by rcases h.1 with rfl|rfl|rfl|rfl <;> decide,by decide,Nat.zero_le _,trivial,by show 2≤maxLen;decide,good_f a h.2.1,good_f b h.2.2,trivial⟩
 | .qn k x a,h=>⟨by rcases h.1 with rfl|rfl <;> decide,name_sz h.2.1,Nat.zero_le _,trivial,by show 1≤maxLen;decide,good_f a h.2.2,trivial⟩
theorem tmR_ok:∀ t:Tq,tmR t.tm=true
 | .vr _=>rfl
 | .cn _=>rfl
 | .ap s t=>by
   show (decide (1≤1)&&(tmR t.tm&&true))=true
   rw [tmR_ok t]
   rfl
theorem foR_ok:∀ p:Fq,p.Ok→foR p.fo=true
 | .at_ s l,h=>by
   show (decide (1≤1∧1≤9∧(l.map Tq.tm).length≤2)&&(tmRs (l.map Tq.tm)&&true))=true
   rw [List.length_map,decide_eq_true ⟨by omega,by omega,h⟩,tmRs_all,List.all_eq_true.2 fun x hx=>by
    obtain ⟨t,-,rfl⟩:=List.mem_map.1 hx
    exact tmR_ok t]
   rfl
 | .fa,_=>rfl
 | .f1 a,h=>by
   show (decide (1≤3∧3≤9∧0≤2)&&(true&&(foR a.fo&&true)))=true
   rw [foR_ok a h]
   rfl
 | .f2 k a b,h=>by
   show (decide (1≤k∧k≤9∧0≤2)&&(true&&(foR a.fo&&(foR b.fo&&true))))=true
   have hk:=h.1
   rw [foR_ok a h.2.1,foR_ok b h.2.2,decide_eq_true (by omega)]
   rfl
 | .qn k x a,h=>by
   show (decide (1≤k∧k≤9∧0≤2)&&(true&&(foR a.fo&&true)))=true
   have hk:=h.1
   rw [foR_ok a h.2,decide_eq_true (by omega)]
   rfl
mutual
theorem frT_nd (c:ByteArray→Int):∀ (t:Tm) (ns:List ByteArray),ns.Nodup→(frT c ns t).Nodup
 | .mk v s l,ns,h=>by
   rw [frT_mk]
   refine frTs_nd c l _ ?_
   split
   ·exact nd_insG _ _ h
   ·exact h
theorem frTs_nd (c:ByteArray→Int):∀ (l:List Tm) (ns:List ByteArray),ns.Nodup→(frTs c ns l).Nodup
 | [],ns,h=>by rw [frTs_nil];exact h
 | x::l,ns,h=>by rw [frTs_cons];exact frTs_nd c l _ (frT_nd c x ns h)
end
mutual
theorem frF_nd:∀ (x:Fo) (c:ByteArray→Int) (ns:List ByteArray),ns.Nodup→(frF c ns x).Nodup
 | .mk op s l m,c,ns,h=>by
   rw [frF_mk]
   exact frFs_nd m _ _ (frTs_nd c l ns h)
theorem frFs_nd:∀ (l:List Fo) (c:ByteArray→Int) (ns:List ByteArray),ns.Nodup→(frFs c ns l).Nodup
 | [],c,ns,h=>by rw [frFs_nil];exact h
 | x::l,c,ns,h=>by rw [frFs_cons];exact frFs_nd l c _ (frF_nd x c ns h)
end
theorem freeF_nd (f:Fo):(freeF f).Nodup:=frF_nd f _ _ List.nodup_nil
structure Gd (p:Fq):Prop where
 std:stdF p
 dep:dF p≤30
 nod:msF 1 0 p≤55
 sym:symF p
theorem Gd.right {p:Fq} (h:Gd p):rightF p.fo=true:=by
 have h1:=wF_le p h.std
 have h2:=h.nod
 have h3:=h.dep
 unfold rightF
 rw [jF_ok p 1 400 h.std (by omega) (by omega),foR_ok p (std_ok p h.std)]
 rfl
theorem predY_len {p:Fq} (h:Gd p):(predY p.fo).length≤3:=by
 refine len_sub [(nP,1),(nQ,0),(nR,2)] _ (predY_nd _) fun x hx=>?_
 have h1:=(mem_predY (std_ok p h.std) x).1 hx
 obtain ⟨s,a⟩:=x
 rcases h.sym.p _ _ h1 with ⟨e1,e2⟩|⟨e1,e2⟩|⟨e1,e2⟩
 ·have e1:s=nP:=e1
  have e2:((a:Nat):Int)=1:=e2
  have e3:a=1:=by omega
  rw [e1,e3];simp
 ·have e1:s=nQ:=e1
  have e2:((a:Nat):Int)=0:=e2
  have e3:a=0:=by omega
  rw [e1,e3];simp
 ·have e1:s=nR:=e1
  have e2:((a:Nat):Int)=2:=e2
  have e3:a=2:=by omega
  rw [e1,e3];simp
theorem funY_len {p:Fq} (h:Gd p):(funY p.fo).length≤2:=by
 refine len_sub [(nA,0),(nF,1)] _ (funY_nd _) fun x hx=>?_
 have h1:=(mem_funY (std_ok p h.std) x).1 hx
 obtain ⟨s,a⟩:=x
 rcases h.sym.c _ _ h1 with ⟨e1,e2⟩|⟨e1,e2⟩
 ·have e1:s=nA:=e1
  have e2:((a:Nat):Int)=0:=e2
  have e3:a=0:=by omega
  rw [e1,e3];simp
 ·have e1:s=nF:=e1
  have e2:((a:Nat):Int)=1:=e2
  have e3:a=1:=by omega
  rw [e1,e3];simp
theorem freeF_len {p:Fq} (h:Gd p):(freeF p.fo).length≤3:=by
 refine len_sub [nX,nY,nZ] _ (freeF_nd _) fun x hx=>?_
 rcases h.sym.v _ ((mem_freeF (std_ok p h.std) x).1 hx) with e|e|e <;> rw [e] <;> simp
theorem Gd.sm {p:Fq} (h:Gd p):FqSm p :=
 ⟨good_f p h.std,std_ok p h.std,Nat.le_trans (predY_len h) (by omega),Nat.le_trans (funY_len h) (by omega),Nat.le_trans (freeF_len h) (by omega)⟩
theorem blt_gd (l:List Nat):Gd (bltF l):=⟨blt_std l,Nat.le_trans (blt_dep l) (by omega),Nat.le_trans (blt_nodes l) (by omega),blt_sym l⟩
end Go.Proofs.YtgdmldelijeaoaaGreatDoor
namespace Go.Proofs.YtgdmldelijeaoaaGreatDoor
section
open Go.Shelf
def Tryz.keys194_ren:Go.Shelf.Ren:=⟨fun|7=>194|10=>234|n=>n,fun|23=>183|26=>9|3=>4|28=>218|0=>0|27=>217|33=>162|4=>4|n=>n,fun|n=>n⟩
theorem Tryz.keys194:Go.Proofs.SlLaysZ.n7 Tryz.prog Tryz.keys194_ren:={
 mixed:=by kernel_rfl
 f7:=⟨Tryz.f194.name,by decide,Tryz.func194.trans (congrArg some (by kernel_rfl))⟩
 f10:=⟨Tryz.f234.name,by decide,Tryz.func234.trans (congrArg some (by kernel_rfl))⟩
 t0:=Tryz.underlying0
 a0:=Tryz.isAgg0
 z0:=Tryz.sizeOf0
 v0:=Tryz.zeroValue0
 t4:=Tryz.underlying4
 a4:=Tryz.isAgg4
 z4:=Tryz.sizeOf4
 v4:=Tryz.zeroValue4
 t23:=Tryz.underlying183
 a23:=Tryz.isAgg183
 z23:=Tryz.sizeOf183
 v23:=Tryz.zeroValue183
 t26:=Tryz.underlying9
 a26:=Tryz.isAgg9
 z26:=Tryz.sizeOf9
 v26:=Tryz.zeroValue9
 t27:=Tryz.underlying217
 a27:=Tryz.isAgg217
 z27:=Tryz.sizeOf217
 v27:=Tryz.zeroValue217
 t28:=Tryz.underlying218
 a28:=Tryz.isAgg218
 z28:=Tryz.sizeOf218
 v28:=Tryz.zeroValue218
 t33:=Tryz.underlying162
 a33:=Tryz.isAgg162
 z33:=Tryz.sizeOf162
 v33:=Tryz.zeroValue162 }
def Tryz.sorted193_ren:Go.Shelf.Ren:=⟨fun|6=>193|8=>232|9=>233|11=>247|13=>249|12=>248|23=>263|24=>264|14=>254|15=>255|16=>256|17=>257|18=>258|19=>259|20=>260|21=>261|22=>262|25=>281|26=>282|27=>283|28=>284|29=>285|30=>286|31=>293|n=>n,fun|26=>9|28=>218|24=>24|0=>0|3=>3|37=>194|48=>262|50=>115|4=>4|40=>256|39=>255|45=>158|5=>5|9=>9|51=>274|55=>278|57=>284|58=>285|33=>162|n=>n,fun|n=>n⟩
theorem Tryz.sorted193:Go.Proofs.SlLaysZ.n6 Tryz.prog Tryz.sorted193_ren:={
 mixed:=by kernel_rfl
 f6:=⟨Tryz.f193.name,by decide,Tryz.func193.trans (congrArg some (by kernel_rfl))⟩
 f8:=⟨Tryz.f232.name,by decide,Tryz.func232.trans (congrArg some (by kernel_rfl))⟩
 f11:=⟨Tryz.f247.name,by decide,Tryz.func247.trans (congrArg some (by kernel_rfl))⟩
 t0:=Tryz.underlying0
 a0:=Tryz.isAgg0
 z0:=Tryz.sizeOf0
 v0:=Tryz.zeroValue0
 t24:=Tryz.underlying24
 a24:=Tryz.isAgg24
 z24:=Tryz.sizeOf24
 v24:=Tryz.zeroValue24
 t26:=Tryz.underlying9
 a26:=Tryz.isAgg9
 z26:=Tryz.sizeOf9
 v26:=Tryz.zeroValue9
 t28:=Tryz.underlying218
 a28:=Tryz.isAgg218
 z28:=Tryz.sizeOf218
 v28:=Tryz.zeroValue218
 i26:=by kernel_rfl }
def Tryz.sort233_ren:Go.Shelf.Ren:=⟨fun|6=>233|8=>249|9=>248|19=>263|20=>264|21=>254|22=>255|23=>256|24=>257|25=>258|26=>259|27=>260|28=>261|29=>262|36=>281|31=>282|32=>283|37=>284|38=>285|39=>286|41=>293|n=>n,fun|27=>24|29=>9|3=>3|32=>194|26=>24|0=>0|44=>262|46=>115|4=>4|36=>256|35=>255|41=>158|5=>5|9=>9|53=>274|57=>278|63=>284|64=>285|n=>n,fun|n=>n⟩
theorem Tryz.sort233:Go.Proofs.SlLaysM.n6 Tryz.prog Tryz.sort233_ren:={
 mixed:=by kernel_rfl
 f6:=⟨Tryz.f233.name,by decide,Tryz.func233.trans (congrArg some (by kernel_rfl))⟩
 f8:=Tryz.func249.trans (congrArg some (by kernel_rfl))
 f9:=⟨Tryz.f248.name,by decide,Tryz.func248.trans (congrArg some (by kernel_rfl))⟩
 f19:=Tryz.func263.trans (congrArg some (by kernel_rfl))
 f20:=Tryz.func264.trans (congrArg some (by kernel_rfl))
 f21:=⟨Tryz.f254.name,by decide,Tryz.func254.trans (congrArg some (by kernel_rfl))⟩
 f22:=⟨Tryz.f255.name,by decide,Tryz.func255.trans (congrArg some (by kernel_rfl))⟩
 f23:=⟨Tryz.f256.name,by decide,Tryz.func256.trans (congrArg some (by kernel_rfl))⟩
 f24:=⟨Tryz.f257.name,by decide,Tryz.func257.trans (congrArg some (by kernel_rfl))⟩
 f25:=⟨Tryz.f258.name,by decide,Tryz.func258.trans (congrArg some (by kernel_rfl))⟩
 f26:=⟨Tryz.f259.name,by decide,Tryz.func259.trans (congrArg some (by kernel_rfl))⟩
 f27:=⟨Tryz.f260.name,by decide,Tryz.func260.trans (congrArg some (by kernel_rfl))⟩
 f28:=⟨Tryz.f261.name,by decide,Tryz.func261.trans (congrArg some (by kernel_rfl))⟩
 f29:=⟨Tryz.f262.name,by decide,Tryz.func262.trans (congrArg some (by kernel_rfl))⟩
 f31:=Tryz.func282.trans (congrArg some (by kernel_rfl))
 f32:=Tryz.func283.trans (congrArg some (by kernel_rfl))
 f36:=⟨Tryz.f281.name,by decide,Tryz.func281.trans (congrArg some (by kernel_rfl))⟩
 f37:=⟨Tryz.f284.name,by decide,Tryz.func284.trans (congrArg some (by kernel_rfl))⟩
 f38:=⟨Tryz.f285.name,by decide,Tryz.func285.trans (congrArg some (by kernel_rfl))⟩
 f39:=⟨Tryz.f286.name,by decide,Tryz.func286.trans (congrArg some (by kernel_rfl))⟩
 f41:=⟨Tryz.f293.name,by decide,Tryz.func293.trans (congrArg some (by kernel_rfl))⟩
 t0:=Tryz.underlying0
 a0:=Tryz.isAgg0
 z0:=Tryz.sizeOf0
 v0:=Tryz.zeroValue0
 t3:=Tryz.underlying3
 a3:=Tryz.isAgg3
 z3:=Tryz.sizeOf3
 v3:=Tryz.zeroValue3
 t4:=Tryz.underlying4
 a4:=Tryz.isAgg4
 z4:=Tryz.sizeOf4
 v4:=Tryz.zeroValue4
 t5:=Tryz.underlying5
 a5:=Tryz.isAgg5
 z5:=Tryz.sizeOf5
 v5:=Tryz.zeroValue5
 t9:=Tryz.underlying9
 a9:=Tryz.isAgg9
 z9:=Tryz.sizeOf9
 v9:=Tryz.zeroValue9
 t26:=Tryz.underlying24
 a26:=Tryz.isAgg24
 z26:=Tryz.sizeOf24
 v26:=Tryz.zeroValue24
 t27:=Tryz.underlying24
 a27:=Tryz.isAgg24
 z27:=Tryz.sizeOf24
 v27:=Tryz.zeroValue24
 t29:=Tryz.underlying9
 a29:=Tryz.isAgg9
 z29:=Tryz.sizeOf9
 v29:=Tryz.zeroValue9
 t32:=Tryz.underlying194
 a32:=Tryz.isAgg194
 z32:=Tryz.sizeOf194
 v32:=Tryz.zeroValue194
 t35:=Tryz.underlying255
 a35:=Tryz.isAgg255
 z35:=Tryz.sizeOf255
 v35:=Tryz.zeroValue255
 t36:=Tryz.underlying256
 a36:=Tryz.isAgg256
 z36:=Tryz.sizeOf256
 v36:=Tryz.zeroValue256
 t41:=Tryz.underlying158
 a41:=Tryz.isAgg158
 z41:=Tryz.sizeOf158
 v41:=Tryz.zeroValue158
 t44:=Tryz.underlying262
 a44:=Tryz.isAgg262
 z44:=Tryz.sizeOf262
 v44:=Tryz.zeroValue262
 t46:=Tryz.underlying115
 a46:=Tryz.isAgg115
 z46:=Tryz.sizeOf115
 v46:=Tryz.zeroValue115
 t53:=Tryz.underlying274
 a53:=Tryz.isAgg274
 z53:=Tryz.sizeOf274
 v53:=Tryz.zeroValue274
 t57:=Tryz.underlying278
 a57:=Tryz.isAgg278
 z57:=Tryz.sizeOf278
 v57:=Tryz.zeroValue278
 t63:=Tryz.underlying284
 a63:=Tryz.isAgg284
 z63:=Tryz.sizeOf284
 v63:=Tryz.zeroValue284
 t64:=Tryz.underlying285
 a64:=Tryz.isAgg285
 z64:=Tryz.sizeOf285
 v64:=Tryz.zeroValue285 }
end
end Go.Proofs.YtgdmldelijeaoaaGreatDoor
namespace Go.Proofs.YtgdmldelijeaoaaGreatDoor.P10
open Go.Vsi
section
open Go.Maps Go.Sort Go.Shelf Go.RowKit
open Go.WideElems (Fit rg)
open Go.WideShapes (sorted_perm)
attribute [local irreducible] VW VCall VO bits
instance baDec:DecidableEq ByteArray:=fun a b=>if h:a.data=b.data then isTrue (by cases a;cases b;simp only at h;rw [h]) else isFalse fun e=>h (by rw [e])
def mpG (ks:List ByteArray):Blk:=.mp (ks.map fun c=>.str c) (ks.map fun _=>.bool true)
def memG (c:ByteArray) (ks:List ByteArray):Bool:=ks.any fun d=>decide (d=c)
theorem memG_iff (c:ByteArray) (ks:List ByteArray):memG c ks=true↔c∈ks:=by
 unfold memG
 rw [List.any_eq_true]
 exact ⟨fun ⟨d,hd,e⟩=>of_decide_eq_true e▸hd,fun h=>⟨c,h,decide_eq_true rfl⟩⟩
def insG (ks:List ByteArray) (c:ByteArray):List ByteArray:=if memG c ks=true then ks else ks++[c]
mutual
def addG (ks:List ByteArray):Fo→List ByteArray
 | .mk op s _ m=>addGs (if op=1 then insG ks s else ks) m
def addGs (ks:List ByteArray):List Fo→List ByteArray
 | []=>ks
 | x::l=>addGs (addG ks x) l
end
theorem addGs_nil (ks:List ByteArray):addGs ks []=ks:=by unfold addGs;rfl
theorem addGs_cons (ks:List ByteArray) (x:Fo) (l:List Fo):addGs ks (x::l)=addGs (addG ks x) l:=by rw [addGs.eq_def]
theorem mpG_below (n:Nat) (ks:List ByteArray):(mpG ks).below n:=by
 simp only [mpG,Blk.below]
 refine ⟨?_,?_⟩
 ·induction ks with
  | nil=>trivial
  | cons c l ih=>exact ⟨trivial,ih⟩
 ·induction ks with
  | nil=>trivial
  | cons c l ih=>exact ⟨trivial,ih⟩
theorem ba_eq {a b:ByteArray} (h:a.toList=b.toList):a=b:=by
 rw [ByteArray.toList_eq,ByteArray.toList_eq] at h
 cases a
 cases b
 congr 1
 exact Array.toList_inj.1 h
theorem ba_beq (a b:ByteArray):(a.toList==b.toList)=decide (a=b):=by
 apply Bool.eq_iff_iff.2
 rw [beq_iff_eq,decide_eq_true_eq]
 exact ⟨ba_eq,fun h=>by rw [h]⟩
theorem mfindG (c:ByteArray):∀ ks:List ByteArray,(c∈ks→∃ j,j<ks.length∧ks[j]? = some c∧mfind (eqV Tryz.kn Tryz.T 20 9) (.str c) (ks.map fun c=>.str c)=some (some j))∧(c ∉ ks→mfind (eqV Tryz.kn Tryz.T 20 9) (.str c) (ks.map fun c=>.str c)=some none)
 | []=>⟨fun h=>by simp at h,fun _=>rfl⟩
 | d::ks=>by
   have he:eqV Tryz.kn Tryz.T 20 9 (.str c) (.str d)=some (decide (c=d)):=by
    show some (c.toList==d.toList)=_
    rw [ba_beq]
   obtain ⟨h1,h2⟩:=mfindG c ks
   simp only [List.map_cons,mfind,he]
   by_cases hcd:c=d
   ·subst hcd
    simp only [decide_true]
    exact ⟨fun _=>⟨0,by simp,rfl,rfl⟩,fun h=>absurd (List.mem_cons_self) h⟩
   ·have hb:decide (c=d)=false:=by simpa using hcd
    simp only [hb]
    refine ⟨fun h=>?_,fun h=>?_⟩
    ·obtain ⟨j,e1,e2,e3⟩:=h1 ((List.mem_cons.1 h).resolve_left hcd)
     exact ⟨j+1,by simpa using e1,by simpa using e2,by rw [e3]⟩
    ·rw [h2 fun q=>h (List.mem_cons_of_mem _ q)]
theorem putG (c:ByteArray) (ks:List ByteArray):MPut (eqV Tryz.kn Tryz.T 20 9) (ks.map fun c=>.str c) (ks.map fun _=>.bool true) (.str c) (.bool true) ((insG ks c).map fun c=>.str c) ((insG ks c).map fun _=>.bool true):=by
 obtain ⟨h1,h2⟩:=mfindG c ks
 unfold insG
 by_cases h:c∈ks
 ·rw [if_pos ((memG_iff c ks).2 h)]
  obtain ⟨j,e1,e2,e3⟩:=h1 h
  have:=MPut.old (vs:=ks.map fun _=>AV.bool true) (v:=.bool true) j e3 (by rw [List.getElem?_map,e2];rfl)
  have hs:(ks.map fun _=>AV.bool true).set j (.bool true)=ks.map fun _=>.bool true:=by
   apply List.ext_getElem?
   intro i
   rw [List.getElem?_set]
   split
   ·rename_i hi
    subst hi
    simp [e1]
   ·rfl
  rwa [hs] at this
 ·rw [if_neg fun e=>h ((memG_iff c ks).1 e)]
  have:=MPut.new (vs:=ks.map fun _=>AV.bool true) (v:=.bool true) (h2 h)
  simpa using this
def AddP (x:Fo):Prop:=∀ (H:Heap) (i:Nat) (ks:List ByteArray),H[i]? = some (mpG ks)→VCall Tryz.prog 192 [.agg x.cells,.mp i] H (setR H i (mpG (addG ks x)) (.tup []))
theorem add_step (op:Nat) (s:ByteArray) (l:List Tm) (m:List Fo) (hml:m.length≤9223372036854775807) (hm:∀ x∈m,AddP x):AddP (.mk op s l m):=by
 intro H i ks hi
 rw [Fo.cells_mk]
 unfold addG
 by_cases h1:op=1
 ·subst h1
  rw [if_pos rfl]
  have hi0:=hi
  unfold mpG at hi
  refine za8 Tryz.E0 Tryz.mx Tryz.func192 (by kernel_rfl) rfl (Nat.le_of_ble_eq_true rfl) rfl fun hcl hbl=>?_
  (repeat' ((conv=>whnf);(first|refine IfN.tt rfl ?_|refine PtrN.base _ (by (repeat' (first|assumption|exact zau _ rfl|exact zar rfl|refine zaw (B':=?_) ?_|refine zan ?_|fail))) ?_|refine DrawN.mk' [] ?_|fail)));all_goals (conv=>whnf)
  refine RelN.mk _ _ ⟨⟨_,rfl⟩,putG s ks⟩ ?_
  (repeat' ((conv=>whnf);(first|refine SetN.mk _ rfl ?_|refine DrawN.mk' [] ?_|fail)));all_goals (conv=>whnf)
  refine loop_B Tryz.E0 Tryz.mx (σ:=Nat×List ByteArray) (fun p=>p.1≤m.length∧addGs (insG ks s) m=addGs p.2 (m.drop p.1)) (fun p=>m.length-p.1) (fun p=>[(15,.v (.int .i64 p.1))]) (fun p=>H.set i (mpG p.2)) (fun _=>_) _ (0,(insG ks s)) (fun p _=>by simp) (fun p _=>closed_set hcl i _ (mpG_below _ _)) [1,13,14] rfl ⟨Nat.zero_le _,rfl⟩ ⟨⟨_,rfl,Wk.refl _⟩,trivial⟩ rfl rfl (fun _ _=>rfl) ?_
  rintro ⟨k,N⟩ ⟨hk,hj⟩
  simp only at hk hj
  have hNl:(H.set i (mpG N)).length=H.length:=by simp
  by_cases hlt:k<m.length
  ·have hmem:=zas m k (Fo.mk 0 .empty [] []) hlt
   rw [za7 m k (Fo.mk 0 .empty [] []) hlt,addGs_cons] at hj
   have hx:=fun X=>hm _ hmem (H.set i (mpG N)++X) i N (zan (zaw hi0))
   obtain ⟨o2,s2,l2,m2,hxe⟩:∃ o2 s2 l2 m2,m.getD k (Fo.mk 0 .empty [] [])=Fo.mk o2 s2 l2 m2:=by
    cases m.getD k (Fo.mk 0 .empty [] []) with
    | mk o2 s2 l2 m2=>exact ⟨o2,s2,l2,m2,rfl⟩
   have hce:(m.getD k (Fo.mk 0 .empty [] [])).cells=[.int .u8 o2,.str s2,.sl none l2.length (l2.flatMap Tm.cells),.sl none m2.length (m2.flatMap Fo.cells)]:=by rw [hxe,Fo.cells_mk]
   rw [hce] at hx
   generalize hr2:addG N (m.getD k (Fo.mk 0 .empty [] []))=N' at *
   generalize hB2:mpG N'=B2 at *
   (repeat' ((conv=>whnf);(first|refine IfN.dT (by omega) ?_|(refine EqN.addN _ _ Cst.h Cst.h ?_ ?_;· omega)|(refine SideN.mk ?_ ?_;· first|kernel_rfl|omega|exact List.cons_ne_nil _ _|(simp;done)|(simp;omega)|exact trivial|assumption|fail)|refine SegN.nthE (Fo.mk 0 .empty [] []) k rfl hlt fo_size hce ?_|refine CallN.setB i _ _ _ _ (zaw hi0) (by simp) rfl (hx _) (List.set_set ..) ?_|refine DrawN.mk' [] ?_|fail)));all_goals (conv=>whnf)
   subst hB2
   (refine ⟨⟨(k+1,N'),⟨by simp only;omega,hj⟩,by omega,?_,.inl ⟨rfl,rfl⟩,rfl,_,rfl,?_⟩⟩;rotate_left 1;(first|exact .inl rfl|exact .inr ⟨by simp [zal,below,zaa,tr,zai,zaj],by simp [zap,Blk.below,zaa,below,zai,zaj]⟩|fail);(repeat' (first|exact trivial|refine ⟨⟨_,rfl,?_⟩,?_⟩|fail));all_goals try (first|exact Wk.refl _|exact Wk.of_eq (congrArg (AV.int _) (by omega))|fail))
  ·have hke:k=m.length:=by omega
   subst hke
   rw [List.drop_length,addGs_nil] at hj
   rw [hj]
   (repeat' ((conv=>whnf);(first|refine IfN.dF (by omega) ?_|refine DrawN.mk' [] ?_|fail)));all_goals (conv=>whnf)
   exact EndN.setB (mpG_below _ _) trivial (Wk.refl _)
 ·rw [if_neg h1]
  have hi0:=hi
  refine za8 Tryz.E0 Tryz.mx Tryz.func192 (by kernel_rfl) rfl (Nat.le_of_ble_eq_true rfl) rfl fun hcl hbl=>?_
  (repeat' ((conv=>whnf);(first|refine IfN.dF (by omega) ?_|refine DrawN.mk' [] ?_|fail)));all_goals (conv=>whnf)
  refine loop_B Tryz.E0 Tryz.mx (σ:=Nat×List ByteArray) (fun p=>p.1≤m.length∧addGs ks m=addGs p.2 (m.drop p.1)) (fun p=>m.length-p.1) (fun p=>[(15,.v (.int .i64 p.1))]) (fun p=>H.set i (mpG p.2)) (fun _=>_) _ (0,ks) (fun p _=>by simp) (fun p _=>closed_set hcl i _ (mpG_below _ _)) [1,13,14] rfl ⟨Nat.zero_le _,rfl⟩ ⟨⟨_,rfl,Wk.refl _⟩,trivial⟩ (set_self hi0).symm rfl (fun _ _=>rfl) ?_
  rintro ⟨k,N⟩ ⟨hk,hj⟩
  simp only at hk hj
  have hNl:(H.set i (mpG N)).length=H.length:=by simp
  by_cases hlt:k<m.length
  ·have hmem:=zas m k (Fo.mk 0 .empty [] []) hlt
   rw [za7 m k (Fo.mk 0 .empty [] []) hlt,addGs_cons] at hj
   have hx:=fun X=>hm _ hmem (H.set i (mpG N)++X) i N (zan (zaw hi0))
   obtain ⟨o2,s2,l2,m2,hxe⟩:∃ o2 s2 l2 m2,m.getD k (Fo.mk 0 .empty [] [])=Fo.mk o2 s2 l2 m2:=by
    cases m.getD k (Fo.mk 0 .empty [] []) with
    | mk o2 s2 l2 m2=>exact ⟨o2,s2,l2,m2,rfl⟩
   have hce:(m.getD k (Fo.mk 0 .empty [] [])).cells=[.int .u8 o2,.str s2,.sl none l2.length (l2.flatMap Tm.cells),.sl none m2.length (m2.flatMap Fo.cells)]:=by rw [hxe,Fo.cells_mk]
   rw [hce] at hx
   generalize hr2:addG N (m.getD k (Fo.mk 0 .empty [] []))=N' at *
   generalize hB2:mpG N'=B2 at *
   (repeat' ((conv=>whnf);(first|refine IfN.dT (by omega) ?_|(refine EqN.addN _ _ Cst.h Cst.h ?_ ?_;· omega)|(refine SideN.mk ?_ ?_;· first|kernel_rfl|omega|exact List.cons_ne_nil _ _|(simp;done)|(simp;omega)|exact trivial|assumption|fail)|refine SegN.nthE (Fo.mk 0 .empty [] []) k rfl hlt fo_size hce ?_|refine CallN.setB i _ _ _ _ (zaw hi0) (by simp) rfl (hx _) (List.set_set ..) ?_|refine DrawN.mk' [] ?_|fail)));all_goals (conv=>whnf)
   subst hB2
   (refine ⟨⟨(k+1,N'),⟨by simp only;omega,hj⟩,by omega,?_,.inl ⟨rfl,rfl⟩,rfl,_,rfl,?_⟩⟩;rotate_left 1;(first|exact .inl rfl|exact .inr ⟨by simp [zal,below,zaa,tr,zai,zaj],by simp [zap,Blk.below,zaa,below,zai,zaj]⟩|fail);(repeat' (first|exact trivial|refine ⟨⟨_,rfl,?_⟩,?_⟩|fail));all_goals try (first|exact Wk.refl _|exact Wk.of_eq (congrArg (AV.int _) (by omega))|fail))
  ·have hke:k=m.length:=by omega
   subst hke
   rw [List.drop_length,addGs_nil] at hj
   rw [hj]
   (repeat' ((conv=>whnf);(first|refine IfN.dF (by omega) ?_|refine DrawN.mk' [] ?_|fail)));all_goals (conv=>whnf)
   exact EndN.setB (mpG_below _ _) trivial (Wk.refl _)
mutual
theorem add_g:∀ x:Fo,x.good→AddP x
 | .mk op s l m,h=>add_step op s l m (zbd h.2.2.2.2.1) (adds_g m h.2.2.2.2.2)
theorem adds_g:∀ l:List Fo,Fo.goodL l→∀ x∈l,AddP x
 | [],_,x,h=>by cases h
 | y::l,hg,x,h=>by
   have h1:=add_g y hg.1
   have h2:=adds_g l hg.2
   rcases List.mem_cons.1 h with e|h
   ·exact e▸h1
   ·exact h2 x h
end
end
section
open Go.Maps Go.Sort Go.Shelf Go.RowKit
open Go.WideElems (Fit rg)
open Go.WideShapes (sorted_perm)
def encSG (s:ByteArray):List AV:=[.str s]
theorem zbe (n:Nat) (l:List ByteArray):zaa n (l.flatMap encSG):=belowL_flat _ fun x=>by simp [encSG,zaa,below]
theorem sorts35g (m:Nat):AnyZ.SortsIn Tryz.prog Tryz.sorted193_ren Fence.wide m :=
 ⟨fun blk off cap ss W hH hblk hsz=>callsIn_wide.2 (AnyM.slices_Sort_string Tryz.sort233 blk off cap ss W hH hblk hsz),
  fun p cap W=>callsIn_wide.2 (AnyM.slices_Sort_string_none Tryz.sort233 p cap W)⟩
def sortG (ks:List ByteArray):List ByteArray:=ks.mergeSort (fun a b=>decide (a.data.toList≤b.data.toList))
theorem ext_belowG {g:G} {w w':World} (h:Below w.heap.size w w'):Ext g w g w' :=
 ⟨Nat.le_refl _,fun _ _ h=>h,fun _ h=>h,fun _ _=>rfl,fun _ _=>.inl rfl,fun _ _ _ h=>h,h.os,h.tape,h.output,Nat.le_refl _,h.size,fun b hb _=>h.block b hb,fun b cs t fz hb=>⟨cs,by rw [h.block b (za5 hb)];exact hb,rfl,fun _ _=>rfl⟩⟩
theorem keys_ofG {g:G} {w:World}:∀ {ks:List ByteArray} {l:List Value},LRel g w (ks.map fun c=>.str c) l→l=ks.map fun c=>.string c
 | [],_,h=>by simpa [LRel] using h
 | c::ks,_,h=>by
   simp only [List.map_cons,LRel] at h
   obtain ⟨v,r,rfl,h1,h2⟩:=h
   simp only [VRel] at h1
   subst h1
   rw [keys_ofG h2]
   rfl
def keyBG:Value→List UInt8
 | .string s=>s.data.toList
 | _=>[]
def anyRG (_:Value):Option (DataW Unit×List MemPlace):=some (.nil,[])
theorem own_ofG {g:G} {w:World} {b:Nat} {es:Array MapEntry} {clk:Nat} {ks:List ByteArray} (hb:w.heap[b]? = some (.map es clk)) (hclk:clk=es.size) (hbn:∀ (j:Nat) e,es[j]? = some e→e.born=j)
  (hk:LRel g w (ks.map fun c=>.str c) (es.toList.map (·.key))) (hn:ks.Nodup) (hl:ks.length≤100000) (hsz:∀ c∈ks,c.size≤maxLen):∃ D0:DataW Unit,w.ownsMap Tryz.prog 9 anyRG b ks.length D0∧(strKeys D0).Perm (ks.map fun c=>c.data.toList)∧Maps.size D0=ks.length:=by
 have hk:=keys_ofG hk
 have hlen:es.size=ks.length:=by
  have:=congrArg List.length hk
  simpa using this
 have hu:Tryz.prog.underlying 9=some .string:=Tryz.underlying9
 have hkey:∀ x∈es.toList,∃ c∈ks,x.key=.string c:=fun x hx=>by
  have:x.key∈es.toList.map (·.key):=List.mem_map.2 ⟨x,hx,rfl⟩
  rw [hk] at this
  obtain ⟨c,hc,e⟩:=List.mem_map.1 this
  exact ⟨c,hc,e.symm⟩
 have hrd:∀ x∈es.toList,∀ c,x.key=.string c→Go.WideElems.rd Tryz.prog 9 anyRG x=some (.string (c.data.toList),.nil):=fun x hx c hc=>by
  unfold Go.WideElems.rd keyOf
  rw [hu,hc]
  simp only [mapKey,hu]
  rw [if_pos (by obtain ⟨c',h1,h2⟩:=hkey x hx;rw [hc] at h2;cases h2;exact hsz c h1)]
  rfl
 refine ⟨_,⟨es,clk,hb,⟨by rw [hlen];simp only [maxLen];omega,⟨fun x hx=>?_,?_,?_⟩,fun x hx=>?_⟩,by omega,rfl⟩,?_,?_⟩
 ·obtain ⟨j,hj⟩:=List.getElem?_of_mem hx
  rw [Array.getElem?_toList] at hj
  have h1:=hbn j x hj
  have:=(Array.getElem?_eq_some_iff.1 hj).1
  omega
 ·have:es.toList.map (·.born)=List.range es.size:=by
   apply List.ext_getElem?
   intro j
   rw [List.getElem?_map,Array.getElem?_toList]
   by_cases hj:j<es.size
   ·rw [Array.getElem?_eq_getElem hj,List.getElem?_range hj]
    simp [hbn j _ (Array.getElem?_eq_getElem hj)]
   ·rw [Array.getElem?_eq_none (by omega),List.getElem?_eq_none (by simpa using hj)]
    rfl
  rw [this]
  exact List.nodup_range
 ·rw [hk]
  exact List.pairwise_map.2 (hn.imp fun {a b} hab e=>hab (by simpa using e))
 ·obtain ⟨c,-,hc⟩:=hkey x hx
  exact ⟨_,hrd x hx c hc⟩
 ·have h1:(es.toList.map (rg Tryz.prog 9 anyRG)).map (fun p=>strOf p.1)=ks.map fun c=>c.data.toList:=by
   refine (List.map_map ..).trans ((List.map_congr_left (g:=fun x=>keyBG x.key) fun x hx=>?_).trans ?_)
   ·obtain ⟨c,-,hc⟩:=hkey x hx
    simp only [Function.comp]
    unfold rg
    rw [hrd x hx c hc,hc]
    rfl
   have h3:es.toList.map (fun x=>keyBG x.key)=(es.toList.map (·.key)).map keyBG:=by rw [List.map_map];rfl
   rw [h3,hk,List.map_map]
   rfl
  rw [← h1]
  exact (sorted_perm _).map _
 ·show (((es.toList.map (rg Tryz.prog 9 anyRG)).foldr DataW.insert []).length)=_
  rw [(sorted_perm _).length_eq]
  simp [hlen]
theorem sort_ofG {ks:List ByteArray} {ss:List (List UInt8)} (h:ss.Perm (ks.map fun c=>c.data.toList)):(ss.mergeSort fun x y=>decide (x≤y))=(sortG ks).map fun c=>c.data.toList:=by
 refine (mergeSort_of_perm h).trans ?_
 unfold sortG
 refine (List.map_mergeSort (f:=fun c:ByteArray=>c.data.toList) (r:=fun a b=>decide (a.data.toList≤b.data.toList)) (s:=leB) (l:=ks) fun a _ b _=>?_).symm
 rfl
theorem sortedG_c (H:Heap) (i p:Nat) (ks:List ByteArray) (hi:H[i]? = some (mpG ks)) (hp:H[p]? = some (.box 183 [.mp i])) (hn:ks.Nodup) (hl:ks.length≤100000) (hsz:∀ c∈ks,c.size≤maxLen) :
  VDet Tryz.prog 193 [.clo (.func 234) [] [.ptr p 0]] H (.sl none ks.length ((sortG ks).flatMap encSG)):=by
 refine ⟨⟨_,Tryz.func193,by kernel_rfl,rfl⟩,fun g w xs hH hL=>?_⟩
 obtain ⟨c,r,has,hc,hr⟩:=hL
 simp only [LRel] at hr
 subst hr
 simp only [VRel,fnG] at hc
 obtain ⟨-,f',c',rfl,hf,hc'⟩:=hc
 simp only [LRel,VRel] at hf hc'
 obtain ⟨q,r,hcl,⟨-,rfl⟩,rfl⟩:=hc'
 have hf:f'=#[]:=by simpa using congrArg List.toArray hf
 have hcl:c'=#[.pointer (some ⟨g.blk p,0,none⟩)]:=by simpa using congrArg List.toArray hcl
 have has:xs=#[.func (.func 234) f' c']:=by simpa using congrArg List.toArray has
 subst has hf hcl
 -- the map
 obtain ⟨es,clk,hb,⟨hclk,hbn⟩,hk,-,-⟩:=hH.rel i _ (by simpa [Hp.all,Hp.of] using hi)
 obtain ⟨D0,hown,hperm,hsize⟩:=own_ofG hb hclk hbn hk hn hl hsz
 -- its box
 obtain ⟨cs,hcs,hcr,-⟩:=hH.rel p _ (by simpa [Hp.all,Hp.of] using hp)
 simp only [LRel,VRel] at hcr
 obtain ⟨q,r,hcr,⟨-,rfl⟩,rfl⟩:=hcr
 have hcr:cs=#[.map (some (g.blk i))]:=by simpa using congrArg List.toArray hcr
 subst hcr
 have hseq:SeqGives Fence.wide 2 Tryz.prog 234 #[.pointer (some ⟨g.blk p,0,none⟩)] encStr (fun ss=>ss.Perm (strKeys D0)) (Maps.size D0) w :=
  AnyZ.keys_gives (ρ:=Tryz.keys194_ren) { Tryz.keys194 with } Fence.wide _ trivial rfl (by omega) (g.blk p) (g.blk i) ks.length D0 w (za5 hcs) (cell_iff.2 ⟨_,_,_,hcs,rfl⟩) hown
 have hcall:=AnyZ.sorted_in Tryz.sorted193 Fence.wide 5 trivial trivial trivial trivial rfl (by omega) (sorts35g _) (enters_of Tryz.func233 (by kernel_rfl) rfl) _ #[.pointer (some ⟨g.blk p,0,none⟩)] trivial (enters_of Tryz.func234 (by kernel_rfl) rfl) _ _ (by rw [hsize];unfold maxLen;omega) (by rw [hsize];omega) w hseq
 change CallsIn _ _ Tryz.prog 193 _ _ _ at hcall
 refine (callsIn_wide.1 hcall).mono ?_
 rintro e w' ⟨v,ss,rfl,hS,hrow,hnil,hbel⟩
 have hsort:=sort_ofG (hS.trans hperm)
 have hlen:ss.length=ks.length:=by rw [(hS.trans hperm).length_eq];simp
 rw [hsort] at hrow
 have hx:Ext g w g w':=ext_belowG hbel
 refine ⟨_,_,g,v,rfl,⟨rfl,rfl⟩,hH.keepAll hx fun b hb=>hbel.block b hb,?_,hx⟩
 have henc:((sortG ks).map fun c=>c.data.toList).map encStr=(sortG ks).map fun c=>.string c:=by
  rw [List.map_map];rfl
 rw [henc,hlen] at hrow
 simp only [VRel]
 rcases hrow.2 with ⟨rfl,h0⟩|⟨gb,cap,cur,rfl,hbase,hgb,h1,h2,h3,h4⟩
 ·have:sortG ks=[]:=by
   apply List.eq_nil_of_length_eq_zero
   have:=hrow.1
   simp at this
   omega
  rw [this,h0]
  exact ⟨none,0,rfl,Nat.le_refl _,.inl rfl,fun t e=>by cases e⟩
 ·refine ⟨_,cap,rfl,h1,.inr ⟨gb,0,rfl,MRel.mk fun j u hj=>?_⟩,fun t e=>by cases e⟩
  have hfm:(sortG ks).flatMap encSG=(sortG ks).map fun c=>.str c:=by
   exact List.map_eq_flatMap.symm
  rw [hfm,List.getElem?_map] at hj
  obtain ⟨c,hc,rfl⟩:=Option.map_eq_some_iff.1 hj
  refine ⟨.string c,cell_iff.2 ⟨cur,_,_,hgb,?_⟩,by simp [VRel],fun ho=>?_⟩
  ·have h5:=congrArg (fun l=>l[j]?) h4
   simp only [List.getElem?_map,hc,Option.map_some] at h5
   rw [List.getElem?_take] at h5
   split at h5
   ·simpa using h5
   ·cases h5
  ·have:=hH.lt _ _ ho
   omega
end
section
attribute [local irreducible] VW VCall VO bits
theorem mpG_belowK (n:Nat):∀ ks:List ByteArray,zaa n (ks.map fun c=>.str c)
 | []=>trivial
 | _::l=>⟨trivial,mpG_belowK n l⟩
theorem mpG_belowV (n:Nat):∀ ks:List ByteArray,zaa n (ks.map fun _=>.bool true)
 | []=>trivial
 | _::l=>⟨trivial,mpG_belowV n l⟩
def namesG (l:List Fo):List ByteArray:=sortG (addGs [] l)
theorem insG_nodup {ks:List ByteArray} (h:ks.Nodup) (c:ByteArray):(insG ks c).Nodup:=by
 unfold insG
 split
 ·exact h
 ·rename_i hc
  refine List.nodup_append.2 ⟨h,by simp,fun a ha b hb e=>?_⟩
  simp only [List.mem_singleton] at hb
  exact hc ((memG_iff c ks).2 (hb▸e▸ha))
mutual
theorem addG_nodup:∀ (f:Fo) {ks:List ByteArray},ks.Nodup→(addG ks f).Nodup
 | .mk op s l m,ks,h=>by
   unfold addG
   refine addGs_nodup m ?_
   split
   ·exact insG_nodup h s
   ·exact h
theorem addGs_nodup:∀ (l:List Fo) {ks:List ByteArray},ks.Nodup→(addGs ks l).Nodup
 | [],ks,h=>by rw [addGs_nil];exact h
 | f::l,ks,h=>by rw [addGs_cons];exact addGs_nodup l (addG_nodup f h)
end
theorem insG_size {ks:List ByteArray} (h:∀ c∈ks,c.size≤maxLen) {c:ByteArray} (hc:c.size≤maxLen):∀ d∈insG ks c,d.size≤maxLen:=by
 intro d hd
 unfold insG at hd
 split at hd
 ·exact h d hd
 ·rcases List.mem_append.1 hd with hd|hd
  ·exact h d hd
  ·simp only [List.mem_singleton] at hd
   exact hd▸hc
mutual
theorem addG_size:∀ (f:Fo) {ks:List ByteArray},f.good→(∀ c∈ks,c.size≤maxLen)→∀ c∈addG ks f,c.size≤maxLen
 | .mk op s l m,ks,hg,h=>by
   unfold addG
   refine addGs_size m hg.2.2.2.2.2 ?_
   split
   ·exact insG_size h hg.2.1
   ·exact h
theorem addGs_size:∀ (l:List Fo) {ks:List ByteArray},Fo.goodL l→(∀ c∈ks,c.size≤maxLen)→∀ c∈addGs ks l,c.size≤maxLen
 | [],ks,_,h=>by rw [addGs_nil];exact h
 | f::l,ks,hg,h=>by rw [addGs_cons];exact addGs_size l hg.2 (addG_size f hg.1 h)
end
theorem addGs_take (l:List Fo) (d:Fo):∀ (ks:List ByteArray) (j:Nat),j<l.length→addG (addGs ks (l.take j)) (l.getD j d)=addGs ks (l.take (j+1)):=by
 induction l with
 | nil=>intro ks j hj;simp at hj
 | cons f l ih =>
   intro ks j hj
   cases j with
   | zero=>simp [addGs_cons,addGs_nil]
   | succ j =>
     simp only [List.length_cons] at hj
     simp only [List.take_succ_cons,addGs_cons,List.getD_cons_succ]
     exact ih _ _ (by omega)
theorem keysG_c (H:Heap) (i:Nat):VCall Tryz.prog 194 [.mp i] H (fun r H'=>r=.clo (.func 234) [] [.ptr (H.length+0) 0]∧H'=H++[.box 183 [.mp i]]):=by
 refine za8 Tryz.E0 Tryz.mx Tryz.func194 (by kernel_rfl) rfl (Nat.le_of_ble_eq_true rfl) rfl fun hcl hbl=>?_
 (repeat' ((conv=>whnf);(first|refine DrawN.mk' [] ?_|fail)));all_goals (conv=>whnf)
 exact EndN.keep _ (Wk.refl _) ⟨rfl,rfl⟩
theorem atoms_g (l:List Fo) (hg:Fo.goodL l) (hlen:l.length≤9223372036854775807) (hn:(addGs [] l).length≤100000) (H:Heap):VDet Tryz.prog 136 [.sl none l.length (l.flatMap Fo.cells)] H (.sl none (namesG l).length ((namesG l).flatMap encSG)):=by
 refine zak Tryz.E0 Tryz.mx Tryz.func136 (by kernel_rfl) rfl (Nat.le_of_ble_eq_true rfl) rfl fun hcl hbl=>?_
 (repeat' ((conv=>whnf);(first|refine DrawN.mk' [] ?_|fail)));all_goals (conv=>whnf)
 refine za3 Tryz.E0 Tryz.mx (σ:=Nat) (fun j=>j≤l.length) (fun j=>l.length-j) (fun j=>[(9,.v (.int .i64 j))]) (fun j=>[mpG (addGs [] (l.take j))]) _ 0 rfl hcl [3,7,8] rfl (Nat.zero_le _) ⟨⟨_,rfl,Wk.refl _⟩,trivial⟩ (by rw [List.take_zero,addGs_nil];rfl) (fun _ _=>rfl) ?_
 intro j hj
 clear hbl
 by_cases hlt:j<l.length
 ·have hmem:=zas l j (Fo.mk 0 .empty [] []) hlt
  have h34:∀ (X:Heap),VCall Tryz.prog 192 [.agg (l.getD j (Fo.mk 0 .empty [] [])).cells,.mp (H.length+0)] (H++(mpG (addGs [] (l.take j))::X)) (setR (H++(mpG (addGs [] (l.take j))::X)) (H.length+0) (mpG (addGs [] (l.take (j+1)))) (.tup [])):=fun X=>by
   rw [← addGs_take l (Fo.mk 0 .empty [] []) [] j hlt]
   exact adds_g l hg _ hmem _ _ _ (by simp)
  obtain ⟨o2,s2,l2,m2,hxe⟩:∃ o2 s2 l2 m2,l.getD j (Fo.mk 0 .empty [] [])=Fo.mk o2 s2 l2 m2:=by
   cases l.getD j (Fo.mk 0 .empty [] []) with
   | mk o2 s2 l2 m2=>exact ⟨o2,s2,l2,m2,rfl⟩
  have hce:(l.getD j (Fo.mk 0 .empty [] [])).cells=[.int .u8 o2,.str s2,.sl none l2.length (l2.flatMap Tm.cells),.sl none m2.length (m2.flatMap Fo.cells)]:=by rw [hxe,Fo.cells_mk]
  rw [hce] at h34
  (repeat' ((conv=>whnf);(first|refine IfN.dT (by omega) ?_|(refine EqN.addN _ _ Cst.h Cst.h ?_ ?_;· omega)|(refine SideN.mk ?_ ?_;· first|kernel_rfl|omega|exact List.cons_ne_nil _ _|(simp;done)|(simp;omega)|exact trivial|assumption|fail)|refine SegN.nthE (Fo.mk 0 .empty [] []) j rfl hlt fo_size hce ?_|refine CallN.setL 0 _ _ _ rfl rfl (h34 _) rfl ?_|refine DrawN.mk' [] ?_|fail)));all_goals (conv=>whnf)
  unfold mpG
  (refine ⟨⟨j+1,by omega,by omega,?_,.inl ⟨rfl,rfl⟩,rfl,_,rfl,?_⟩⟩;rotate_left 1;(first|exact .inl rfl|exact .inr ⟨by simp [zal,below,zaa,tr,zai,zaj,zbe,mpG_belowK,mpG_belowV],by simp [zap,Blk.below,zaa,below,zai,zaj,zbe,mpG_belowK,mpG_belowV]⟩|fail);(repeat' (first|exact trivial|refine ⟨⟨_,rfl,?_⟩,?_⟩|fail));all_goals try (first|exact Wk.refl _|exact Wk.of_eq (congrArg (AV.int _) (by omega))|fail))
 ·obtain rfl:j=l.length:=by omega
  rw [List.take_length]
  have hs:(namesG l).length=(addGs [] l).length:=by unfold namesG sortG;exact List.length_mergeSort _
  have h35:=sortedG_c (H++[mpG (addGs [] l),.box 183 [.mp (H.length+0)]]) (H.length+0) ((H++[mpG (addGs [] l)]).length+0) (addGs [] l) (by simp) (by simp) (addGs_nodup l List.nodup_nil) hn (addGs_size l hg fun c h=>by simp at h)
  rw [← hs] at h35
  unfold namesG at hs ⊢
  (repeat' ((conv=>whnf);(first|refine IfN.dF (by omega) ?_|refine CallN.det _ (h35) ?_|refine CallN.grow _ _ _ 2 (keysG_c _ _) rfl rfl rfl ?_|refine DrawN.mk' [] ?_|fail)));all_goals (conv=>whnf)
  exact EndN.det ⟨fun _ e=>(nomatch e),zbe _ _⟩ (Wk.refl _)
end
section
attribute [local irreducible] VW VCall VO bits
def synR (f:Fo):Bool:=(jF 1 f 400).2
theorem synRight_g' (f:Fo) (hg:f.good) (H:Heap):VDet Tryz.prog 120 [.agg f.cells] H (.bool (synR f)):=by
 have h1:=form_g f hg (H++[.box 29 f.cells,jB 400]) (H.length+1) 400 1 (zar rfl) ⟨by omega,by omega⟩ (by omega)
 unfold synR
 generalize hr:jF 1 f 400=r at *
 obtain ⟨M,b⟩:=r
 simp only at h1 ⊢
 generalize hB:jB M=B at *
 unfold jB at h1
 obtain ⟨op,s,l,m⟩:=f
 rw [Fo.cells_mk] at h1 ⊢
 refine zak Tryz.E0 Tryz.mx Tryz.func120 (by kernel_rfl) rfl (Nat.le_of_ble_eq_true rfl) rfl fun hcl hbl=>?_
 (repeat' ((conv=>whnf);(first|refine CallN.setL 1 _ _ _ rfl rfl h1 rfl ?_|refine DrawN.mk' [] ?_|fail)));all_goals (conv=>whnf)
 exact EndN.det trivial (Wk.refl _)
mutual
def propF:Fo→Bool
 | .mk op _ l m=>decide (1≤op∧op≤7∧l.length=0)&&propFs m
def propFs:List Fo→Bool
 | []=>true
 | x::l=>propF x&&propFs l
end
theorem propFs_all:∀ l:List Fo,propFs l=l.all propF
 | []=>by unfold propFs;rfl
 | x::l=>by
   rw [propFs.eq_def]
   simp only
   rw [List.all_cons,propFs_all l]
def PropP (x:Fo):Prop:=∀ H,VDet Tryz.prog 191 [.agg x.cells] H (.bool (propF x))
theorem prop_step (op:Nat) (s:ByteArray) (l:List Tm) (m:List Fo) (hop:op≤255) (hll:l.length≤9223372036854775807) (hml:m.length≤9223372036854775807) (hm:∀ x∈m,PropP x):PropP (.mk op s l m):=by
 intro H
 rw [Fo.cells_mk]
 unfold propF
 rw [propFs_all]
 by_cases h:1≤op∧op≤7∧l.length=0
 ·rw [decide_eq_true h,Bool.true_and]
  obtain ⟨h1,h2,h3⟩:=h
  refine zak Tryz.E0 Tryz.mx Tryz.func191 (by kernel_rfl) rfl (Nat.le_of_ble_eq_true rfl) rfl fun hcl hbl=>?_
  (repeat' ((conv=>whnf);(first|refine IfN.dF (by omega) ?_|refine DrawN.mk' [] ?_|fail)));all_goals (conv=>whnf)
  refine za3 Tryz.E0 Tryz.mx (σ:=Nat) (fun j=>j≤m.length∧∀ i,i<j→propF (m.getD i (Fo.mk 0 .empty [] []))=true) (fun j=>m.length-j) (fun j=>[(22,.v (.int .i64 j))]) (fun _=>_) _ 0 rfl hcl [20,21] rfl ⟨Nat.zero_le _,fun i hi=>by omega⟩ ⟨⟨_,rfl,Wk.refl _⟩,trivial⟩ rfl (fun _ _=>rfl) ?_
  rintro j ⟨hj,hall⟩
  clear hbl
  by_cases hlt:j<m.length
  ·have hmem:=zas m j (Fo.mk 0 .empty [] []) hlt
   have hx:=hm _ hmem
   unfold PropP at hx
   obtain ⟨o2,s2,l2,m2,hxe⟩:∃ o2 s2 l2 m2,m.getD j (Fo.mk 0 .empty [] [])=Fo.mk o2 s2 l2 m2:=by
    cases m.getD j (Fo.mk 0 .empty [] []) with
    | mk o2 s2 l2 m2=>exact ⟨o2,s2,l2,m2,rfl⟩
   have hce:(m.getD j (Fo.mk 0 .empty [] [])).cells=[.int .u8 o2,.str s2,.sl none l2.length (l2.flatMap Tm.cells),.sl none m2.length (m2.flatMap Fo.cells)]:=by rw [hxe,Fo.cells_mk]
   rw [hce] at hx
   cases hb:propF (m.getD j (Fo.mk 0 .empty [] [])) with
   | true =>
     rw [hb] at hx
     (repeat' ((conv=>whnf);(first|(refine IfN.id ?_;first|refine IfN.not ?_|refine IfN.tt rfl ?_|refine IfN.dT (by omega) ?_|fail)|(refine EqN.addN _ _ Cst.h Cst.h ?_ ?_;· omega)|(refine SideN.mk ?_ ?_;· first|kernel_rfl|omega|exact List.cons_ne_nil _ _|(simp;done)|(simp;omega)|exact trivial|assumption|fail)|refine CallN.det _ (hx _) ?_|refine SegN.nthE (Fo.mk 0 .empty [] []) j rfl hlt fo_size hce ?_|refine DrawN.mk' [] ?_|fail)));all_goals (conv=>whnf)
     (refine ⟨⟨j+1,⟨by omega,fun i hi=>by
      by_cases e:i=j
      ·rw [e];exact hb
      ·exact hall i (by omega)⟩,by omega,?_,.inl ⟨rfl,rfl⟩,rfl,_,rfl,?_⟩⟩;rotate_left 1;(first|exact .inl rfl|exact .inr ⟨by simp [zal,below,zaa,tr,zai,zaj],by simp [zap,Blk.below,zaa,below,zai,zaj]⟩|fail);(repeat' (first|exact trivial|refine ⟨⟨_,rfl,?_⟩,?_⟩|fail));all_goals try (first|exact Wk.refl _|exact Wk.of_eq (congrArg (AV.int _) (by omega))|fail))
   | false =>
     rw [hb] at hx
     (repeat' ((conv=>whnf);(first|(refine IfN.id ?_;first|refine IfN.not ?_|refine IfN.ff rfl ?_|refine IfN.dT (by omega) ?_|fail)|(refine SideN.mk ?_ ?_;· first|kernel_rfl|omega|exact List.cons_ne_nil _ _|(simp;done)|(simp;omega)|exact trivial|assumption|fail)|refine CallN.det _ (hx _) ?_|refine SegN.nthE (Fo.mk 0 .empty [] []) j rfl hlt fo_size hce ?_|refine DrawN.mk' [] ?_|fail)));all_goals (conv=>whnf)
     have:m.all propF=false:=by
      apply Bool.eq_false_iff.2
      intro hA
      rw [List.all_eq_true.1 hA _ hmem] at hb
      cases hb
     rw [this]
     exact EndN.det trivial (Wk.refl _)
  ·have:m.all propF=true:=by
    rw [List.all_eq_true]
    intro x hx
    obtain ⟨i,hi,rfl⟩:=List.getElem_of_mem hx
    have:=hall i (by omega)
    rwa [show m.getD i (Fo.mk 0 .empty [] [])=m[i] by simp [List.getD_eq_getElem?_getD,hi]] at this
   rw [this]
   (repeat' ((conv=>whnf);(first|refine IfN.dF (by omega) ?_|refine DrawN.mk' [] ?_|fail)));all_goals (conv=>whnf)
   exact EndN.det trivial (Wk.refl _)
 ·rw [decide_eq_false h,Bool.false_and]
  generalize l.flatMap Tm.cells=lc at *
  generalize m.flatMap Fo.cells=mc at *
  generalize l.length=ln at *
  generalize m.length=mn at *
  refine zak Tryz.E0 Tryz.mx Tryz.func191 (by kernel_rfl) rfl (Nat.le_of_ble_eq_true rfl) rfl fun hcl hbl=>?_
  (repeat' ((conv=>whnf);(first|(refine IfN.id ?_;first|refine IfN.dT (by omega) ?_|refine IfN.dec (fun _=>?_) (fun _=>?_)|fail)|refine DrawN.mk' [] ?_|fail)));all_goals (conv=>whnf)
  all_goals exact EndN.det trivial (Wk.refl _)
mutual
theorem prop_g:∀ x:Fo,x.good→PropP x
 | .mk op s l m,h=>prop_step op s l m h.1 (zbd h.2.2.1) (zbd h.2.2.2.2.1) (props_g m h.2.2.2.2.2)
theorem props_g:∀ l:List Fo,Fo.goodL l→∀ x∈l,PropP x
 | [],_,x,h=>by cases h
 | y::l,hg,x,h=>by
   have h1:=prop_g y hg.1
   have h2:=props_g l hg.2
   rcases List.mem_cons.1 h with e|h
   ·exact e▸h1
   ·exact h2 x h
end
def rightF (f:Fo):Bool:=synR f&&propF f
theorem right_g' (f:Fo) (hg:f.good) (H:Heap):VDet Tryz.prog 135 [.agg f.cells] H (.bool (rightF f)):=by
 have h1:=synRight_g' f hg
 have h2:=prop_g f hg
 unfold PropP at h2
 unfold rightF
 generalize synR f=a at *
 generalize propF f=b at *
 obtain ⟨op,s,l,m⟩:=f
 rw [Fo.cells_mk] at h1 h2 ⊢
 cases a with
 | true =>
   refine zak Tryz.E0 Tryz.mx Tryz.func135 (by kernel_rfl) rfl (Nat.le_of_ble_eq_true rfl) rfl fun hcl hbl=>?_
   (repeat' ((conv=>whnf);(first|refine IfN.tt rfl ?_|(refine CallN.id ?_;first|refine CallN.det _ (h1 _) ?_|refine CallN.det _ (h2 _) ?_|fail)|refine DrawN.mk' [] ?_|fail)));all_goals (conv=>whnf)
   exact EndN.det trivial (Wk.refl _)
 | false =>
   refine zak Tryz.E0 Tryz.mx Tryz.func135 (by kernel_rfl) rfl (Nat.le_of_ble_eq_true rfl) rfl fun hcl hbl=>?_
   (repeat' ((conv=>whnf);(first|refine IfN.ff rfl ?_|refine CallN.det _ (h1 _) ?_|refine DrawN.mk' [] ?_|fail)));all_goals (conv=>whnf)
   exact EndN.det trivial (Wk.refl _)
end
inductive Fp where
 | at (c:ByteArray)
 | fa
 | f1 (a:Fp)
 | f2 (k:Nat) (a b:Fp)
def Fp.fo:Fp→Fo
 | .at c=>.mk 1 c [] []
 | .fa=>.mk 2 .empty [] []
 | .f1 a=>.mk 3 .empty [] [a.fo]
 | .f2 k a b=>.mk k .empty [] [a.fo,b.fo]
def Fp.Ok:Fp→Prop
 | .at c=>isPred c=true
 | .fa=>True
 | .f1 a=>a.Ok
 | .f2 k a b=>(k=4∨k=5∨k=6∨k=7)∧a.Ok∧b.Ok
theorem emptyB_eq {s:ByteArray} (h:emptyB s=true):s=.empty:=by
 unfold emptyB at h
 rw [beq_iff_eq] at h
 exact ba_eq h
theorem jFs_true {d:Nat}:∀ {l:List Fo} {L:Int},(jFs d l L).2=true→∀ x∈l,∃ M,(jF d x M).2=true
 | y::l,L,h,x,hx=>by
   rw [jFs_cons] at h
   split at h
   ·rename_i hb
    rcases List.mem_cons.1 hx with e|hx
    ·exact ⟨L,e▸hb⟩
    ·exact jFs_true h x hx
   ·cases h
theorem row_fact:∀ op,1≤op∧op≤7→rowS op=(if op≤2 then 0 else if op=3 then 1 else 2)∧rowN op=(if op=1 then 1 else 0):=by
 intro op h
 have:op=1∨op=2∨op=3∨op=4∨op=5∨op=6∨op=7:=by omega
 rcases this with rfl|rfl|rfl|rfl|rfl|rfl|rfl <;> decide
theorem fp_of:∀ (f:Fo) (d:Nat) (L:Int),(jF d f L).2=true→propF f=true→∃ p:Fp,p.Ok∧f=p.fo
 | .mk op s l m,d,L,h1,h2=>by
   unfold propF at h2
   rw [Bool.and_eq_true,decide_eq_true_eq,propFs_all,List.all_eq_true] at h2
   obtain ⟨⟨q1,q2,q3⟩,q4⟩:=h2
   unfold jF at h1
   split at h1
   ·cases h1
   ·split at h1
    ·cases h1
    ·split at h1
     ·cases h1
     ·rename_i h3
      have h3:=Classical.not_not.1 h3
      obtain ⟨r1,r2⟩:=row_fact op ⟨q1,q2⟩
      have hl:l=[]:=List.eq_nil_of_length_eq_zero q3
      split at h1
      ·have hsub:=jFs_true h1
       have hm:=h3.2.2
       rw [r1] at hm
       rw [r2] at h3
       have hs:op≠1→s=.empty:=fun e=>by
        have:=h3.1
        rw [if_neg e] at this
        exact emptyB_eq (by simpa [nameOk] using this)
       have hop:op=1∨op=2∨op=3∨4≤op:=by omega
       rcases hop with rfl|rfl|rfl|h4
       ·have hm0:m=[]:=List.eq_nil_of_length_eq_zero (by simpa using hm)
        subst hm0 hl
        exact ⟨.at s,by simpa [nameOk,Fp.Ok] using h3.1,rfl⟩
       ·have hm0:m=[]:=List.eq_nil_of_length_eq_zero (by simpa using hm)
        subst hm0 hl
        exact ⟨.fa,trivial,by rw [hs (by omega)];rfl⟩
       ·rw [if_neg (by omega),if_pos rfl] at hm
        match m,hm with
        | [a],_ =>
          obtain ⟨M,hM⟩:=hsub a (by simp)
          obtain ⟨p,hp1,hp2⟩:=fp_of a _ M hM (q4 a (by simp))
          subst hl
          exact ⟨.f1 p,hp1,by rw [hs (by omega),hp2];rfl⟩
       ·rw [if_neg (by omega),if_neg (by omega)] at hm
        match m,hm with
        | [a,b],_ =>
          obtain ⟨M,hM⟩:=hsub a (by simp)
          obtain ⟨N,hN⟩:=hsub b (by simp)
          obtain ⟨p,hp1,hp2⟩:=fp_of a _ M hM (q4 a (by simp))
          obtain ⟨q,hq1,hq2⟩:=fp_of b _ N hN (q4 b (by simp))
          subst hl
          exact ⟨.f2 op p q,⟨by omega,hp1,hq1⟩,by rw [hs (by omega),hp2,hq2];rfl⟩
      ·cases h1
theorem fp_right {f:Fo} (h:rightF f=true):∃ p:Fp,p.Ok∧f=p.fo:=by
 unfold rightF at h
 rw [Bool.and_eq_true] at h
 exact fp_of f 1 400 h.1 h.2
section
attribute [local irreducible] VW VCall VO bits
def eN:ByteArray:=.empty
def lessB (a b:ByteArray):Bool:=Op.bytesLess a.toList b.toList
def nmAt (l:List ByteArray) (i:Nat):Bool:=isPred (l.getD i eN)&&(decide (i=0) || lessB (l.getD (i-1) eN) (l.getD i eN))
def isNmG (l:List ByteArray):Bool:=(List.range l.length).all (nmAt l)
def ixG (n:Nat):List AV:=(List.range n).map fun j:Nat=>.int .i64 (j:Int)
theorem ixG_below (n m:Nat):zaa n (ixG m):=by
 unfold ixG
 induction List.range m with
 | nil=>trivial
 | cons x l ih=>exact ⟨trivial,ih⟩
theorem isNames_g (l:List ByteArray) (hlen:l.length≤9223372036854775807) (hsz:∀ c∈l,c.size≤maxLen) (H:Heap):VDet Tryz.prog 70 [.sl none l.length (l.flatMap encSG)] H (.bool (isNmG l)):=by
 refine zak Tryz.E0 Tryz.mx Tryz.func70 (by kernel_rfl) rfl (Nat.le_of_ble_eq_true rfl) rfl fun hcl hbl=>?_
 (repeat' ((conv=>whnf);(first|refine DrawN.mk' [] ?_|fail)));all_goals (conv=>whnf)
 refine za3 Tryz.E0 Tryz.mx (σ:=Nat) (fun k=>k≤l.length∧∀ i,i<k→nmAt l i=true) (fun k=>l.length-k) (fun k=>[(7,.v (.int .i64 k))]) (fun _=>[]) _ 0 rfl hcl [0,5,6] rfl ⟨Nat.zero_le _,fun i hi=>by omega⟩ ⟨⟨_,rfl,Wk.refl _⟩,trivial⟩ rfl (fun _ _=>rfl) ?_
 rintro k ⟨hk,hall⟩
 clear hbl
 by_cases hlt:k<l.length
 ·have hp:=predicate_g (l.getD k eN) (zbd (hsz _ (zas l k eN hlt)))
  have hfalse:nmAt l k=false→isNmG l=false:=fun h=>by
   apply Bool.eq_false_iff.2
   intro hA
   rw [List.all_eq_true.1 hA k (List.mem_range.2 hlt)] at h
   cases h
  have hdef:nmAt l k=(isPred (l.getD k eN)&&(decide (k=0) || lessB (l.getD (k-1) eN) (l.getD k eN))):=rfl
  have hlb:Op.bytesLess (l.getD (k-1) eN).toList (l.getD k eN).toList=lessB (l.getD (k-1) eN) (l.getD k eN):=rfl
  cases hpb:isPred (l.getD k eN) with
  | false =>
    rw [hpb] at hp hdef
    rw [hfalse (by rw [hdef];rfl)]
    (repeat' ((conv=>whnf);(first|(refine IfN.id ?_;first|refine IfN.not ?_|refine IfN.ff rfl ?_|refine IfN.dT (by omega) ?_|fail)|(refine SideN.mk ?_ ?_;· first|kernel_rfl|omega|exact List.cons_ne_nil _ _|(simp;done)|(simp;omega)|exact trivial|assumption|fail)|refine CallN.det _ (hp _) ?_|refine SegN.nth (f:=encSG) (l:=l) eN k rfl hlt (fun _=>rfl) ?_|refine DrawN.mk' [] ?_|fail)));all_goals (conv=>whnf)
    exact EndN.det trivial (Wk.refl _)
  | true =>
    rw [hpb] at hp hdef
    cases hlb2:lessB (l.getD (k-1) eN) (l.getD k eN) with
    | true =>
      rw [hlb2] at hlb hdef
      have hok:nmAt l k=true:=by rw [hdef];simp
      (repeat' ((conv=>whnf);(first|(refine IfN.id ?_;first|refine IfN.tt hlb ?_|refine IfN.not ?_|refine IfN.tt rfl ?_|refine IfN.dT (by omega) ?_|refine IfN.dec (fun _=>?_) (fun _=>?_)|fail)|(refine EqN.id ?_;first|(refine EqN.addN _ _ Cst.h Cst.h ?_ ?_;· omega)|(refine EqN.subN _ _ Cst.h Cst.h ?_ ?_;· omega)|fail)|(refine SideN.mk ?_ ?_;· first|kernel_rfl|omega|exact List.cons_ne_nil _ _|(simp;done)|(simp;omega)|exact trivial|assumption|fail)|refine CallN.det _ (hp _) ?_|refine SegN.nth (f:=encSG) (l:=l) eN k rfl hlt (fun _=>rfl) ?_|refine SegN.nth (f:=encSG) (l:=l) eN (k-1) (by omega) (by omega) (fun _=>rfl) ?_|refine DrawN.mk' [] ?_|fail)));all_goals (conv=>whnf)
      all_goals (refine ⟨⟨k+1,⟨by omega,fun i hi=>by
       by_cases e:i=k
       ·rw [e];exact hok
       ·exact hall i (by omega)⟩,by omega,?_,.inl ⟨rfl,rfl⟩,rfl,_,rfl,?_⟩⟩;rotate_left 1;(first|exact .inl rfl|exact .inr ⟨by simp [zal,below,zaa,tr,zai,zaj,zbe,mpG_belowK,mpG_belowV,ixG_below],by simp [zap,Blk.below,zaa,below,zai,zaj,zbe,mpG_belowK,mpG_belowV,ixG_below]⟩|fail);(repeat' (first|exact trivial|refine ⟨⟨_,rfl,?_⟩,?_⟩|fail));all_goals try (first|exact Wk.refl _|exact Wk.of_eq (congrArg (AV.int _) (by omega))|fail))
    | false =>
      rw [hlb2] at hlb hdef
      by_cases h0:k=0
      ·have hok:nmAt l k=true:=by rw [hdef];simp [h0]
       (repeat' ((conv=>whnf);(first|(refine IfN.id ?_;first|refine IfN.not ?_|refine IfN.tt rfl ?_|refine IfN.dT (by omega) ?_|refine IfN.dF (by omega) ?_|fail)|(refine EqN.addN _ _ Cst.h Cst.h ?_ ?_;· omega)|(refine SideN.mk ?_ ?_;· first|kernel_rfl|omega|exact List.cons_ne_nil _ _|(simp;done)|(simp;omega)|exact trivial|assumption|fail)|refine CallN.det _ (hp _) ?_|refine SegN.nth (f:=encSG) (l:=l) eN k rfl hlt (fun _=>rfl) ?_|refine DrawN.mk' [] ?_|fail)));all_goals (conv=>whnf)
       all_goals (refine ⟨⟨k+1,⟨by omega,fun i hi=>by
        by_cases e:i=k
        ·rw [e];exact hok
        ·exact hall i (by omega)⟩,by omega,?_,.inl ⟨rfl,rfl⟩,rfl,_,rfl,?_⟩⟩;rotate_left 1;(first|exact .inl rfl|exact .inr ⟨by simp [zal,below,zaa,tr,zai,zaj,zbe,mpG_belowK,mpG_belowV,ixG_below],by simp [zap,Blk.below,zaa,below,zai,zaj,zbe,mpG_belowK,mpG_belowV,ixG_below]⟩|fail);(repeat' (first|exact trivial|refine ⟨⟨_,rfl,?_⟩,?_⟩|fail));all_goals try (first|exact Wk.refl _|exact Wk.of_eq (congrArg (AV.int _) (by omega))|fail))
      ·rw [hfalse (by rw [hdef];simp [h0])]
       (repeat' ((conv=>whnf);(first|(refine IfN.id ?_;first|refine IfN.ff hlb ?_|refine IfN.not ?_|refine IfN.tt rfl ?_|refine IfN.dT (by omega) ?_|fail)|(refine EqN.subN _ _ Cst.h Cst.h ?_ ?_;· omega)|(refine SideN.mk ?_ ?_;· first|kernel_rfl|omega|exact List.cons_ne_nil _ _|(simp;done)|(simp;omega)|exact trivial|assumption|fail)|refine CallN.det _ (hp _) ?_|refine SegN.nth (f:=encSG) (l:=l) eN k rfl hlt (fun _=>rfl) ?_|refine SegN.nth (f:=encSG) (l:=l) eN (k-1) (by omega) (by omega) (fun _=>rfl) ?_|refine DrawN.mk' [] ?_|fail)));all_goals (conv=>whnf)
       all_goals exact EndN.det trivial (Wk.refl _)
 ·have:isNmG l=true:=List.all_eq_true.2 fun i hi=>hall i (by have:=List.mem_range.1 hi;omega)
  rw [this]
  (repeat' ((conv=>whnf);(first|refine IfN.dF (by omega) ?_|refine DrawN.mk' [] ?_|fail)));all_goals (conv=>whnf)
  exact EndN.det trivial (Wk.refl _)
theorem index_g (l:List ByteArray) (c:ByteArray) (hlen:l.length≤9223372036854775807) (H:Heap):VPure Tryz.prog 195 [.sl none l.length (l.flatMap encSG),.str c] H (fun r=>∃ i:Int,r=.int .i64 i∧(0≤i↔c∈l)):=by
 refine fn_pure Tryz.E0 Tryz.mx Tryz.func195 (by kernel_rfl) rfl (Nat.le_of_ble_eq_true rfl) rfl fun hcl hbl=>?_
 (repeat' ((conv=>whnf);(first|refine DrawN.mk' [] ?_|fail)));all_goals (conv=>whnf)
 refine za3 Tryz.E0 Tryz.mx (σ:=Nat) (fun j=>j≤l.length∧∀ i,i<j→l.getD i eN≠c) (fun j=>l.length-j) (fun j=>[(8,.v (.int .i64 j))]) (fun j=>[]) _ 0 rfl hcl [0,1,7] rfl ⟨Nat.zero_le _,fun i hi=>absurd hi (by omega)⟩ ⟨⟨_,rfl,Wk.refl _⟩,trivial⟩ rfl (fun _ _=>rfl) ?_
 intro j hj
 clear hbl
 (repeat' ((conv=>whnf);(first|(refine IfN.id ?_;first|refine IfN.dec (fun _=>?_) (fun _=>?_)|(refine IfN.mk ?_ ?_ <;> intro _)|fail)|(refine EqN.addN _ _ Cst.h Cst.h ?_ ?_;· omega)|(refine SideN.mk ?_ ?_;· first|kernel_rfl|omega|exact List.cons_ne_nil _ _|(simp;done)|(simp;omega)|exact trivial|assumption|fail)|refine SegN.nth (f:=encSG) (l:=l) eN j rfl (by omega) (fun _=>rfl) ?_|refine DrawN.mk' [] ?_|fail)));all_goals (conv=>whnf)
 ·rename_i h1 h2
  rw [ba_beq,decide_eq_true_eq] at h2
  refine EndN.pure (v:=.int .i64 j) trivial (Wk.refl _) ⟨j,rfl,⟨fun _=>?_,fun _=>by omega⟩⟩
  rw [h2]
  exact zas l j eN (by omega)
 ·rename_i h1 h2
  rw [ba_beq,decide_eq_false_iff_not] at h2
  (refine ⟨⟨j+1,⟨by omega,fun i hi=>by
   rcases Nat.lt_or_ge i j with h|h
   ·exact hj.2 i h
   ·obtain rfl:i=j:=by omega
    exact fun e=>h2 e.symm⟩,by omega,?_,.inl ⟨rfl,rfl⟩,rfl,_,rfl,?_⟩⟩;rotate_left 1;(first|exact .inl rfl|exact .inr ⟨by simp [zal,below,zaa,tr,zai,zaj,zbe,mpG_belowK,mpG_belowV,ixG_below],by simp [zap,Blk.below,zaa,below,zai,zaj,zbe,mpG_belowK,mpG_belowV,ixG_below]⟩|fail);(repeat' (first|exact trivial|refine ⟨⟨_,rfl,?_⟩,?_⟩|fail));all_goals try (first|exact Wk.refl _|exact Wk.of_eq (congrArg (AV.int _) (by omega))|fail))
 ·refine EndN.pure (v:=.int .i64 (-1)) trivial (Wk.refl _) ⟨-1,rfl,⟨fun h=>absurd h (by omega),fun hc=>?_⟩⟩
  obtain ⟨i,hi,e⟩:=List.getElem_of_mem hc
  exact absurd (by simp [List.getD_eq_getElem?_getD,hi,e]) (hj.2 i (by omega))
theorem contains_g (l:List ByteArray) (c:ByteArray) (hlen:l.length≤9223372036854775807) (H:Heap):VDet Tryz.prog 137 [.sl none l.length (l.flatMap encSG),.str c] H (.bool (memG c l)):=by
 have hm:=memG_iff c l
 refine zak Tryz.E0 Tryz.mx Tryz.func137 (by kernel_rfl) rfl (Nat.le_of_ble_eq_true rfl) rfl fun hcl hbl=>?_
 (repeat' ((conv=>whnf);(first|refine CallN.pure _ rfl rfl (index_g l c hlen _) ?_|refine DrawN.mk' [] ?_|fail)));all_goals (conv=>whnf)
 rintro r ⟨i,rfl,hi⟩
 (repeat' ((conv=>whnf);(first|refine DrawN.mk' [] ?_|fail)));all_goals (conv=>whnf)
 refine EndN.det trivial (Wk.of_eq (congrArg AV.bool (Bool.eq_iff_iff.2 ?_)))
 rw [hm,← hi]
 simp
end
section
attribute [local irreducible] VW VCall VO
def hdB (c:UInt8):UInt8:=UInt8.ofNat (c.toNat / 2)
def nmL (c:UInt8):List UInt8:=if c.toNat % 2=0 then [hdB c] else [hdB c,122,57]
def nm (c:UInt8):ByteArray:=⟨(nmL c).toArray⟩
theorem bytesLess_iff:∀ a b:List UInt8,Op.bytesLess a b=decide (a<b)
 | [],[]=>rfl
 | [],b::m=>by simp [Op.bytesLess]
 | a::l,[]=>by simp [Op.bytesLess]
 | a::l,b::m=>by
   simp only [Op.bytesLess,bytesLess_iff l m]
   apply Bool.eq_iff_iff.2
   simp only [Bool.or_eq_true,Bool.and_eq_true,decide_eq_true_eq,beq_iff_eq,List.cons_lt_cons_iff]
def cap (c:UInt8):Prop:=130≤c.toNat∧c.toNat≤181
end
section
attribute [local irreducible] VW VCall VO bits
def opsK:List AV:=[.int .u8 2,.int .u8 3,.int .u8 4,.int .u8 5,.int .u8 6,.int .u8 7]
def opsV:List AV:=[.clo (.func 196) [] [],.clo (.func 197) [] [],.clo (.func 198) [] [],.clo (.func 199) [] [],.clo (.func 200) [] [],.clo (.func 201) [] []]
end
section
def zay:Nat→(Nat→Bool)→Nat
 | 0,_=>0
 | n+1,g=>(g 0).toNat+2 * zay n fun i=>g (i+1)
theorem testBit_mk:∀ (n:Nat) (g:Nat→Bool) (i:Nat),(zay n g).testBit i=(decide (i<n)&&g i)
 | 0,g,i=>by simp [zay]
 | n+1,g,0=>by
   simp only [zay,Nat.testBit_zero]
   cases g 0 <;> simp <;> omega
 | n+1,g,i+1=>by
   have h:(zay (n+1) g) / 2=zay n fun i=>g (i+1):=by
    simp only [zay]
    cases g 0 <;> simp <;> omega
   rw [Nat.testBit_succ,h,testBit_mk]
   simp
theorem mk_lt:∀ (n:Nat) (g:Nat→Bool),zay n g<2 ^ n
 | 0,_=>by simp [zay]
 | n+1,g=>by
   have:=mk_lt n fun i=>g (i+1)
   simp only [zay,Nat.pow_succ]
   cases g 0 <;> simp <;> omega
theorem eq_mk {n x:Nat} {g:Nat→Bool} (hx:x<2 ^ n) (h:∀ i,i<n→x.testBit i=g i):x=zay n g:=by
 apply Nat.eq_of_testBit_eq
 intro i
 rw [testBit_mk]
 by_cases hi:i<n
 ·simp [hi,h i hi]
 ·rw [Nat.testBit_lt_two_pow (Nat.lt_of_lt_of_le hx (Nat.pow_le_pow_right (by omega) (by omega)))]
  simp [hi]
theorem mk_congr {n:Nat} {g h:Nat→Bool} (e:∀ i,i<n→g i=h i):zay n g=zay n h :=
 eq_mk (mk_lt n g) fun i hi=>by rw [testBit_mk];simp [hi,e i hi]
theorem wu64 {m:Nat} (h:m<2 ^ 64):IntKind.u64.wrap (m:Int)=m:=IntWalk.u64_in m (by omega)
theorem ofInt64u (m:Nat) (h:m<2 ^ 64):(BitVec.ofInt 64 (m:Int)).toNat=m:=by
 rw [BitVec.toNat_ofInt,Int.emod_eq_of_lt (by omega) (by omega)]
 simp
theorem bits_u64 (op:BinOp) (x y:Int):bits op .u64 x y=((match op with
   | .and=>BitVec.ofInt 64 x &&& BitVec.ofInt 64 y
   | .or=>BitVec.ofInt 64 x ||| BitVec.ofInt 64 y
   | .xor=>BitVec.ofInt 64 x ^^^ BitVec.ofInt 64 y
   | _=>BitVec.ofInt 64 x &&& ~~~BitVec.ofInt 64 y).toNat:Nat):=by
 have:∀ b:BitVec 64,IntKind.u64.wrap (b.toNat:Int)=b.toNat:=fun b=>wu64 b.isLt
 unfold bits
 cases op <;> exact this _
theorem tbU (m:Nat) (h:m<2 ^ 64) (i:Nat):(BitVec.ofInt 64 (m:Int)).toNat.testBit i=m.testBit i:=by rw [ofInt64u m h]
theorem bits_and (g h:Nat→Bool):bits .and .u64 (zay 64 g:Nat) (zay 64 h:Nat)=(zay 64 fun i=>g i&&h i:Nat):=by
 rw [bits_u64]
 refine congrArg Int.ofNat (eq_mk (BitVec.isLt _) fun i hi=>?_)
 simp only [BitVec.toNat_and,Nat.testBit_and,tbU _ (mk_lt 64 _),testBit_mk,hi,decide_true,Bool.true_and]
theorem bits_or (g h:Nat→Bool):bits .or .u64 (zay 64 g:Nat) (zay 64 h:Nat)=(zay 64 fun i=>g i || h i:Nat):=by
 rw [bits_u64]
 refine congrArg Int.ofNat (eq_mk (BitVec.isLt _) fun i hi=>?_)
 simp only [BitVec.toNat_or,Nat.testBit_or,tbU _ (mk_lt 64 _),testBit_mk,hi,decide_true,Bool.true_and]
theorem bits_xor (g h:Nat→Bool):bits .xor .u64 (zay 64 g:Nat) (zay 64 h:Nat)=(zay 64 fun i=>g i ^^ h i:Nat):=by
 rw [bits_u64]
 refine congrArg Int.ofNat (eq_mk (BitVec.isLt _) fun i hi=>?_)
 simp only [BitVec.toNat_xor,Nat.testBit_xor,tbU _ (mk_lt 64 _),testBit_mk,hi,decide_true,Bool.true_and]
theorem comU:comK .u64=((zay 64 fun _=>true:Nat):Int):=by decide
theorem bits_com (g:Nat→Bool):bits .xor .u64 (comK .u64) (zay 64 g:Nat)=(zay 64 fun i=>!g i:Nat):=by
 rw [comU,bits_xor]
 exact congrArg _ (mk_congr fun i _=>by simp)
attribute [local irreducible] VW VCall VO bits
def U (g:Nat→Bool):AV:=.int .u64 ((zay 64 g:Nat):Int)
theorem op2_c (g h:Nat→Bool) (H:Heap):VDet Tryz.prog 196 [U g,U h] H (U fun _=>false):=by
 unfold U
 refine zak Tryz.E0 Tryz.mx Tryz.func196 (by kernel_rfl) rfl (Nat.le_of_ble_eq_true rfl) rfl fun hcl hbl=>?_
 (repeat' ((conv=>whnf);(first|refine DrawN.mk' [] ?_|fail)));all_goals (conv=>whnf)
 exact EndN.det trivial (Wk.of_eq (congrArg (AV.int .u64) (by decide)))
theorem op3_c (g h:Nat→Bool) (H:Heap):VDet Tryz.prog 197 [U g,U h] H (U fun i=>!g i):=by
 unfold U
 refine zak Tryz.E0 Tryz.mx Tryz.func197 (by kernel_rfl) rfl (Nat.le_of_ble_eq_true rfl) rfl fun hcl hbl=>?_
 (repeat' ((conv=>whnf);(first|refine EqN.mk _ rfl ?_|refine DrawN.mk' [] ?_|fail)));all_goals (conv=>whnf)
 exact EndN.det trivial (Wk.of_eq (congrArg (AV.int .u64) (bits_com g)))
theorem op4_c (g h:Nat→Bool) (H:Heap):VDet Tryz.prog 198 [U g,U h] H (U fun i=>g i&&h i):=by
 unfold U
 refine zak Tryz.E0 Tryz.mx Tryz.func198 (by kernel_rfl) rfl (Nat.le_of_ble_eq_true rfl) rfl fun hcl hbl=>?_
 (repeat' ((conv=>whnf);(first|refine EqN.mk _ rfl ?_|refine DrawN.mk' [] ?_|fail)));all_goals (conv=>whnf)
 exact EndN.det trivial (Wk.of_eq (congrArg (AV.int .u64) (bits_and g h)))
theorem op5_c (g h:Nat→Bool) (H:Heap):VDet Tryz.prog 199 [U g,U h] H (U fun i=>g i || h i):=by
 unfold U
 refine zak Tryz.E0 Tryz.mx Tryz.func199 (by kernel_rfl) rfl (Nat.le_of_ble_eq_true rfl) rfl fun hcl hbl=>?_
 (repeat' ((conv=>whnf);(first|refine EqN.mk _ rfl ?_|refine DrawN.mk' [] ?_|fail)));all_goals (conv=>whnf)
 exact EndN.det trivial (Wk.of_eq (congrArg (AV.int .u64) (bits_or g h)))
theorem op6_c (g h:Nat→Bool) (H:Heap):VDet Tryz.prog 200 [U g,U h] H (U fun i=>!g i || h i):=by
 unfold U
 refine zak Tryz.E0 Tryz.mx Tryz.func200 (by kernel_rfl) rfl (Nat.le_of_ble_eq_true rfl) rfl fun hcl hbl=>?_
 (repeat' ((conv=>whnf);(first|refine EqN.mk _ rfl ?_|refine DrawN.mk' [] ?_|fail)));all_goals (conv=>whnf)
 exact EndN.det trivial (Wk.of_eq (congrArg (AV.int .u64) (by rw [bits_com,bits_or])))
theorem op7_c (g h:Nat→Bool) (H:Heap):VDet Tryz.prog 201 [U g,U h] H (U fun i=>g i==h i):=by
 unfold U
 refine zak Tryz.E0 Tryz.mx Tryz.func201 (by kernel_rfl) rfl (Nat.le_of_ble_eq_true rfl) rfl fun hcl hbl=>?_
 (repeat' ((conv=>whnf);(first|refine EqN.mk _ rfl ?_|refine DrawN.mk' [] ?_|fail)));all_goals (conv=>whnf)
 exact EndN.det trivial (Wk.of_eq (congrArg (AV.int .u64) (by
  rw [bits_xor,bits_com]
  exact congrArg _ (mk_congr fun i _=>by cases g i <;> cases h i <;> rfl))))
end
section
attribute [local irreducible] VW VCall VO bits
def pats:List Int:=[12297829382473034410,14757395258967641292,17361641481138401520,18374966859414961920,18446462603027742720,18446744069414584320]
theorem pats_ok:∀ b,b<6→pats.getD b 0=((zay 64 fun i=>i.testBit b:Nat):Int):=by
 intro b hb
 have:b=0∨b=1∨b=2∨b=3∨b=4∨b=5:=by omega
 rcases this with rfl|rfl|rfl|rfl|rfl|rfl <;> decide
theorem low_bit (n i b:Nat) (hi:i<64) (hb:b<6):(64 * n+i).testBit b=i.testBit b:=by
 have:=Nat.testBit_two_pow_mul_add n (i:=6) (b:=i) (by omega) b
 rw [if_pos hb] at this
 exact this
theorem high_bit (n i b:Nat) (hi:i<64) (hb:6≤b):(64 * n+i).testBit b=n.testBit (b-6):=by
 have:=Nat.testBit_two_pow_mul_add n (i:=6) (b:=i) (by omega) b
 rw [if_neg (by omega)] at this
 exact this
theorem neg_bit (m:Nat) (h:m<2 ^ 64):IntKind.u64.wrap (0-bits .and .u64 (m:Int) 1)=((zay 64 fun _=>m.testBit 0:Nat):Int):=by
 have h1:(1:Int)=((zay 64 fun i=>i==0:Nat):Int):=by decide
 have h2:m=zay 64 fun i=>m.testBit i:=eq_mk h fun _ _=>rfl
 have h3:bits .and .u64 (m:Int) 1=((zay 64 fun i=>m.testBit i&&i==0:Nat):Int):=by
  have:=bits_and (fun i=>m.testBit i) (fun i=>i==0)
  rw [← h2,← h1] at this
  exact this
 rw [h3]
 cases hb:m.testBit 0 with
 | true =>
   have:(zay 64 fun i=>m.testBit i&&i==0)=zay 64 fun i=>i==0:=mk_congr fun i _=>by
    cases i with
    | zero=>simp [hb]
    | succ i=>simp
   rw [this]
   decide
 | false =>
   have:(zay 64 fun i=>m.testBit i&&i==0)=zay 64 fun i=>false:=mk_congr fun i _=>by
    cases i with
    | zero=>simp [hb]
    | succ i=>simp
   rw [this]
   decide
def encP (p:Int):List AV:=[.int .u64 p]
end
section
attribute [local irreducible] VW VCall VO bits
theorem EqN.two (l:Nat) {k:Int→Prop} (h:l≤40) (a:k ((2 ^ l:Nat):Int)):EqN (IntKind.i64.wrap (1 * 2 ^ min ((l:Nat):Int).toNat IntKind.i64.bits)) k:=by
 refine ⟨_,?_,a⟩
 have h1:min ((l:Nat):Int).toNat IntKind.i64.bits=l:=by
  rw [Int.toNat_natCast]
  exact Nat.min_eq_left (by show l≤64;omega)
 rw [h1,Int.one_mul]
 have h2:(2:Nat) ^ l≤1099511627776:=Nat.pow_le_pow_right (n:=2) (by omega) h
 have h3:((2:Int) ^ l)=((2 ^ l:Nat):Int):=by simp
 rw [h3]
 generalize 2 ^ l=q at *
 exact w64 (by omega)
end
section
theorem bit_one (g:Nat→Bool) (k:Nat) (hk:k<64):(bits .and .u64 ((zay 64 g >>> k:Nat):Int) 1==1)=g k:=by
 have h1:(1:Int)=((zay 64 fun i=>i==0:Nat):Int):=by decide
 have hlt:zay 64 g >>> k<2 ^ 64:=Nat.lt_of_le_of_lt (Nat.shiftRight_le _ _) (mk_lt 64 g)
 have h2:zay 64 g >>> k=zay 64 fun i=>(zay 64 g >>> k).testBit i:=eq_mk hlt fun _ _=>rfl
 have h3:bits .and .u64 ((zay 64 g >>> k:Nat):Int) 1=((zay 64 fun i=>g k&&i==0:Nat):Int):=by
  have:=bits_and (fun i=>(zay 64 g >>> k).testBit i) (fun i=>i==0)
  rw [← h2,← h1] at this
  rw [this]
  refine congrArg _ (mk_congr fun i _=>?_)
  cases i with
  | zero=>rw [Nat.testBit_shiftRight,Nat.add_zero,testBit_mk];simp [hk]
  | succ i=>simp
 rw [h3]
 cases g k <;> decide
theorem fdiv_shr (m k:Nat) (hk:k≤63):((m:Nat):Int).fdiv (2 ^ min ((k:Nat):Int).toNat IntKind.u64.bits)=((m >>> k:Nat):Int):=by
 rw [Int.toNat_natCast,Nat.min_eq_left (by show k≤64;omega),Nat.shiftRight_eq_div_pow]
 rw [Int.fdiv_eq_ediv_of_nonneg _ (Int.pow_nonneg (by omega))]
 simp
attribute [local irreducible] VW VCall VO bits
end
section
attribute [local irreducible] VW VCall VO bits
def keyG (l:List ByteArray):List AV:=l.map fun c=>.str c
def tblG (l:List ByteArray):AV:=.rptr [.rmp (keyG l) (ixG l.length),.rmp opsK opsV]
theorem tblG_below (l:List ByteArray) (n:Nat):below n (tblG l):=by
 unfold tblG opsK opsV
 simp [below,zaa,fnBelow,mpG_belowK,keyG,ixG_below]
theorem ixG_succ (n:Nat):ixG (n+1)=ixG n++[.int .i64 n]:=by
 unfold ixG
 rw [List.range_succ,List.map_append]
 rfl
theorem take_snocT {α:Type} (l:List α) (j:Nat) (d:α) (h:j<l.length):l.take (j+1)=l.take j++[l.getD j d]:=by
 rw [List.take_add_one,List.getElem?_eq_getElem h]
 simp [List.getD_eq_getElem?_getD,List.getElem?_eq_getElem h]
theorem put_ixG (l:List ByteArray) (hl:l.Nodup) (j:Nat) (h:j<l.length):MPut (eqV Tryz.kn Tryz.T 20 9) (keyG (l.take j)) (ixG j) (.str (l.getD j eN)) (.int .i64 j) (keyG (l.take (j+1))) (ixG (j+1)):=by
 have hno:l.getD j eN ∉ l.take j:=fun hm=>by
  have hd:=hl
  rw [← List.take_append_drop j l] at hd
  have:=(List.nodup_append.1 hd).2.2 _ hm (l.getD j eN) (by
   rw [za7 l j eN h]
   exact List.mem_cons_self ..)
  exact this rfl
 have:=MPut.new (vs:=ixG j) (v:=.int .i64 j) ((mfindG (l.getD j eN) (l.take j)).2 hno)
 rw [ixG_succ,take_snocT l j eN h]
 unfold keyG
 rw [List.map_append]
 exact this
theorem newTable_g (l:List ByteArray) (hl:l.Nodup) (hlen:l.length≤1000) (H:Heap):VDet Tryz.prog 138 [.sl none l.length (l.flatMap encSG)] H (tblG l):=by
 refine zak Tryz.E0 Tryz.mx Tryz.func138 (by kernel_rfl) rfl (Nat.le_of_ble_eq_true rfl) rfl fun hcl hbl=>?_
 (repeat' ((conv=>whnf);(first|refine RelN.mk _ _ ⟨⟨_,rfl⟩,.new (by kernel_rfl)⟩ ?_|refine PtrN.loc _ rfl ?_|refine DrawN.mk' [] ?_|fail)));all_goals (conv=>whnf)
 refine za3 Tryz.E0 Tryz.mx (σ:=Nat) (fun j=>j≤l.length) (fun j=>l.length-j) (fun j=>[(13,.v (.int .i64 j))]) (fun j=>[.mp (keyG (l.take j)) (ixG j),.mp opsK opsV,.box 169 [.mp (H.length+0),.mp (H.length+1)]]) _ 0 rfl hcl [3,11,12] rfl (Nat.zero_le _) ⟨⟨_,rfl,Wk.refl _⟩,trivial⟩ rfl (fun _ _=>rfl) ?_
 intro j hj
 clear hbl
 (repeat' ((conv=>whnf);(first|refine IfN.dec (fun _=>?_) (fun _=>?_)|(refine EqN.addN _ _ Cst.h Cst.h ?_ ?_;· omega)|(refine SideN.mk ?_ ?_;· first|kernel_rfl|omega|exact List.cons_ne_nil _ _|(simp;done)|(simp;omega)|exact trivial|assumption|fail)|refine SegN.nth (f:=encSG) (l:=l) eN j rfl (by omega) (fun _=>rfl) ?_|refine RelN.mk _ _ ⟨⟨_,rfl⟩,put_ixG l hl j (by omega)⟩ ?_|refine PtrN.loc _ rfl ?_|refine DrawN.mk' [] ?_|fail)));all_goals (conv=>whnf)
 ·(refine ⟨⟨j+1,by omega,by omega,?_,.inl ⟨rfl,rfl⟩,rfl,_,rfl,?_⟩⟩;rotate_left 1;(first|exact .inl rfl|exact .inr ⟨by simp [zal,below,zaa,tr,zai,zaj,zbe,mpG_belowK,mpG_belowV,ixG_below],by simp [zap,Blk.below,zaa,below,zai,zaj,zbe,mpG_belowK,mpG_belowV,ixG_below]⟩|fail);(repeat' (first|exact trivial|refine ⟨⟨_,rfl,?_⟩,?_⟩|fail));all_goals try (first|exact Wk.refl _|exact Wk.of_eq (congrArg (AV.int _) (by omega))|fail))
 ·obtain rfl:j=l.length:=by omega
  rw [List.take_length]
  refine EndN.detF (u':=tblG l) (tblG_below _ _) ?_ (Wk.refl _)
  unfold tblG
  refine Frz.ptr rfl rfl (FrzL.cons (Frz.mp rfl (FrzL.refl _) (FrzL.refl _)) (FrzL.cons (Frz.mp rfl (FrzL.refl _) (FrzL.refl _)) FrzL.nil))
def Fp.ev (r:ByteArray→Bool):Fp→Bool
 | .at c=>r c
 | .fa=>false
 | .f1 a=>!a.ev r
 | .f2 k a b=>if k=4 then a.ev r&&b.ev r else if k=5 then a.ev r || b.ev r else if k=6 then !a.ev r || b.ev r else a.ev r==b.ev r
def Fp.In (l:List ByteArray):Fp→Prop
 | .at c=>c∈l
 | .fa=>True
 | .f1 a=>a.In l
 | .f2 _ a b=>a.In l∧b.In l
def ixP (l:List ByteArray) (c:ByteArray):Nat:=l.findIdx fun d=>decide (c=d)
def vbG (l:List ByteArray) (v:Nat) (c:ByteArray):Bool:=v.testBit (l.length-1-ixP l c)
def blkG (l:List ByteArray) (n:Nat) (f:Fp):AV:=U fun i=>f.ev (vbG l (64 * n+i))
theorem ixP_find (c:ByteArray):∀ l:List ByteArray,c∈l→ixP l c<l.length∧mfind (eqV Tryz.kn Tryz.T 20 9) (.str c) (keyG l)=some (some (ixP l c))
 | d::l,h=>by
   have he:eqV Tryz.kn Tryz.T 20 9 (.str c) (.str d)=some (decide (c=d)):=by
    show some (c.toList==d.toList)=_
    rw [ba_beq]
   unfold ixP keyG
   rw [List.findIdx_cons]
   simp only [List.map_cons,mfind,he]
   by_cases hcd:c=d
   ·subst hcd
    simp
   ·have hb:decide (c=d)=false:=by simpa using hcd
    simp only [hb,cond_false,List.length_cons]
    obtain ⟨h1,h2⟩:=ixP_find c l ((List.mem_cons.1 h).resolve_left hcd)
    unfold ixP at h1 h2
    unfold keyG at h2
    exact ⟨by omega,by rw [h2]⟩
theorem ixG_get (n i:Nat) (h:i<n):(ixG n)[i]? = some (.int .i64 (i:Nat)):=by
 unfold ixG
 rw [List.getElem?_map,List.getElem?_range h]
 rfl
theorem fp_cells:∀ p:Fp,∃ (o:Nat) (s:ByteArray) (n:Nat) (l:List AV),p.fo.cells=[.int .u8 o,.str s,.sl none 0 [],.sl none n l]
 | .at c=>⟨1,c,0,[],by simp [Fp.fo,Fo.cells_mk]⟩
 | .fa=>⟨2,.empty,0,[],by simp [Fp.fo,Fo.cells_mk]⟩
 | .f1 a=>⟨3,.empty,1,a.fo.cells,by simp [Fp.fo,Fo.cells_mk]⟩
 | .f2 k a b=>⟨k,.empty,2,a.fo.cells++b.fo.cells,by simp [Fp.fo,Fo.cells_mk]⟩
theorem blockG_at (l:List ByteArray) (h26:l.length≤52) (c:ByteArray) (hc:c∈l) (n:Nat) (hn:n≤1000000) (H:Heap):VDet Tryz.prog 72 [tblG l,.agg (Fp.at c).fo.cells,.int .i64 n] H (blkG l n (.at c)):=by
 obtain ⟨h1,h2⟩:=ixP_find c l hc
 have h3:=ixG_get l.length (ixP l c) h1
 have hkl:(keyG l).length=l.length:=by unfold keyG;simp
 have hres:blkG l n (.at c)=.int .u64 ((zay 64 fun i=>(64 * n+i).testBit (l.length-1-ixP l c):Nat):Int):=rfl
 rw [hres]
 generalize hb:l.length-1-ixP l c=b
 have hb2:(l.length:Int)-1-(ixP l c:Nat)=(b:Nat):=by omega
 rw [show (Fp.at c).fo.cells=[.int .u8 (1:Nat),.str c,.sl none 0 [],.sl none 0 []] by simp [Fp.fo,Fo.cells_mk]]
 unfold tblG
 refine zak Tryz.E0 Tryz.mx Tryz.func72 (by kernel_rfl) rfl (Nat.le_of_ble_eq_true rfl) rfl fun hcl hbl=>?_
 (repeat' ((conv=>whnf);(first|(refine IfN.id ?_;first|refine IfN.tt rfl ?_|refine IfN.dec (fun _=>?_) (fun _=>?_)|fail)|(refine EqN.id ?_;first|(refine EqN.shrN _ _ Cst.h Cst.h rfl ?_ ?_;· (repeat' (first|omega|refine And.intro ?_ ?_|exact za4 (by omega)|exact bnd_andr (by omega)|refine bnd_or ?_ ?_|refine bnd_or31 ?_ ?_|refine bnd_xor ?_ ?_|refine bnd_xor31 ?_ ?_|refine bnd_shr ?_|refine bnd_shl ?_ ?_|refine bnd_mod ?_|refine za4 ?_|fail)))|(refine EqN.subN _ _ Cst.h Cst.h ?_ ?_;· omega)|refine EqN.remN _ _ Cst.h Cst.h ?_|refine EqN.mk _ rfl ?_|fail)|(refine SideN.mk ?_ ?_;· first|kernel_rfl|omega|exact List.cons_ne_nil _ _|(simp;done)|(simp;omega)|exact trivial|assumption|fail)|refine RelN.mk [_] [] ⟨⟨_,rfl⟩,_,h2,h3⟩ ?_|refine DrawN.mk' [] ?_|fail)));all_goals (conv=>whnf)
 ·refine SegN.nth (f:=encP) (l:=pats) 0 ((keyG l).length-1-ixP l c) rfl (by show _<6;omega) (fun _=>rfl) ?_
  (repeat' ((conv=>whnf);(first|refine DrawN.mk' [] ?_|fail)));all_goals (conv=>whnf)
  refine EndN.det trivial (Wk.of_eq (congrArg (AV.int .u64) ?_))
  rw [hkl,hb,pats_ok b (by omega)]
  exact congrArg _ (mk_congr fun i hi=>(low_bit n i b hi (by omega)).symm)
 ·refine EndN.det trivial (Wk.of_eq (congrArg (AV.int .u64) ?_))
  rw [hkl,hb]
  have hm:n % (2 ^ IntKind.u64.bits:Int).natAbs=n:=Nat.mod_eq_of_lt (by show n<18446744073709551616;omega)
  first|rw [hm]|rw [wu64 (m:=n) (by omega),fdiv_shr n (b-6) (by omega)]|fail
  rw [neg_bit _ (Nat.lt_of_le_of_lt (Nat.shiftRight_le _ _) (by omega))]
  refine congrArg _ (mk_congr fun i hi=>?_)
  rw [high_bit n i b hi (by omega),Nat.testBit_shiftRight,Nat.add_zero]
theorem blockG_fa (l:List ByteArray) (n:Nat) (H:Heap):VDet Tryz.prog 72 [tblG l,.agg Fp.fa.fo.cells,.int .i64 n] H (blkG l n .fa):=by
 rw [show Fp.fa.fo.cells=[.int .u8 (2:Nat),.str .empty,.sl none 0 [],.sl none 0 []] by simp [Fp.fo,Fo.cells_mk]]
 unfold blkG tblG opsK opsV
 simp only [Fp.ev]
 have h:=op2_c (fun _=>false) (fun _=>false)
 unfold U at h ⊢
 have h0:((zay 64 fun _=>false:Nat):Int)=0:=by decide
 rw [h0] at h ⊢
 generalize keyG l=kl
 generalize ixG l.length=il
 refine zak Tryz.E0 Tryz.mx Tryz.func72 (by kernel_rfl) rfl (Nat.le_of_ble_eq_true rfl) rfl fun hcl hbl=>?_
 (repeat' ((conv=>whnf);(first|refine IfN.ff rfl ?_|refine DrawN.mk' [] ?_|fail)));all_goals (conv=>whnf)
 refine LoopN.rounds Tryz.E0 Tryz.mx 1 (by simp) ?_
 (repeat' ((conv=>whnf);(first|refine IfN.ff rfl ?_|(refine SideN.mk ?_ ?_;· first|kernel_rfl|omega|exact List.cons_ne_nil _ _|(simp;done)|(simp;omega)|exact trivial|assumption|fail)|refine CallD.det _ (fun _ hq X=>h _) ?_|refine RelN.mk [_] [] ⟨⟨_,rfl⟩,0,by kernel_rfl,rfl⟩ ?_|refine OfsN.at_ (by omega) ?_|refine DrawN.mk' [] ?_|fail)));all_goals (conv=>whnf)
 exact EndN.det trivial (Wk.refl _)
theorem blockG_f1 (l:List ByteArray) (n:Nat) (a:Fp) (ih:∀ H,VDet Tryz.prog 72 [tblG l,.agg a.fo.cells,.int .i64 n] H (blkG l n a)) (H:Heap):VDet Tryz.prog 72 [tblG l,.agg (Fp.f1 a).fo.cells,.int .i64 n] H (blkG l n (.f1 a)):=by
 have h:=op3_c (fun i=>a.ev (vbG l (64 * n+i))) (fun _=>false)
 obtain ⟨ao,an,asn,asc,hac⟩:=fp_cells a
 rw [show (Fp.f1 a).fo.cells=[.int .u8 (3:Nat),.str .empty,.sl none 0 [],.sl none 1 a.fo.cells] by simp [Fp.fo,Fo.cells_mk]]
 rw [hac] at ih ⊢
 unfold blkG tblG opsK opsV U at ih ⊢
 unfold U at h
 have h0:((zay 64 fun _=>false:Nat):Int)=0:=by decide
 rw [h0] at h
 simp only [Fp.ev]
 generalize zay 64 (fun i=>a.ev (vbG l (64 * n+i)))=ga at h ih
 generalize (zay 64 fun i=>!a.ev (vbG l (64 * n+i)))=gr at h ⊢
 generalize keyG l=kl at ih ⊢
 generalize ixG l.length=il at ih ⊢
 refine zak Tryz.E0 Tryz.mx Tryz.func72 (by kernel_rfl) rfl (Nat.le_of_ble_eq_true rfl) rfl fun hcl hbl=>?_
 (repeat' ((conv=>whnf);(first|refine IfN.ff rfl ?_|refine DrawN.mk' [] ?_|fail)));all_goals (conv=>whnf)
 refine LoopN.rounds Tryz.E0 Tryz.mx 2 (by simp) ?_
 (repeat' ((conv=>whnf);(first|(refine IfN.id ?_;first|refine IfN.tt rfl ?_|refine IfN.ff rfl ?_|fail)|(refine EqN.addN _ _ Cst.h Cst.h ?_ ?_;· omega)|(refine SideN.mk ?_ ?_;· first|kernel_rfl|omega|exact List.cons_ne_nil _ _|(simp;done)|(simp;omega)|exact trivial|assumption|fail)|refine CallN.det _ (ih _) ?_|refine CallD.det _ (fun _ hq X=>h _) ?_|refine RelN.mk [_] [] ⟨⟨_,rfl⟩,1,by kernel_rfl,rfl⟩ ?_|refine SegN.mk _ (seg_rfl rfl) ?_|refine OfsN.at_ (by omega) ?_|refine DrawN.mk' [] ?_|fail)));all_goals (conv=>whnf)
 exact EndN.det trivial (Wk.refl _)
theorem blockG_f2_4 (l:List ByteArray) (n:Nat) (a b:Fp) (iha:∀ H,VDet Tryz.prog 72 [tblG l,.agg a.fo.cells,.int .i64 n] H (blkG l n a)) (ihb:∀ H,VDet Tryz.prog 72 [tblG l,.agg b.fo.cells,.int .i64 n] H (blkG l n b)) (H:Heap):VDet Tryz.prog 72 [tblG l,.agg (Fp.f2 4 a b).fo.cells,.int .i64 n] H (blkG l n (.f2 4 a b)):=by
 have h:=op4_c (fun i=>a.ev (vbG l (64 * n+i))) (fun i=>b.ev (vbG l (64 * n+i)))
 obtain ⟨ao,an,asn,asc,hac⟩:=fp_cells a
 obtain ⟨bo,bn,bsn,bsc,hbc⟩:=fp_cells b
 rw [show (Fp.f2 4 a b).fo.cells=[.int .u8 (4:Nat),.str .empty,.sl none 0 [],.sl none 2 (a.fo.cells++b.fo.cells)] by simp [Fp.fo,Fo.cells_mk]]
 rw [show blkG l n (.f2 4 a b)=U (fun i=>a.ev (vbG l (64 * n+i))&&b.ev (vbG l (64 * n+i))) from rfl]
 rw [hac] at iha ⊢
 rw [hbc] at ihb ⊢
 unfold blkG tblG opsK opsV U at iha ihb
 unfold tblG opsK opsV U
 unfold U at h
 generalize zay 64 (fun i=>a.ev (vbG l (64 * n+i)))=ga at h iha
 generalize zay 64 (fun i=>b.ev (vbG l (64 * n+i)))=gb at h ihb
 generalize zay 64 (fun i=>a.ev (vbG l (64 * n+i))&&b.ev (vbG l (64 * n+i)))=gr at h ⊢
 generalize keyG l=kl at iha ihb ⊢
 generalize ixG l.length=il at iha ihb ⊢
 simp only [List.cons_append,List.nil_append]
 refine zak Tryz.E0 Tryz.mx Tryz.func72 (by kernel_rfl) rfl (Nat.le_of_ble_eq_true rfl) rfl fun hcl hbl=>?_
 (repeat' ((conv=>whnf);(first|refine IfN.ff rfl ?_|refine DrawN.mk' [] ?_|fail)));all_goals (conv=>whnf)
 refine LoopN.rounds Tryz.E0 Tryz.mx 3 (by simp) ?_
 (repeat' ((conv=>whnf);(first|(refine IfN.id ?_;first|refine IfN.tt rfl ?_|refine IfN.ff rfl ?_|fail)|(refine EqN.addN _ _ Cst.h Cst.h ?_ ?_;· omega)|(refine SideN.mk ?_ ?_;· first|kernel_rfl|omega|exact List.cons_ne_nil _ _|(simp;done)|(simp;omega)|exact trivial|assumption|fail)|(refine CallN.id ?_;first|refine CallN.det _ (iha _) ?_|refine CallN.det _ (ihb _) ?_|fail)|refine CallD.det _ (fun _ hq X=>h _) ?_|refine RelN.mk [_] [] ⟨⟨_,rfl⟩,2,by kernel_rfl,rfl⟩ ?_|refine SegN.mk _ (seg_rfl rfl) ?_|refine OfsN.at_ (by omega) ?_|refine DrawN.mk' [] ?_|fail)));all_goals (conv=>whnf)
 exact EndN.det trivial (Wk.refl _)
theorem blockG_f2_5 (l:List ByteArray) (n:Nat) (a b:Fp) (iha:∀ H,VDet Tryz.prog 72 [tblG l,.agg a.fo.cells,.int .i64 n] H (blkG l n a)) (ihb:∀ H,VDet Tryz.prog 72 [tblG l,.agg b.fo.cells,.int .i64 n] H (blkG l n b)) (H:Heap):VDet Tryz.prog 72 [tblG l,.agg (Fp.f2 5 a b).fo.cells,.int .i64 n] H (blkG l n (.f2 5 a b)):=by
 have h:=op5_c (fun i=>a.ev (vbG l (64 * n+i))) (fun i=>b.ev (vbG l (64 * n+i)))
 obtain ⟨ao,an,asn,asc,hac⟩:=fp_cells a
 obtain ⟨bo,bn,bsn,bsc,hbc⟩:=fp_cells b
 rw [show (Fp.f2 5 a b).fo.cells=[.int .u8 (5:Nat),.str .empty,.sl none 0 [],.sl none 2 (a.fo.cells++b.fo.cells)] by simp [Fp.fo,Fo.cells_mk]]
 rw [show blkG l n (.f2 5 a b)=U (fun i=>a.ev (vbG l (64 * n+i)) || b.ev (vbG l (64 * n+i))) from rfl]
 rw [hac] at iha ⊢
 rw [hbc] at ihb ⊢
 unfold blkG tblG opsK opsV U at iha ihb
 unfold tblG opsK opsV U
 unfold U at h
 generalize zay 64 (fun i=>a.ev (vbG l (64 * n+i)))=ga at h iha
 generalize zay 64 (fun i=>b.ev (vbG l (64 * n+i)))=gb at h ihb
 generalize zay 64 (fun i=>a.ev (vbG l (64 * n+i)) || b.ev (vbG l (64 * n+i)))=gr at h ⊢
 generalize keyG l=kl at iha ihb ⊢
 generalize ixG l.length=il at iha ihb ⊢
 simp only [List.cons_append,List.nil_append]
 refine zak Tryz.E0 Tryz.mx Tryz.func72 (by kernel_rfl) rfl (Nat.le_of_ble_eq_true rfl) rfl fun hcl hbl=>?_
 (repeat' ((conv=>whnf);(first|refine IfN.ff rfl ?_|refine DrawN.mk' [] ?_|fail)));all_goals (conv=>whnf)
 refine LoopN.rounds Tryz.E0 Tryz.mx 3 (by simp) ?_
 (repeat' ((conv=>whnf);(first|(refine IfN.id ?_;first|refine IfN.tt rfl ?_|refine IfN.ff rfl ?_|fail)|(refine EqN.addN _ _ Cst.h Cst.h ?_ ?_;· omega)|(refine SideN.mk ?_ ?_;· first|kernel_rfl|omega|exact List.cons_ne_nil _ _|(simp;done)|(simp;omega)|exact trivial|assumption|fail)|(refine CallN.id ?_;first|refine CallN.det _ (iha _) ?_|refine CallN.det _ (ihb _) ?_|fail)|refine CallD.det _ (fun _ hq X=>h _) ?_|refine RelN.mk [_] [] ⟨⟨_,rfl⟩,3,by kernel_rfl,rfl⟩ ?_|refine SegN.mk _ (seg_rfl rfl) ?_|refine OfsN.at_ (by omega) ?_|refine DrawN.mk' [] ?_|fail)));all_goals (conv=>whnf)
 exact EndN.det trivial (Wk.refl _)
theorem blockG_f2_6 (l:List ByteArray) (n:Nat) (a b:Fp) (iha:∀ H,VDet Tryz.prog 72 [tblG l,.agg a.fo.cells,.int .i64 n] H (blkG l n a)) (ihb:∀ H,VDet Tryz.prog 72 [tblG l,.agg b.fo.cells,.int .i64 n] H (blkG l n b)) (H:Heap):VDet Tryz.prog 72 [tblG l,.agg (Fp.f2 6 a b).fo.cells,.int .i64 n] H (blkG l n (.f2 6 a b)):=by
 have h:=op6_c (fun i=>a.ev (vbG l (64 * n+i))) (fun i=>b.ev (vbG l (64 * n+i)))
 obtain ⟨ao,an,asn,asc,hac⟩:=fp_cells a
 obtain ⟨bo,bn,bsn,bsc,hbc⟩:=fp_cells b
 rw [show (Fp.f2 6 a b).fo.cells=[.int .u8 (6:Nat),.str .empty,.sl none 0 [],.sl none 2 (a.fo.cells++b.fo.cells)] by simp [Fp.fo,Fo.cells_mk]]
 rw [show blkG l n (.f2 6 a b)=U (fun i=>!a.ev (vbG l (64 * n+i)) || b.ev (vbG l (64 * n+i))) from rfl]
 rw [hac] at iha ⊢
 rw [hbc] at ihb ⊢
 unfold blkG tblG opsK opsV U at iha ihb
 unfold tblG opsK opsV U
 unfold U at h
 generalize zay 64 (fun i=>a.ev (vbG l (64 * n+i)))=ga at h iha
 generalize zay 64 (fun i=>b.ev (vbG l (64 * n+i)))=gb at h ihb
 generalize zay 64 (fun i=>!a.ev (vbG l (64 * n+i)) || b.ev (vbG l (64 * n+i)))=gr at h ⊢
 generalize keyG l=kl at iha ihb ⊢
 generalize ixG l.length=il at iha ihb ⊢
 simp only [List.cons_append,List.nil_append]
 refine zak Tryz.E0 Tryz.mx Tryz.func72 (by kernel_rfl) rfl (Nat.le_of_ble_eq_true rfl) rfl fun hcl hbl=>?_
 (repeat' ((conv=>whnf);(first|refine IfN.ff rfl ?_|refine DrawN.mk' [] ?_|fail)));all_goals (conv=>whnf)
 refine LoopN.rounds Tryz.E0 Tryz.mx 3 (by simp) ?_
 (repeat' ((conv=>whnf);(first|(refine IfN.id ?_;first|refine IfN.tt rfl ?_|refine IfN.ff rfl ?_|fail)|(refine EqN.addN _ _ Cst.h Cst.h ?_ ?_;· omega)|(refine SideN.mk ?_ ?_;· first|kernel_rfl|omega|exact List.cons_ne_nil _ _|(simp;done)|(simp;omega)|exact trivial|assumption|fail)|(refine CallN.id ?_;first|refine CallN.det _ (iha _) ?_|refine CallN.det _ (ihb _) ?_|fail)|refine CallD.det _ (fun _ hq X=>h _) ?_|refine RelN.mk [_] [] ⟨⟨_,rfl⟩,4,by kernel_rfl,rfl⟩ ?_|refine SegN.mk _ (seg_rfl rfl) ?_|refine OfsN.at_ (by omega) ?_|refine DrawN.mk' [] ?_|fail)));all_goals (conv=>whnf)
 exact EndN.det trivial (Wk.refl _)
theorem blockG_f2_7 (l:List ByteArray) (n:Nat) (a b:Fp) (iha:∀ H,VDet Tryz.prog 72 [tblG l,.agg a.fo.cells,.int .i64 n] H (blkG l n a)) (ihb:∀ H,VDet Tryz.prog 72 [tblG l,.agg b.fo.cells,.int .i64 n] H (blkG l n b)) (H:Heap):VDet Tryz.prog 72 [tblG l,.agg (Fp.f2 7 a b).fo.cells,.int .i64 n] H (blkG l n (.f2 7 a b)):=by
 have h:=op7_c (fun i=>a.ev (vbG l (64 * n+i))) (fun i=>b.ev (vbG l (64 * n+i)))
 obtain ⟨ao,an,asn,asc,hac⟩:=fp_cells a
 obtain ⟨bo,bn,bsn,bsc,hbc⟩:=fp_cells b
 rw [show (Fp.f2 7 a b).fo.cells=[.int .u8 (7:Nat),.str .empty,.sl none 0 [],.sl none 2 (a.fo.cells++b.fo.cells)] by simp [Fp.fo,Fo.cells_mk]]
 rw [show blkG l n (.f2 7 a b)=U (fun i=>a.ev (vbG l (64 * n+i))==b.ev (vbG l (64 * n+i))) from rfl]
 rw [hac] at iha ⊢
 rw [hbc] at ihb ⊢
 unfold blkG tblG opsK opsV U at iha ihb
 unfold tblG opsK opsV U
 unfold U at h
 generalize zay 64 (fun i=>a.ev (vbG l (64 * n+i)))=ga at h iha
 generalize zay 64 (fun i=>b.ev (vbG l (64 * n+i)))=gb at h ihb
 generalize zay 64 (fun i=>a.ev (vbG l (64 * n+i))==b.ev (vbG l (64 * n+i)))=gr at h ⊢
 generalize keyG l=kl at iha ihb ⊢
 generalize ixG l.length=il at iha ihb ⊢
 simp only [List.cons_append,List.nil_append]
 refine zak Tryz.E0 Tryz.mx Tryz.func72 (by kernel_rfl) rfl (Nat.le_of_ble_eq_true rfl) rfl fun hcl hbl=>?_
 (repeat' ((conv=>whnf);(first|refine IfN.ff rfl ?_|refine DrawN.mk' [] ?_|fail)));all_goals (conv=>whnf)
 refine LoopN.rounds Tryz.E0 Tryz.mx 3 (by simp) ?_
 (repeat' ((conv=>whnf);(first|(refine IfN.id ?_;first|refine IfN.tt rfl ?_|refine IfN.ff rfl ?_|fail)|(refine EqN.addN _ _ Cst.h Cst.h ?_ ?_;· omega)|(refine SideN.mk ?_ ?_;· first|kernel_rfl|omega|exact List.cons_ne_nil _ _|(simp;done)|(simp;omega)|exact trivial|assumption|fail)|(refine CallN.id ?_;first|refine CallN.det _ (iha _) ?_|refine CallN.det _ (ihb _) ?_|fail)|refine CallD.det _ (fun _ hq X=>h _) ?_|refine RelN.mk [_] [] ⟨⟨_,rfl⟩,5,by kernel_rfl,rfl⟩ ?_|refine SegN.mk _ (seg_rfl rfl) ?_|refine OfsN.at_ (by omega) ?_|refine DrawN.mk' [] ?_|fail)));all_goals (conv=>whnf)
 exact EndN.det trivial (Wk.refl _)
theorem blockG_c (l:List ByteArray) (h26:l.length≤52) (n:Nat) (hn:n≤1000000):∀ f:Fp,f.Ok→f.In l→∀ H,VDet Tryz.prog 72 [tblG l,.agg f.fo.cells,.int .i64 n] H (blkG l n f)
 | .at c,_,h=>blockG_at l h26 c h n hn
 | .fa,_,_=>blockG_fa l n
 | .f1 a,hp,h=>blockG_f1 l n a (blockG_c l h26 n hn a hp h)
 | .f2 k a b,hp,h=>by
   have iha:=blockG_c l h26 n hn a hp.2.1 h.1
   have ihb:=blockG_c l h26 n hn b hp.2.2 h.2
   rcases hp.1 with rfl|rfl|rfl|rfl
   ·exact blockG_f2_4 l n a b iha ihb
   ·exact blockG_f2_5 l n a b iha ihb
   ·exact blockG_f2_6 l n a b iha ihb
   ·exact blockG_f2_7 l n a b iha ihb
end
section
attribute [local irreducible] VW VCall VO bits
theorem two_leG (n:Nat) (hl:n≤12):2 ^ n≤4096∧1≤2 ^ n:=by
 have h2:(2:Nat) ^ n≤2 ^ 12:=Nat.pow_le_pow_right (by omega) hl
 exact ⟨h2,Nat.pos_of_ne_zero (by simp)⟩
theorem namesG_len (l:List Fo):(namesG l).length=(addGs [] l).length:=by unfold namesG sortG;exact List.length_mergeSort _
end
section
attribute [local irreducible] VW VCall VO bits
theorem lessB_iff (a b:ByteArray):lessB a b=true↔a.toList<b.toList:=by
 unfold lessB
 rw [bytesLess_iff,decide_eq_true_eq]
theorem isNm_lt {l:List ByteArray} (h:isNmG l=true):∀ (k i:Nat),i<k→k<l.length→(l.getD i eN).toList<(l.getD k eN).toList
 | 0,i,hi,_=>by omega
 | k+1,i,hi,hk=>by
   have h1:=List.all_eq_true.1 h (k+1) (List.mem_range.2 hk)
   unfold nmAt at h1
   rw [Bool.and_eq_true,Bool.or_eq_true,decide_eq_true_eq,Nat.add_sub_cancel,lessB_iff] at h1
   have h2:=h1.2.resolve_left (by omega)
   rcases Nat.lt_or_ge i k with h3|h3
   ·exact List.lt_trans (isNm_lt h k i h3 (by omega)) h2
   ·obtain rfl:i=k:=by omega
    exact h2
theorem isNm_nodup {l:List ByteArray} (h:isNmG l=true):l.Nodup:=by
 unfold List.Nodup
 rw [List.pairwise_iff_getElem]
 intro i j hi hj hij e
 have:=isNm_lt h j i hij hj
 rw [show l.getD i eN=l[i] by simp [List.getD_eq_getElem?_getD,hi],show l.getD j eN=l[j] by simp [List.getD_eq_getElem?_getD,hj],e] at this
 exact List.lt_irrefl _ this
def inAll (f:Fo) (l:List ByteArray):Bool:=(namesG [f]).all fun c=>memG c l
def namedA (f:Fo) (l:List ByteArray) (v:Int):AV :=
 if 12<l.length then .tup [.nilp,.int .i64 5] else if ¬ (rightF f=true∧isNmG l=true∧0≤v∧v<(2 ^ l.length:Nat)) then .tup [.nilp,.int .i64 2] else if inAll f l=false then .tup [.nilp,.int .i64 6] else .tup [tblG l,.int .i64 0]
theorem named_all (f:Fo) (hg:f.good) (hn:(addGs [] [f]).length≤100000) (l:List ByteArray) (hlen:l.length≤9223372036854775807) (hsz:∀ c∈l,c.size≤maxLen) (v:Int) (H:Heap):VDet Tryz.prog 71 [.agg f.cells,.sl none l.length (l.flatMap encSG),.int .i64 v] H (namedA f l v):=by
 have h1:=right_g' f hg
 have h2:=isNames_g l hlen hsz
 have h3:=atoms_g [f] ⟨hg,trivial⟩ (by simp) hn
 have hcon:=fun c=>contains_g l c hlen
 have h4:=fun (h:isNmG l=true) (h12:l.length≤1000)=>newTable_g l (isNm_nodup h) h12
 have hb:=tblG_below l
 have hnl:=namesG_len [f]
 rw [show [f].flatMap Fo.cells=f.cells by simp] at h3
 unfold namedA inAll
 obtain ⟨op,s,al,m⟩:=f
 rw [Fo.cells_mk] at h1 h3 ⊢
 generalize rightF (Fo.mk op s al m)=br at *
 generalize namesG [Fo.mk op s al m]=ns at *
 have h3:∀ H,VDet Tryz.prog 136 [.sx 1 [.int .u8 op,.str s,.sl none al.length (al.flatMap Tm.cells),.sl none m.length (m.flatMap Fo.cells)]] H (.sl none ns.length (ns.flatMap encSG)):=fun H=>VDet.wk (h3 H) ⟨wk_sx _ _,trivial⟩
 generalize tblG l=t at *
 generalize hmb:(fun c=>memG c l)=mb at *
 have hcon:∀ c H,VDet Tryz.prog 137 [.sl none l.length (l.flatMap encSG),.str c] H (.bool (mb c)):=fun c H=>by rw [← hmb];exact hcon c H
 generalize isNmG l=bn at *
 generalize al.flatMap Tm.cells=ac at *
 generalize al.length=an at *
 generalize m.flatMap Fo.cells=mc at *
 generalize m.length=mn at *
 have hlb:=zbe H.length l
 generalize l.flatMap encSG=lc at *
 clear hsz hg hmb
 by_cases h12:12<l.length
 ·rw [if_pos h12]
  generalize l.length=k at *
  refine zak Tryz.E0 Tryz.mx Tryz.func71 (by kernel_rfl) rfl (Nat.le_of_ble_eq_true rfl) rfl fun hcl hbl=>?_
  (repeat' ((conv=>whnf);(first|refine IfN.dT (by omega) ?_|refine DrawN.mk' [] ?_|fail)));all_goals (conv=>whnf)
  exact EndN.det ⟨trivial,trivial,trivial⟩ (Wk.refl _)
 ·rw [if_neg h12]
  have two:EqN (IntKind.i64.wrap (1 * 2 ^ min ((l.length:Nat):Int).toNat IntKind.i64.bits)) fun y=>y=((2 ^ l.length:Nat):Int):=EqN.two l.length (by omega) rfl
  obtain ⟨_,w1,rfl⟩:=two
  have hS:=two_leG l.length (by omega)
  generalize 2 ^ l.length=S at *
  have h4:=fun h=>h4 h (by omega)
  generalize l.length=k at *
  by_cases hok:br=true∧bn=true∧0≤v∧v<(S:Nat)
  ·rw [if_neg (not_not_intro hok)]
   obtain ⟨rfl,rfl,hv0,hv1⟩:=hok
   have h4:=h4 rfl
   refine zak Tryz.E0 Tryz.mx Tryz.func71 (by kernel_rfl) rfl (Nat.le_of_ble_eq_true rfl) rfl fun hcl hbl=>?_
   (repeat' ((conv=>whnf);(first|(refine IfN.id ?_;first|refine IfN.not ?_|refine IfN.tt rfl ?_|refine IfN.dF (by omega) ?_|fail)|refine EqN.mk _ w1 ?_|(refine SideN.mk ?_ ?_;· first|kernel_rfl|omega|exact List.cons_ne_nil _ _|(simp;done)|(simp;omega)|exact trivial|assumption|fail)|(refine CallN.id ?_;first|refine CallN.det _ (h1 _) ?_|refine CallN.det _ (h2 _) ?_|refine CallN.det _ (h3 _) ?_|fail)|refine DrawN.mk' [] ?_|fail)));all_goals (conv=>whnf)
   refine za3 Tryz.E0 Tryz.mx (σ:=Nat) (fun j=>j≤ns.length∧∀ i,i<j→mb (ns.getD i eN)=true) (fun j=>ns.length-j) (fun j=>[(36,.v (.int .i64 j))]) (fun j=>_) _ 0 rfl hcl [1,34,35] rfl ⟨Nat.zero_le _,fun i hi=>by omega⟩ ⟨⟨_,rfl,Wk.refl _⟩,trivial⟩ rfl (fun _ _=>rfl) ?_
   rintro j ⟨hj,hall⟩
   clear hbl
   by_cases hlt:j<ns.length
   ·have hc:=hcon (ns.getD j eN)
    cases hb2:mb (ns.getD j eN) with
    | true =>
      rw [hb2] at hc
      (repeat' ((conv=>whnf);(first|(refine IfN.id ?_;first|refine IfN.not ?_|refine IfN.tt rfl ?_|refine IfN.dT (by omega) ?_|fail)|(refine EqN.addN _ _ Cst.h Cst.h ?_ ?_;· omega)|(refine SideN.mk ?_ ?_;· first|kernel_rfl|omega|exact List.cons_ne_nil _ _|(simp;done)|(simp;omega)|exact trivial|assumption|fail)|refine CallN.det _ (hc _) ?_|refine SegN.nth (f:=encSG) (l:=ns) eN j rfl hlt (fun _=>rfl) ?_|refine DrawN.mk' [] ?_|fail)));all_goals (conv=>whnf)
      (refine ⟨⟨j+1,⟨by omega,fun i hi=>by
       by_cases e:i=j
       ·rw [e];exact hb2
       ·exact hall i (by omega)⟩,by omega,?_,.inl ⟨rfl,rfl⟩,rfl,_,rfl,?_⟩⟩;rotate_left 1;(first|exact .inl rfl|exact .inr ⟨by simp [zal,below,zaa,tr,zai,zaj,zbe,mpG_belowK,mpG_belowV,ixG_below],by simp [zap,Blk.below,zaa,below,zai,zaj,zbe,mpG_belowK,mpG_belowV,ixG_below]⟩|fail);(repeat' (first|exact trivial|refine ⟨⟨_,rfl,?_⟩,?_⟩|fail));all_goals try (first|exact Wk.refl _|exact Wk.of_eq (congrArg (AV.int _) (by omega))|fail))
    | false =>
      rw [hb2] at hc
      (repeat' ((conv=>whnf);(first|(refine IfN.id ?_;first|refine IfN.not ?_|refine IfN.ff rfl ?_|refine IfN.dT (by omega) ?_|fail)|(refine SideN.mk ?_ ?_;· first|kernel_rfl|omega|exact List.cons_ne_nil _ _|(simp;done)|(simp;omega)|exact trivial|assumption|fail)|refine CallN.det _ (hc _) ?_|refine SegN.nth (f:=encSG) (l:=ns) eN j rfl hlt (fun _=>rfl) ?_|refine DrawN.mk' [] ?_|fail)));all_goals (conv=>whnf)
      have:ns.all mb=false:=by
       apply Bool.eq_false_iff.2
       intro hA
       rw [List.all_eq_true.1 hA _ (zas ns j eN hlt)] at hb2
       cases hb2
      rw [if_pos this]
      exact EndN.det ⟨trivial,trivial,trivial⟩ (Wk.refl _)
   ·have:ns.all mb=true:=by
     rw [List.all_eq_true]
     intro x hx
     obtain ⟨i,hi,rfl⟩:=List.getElem_of_mem hx
     have:=hall i (by omega)
     rwa [show ns.getD i eN=ns[i] by simp [List.getD_eq_getElem?_getD,hi]] at this
    rw [if_neg (by rw [this];simp)]
    (repeat' ((conv=>whnf);(first|refine IfN.dF (by omega) ?_|refine CallN.det _ (h4 _) ?_|refine DrawN.mk' [] ?_|fail)));all_goals (conv=>whnf)
    exact EndN.det ⟨hb _,trivial,trivial⟩ (Wk.refl _)
  ·rw [if_pos hok]
   cases br with
   | false =>
     refine zak Tryz.E0 Tryz.mx Tryz.func71 (by kernel_rfl) rfl (Nat.le_of_ble_eq_true rfl) rfl fun hcl hbl=>?_
     (repeat' ((conv=>whnf);(first|(refine IfN.id ?_;first|refine IfN.not ?_|refine IfN.ff rfl ?_|refine IfN.dF (by omega) ?_|fail)|refine CallN.det _ (h1 _) ?_|refine DrawN.mk' [] ?_|fail)));all_goals (conv=>whnf)
     exact EndN.det ⟨trivial,trivial,trivial⟩ (Wk.refl _)
   | true =>
     cases bn with
     | false =>
       refine zak Tryz.E0 Tryz.mx Tryz.func71 (by kernel_rfl) rfl (Nat.le_of_ble_eq_true rfl) rfl fun hcl hbl=>?_
       (repeat' ((conv=>whnf);(first|(refine IfN.id ?_;first|refine IfN.not ?_|refine IfN.tt rfl ?_|refine IfN.ff rfl ?_|refine IfN.dF (by omega) ?_|fail)|(refine CallN.id ?_;first|refine CallN.det _ (h1 _) ?_|refine CallN.det _ (h2 _) ?_|fail)|refine DrawN.mk' [] ?_|fail)));all_goals (conv=>whnf)
       exact EndN.det ⟨trivial,trivial,trivial⟩ (Wk.refl _)
     | true =>
       by_cases h0:v<0
       ·refine zak Tryz.E0 Tryz.mx Tryz.func71 (by kernel_rfl) rfl (Nat.le_of_ble_eq_true rfl) rfl fun hcl hbl=>?_
        (repeat' ((conv=>whnf);(first|(refine IfN.id ?_;first|refine IfN.not ?_|refine IfN.tt rfl ?_|refine IfN.dT (by omega) ?_|refine IfN.dF (by omega) ?_|fail)|(refine CallN.id ?_;first|refine CallN.det _ (h1 _) ?_|refine CallN.det _ (h2 _) ?_|fail)|refine DrawN.mk' [] ?_|fail)));all_goals (conv=>whnf)
        exact EndN.det ⟨trivial,trivial,trivial⟩ (Wk.refl _)
       ·have hge:(S:Int)≤v:=by
         apply Classical.byContradiction
         intro hh
         exact hok ⟨rfl,rfl,by omega,by omega⟩
        refine zak Tryz.E0 Tryz.mx Tryz.func71 (by kernel_rfl) rfl (Nat.le_of_ble_eq_true rfl) rfl fun hcl hbl=>?_
        (repeat' ((conv=>whnf);(first|(refine IfN.id ?_;first|refine IfN.not ?_|refine IfN.tt rfl ?_|refine IfN.dT (by omega) ?_|refine IfN.dF (by omega) ?_|fail)|refine EqN.mk _ w1 ?_|(refine SideN.mk ?_ ?_;· first|kernel_rfl|omega|exact List.cons_ne_nil _ _|(simp;done)|(simp;omega)|exact trivial|assumption|fail)|(refine CallN.id ?_;first|refine CallN.det _ (h1 _) ?_|refine CallN.det _ (h2 _) ?_|fail)|refine DrawN.mk' [] ?_|fail)));all_goals (conv=>whnf)
        exact EndN.det ⟨trivial,trivial,trivial⟩ (Wk.refl _)
end
section
def opB (op:Nat) (a b:Bool):Bool:=if op=2 then false else if op=3 then !a else if op=4 then a&&b else if op=5 then a || b else if op=6 then !a || b else a==b
mutual
def evF (r:ByteArray→Bool):Fo→Bool
 | .mk op s _ m=>if op=1 then r s else opB op ((evFs r m).getD 0 false) ((evFs r m).getD 1 false)
def evFs (r:ByteArray→Bool):List Fo→List Bool
 | []=>[]
 | x::l=>evF r x::evFs r l
end
theorem evF_fp (r:ByteArray→Bool):∀ p:Fp,p.Ok→evF r p.fo=p.ev r
 | .at c,_=>by unfold Fp.fo evF Fp.ev;rfl
 | .fa,_=>by unfold Fp.fo evF Fp.ev;rfl
 | .f1 a,h=>by
   unfold Fp.fo evF evFs Fp.ev
   rw [evF_fp r a h]
   rfl
 | .f2 k a b,h=>by
   have h1:=evF_fp r a h.2.1
   have h2:=evF_fp r b h.2.2
   unfold Fp.fo evF evFs Fp.ev
   rw [h1,evFs.eq_def]
   simp only
   rw [h2]
   rcases h.1 with rfl|rfl|rfl|rfl <;> simp [opB]
def Fp.has (c:ByteArray):Fp→Prop
 | .at d=>c=d
 | .fa=>False
 | .f1 a=>a.has c
 | .f2 _ a b=>a.has c∨b.has c
theorem mem_insG (ks:List ByteArray) (c d:ByteArray):c∈insG ks d↔c∈ks∨c=d:=by
 unfold insG
 split
 ·rename_i h
  exact ⟨.inl,fun h2=>h2.elim id fun e=>e▸(memG_iff d ks).1 h⟩
 ·simp
theorem mem_addG (c:ByteArray):∀ (p:Fp) (ks:List ByteArray),p.Ok→(c∈addG ks p.fo↔c∈ks∨p.has c)
 | .at d,ks,_=>by
   unfold Fp.fo addG
   rw [if_pos rfl,addGs_nil]
   exact mem_insG ks c d
 | .fa,ks,_=>by
   unfold Fp.fo addG
   rw [if_neg (by decide),addGs_nil]
   simp [Fp.has]
 | .f1 a,ks,h=>by
   unfold Fp.fo addG
   rw [if_neg (by decide),addGs_cons,addGs_nil]
   exact mem_addG c a ks h
 | .f2 k a b,ks,h=>by
   unfold Fp.fo addG
   rw [if_neg (by have:=h.1;omega),addGs_cons,addGs_cons,addGs_nil,mem_addG c b _ h.2.2,mem_addG c a ks h.2.1]
   simp only [Fp.has,or_assoc]
theorem in_iffP (l:List ByteArray):∀ p:Fp,p.In l↔∀ c,p.has c→c∈l
 | .at d=>⟨fun h c e=>e▸h,fun h=>h d rfl⟩
 | .fa=>⟨fun _ _ e=>e.elim,fun _=>trivial⟩
 | .f1 a=>in_iffP l a
 | .f2 _ a b=>by
   simp only [Fp.In,Fp.has,in_iffP l a,in_iffP l b]
   exact ⟨fun h c e=>e.elim (h.1 c) (h.2 c),fun h=>⟨fun c e=>h c (.inl e),fun c e=>h c (.inr e)⟩⟩
theorem mem_namesG1 (c:ByteArray) (l:List Fo):c∈namesG l↔c∈addGs [] l:=by
 unfold namesG sortG
 exact (List.mergeSort_perm _ _).mem_iff
theorem in_of_all {p:Fp} (hp:p.Ok) {l:List ByteArray} (h:inAll p.fo l=true):p.In l:=by
 rw [in_iffP]
 intro c hc
 unfold inAll at h
 have:=List.all_eq_true.1 h c ((mem_namesG1 c _).2 (by
  rw [addGs_cons,addGs_nil,mem_addG c p [] hp]
  exact .inr hc))
 exact (memG_iff c l).1 this
def errN (f:Fo) (l:List ByteArray) (v:Int):Int :=
 if 12<l.length then 5 else if ¬ (rightF f=true∧isNmG l=true∧0≤v∧v<(2 ^ l.length:Nat)) then 2 else if inAll f l=false then 6 else 0
theorem namedA_eq (f:Fo) (l:List ByteArray) (v:Int):namedA f l v=if errN f l v=0 then .tup [tblG l,.int .i64 0] else .tup [.nilp,.int .i64 (errN f l v)]:=by
 unfold namedA errN
 split
 ·rfl
 ·split
  ·rfl
  ·split <;> rfl
theorem errN_zero {f:Fo} {l:List ByteArray} {v:Int} (h:errN f l v=0):l.length≤12∧rightF f=true∧isNmG l=true∧(0≤v∧v<(2 ^ l.length:Nat))∧inAll f l=true:=by
 unfold errN at h
 split at h
 ·cases h
 ·rename_i h1
  split at h
  ·cases h
  ·rename_i h2
   have h2:=Classical.not_not.1 h2
   split at h
   ·cases h
   ·rename_i h3
    exact ⟨by omega,h2.1,h2.2.1,h2.2.2,by simpa using h3⟩
attribute [local irreducible] VW VCall VO bits
def evalA (f:Fo) (l:List ByteArray) (v:Int):AV:=.tup [.bool (decide (errN f l v=0)&&evF (vbG l v.toNat) f),.int .i64 (errN f l v)]
theorem eval_g (f:Fo) (hg:f.good) (hn:(addGs [] [f]).length≤100000) (l:List ByteArray) (hlen:l.length≤9223372036854775807) (hsz:∀ c∈l,c.size≤maxLen) (v:Int) (H:Heap):VDet Tryz.prog 17 [.agg f.cells,.sl none l.length (l.flatMap encSG),.int .i64 v] H (evalA f l v):=by
 have h1:=named_all f hg hn l hlen hsz v
 rw [namedA_eq] at h1
 unfold evalA
 by_cases he:errN f l v=0
 ·obtain ⟨h12,hr,hnm,⟨hv0,hv1⟩,hin⟩:=errN_zero he
  rw [if_pos he] at h1
  rw [he,decide_eq_true rfl,Bool.true_and]
  obtain ⟨p,hp,rfl⟩:=fp_right hr
  obtain ⟨n,rfl⟩:∃ n:Nat,v=n:=⟨v.toNat,by omega⟩
  rw [Int.toNat_natCast,evF_fp _ p hp]
  have h2l:=two_leG l.length h12
  have h2:=blockG_c l (by omega) (n / 64) (by omega) p hp (in_of_all hp hin)
  have hres:p.ev (vbG l n)=(fun i=>p.ev (vbG l (64 * (n / 64)+i))) (n % 64):=by
   show _=p.ev (vbG l (64 * (n / 64)+n % 64))
   rw [Nat.div_add_mod]
  rw [hres]
  have h2:∀ H,VDet Tryz.prog 72 [tblG l,.agg p.fo.cells,.int .i64 ((n:Int) / 64)] H (blkG l (n / 64) p):=h2
  unfold blkG U at h2
  generalize (fun i=>p.ev (vbG l (64 * (n / 64)+i)))=g at *
  have hbit:=bit_one g (n % 64) (Nat.mod_lt _ (by omega))
  obtain ⟨fo,fn,fsn,fsc,hfc⟩:=fp_cells p
  generalize zay 64 g=gg at *
  generalize tblG l=t at *
  rw [hfc] at h1 h2 ⊢
  generalize l.flatMap encSG=lc at *
  generalize l.length=k at *
  refine zak Tryz.E0 Tryz.mx Tryz.func17 (by kernel_rfl) rfl (Nat.le_of_ble_eq_true rfl) rfl fun hcl hbl=>?_
  (repeat' ((conv=>whnf);(first|(refine IfN.id ?_;first|refine IfN.not ?_|refine IfN.tt rfl ?_|fail)|(refine EqN.id ?_;first|refine EqN.quo (by omega) ?_|refine EqN.rem (by omega) ?_|refine EqN.mk _ rfl ?_|fail)|(refine SideN.mk ?_ ?_;· first|kernel_rfl|omega|exact List.cons_ne_nil _ _|(simp;done)|(simp;omega)|exact trivial|assumption|fail)|(refine CallN.id ?_;first|refine CallN.det _ (h1 _) ?_|refine CallN.det _ (h2 _) ?_|fail)|refine DrawN.mk' [] ?_|fail)));all_goals (conv=>whnf)
  refine EndN.det ⟨trivial,trivial,trivial⟩ (Wk.of_eq ?_)
  rw [← hbit,← fdiv_shr gg (n % 64) (by omega)]
  rfl
 ·rw [if_neg he] at h1
  rw [decide_eq_false he,Bool.false_and]
  generalize errN f l v=e at *
  obtain ⟨op,s,al,m⟩:=f
  rw [Fo.cells_mk] at h1 ⊢
  generalize l.flatMap encSG=lc at *
  generalize l.length=k at *
  generalize al.flatMap Tm.cells=ac at *
  generalize m.flatMap Fo.cells=mc at *
  refine zak Tryz.E0 Tryz.mx Tryz.func17 (by kernel_rfl) rfl (Nat.le_of_ble_eq_true rfl) rfl fun hcl hbl=>?_
  (repeat' ((conv=>whnf);(first|refine IfN.neT he ?_|refine CallN.det _ (h1 _) ?_|refine DrawN.mk' [] ?_|fail)));all_goals (conv=>whnf)
  exact EndN.det ⟨trivial,trivial,trivial⟩ (Wk.refl _)
end
end Go.Proofs.YtgdmldelijeaoaaGreatDoor.P10
