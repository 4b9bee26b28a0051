/- A text of the proof: the parts AS41, AT41, AU41, AV41, AW41, AX41, AY41, AZ41, BA41, BB41, BC41, PM41, BD41, BE41, BF41, BI41, PF41, PG41, PH41, PI41. -/
import Derived.Test.YtgdmldelijeaoaaGreatDoorK10
set_option linter.unusedSimpArgs false
set_option linter.unusedVariables false
/-! text AS41 -/
namespace Go.Proofs.YtgdmldelijeaoaaGreatDoor
open Go.Vsi
set_option maxHeartbeats 4000000
set_option linter.unusedSimpArgs false
attribute [local irreducible] VW VCall VO bits
theorem built15_c (l:List Nat) (hl:l.length≤9223372036854775807) (hb:∀ i,i<l.length→l.getD i 0≤255) (H:Heap):VDet Tryz.prog 15 [.sl none l.length (l.flatMap encB)] H (.agg (fqx (bltF l))):=by
 have h:=fun H=>built69_c l hl hb H
 unfold fqx at h ⊢
 refine fn_det Tryz.E0 Tryz.mx Tryz.func15 (by kernel_rfl) rfl (Nat.le_of_ble_eq_true rfl) rfl fun hcl hbl=>?_
 (repeat' ((conv=>whnf);(first|refine CallN.det _ (h _) ?_|refine DrawN.mk' [] ?_|fail)));all_goals (conv=>whnf)
 exact EndN.det (fqx_below _ _) (Wk.refl _)
end Go.Proofs.YtgdmldelijeaoaaGreatDoor
/-! text AT41 -/
namespace Go.Proofs.YtgdmldelijeaoaaGreatDoor
open Go.Vsi
set_option maxHeartbeats 4000000
set_option linter.unusedSimpArgs false
attribute [local irreducible] VW VCall VO bits
def prodC:List Int→Int→Int
 | [],p=>p
 | r::l,p=>if 16384 / p<r then 16385 else prodC l (p * r)
theorem product_c (l:List Int) (hl:l.length≤1000000) (h1:∀ r∈l,1≤r) (H:Heap):VDet Tryz.prog 86 [.sl none l.length (l.flatMap enc64)] H (.int .i64 (prodC l 1)):=by
 refine fn_det Tryz.E0 Tryz.mx Tryz.func86 (by kernel_rfl) rfl (Nat.le_of_ble_eq_true rfl) rfl fun hcl hbl=>?_
 (repeat' ((conv=>whnf);(first|refine DrawN.mk' [] ?_|fail)));all_goals (conv=>whnf)
 refine loop_R Tryz.E0 Tryz.mx (σ:=Nat×Int) (fun p=>p.1≤l.length∧(1≤p.2∧p.2≤16384)∧prodC l 1=prodC (l.drop p.1) p.2) (fun p=>l.length-p.1) (fun p=>[(8,.v (.int .i64 p.1)),(3,.v (.int .i64 p.2))]) (fun _=>[]) _ (0,1) rfl hcl [2,6,7] rfl ⟨Nat.zero_le _,⟨by decide,by decide⟩,rfl⟩ ⟨⟨_,rfl,Wk.refl _⟩,⟨_,rfl,Wk.refl _⟩,trivial⟩ rfl (fun _ _=>rfl) ?_
 rintro ⟨k,p⟩ ⟨hk,⟨hp1,hp2⟩,hj⟩
 simp only at hk hp1 hp2 hj
 rcases Nat.lt_or_ge k l.length with hlt|hge
 ·have hr:=h1 _ (show l.getD k 0∈l by rw [List.getD_eq_getElem?_getD,List.getElem?_eq_getElem hlt];exact List.getElem_mem hlt)
  rw [drop_cons l 0 k hlt,prodC] at hj
  have hq:(16384:Int) / p * p≤16384:=Int.ediv_mul_le _ (by omega)
  by_cases hc:16384 / p<l.getD k 0
  ·rw [if_pos hc] at hj
   rw [hj]
   (repeat' ((conv=>whnf);(first|refine IfN.dT (by omega) ?_|refine EqN.quo (by omega) ?_|(refine SideN.mk ?_ ?_;· first|kernel_rfl|omega|exact List.cons_ne_nil _ _|(simp;done)|(simp;omega)|exact trivial|assumption|fail)|refine SegN.nth (f:=enc64) 0 k rfl (by omega) (fun _=>rfl) ?_|refine DrawN.mk' [] ?_|fail)));all_goals (conv=>whnf)
   exact EndN.det trivial (Wk.refl _)
  ·rw [if_neg hc] at hj
   have hm:p * l.getD k 0≤16384:=by
    have:p * l.getD k 0≤p * (16384 / p):=Int.mul_le_mul_of_nonneg_left (by omega) (by omega)
    rw [Int.mul_comm p (16384 / p)] at this
    omega
   have hm1:1≤p * l.getD k 0:=by
    have:=Int.mul_le_mul_of_nonneg_left hr (show 0≤p by omega)
    omega
   (repeat' ((conv=>whnf);(first|(refine IfN.id ?_;first|refine IfN.dT (by omega) ?_|refine IfN.dF (by omega) ?_|fail)|(refine EqN.id ?_;first|(refine EqN.addN _ _ Cst.h Cst.h ?_ ?_;· omega)|refine EqN.quo (by omega) ?_|refine EqN.mk _ rfl ?_|fail)|(refine SideN.mk ?_ ?_;· first|kernel_rfl|omega|exact List.cons_ne_nil _ _|(simp;done)|(simp;omega)|exact trivial|assumption|fail)|refine SegN.nth (f:=enc64) 0 k rfl (by omega) (fun _=>rfl) ?_|refine DrawN.mk' [] ?_|fail)));all_goals (conv=>whnf)
   (refine ⟨⟨(k+1,p * l.getD k 0),⟨by show k+1≤_;omega,⟨hm1,hm⟩,hj⟩,by omega,?_,.inl ⟨rfl,rfl⟩,rfl,_,rfl,?_⟩⟩;rotate_left 1;(first|exact .inl rfl|exact .inr ⟨by simp [belowRE,below,belowL,tr,i64_below],by simp [belowH,Blk.below,belowL,below,i64_below]⟩|fail);(repeat' (first|exact trivial|refine ⟨⟨_,rfl,?_⟩,?_⟩|fail));all_goals try (first|exact Wk.refl _|exact Wk.of_eq (congrArg (AV.int _) (by omega))|fail))
   all_goals exact Wk.of_eq (congrArg (AV.int IntKind.i64) (wrap_small _ (by show _≤p * l.getD k 0;omega) (by show p * l.getD k 0<_;omega)))
 ·have hke:k=l.length:=by omega
  subst hke
  rw [List.drop_length,prodC] at hj
  rw [hj]
  (repeat' ((conv=>whnf);(first|refine IfN.dF (by omega) ?_|refine DrawN.mk' [] ?_|fail)));all_goals (conv=>whnf)
  exact EndN.det trivial (Wk.refl _)
end Go.Proofs.YtgdmldelijeaoaaGreatDoor
/-! text AU41 -/
namespace Go.Proofs.YtgdmldelijeaoaaGreatDoor
open Go.Vsi
set_option maxHeartbeats 4000000
set_option linter.unusedSimpArgs false
attribute [local irreducible] VW VCall VO bits
def rP (n:Nat) (x:SymI):Int:=((2 ^ n ^ x.2.toNat:Nat):Int)
def rF (n:Nat) (x:SymI):Int:=((n ^ n ^ x.2.toNat:Nat):Int)
def rngS (s:Sig) (n:Nat):List Int:=s.preds.map (rP n)++s.funcs.map (rF n)++s.vars.map fun _=>(n:Int)
theorem take_mapD {α:Type} (f:α→Int) (d:α) (l:List α) (k:Nat) (hk:k<l.length):((l.map f).take (k+1)).flatMap enc64=((l.map f).take k).flatMap enc64++[.int .i64 (f (l.getD k d))]:=by
 rw [take_snocD _ (f d) k (by rw [List.length_map];exact hk),List.flatMap_append]
 have:(l.map f).getD k (f d)=f (l.getD k d):=by
  simp [List.getD_eq_getElem?_getD,List.getElem?_eq_getElem hk]
 rw [this]
 rfl
theorem ranges_c (s:Sig) (n:Nat) (hn:1≤n∧n≤3) (l1:s.preds.length≤1000000) (l2:s.funcs.length≤1000000) (l3:s.vars.length≤1000000) (p1:∀ x∈s.preds,0≤x.2∧x.2≤2) (p2:∀ x∈s.funcs,0≤x.2∧x.2≤1) (H:Heap) :
  VDet Tryz.prog 87 [.agg s.cells,.int .i64 (n:Nat)] H (.sl none (rngS s n).length ((rngS s n).flatMap enc64)):=by
 have hsc:s.cells=[.sl none s.preds.length (s.preds.flatMap symI),.sl none s.funcs.length (s.funcs.flatMap symI),.sl none s.vars.length (s.vars.flatMap encS)]:=rfl
 rw [hsc]
 refine fn_det Tryz.E0 Tryz.mx Tryz.func87 (by kernel_rfl) rfl (Nat.le_of_ble_eq_true rfl) rfl fun hcl hbl=>?_
 (repeat' ((conv=>whnf);(first|refine DrawN.mk' [] ?_|fail)));all_goals (conv=>whnf)
 refine LoopN.tok 5 3 1 rfl rfl rfl ?_
 refine loop_R Tryz.E0 Tryz.mx (σ:=Nat) (fun k=>k≤s.preds.length) (fun k=>s.preds.length-k) (fun k=>[(5,.v (.sl (some (H.length+1)) k (((s.preds.map (rP n)).take k).flatMap enc64))),(13,.v (.int .i64 k))]) (fun k=>[.box 58 [.sl none s.preds.length (s.preds.flatMap symI),.sl none s.funcs.length (s.funcs.flatMap symI),.sl none s.vars.length (s.vars.flatMap encS)],.tok 3 1 (((s.preds.map (rP n)).take k).flatMap enc64).length]) _ 0 rfl hcl [1,2,11,12] rfl (Nat.zero_le _) ⟨⟨_,rfl,Wk.refl _⟩,⟨_,rfl,Wk.refl _⟩,trivial⟩ rfl (fun _ _=>rfl) ?_
 intro k hk
 rcases Nat.lt_or_ge k s.preds.length with hlt|hge
 ·have hmem:s.preds.getD k symI0∈s.preds:=by rw [List.getD_eq_getElem?_getD,List.getElem?_eq_getElem hlt];exact List.getElem_mem hlt
  obtain ⟨u,v,hx,e1⟩:=symI_ex (s.preds.getD k symI0)
  have ha:=p1 _ hmem
  have hns:=take_mapD (rP n) symI0 s.preds k hlt
  rw [hx] at ha hns
  simp only at ha
  have hpw:=fun H=>powN_c n v.toNat hn (by omega) H
  rw [show ((v.toNat:Nat):Int)=v by omega] at hpw
  have hq:n ^ v.toNat≤9:=by
   have h1:n ^ v.toNat≤3 ^ v.toNat:=Nat.pow_le_pow_left hn.2 _
   have h2:3 ^ v.toNat≤3 ^ 2:=Nat.pow_le_pow_right (by decide) (by omega)
   omega
  have hrp:rP n (u,v)=((2 ^ n ^ v.toNat:Nat):Int):=rfl
  rw [hrp] at hns
  generalize n ^ v.toNat=q at hpw hq hns
  have hml:(((s.preds.map (rP n)).take k).flatMap enc64).length=k * 1:=by
   rw [flat_length (f:=enc64) (sz:=1) (fun _=>rfl),List.length_take,List.length_map,Nat.min_eq_left hk]
  have hbt:(k+1) * 8≤140737488355328:=by omega
  have hmx:k+1≤maxLen:=Nat.le_trans (show k+1≤1000001 by omega) (by decide)
  (repeat' ((conv=>whnf);(first|refine IfN.dT (by omega) ?_|(refine EqN.id ?_;first|(refine EqN.shlN _ _ Cst.h Cst.h rfl ?_ ?_ ?_;(· (repeat' (first|omega|refine And.intro ?_ ?_|exact bnd_andl (by omega)|exact bnd_andr (by omega)|refine bnd_or ?_ ?_|refine bnd_or31 ?_ ?_|refine bnd_xor ?_ ?_|refine bnd_xor31 ?_ ?_|refine bnd_shr ?_|refine bnd_shl ?_ ?_|refine bnd_mod ?_|refine bnd_andl ?_|fail)));(· (repeat' (first|omega|refine And.intro ?_ ?_|exact bnd_andl (by omega)|exact bnd_andr (by omega)|refine bnd_or ?_ ?_|refine bnd_or31 ?_ ?_|refine bnd_xor ?_ ?_|refine bnd_xor31 ?_ ?_|refine bnd_shr ?_|refine bnd_shl ?_ ?_|refine bnd_mod ?_|refine bnd_andl ?_|fail))))|(refine EqN.addN _ _ Cst.h Cst.h ?_ ?_;· omega)|fail)|(refine SideN.mk ?_ ?_;· first|kernel_rfl|omega|exact List.cons_ne_nil _ _|(simp;done)|(simp;omega)|exact trivial|assumption|fail)|refine CallN.det _ (hpw _) ?_|refine SegN.nthE symI0 k rfl (by omega) symI_size e1 ?_|refine SideN.mk ⟨rfl,rfl,rfl,hbt,hmx⟩ ?_|refine PtrN.loc _ rfl ?_|refine DrawN.mk' [] ?_|fail)));all_goals (conv=>whnf)
  have hns':((s.preds.map (rP n)).take (k+1)).flatMap enc64=((s.preds.map (rP n)).take k).flatMap enc64++[.int .i64 ((1 <<< q:Nat):Int)]:=by rw [Nat.one_shiftLeft];exact hns
  rw [← hns']
  (refine ⟨⟨k+1,by show k+1≤_;omega,by omega,?_,.inl ⟨rfl,rfl⟩,rfl,_,rfl,?_⟩⟩;rotate_left 1;(first|exact .inl rfl|exact .inr ⟨by simp [belowRE,below,belowL,tr,i64_below,symIs_below,strs_below,belowL_append],by simp [belowH,Blk.below,belowL,below,i64_below,symIs_below,strs_below,belowL_append]⟩|fail);(repeat' (first|exact trivial|refine ⟨⟨_,rfl,?_⟩,?_⟩|fail));all_goals try (first|exact Wk.refl _|exact Wk.of_eq (congrArg (AV.int _) (by omega))|fail))
 ·have hke:k=s.preds.length:=by omega
  subst hke
  rw [List.take_of_length_le (by rw [List.length_map];exact Nat.le_refl _)]
  (repeat' ((conv=>whnf);(first|refine IfN.dF (by omega) ?_|refine DrawN.mk' [] ?_|fail)));all_goals (conv=>whnf)
  refine loop_R Tryz.E0 Tryz.mx (σ:=Nat) (fun k=>k≤s.funcs.length) (fun k=>s.funcs.length-k) (fun k=>[(5,.v (.sl (some (H.length+1)) (s.preds.length+k) ((s.preds.map (rP n)).flatMap enc64++((s.funcs.map (rF n)).take k).flatMap enc64))),(29,.v (.int .i64 k))]) (fun k=>[.box 58 [.sl none s.preds.length (s.preds.flatMap symI),.sl none s.funcs.length (s.funcs.flatMap symI),.sl none s.vars.length (s.vars.flatMap encS)],.tok 3 1 ((s.preds.map (rP n)).flatMap enc64++((s.funcs.map (rF n)).take k).flatMap enc64).length]) _ 0 rfl hcl [1,2,27,28] rfl (Nat.zero_le _) ⟨⟨_,rfl,Wk.of_eq (by simp [tr])⟩,⟨_,rfl,Wk.refl _⟩,trivial⟩ (by simp) (fun _ _=>rfl) ?_
  intro k hk
  rcases Nat.lt_or_ge k s.funcs.length with hlt|hge
  ·have hmem:s.funcs.getD k symI0∈s.funcs:=by rw [List.getD_eq_getElem?_getD,List.getElem?_eq_getElem hlt];exact List.getElem_mem hlt
   obtain ⟨u,v,hx,e1⟩:=symI_ex (s.funcs.getD k symI0)
   have ha:=p2 _ hmem
   have hns:=take_mapD (rF n) symI0 s.funcs k hlt
   rw [hx] at ha hns
   simp only at ha
   have hpw:=fun H=>powN_c n v.toNat hn (by omega) H
   rw [show ((v.toNat:Nat):Int)=v by omega] at hpw
   have hq:n ^ v.toNat≤3:=by
    have h1:n ^ v.toNat≤3 ^ v.toNat:=Nat.pow_le_pow_left hn.2 _
    have h2:3 ^ v.toNat≤3 ^ 1:=Nat.pow_le_pow_right (by decide) (by omega)
    omega
   have hrp:rF n (u,v)=((n ^ n ^ v.toNat:Nat):Int):=rfl
   rw [hrp] at hns
   generalize n ^ v.toNat=q at hpw hq hns
   have hpw2:=fun H=>powN_c n q hn (by omega) H
   have hml:((s.preds.map (rP n)).flatMap enc64++((s.funcs.map (rF n)).take k).flatMap enc64).length=(s.preds.length+k) * 1:=by
    rw [List.length_append,flat_length (f:=enc64) (sz:=1) (fun _=>rfl),flat_length (f:=enc64) (sz:=1) (fun _=>rfl),List.length_take,List.length_map,List.length_map,Nat.min_eq_left hk]
    omega
   have hbt:(s.preds.length+k+1) * 8≤140737488355328:=by omega
   have hmx:s.preds.length+k+1≤maxLen:=Nat.le_trans (show s.preds.length+k+1≤2000001 by omega) (by decide)
   (repeat' ((conv=>whnf);(first|refine IfN.dT (by omega) ?_|(refine EqN.addN _ _ Cst.h Cst.h ?_ ?_;· omega)|(refine SideN.mk ?_ ?_;· first|kernel_rfl|omega|exact List.cons_ne_nil _ _|(simp;done)|(simp;omega)|exact trivial|assumption|fail)|(refine CallN.id ?_;first|refine CallN.det _ (hpw _) ?_|refine CallN.det _ (hpw2 _) ?_|fail)|refine SegN.nthE symI0 k rfl (by omega) symI_size e1 ?_|refine SideN.mk ⟨rfl,rfl,rfl,hbt,hmx⟩ ?_|refine PtrN.loc _ rfl ?_|refine DrawN.mk' [] ?_|fail)));all_goals (conv=>whnf)
   rw [List.append_assoc,← hns]
   (refine ⟨⟨k+1,by show k+1≤_;omega,by omega,?_,.inl ⟨rfl,rfl⟩,rfl,_,rfl,?_⟩⟩;rotate_left 1;(first|exact .inl rfl|exact .inr ⟨by simp [belowRE,below,belowL,tr,i64_below,symIs_below,strs_below,belowL_append],by simp [belowH,Blk.below,belowL,below,i64_below,symIs_below,strs_below,belowL_append]⟩|fail);(repeat' (first|exact trivial|refine ⟨⟨_,rfl,?_⟩,?_⟩|fail));all_goals try (first|exact Wk.refl _|exact Wk.of_eq (congrArg (AV.int _) (by omega))|fail))
  ·have hke:k=s.funcs.length:=by omega
   subst hke
   rw [List.take_of_length_le (l:=s.funcs.map (rF n)) (by rw [List.length_map];exact Nat.le_refl _)]
   (repeat' ((conv=>whnf);(first|refine IfN.dF (by omega) ?_|refine DrawN.mk' [] ?_|fail)));all_goals (conv=>whnf)
   refine loop_R Tryz.E0 Tryz.mx (σ:=Nat) (fun k=>k≤s.vars.length) (fun k=>s.vars.length-k) (fun k=>[(5,.v (.sl (some (H.length+1)) (s.preds.length+s.funcs.length+k) ((s.preds.map (rP n)).flatMap enc64++(s.funcs.map (rF n)).flatMap enc64++((s.vars.map fun _=>(n:Int)).take k).flatMap enc64))),(46,.v (.int .i64 k))]) (fun k=>[.box 58 [.sl none s.preds.length (s.preds.flatMap symI),.sl none s.funcs.length (s.funcs.flatMap symI),.sl none s.vars.length (s.vars.flatMap encS)],.tok 3 1 ((s.preds.map (rP n)).flatMap enc64++(s.funcs.map (rF n)).flatMap enc64++((s.vars.map fun _=>(n:Int)).take k).flatMap enc64).length]) _ 0 rfl hcl [1,2,44,45] rfl (Nat.zero_le _) ⟨⟨_,rfl,Wk.of_eq (by simp [tr])⟩,⟨_,rfl,Wk.refl _⟩,trivial⟩ (by simp) (fun _ _=>rfl) ?_
   intro k hk
   rcases Nat.lt_or_ge k s.vars.length with hlt|hge
   ·have hns:=take_mapD (fun _:ByteArray=>(n:Int)) .empty s.vars k hlt
    have hml:((s.preds.map (rP n)).flatMap enc64++(s.funcs.map (rF n)).flatMap enc64++((s.vars.map fun _=>(n:Int)).take k).flatMap enc64).length=(s.preds.length+s.funcs.length+k) * 1:=by
     rw [List.length_append,List.length_append,flat_length (f:=enc64) (sz:=1) (fun _=>rfl),flat_length (f:=enc64) (sz:=1) (fun _=>rfl),flat_length (f:=enc64) (sz:=1) (fun _=>rfl),List.length_take,List.length_map,List.length_map,List.length_map,Nat.min_eq_left hk]
     omega
    have hbt:(s.preds.length+s.funcs.length+k+1) * 8≤140737488355328:=by omega
    have hmx:s.preds.length+s.funcs.length+k+1≤maxLen:=Nat.le_trans (show s.preds.length+s.funcs.length+k+1≤3000001 by omega) (by decide)
    (repeat' ((conv=>whnf);(first|refine IfN.dT (by omega) ?_|(refine EqN.addN _ _ Cst.h Cst.h ?_ ?_;· omega)|refine SideN.mk ⟨rfl,rfl,rfl,hbt,hmx⟩ ?_|refine PtrN.loc _ rfl ?_|refine DrawN.mk' [] ?_|fail)));all_goals (conv=>whnf)
    rw [List.append_assoc _ _ [AV.int .i64 (n:Nat)],← hns]
    (refine ⟨⟨k+1,by show k+1≤_;omega,by omega,?_,.inl ⟨rfl,rfl⟩,rfl,_,rfl,?_⟩⟩;rotate_left 1;(first|exact .inl rfl|exact .inr ⟨by simp [belowRE,below,belowL,tr,i64_below,symIs_below,strs_below,belowL_append],by simp [belowH,Blk.below,belowL,below,i64_below,symIs_below,strs_below,belowL_append]⟩|fail);(repeat' (first|exact trivial|refine ⟨⟨_,rfl,?_⟩,?_⟩|fail));all_goals try (first|exact Wk.refl _|exact Wk.of_eq (congrArg (AV.int _) (by omega))|fail))
   ·have hke:k=s.vars.length:=by omega
    subst hke
    rw [List.take_of_length_le (l:=s.vars.map fun _=>(n:Int)) (by rw [List.length_map];exact Nat.le_refl _)]
    (repeat' ((conv=>whnf);(first|refine IfN.dF (by omega) ?_|refine DrawN.mk' [] ?_|fail)));all_goals (conv=>whnf)
    refine EndN.det (by simp [below,i64_below]) ?_
    have hr:(rngS s n).flatMap enc64=(s.preds.map (rP n)).flatMap enc64++(s.funcs.map (rF n)).flatMap enc64++(s.vars.map fun _=>(n:Int)).flatMap enc64:=by
     unfold rngS
     rw [List.flatMap_append,List.flatMap_append]
    have hr2:(rngS s n).length=s.preds.length+s.funcs.length+s.vars.length:=by
     unfold rngS
     rw [List.length_append,List.length_append,List.length_map,List.length_map,List.length_map]
    rw [hr,hr2]
    exact wk_sl _ _ _
end Go.Proofs.YtgdmldelijeaoaaGreatDoor
/-! text AV41 -/
namespace Go.Proofs.YtgdmldelijeaoaaGreatDoor
open Go.Vsi
set_option maxHeartbeats 4000000
set_option linter.unusedSimpArgs false
attribute [local irreducible] VW VCall VO bits
theorem sig_ar {s:Sig} (h:sigR s=true):(∀ x∈s.preds,0≤x.2∧x.2≤2)∧∀ x∈s.funcs,0≤x.2∧x.2≤1:=by
 unfold sigR at h
 rw [Bool.and_eq_true,Bool.and_eq_true] at h
 refine ⟨fun x hx=>?_,fun x hx=>?_⟩
 ·have hp:=inc_p h.1 x hx
  unfold predO at hp
  simp only [Bool.and_eq_true,decide_eq_true_eq] at hp
  omega
 ·have hp:=inc_p h.2.1 x hx
  unfold funcO at hp
  simp only [Bool.and_eq_true,decide_eq_true_eq] at hp
  omega
theorem rng_pos (s:Sig) (n:Nat) (hn:1≤n):∀ r∈rngS s n,1≤r:=by
 intro r hr
 unfold rngS at hr
 rw [List.mem_append,List.mem_append] at hr
 rcases hr with (hr|hr)|hr
 ·obtain ⟨x,-,rfl⟩:=List.mem_map.1 hr
  have:1≤2 ^ n ^ x.2.toNat:=Nat.one_le_two_pow
  unfold rP
  omega
 ·obtain ⟨x,-,rfl⟩:=List.mem_map.1 hr
  have:1≤n ^ n ^ x.2.toNat:=Nat.one_le_pow _ _ hn
  unfold rF
  omega
 ·obtain ⟨x,-,rfl⟩:=List.mem_map.1 hr
  omega
theorem count_c (s:Sig) (hs:s.Sm) (hr:sigR s=true) (n:Nat) (hn:1≤n∧n≤3) (l1:s.preds.length≤300000) (l2:s.funcs.length≤300000) (l3:s.vars.length≤300000) (H:Heap) :
  VDet Tryz.prog 35 [.agg s.cells,.int .i64 (n:Nat)] H (if 16384<prodC (rngS s n) 1 then .tup [.int .i64 0,.int .i64 5] else .tup [.int .i64 (prodC (rngS s n) 1),.int .i64 0]):=by
 obtain ⟨p1,p2⟩:=sig_ar hr
 have g1:=fun H=>sigR_c s hs H
 have g2:=fun H=>ranges_c s n hn (by omega) (by omega) (by omega) p1 p2 H
 have g3:=fun H=>product_c (rngS s n) (by unfold rngS;simp only [List.length_append,List.length_map];omega) (rng_pos s n hn.1) H
 rw [hr] at g1
 obtain ⟨sp,sc,sfu,sfc,sv,svc,hsc,hsb⟩:∃ a b c d e f,s.cells=[.sl none a b,.sl none c d,.sl none e f]∧∀ n,belowL n b∧belowL n d∧belowL n f:=⟨_,_,_,_,_,_,rfl,fun n=>⟨symIs_below n _,symIs_below n _,strs_below n _⟩⟩
 rw [hsc] at g1 g2 ⊢
 generalize prodC (rngS s n) 1=P at g3 ⊢
 by_cases hP:16384<P
 ·rw [if_pos hP]
  refine fn_det Tryz.E0 Tryz.mx Tryz.func35 (by kernel_rfl) rfl (Nat.le_of_ble_eq_true rfl) rfl fun hcl hbl=>?_
  (repeat' ((conv=>whnf);(first|(refine IfN.id ?_;first|refine IfN.not ?_|refine IfN.tt rfl ?_|refine IfN.dT (by omega) ?_|refine IfN.dF (by omega) ?_|fail)|(refine CallN.id ?_;first|refine CallN.det _ (g1 _) ?_|refine CallN.det _ (g2 _) ?_|refine CallN.det _ (g3 _) ?_|fail)|refine DrawN.mk' [] ?_|fail)));all_goals (conv=>whnf)
  exact EndN.det (by simp [below,belowL]) (Wk.refl _)
 ·rw [if_neg hP]
  refine fn_det Tryz.E0 Tryz.mx Tryz.func35 (by kernel_rfl) rfl (Nat.le_of_ble_eq_true rfl) rfl fun hcl hbl=>?_
  (repeat' ((conv=>whnf);(first|(refine IfN.id ?_;first|refine IfN.not ?_|refine IfN.tt rfl ?_|refine IfN.dF (by omega) ?_|fail)|(refine CallN.id ?_;first|refine CallN.det _ (g1 _) ?_|refine CallN.det _ (g2 _) ?_|refine CallN.det _ (g3 _) ?_|fail)|refine DrawN.mk' [] ?_|fail)));all_goals (conv=>whnf)
  exact EndN.det (by simp [below,belowL]) (Wk.refl _)
end Go.Proofs.YtgdmldelijeaoaaGreatDoor
/-! text AW41 -/
namespace Go.Proofs.YtgdmldelijeaoaaGreatDoor
open Go.Vsi
set_option maxHeartbeats 4000000
set_option linter.unusedSimpArgs false
attribute [local irreducible] VW VCall VO bits
def encN (x:Nat):List AV:=[.int .i64 (x:Nat)]
theorem number_c (n:Nat) (hn:1≤n∧n≤3) (l:List Nat) (hl:l.length≤10) (h1:∀ v∈l,v<n) (H:Heap):VDet Tryz.prog 104 [.sl none l.length (l.flatMap encN),.int .i64 (n:Nat)] H (.int .i64 ((numN n l:Nat):Int)):=by
 have hb:∀ k,numN n (l.take k)<59049:=by
  intro k
  have h2:=num_lt (show 0<n by omega) (l.take k) fun v hv=>h1 v (List.mem_of_mem_take hv)
  have h3:n ^ (l.take k).length≤3 ^ (l.take k).length:=Nat.pow_le_pow_left hn.2 _
  have h4:3 ^ (l.take k).length≤3 ^ 10:=Nat.pow_le_pow_right (by decide) (by rw [List.length_take];omega)
  omega
 refine fn_det Tryz.E0 Tryz.mx Tryz.func104 (by kernel_rfl) rfl (Nat.le_of_ble_eq_true rfl) rfl fun hcl hbl=>?_
 (repeat' ((conv=>whnf);(first|refine DrawN.mk' [] ?_|fail)));all_goals (conv=>whnf)
 refine loop_R Tryz.E0 Tryz.mx (σ:=Nat) (fun k=>k≤l.length) (fun k=>l.length-k) (fun k=>[(10,.v (.int .i64 k)),(5,.v (.int .i64 (numN n (l.take k):Nat)))]) (fun _=>[]) _ 0 rfl hcl [1,8,9] rfl (Nat.zero_le _) ⟨⟨_,rfl,Wk.refl _⟩,⟨_,rfl,Wk.refl _⟩,trivial⟩ rfl (fun _ _=>rfl) ?_
 intro k hk
 rcases Nat.lt_or_ge k l.length with hlt|hge
 ·have hs:numN n (l.take (k+1))=numN n (l.take k) * n+l.getD k 0:=foldl_takeB (fun b v=>b * n+v) 0 0 l k hlt
  have b1:=hb k
  have b2:=hb (k+1)
  have b3:numN n (l.take k) * n≤59049:=by omega
  (repeat' ((conv=>whnf);(first|refine IfN.dT (by omega) ?_|(refine EqN.id ?_;first|(refine EqN.addN _ _ Cst.h Cst.h ?_ ?_;· omega)|(refine EqN.mulN _ _ Cst.h Cst.h ?_ ?_;· omega)|fail)|(refine SideN.mk ?_ ?_;· first|kernel_rfl|omega|exact List.cons_ne_nil _ _|(simp;done)|(simp;omega)|exact trivial|assumption|fail)|refine SegN.nth (f:=encN) 0 k rfl (by omega) (fun _=>rfl) ?_|refine DrawN.mk' [] ?_|fail)));all_goals (conv=>whnf)
  (refine ⟨⟨k+1,by show k+1≤_;omega,by omega,?_,.inl ⟨rfl,rfl⟩,rfl,_,rfl,?_⟩⟩;rotate_left 1;(first|exact .inl rfl|exact .inr ⟨by simp [belowRE,below,belowL,tr,i64_below],by simp [belowH,Blk.below,belowL,below,i64_below]⟩|fail);(repeat' (first|exact trivial|refine ⟨⟨_,rfl,?_⟩,?_⟩|fail));all_goals try (first|exact Wk.refl _|exact Wk.of_eq (congrArg (AV.int _) (by omega))|fail))
 ·have hke:k=l.length:=by omega
  subst hke
  rw [List.take_length]
  (repeat' ((conv=>whnf);(first|refine IfN.dF (by omega) ?_|refine DrawN.mk' [] ?_|fail)));all_goals (conv=>whnf)
  exact EndN.det trivial (Wk.refl _)
end Go.Proofs.YtgdmldelijeaoaaGreatDoor
/-! text AX41 -/
namespace Go.Proofs.YtgdmldelijeaoaaGreatDoor
open Go.Vsi
set_option maxHeartbeats 4000000
set_option linter.unusedSimpArgs false
attribute [local irreducible] VW VCall VO bits
def permN (n k:Nat):List Nat:=match n with
 | 1=>[0]
 | 2=>if k % 2=0 then [0,1] else [1,0]
 | _=>match k % 6 with
   | 0=>[0,1,2]
   | 1=>[1,0,2]
   | 2=>[2,1,0]
   | 3=>[0,2,1]
   | 4=>[1,2,0]
   | _=>[2,0,1]
end Go.Proofs.YtgdmldelijeaoaaGreatDoor
/-! text AY41 -/
namespace Go.Proofs.YtgdmldelijeaoaaGreatDoor
open Go.Vsi
set_option maxHeartbeats 4000000
set_option linter.unusedSimpArgs false
attribute [local irreducible] VW VCall VO bits
theorem term67_c (k:Nat) (hk:k≤255) (H:Heap):VDet Tryz.prog 67 [.int .u8 k] H (.agg (tqx (bTm k))):=by
 have h:=fun H=>bTx k hk H
 unfold tqx at h ⊢
 refine fn_det Tryz.E0 Tryz.mx Tryz.func67 (by kernel_rfl) rfl (Nat.le_of_ble_eq_true rfl) rfl fun hcl hbl=>?_
 (repeat' ((conv=>whnf);(first|refine CallN.det _ (h _) ?_|refine DrawN.mk' [] ?_|fail)));all_goals (conv=>whnf)
 exact EndN.det (by simp [below,belowL,tql_below]) (Wk.refl _)
end Go.Proofs.YtgdmldelijeaoaaGreatDoor
/-! text AZ41 -/
namespace Go.Proofs.YtgdmldelijeaoaaGreatDoor
open Go.Vsi
set_option maxHeartbeats 4000000
set_option linter.unusedSimpArgs false
attribute [local irreducible] VW VCall VO bits
theorem encN_below (n:Nat) (l:List Nat):belowL n (l.flatMap encN):=belowL_flat _ fun x=>by simp [encN,belowL,below]
theorem EqN.quoB {m n:Nat} {x y:Int} {k:Int→Prop} (hx:x=m) (hy:y=n) (hn:1≤n) (hm:m≤9223372036854775807) (a:k ((m / n:Nat):Int)):EqN (IntKind.i64.wrap (x.tdiv y)) k:=by
 subst hx
 subst hy
 refine EqN.quo ⟨by omega,by omega,by omega⟩ ?_
 rwa [← Int.natCast_ediv]
theorem digits_w (n b k:Nat) (hb:1≤b) (hn:n≤9223372036854775807) (hk:k≤3) (H:Heap) (i:Nat) (hi:H.length=i):VCall Tryz.prog 92 [.int .i64 (n:Nat),.int .i64 (b:Nat),.int .i64 (k:Nat)] H (fun r H'=>r=.ms i 0 k∧H'=H++[.box 3 ((digN b k n).flatMap encN)]):=by
 subst hi
 have d1:=Nat.div_le_self n b
 have d2:=Nat.div_le_self (n / b) b
 have d3:=Nat.div_le_self (n / b / b) b
 have:k=0∨k=1∨k=2∨k=3:=by omega
 rcases this with rfl|rfl|rfl|rfl
 all_goals
  refine fn_gen Tryz.E0 Tryz.mx Tryz.func92 (by kernel_rfl) rfl (Nat.le_of_ble_eq_true rfl) rfl fun hcl hbl=>?_
  (repeat' ((conv=>whnf);(first|refine OrN.natL ?_|(refine EqN.id ?_;first|(refine EqN.subN _ _ Cst.h Cst.h ?_ ?_;· omega)|refine EqN.i64 (by omega) ?_|fail)|(refine SideN.mk ?_ ?_;· first|kernel_rfl|omega|exact List.cons_ne_nil _ _|(simp;done)|(simp;omega)|exact trivial|assumption|fail)|refine NatN.mk _ rfl ?_|refine OrN.r ?_|refine DrawN.mk' [] ?_|fail)));all_goals (conv=>whnf)
  refine LoopN.rounds Tryz.E0 Tryz.mx 4 rfl ?_
  (repeat' ((conv=>whnf);(first|(refine IfN.id ?_;first|refine IfN.tt rfl ?_|refine IfN.ff rfl ?_|fail)|(refine EqN.id ?_;first|with_reducible refine EqN.quoB rfl rfl hb (by omega) ?_|(refine EqN.subN _ _ Cst.h Cst.h ?_ ?_;· omega)|refine EqN.remN _ _ Cst.h Cst.h ?_|refine EqN.i64 (by omega) ?_|fail)|(refine SideN.mk ?_ ?_;· first|kernel_rfl|omega|exact List.cons_ne_nil _ _|(simp;done)|(simp;omega)|exact trivial|assumption|fail)|refine PtrN.loc _ rfl ?_|refine OfsN.at_ (by omega) ?_|refine DrawN.mk' [] ?_|fail)));all_goals (conv=>whnf)
  exact EndN.keep _ (Wk.refl _) ⟨rfl,rfl⟩
theorem digits_c (n b k:Nat) (hb:1≤b) (hn:n≤9223372036854775807) (hk:k≤3) (H:Heap):VDet Tryz.prog 92 [.int .i64 (n:Nat),.int .i64 (b:Nat),.int .i64 (k:Nat)] H (.sl none k ((digN b k n).flatMap encN)):=by
 have d1:=Nat.div_le_self n b
 have d2:=Nat.div_le_self (n / b) b
 have d3:=Nat.div_le_self (n / b / b) b
 have:k=0∨k=1∨k=2∨k=3:=by omega
 rcases this with rfl|rfl|rfl|rfl
 all_goals
  refine fn_det Tryz.E0 Tryz.mx Tryz.func92 (by kernel_rfl) rfl (Nat.le_of_ble_eq_true rfl) rfl fun hcl hbl=>?_
  (repeat' ((conv=>whnf);(first|refine OrN.natL ?_|(refine EqN.id ?_;first|(refine EqN.subN _ _ Cst.h Cst.h ?_ ?_;· omega)|refine EqN.i64 (by omega) ?_|fail)|(refine SideN.mk ?_ ?_;· first|kernel_rfl|omega|exact List.cons_ne_nil _ _|(simp;done)|(simp;omega)|exact trivial|assumption|fail)|refine NatN.mk _ rfl ?_|refine OrN.r ?_|refine DrawN.mk' [] ?_|fail)));all_goals (conv=>whnf)
  refine LoopN.rounds Tryz.E0 Tryz.mx 4 rfl ?_
  (repeat' ((conv=>whnf);(first|(refine IfN.id ?_;first|refine IfN.tt rfl ?_|refine IfN.ff rfl ?_|fail)|(refine EqN.id ?_;first|with_reducible refine EqN.quoB rfl rfl hb (by omega) ?_|(refine EqN.subN _ _ Cst.h Cst.h ?_ ?_;· omega)|refine EqN.remN _ _ Cst.h Cst.h ?_|refine EqN.i64 (by omega) ?_|fail)|(refine SideN.mk ?_ ?_;· first|kernel_rfl|omega|exact List.cons_ne_nil _ _|(simp;done)|(simp;omega)|exact trivial|assumption|fail)|refine PtrN.loc _ rfl ?_|refine OfsN.at_ (by omega) ?_|refine DrawN.mk' [] ?_|fail)));all_goals (conv=>whnf)
  exact EndN.detF (u':=.sl none _ _) (by simp [below,encN_below]) (Frz.ms (by exact rfl) (by exact rfl) (FrzL.refl _)) (Wk.refl _)
theorem num_own (n:Nat) (hn:1≤n∧n≤3) (l:List Nat) (hl:l.length≤10) (h1:∀ v∈l,v<n) (H:Heap) (i:Nat) (hi:H[i]? = some (.box 3 (l.flatMap encN))):VDet Tryz.prog 104 [.ms i 0 l.length,.int .i64 (n:Nat)] H (.int .i64 ((numN n l:Nat):Int)) :=
 VDet.lend (as':=[.sl none l.length (l.flatMap encN),.int .i64 (n:Nat)]) (fun H=>number_c n hn l hl h1 H) (.cons (.ms hi rfl (LendL.refl _)) (LendL.refl _)) rfl
theorem mov_c (t n k:Nat) (p:List Nat) (hn:1≤n∧n≤3) (ht:t≤9223372036854775807) (hk:k≤2) (hp:PermOk n p) (H:Heap):VDet Tryz.prog 106 [.int .i64 (t:Nat),.int .i64 (n:Nat),.int .i64 (k:Nat),.sl none p.length (p.flatMap encN)] H (.int .i64 (mvN n p k t:Nat)):=by
 have hd:=fun H i hi=>digits_w t n k hn.1 ht (by omega) H i hi
 have m1:t % n<n:=Nat.mod_lt _ (by omega)
 have m2:t / n % n<n:=Nat.mod_lt _ (by omega)
 have l1:=hp.lt _ m1
 have l2:=hp.lt _ m2
 have hlen:=hp.len
 have:k=0∨k=1∨k=2:=by omega
 rcases this with rfl|rfl|rfl
 ·have hnu:=fun H i hi=>num_own n hn [] (by simp) (fun v hv=>by cases hv) H i hi
  refine fn_det Tryz.E0 Tryz.mx Tryz.func106 (by kernel_rfl) rfl (Nat.le_of_ble_eq_true rfl) rfl fun hcl hbl=>?_
  (repeat' ((conv=>whnf);(first|refine CallN.grow _ _ _ 1 (hd _ (H.length+0) (by simp)) rfl rfl rfl ?_|refine DrawN.mk' [] ?_|fail)));all_goals (conv=>whnf)
  refine LoopN.rounds Tryz.E0 Tryz.mx 1 rfl ?_
  (repeat' ((conv=>whnf);(first|refine IfN.ff rfl ?_|refine CallN.det _ (hnu _ _ (at_loc0 rfl)) ?_|refine DrawN.mk' [] ?_|fail)));all_goals (conv=>whnf)
  exact EndN.det trivial (Wk.refl _)
 ·have hnu:=fun H i hi=>num_own n hn [p.getD (t % n) 0] (by simp) (fun v hv=>by rw [List.mem_singleton.1 hv];exact l1) H i hi
  refine fn_det Tryz.E0 Tryz.mx Tryz.func106 (by kernel_rfl) rfl (Nat.le_of_ble_eq_true rfl) rfl fun hcl hbl=>?_
  (repeat' ((conv=>whnf);(first|refine CallN.grow _ _ _ 1 (hd _ (H.length+0) (by simp)) rfl rfl rfl ?_|refine DrawN.mk' [] ?_|fail)));all_goals (conv=>whnf)
  refine LoopN.rounds Tryz.E0 Tryz.mx 2 rfl ?_
  (repeat' ((conv=>whnf);(first|(refine IfN.id ?_;first|refine IfN.tt rfl ?_|refine IfN.ff rfl ?_|fail)|(refine EqN.addN _ _ Cst.h Cst.h ?_ ?_;· omega)|(refine SideN.mk ?_ ?_;· first|kernel_rfl|omega|exact List.cons_ne_nil _ _|(simp;done)|(simp;omega)|exact trivial|assumption|fail)|refine CallN.det _ (hnu _ _ (at_loc0 rfl)) ?_|refine SegN.nth (f:=encN) 0 (t % n) rfl (by omega) (fun _=>rfl) ?_|refine PtrN.loc _ rfl ?_|refine OfsN.at_ (by omega) ?_|refine DrawN.mk' [] ?_|fail)));all_goals (conv=>whnf)
  exact EndN.det trivial (Wk.refl _)
 ·have hnu:=fun H i hi=>num_own n hn [p.getD (t / n % n) 0,p.getD (t % n) 0] (by simp) (fun v hv=>by
   rcases List.mem_cons.1 hv with h|h
   ·rw [h];exact l2
   ·rw [List.mem_singleton.1 h];exact l1) H i hi
  refine fn_det Tryz.E0 Tryz.mx Tryz.func106 (by kernel_rfl) rfl (Nat.le_of_ble_eq_true rfl) rfl fun hcl hbl=>?_
  (repeat' ((conv=>whnf);(first|refine CallN.grow _ _ _ 1 (hd _ (H.length+0) (by simp)) rfl rfl rfl ?_|refine DrawN.mk' [] ?_|fail)));all_goals (conv=>whnf)
  refine LoopN.rounds Tryz.E0 Tryz.mx 3 rfl ?_
  (repeat' ((conv=>whnf);(first|(refine IfN.id ?_;first|refine IfN.tt rfl ?_|refine IfN.ff rfl ?_|fail)|(refine EqN.addN _ _ Cst.h Cst.h ?_ ?_;· omega)|(refine SideN.mk ?_ ?_;· first|kernel_rfl|omega|exact List.cons_ne_nil _ _|(simp;done)|(simp;omega)|exact trivial|assumption|fail)|refine CallN.det _ (hnu _ _ (at_loc0 rfl)) ?_|refine SegN.nth (f:=encN) 0 (t % n) rfl (by omega) (fun _=>rfl) ?_|refine SegN.nth (f:=encN) 0 (t / n % n) rfl (by omega) (fun _=>rfl) ?_|refine PtrN.loc _ rfl ?_|refine OfsN.at_ (by omega) ?_|refine DrawN.mk' [] ?_|fail)));all_goals (conv=>whnf)
  exact EndN.det trivial (Wk.refl _)
end Go.Proofs.YtgdmldelijeaoaaGreatDoor
/-! text BA41 -/
namespace Go.Proofs.YtgdmldelijeaoaaGreatDoor
open Go.Vsi
set_option maxHeartbeats 4000000
set_option linter.unusedSimpArgs false
attribute [local irreducible] VW VCall VO bits
def pgo (n:Nat) (s:Nat→Bool):List Int→Bool
 | []=>true
 | a::l=>if a<0∨(n:Int)≤a∨s a.toNat=true then false else pgo n (fun v=>v==a.toNat || s v) l
def permB (n:Nat) (p:List Int):Bool:=decide (p.length=n)&&pgo n (fun _=>false) p
theorem permutes_c1 (p:List Int) (hl:p.length=1) (H:Heap):VDet Tryz.prog 105 [.sl none p.length (p.flatMap enc64),.int .i64 (1:Nat)] H (.bool (pgo 1 (fun _=>false) p)):=by
 refine fn_det Tryz.E0 Tryz.mx Tryz.func105 (by kernel_rfl) rfl (Nat.le_of_ble_eq_true rfl) rfl fun hcl hbl=>?_
 (repeat' ((conv=>whnf);(first|refine OrN.natL ?_|(refine IfN.id ?_;first|refine IfN.not ?_|refine IfN.dT (by omega) ?_|fail)|(refine SideN.mk ?_ ?_;· first|kernel_rfl|omega|exact List.cons_ne_nil _ _|(simp;done)|(simp;omega)|exact trivial|assumption|fail)|refine NatN.mk _ rfl ?_|refine OrN.r ?_|refine DrawN.mk' [] ?_|fail)));all_goals (conv=>whnf)
 refine loop_R Tryz.E0 Tryz.mx (σ:=Nat×(Nat→Bool)) (fun q=>q.1≤p.length∧pgo 1 (fun _=>false) p=pgo 1 q.2 (p.drop q.1)) (fun q=>p.length-q.1) (fun q=>[(16,.v (.int .i64 q.1))]) (fun q=>[.box 4 [.bool (q.2 0)]]) _ (0,fun _=>false) rfl hcl [1,5,14,15] rfl ⟨Nat.zero_le _,rfl⟩ ⟨⟨_,rfl,Wk.refl _⟩,trivial⟩ rfl (fun _ _=>rfl) ?_
 rintro ⟨k,s⟩ ⟨hk,hj⟩
 simp only at hk hj
 rcases Nat.lt_or_ge k p.length with hlt|hge
 ·rw [drop_cons p 0 k hlt,pgo] at hj
  obtain ⟨a,ha⟩:∃ a,a=p.getD k 0:=⟨_,rfl⟩
  have e1:enc64 (p.getD k 0)=[.int .i64 a]:=by rw [ha];rfl
  rw [← ha] at hj
  by_cases h1:a<0
  ·rw [if_pos (.inl h1)] at hj
   rw [hj]
   (repeat' ((conv=>whnf);(first|refine IfN.dT (by omega) ?_|(refine SideN.mk ?_ ?_;· first|kernel_rfl|omega|exact List.cons_ne_nil _ _|(simp;done)|(simp;omega)|exact trivial|assumption|fail)|refine SegN.nthE (f:=enc64) 0 k rfl (by omega) i64_size e1 ?_|refine DrawN.mk' [] ?_|fail)));all_goals (conv=>whnf)
   exact EndN.det trivial (Wk.refl _)
  ·by_cases h2:1≤a
   ·rw [if_pos (.inr (.inl h2))] at hj
    rw [hj]
    (repeat' ((conv=>whnf);(first|(refine IfN.id ?_;first|refine IfN.dT (by omega) ?_|refine IfN.dF (by omega) ?_|fail)|(refine SideN.mk ?_ ?_;· first|kernel_rfl|omega|exact List.cons_ne_nil _ _|(simp;done)|(simp;omega)|exact trivial|assumption|fail)|refine SegN.nthE (f:=enc64) 0 k rfl (by omega) i64_size e1 ?_|refine DrawN.mk' [] ?_|fail)));all_goals (conv=>whnf)
    exact EndN.det trivial (Wk.refl _)
   ·obtain ⟨d,rfl⟩:∃ d:Nat,a=d:=⟨a.toNat,by omega⟩
    rw [Int.toNat_natCast] at hj
    have hd:d=0:=by omega
    rcases hd with rfl
    all_goals
     cases hb:s _ <;> rw [hb] at hj
     ·rw [if_neg (by simp)] at hj
      (repeat' ((conv=>whnf);(first|(refine IfN.id ?_;first|refine IfN.ff rfl ?_|refine IfN.dT (by omega) ?_|refine IfN.ff (by assumption) ?_|fail)|(refine EqN.addN _ _ Cst.h Cst.h ?_ ?_;· omega)|(refine SideN.mk ?_ ?_;· first|kernel_rfl|omega|exact List.cons_ne_nil _ _|(simp;done)|(simp;omega)|exact trivial|assumption|fail)|refine SegN.nthE (f:=enc64) 0 k rfl (by omega) i64_size e1 ?_|refine PtrN.loc _ rfl ?_|refine OfsN.at_ (by omega) ?_|refine DrawN.mk' [] ?_|fail)));all_goals (conv=>whnf)
      (refine ⟨⟨(k+1,fun v=>v==_ || s v),⟨by show k+1≤_;omega,hj⟩,by omega,?_,.inl ⟨rfl,rfl⟩,rfl,_,rfl,?_⟩⟩;rotate_left 1;(first|exact .inl rfl|exact .inr ⟨by simp [belowRE,below,belowL,tr,i64_below,encN_below],by simp [belowH,Blk.below,belowL,below,i64_below,encN_below]⟩|fail);(repeat' (first|exact trivial|refine ⟨⟨_,rfl,?_⟩,?_⟩|fail));all_goals try (first|exact Wk.refl _|exact Wk.of_eq (congrArg (AV.int _) (by omega))|fail))
     ·rw [if_pos (.inr (.inr rfl))] at hj
      rw [hj]
      (repeat' ((conv=>whnf);(first|(refine IfN.id ?_;first|refine IfN.ff rfl ?_|refine IfN.dT (by omega) ?_|refine IfN.tt (by assumption) ?_|fail)|(refine SideN.mk ?_ ?_;· first|kernel_rfl|omega|exact List.cons_ne_nil _ _|(simp;done)|(simp;omega)|exact trivial|assumption|fail)|refine SegN.nthE (f:=enc64) 0 k rfl (by omega) i64_size e1 ?_|refine PtrN.loc _ rfl ?_|refine OfsN.at_ (by omega) ?_|refine DrawN.mk' [] ?_|fail)));all_goals (conv=>whnf)
      exact EndN.det trivial (Wk.refl _)
 ·have hke:k=p.length:=by omega
  subst hke
  rw [List.drop_length,pgo] at hj
  rw [hj]
  (repeat' ((conv=>whnf);(first|refine IfN.dF (by omega) ?_|refine DrawN.mk' [] ?_|fail)));all_goals (conv=>whnf)
  exact EndN.det trivial (Wk.refl _)
theorem permutes_c2 (p:List Int) (hl:p.length=2) (H:Heap):VDet Tryz.prog 105 [.sl none p.length (p.flatMap enc64),.int .i64 (2:Nat)] H (.bool (pgo 2 (fun _=>false) p)):=by
 refine fn_det Tryz.E0 Tryz.mx Tryz.func105 (by kernel_rfl) rfl (Nat.le_of_ble_eq_true rfl) rfl fun hcl hbl=>?_
 (repeat' ((conv=>whnf);(first|refine OrN.natL ?_|(refine IfN.id ?_;first|refine IfN.not ?_|refine IfN.dT (by omega) ?_|fail)|(refine SideN.mk ?_ ?_;· first|kernel_rfl|omega|exact List.cons_ne_nil _ _|(simp;done)|(simp;omega)|exact trivial|assumption|fail)|refine NatN.mk _ rfl ?_|refine OrN.r ?_|refine DrawN.mk' [] ?_|fail)));all_goals (conv=>whnf)
 refine loop_R Tryz.E0 Tryz.mx (σ:=Nat×(Nat→Bool)) (fun q=>q.1≤p.length∧pgo 2 (fun _=>false) p=pgo 2 q.2 (p.drop q.1)) (fun q=>p.length-q.1) (fun q=>[(16,.v (.int .i64 q.1))]) (fun q=>[.box 4 [.bool (q.2 0),.bool (q.2 1)]]) _ (0,fun _=>false) rfl hcl [1,5,14,15] rfl ⟨Nat.zero_le _,rfl⟩ ⟨⟨_,rfl,Wk.refl _⟩,trivial⟩ rfl (fun _ _=>rfl) ?_
 rintro ⟨k,s⟩ ⟨hk,hj⟩
 simp only at hk hj
 rcases Nat.lt_or_ge k p.length with hlt|hge
 ·rw [drop_cons p 0 k hlt,pgo] at hj
  obtain ⟨a,ha⟩:∃ a,a=p.getD k 0:=⟨_,rfl⟩
  have e1:enc64 (p.getD k 0)=[.int .i64 a]:=by rw [ha];rfl
  rw [← ha] at hj
  by_cases h1:a<0
  ·rw [if_pos (.inl h1)] at hj
   rw [hj]
   (repeat' ((conv=>whnf);(first|refine IfN.dT (by omega) ?_|(refine SideN.mk ?_ ?_;· first|kernel_rfl|omega|exact List.cons_ne_nil _ _|(simp;done)|(simp;omega)|exact trivial|assumption|fail)|refine SegN.nthE (f:=enc64) 0 k rfl (by omega) i64_size e1 ?_|refine DrawN.mk' [] ?_|fail)));all_goals (conv=>whnf)
   exact EndN.det trivial (Wk.refl _)
  ·by_cases h2:2≤a
   ·rw [if_pos (.inr (.inl h2))] at hj
    rw [hj]
    (repeat' ((conv=>whnf);(first|(refine IfN.id ?_;first|refine IfN.dT (by omega) ?_|refine IfN.dF (by omega) ?_|fail)|(refine SideN.mk ?_ ?_;· first|kernel_rfl|omega|exact List.cons_ne_nil _ _|(simp;done)|(simp;omega)|exact trivial|assumption|fail)|refine SegN.nthE (f:=enc64) 0 k rfl (by omega) i64_size e1 ?_|refine DrawN.mk' [] ?_|fail)));all_goals (conv=>whnf)
    exact EndN.det trivial (Wk.refl _)
   ·obtain ⟨d,rfl⟩:∃ d:Nat,a=d:=⟨a.toNat,by omega⟩
    rw [Int.toNat_natCast] at hj
    have hd:d=0∨d=1:=by omega
    rcases hd with rfl|rfl
    all_goals
     cases hb:s _ <;> rw [hb] at hj
     ·rw [if_neg (by simp)] at hj
      (repeat' ((conv=>whnf);(first|(refine IfN.id ?_;first|refine IfN.ff rfl ?_|refine IfN.dT (by omega) ?_|refine IfN.ff (by assumption) ?_|fail)|(refine EqN.addN _ _ Cst.h Cst.h ?_ ?_;· omega)|(refine SideN.mk ?_ ?_;· first|kernel_rfl|omega|exact List.cons_ne_nil _ _|(simp;done)|(simp;omega)|exact trivial|assumption|fail)|refine SegN.nthE (f:=enc64) 0 k rfl (by omega) i64_size e1 ?_|refine PtrN.loc _ rfl ?_|refine OfsN.at_ (by omega) ?_|refine DrawN.mk' [] ?_|fail)));all_goals (conv=>whnf)
      (refine ⟨⟨(k+1,fun v=>v==_ || s v),⟨by show k+1≤_;omega,hj⟩,by omega,?_,.inl ⟨rfl,rfl⟩,rfl,_,rfl,?_⟩⟩;rotate_left 1;(first|exact .inl rfl|exact .inr ⟨by simp [belowRE,below,belowL,tr,i64_below,encN_below],by simp [belowH,Blk.below,belowL,below,i64_below,encN_below]⟩|fail);(repeat' (first|exact trivial|refine ⟨⟨_,rfl,?_⟩,?_⟩|fail));all_goals try (first|exact Wk.refl _|exact Wk.of_eq (congrArg (AV.int _) (by omega))|fail))
     ·rw [if_pos (.inr (.inr rfl))] at hj
      rw [hj]
      (repeat' ((conv=>whnf);(first|(refine IfN.id ?_;first|refine IfN.ff rfl ?_|refine IfN.dT (by omega) ?_|refine IfN.tt (by assumption) ?_|fail)|(refine SideN.mk ?_ ?_;· first|kernel_rfl|omega|exact List.cons_ne_nil _ _|(simp;done)|(simp;omega)|exact trivial|assumption|fail)|refine SegN.nthE (f:=enc64) 0 k rfl (by omega) i64_size e1 ?_|refine PtrN.loc _ rfl ?_|refine OfsN.at_ (by omega) ?_|refine DrawN.mk' [] ?_|fail)));all_goals (conv=>whnf)
      exact EndN.det trivial (Wk.refl _)
 ·have hke:k=p.length:=by omega
  subst hke
  rw [List.drop_length,pgo] at hj
  rw [hj]
  (repeat' ((conv=>whnf);(first|refine IfN.dF (by omega) ?_|refine DrawN.mk' [] ?_|fail)));all_goals (conv=>whnf)
  exact EndN.det trivial (Wk.refl _)
theorem permutes_c3 (p:List Int) (hl:p.length=3) (H:Heap):VDet Tryz.prog 105 [.sl none p.length (p.flatMap enc64),.int .i64 (3:Nat)] H (.bool (pgo 3 (fun _=>false) p)):=by
 refine fn_det Tryz.E0 Tryz.mx Tryz.func105 (by kernel_rfl) rfl (Nat.le_of_ble_eq_true rfl) rfl fun hcl hbl=>?_
 (repeat' ((conv=>whnf);(first|refine OrN.natL ?_|(refine IfN.id ?_;first|refine IfN.not ?_|refine IfN.dT (by omega) ?_|fail)|(refine SideN.mk ?_ ?_;· first|kernel_rfl|omega|exact List.cons_ne_nil _ _|(simp;done)|(simp;omega)|exact trivial|assumption|fail)|refine NatN.mk _ rfl ?_|refine OrN.r ?_|refine DrawN.mk' [] ?_|fail)));all_goals (conv=>whnf)
 refine loop_R Tryz.E0 Tryz.mx (σ:=Nat×(Nat→Bool)) (fun q=>q.1≤p.length∧pgo 3 (fun _=>false) p=pgo 3 q.2 (p.drop q.1)) (fun q=>p.length-q.1) (fun q=>[(16,.v (.int .i64 q.1))]) (fun q=>[.box 4 [.bool (q.2 0),.bool (q.2 1),.bool (q.2 2)]]) _ (0,fun _=>false) rfl hcl [1,5,14,15] rfl ⟨Nat.zero_le _,rfl⟩ ⟨⟨_,rfl,Wk.refl _⟩,trivial⟩ rfl (fun _ _=>rfl) ?_
 rintro ⟨k,s⟩ ⟨hk,hj⟩
 simp only at hk hj
 rcases Nat.lt_or_ge k p.length with hlt|hge
 ·rw [drop_cons p 0 k hlt,pgo] at hj
  obtain ⟨a,ha⟩:∃ a,a=p.getD k 0:=⟨_,rfl⟩
  have e1:enc64 (p.getD k 0)=[.int .i64 a]:=by rw [ha];rfl
  rw [← ha] at hj
  by_cases h1:a<0
  ·rw [if_pos (.inl h1)] at hj
   rw [hj]
   (repeat' ((conv=>whnf);(first|refine IfN.dT (by omega) ?_|(refine SideN.mk ?_ ?_;· first|kernel_rfl|omega|exact List.cons_ne_nil _ _|(simp;done)|(simp;omega)|exact trivial|assumption|fail)|refine SegN.nthE (f:=enc64) 0 k rfl (by omega) i64_size e1 ?_|refine DrawN.mk' [] ?_|fail)));all_goals (conv=>whnf)
   exact EndN.det trivial (Wk.refl _)
  ·by_cases h2:3≤a
   ·rw [if_pos (.inr (.inl h2))] at hj
    rw [hj]
    (repeat' ((conv=>whnf);(first|(refine IfN.id ?_;first|refine IfN.dT (by omega) ?_|refine IfN.dF (by omega) ?_|fail)|(refine SideN.mk ?_ ?_;· first|kernel_rfl|omega|exact List.cons_ne_nil _ _|(simp;done)|(simp;omega)|exact trivial|assumption|fail)|refine SegN.nthE (f:=enc64) 0 k rfl (by omega) i64_size e1 ?_|refine DrawN.mk' [] ?_|fail)));all_goals (conv=>whnf)
    exact EndN.det trivial (Wk.refl _)
   ·obtain ⟨d,rfl⟩:∃ d:Nat,a=d:=⟨a.toNat,by omega⟩
    rw [Int.toNat_natCast] at hj
    have hd:d=0∨d=1∨d=2:=by omega
    rcases hd with rfl|rfl|rfl
    all_goals
     cases hb:s _ <;> rw [hb] at hj
     ·rw [if_neg (by simp)] at hj
      (repeat' ((conv=>whnf);(first|(refine IfN.id ?_;first|refine IfN.ff rfl ?_|refine IfN.dT (by omega) ?_|refine IfN.ff (by assumption) ?_|fail)|(refine EqN.addN _ _ Cst.h Cst.h ?_ ?_;· omega)|(refine SideN.mk ?_ ?_;· first|kernel_rfl|omega|exact List.cons_ne_nil _ _|(simp;done)|(simp;omega)|exact trivial|assumption|fail)|refine SegN.nthE (f:=enc64) 0 k rfl (by omega) i64_size e1 ?_|refine PtrN.loc _ rfl ?_|refine OfsN.at_ (by omega) ?_|refine DrawN.mk' [] ?_|fail)));all_goals (conv=>whnf)
      (refine ⟨⟨(k+1,fun v=>v==_ || s v),⟨by show k+1≤_;omega,hj⟩,by omega,?_,.inl ⟨rfl,rfl⟩,rfl,_,rfl,?_⟩⟩;rotate_left 1;(first|exact .inl rfl|exact .inr ⟨by simp [belowRE,below,belowL,tr,i64_below,encN_below],by simp [belowH,Blk.below,belowL,below,i64_below,encN_below]⟩|fail);(repeat' (first|exact trivial|refine ⟨⟨_,rfl,?_⟩,?_⟩|fail));all_goals try (first|exact Wk.refl _|exact Wk.of_eq (congrArg (AV.int _) (by omega))|fail))
     ·rw [if_pos (.inr (.inr rfl))] at hj
      rw [hj]
      (repeat' ((conv=>whnf);(first|(refine IfN.id ?_;first|refine IfN.ff rfl ?_|refine IfN.dT (by omega) ?_|refine IfN.tt (by assumption) ?_|fail)|(refine SideN.mk ?_ ?_;· first|kernel_rfl|omega|exact List.cons_ne_nil _ _|(simp;done)|(simp;omega)|exact trivial|assumption|fail)|refine SegN.nthE (f:=enc64) 0 k rfl (by omega) i64_size e1 ?_|refine PtrN.loc _ rfl ?_|refine OfsN.at_ (by omega) ?_|refine DrawN.mk' [] ?_|fail)));all_goals (conv=>whnf)
      exact EndN.det trivial (Wk.refl _)
 ·have hke:k=p.length:=by omega
  subst hke
  rw [List.drop_length,pgo] at hj
  rw [hj]
  (repeat' ((conv=>whnf);(first|refine IfN.dF (by omega) ?_|refine DrawN.mk' [] ?_|fail)));all_goals (conv=>whnf)
  exact EndN.det trivial (Wk.refl _)
theorem permutes_c (n:Nat) (hn:1≤n∧n≤3) (p:List Int) (H:Heap):VDet Tryz.prog 105 [.sl none p.length (p.flatMap enc64),.int .i64 (n:Nat)] H (.bool (permB n p)):=by
 unfold permB
 by_cases h:p.length=n
 ·rw [decide_eq_true h,Bool.true_and]
  have:n=1∨n=2∨n=3:=by omega
  rcases this with rfl|rfl|rfl
  ·exact permutes_c1 p h H
  ·exact permutes_c2 p h H
  ·exact permutes_c3 p h H
 ·rw [decide_eq_false h,Bool.false_and]
  refine fn_det Tryz.E0 Tryz.mx Tryz.func105 (by kernel_rfl) rfl (Nat.le_of_ble_eq_true rfl) rfl fun hcl hbl=>?_
  (repeat' ((conv=>whnf);(first|(refine IfN.id ?_;first|refine IfN.not ?_|refine IfN.dF (by omega) ?_|fail)|refine DrawN.mk' [] ?_|fail)));all_goals (conv=>whnf)
  exact EndN.det trivial (Wk.refl _)
theorem pgo_ok {n:Nat}:∀ (l:List Nat) (s:Nat→Bool),(∀ a∈l,a<n∧s a=false)→l.Nodup→pgo n s (l.map Int.ofNat)=true
 | [],_,_,_=>rfl
 | a::l,s,h,hn=>by
   obtain ⟨h1,h2⟩:=h a List.mem_cons_self
   rw [List.nodup_cons] at hn
   rw [List.map_cons,pgo,if_neg]
   ·refine pgo_ok l _ (fun b hb=>?_) hn.2
    obtain ⟨q1,q2⟩:=h b (List.mem_cons_of_mem _ hb)
    refine ⟨q1,?_⟩
    have hne:b≠a:=fun e=>hn.1 (e▸hb)
    simp [hne,q2]
   ·rintro (q|q|q)
    ·have:(0:Int)≤Int.ofNat a:=Int.natCast_nonneg a
     omega
    ·have q:(n:Int)≤(a:Int):=q
     omega
    ·have q:s a=true:=q
     rw [h2] at q
     cases q
end Go.Proofs.YtgdmldelijeaoaaGreatDoor
/-! text BB41 -/
namespace Go.Proofs.YtgdmldelijeaoaaGreatDoor
open Go.Vsi
set_option maxHeartbeats 4000000
set_option linter.unusedSimpArgs false
attribute [local irreducible] VW VCall VO bits
theorem ranges_w (s:Sig) (n:Nat) (hn:1≤n∧n≤3) (l1:s.preds.length≤1000000) (l2:s.funcs.length≤1000000) (l3:s.vars.length≤1000000) (p1:∀ x∈s.preds,0≤x.2∧x.2≤2) (p2:∀ x∈s.funcs,0≤x.2∧x.2≤1) (H:Heap) (i:Nat) (hi:H.length+1=i) :
  VCall Tryz.prog 87 [.agg s.cells,.int .i64 (n:Nat)] H (fun r H'=>r=.vs i (rngS s n).length∧H'=H++[.box 58 s.cells,.vec 3 1 ((rngS s n).flatMap enc64)]):=by
 subst hi
 have hsc:s.cells=[.sl none s.preds.length (s.preds.flatMap symI),.sl none s.funcs.length (s.funcs.flatMap symI),.sl none s.vars.length (s.vars.flatMap encS)]:=rfl
 rw [hsc]
 refine fn_gen Tryz.E0 Tryz.mx Tryz.func87 (by kernel_rfl) rfl (Nat.le_of_ble_eq_true rfl) rfl fun hcl hbl=>?_
 (repeat' ((conv=>whnf);(first|refine DrawN.mk' [] ?_|fail)));all_goals (conv=>whnf)
 refine LoopN.tok 5 3 1 rfl rfl rfl ?_
 refine LoopN.tokVec 5 1 3 1 rfl rfl rfl ?_
 refine loop_R Tryz.E0 Tryz.mx (σ:=Nat) (fun k=>k≤s.preds.length) (fun k=>s.preds.length-k) (fun k=>[(5,.v (.vs (H.length+1) k)),(13,.v (.int .i64 k))]) (fun k=>[.box 58 [.sl none s.preds.length (s.preds.flatMap symI),.sl none s.funcs.length (s.funcs.flatMap symI),.sl none s.vars.length (s.vars.flatMap encS)],.vec 3 1 (((s.preds.map (rP n)).take k).flatMap enc64)]) _ 0 rfl hcl [1,2,11,12] rfl (Nat.zero_le _) ⟨⟨_,rfl,Wk.refl _⟩,⟨_,rfl,Wk.refl _⟩,trivial⟩ rfl (fun _ _=>rfl) ?_
 intro k hk
 rcases Nat.lt_or_ge k s.preds.length with hlt|hge
 ·have hmem:s.preds.getD k symI0∈s.preds:=by rw [List.getD_eq_getElem?_getD,List.getElem?_eq_getElem hlt];exact List.getElem_mem hlt
  obtain ⟨u,v,hx,e1⟩:=symI_ex (s.preds.getD k symI0)
  have ha:=p1 _ hmem
  have hns:=take_mapD (rP n) symI0 s.preds k hlt
  rw [hx] at ha hns
  simp only at ha
  have hpw:=fun H=>powN_c n v.toNat hn (by omega) H
  rw [show ((v.toNat:Nat):Int)=v by omega] at hpw
  have hq:n ^ v.toNat≤9:=by
   have h1:n ^ v.toNat≤3 ^ v.toNat:=Nat.pow_le_pow_left hn.2 _
   have h2:3 ^ v.toNat≤3 ^ 2:=Nat.pow_le_pow_right (by decide) (by omega)
   omega
  have hrp:rP n (u,v)=((2 ^ n ^ v.toNat:Nat):Int):=rfl
  rw [hrp] at hns
  generalize n ^ v.toNat=q at hpw hq hns
  have hml:(((s.preds.map (rP n)).take k).flatMap enc64).length=k * 1:=by
   rw [flat_length (f:=enc64) (sz:=1) (fun _=>rfl),List.length_take,List.length_map,Nat.min_eq_left hk]
  have hbt:(k+1) * 8≤140737488355328:=by omega
  have hmx:k+1≤maxLen:=Nat.le_trans (show k+1≤1000001 by omega) (by decide)
  (repeat' ((conv=>whnf);(first|refine IfN.dT (by omega) ?_|(refine EqN.id ?_;first|(refine EqN.shlN _ _ Cst.h Cst.h rfl ?_ ?_ ?_;(· (repeat' (first|omega|refine And.intro ?_ ?_|exact bnd_andl (by omega)|exact bnd_andr (by omega)|refine bnd_or ?_ ?_|refine bnd_or31 ?_ ?_|refine bnd_xor ?_ ?_|refine bnd_xor31 ?_ ?_|refine bnd_shr ?_|refine bnd_shl ?_ ?_|refine bnd_mod ?_|refine bnd_andl ?_|fail)));(· (repeat' (first|omega|refine And.intro ?_ ?_|exact bnd_andl (by omega)|exact bnd_andr (by omega)|refine bnd_or ?_ ?_|refine bnd_or31 ?_ ?_|refine bnd_xor ?_ ?_|refine bnd_xor31 ?_ ?_|refine bnd_shr ?_|refine bnd_shl ?_ ?_|refine bnd_mod ?_|refine bnd_andl ?_|fail))))|(refine EqN.addN _ _ Cst.h Cst.h ?_ ?_;· omega)|fail)|(refine SideN.mk ?_ ?_;· first|kernel_rfl|omega|exact List.cons_ne_nil _ _|(simp;done)|(simp;omega)|exact trivial|assumption|fail)|refine CallN.det _ (hpw _) ?_|refine SegN.nthE symI0 k rfl (by omega) symI_size e1 ?_|refine SideN.mk ⟨hml,rfl,rfl,hbt,hmx⟩ ?_|refine PtrN.loc _ rfl ?_|refine DrawN.mk' [] ?_|fail)));all_goals (conv=>whnf)
  have hns':((s.preds.map (rP n)).take (k+1)).flatMap enc64=((s.preds.map (rP n)).take k).flatMap enc64++[.int .i64 ((1 <<< q:Nat):Int)]:=by rw [Nat.one_shiftLeft];exact hns
  rw [← hns']
  (refine ⟨⟨k+1,by show k+1≤_;omega,by omega,?_,.inl ⟨rfl,rfl⟩,rfl,_,rfl,?_⟩⟩;rotate_left 1;(first|exact .inl rfl|exact .inr ⟨by simp [belowRE,below,belowL,tr,i64_below,symIs_below,strs_below,belowL_append],by simp [belowH,Blk.below,belowL,below,i64_below,symIs_below,strs_below,belowL_append]⟩|fail);(repeat' (first|exact trivial|refine ⟨⟨_,rfl,?_⟩,?_⟩|fail));all_goals try (first|exact Wk.refl _|exact Wk.of_eq (congrArg (AV.int _) (by omega))|fail))
 ·have hke:k=s.preds.length:=by omega
  subst hke
  rw [List.take_of_length_le (by rw [List.length_map];exact Nat.le_refl _)]
  (repeat' ((conv=>whnf);(first|refine IfN.dF (by omega) ?_|refine DrawN.mk' [] ?_|fail)));all_goals (conv=>whnf)
  refine loop_R Tryz.E0 Tryz.mx (σ:=Nat) (fun k=>k≤s.funcs.length) (fun k=>s.funcs.length-k) (fun k=>[(5,.v (.vs (H.length+1) (s.preds.length+k))),(29,.v (.int .i64 k))]) (fun k=>[.box 58 [.sl none s.preds.length (s.preds.flatMap symI),.sl none s.funcs.length (s.funcs.flatMap symI),.sl none s.vars.length (s.vars.flatMap encS)],.vec 3 1 ((s.preds.map (rP n)).flatMap enc64++((s.funcs.map (rF n)).take k).flatMap enc64)]) _ 0 rfl hcl [1,2,27,28] rfl (Nat.zero_le _) ⟨⟨_,rfl,Wk.of_eq (by simp [tr])⟩,⟨_,rfl,Wk.refl _⟩,trivial⟩ (by simp) (fun _ _=>rfl) ?_
  intro k hk
  rcases Nat.lt_or_ge k s.funcs.length with hlt|hge
  ·have hmem:s.funcs.getD k symI0∈s.funcs:=by rw [List.getD_eq_getElem?_getD,List.getElem?_eq_getElem hlt];exact List.getElem_mem hlt
   obtain ⟨u,v,hx,e1⟩:=symI_ex (s.funcs.getD k symI0)
   have ha:=p2 _ hmem
   have hns:=take_mapD (rF n) symI0 s.funcs k hlt
   rw [hx] at ha hns
   simp only at ha
   have hpw:=fun H=>powN_c n v.toNat hn (by omega) H
   rw [show ((v.toNat:Nat):Int)=v by omega] at hpw
   have hq:n ^ v.toNat≤3:=by
    have h1:n ^ v.toNat≤3 ^ v.toNat:=Nat.pow_le_pow_left hn.2 _
    have h2:3 ^ v.toNat≤3 ^ 1:=Nat.pow_le_pow_right (by decide) (by omega)
    omega
   have hrp:rF n (u,v)=((n ^ n ^ v.toNat:Nat):Int):=rfl
   rw [hrp] at hns
   generalize n ^ v.toNat=q at hpw hq hns
   have hpw2:=fun H=>powN_c n q hn (by omega) H
   have hml:((s.preds.map (rP n)).flatMap enc64++((s.funcs.map (rF n)).take k).flatMap enc64).length=(s.preds.length+k) * 1:=by
    rw [List.length_append,flat_length (f:=enc64) (sz:=1) (fun _=>rfl),flat_length (f:=enc64) (sz:=1) (fun _=>rfl),List.length_take,List.length_map,List.length_map,Nat.min_eq_left hk]
    omega
   have hbt:(s.preds.length+k+1) * 8≤140737488355328:=by omega
   have hmx:s.preds.length+k+1≤maxLen:=Nat.le_trans (show s.preds.length+k+1≤2000001 by omega) (by decide)
   (repeat' ((conv=>whnf);(first|refine IfN.dT (by omega) ?_|(refine EqN.addN _ _ Cst.h Cst.h ?_ ?_;· omega)|(refine SideN.mk ?_ ?_;· first|kernel_rfl|omega|exact List.cons_ne_nil _ _|(simp;done)|(simp;omega)|exact trivial|assumption|fail)|(refine CallN.id ?_;first|refine CallN.det _ (hpw _) ?_|refine CallN.det _ (hpw2 _) ?_|fail)|refine SegN.nthE symI0 k rfl (by omega) symI_size e1 ?_|refine SideN.mk ⟨hml,rfl,rfl,hbt,hmx⟩ ?_|refine PtrN.loc _ rfl ?_|refine DrawN.mk' [] ?_|fail)));all_goals (conv=>whnf)
   rw [List.append_assoc,← hns]
   (refine ⟨⟨k+1,by show k+1≤_;omega,by omega,?_,.inl ⟨rfl,rfl⟩,rfl,_,rfl,?_⟩⟩;rotate_left 1;(first|exact .inl rfl|exact .inr ⟨by simp [belowRE,below,belowL,tr,i64_below,symIs_below,strs_below,belowL_append],by simp [belowH,Blk.below,belowL,below,i64_below,symIs_below,strs_below,belowL_append]⟩|fail);(repeat' (first|exact trivial|refine ⟨⟨_,rfl,?_⟩,?_⟩|fail));all_goals try (first|exact Wk.refl _|exact Wk.of_eq (congrArg (AV.int _) (by omega))|fail))
  ·have hke:k=s.funcs.length:=by omega
   subst hke
   rw [List.take_of_length_le (l:=s.funcs.map (rF n)) (by rw [List.length_map];exact Nat.le_refl _)]
   (repeat' ((conv=>whnf);(first|refine IfN.dF (by omega) ?_|refine DrawN.mk' [] ?_|fail)));all_goals (conv=>whnf)
   refine loop_R Tryz.E0 Tryz.mx (σ:=Nat) (fun k=>k≤s.vars.length) (fun k=>s.vars.length-k) (fun k=>[(5,.v (.vs (H.length+1) (s.preds.length+s.funcs.length+k))),(46,.v (.int .i64 k))]) (fun k=>[.box 58 [.sl none s.preds.length (s.preds.flatMap symI),.sl none s.funcs.length (s.funcs.flatMap symI),.sl none s.vars.length (s.vars.flatMap encS)],.vec 3 1 ((s.preds.map (rP n)).flatMap enc64++(s.funcs.map (rF n)).flatMap enc64++((s.vars.map fun _=>(n:Int)).take k).flatMap enc64)]) _ 0 rfl hcl [1,2,44,45] rfl (Nat.zero_le _) ⟨⟨_,rfl,Wk.of_eq (by simp [tr])⟩,⟨_,rfl,Wk.refl _⟩,trivial⟩ (by simp) (fun _ _=>rfl) ?_
   intro k hk
   rcases Nat.lt_or_ge k s.vars.length with hlt|hge
   ·have hns:=take_mapD (fun _:ByteArray=>(n:Int)) .empty s.vars k hlt
    have hml:((s.preds.map (rP n)).flatMap enc64++(s.funcs.map (rF n)).flatMap enc64++((s.vars.map fun _=>(n:Int)).take k).flatMap enc64).length=(s.preds.length+s.funcs.length+k) * 1:=by
     rw [List.length_append,List.length_append,flat_length (f:=enc64) (sz:=1) (fun _=>rfl),flat_length (f:=enc64) (sz:=1) (fun _=>rfl),flat_length (f:=enc64) (sz:=1) (fun _=>rfl),List.length_take,List.length_map,List.length_map,List.length_map,Nat.min_eq_left hk]
     omega
    have hbt:(s.preds.length+s.funcs.length+k+1) * 8≤140737488355328:=by omega
    have hmx:s.preds.length+s.funcs.length+k+1≤maxLen:=Nat.le_trans (show s.preds.length+s.funcs.length+k+1≤3000001 by omega) (by decide)
    (repeat' ((conv=>whnf);(first|refine IfN.dT (by omega) ?_|(refine EqN.addN _ _ Cst.h Cst.h ?_ ?_;· omega)|refine SideN.mk ⟨hml,rfl,rfl,hbt,hmx⟩ ?_|refine PtrN.loc _ rfl ?_|refine DrawN.mk' [] ?_|fail)));all_goals (conv=>whnf)
    rw [List.append_assoc _ _ [AV.int .i64 (n:Nat)],← hns]
    (refine ⟨⟨k+1,by show k+1≤_;omega,by omega,?_,.inl ⟨rfl,rfl⟩,rfl,_,rfl,?_⟩⟩;rotate_left 1;(first|exact .inl rfl|exact .inr ⟨by simp [belowRE,below,belowL,tr,i64_below,symIs_below,strs_below,belowL_append],by simp [belowH,Blk.below,belowL,below,i64_below,symIs_below,strs_below,belowL_append]⟩|fail);(repeat' (first|exact trivial|refine ⟨⟨_,rfl,?_⟩,?_⟩|fail));all_goals try (first|exact Wk.refl _|exact Wk.of_eq (congrArg (AV.int _) (by omega))|fail))
   ·have hke:k=s.vars.length:=by omega
    subst hke
    rw [List.take_of_length_le (l:=s.vars.map fun _=>(n:Int)) (by rw [List.length_map];exact Nat.le_refl _)]
    (repeat' ((conv=>whnf);(first|refine IfN.dF (by omega) ?_|refine DrawN.mk' [] ?_|fail)));all_goals (conv=>whnf)
    have hr:(rngS s n).flatMap enc64=(s.preds.map (rP n)).flatMap enc64++(s.funcs.map (rF n)).flatMap enc64++(s.vars.map fun _=>(n:Int)).flatMap enc64:=by
     unfold rngS
     rw [List.flatMap_append,List.flatMap_append]
    have hr2:(rngS s n).length=s.preds.length+s.funcs.length+s.vars.length:=by
     unfold rngS
     rw [List.length_append,List.length_append,List.length_map,List.length_map,List.length_map]
    rw [hr,hr2]
    exact EndN.keep _ (Wk.refl _) ⟨rfl,rfl⟩
end Go.Proofs.YtgdmldelijeaoaaGreatDoor
/-! text BC41 -/
namespace Go.Proofs.YtgdmldelijeaoaaGreatDoor
open Go.Vsi
set_option maxHeartbeats 4000000
set_option linter.unusedSimpArgs false
attribute [local irreducible] VW VCall VO bits
theorem SubN.tail {x:AV} {cs:List AV} {o n m:Nat} {k:List AV→Prop} (ho:o=1) (hn:n=m) (hc:cs.length=m) (a:k cs):SubN (x::cs) o n k:=by
 subst ho
 subst hn
 exact ⟨cs,⟨⟨[],by simp⟩,hc⟩,a⟩
theorem next_c (q n:Nat) (c:Int) (cs:List AV) (hc:cs.length=n) (hcs:∀ m,belowL m cs) (H:Heap) (hq:H[q]? = some (.box 32 [.sl none (n+1) (.int .i64 c::cs)])):VCall Tryz.prog 91 [.ptr q 0] H (setR H q (.box 32 [.sl none n cs]) (.int .i64 c)):=by
 refine fn_gen Tryz.E0 Tryz.mx Tryz.func91 (by kernel_rfl) rfl (Nat.le_of_ble_eq_true rfl) rfl fun hcl hbl=>?_
 (repeat' ((conv=>whnf);(first|(refine SideN.mk ?_ ?_;· first|kernel_rfl|omega|exact List.cons_ne_nil _ _|(simp;done)|(simp;omega)|exact trivial|assumption|fail)|refine SetN.mk _ rfl ?_|refine NatN.mk _ rfl ?_|refine SubN.tail rfl (by show (n+1-1) * 1=n;omega) hc ?_|refine PtrN.base _ (by (repeat' (first|assumption|exact at_loc' _ rfl|exact at_loc0 rfl|refine at_set (B':=?_) ?_|refine at_base' ?_|fail))) ?_|refine SegN.mk _ (seg_rfl rfl) ?_|refine DrawN.mk' [] ?_|fail)));all_goals (conv=>whnf)
 exact EndN.setB (by simp [Blk.below,below,belowL,hcs]) trivial (Wk.refl _)
end Go.Proofs.YtgdmldelijeaoaaGreatDoor
/-! text PM41 -/
namespace Go.Proofs.YtgdmldelijeaoaaGreatDoor
open Go.Vsi
set_option maxHeartbeats 4000000
def rnN (s:Sig) (n:Nat):List Nat:=s.preds.map (fun x=>2 ^ n ^ x.2.toNat)++s.funcs.map (fun x=>n ^ n ^ x.2.toNat)++s.vars.map fun _=>n
theorem encN_map (l:List Nat):l.flatMap encN=l.map fun x=>AV.int .i64 ((x:Nat):Int):=by
 induction l with
 | nil=>rfl
 | cons x l ih=>rw [List.flatMap_cons,List.map_cons,ih];rfl
theorem enc64_map (l:List Int):l.flatMap enc64=l.map fun x=>AV.int .i64 x:=by
 induction l with
 | nil=>rfl
 | cons x l ih=>rw [List.flatMap_cons,List.map_cons,ih];rfl
theorem rng_nat (s:Sig) (n:Nat):rngS s n=(rnN s n).map fun x=>((x:Nat):Int):=by
 unfold rngS rnN
 rw [List.map_append,List.map_append,List.map_map,List.map_map,List.map_map]
 rfl
theorem rng_flat (s:Sig) (n:Nat):(rngS s n).flatMap enc64=(rnN s n).flatMap encN:=by
 rw [enc64_map,encN_map,rng_nat,List.map_map]
 rfl
theorem rng_len (s:Sig) (n:Nat):(rngS s n).length=(rnN s n).length:=by rw [rng_nat,List.length_map]
theorem rn_pos (s:Sig) (n:Nat) (hn:1≤n):∀ r∈rnN s n,0<r:=by
 intro r hr
 have:=rng_pos s n hn (r:Int) (by rw [rng_nat];exact List.mem_map.2 ⟨r,hr,rfl⟩)
 omega
def mixN (rs:List Nat) (N i:Nat):List Nat:=rs.take i++digR (rs.drop i) N
theorem mix_len (rs:List Nat) (N i:Nat) (h:i≤rs.length):(mixN rs N i).length=rs.length:=by
 unfold mixN
 rw [List.length_append,List.length_take,digR_len,List.length_drop]
 omega
theorem mix_full (rs:List Nat) (N:Nat):mixN rs N rs.length=rs:=by
 unfold mixN
 rw [List.take_length,List.drop_length]
 simp [digR]
theorem mix_zero (rs:List Nat) (N:Nat):mixN rs N 0=digR rs N:=by
 unfold mixN
 simp
theorem mix_get (rs:List Nat) (N i:Nat) (h:i<rs.length):(mixN rs N (i+1)).getD i 0=rs.getD i 0:=by
 unfold mixN
 rw [List.getD_eq_getElem?_getD,List.getElem?_append_left (by rw [List.length_take];omega),List.getElem?_take,if_pos (by omega),← List.getD_eq_getElem?_getD]
theorem mix_step (rs:List Nat) (N i:Nat) (h:i<rs.length):mixN rs N i=rs.take i++(N / prodR (rs.drop (i+1)) % rs.getD i 0)::digR (rs.drop (i+1)) N:=by
 unfold mixN
 rw [drop_getD rs i 0 h]
 rfl
theorem mix_set (rs:List Nat) (N i:Nat) (h:i<rs.length):setL ((mixN rs N (i+1)).flatMap encN) (i * 1) [.int .i64 ((N / prodR (rs.drop (i+1)) % rs.getD i 0:Nat):Int)]=(mixN rs N i).flatMap encN:=by
 rw [mix_step rs N i h]
 unfold setL mixN
 rw [encN_map,encN_map,List.map_append,List.map_append,List.map_cons,Nat.mul_one]
 have hl:((rs.take (i+1)).map fun x=>AV.int .i64 ((x:Nat):Int)).length=i+1:=by rw [List.length_map,List.length_take];omega
 rw [List.take_append_of_le_length (by omega),← List.map_take,List.take_take,Nat.min_eq_left (by omega)]
 have hd:List.drop (i+[AV.int IntKind.i64 ((N / prodR (rs.drop (i+1)) % rs.getD i 0:Nat):Int)].length) (((rs.take (i+1)).map fun x=>AV.int .i64 ((x:Nat):Int))++((digR (rs.drop (i+1)) N).map fun x=>AV.int .i64 ((x:Nat):Int)))=(digR (rs.drop (i+1)) N).map fun x=>AV.int .i64 ((x:Nat):Int):=List.drop_left' hl
 rw [hd,List.append_assoc]
 rfl
theorem mix_div (rs:List Nat) (N i:Nat) (h:i<rs.length):N / prodR (rs.drop (i+1)) / rs.getD i 0=N / prodR (rs.drop i):=by
 rw [drop_getD rs i 0 h,prodR_cons,Nat.div_div_eq_div_mul,Nat.mul_comm]
def mkFct (x:SymI) (d:Nat):Fct:=⟨x.1,x.2,(d:Nat)⟩
def mkFnc (n:Nat) (x:SymI) (d:Nat):Fnc:=⟨x.1,x.2,(digN n (n ^ x.2.toNat) d).map Int.ofNat⟩
def mkBnd (x:ByteArray) (d:Nat):Bnd:=⟨x,(d:Nat)⟩
def nthM (s:Sig) (n:Nat) (ds:List Nat):Mdl :=
 ⟨2,n,[],0,List.zipWith mkFct s.preds ds,List.zipWith (mkFnc n) s.funcs (ds.drop s.preds.length),List.zipWith mkBnd s.vars (ds.drop (s.preds.length+s.funcs.length))⟩
theorem zip_take {α β:Type} (f:α→Nat→β) (d:α):∀ (l:List α) (ds:List Nat) (k:Nat),k<l.length→k<ds.length→List.zipWith f (l.take (k+1)) ds=List.zipWith f (l.take k) ds++[f (l.getD k d) (ds.getD k 0)]
 | [],_,_,h,_=>by cases h
 | _::_,[],_,_,h=>by cases h
 | x::l,y::ds,0,_,_=>by simp
 | x::l,y::ds,k+1,h1,h2=>by
   simp only [List.take_succ_cons,List.zipWith_cons_cons,List.cons_append,List.getD_cons_succ]
   rw [zip_take f d l ds k (by simpa using h1) (by simpa using h2)]
theorem zip_len {α β:Type} (f:α→Nat→β) (l:List α) (ds:List Nat) (h:l.length≤ds.length):(List.zipWith f l ds).length=l.length:=by
 rw [List.length_zipWith]
 omega
theorem prodC_le:∀ (l:List Int) (p:Int),(∀ r∈l,1≤r)→1≤p→¬ 16384<prodC l p→prodC l p=p * (prodR (l.map Int.toNat):Nat)
 | [],p,_,_,_=>by
   show p=p * ((1:Nat):Int)
   omega
 | r::l,p,h,hp,hc=>by
   rw [prodC] at hc ⊢
   by_cases hb:16384 / p<r
   ·rw [if_pos hb] at hc
    omega
   ·rw [if_neg hb] at hc ⊢
    have hr:=h r List.mem_cons_self
    have hm:1≤p * r:=by
     have:=Int.mul_le_mul_of_nonneg_left hr (show 0≤p by omega)
     omega
    rw [prodC_le l (p * r) (fun x hx=>h x (List.mem_cons_of_mem _ hx)) hm hc,List.map_cons,prodR_cons,Int.mul_assoc,Int.natCast_mul]
    congr 2
    omega
theorem prodR_pos:∀ l:List Nat,(∀ r∈l,0<r)→0<prodR l
 | [],_=>Nat.one_pos
 | r::l,h=>by
   rw [prodR_cons]
   exact Nat.mul_pos (h r List.mem_cons_self) (prodR_pos l fun x hx=>h x (List.mem_cons_of_mem _ hx))
theorem prodR_take (l:List Nat) (h:∀ r∈l,0<r) (k:Nat):prodR (l.take k)≤prodR l:=by
 have h1:prodR l=prodR (l.take k) * prodR (l.drop k):=by rw [← prodR_app,List.take_append_drop]
 have h2:=prodR_pos (l.drop k) fun r hr=>h r (List.mem_of_mem_drop hr)
 rw [h1]
 exact Nat.le_mul_of_pos_right _ h2
end Go.Proofs.YtgdmldelijeaoaaGreatDoor
/-! text BD41 -/
namespace Go.Proofs.YtgdmldelijeaoaaGreatDoor
open Go.Vsi
set_option maxHeartbeats 4000000
set_option linter.unusedSimpArgs false
attribute [local irreducible] VW VCall VO bits
theorem EqN.quoC {m n c:Nat} {x y:Int} {k:Int→Prop} (hx:x=m) (hy:y=n) (hn:1≤n) (hm:m≤9223372036854775807) (h:m / n=c) (a:k ((c:Nat):Int)):EqN (IntKind.i64.wrap (x.tdiv y)) k :=
 EqN.quoB hx hy hn hm (h▸a)
theorem digR_le:∀ (rs:List Nat) (N:Nat),∀ x∈digR rs N,x≤N
 | [],_,x,h=>by cases h
 | r::rs,N,x,h=>by
   rcases List.mem_cons.1 h with rfl|h
   ·exact Nat.le_trans (Nat.mod_le _ _) (Nat.div_le_self _ _)
   ·exact digR_le rs N x h
theorem getD_drop' (l:List Nat) (p k:Nat):(l.drop p).getD k 0=l.getD (p+k) 0:=by simp [List.getD_eq_getElem?_getD]
def mdl0:Mdl:=⟨0,0,[],0,[],[],[]⟩
theorem fct_mk (x:SymI) (d:Nat) {u:ByteArray} {v:Int} (h:x=(u,v)):(mkFct x d).cells=[.str u,.int .i64 v,.int .i64 (d:Nat)]:=by rw [h];rfl
theorem fnc_mk (n:Nat) (x:SymI) (d:Nat) {u:ByteArray} {v:Int} (h:x=(u,v)):(mkFnc n x d).cells=[.str u,.int .i64 v,.sl none (n ^ v.toNat) ((digN n (n ^ v.toNat) d).flatMap encN)]:=by
 rw [h]
 unfold mkFnc Fnc.cells
 simp only [List.length_map,digN_len]
 rw [enc64_map,encN_map,List.map_map]
 rfl
theorem nth_c (s:Sig) (hs:s.Sm) (hr:sigR s=true) (n:Nat) (hn:1≤n∧n≤3) (l1:s.preds.length≤300000) (l2:s.funcs.length≤300000) (l3:s.vars.length≤300000) (N:Nat) (hc:¬ 16384<prodC (rngS s n) 1) (hN:(N:Int)<prodC (rngS s n) 1) (H:Heap) :
  VDet Tryz.prog 38 [.agg s.cells,.int .i64 (n:Nat),.int .i64 (N:Nat)] H (.tup [.agg (nthM s n (digR (rnN s n) N)).cells,.int .i64 0]):=by
 obtain ⟨p1,p2⟩:=sig_ar hr
 have g1:=fun H=>count_c s hs hr n hn l1 l2 l3 H
 have g2:=fun H i hi=>ranges_w s n hn (by omega) (by omega) (by omega) p1 p2 H i hi
 rw [if_neg hc] at g1
 have hpos:=rn_pos s n hn.1
 have hL:(rnN s n).length=s.preds.length+s.funcs.length+s.vars.length:=by
  unfold rnN
  rw [List.length_append,List.length_append,List.length_map,List.length_map,List.length_map]
 rw [rng_flat,rng_len] at g2
 have hrP:prodC (rngS s n) 1≤16384:=by omega
 generalize prodC (rngS s n) 1=P at g1 hN hc hrP
 have hsc:s.cells=[.sl none s.preds.length (s.preds.flatMap symI),.sl none s.funcs.length (s.funcs.flatMap symI),.sl none s.vars.length (s.vars.flatMap encS)]:=rfl
 rw [hsc] at g1 g2 ⊢
 unfold nthM
 generalize hrs:rnN s n=rs at g2 hpos hL
 clear hrs
 have hml:∀ i,i≤rs.length→((mixN rs N i).flatMap encN).length=rs.length * 1:=fun i hi=>by
  rw [flat_length (f:=encN) (sz:=1) (fun _=>rfl),mix_len rs N i hi]
 refine fn_det Tryz.E0 Tryz.mx Tryz.func38 (by kernel_rfl) rfl (Nat.le_of_ble_eq_true rfl) rfl fun hcl hbl=>?_
 (repeat' ((conv=>whnf);(first|(refine IfN.id ?_;first|refine IfN.not ?_|refine IfN.tt rfl ?_|refine IfN.ff rfl ?_|refine IfN.dF (by omega) ?_|fail)|refine EqN.i64 (by omega) ?_|refine CallN.det _ (g1 _) ?_|refine CallN.grow _ _ _ 4 (g2 _ (H.length+3) (by simp)) rfl rfl rfl ?_|refine DrawN.mk' [] ?_|fail)));all_goals (conv=>whnf)
 refine loop_R Tryz.E0 Tryz.mx (σ:=Nat) (fun i=>i≤rs.length) (fun i=>i) (fun i=>[(2,.v (.int .i64 ((N / prodR (rs.drop i):Nat):Int))),(11,.v (.int .i64 ((i:Int)-1)))]) (fun i=>[.box 58 [.sl none s.preds.length (s.preds.flatMap symI),.sl none s.funcs.length (s.funcs.flatMap symI),.sl none s.vars.length (s.vars.flatMap encS)],.box 37 [.int .u8 0,.int .i64 0,.nils,.int .i64 0,.nils,.nils,.nils],.box 58 [.sl none s.preds.length (s.preds.flatMap symI),.sl none s.funcs.length (s.funcs.flatMap symI),.sl none s.vars.length (s.vars.flatMap encS)],.vec 3 1 ((mixN rs N i).flatMap encN),.box 32 [.vs (H.length+3) rs.length]]) _ rs.length rfl hcl [1,3,6,10] rfl (Nat.le_refl _) ⟨⟨_,rfl,Wk.of_eq (by rw [List.drop_length];show AV.int IntKind.i64 ((N:Nat):Int)=AV.int IntKind.i64 ((N / 1:Nat):Int);rw [Nat.div_one])⟩,⟨_,rfl,Wk.refl _⟩,trivial⟩ (by rw [mix_full]) (fun _ _=>rfl) ?_
 intro i hi
 match i,hi with
 | j+1,hi =>
   have hne:(mixN rs N (j+1)).flatMap encN≠[]:=fun h=>by
    have:=hml (j+1) hi
    rw [h] at this
    simp at this
    omega
   have hget:encN ((mixN rs N (j+1)).getD j 0)=[.int .i64 (rs.getD j 0:Nat)]:=by rw [mix_get rs N j (by omega)];rfl
   have hrj:1≤rs.getD j 0:=hpos _ (getD_memT rs j 0 (by omega))
   have hdl:=Nat.div_le_self N (prodR (rs.drop (j+1)))
   have hmlj:=hml (j+1) hi
   have hmln:(mixN rs N (j+1)).length=rs.length:=mix_len rs N _ hi
   have hdv:=mix_div rs N j (by omega)
   have hset:=mix_set rs N j (by omega)
   have hjt:(((j+1:Nat):Int)-1).toNat=j:=by omega
   (repeat' ((conv=>whnf);(first|refine SideN.mk ⟨⟨hmlj,hne⟩,by omega,by omega⟩ ?_|refine SideN.mk hmlj ?_|refine SideN.mk ⟨hmlj,by rw [hjt,hmlj];simp only [List.length_cons,List.length_nil];omega,by simp⟩ ?_|refine IfN.dT (by omega) ?_|(refine EqN.id ?_;first|with_reducible refine EqN.quoC rfl rfl hrj (by omega) hdv ?_|refine EqN.remN _ _ Cst.h Cst.h ?_|refine EqN.i64 (by omega) ?_|fail)|(refine SideN.mk ?_ ?_;· first|kernel_rfl|omega|exact List.cons_ne_nil _ _|(simp;done)|(simp;omega)|exact trivial|assumption|fail)|refine SegN.nthE (f:=encN) 0 j (by omega) (by omega) (fun _=>rfl) hget ?_|refine RelN.mk ((mixN rs N j).flatMap encN) [] (by rw [hjt];exact hset.symm) ?_|refine PtrN.loc _ rfl ?_|refine DrawN.mk' [] ?_|fail)));all_goals (conv=>whnf)
   (refine ⟨⟨j,by show j≤_;omega,by omega,?_,.inl ⟨rfl,rfl⟩,rfl,_,rfl,?_⟩⟩;rotate_left 1;(first|exact .inl rfl|exact .inr ⟨by simp [belowRE,below,belowL,tr,i64_below,encN_below,symIs_below,strs_below,fcts_below,fncs_below,bnds_below],by simp [belowH,Blk.below,belowL,below,i64_below,encN_below,symIs_below,strs_below,fcts_below,fncs_below,bnds_below]⟩|fail);(repeat' (first|exact trivial|refine ⟨⟨_,rfl,?_⟩,?_⟩|fail));all_goals try (first|exact Wk.refl _|exact Wk.of_eq (congrArg (AV.int _) (by omega))|fail))
 | 0,hi =>
   simp only [mix_zero]
   generalize hds:digR rs N=ds
   have hdl:ds.length=rs.length:=by rw [← hds,digR_len]
   have hdle:∀ k,k<rs.length→ds.getD k 0≤N:=fun k hk=>by rw [← hds];exact digR_le rs N _ (getD_memT _ k 0 (by rw [digR_len];exact hk))
   have hNN:N≤16384:=by omega
   have hnx:∀ k,k<rs.length→∀ (H2:Heap) (q:Nat),H2[q]? = some (.box 32 [.sl none (rs.length-k) ((ds.drop k).flatMap encN)])→VCall Tryz.prog 91 [.ptr q 0] H2 (setR H2 q (.box 32 [.sl none (rs.length-(k+1)) ((ds.drop (k+1)).flatMap encN)]) (.int .i64 (ds.getD k 0:Nat))):=fun k hk H2 q hq=>by
    refine next_c q (rs.length-(k+1)) _ _ ?_ (fun m=>encN_below m _) H2 ?_
    ·rw [encN_map,List.length_map,List.length_drop,hdl]
    ·rw [drop_getD ds k 0 (by omega),List.flatMap_cons,show rs.length-k=rs.length-(k+1)+1 by omega] at hq
     exact hq
   (repeat' ((conv=>whnf);(first|refine IfN.ff rfl ?_|refine DrawN.mk' [] ?_|fail)));all_goals (conv=>whnf)
   refine LoopN.frzVec 4 3 0 rs.length 3 0 (ds.flatMap encN) rfl rfl rfl rfl (by rw [flat_length (f:=encN) (sz:=1) (fun _=>rfl),hdl]) rfl rfl rfl ?_
   refine LoopN.tokB 5 4 95 3 rfl rfl rfl rfl rfl rfl ?_
   refine loop_R Tryz.E0 Tryz.mx (σ:=Nat) (fun k=>k≤s.preds.length) (fun k=>s.preds.length-k) (fun k=>[(70,.v (.int .i64 k))]) (fun k=>[.box 58 [.sl none s.preds.length (s.preds.flatMap symI),.sl none s.funcs.length (s.funcs.flatMap symI),.sl none s.vars.length (s.vars.flatMap encS)],.box 37 [.int .u8 0,.int .i64 0,.nils,.int .i64 0,.nils,.nils,.nils],.box 58 [.sl none s.preds.length (s.preds.flatMap symI),.sl none s.funcs.length (s.funcs.flatMap symI),.sl none s.vars.length (s.vars.flatMap encS)],.dead,.box 32 [.sl none (rs.length-(k)) ((ds.drop (k)).flatMap encN)],.box 37 [.int .u8 2,.int .i64 (n:Nat),.nils,.int .i64 0,.sl (some (H.length+6)) k ((List.zipWith mkFct (s.preds.take k) ds).flatMap Fct.cells),.nils,.nils],.tok 95 3 ((List.zipWith mkFct (s.preds.take k) ds).flatMap Fct.cells).length]) _ 0 rfl hcl [1,3,6,12,13,68,69] rfl (Nat.zero_le _) ⟨⟨_,rfl,Wk.refl _⟩,trivial⟩ rfl (fun _ _=>rfl) ?_
   intro k hk
   rcases Nat.lt_or_ge k s.preds.length with hlt|hge
   ·obtain ⟨u,v,hx,e1⟩:=symI_ex (s.preds.getD k symI0)
    have hns:(List.zipWith mkFct (s.preds.take (k+1)) ds).flatMap Fct.cells=(List.zipWith mkFct (s.preds.take k) ds).flatMap Fct.cells++[.str u,.int .i64 v,.int .i64 (ds.getD k 0:Nat)]:=by
     rw [zip_take mkFct symI0 s.preds ds k hlt (by omega),List.flatMap_append,List.flatMap_cons,List.flatMap_nil,List.append_nil,fct_mk _ _ hx]
    have hmlf:((List.zipWith mkFct (s.preds.take k) ds).flatMap Fct.cells).length=k * 3:=by
     rw [flat_length fct_size,zip_len _ _ _ (by rw [List.length_take];omega),List.length_take,Nat.min_eq_left hk]
    have hbt:(k+1) * 32≤140737488355328:=by omega
    have hmx:k+1≤maxLen:=Nat.le_trans (show k+1≤1000001 by omega) (by decide)
    (repeat' ((conv=>whnf);(first|refine DrawN.mk' [4] ?_|refine IfN.dT (by omega) ?_|(refine EqN.addN _ _ Cst.h Cst.h ?_ ?_;· omega)|(refine SideN.mk ?_ ?_;· first|kernel_rfl|omega|exact List.cons_ne_nil _ _|(simp;done)|(simp;omega)|exact trivial|assumption|fail)|refine SegN.nthE symI0 k rfl (by omega) symI_size e1 ?_|refine CallD.setWL 4 _ _ _ rfl rfl rfl (hnx k (by omega) _ _ (at_loc0 rfl)) ?_|refine SideN.mk ⟨rfl,rfl,rfl,hbt,hmx⟩ ?_|refine PtrN.loc _ rfl ?_|refine DrawN.mk' [] ?_|fail)));all_goals (conv=>whnf)
    rw [← hns]
    (refine ⟨⟨k+1,by show k+1≤_;omega,by omega,?_,.inl ⟨rfl,rfl⟩,rfl,_,rfl,?_⟩⟩;rotate_left 1;(first|exact .inl rfl|exact .inr ⟨by simp [belowRE,below,belowL,tr,i64_below,encN_below,symIs_below,strs_below,fcts_below,fncs_below,bnds_below],by simp [belowH,Blk.below,belowL,below,i64_below,encN_below,symIs_below,strs_below,fcts_below,fncs_below,bnds_below]⟩|fail);(repeat' (first|exact trivial|refine ⟨⟨_,rfl,?_⟩,?_⟩|fail));all_goals try (first|exact Wk.refl _|exact Wk.of_eq (congrArg (AV.int _) (by omega))|fail))
   ·have hke:k=s.preds.length:=by omega
    subst hke
    rw [List.take_length]
    (repeat' ((conv=>whnf);(first|refine IfN.dF (by omega) ?_|refine DrawN.mk' [] ?_|fail)));all_goals (conv=>whnf)
    refine LoopN.tokB 5 5 97 3 rfl rfl rfl rfl rfl rfl ?_
    refine loop_R Tryz.E0 Tryz.mx (σ:=Nat) (fun k=>k≤s.funcs.length) (fun k=>s.funcs.length-k) (fun k=>[(90,.v (.int .i64 k))]) (fun k=>[.box 58 [.sl none s.preds.length (s.preds.flatMap symI),.sl none s.funcs.length (s.funcs.flatMap symI),.sl none s.vars.length (s.vars.flatMap encS)],.box 37 [.int .u8 0,.int .i64 0,.nils,.int .i64 0,.nils,.nils,.nils],.box 58 [.sl none s.preds.length (s.preds.flatMap symI),.sl none s.funcs.length (s.funcs.flatMap symI),.sl none s.vars.length (s.vars.flatMap encS)],.dead,.box 32 [.sl none (rs.length-(s.preds.length+k)) ((ds.drop (s.preds.length+k)).flatMap encN)],.box 37 [.int .u8 2,.int .i64 (n:Nat),.nils,.int .i64 0,.sl (some (H.length+6)) s.preds.length ((List.zipWith mkFct (s.preds) ds).flatMap Fct.cells),.sl (some (H.length+7)) k ((List.zipWith (mkFnc n) (s.funcs.take k) (ds.drop s.preds.length)).flatMap Fnc.cells),.nils],.tok 95 3 ((List.zipWith mkFct (s.preds) ds).flatMap Fct.cells).length,.tok 97 3 ((List.zipWith (mkFnc n) (s.funcs.take k) (ds.drop s.preds.length)).flatMap Fnc.cells).length]) _ 0 rfl hcl [1,3,6,12,13,88,89] rfl (Nat.zero_le _) ⟨⟨_,rfl,Wk.refl _⟩,trivial⟩ rfl (fun _ _=>rfl) ?_
    intro k hk
    rcases Nat.lt_or_ge k s.funcs.length with hlt|hge
    ·obtain ⟨u,v,hx,e1⟩:=symI_ex (s.funcs.getD k symI0)
     have hmem:s.funcs.getD k symI0∈s.funcs:=getD_memT s.funcs k symI0 hlt
     have ha:=p2 _ hmem
     rw [hx] at ha
     simp only at ha
     have hpw:=fun H=>powN_c n v.toNat hn (by omega) H
     rw [show ((v.toNat:Nat):Int)=v by omega] at hpw
     have hq:n ^ v.toNat≤3:=by
      have h1:n ^ v.toNat≤3 ^ v.toNat:=Nat.pow_le_pow_left hn.2 _
      have h2:3 ^ v.toNat≤3 ^ 1:=Nat.pow_le_pow_right (by decide) (by omega)
      omega
     have hdk:=hdle (s.preds.length+k) (by omega)
     have hdg:=fun H=>digits_c (ds.getD (s.preds.length+k) 0) n (n ^ v.toNat) hn.1 (by omega) (by omega) H
     have hns:(List.zipWith (mkFnc n) (s.funcs.take (k+1)) (ds.drop s.preds.length)).flatMap Fnc.cells=(List.zipWith (mkFnc n) (s.funcs.take k) (ds.drop s.preds.length)).flatMap Fnc.cells++[.str u,.int .i64 v,.sl none (n ^ v.toNat) ((digN n (n ^ v.toNat) (ds.getD (s.preds.length+k) 0)).flatMap encN)]:=by
      rw [zip_take (mkFnc n) symI0 s.funcs (ds.drop s.preds.length) k hlt (by rw [List.length_drop];omega),List.flatMap_append,List.flatMap_cons,List.flatMap_nil,List.append_nil,getD_drop',fnc_mk n _ _ hx]
     have hmlf:((List.zipWith (mkFnc n) (s.funcs.take k) (ds.drop s.preds.length)).flatMap Fnc.cells).length=k * 3:=by
      rw [flat_length fnc_size,zip_len _ _ _ (by rw [List.length_take,List.length_drop];omega),List.length_take,Nat.min_eq_left hk]
     have hbt:(k+1) * 48≤140737488355328:=by omega
     have hmx:k+1≤maxLen:=Nat.le_trans (show k+1≤1000001 by omega) (by decide)
     (repeat' ((conv=>whnf);(first|refine DrawN.mk' [4] ?_|refine IfN.dT (by omega) ?_|(refine EqN.addN _ _ Cst.h Cst.h ?_ ?_;· omega)|(refine SideN.mk ?_ ?_;· first|kernel_rfl|omega|exact List.cons_ne_nil _ _|(simp;done)|(simp;omega)|exact trivial|assumption|fail)|(refine CallD.id ?_;first|refine CallD.det _ (fun _ hq X=>hpw _) ?_|refine CallD.det _ (fun _ hq X=>hdg _) ?_|fail)|refine SegN.nthE symI0 k rfl (by omega) symI_size e1 ?_|refine CallD.setWL 4 _ _ _ rfl rfl rfl (hnx (s.preds.length+k) (by omega) _ _ (at_loc0 rfl)) ?_|refine SideN.mk ⟨rfl,rfl,rfl,hbt,hmx⟩ ?_|refine PtrN.loc _ rfl ?_|refine DrawN.mk' [] ?_|fail)));all_goals (conv=>whnf)
     rw [← hns]
     (refine ⟨⟨k+1,by show k+1≤_;omega,by omega,?_,.inl ⟨rfl,rfl⟩,rfl,_,rfl,?_⟩⟩;rotate_left 1;(first|exact .inl rfl|exact .inr ⟨by simp [belowRE,below,belowL,tr,i64_below,encN_below,symIs_below,strs_below,fcts_below,fncs_below,bnds_below],by simp [belowH,Blk.below,belowL,below,i64_below,encN_below,symIs_below,strs_below,fcts_below,fncs_below,bnds_below]⟩|fail);(repeat' (first|exact trivial|refine ⟨⟨_,rfl,?_⟩,?_⟩|fail));all_goals try (first|exact Wk.refl _|exact Wk.of_eq (congrArg (AV.int _) (by omega))|fail))
    ·have hke:k=s.funcs.length:=by omega
     subst hke
     rw [List.take_length]
     (repeat' ((conv=>whnf);(first|refine IfN.dF (by omega) ?_|refine DrawN.mk' [] ?_|fail)));all_goals (conv=>whnf)
     refine LoopN.tokB 5 6 99 2 rfl rfl rfl rfl rfl rfl ?_
     refine loop_R Tryz.E0 Tryz.mx (σ:=Nat) (fun k=>k≤s.vars.length) (fun k=>s.vars.length-k) (fun k=>[(117,.v (.int .i64 k))]) (fun k=>[.box 58 [.sl none s.preds.length (s.preds.flatMap symI),.sl none s.funcs.length (s.funcs.flatMap symI),.sl none s.vars.length (s.vars.flatMap encS)],.box 37 [.int .u8 0,.int .i64 0,.nils,.int .i64 0,.nils,.nils,.nils],.box 58 [.sl none s.preds.length (s.preds.flatMap symI),.sl none s.funcs.length (s.funcs.flatMap symI),.sl none s.vars.length (s.vars.flatMap encS)],.dead,.box 32 [.sl none (rs.length-(s.preds.length+s.funcs.length+k)) ((ds.drop (s.preds.length+s.funcs.length+k)).flatMap encN)],.box 37 [.int .u8 2,.int .i64 (n:Nat),.nils,.int .i64 0,.sl (some (H.length+6)) s.preds.length ((List.zipWith mkFct (s.preds) ds).flatMap Fct.cells),.sl (some (H.length+7)) s.funcs.length ((List.zipWith (mkFnc n) (s.funcs) (ds.drop s.preds.length)).flatMap Fnc.cells),.sl (some (H.length+8)) k ((List.zipWith mkBnd (s.vars.take k) (ds.drop (s.preds.length+s.funcs.length))).flatMap Bnd.cells)],.tok 95 3 ((List.zipWith mkFct (s.preds) ds).flatMap Fct.cells).length,.tok 97 3 ((List.zipWith (mkFnc n) (s.funcs) (ds.drop s.preds.length)).flatMap Fnc.cells).length,.tok 99 2 ((List.zipWith mkBnd (s.vars.take k) (ds.drop (s.preds.length+s.funcs.length))).flatMap Bnd.cells).length]) _ 0 rfl hcl [6,12,13,115,116] rfl (Nat.zero_le _) ⟨⟨_,rfl,Wk.refl _⟩,trivial⟩ rfl (fun _ _=>rfl) ?_
     intro k hk
     rcases Nat.lt_or_ge k s.vars.length with hlt|hge
     ·obtain ⟨u,hx,e1⟩:=encS_ex (s.vars.getD k .empty)
      have hns:(List.zipWith mkBnd (s.vars.take (k+1)) (ds.drop (s.preds.length+s.funcs.length))).flatMap Bnd.cells=(List.zipWith mkBnd (s.vars.take k) (ds.drop (s.preds.length+s.funcs.length))).flatMap Bnd.cells++[.str u,.int .i64 (ds.getD (s.preds.length+s.funcs.length+k) 0:Nat)]:=by
       rw [zip_take mkBnd .empty s.vars (ds.drop (s.preds.length+s.funcs.length)) k hlt (by rw [List.length_drop];omega),List.flatMap_append,List.flatMap_cons,List.flatMap_nil,List.append_nil,getD_drop',hx]
       rfl
      have hmlf:((List.zipWith mkBnd (s.vars.take k) (ds.drop (s.preds.length+s.funcs.length))).flatMap Bnd.cells).length=k * 2:=by
       rw [flat_length bnd_size,zip_len _ _ _ (by rw [List.length_take,List.length_drop];omega),List.length_take,Nat.min_eq_left hk]
      have hbt:(k+1) * 24≤140737488355328:=by omega
      have hmx:k+1≤maxLen:=Nat.le_trans (show k+1≤1000001 by omega) (by decide)
      (repeat' ((conv=>whnf);(first|refine DrawN.mk' [4] ?_|refine IfN.dT (by omega) ?_|(refine EqN.addN _ _ Cst.h Cst.h ?_ ?_;· omega)|(refine SideN.mk ?_ ?_;· first|kernel_rfl|omega|exact List.cons_ne_nil _ _|(simp;done)|(simp;omega)|exact trivial|assumption|fail)|refine SegN.nthE .empty k rfl (by omega) encS_size e1 ?_|refine CallD.setWL 4 _ _ _ rfl rfl rfl (hnx (s.preds.length+s.funcs.length+k) (by omega) _ _ (at_loc0 rfl)) ?_|refine SideN.mk ⟨rfl,rfl,rfl,hbt,hmx⟩ ?_|refine PtrN.loc _ rfl ?_|refine DrawN.mk' [] ?_|fail)));all_goals (conv=>whnf)
      rw [← hns]
      (refine ⟨⟨k+1,by show k+1≤_;omega,by omega,?_,.inl ⟨rfl,rfl⟩,rfl,_,rfl,?_⟩⟩;rotate_left 1;(first|exact .inl rfl|exact .inr ⟨by simp [belowRE,below,belowL,tr,i64_below,encN_below,symIs_below,strs_below,fcts_below,fncs_below,bnds_below],by simp [belowH,Blk.below,belowL,below,i64_below,encN_below,symIs_below,strs_below,fcts_below,fncs_below,bnds_below]⟩|fail);(repeat' (first|exact trivial|refine ⟨⟨_,rfl,?_⟩,?_⟩|fail));all_goals try (first|exact Wk.refl _|exact Wk.of_eq (congrArg (AV.int _) (by omega))|fail))
     ·have hke:k=s.vars.length:=by omega
      subst hke
      rw [List.take_length]
      have hz1:(List.zipWith mkFct s.preds ds).length=s.preds.length:=zip_len _ _ _ (by omega)
      have hz2:(List.zipWith (mkFnc n) s.funcs (ds.drop s.preds.length)).length=s.funcs.length:=zip_len _ _ _ (by rw [List.length_drop];omega)
      have hz3:(List.zipWith mkBnd s.vars (ds.drop (s.preds.length+s.funcs.length))).length=s.vars.length:=zip_len _ _ _ (by rw [List.length_drop];omega)
      (repeat' ((conv=>whnf);(first|refine IfN.dF (by omega) ?_|refine DrawN.mk' [] ?_|fail)));all_goals (conv=>whnf)
      unfold Mdl.cells
      simp only [hz1,hz2,hz3]
      refine EndN.det (by simp [below,belowL,fcts_below,fncs_below,bnds_below]) ?_
      (repeat' (first|exact trivial|refine And.intro ?_ ?_|exact Wk.refl _|exact wk_sl _ _ _|exact wk_sx _ _|exact wk_nils|refine wk_agg ?_|refine wk_tup ?_|fail));done
end Go.Proofs.YtgdmldelijeaoaaGreatDoor
/-! text BE41 -/
namespace Go.Proofs.YtgdmldelijeaoaaGreatDoor
open Go.Vsi
set_option maxHeartbeats 4000000
set_option linter.unusedSimpArgs false
attribute [local irreducible] VW VCall VO bits
def dgM (n:Nat) (m:Mdl):List Nat:=m.facts.map (fun f=>f.tr.toNat)++m.funcs.map (fun f=>numN n (f.vl.map Int.toNat))++m.binds.map fun b=>b.at_.toNat
theorem numR_fold:∀ (l:List (Nat×Nat)) (a:Nat),numR l a=l.foldl (fun a x=>a * x.1+x.2) a
 | [],_=>rfl
 | (r,d)::l,a=>by rw [numR,numR_fold l,List.foldl_cons]
theorem numR_take (l:List (Nat×Nat)) (k:Nat) (h:k<l.length):numR (l.take (k+1)) 0=numR (l.take k) 0 * (l.getD k (0,0)).1+(l.getD k (0,0)).2:=by
 rw [numR_fold,numR_fold,foldl_takeB _ (0,0) 0 l k h]
theorem take_snocN (l:List Nat) (k:Nat) (h:k<l.length):(l.take (k+1)).flatMap encN=(l.take k).flatMap encN++[.int .i64 (l.getD k 0:Nat)]:=by
 rw [take_snocD l 0 k h,List.flatMap_append]
 rfl
theorem getD_app1 (a b:List Nat) (k:Nat) (h:k<a.length):(a++b).getD k 0=a.getD k 0:=by
 rw [List.getD_eq_getElem?_getD,List.getElem?_append_left h,← List.getD_eq_getElem?_getD]
theorem getD_app2 (a b:List Nat) (p k:Nat) (h:a.length=p):(a++b).getD (p+k) 0=b.getD k 0:=by
 rw [List.getD_eq_getElem?_getD,List.getElem?_append_right (by omega),h,Nat.add_sub_cancel_left,← List.getD_eq_getElem?_getD]
theorem getD_mapN {α:Type} (f:α→Nat) (d:α) (l:List α) (k:Nat) (h:k<l.length):(l.map f).getD k 0=f (l.getD k d):=by
 simp [List.getD_eq_getElem?_getD,List.getElem?_eq_getElem h]
theorem vl_nat (l:List Int) (h:∀ v∈l,0≤v):l.flatMap enc64=(l.map Int.toNat).flatMap encN:=by
 rw [enc64_map,encN_map,List.map_map]
 refine List.map_congr_left fun v hv=>?_
 have:=h v hv
 show AV.int .i64 v=AV.int .i64 ((v.toNat:Nat):Int)
 rw [show ((v.toNat:Nat):Int)=v by omega]
theorem number_m (m:Mdl) (hm:m.Sm) (hnm:m.Nm) (hv:validM m=true) (n:Nat) (hn:m.size=n) (l1:m.facts.length≤300000) (l2:m.funcs.length≤300000) (l3:m.binds.length≤300000) (hc:¬ 16384<prodC (rngS (sigM m) n) 1) (hin:∀ x∈(rnN (sigM m) n).zip (dgM n m),x.2<x.1) (H:Heap) :
  VDet Tryz.prog 45 [.agg m.cells] H (.tup [.int .i64 (numR ((rnN (sigM m) n).zip (dgM n m)) 0:Nat),.int .i64 0]):=by
 obtain ⟨vm,hk2,hrel,hloop⟩:=vm_of hv
 have hsr:sigR (sigM m)=true:=by
  unfold validM at hv
  rw [Bool.and_eq_true,Bool.and_eq_true] at hv
  exact hv.2.1
 have hn3:1≤n∧n≤3:=by
  have h1:=vm.pos
  have h2:=vm.le
  omega
 have hnt:m.size.toNat=n:=by omega
 rw [hnt] at vm
 have hsm:=sigM_sm hm hnm
 have e1:(sigM m).preds.length=m.facts.length:=List.length_map _
 have e2:(sigM m).funcs.length=m.funcs.length:=List.length_map _
 have e3:(sigM m).vars.length=m.binds.length:=List.length_map _
 obtain ⟨p1,p2⟩:=sig_ar hsr
 have g1:=fun H=>valid_c m hm hnm H
 have g2:=fun H=>sigM_c m hm H
 have g3:=fun H=>count_c (sigM m) hsm hsr n hn3 (by omega) (by omega) (by omega) H
 have g4:=fun H=>ranges_c (sigM m) n hn3 (by omega) (by omega) (by omega) p1 p2 H
 rw [if_neg hc] at g3
 rw [hv] at g1
 rw [rng_flat,rng_len] at g4
 have hLr:(rnN (sigM m) n).length=m.facts.length+m.funcs.length+m.binds.length:=by
  unfold rnN
  rw [List.length_append,List.length_append,List.length_map,List.length_map,List.length_map,e1,e2,e3]
 have hLd:(dgM n m).length=m.facts.length+m.funcs.length+m.binds.length:=by
  unfold dgM
  rw [List.length_append,List.length_append,List.length_map,List.length_map,List.length_map]
 have hD1:∀ k,k<m.facts.length→(dgM n m).getD k 0=(m.facts.getD k fct0).tr.toNat:=fun k hk=>by
  unfold dgM
  rw [getD_app1 _ _ _ (by rw [List.length_append,List.length_map];omega),getD_app1 _ _ _ (by rw [List.length_map];omega),getD_mapN (fun f:Fct=>f.tr.toNat) fct0 _ _ hk]
 have hD2:∀ k,k<m.funcs.length→(dgM n m).getD (m.facts.length+k) 0=numN n ((m.funcs.getD k fnc0).vl.map Int.toNat):=fun k hk=>by
  unfold dgM
  rw [getD_app1 _ _ _ (by rw [List.length_append,List.length_map,List.length_map];omega),getD_app2 _ _ _ _ (List.length_map _),getD_mapN (fun f:Fnc=>numN n (f.vl.map Int.toNat)) fnc0 _ _ hk]
 have hD3:∀ k,k<m.binds.length→(dgM n m).getD (m.facts.length+m.funcs.length+k) 0=(m.binds.getD k bnd0).at_.toNat:=fun k hk=>by
  unfold dgM
  rw [getD_app2 _ _ _ _ (by rw [List.length_append,List.length_map,List.length_map]),getD_mapN (fun b:Bnd=>b.at_.toNat) bnd0 _ _ hk]
 have hprod:prodR (rnN (sigM m) n)≤16384:=by
  have h1:=prodC_le (rngS (sigM m) n) 1 (rng_pos (sigM m) n hn3.1) (by omega) hc
  rw [rng_nat,List.map_map] at h1
  have h2:(rnN (sigM m) n).map (Int.toNat∘fun x:Nat=>(x:Int))=rnN (sigM m) n:=by
   refine (List.map_congr_left fun x _=>?_).trans (List.map_id _)
   rfl
  rw [h2] at h1
  rw [rng_nat] at hc
  omega
 have hpos:=rn_pos (sigM m) n hn3.1
 have hbd:∀ k,numR (((rnN (sigM m) n).zip (dgM n m)).take k) 0≤16384:=fun k=>by
  have h1:=numR_lt (l:=((rnN (sigM m) n).zip (dgM n m)).take k) fun x hx=>hin x (List.mem_of_mem_take hx)
  have h2:(((rnN (sigM m) n).zip (dgM n m)).take k).map Prod.fst=(rnN (sigM m) n).take k:=by
   rw [List.map_take,List.map_fst_zip (by omega)]
  rw [h2] at h1
  have h3:=prodR_take (rnN (sigM m) n) hpos k
  omega
 have hsc:(sigM m).cells=[.sl none (sigM m).preds.length ((sigM m).preds.flatMap symI),.sl none (sigM m).funcs.length ((sigM m).funcs.flatMap symI),.sl none (sigM m).vars.length ((sigM m).vars.flatMap encS)]:=rfl
 have hmc:m.cells=[.int .u8 m.kind,.int .i64 m.size,.sl none m.rel.length (m.rel.flatMap enc64),.int .i64 m.loop,.sl none m.facts.length (m.facts.flatMap Fct.cells),.sl none m.funcs.length (m.funcs.flatMap Fnc.cells),.sl none m.binds.length (m.binds.flatMap Bnd.cells)]:=rfl
 rw [hsc] at g2 g3 g4
 rw [hmc] at g1 g2 ⊢
 rw [← hn] at g3 g4
 generalize prodC (rngS (sigM m) n) 1=P at g3
 generalize hrs:rnN (sigM m) n=rs at g4 hLr hin hbd ⊢
 generalize hDD:dgM n m=D at hLd hD1 hD2 hD3 hin hbd ⊢
 refine fn_det Tryz.E0 Tryz.mx Tryz.func45 (by kernel_rfl) rfl (Nat.le_of_ble_eq_true rfl) rfl fun hcl hbl=>?_
 (repeat' ((conv=>whnf);(first|(refine IfN.id ?_;first|refine IfN.not ?_|refine IfN.tt rfl ?_|fail)|(refine CallN.id ?_;first|refine CallN.det _ (g1 _) ?_|refine CallN.det _ (g2 _) ?_|refine CallN.det _ (g3 _) ?_|fail)|refine DrawN.mk' [] ?_|fail)));all_goals (conv=>whnf)
 refine LoopN.tok 7 3 1 rfl rfl rfl ?_
 refine loop_R Tryz.E0 Tryz.mx (σ:=Nat) (fun k=>k≤m.facts.length) (fun k=>m.facts.length-k) (fun k=>[(7,.v (.sl (some (H.length+2)) (k) ((D.take (k)).flatMap encN))),(35,.v (.int .i64 k))]) (fun k=>[.box 37 [.int .u8 m.kind,.int .i64 m.size,.sl none m.rel.length (m.rel.flatMap enc64),.int .i64 m.loop,.sl none m.facts.length (m.facts.flatMap Fct.cells),.sl none m.funcs.length (m.funcs.flatMap Fnc.cells),.sl none m.binds.length (m.binds.flatMap Bnd.cells)],.box 58 [.sl none (sigM m).preds.length ((sigM m).preds.flatMap symI),.sl none (sigM m).funcs.length ((sigM m).funcs.flatMap symI),.sl none (sigM m).vars.length ((sigM m).vars.flatMap encS)],.tok 3 1 ((D.take (k)).flatMap encN).length]) _ 0 rfl hcl [1,4,33,34] rfl (Nat.zero_le _) ⟨⟨_,rfl,Wk.refl _⟩,⟨_,rfl,Wk.refl _⟩,trivial⟩ rfl (fun _ _=>rfl) ?_
 intro k hk
 rcases Nat.lt_or_ge k m.facts.length with hlt|hge
 ·obtain ⟨u,v,z,hx,ex⟩:=fct_ex (f:=m.facts.getD k fct0) rfl
  have hmem:=getD_memT m.facts k fct0 hlt
  have hf:=(vm.facts _ hmem).2
  have hns:=take_snocN D k (by omega)
  rw [hD1 k hlt,hx] at hns
  rw [hx] at hf
  simp only at hns hf
  rw [show ((z.toNat:Nat):Int)=z by omega] at hns
  have hml:((D.take k).flatMap encN).length=k * 1:=by
   rw [flat_length (f:=encN) (sz:=1) (fun _=>rfl),List.length_take,Nat.min_eq_left (by omega)]
  have hbt:(k+1) * 8≤140737488355328:=by omega
  have hmx:k+1≤maxLen:=Nat.le_trans (show k+1≤1000001 by omega) (by decide)
  (repeat' ((conv=>whnf);(first|refine IfN.dT (by omega) ?_|(refine EqN.addN _ _ Cst.h Cst.h ?_ ?_;· omega)|(refine SideN.mk ?_ ?_;· first|kernel_rfl|omega|exact List.cons_ne_nil _ _|(simp;done)|(simp;omega)|exact trivial|assumption|fail)|refine SegN.nthE fct0 k rfl (by omega) fct_size ex ?_|refine SideN.mk ⟨rfl,rfl,rfl,hbt,hmx⟩ ?_|refine PtrN.loc _ rfl ?_|refine DrawN.mk' [] ?_|fail)));all_goals (conv=>whnf)
  rw [← hns]
  (refine ⟨⟨k+1,by show k+1≤_;omega,by omega,?_,.inl ⟨rfl,rfl⟩,rfl,_,rfl,?_⟩⟩;rotate_left 1;(first|exact .inl rfl|exact .inr ⟨by simp [belowRE,below,belowL,tr,i64_below,encN_below,symIs_below,strs_below,fcts_below,fncs_below,bnds_below],by simp [belowH,Blk.below,belowL,below,i64_below,encN_below,symIs_below,strs_below,fcts_below,fncs_below,bnds_below]⟩|fail);(repeat' (first|exact trivial|refine ⟨⟨_,rfl,?_⟩,?_⟩|fail));all_goals try (first|exact Wk.refl _|exact Wk.of_eq (congrArg (AV.int _) (by omega))|fail))
 ·have hke:k=m.facts.length:=by omega
  subst hke
  (repeat' ((conv=>whnf);(first|refine IfN.dF (by omega) ?_|refine DrawN.mk' [] ?_|fail)));all_goals (conv=>whnf)
  refine loop_R Tryz.E0 Tryz.mx (σ:=Nat) (fun k=>k≤m.funcs.length) (fun k=>m.funcs.length-k) (fun k=>[(7,.v (.sl (some (H.length+2)) (m.facts.length+k) ((D.take (m.facts.length+k)).flatMap encN))),(48,.v (.int .i64 k))]) (fun k=>[.box 37 [.int .u8 m.kind,.int .i64 m.size,.sl none m.rel.length (m.rel.flatMap enc64),.int .i64 m.loop,.sl none m.facts.length (m.facts.flatMap Fct.cells),.sl none m.funcs.length (m.funcs.flatMap Fnc.cells),.sl none m.binds.length (m.binds.flatMap Bnd.cells)],.box 58 [.sl none (sigM m).preds.length ((sigM m).preds.flatMap symI),.sl none (sigM m).funcs.length ((sigM m).funcs.flatMap symI),.sl none (sigM m).vars.length ((sigM m).vars.flatMap encS)],.tok 3 1 ((D.take (m.facts.length+k)).flatMap encN).length]) _ 0 rfl hcl [1,4,46,47] rfl (Nat.zero_le _) ⟨⟨_,rfl,Wk.refl _⟩,⟨_,rfl,Wk.refl _⟩,trivial⟩ rfl (fun _ _=>rfl) ?_
  intro k hk
  rcases Nat.lt_or_ge k m.funcs.length with hlt|hge
  ·obtain ⟨u,v,z,hx,ex⟩:=fnc_ex (f:=m.funcs.getD k fnc0) rfl
   have hmem:=getD_memT m.funcs k fnc0 hlt
   obtain ⟨hf1,hf2,hf3⟩:=vm.funcs _ hmem
   have hns:=take_snocN D (m.facts.length+k) (by omega)
   rw [hD2 k hlt,hx] at hns
   rw [hx] at hf1 hf2 hf3
   simp only at hns hf1 hf2 hf3
   have hle:z.length≤3:=by
    rw [hf2]
    have h1:n ^ v.toNat≤3 ^ v.toNat:=Nat.pow_le_pow_left hn3.2 _
    have h2:3 ^ v.toNat≤3 ^ 1:=Nat.pow_le_pow_right (by decide) (by omega)
    omega
   have hnu:=fun H=>number_c n hn3 (z.map Int.toNat) (by rw [List.length_map];omega) (fun w hw=>by
    obtain ⟨y,hy,rfl⟩:=List.mem_map.1 hw
    have:=hf3 y hy
    omega) H
   rw [← vl_nat z (fun y hy=>(hf3 y hy).1),List.length_map,← hn] at hnu
   have hml:((D.take (m.facts.length+k)).flatMap encN).length=(m.facts.length+k) * 1:=by
    rw [flat_length (f:=encN) (sz:=1) (fun _=>rfl),List.length_take,Nat.min_eq_left (by omega)]
   have hbt:(m.facts.length+k+1) * 8≤140737488355328:=by omega
   have hmx:m.facts.length+k+1≤maxLen:=Nat.le_trans (show m.facts.length+k+1≤1000001 by omega) (by decide)
   (repeat' ((conv=>whnf);(first|refine IfN.dT (by omega) ?_|(refine EqN.addN _ _ Cst.h Cst.h ?_ ?_;· omega)|(refine SideN.mk ?_ ?_;· first|kernel_rfl|omega|exact List.cons_ne_nil _ _|(simp;done)|(simp;omega)|exact trivial|assumption|fail)|refine CallN.det _ (hnu _) ?_|refine SegN.nthE fnc0 k rfl (by omega) fnc_size ex ?_|refine SideN.mk ⟨rfl,rfl,rfl,hbt,hmx⟩ ?_|refine PtrN.loc _ rfl ?_|refine DrawN.mk' [] ?_|fail)));all_goals (conv=>whnf)
   rw [← hns]
   (refine ⟨⟨k+1,by show k+1≤_;omega,by omega,?_,.inl ⟨rfl,rfl⟩,rfl,_,rfl,?_⟩⟩;rotate_left 1;(first|exact .inl rfl|exact .inr ⟨by simp [belowRE,below,belowL,tr,i64_below,encN_below,symIs_below,strs_below,fcts_below,fncs_below,bnds_below],by simp [belowH,Blk.below,belowL,below,i64_below,encN_below,symIs_below,strs_below,fcts_below,fncs_below,bnds_below]⟩|fail);(repeat' (first|exact trivial|refine ⟨⟨_,rfl,?_⟩,?_⟩|fail));all_goals try (first|exact Wk.refl _|exact Wk.of_eq (congrArg (AV.int _) (by omega))|fail))
  ·have hke:k=m.funcs.length:=by omega
   subst hke
   (repeat' ((conv=>whnf);(first|refine IfN.dF (by omega) ?_|refine DrawN.mk' [] ?_|fail)));all_goals (conv=>whnf)
   refine loop_R Tryz.E0 Tryz.mx (σ:=Nat) (fun k=>k≤m.binds.length) (fun k=>m.binds.length-k) (fun k=>[(7,.v (.sl (some (H.length+2)) (m.facts.length+m.funcs.length+k) ((D.take (m.facts.length+m.funcs.length+k)).flatMap encN))),(64,.v (.int .i64 k))]) (fun k=>[.box 37 [.int .u8 m.kind,.int .i64 m.size,.sl none m.rel.length (m.rel.flatMap enc64),.int .i64 m.loop,.sl none m.facts.length (m.facts.flatMap Fct.cells),.sl none m.funcs.length (m.funcs.flatMap Fnc.cells),.sl none m.binds.length (m.binds.flatMap Bnd.cells)],.box 58 [.sl none (sigM m).preds.length ((sigM m).preds.flatMap symI),.sl none (sigM m).funcs.length ((sigM m).funcs.flatMap symI),.sl none (sigM m).vars.length ((sigM m).vars.flatMap encS)],.tok 3 1 ((D.take (m.facts.length+m.funcs.length+k)).flatMap encN).length]) _ 0 rfl hcl [1,4,62,63] rfl (Nat.zero_le _) ⟨⟨_,rfl,Wk.refl _⟩,⟨_,rfl,Wk.refl _⟩,trivial⟩ rfl (fun _ _=>rfl) ?_
   intro k hk
   rcases Nat.lt_or_ge k m.binds.length with hlt|hge
   ·obtain ⟨u,v,hx,ex⟩:=bnd_ex (f:=m.binds.getD k bnd0) rfl
    have hmem:=getD_memT m.binds k bnd0 hlt
    have hf:=vm.binds _ hmem
    have hns:=take_snocN D (m.facts.length+m.funcs.length+k) (by omega)
    rw [hD3 k hlt,hx] at hns
    rw [hx] at hf
    simp only at hns hf
    rw [show ((v.toNat:Nat):Int)=v by omega] at hns
    have hml:((D.take (m.facts.length+m.funcs.length+k)).flatMap encN).length=(m.facts.length+m.funcs.length+k) * 1:=by
     rw [flat_length (f:=encN) (sz:=1) (fun _=>rfl),List.length_take,Nat.min_eq_left (by omega)]
    have hbt:(m.facts.length+m.funcs.length+k+1) * 8≤140737488355328:=by omega
    have hmx:m.facts.length+m.funcs.length+k+1≤maxLen:=Nat.le_trans (show m.facts.length+m.funcs.length+k+1≤1000001 by omega) (by decide)
    (repeat' ((conv=>whnf);(first|refine IfN.dT (by omega) ?_|(refine EqN.addN _ _ Cst.h Cst.h ?_ ?_;· omega)|(refine SideN.mk ?_ ?_;· first|kernel_rfl|omega|exact List.cons_ne_nil _ _|(simp;done)|(simp;omega)|exact trivial|assumption|fail)|refine SegN.nthE bnd0 k rfl (by omega) bnd_size ex ?_|refine SideN.mk ⟨rfl,rfl,rfl,hbt,hmx⟩ ?_|refine PtrN.loc _ rfl ?_|refine DrawN.mk' [] ?_|fail)));all_goals (conv=>whnf)
    rw [← hns]
    (refine ⟨⟨k+1,by show k+1≤_;omega,by omega,?_,.inl ⟨rfl,rfl⟩,rfl,_,rfl,?_⟩⟩;rotate_left 1;(first|exact .inl rfl|exact .inr ⟨by simp [belowRE,below,belowL,tr,i64_below,encN_below,symIs_below,strs_below,fcts_below,fncs_below,bnds_below],by simp [belowH,Blk.below,belowL,below,i64_below,encN_below,symIs_below,strs_below,fcts_below,fncs_below,bnds_below]⟩|fail);(repeat' (first|exact trivial|refine ⟨⟨_,rfl,?_⟩,?_⟩|fail));all_goals try (first|exact Wk.refl _|exact Wk.of_eq (congrArg (AV.int _) (by omega))|fail))
   ·have hke:k=m.binds.length:=by omega
    subst hke
    have htk:D.take (m.facts.length+m.funcs.length+m.binds.length)=D:=List.take_of_length_le (by omega)
    rw [htk]
    (repeat' ((conv=>whnf);(first|refine IfN.dF (by omega) ?_|refine CallN.det _ (g4 _) ?_|refine DrawN.mk' [] ?_|fail)));all_goals (conv=>whnf)
    refine loop_R Tryz.E0 Tryz.mx (σ:=Nat) (fun k=>k≤rs.length) (fun k=>rs.length-k) (fun k=>[(14,.v (.int .i64 (numR ((rs.zip D).take k) 0:Nat))),(79,.v (.int .i64 k))]) (fun _=>_) _ 0 rfl hcl [7,77,78] rfl (Nat.zero_le _) ⟨⟨_,rfl,Wk.refl _⟩,⟨_,rfl,Wk.refl _⟩,trivial⟩ rfl (fun _ _=>rfl) ?_
    intro k hk
    rcases Nat.lt_or_ge k rs.length with hlt|hge
    ·have hzl:(rs.zip D).length=rs.length:=by rw [List.length_zip];omega
     have hzk:(rs.zip D).getD k (0,0)=(rs.getD k 0,D.getD k 0):=by
      simp [List.getD_eq_getElem?_getD,List.getElem?_eq_getElem (show k<(rs.zip D).length by omega),List.getElem?_eq_getElem hlt,List.getElem?_eq_getElem (show k<D.length by omega)]
     have hs:=numR_take (rs.zip D) k (by omega)
     rw [hzk] at hs
     simp only at hs
     have b1:=hbd k
     have b2:=hbd (k+1)
     have b3:numR ((rs.zip D).take k) 0 * rs.getD k 0≤16384:=by omega
     (repeat' ((conv=>whnf);(first|refine IfN.dT (by omega) ?_|(refine EqN.id ?_;first|(refine EqN.addN _ _ Cst.h Cst.h ?_ ?_;· omega)|(refine EqN.mulN _ _ Cst.h Cst.h ?_ ?_;· omega)|fail)|(refine SideN.mk ?_ ?_;· first|kernel_rfl|omega|exact List.cons_ne_nil _ _|(simp;done)|(simp;omega)|exact trivial|assumption|fail)|refine SegN.nth (f:=encN) 0 k rfl (by omega) (fun _=>rfl) ?_|refine DrawN.mk' [] ?_|fail)));all_goals (conv=>whnf)
     (refine ⟨⟨k+1,by show k+1≤_;omega,by omega,?_,.inl ⟨rfl,rfl⟩,rfl,_,rfl,?_⟩⟩;rotate_left 1;(first|exact .inl rfl|exact .inr ⟨by simp [belowRE,below,belowL,tr,i64_below,encN_below,symIs_below,strs_below,fcts_below,fncs_below,bnds_below],by simp [belowH,Blk.below,belowL,below,i64_below,encN_below,symIs_below,strs_below,fcts_below,fncs_below,bnds_below]⟩|fail);(repeat' (first|exact trivial|refine ⟨⟨_,rfl,?_⟩,?_⟩|fail));all_goals try (first|exact Wk.refl _|exact Wk.of_eq (congrArg (AV.int _) (by omega))|fail))
    ·have hke:k=rs.length:=by omega
     subst hke
     rw [List.take_of_length_le (by rw [List.length_zip];omega)]
     (repeat' ((conv=>whnf);(first|refine IfN.dF (by omega) ?_|refine DrawN.mk' [] ?_|fail)));all_goals (conv=>whnf)
     exact EndN.det (by simp [below,belowL]) (Wk.refl _)
end Go.Proofs.YtgdmldelijeaoaaGreatDoor
/-! text BF41 -/
namespace Go.Proofs.YtgdmldelijeaoaaGreatDoor
open Go.Vsi
set_option maxHeartbeats 4000000
set_option linter.unusedSimpArgs false
attribute [local irreducible] VW VCall VO bits
theorem nat_flat (l:List Nat):(l.map Int.ofNat).flatMap enc64=l.flatMap encN:=by
 rw [enc64_map,encN_map,List.map_map]
 rfl
theorem perm_nd {n:Nat} {p:List Nat} (hp:PermOk n p):p.Nodup:=by
 refine List.pairwise_iff_getElem.2 fun i j hi hj hij h=>?_
 have hl:=hp.len
 have:=hp.inj i j (by omega) (by omega) (by
  rw [List.getD_eq_getElem?_getD,List.getD_eq_getElem?_getD,List.getElem?_eq_getElem hi,List.getElem?_eq_getElem hj,h])
 omega
theorem moved1 (fa:List Fct) (bi:List Bnd) (n:Nat) (p:List Nat) (c0:ByteArray) (v0:Nat) (hn:1≤n∧n≤3) (hv0:v0<n) (hp:PermOk n p) (m:Mdl) (hme:m=⟨2,n,[],0,fa,[⟨c0,0,[((v0:Nat):Int)]⟩],bi⟩) (hm:m.Sm) (hnm:m.Nm) (hv:validM m=true) (H:Heap) :
  VDet Tryz.prog 46 [.agg m.cells,.sl none p.length (p.flatMap encN)] H (.tup [.agg (movM n p m).cells,.int .i64 0]):=by
 have vm:=(vm_of hv).1
 have hsz:m.size.toNat=n:=by rw [hme];show ((n:Nat):Int).toNat=n;omega
 rw [hsz] at vm
 have l1:fa.length≤1000000:=by have:=hm.facts;rw [hme] at this;exact this
 have l3:bi.length≤1000000:=by have:=hm.binds;rw [hme] at this;exact this
 have hfv:∀ f∈fa,FctOk n f:=fun f hf=>vm.facts f (by rw [hme];exact hf)
 have hbv:∀ b∈bi,0≤b.at_∧b.at_<n:=fun b hb=>vm.binds b (by rw [hme];exact hb)
 have hplen:=hp.len
 have g1:=fun H=>valid_c m hm hnm H
 have g2:=fun H=>permutes_c n hn (p.map Int.ofNat) H
 have hpk:permB n (p.map Int.ofNat)=true:=by
  unfold permB
  rw [List.length_map,decide_eq_true hplen,Bool.true_and]
  exact pgo_ok p _ (fun a ha=>⟨by
   obtain ⟨i,hi,rfl⟩:=List.getElem_of_mem ha
   have:=hp.lt i (by omega)
   rwa [List.getD_eq_getElem?_getD,List.getElem?_eq_getElem hi] at this,rfl⟩) (perm_nd hp)
 rw [hpk,List.length_map,nat_flat] at g2
 rw [hv] at g1
 have hmc:m.cells=[.int .u8 2,.int .i64 (n:Nat),.sl none 0 [],.int .i64 0,.sl none fa.length (fa.flatMap Fct.cells),.sl none 1 [.str c0,.int .i64 0,.sl none 1 [.int .i64 (v0:Nat)]],.sl none bi.length (bi.flatMap Bnd.cells)]:=by
  rw [hme]
  unfold Mdl.cells
  rfl
 rw [hmc] at g1 ⊢
 have hmov:=fun t k ht hk H=>mov_c t n k p hn ht hk hp H
 have hmlt:=fun k t=>mvN_lt (show 0<n by omega) hp k t
 have hout:(movM n p m).cells=[.int .u8 2,.int .i64 (n:Nat),.sl none 0 [],.int .i64 0,.sl none fa.length ((fa.map (movFct n p)).flatMap Fct.cells),.sl none 1 [.str c0,.int .i64 0,.sl none 1 [.int .i64 (p.getD v0 0:Nat)]],.sl none bi.length ((bi.map (movBnd p)).flatMap Bnd.cells)]:=by
  rw [hme]
  unfold movM Mdl.cells
  simp only [List.length_map]
  rfl
 rw [hout]
 clear hout hmc hme hv hsz vm hpk
 refine fn_det Tryz.E0 Tryz.mx Tryz.func46 (by kernel_rfl) rfl (Nat.le_of_ble_eq_true rfl) rfl fun hcl hbl=>?_
 (repeat' ((conv=>whnf);(first|(refine IfN.id ?_;first|refine IfN.not ?_|refine IfN.tt rfl ?_|fail)|(refine CallN.id ?_;first|refine CallN.det _ (g1 _) ?_|refine CallN.det _ (g2 _) ?_|fail)|refine DrawN.mk' [] ?_|fail)));all_goals (conv=>whnf)
 refine LoopN.tokB 2 4 95 3 rfl rfl rfl rfl rfl rfl ?_
 refine loop_R Tryz.E0 Tryz.mx (σ:=Nat) (fun k=>k≤fa.length) (fun k=>fa.length-k) (fun k=>[(37,.v (.int .i64 k))]) (fun k=>[.box 37 [.int .u8 2,.int .i64 (n:Nat),.sl none 0 [],.int .i64 0,.sl none fa.length (fa.flatMap Fct.cells),.sl none 1 [.str c0,.int .i64 0,.sl none 1 [.int .i64 (v0:Nat)]],.sl none bi.length (bi.flatMap Bnd.cells)],.box 37 [.int .u8 0,.int .i64 0,.nils,.int .i64 0,.nils,.nils,.nils],.box 37 [.int .u8 2,.int .i64 (n:Nat),.nils,.int .i64 0,.sl (some (H.length+3)) k (((fa.take k).map (movFct n p)).flatMap Fct.cells),.nils,.nils],.tok 95 3 (((fa.take k).map (movFct n p)).flatMap Fct.cells).length]) _ 0 rfl hcl [1,2,4,6,35,36] rfl (Nat.zero_le _) ⟨⟨_,rfl,Wk.refl _⟩,trivial⟩ rfl (fun _ _=>rfl) ?_
 intro k hk
 rcases Nat.lt_or_ge k fa.length with hlt|hge
 ·obtain ⟨u,v,z,hx,ex⟩:=fct_ex (f:=fa.getD k fct0) rfl
  have hok:=hfv _ (getD_memT fa k fct0 hlt)
  rw [hx] at hok
  obtain ⟨har,htr1,htr2⟩:=hok
  simp only at har htr1 htr2
  obtain ⟨e,rfl⟩:∃ e:Nat,v=e:=⟨v.toNat,by omega⟩
  obtain ⟨zn,rfl⟩:∃ zn:Nat,z=zn:=⟨z.toNat,by omega⟩
  rw [Int.toNat_natCast,Int.toNat_natCast] at htr2
  have hpw:=fun H=>powN_c n e hn (by omega) H
  have hq:n ^ e≤9:=by
   have h1:n ^ e≤3 ^ e:=Nat.pow_le_pow_left hn.2 _
   have h2:3 ^ e≤3 ^ 2:=Nat.pow_le_pow_right (by decide) (by omega)
   omega
  have h512:2 ^ n ^ e≤512:=Nat.pow_le_pow_right (by decide) hq
  have hns:((fa.take (k+1)).map (movFct n p)).flatMap Fct.cells=((fa.take k).map (movFct n p)).flatMap Fct.cells++[.str u,.int .i64 (e:Nat),.int .i64 (movT n p e zn (n ^ e):Nat)]:=by
   rw [take_snocD fa fct0 k hlt,List.map_append,List.flatMap_append,hx]
   rfl
  have hmlf:(((fa.take k).map (movFct n p)).flatMap Fct.cells).length=k * 3:=by
   rw [flat_length fct_size,List.length_map,List.length_take,Nat.min_eq_left hk]
  have hbt:(k+1) * 32≤140737488355328:=by omega
  have hmx:k+1≤maxLen:=Nat.le_trans (show k+1≤1000001 by omega) (by decide)
  have hm2:=fun t ht H=>hmov t e ht (by omega) H
  have hml2:=hmlt e
  have hmT:=movT_lt (show 0<n by omega) hp e zn
  generalize hqq:n ^ e=q at hpw hq hml2 hmT h512 hns htr2
  (repeat' ((conv=>whnf);(first|refine IfN.dT (by omega) ?_|(refine SideN.mk ?_ ?_;· first|kernel_rfl|omega|exact List.cons_ne_nil _ _|(simp;done)|(simp;omega)|exact trivial|assumption|fail)|refine CallN.det _ (hpw _) ?_|refine SegN.nthE fct0 k rfl (by omega) fct_size ex ?_|refine DrawN.mk' [] ?_|fail)));all_goals (conv=>whnf)
  refine loop_R Tryz.E0 Tryz.mx (σ:=Nat) (fun t=>t≤q) (fun t=>q-t) (fun t=>[(51,.v (.int .i64 t))]) (fun t=>[.box 37 [.int .u8 2,.int .i64 (n:Nat),.sl none 0 [],.int .i64 0,.sl none fa.length (fa.flatMap Fct.cells),.sl none 1 [.str c0,.int .i64 0,.sl none 1 [.int .i64 (v0:Nat)]],.sl none bi.length (bi.flatMap Bnd.cells)],.box 37 [.int .u8 0,.int .i64 0,.nils,.int .i64 0,.nils,.nils,.nils],.box 37 [.int .u8 2,.int .i64 (n:Nat),.nils,.int .i64 0,.sl (some (H.length+3)) k (((fa.take k).map (movFct n p)).flatMap Fct.cells),.nils,.nils],.tok 95 3 (((fa.take k).map (movFct n p)).flatMap Fct.cells).length,.box 95 [.str u,.int .i64 (e:Nat),.int .i64 (zn:Nat)],.box 95 [.str u,.int .i64 (e:Nat),.int .i64 (movT n p e zn t:Nat)]]) _ 0 rfl hcl [1,2,4,6,8,9,35,36,37,50] rfl (Nat.zero_le _) ⟨⟨_,rfl,Wk.refl _⟩,trivial⟩ rfl (fun _ _=>rfl) ?_
  intro t ht
  rcases Nat.lt_or_ge t q with htl|htg
  ·have hm3:=hm2 t (by omega)
   have hl3:=hml2 t
   have hT3:=hmT t
   have hbit:(zn >>> t) &&& 1≤1:=Nat.and_le_right
   have hzt:zn >>> t<9223372036854775808:=by
    rw [Nat.shiftRight_eq_div_pow]
    have:=Nat.div_le_self zn (2 ^ t)
    omega
   have hsh:((zn >>> t) &&& 1) <<< mvN n p e t<9223372036854775808:=by
    rw [Nat.shiftLeft_eq]
    have h1:2 ^ mvN n p e t≤2 ^ 9:=Nat.pow_le_pow_right (by decide) (by omega)
    have h2:((zn >>> t) &&& 1) * 2 ^ mvN n p e t≤1 * 2 ^ 9:=Nat.mul_le_mul hbit h1
    omega
   have hst:movT n p e zn (t+1)=movT n p e zn t ||| (((zn >>> t) &&& 1) <<< mvN n p e t):=rfl
   (repeat' ((conv=>whnf);(first|refine IfN.dT (by omega) ?_|(refine EqN.id ?_;first|refine EqN.and (zn >>> t) 1 rfl rfl ⟨hzt,by decide⟩ ?_|refine EqN.shlN ((zn >>> t) &&& 1) (mvN n p e t) rfl rfl rfl (by omega) hsh ?_|refine EqN.or (movT n p e zn t) (((zn >>> t) &&& 1) <<< mvN n p e t) rfl rfl ⟨by omega,hsh⟩ ?_|(refine EqN.shrN _ _ Cst.h Cst.h rfl ?_ ?_;· (repeat' (first|omega|refine And.intro ?_ ?_|exact bnd_andl (by omega)|exact bnd_andr (by omega)|refine bnd_or ?_ ?_|refine bnd_or31 ?_ ?_|refine bnd_xor ?_ ?_|refine bnd_xor31 ?_ ?_|refine bnd_shr ?_|refine bnd_shl ?_ ?_|refine bnd_mod ?_|refine bnd_andl ?_|fail)))|(refine EqN.addN _ _ Cst.h Cst.h ?_ ?_;· omega)|fail)|(refine SideN.mk ?_ ?_;· first|kernel_rfl|omega|exact List.cons_ne_nil _ _|(simp;done)|(simp;omega)|exact trivial|assumption|fail)|refine CallD.det _ (fun _ hq X=>hm3 _) ?_|refine DrawN.mk' [] ?_|fail)));all_goals (conv=>whnf)
   (refine ⟨⟨t+1,by show t+1≤_;omega,by omega,?_,.inl ⟨rfl,rfl⟩,rfl,_,rfl,?_⟩⟩;rotate_left 1;(first|exact .inl rfl|exact .inr ⟨by simp [belowRE,below,belowL,tr,i64_below,encN_below,symIs_below,strs_below,fcts_below,fncs_below,bnds_below],by simp [belowH,Blk.below,belowL,below,i64_below,encN_below,symIs_below,strs_below,fcts_below,fncs_below,bnds_below]⟩|fail);(repeat' (first|exact trivial|refine ⟨⟨_,rfl,?_⟩,?_⟩|fail));all_goals try (first|exact Wk.refl _|exact Wk.of_eq (congrArg (AV.int _) (by omega))|fail))
  ·have hte:t=q:=by omega
   subst hte
   (repeat' ((conv=>whnf);(first|refine IfN.dF (by omega) ?_|(refine EqN.addN _ _ Cst.h Cst.h ?_ ?_;· omega)|refine SideN.mk ⟨rfl,rfl,rfl,hbt,hmx⟩ ?_|refine PtrN.loc _ rfl ?_|refine DrawN.mk' [] ?_|fail)));all_goals (conv=>whnf)
   rw [← hns]
   (refine ⟨⟨k+1,by show k+1≤_;omega,by omega,?_,.inr ?_,rfl,_,rfl,?_⟩⟩;rotate_left 2;(first|exact .inl rfl|exact .inr ⟨by simp [belowRE,below,belowL,tr,i64_below,encN_below,symIs_below,strs_below,fcts_below,fncs_below,bnds_below],by simp [belowH,Blk.below,belowL,below,i64_below,encN_below,symIs_below,strs_below,fcts_below,fncs_below,bnds_below]⟩|fail);all_goals (repeat' (first|exact trivial|refine ⟨⟨_,rfl,?_⟩,?_⟩|fail));all_goals try (first|exact Wk.refl _|exact Wk.of_eq (congrArg (AV.int _) (by omega))|fail))
 ·have hke:k=fa.length:=by omega
  subst hke
  rw [List.take_length]
  (repeat' ((conv=>whnf);(first|refine IfN.dF (by omega) ?_|refine DrawN.mk' [] ?_|fail)));all_goals (conv=>whnf)
  refine LoopN.tokB 2 5 97 3 rfl rfl rfl rfl rfl rfl ?_
  refine LoopN.rounds Tryz.E0 Tryz.mx 2 rfl ?_
  have hm0:∀ H,VDet Tryz.prog 106 [.int .i64 0,.int .i64 (n:Nat),.int .i64 0,.sl none p.length (p.flatMap encN)] H (.int .i64 0):=fun H=>hmov 0 0 (by omega) (by omega) H
  have hps:(p.getD v0 0:Nat)<n:=hp.lt v0 hv0
  (repeat' ((conv=>whnf);(first|refine OrN.natL ?_|refine IfN.tt rfl ?_|(refine SideN.mk ?_ ?_;· first|kernel_rfl|omega|exact List.cons_ne_nil _ _|(simp;done)|(simp;omega)|exact trivial|assumption|fail)|refine NatN.mk _ rfl ?_|refine OrN.r ?_|refine SegN.mk _ (seg_rfl rfl) ?_|refine DrawN.mk' [] ?_|fail)));all_goals (conv=>whnf)
  refine LoopN.rounds Tryz.E0 Tryz.mx 2 rfl ?_
  (repeat' ((conv=>whnf);(first|(refine IfN.id ?_;first|refine IfN.tt rfl ?_|refine IfN.ff rfl ?_|fail)|(refine EqN.addN _ _ Cst.h Cst.h ?_ ?_;· omega)|(refine SideN.mk ?_ ?_;· first|kernel_rfl|omega|exact List.cons_ne_nil _ _|(simp;done)|(simp;omega)|exact trivial|assumption|fail)|refine CallD.det _ (fun _ hq X=>hm0 _) ?_|refine SegN.nth (f:=encN) 0 v0 rfl (by omega) (fun _=>rfl) ?_|refine SideN.mk ⟨rfl,rfl,rfl,by decide,by decide⟩ ?_|refine PtrN.loc _ rfl ?_|refine SegN.mk _ (seg_rfl rfl) ?_|refine OfsN.at_ (by omega) ?_|refine DrawN.mk' [] ?_|fail)));all_goals (conv=>whnf)
  refine LoopN.tokB 2 6 99 2 rfl rfl rfl rfl rfl rfl ?_
  refine loop_R Tryz.E0 Tryz.mx (σ:=Nat) (fun k=>k≤bi.length) (fun k=>bi.length-k) (fun k=>[(128,.v (.int .i64 k))]) (fun k=>[.box 37 [.int .u8 2,.int .i64 (n:Nat),.sl none 0 [],.int .i64 0,.sl none fa.length (fa.flatMap Fct.cells),.sl none 1 [.str c0,.int .i64 0,.sl none 1 [.int .i64 (v0:Nat)]],.sl none bi.length (bi.flatMap Bnd.cells)],.box 37 [.int .u8 0,.int .i64 0,.nils,.int .i64 0,.nils,.nils,.nils],.box 37 [.int .u8 2,.int .i64 (n:Nat),.nils,.int .i64 0,.sl (some (H.length+3)) fa.length ((fa.map (movFct n p)).flatMap Fct.cells),.sl (some (H.length+4)) 1 [.str c0,.int .i64 0,.ms (H.length+6) 0 1],.sl (some (H.length+8)) k (((bi.take k).map (movBnd p)).flatMap Bnd.cells)],.tok 95 3 ((fa.map (movFct n p)).flatMap Fct.cells).length,.tok 97 3 3,.box 97 [.str c0,.int .i64 0,.sl none 1 [.int .i64 (v0:Nat)]],.box 3 [.int .i64 (p.getD v0 0:Nat)],.box 97 [.str c0,.int .i64 0,.ms (H.length+6) 0 1],.tok 99 2 (((bi.take k).map (movBnd p)).flatMap Bnd.cells).length]) _ 0 rfl hcl [1,4,6,126,127] rfl (Nat.zero_le _) ⟨⟨_,rfl,Wk.refl _⟩,trivial⟩ rfl (fun _ _=>rfl) ?_
  intro k hk
  rcases Nat.lt_or_ge k bi.length with hlt|hge
  ·obtain ⟨u,v,hx,ex⟩:=bnd_ex (f:=bi.getD k bnd0) rfl
   have hbk:=hbv _ (getD_memT bi k bnd0 hlt)
   rw [hx] at hbk
   simp only at hbk
   obtain ⟨bn,rfl⟩:∃ bn:Nat,v=bn:=⟨v.toNat,by omega⟩
   have hns:((bi.take (k+1)).map (movBnd p)).flatMap Bnd.cells=((bi.take k).map (movBnd p)).flatMap Bnd.cells++[.str u,.int .i64 (p.getD bn 0:Nat)]:=by
    rw [take_snocD bi bnd0 k hlt,List.map_append,List.flatMap_append,hx]
    rfl
   have hmlb:(((bi.take k).map (movBnd p)).flatMap Bnd.cells).length=k * 2:=by
    rw [flat_length bnd_size,List.length_map,List.length_take,Nat.min_eq_left hk]
   have hbt:(k+1) * 24≤140737488355328:=by omega
   have hmx:k+1≤maxLen:=Nat.le_trans (show k+1≤1000001 by omega) (by decide)
   (repeat' ((conv=>whnf);(first|refine IfN.dT (by omega) ?_|(refine EqN.addN _ _ Cst.h Cst.h ?_ ?_;· omega)|(refine SideN.mk ?_ ?_;· first|kernel_rfl|omega|exact List.cons_ne_nil _ _|(simp;done)|(simp;omega)|exact trivial|assumption|fail)|refine SegN.nthE bnd0 k rfl (by omega) bnd_size ex ?_|refine SegN.nth (f:=encN) 0 bn rfl (by omega) (fun _=>rfl) ?_|refine SideN.mk ⟨rfl,rfl,rfl,hbt,hmx⟩ ?_|refine PtrN.loc _ rfl ?_|refine DrawN.mk' [] ?_|fail)));all_goals (conv=>whnf)
   rw [← hns]
   (refine ⟨⟨k+1,by show k+1≤_;omega,by omega,?_,.inl ⟨rfl,rfl⟩,rfl,_,rfl,?_⟩⟩;rotate_left 1;(first|exact .inl rfl|exact .inr ⟨by simp [belowRE,below,belowL,tr,i64_below,encN_below,symIs_below,strs_below,fcts_below,fncs_below,bnds_below],by simp [belowH,Blk.below,belowL,below,i64_below,encN_below,symIs_below,strs_below,fcts_below,fncs_below,bnds_below]⟩|fail);(repeat' (first|exact trivial|refine ⟨⟨_,rfl,?_⟩,?_⟩|fail));all_goals try (first|exact Wk.refl _|exact Wk.of_eq (congrArg (AV.int _) (by omega))|fail))
  ·have hke:k=bi.length:=by omega
   subst hke
   rw [List.take_length]
   (repeat' ((conv=>whnf);(first|refine IfN.dF (by omega) ?_|refine DrawN.mk' [] ?_|fail)));all_goals (conv=>whnf)
   refine EndN.detF (by simp [below,belowL,fcts_below,fncs_below,bnds_below,encN_below]) (Frz.tup (.cons (Frz.agg (.cons (.refl _) (.cons (.refl _) (.cons (.refl _) (.cons (.refl _) (.cons (.refl _) (.cons (Frz.sl (.cons (.refl _) (.cons (.refl _) (.cons (Frz.ms (by exact rfl) (by exact rfl) (FrzL.refl _)) .nil)))) (.cons (.refl _) .nil)))))))) (.cons (.refl _) .nil))) ?_
   exact wk_tup ⟨wk_agg ⟨Wk.refl _,Wk.refl _,wk_nils,Wk.refl _,wk_sl _ _ _,Wk.refl _,wk_sl _ _ _,trivial⟩,Wk.refl _,trivial⟩
end Go.Proofs.YtgdmldelijeaoaaGreatDoor
/-! text BI41 -/
namespace Go.Proofs.YtgdmldelijeaoaaGreatDoor
open Go.Vsi
set_option maxHeartbeats 4000000
set_option linter.unusedSimpArgs false
attribute [local irreducible] VW VCall VO bits
end Go.Proofs.YtgdmldelijeaoaaGreatDoor
/-! text PF41 -/
namespace Go.Proofs.YtgdmldelijeaoaaGreatDoor
open Go.Vsi
set_option maxHeartbeats 4000000
theorem madW_valid (n:Nat) (hn:1≤n∧n≤3) (w:Nat→Nat):validM (madW n w)=true:=by
 have h:n=1∨n=2∨n=3:=by omega
 unfold validM
 rw [Bool.and_eq_true,Bool.and_eq_true,Bool.and_eq_true,Bool.and_eq_true,decide_eq_true_eq]
 refine ⟨⟨rfl,by show (1:Int)≤n;omega,by show (n:Int)≤3;omega,rfl,rfl⟩,?_,?_,?_,?_⟩
 ·show sigR ⟨[(nP,1),(nQ,0),(nR,2)],[(nA,0),(nF,1)],[nX,nY,nZ]⟩=true
  kernel_rfl
 ·rw [List.all_eq_true]
  intro f hf
  have hf:f=⟨nP,1,(w 0 % 2 ^ n:Nat)⟩∨f=⟨nQ,0,(w 1 % 2:Nat)⟩∨f=⟨nR,2,(w 2 % 2 ^ (n * n):Nat)⟩:=by simpa [madW] using hf
  unfold okFct
  rw [Bool.and_eq_true,decide_eq_true_eq,decide_eq_true_eq]
  rcases h with rfl|rfl|rfl <;> rcases hf with rfl|rfl|rfl <;> exact ⟨Int.natCast_nonneg _,Int.ofNat_lt.2 (Nat.mod_lt _ (by decide))⟩
 ·rw [List.all_eq_true]
  intro f hf
  have hf:f=⟨nA,0,[(w 3 % n:Nat)]⟩∨f=⟨nF,1,(List.range n).map fun i=>((w 4 / 2 ^ (4 * i) % 16 % n:Nat):Int)⟩:=by simpa [madW] using hf
  have he:∀ m:Nat,elB (n:Int) ((m % n:Nat):Int)=true:=fun m=>by
   unfold elB
   rw [Bool.and_eq_true,decide_eq_true_eq,decide_eq_true_eq]
   exact ⟨Int.natCast_nonneg _,Int.ofNat_lt.2 (Nat.mod_lt _ (by omega))⟩
  unfold okFnc
  rw [Bool.and_eq_true,decide_eq_true_eq,List.all_eq_true]
  rcases hf with rfl|rfl
  ·exact ⟨by show (1:Nat)=n ^ 0;rfl,fun v hv=>by rw [List.mem_singleton.1 hv];exact he _⟩
  ·refine ⟨by rw [List.length_map,List.length_range];exact (Nat.pow_one n).symm,fun v hv=>?_⟩
   obtain ⟨i,-,rfl⟩:=List.mem_map.1 hv
   exact he _
 ·rcases h with rfl|rfl|rfl <;> simp [madW,okBnd,elB] <;> omega
end Go.Proofs.YtgdmldelijeaoaaGreatDoor
/-! text PG41 -/
namespace Go.Proofs.YtgdmldelijeaoaaGreatDoor
open Go.Vsi
set_option maxHeartbeats 4000000
theorem bTm_noV:∀ k i:Nat,∀ x,(bTmI k i).hasV x→x=nX∨x=nY∨x=nZ
 | k,0,x,h=>by
   have hk:k % 4<4:=Nat.mod_lt _ (by decide)
   have:k % 4=0∨k % 4=1∨k % 4=2∨k % 4=3:=by omega
   unfold bTmI bts at h
   rcases this with e|e|e|e <;> rw [e] at h
   ·exact .inl (Eq.symm h)
   ·exact .inr (.inl (Eq.symm h))
   ·exact .inr (.inr (Eq.symm h))
   ·exact h.elim
 | k,i+1,x,h=>bTm_noV k i x h
theorem gF_mem {Q:Fq→Prop} {S:List Fq} {i:Nat} (h:∀ p∈S,Q p) (hi:i<S.length):Q (gF S i):=by
 unfold gF
 rw [List.getD_eq_getElem?_getD,List.getElem?_eq_getElem hi]
 exact h _ (List.getElem_mem hi)
theorem stp_all {Q:Fq→Prop} (hP:∀ k,Q (.at_ nP [bTm k])) (hQ:Q (.at_ nQ [])) (hR:∀ k j,Q (.at_ nR [bTm k,bTm j])) (h1:∀ a,Q a→Q (.f1 a)) (h2:∀ k a b,(k=4∨k=5∨k=6∨k=7)→Q a→Q b→Q (.f2 k a b)) (hq:∀ k j a,(k=8∨k=9)→Q a→Q (.qn k (ltr j) a)) (S:List Fq) (q k c:Nat) (h:∀ p∈S,Q p):∀ p∈(stpC S q k c).1,Q p:=by
 have ht:∀ n,∀ p∈S.take n,Q p:=fun n p hp=>h p (List.mem_of_mem_take hp)
 unfold stpC
 split
 all_goals try split
 all_goals try exact h
 all_goals
  intro p hp
  rcases List.mem_append.1 hp with hp|hp
  ·first|exact h p hp|exact ht _ p hp
  ·rw [List.mem_singleton.1 hp]
   first
   | exact hP _
   | exact hQ
   | exact hR _ _
   | exact h1 _ (gF_mem h (by omega))
   | exact h2 _ _ _ (by omega) (gF_mem h (by omega)) (gF_mem h (by omega))
   | exact hq _ _ _ (by omega) (gF_mem h (by omega))
theorem blt_all {Q:Fq→Prop} (hfa:Q .fa) (hP:∀ k,Q (.at_ nP [bTm k])) (hQ:Q (.at_ nQ [])) (hR:∀ k j,Q (.at_ nR [bTm k,bTm j])) (h1:∀ a,Q a→Q (.f1 a)) (h2:∀ k a b,(k=4∨k=5∨k=6∨k=7)→Q a→Q b→Q (.f2 k a b)) (hq:∀ k j a,(k=8∨k=9)→Q a→Q (.qn k (ltr j) a)) (l:List Nat):Q (bltF l):=by
 have hf:∀ (l:List Nat) (s:BS),(∀ p∈s.1,Q p)→∀ p∈(l.foldl stp s).1,Q p:=by
  intro l
  induction l with
  | nil=>exact fun s h=>h
  | cons b l ih=>exact fun s h=>ih _ (stp_all hP hQ hR h1 h2 hq s.1 s.2 _ _ h)
 have hS:∀ p∈(bst (l.take 24)).1,Q p:=hf _ _ (fun p hp=>by cases hp)
 unfold bltF
 generalize (bst (l.take 24)).1=S at hS
 unfold finF
 split
 ·exact hfa
 ·rename_i h0
  have:∀ j,j<S.length→Q (andN S j):=by
   intro j
   induction j with
   | zero=>exact fun hj=>gF_mem hS hj
   | succ j ih=>exact fun hj=>h2 _ _ _ (by omega) (ih (by omega)) (gF_mem hS hj)
  exact this _ (by omega)
end Go.Proofs.YtgdmldelijeaoaaGreatDoor
/-! text PH41 -/
namespace Go.Proofs.YtgdmldelijeaoaaGreatDoor
open Go.Vsi
set_option maxHeartbeats 4000000
theorem madW_sm (n:Nat) (hn:1≤n∧n≤3) (w:Nat→Nat):(madW n w).Sm:=by
 refine ⟨Nat.zero_le _,by show 3≤1000000;omega,by show 2≤1000000;omega,by show 3≤1000000;omega,fun f hf=>?_⟩
 have hf:f=⟨nA,0,[(w 3 % n:Nat)]⟩∨f=⟨nF,1,(List.range n).map fun i=>((w 4 / 2 ^ (4 * i) % 16 % n:Nat):Int)⟩:=by simpa [madW] using hf
 rcases hf with rfl|rfl
 ·show 1≤4611686018427387904
  omega
 ·show ((List.range n).map _).length≤4611686018427387904
  rw [List.length_map,List.length_range]
  omega
theorem madW_nm (n:Nat) (w:Nat→Nat):(madW n w).Nm:=by
 refine ⟨fun x hx=>?_,fun x hx=>?_,fun x hx=>?_⟩
 ·have hx:x.nm=nP∨x.nm=nQ∨x.nm=nR:=by
   have hx:x=⟨nP,1,(w 0 % 2 ^ n:Nat)⟩∨x=⟨nQ,0,(w 1 % 2:Nat)⟩∨x=⟨nR,2,(w 2 % 2 ^ (n * n):Nat)⟩:=by simpa [madW] using hx
   rcases hx with rfl|rfl|rfl
   ·exact .inl rfl
   ·exact .inr (.inl rfl)
   ·exact .inr (.inr rfl)
  rcases hx with h|h|h <;> rw [h] <;> exact Nat.le_of_ble_eq_true rfl
 ·have hx:x.nm=nA∨x.nm=nF:=by
   have hx:x=⟨nA,0,[(w 3 % n:Nat)]⟩∨x=⟨nF,1,(List.range n).map fun i=>((w 4 / 2 ^ (4 * i) % 16 % n:Nat):Int)⟩:=by simpa [madW] using hx
   rcases hx with rfl|rfl
   ·exact .inl rfl
   ·exact .inr rfl
  rcases hx with h|h <;> rw [h] <;> exact Nat.le_of_ble_eq_true rfl
 ·have hx:x.nm=nX∨x.nm=nY∨x.nm=nZ:=by
   have hx:x=⟨nX,(w 5 % n:Nat)⟩∨x=⟨nY,(w 6 % n:Nat)⟩∨x=⟨nZ,(w 7 % n:Nat)⟩:=by simpa [madW] using hx
   rcases hx with rfl|rfl|rfl
   ·exact .inl rfl
   ·exact .inr (.inl rfl)
   ·exact .inr (.inr rfl)
  rcases hx with h|h|h <;> rw [h] <;> exact Nat.le_of_ble_eq_true rfl
end Go.Proofs.YtgdmldelijeaoaaGreatDoor
/-! text PI41 -/
namespace Go.Proofs.YtgdmldelijeaoaaGreatDoor
open Go.Vsi
set_option maxHeartbeats 4000000
def msF (c q:Nat):Fq→Nat
 | .at_ _ _=>c
 | .fa=>c
 | .f1 a=>msF c q a+c
 | .f2 _ a b=>msF c q a+msF c q b+c
 | .qn _ _ a=>msF c q a+c+q
def totF (c q:Nat) (S:List Fq):Nat:=(S.map (msF c q)).sum
theorem tot_app (c q:Nat) (S T:List Fq):totF c q (S++T)=totF c q S+totF c q T:=by simp [totF]
theorem tot_one (c q:Nat) (p:Fq):totF c q [p]=msF c q p:=by simp [totF]
theorem last1 {S:List Fq} (h:1≤S.length):S=S.take (S.length-1)++[gF S (S.length-1)]:=by
 have h1:=(List.take_append_drop (S.length-1) S).symm
 rw [drop_getD S (S.length-1) .fa (by omega),show S.length-1+1=S.length by omega,List.drop_length] at h1
 exact h1
theorem last2 {S:List Fq} (h:2≤S.length):S=S.take (S.length-2)++[gF S (S.length-2),gF S (S.length-1)]:=by
 have h1:=(List.take_append_drop (S.length-2) S).symm
 rw [drop_getD S (S.length-2) .fa (by omega),show S.length-2+1=S.length-1 by omega,drop_getD S (S.length-1) .fa (by omega),show S.length-1+1=S.length by omega,List.drop_length] at h1
 exact h1
theorem tot_l1 (c q:Nat) (S:List Fq) (h:1≤S.length):totF c q (S.take (S.length-1))+msF c q (gF S (S.length-1))=totF c q S:=by
 have:=congrArg (totF c q) (last1 h)
 rw [tot_app,tot_one] at this
 exact this.symm
theorem tot_l2 (c q:Nat) (S:List Fq) (h:2≤S.length):totF c q (S.take (S.length-2))+(msF c q (gF S (S.length-2))+msF c q (gF S (S.length-1)))=totF c q S:=by
 have:=congrArg (totF c q) (last2 h)
 rw [tot_app,show [gF S (S.length-2),gF S (S.length-1)]=[gF S (S.length-2)]++[gF S (S.length-1)] from rfl,tot_app,tot_one,tot_one] at this
 exact this.symm
theorem tot_step (c q:Nat) (S:List Fq) (u k o:Nat):totF c q (stpC S u k o).1+q * u≤totF c q S+c+q * (stpC S u k o).2:=by
 have h1:=fun h=>tot_l1 c q S h
 have h2:=fun h=>tot_l2 c q S h
 unfold stpC
 split
 all_goals try split
 all_goals try (rename_i h;have h1:=h1 (by omega))
 all_goals try (have h2:=h2 (by omega))
 all_goals simp only [tot_app,tot_one,msF,Nat.mul_add,Nat.mul_one]
 all_goals omega
theorem tot_fold (c q:Nat):∀ (l:List Nat) (s:BS),totF c q (l.foldl stp s).1+q * s.2≤totF c q s.1+c * l.length+q * (l.foldl stp s).2
 | [],s=>by simp
 | b::l,s=>by
   have h1:=tot_fold c q l (stp s b)
   have h2:=tot_step c q s.1 s.2 (b / 12) (b % 12)
   rw [List.foldl_cons,List.length_cons,Nat.mul_add,Nat.mul_one]
   unfold stp at h1 ⊢
   omega
theorem bst_nodes (l:List Nat):totF 1 0 (bst (l.take 24)).1≤24:=by
 have:=tot_fold 1 0 (l.take 24) ([],0)
 have h2:(l.take 24).length≤24:=by rw [List.length_take];omega
 unfold bst
 have e0:totF 1 0 ([]:List Fq)=0:=rfl
 simp only [e0] at this
 omega
def dF:Fq→Nat
 | .at_ _ _=>1
 | .fa=>1
 | .f1 a=>dF a+1
 | .f2 _ a b=>max (dF a) (dF b)+1
 | .qn _ _ a=>dF a+1
theorem ms_pos:∀ p:Fq,1≤msF 1 0 p
 | .at_ _ _=>Nat.le_refl _
 | .fa=>Nat.le_refl _
 | .f1 a=>Nat.le_add_left _ _
 | .f2 _ a b=>Nat.le_add_left _ _
 | .qn _ _ a=>Nat.le_add_left _ _
theorem dF_le:∀ p:Fq,dF p≤msF 1 0 p
 | .at_ _ _=>Nat.le_refl _
 | .fa=>Nat.le_refl _
 | .f1 a=>Nat.succ_le_succ (dF_le a)
 | .f2 _ a b=>by
   have h1:=dF_le a
   have h2:=dF_le b
   show max (dF a) (dF b)+1≤msF 1 0 a+msF 1 0 b+1
   omega
 | .qn _ _ a=>Nat.succ_le_succ (dF_le a)
theorem tot_mem {c q:Nat}:∀ {S:List Fq} {p:Fq},p∈S→(∀ x,c≤msF c q x)→msF c q p+c * (S.length-1)≤totF c q S
 | x::S,p,h,hp=>by
   have hlen:∀ T:List Fq,c * T.length≤totF c q T:=by
    intro T
    induction T with
    | nil=>simp
    | cons y T ih =>
      have e1:totF c q (y::T)=msF c q y+totF c q T:=by simp [totF]
      rw [e1,List.length_cons,Nat.mul_add,Nat.mul_one]
      have:=hp y
      omega
   have e1:totF c q (x::S)=msF c q x+totF c q S:=by simp [totF]
   rw [e1,List.length_cons,Nat.add_sub_cancel]
   rcases List.mem_cons.1 h with rfl|h
   ·have:=hlen S
    omega
   ·have h1:=tot_mem h hp
    have h2:1≤S.length:=List.length_pos_of_mem h
    obtain ⟨n,hn⟩:∃ n,S.length=n+1:=⟨S.length-1,by omega⟩
    rw [hn,Nat.add_sub_cancel] at h1
    rw [hn,Nat.mul_add,Nat.mul_one]
    have:=hp x
    omega
theorem gF_in {S:List Fq} {i:Nat} (h:i<S.length):gF S i∈S:=gF_mem (Q:=fun p=>p∈S) (fun _ h=>h) h
theorem and_dep (S:List Fq) (m:Nat) (hm:∀ p∈S,dF p≤m):∀ j,j<S.length→dF (andN S j)≤j+m
 | 0,h=>by
   have:=hm _ (gF_in h)
   show dF (gF S 0)≤_
   omega
 | j+1,h=>by
   have h1:=and_dep S m hm j (by omega)
   have h2:=hm _ (gF_in h)
   show max (dF (andN S j)) (dF (gF S (j+1)))+1≤_
   omega
theorem and_ms (c q:Nat) (S:List Fq):∀ j,j<S.length→msF c q (andN S j)=totF c q (S.take (j+1))+c * j
 | 0,h=>by
   show msF c q (gF S 0)=_
   have:S.take 1=[gF S 0]:=by
    unfold gF
    rw [List.take_add_one,List.getD_eq_getElem?_getD,List.getElem?_eq_getElem h]
    rfl
   rw [this,tot_one]
   omega
 | j+1,h=>by
   have h1:=and_ms c q S j (by omega)
   have h2:S.take (j+1+1)=S.take (j+1)++[gF S (j+1)]:=by
    unfold gF
    rw [List.take_add_one,List.getD_eq_getElem?_getD,List.getElem?_eq_getElem h]
    rfl
   show msF c q (andN S j)+msF c q (gF S (j+1))+c=_
   rw [h1,h2,tot_app,tot_one,Nat.mul_add,Nat.mul_one]
   omega
theorem blt_dep (l:List Nat):dF (bltF l)≤24:=by
 have ht:=bst_nodes l
 unfold bltF
 generalize (bst (l.take 24)).1=S at ht
 unfold finF
 split
 ·show 1≤24
  omega
 ·have:=and_dep S (24-(S.length-1)) (fun p hp=>by
   have h1:=tot_mem (c:=1) (q:=0) hp ms_pos
   have h2:=dF_le p
   omega) (S.length-1) (by omega)
  have h3:S.length≤24:=by
   have h1:=tot_mem (c:=1) (q:=0) (gF_in (S:=S) (i:=0) (by omega)) ms_pos
   have h2:=ms_pos (gF S 0)
   omega
  omega
theorem blt_nodes (l:List Nat):msF 1 0 (bltF l)≤47:=by
 have ht:=bst_nodes l
 unfold bltF
 generalize (bst (l.take 24)).1=S at ht
 unfold finF
 split
 ·show 1≤47
  omega
 ·rw [and_ms 1 0 S (S.length-1) (by omega),show S.length-1+1=S.length by omega,List.take_length]
  have h1:=tot_mem (c:=1) (q:=0) (gF_in (S:=S) (i:=0) (by omega)) ms_pos
  have h2:=ms_pos (gF S 0)
  omega
def wT:Tq→Nat
 | .vr _=>1
 | .cn _=>1
 | .ap _ t=>wT t+1
def stdT:Tq→Prop
 | .vr s=>isVar s=true
 | .cn s=>isFun s=true
 | .ap s t=>isFun s=true∧stdT t
def wF:Fq→Nat
 | .at_ _ l=>(l.map wT).sum+1
 | .fa=>1
 | .f1 a=>wF a+1
 | .f2 _ a b=>wF a+wF b+1
 | .qn _ _ a=>wF a+1
def stdF:Fq→Prop
 | .at_ s l=>isPred s=true∧l.length≤2∧∀ t∈l,stdT t∧wT t≤3
 | .fa=>True
 | .f1 a=>stdF a
 | .f2 k a b=>(k=4∨k=5∨k=6∨k=7)∧stdF a∧stdF b
 | .qn k x a=>(k=8∨k=9)∧isVar x=true∧stdF a
theorem jT_ok:∀ (t:Tq) (d:Nat) (L:Int),stdT t→(wT t:Int)≤L→d+wT t≤41→jT d t.tm L=(L-wT t,true)
 | .vr s,d,L,h,h1,h2=>by
   have h1:(1:Int)≤L:=h1
   have h2:d+1≤41:=h2
   show jT d (.mk true s []) L=(L-1,true)
   unfold jT
   rw [if_neg (by omega),if_pos rfl,show isVar s=true from h]
   rfl
 | .cn s,d,L,h,h1,h2=>by
   have h1:(1:Int)≤L:=h1
   have h2:d+1≤41:=h2
   show jT d (.mk false s []) L=(L-1,true)
   unfold jT
   rw [if_neg (by omega),if_neg (by decide),if_pos ⟨Nat.zero_le _,h⟩,jTs_nil]
 | .ap s t,d,L,h,h1,h2=>by
   have h1:((wT t+1:Nat):Int)≤L:=h1
   have h2:d+(wT t+1)≤41:=h2
   have ih:=jT_ok t (d+1) (L-1) h.2 (by omega) (by omega)
   show jT d (.mk false s [t.tm]) L=(L-((wT t+1:Nat):Int),true)
   unfold jT
   rw [if_neg (by omega),if_neg (by decide),if_pos ⟨by show 1≤4;omega,h.1⟩,jTs_cons,ih,if_pos rfl,jTs_nil]
   simp only [Prod.mk.injEq,and_true]
   omega
theorem jTs_ok:∀ (l:List Tq) (d:Nat) (L:Int),(∀ t∈l,stdT t∧wT t≤3)→(((l.map wT).sum:Nat):Int)≤L→d≤38→jTs d (l.map Tq.tm) L=(L-((l.map wT).sum:Nat),true)
 | [],d,L,_,_,_=>by
   rw [List.map_nil,jTs_nil]
   simp
 | t::l,d,L,h,h1,h2=>by
   have e:((t::l).map wT).sum=wT t+(l.map wT).sum:=by simp
   rw [e] at h1 ⊢
   obtain ⟨q1,q2⟩:=h t List.mem_cons_self
   rw [List.map_cons,jTs_cons,jT_ok t d L q1 (by omega) (by omega),if_pos rfl,jTs_ok l d _ (fun x hx=>h x (List.mem_cons_of_mem _ hx)) (by simp only;omega) h2]
   simp only [Prod.mk.injEq,and_true]
   omega
theorem jF_ok:∀ (p:Fq) (d:Nat) (L:Int),stdF p→(wF p:Int)≤L→d+dF p≤38→jF d p.fo L=(L-wF p,true)
 | .at_ s l,d,L,h,h1,h2=>by
   have h1:(((l.map wT).sum+1:Nat):Int)≤L:=h1
   have h2:d+1≤38:=h2
   show jF d (.mk 1 s (l.map Tq.tm) []) L=(L-(((l.map wT).sum+1:Nat):Int),true)
   unfold jF
   rw [if_neg (by omega),if_neg (by decide),if_neg (fun hn=>hn ⟨h.1,by rw [List.length_map];exact Nat.le_trans h.2.1 (by decide),rfl⟩),jTs_ok l (d+1) (L-1) h.2.2 (by omega) (by omega),if_pos rfl,jFs_nil]
   simp only [Prod.mk.injEq,and_true]
   omega
 | .fa,d,L,h,h1,h2=>by
   have h1:(1:Int)≤L:=h1
   have h2:d+1≤38:=h2
   show jF d (.mk 2 .empty [] []) L=(L-1,true)
   unfold jF
   rw [if_neg (by omega),if_neg (by decide),if_neg (fun hn=>hn ⟨by kernel_rfl,Nat.zero_le _,rfl⟩),jTs_nil,if_pos rfl,jFs_nil]
 | .f1 a,d,L,h,h1,h2=>by
   have h1:((wF a+1:Nat):Int)≤L:=h1
   have h2:d+(dF a+1)≤38:=h2
   have ih:=jF_ok a (d+1) (L-1) h (by omega) (by omega)
   show jF d (.mk 3 .empty [] [a.fo]) L=(L-((wF a+1:Nat):Int),true)
   unfold jF
   rw [if_neg (by omega),if_neg (by decide),if_neg (fun hn=>hn ⟨by kernel_rfl,Nat.zero_le _,rfl⟩),jTs_nil,if_pos rfl,jFs_cons,ih,if_pos rfl,jFs_nil]
   simp only [Prod.mk.injEq,and_true]
   omega
 | .f2 k a b,d,L,h,h1,h2=>by
   have h1:((wF a+wF b+1:Nat):Int)≤L:=h1
   have h2:d+(max (dF a) (dF b)+1)≤38:=h2
   have ih:=jF_ok a (d+1) (L-1) h.2.1 (by omega) (by omega)
   have ih2:=jF_ok b (d+1) (L-1-wF a) h.2.2 (by omega) (by omega)
   obtain ⟨r1,r2,r3⟩:rowK k=true∧rowN k=0∧rowS k=2:=by rcases h.1 with rfl|rfl|rfl|rfl <;> decide
   have hk:k<17:=by have:=h.1;omega
   show jF d (.mk k .empty [] [a.fo,b.fo]) L=(L-((wF a+wF b+1:Nat):Int),true)
   unfold jF
   rw [if_neg (by omega),r1,if_neg (by decide),r2,r3,if_neg (fun hn=>hn ⟨by kernel_rfl,Nat.zero_le _,rfl⟩),jTs_nil,if_pos rfl,jFs_cons,ih,if_pos rfl,jFs_cons,ih2,if_pos rfl,jFs_nil]
   simp only [Prod.mk.injEq,and_true]
   omega
 | .qn k x a,d,L,h,h1,h2=>by
   have h1:((wF a+1:Nat):Int)≤L:=h1
   have h2:d+(dF a+1)≤38:=h2
   have ih:=jF_ok a (d+1) (L-1) h.2.2 (by omega) (by omega)
   obtain ⟨r1,r2,r3⟩:rowK k=true∧rowN k=2∧rowS k=1:=by rcases h.1 with rfl|rfl <;> decide
   have hk:k<17:=by have:=h.1;omega
   show jF d (.mk k x [] [a.fo]) L=(L-((wF a+1:Nat):Int),true)
   unfold jF
   rw [if_neg (by omega),r1,if_neg (by decide),r2,r3,if_neg (fun hn=>hn ⟨h.2.1,Nat.zero_le _,rfl⟩),jTs_nil,if_pos rfl,jFs_cons,ih,if_pos rfl,jFs_nil]
   simp only [Prod.mk.injEq,and_true]
   omega
theorem wF_le:∀ p:Fq,stdF p→wF p≤7 * msF 1 0 p
 | .at_ s l,h=>by
   show (l.map wT).sum+1≤7 * 1
   match l,h with
   | [],_=>show 0+1≤7;omega
   | [t],h =>
     have:=(h.2.2 t List.mem_cons_self).2
     simp
     omega
   | [t,u],h =>
     have:=(h.2.2 t List.mem_cons_self).2
     have:=(h.2.2 u (List.mem_cons_of_mem _ List.mem_cons_self)).2
     simp
     omega
   | _::_::_::_,h=>exact absurd h.2.1 (by simp)
 | .fa,_=>by show 1≤7 * 1;omega
 | .f1 a,h=>by
   have:=wF_le a h
   show wF a+1≤7 * (msF 1 0 a+1)
   omega
 | .f2 _ a b,h=>by
   have:=wF_le a h.2.1
   have:=wF_le b h.2.2
   show wF a+wF b+1≤7 * (msF 1 0 a+msF 1 0 b+1)
   omega
 | .qn _ _ a,h=>by
   have:=wF_le a h.2.2
   show wF a+1≤7 * (msF 1 0 a+1+0)
   omega
end Go.Proofs.YtgdmldelijeaoaaGreatDoor
