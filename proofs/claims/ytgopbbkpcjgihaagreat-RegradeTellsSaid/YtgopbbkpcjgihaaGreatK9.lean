/- A text of the proof: the parts Q38z, R38z, S38z, RA38z, RB38z, RC38z, RE38z, RF38z, RH38z, RK38z, U38z, V38z, RL38z, RM38z, RD38z, TI38z, TJ38z, TK38z, TL38z. -/
import Derived.Shelf.Spec.SlicesInsertGrow
import Derived.Test.YtgopbbkpcjgihaaGreatK8
set_option linter.unusedSimpArgs false
set_option linter.unusedVariables false
set_option maxHeartbeats 8000000
namespace Go.Proofs.YtgopbbkpcjgihaaGreat
open Go.Vsi
section
attribute [local irreducible] VW VCall VO bits
theorem mrk_below (n:Nat) (m:Mrk):zac n m.cells:=by simp [Mrk.cells,zac,below]
theorem zas (n:Nat) (l:List Mrk):zac n (l.flatMap Mrk.cells):=zcn _ (mrk_below n)
theorem mrk_size (m:Mrk):m.cells.length=5:=rfl
def eqRow (pts:Ky→Int) (a b:ByteArray) (p:Int) (k:Ky):Bool:=a.toList==k.1.toList&&(b.toList==k.2.toList&&(p==pts k&&true))
theorem index83_c (pts:Ky→Int) (l:List Ky) (hl:l.length≤4611686018427387904) (a b:ByteArray) (p:Int) (H:Heap):VDet Tryz.prog 64 [.sl none l.length (l.flatMap (rowC pts)),.agg [.str a,.str b,.int .i64 p]] H (.int .i64 (findF (eqRow pts a b p) l 0)):=by
 refine zap Tryz.E0 zad Tryz.func64 (by kernel_rfl) rfl (ybv rfl) rfl fun hcl hbl=>?_
 (repeat' ((conv=>whnf);(first|refine zab [] ?_|fail)));all_goals (conv=>whnf)
 refine zbg Tryz.E0 zad (σ:=Nat) (fun k=>k≤l.length∧findF (eqRow pts a b p) l 0=findF (eqRow pts a b p) (l.drop k) k) (fun k=>l.length-k) (fun k=>[(8,.v (.int .i64 k))]) (fun _=>_) _ 0 rfl hcl [0,3,6,7] rfl ⟨yah _,rfl⟩ ⟨⟨_,rfl,yae _⟩,trivial⟩ rfl (fun _ _=>rfl) ?_
 rintro k ⟨hk,hinv⟩
 rcases yag k l.length with hlt|hge
 ·have hd:l.drop k=l.getD k (.empty,.empty)::l.drop (k+1):=by
    rw [List.drop_eq_getElem_cons hlt]
    simp [hlt]
  rw [hd] at hinv
  have hf:findF (eqRow pts a b p) (l.getD k (.empty,.empty)::l.drop (k+1)) k=if eqRow pts a b p (l.getD k (.empty,.empty)) then (k:Int) else findF (eqRow pts a b p) (l.drop (k+1)) (k+1):=rfl
  rw [hf] at hinv
  have e1:rowC pts (l.getD k (.empty,.empty))=[.str (l.getD k (.empty,.empty)).1,.str (l.getD k (.empty,.empty)).2,.int .i64 (pts (l.getD k (.empty,.empty)))]:=rfl
  have e2:eqV Tryz.kn Tryz.T 20 105 (.agg [.str a,.str b,.int .i64 p]) (.agg [.str (l.getD k (.empty,.empty)).1,.str (l.getD k (.empty,.empty)).2,.int .i64 (pts (l.getD k (.empty,.empty)))])=some (eqRow pts a b p (l.getD k (.empty,.empty))):=rfl
  cases hq:eqRow pts a b p (l.getD k (.empty,.empty)) <;> rw [hq] at hinv e2
  ·have hq2:(a.toList==(l.getD k (.empty,.empty)).1.toList&&(b.toList==(l.getD k (.empty,.empty)).2.toList&&(p==pts (l.getD k (.empty,.empty))&&true)))=false:=hq
   (repeat' ((conv=>whnf);(first|(refine yai ?_;first|refine yar (by omega) ?_|refine yau (by assumption) ?_|fail)|(refine zao _ _ Cst.h Cst.h ?_ ?_;· omega)|(refine yaf ?_ ?_;· first|kernel_rfl|omega|exact yaa _ _|(simp;done)|(simp;omega)|exact trivial|assumption|fail)|refine zai (.empty,.empty) k rfl (by omega) (zcy pts) e1 ?_|refine zab [] ?_|fail)));all_goals (conv=>whnf)
   (refine ⟨⟨k+1,⟨by omega,by rw [hinv];rfl⟩,by omega,?_,.inl ⟨rfl,rfl⟩,rfl,_,rfl,?_⟩⟩;rotate_left 1;(first|exact .inl rfl|exact .inr ⟨by simp [zau,below,zac,tr,zae,zah,zag,zam,zak,zal,zaf,za8,za7,zan,zas],by simp [za5,Blk.below,zac,below,zae,zah,zag,zam,zak,zal,zaf,za8,za7,zan,zas]⟩|fail);(repeat' (first|exact trivial|refine ⟨⟨_,rfl,?_⟩,?_⟩|fail));all_goals try (first|exact yae _|exact Wk.of_eq (congrArg (AV.int _) (by omega))|fail))
  ·have hq2:(a.toList==(l.getD k (.empty,.empty)).1.toList&&(b.toList==(l.getD k (.empty,.empty)).2.toList&&(p==pts (l.getD k (.empty,.empty))&&true)))=true:=hq
   (repeat' ((conv=>whnf);(first|(refine yai ?_;first|refine yar (by omega) ?_|refine yaq (by assumption) ?_|fail)|(refine yaf ?_ ?_;· first|kernel_rfl|omega|exact yaa _ _|(simp;done)|(simp;omega)|exact trivial|assumption|fail)|refine zai (.empty,.empty) k rfl (by omega) (zcy pts) e1 ?_|refine zab [] ?_|fail)));all_goals (conv=>whnf)
   refine ya1 trivial (Wk.of_eq (congrArg (AV.int _) ?_))
   rw [hinv]
   rfl
 ·(repeat' ((conv=>whnf);(first|refine zat (by omega) ?_|refine zab [] ?_|fail)));all_goals (conv=>whnf)
  refine ya1 trivial (Wk.of_eq (congrArg (AV.int _) ?_))
  rw [hinv,ycy (by omega),findF]
theorem contains63_c (pts:Ky→Int) (l:List Ky) (hl:l.length≤4611686018427387904) (a b:ByteArray) (p:Int) (H:Heap):VDet Tryz.prog 40 [.sl none l.length (l.flatMap (rowC pts)),.agg [.str a,.str b,.int .i64 p]] H (.bool (l.any (eqRow pts a b p))):=by
 refine zap Tryz.E0 zad Tryz.func40 (by kernel_rfl) rfl (ybv rfl) rfl fun hcl hbl=>?_
 (repeat' ((conv=>whnf);(first|refine yab _ (index83_c pts l hl a b p _) ?_|refine zab [] ?_|fail)));all_goals (conv=>whnf)
 refine ya1 trivial (Wk.of_eq (congrArg AV.bool ?_))
 rw [← zfu (eqRow pts a b p) l 0 (by omega)]
def chgK (b:Bk) (d1 d2:Int):List Ky:=(repK b d2).filter fun k=>!(repK b d1).any (eqRow (ptsF b d1) k.1 k.2 (ptsF b d2 k))
def chgE (b:Bk) (d1 d2:Int):Int:=if isDay d1&&isDay d2 then repE b d1 else 2
theorem repK_len {b:Bk} (d:Int):(repK b d).length≤2000:=by
 unfold repK
 by_cases hV:zbm b=true
 ·by_cases hD:isDay d=true
  ·rw [hV,hD]
   simp only [Bool.and_self,if_true]
   rw [zeq]
   have h1:=zg8 (selF b.ent d)
   have h2:(selF b.ent d).length≤b.ent.length:=List.length_filter_le _ _
   have:=(validF_iff.1 hV).ne
   omega
  ·simp [hD]
 ·simp [hV]
def chgP (b:Bk) (d1 d2:Int) (k:Ky):Bool:=!(repK b d1).any (eqRow (ptsF b d1) k.1 k.2 (ptsF b d2 k))
theorem changes_c (b:Bk) (hb:b.Sm) (d1 d2:Int) (H:Heap):VDet Tryz.prog 11 [.agg b.cells,.int .i64 d1,.int .i64 d2] H (.tup [.sl none (if chgE b d1 d2=0 then chgK b d1 d2 else []).length ((if chgE b d1 d2=0 then chgK b d1 d2 else []).flatMap (rowC (ptsF b d2))),.int .i64 (chgE b d1 d2)]):=by
 have hr1:=fun H=>report_c b hb d1 H
 have hr2:=fun H=>report_c b hb d2 H
 have hct:=fun k H=>contains63_c (ptsF b d1) (repK b d1) (by have:=repK_len (b:=b) d1;omega) k.1 k.2 (ptsF b d2 k) H
 have hl2:=repK_len (b:=b) d2
 have hcb:b.cells=[.sl none b.ser.length (b.ser.flatMap Ser.cells),.sl none b.ent.length (b.ent.flatMap Ent.cells)]:=rfl
 rw [hcb] at hr1 hr2 ⊢
 unfold chgE
 cases hD1:isDay d1
 ·refine zap Tryz.E0 zad Tryz.func11 (by kernel_rfl) rfl (ybv rfl) rfl fun hcl hbl=>?_
  (repeat' ((conv=>whnf);(first|(refine yai ?_;first|refine yas ?_|refine yau (by assumption) ?_|fail)|refine yab _ (zbh _ _) ?_|refine zab [] ?_|fail)));all_goals (conv=>whnf)
  exact ya1 (by simp [below,zac]) (by (repeat' (first|exact trivial|refine ybz ?_ ?_|exact yae _|exact wk_sl _ _ _|exact wk_sx _ _|exact zbp|refine zbs ?_|refine zby ?_|fail));done)
 ·cases hD2:isDay d2
  ·refine zap Tryz.E0 zad Tryz.func11 (by kernel_rfl) rfl (ybv rfl) rfl fun hcl hbl=>?_
   (repeat' ((conv=>whnf);(first|(refine yai ?_;first|refine yas ?_|refine yaq (by assumption) ?_|refine yau (by assumption) ?_|fail)|refine yab _ (zbh _ _) ?_|refine zab [] ?_|fail)));all_goals (conv=>whnf)
   exact ya1 (by simp [below,zac]) (by (repeat' (first|exact trivial|refine ybz ?_ ?_|exact yae _|exact wk_sl _ _ _|exact wk_sx _ _|exact zbp|refine zbs ?_|refine zby ?_|fail));done)
  ·simp only [Bool.and_self,if_true]
   by_cases hE:repE b d1=0
   ·have hE2:repE b d2=0:=by
      unfold repE at hE ⊢
      rw [hD1] at hE
      rw [hD2]
      exact hE
    rw [hE] at hr1 ⊢
    rw [hE2] at hr2
    simp only [if_true]
    have hkk:chgK b d1 d2=(repK b d2).filter (chgP b d1 d2):=rfl
    rw [hkk]
    have hct:∀ k H,VDet Tryz.prog 40 [.sl none (repK b d1).length ((repK b d1).flatMap (rowC (ptsF b d1))),.agg [.str k.1,.str k.2,.int .i64 (ptsF b d2 k)]] H (.bool (!chgP b d1 d2 k)):=fun k H=>by
     have:=hct k H
     unfold chgP
     rwa [Bool.not_not]
    generalize chgP b d1 d2=cp at *
    generalize repK b d2=l at *
    generalize (repK b d1).flatMap (rowC (ptsF b d1))=c1 at *
    generalize (repK b d1).length=n1 at *
    generalize ptsF b d2=pts at *
    refine zap Tryz.E0 zad Tryz.func11 (by kernel_rfl) rfl (ybv rfl) rfl fun hcl hbl=>?_
    (repeat' ((conv=>whnf);(first|(refine yai ?_;first|refine yas ?_|refine yaq rfl ?_|refine yaq (by assumption) ?_|fail)|(refine ybi ?_;first|refine yab _ (zbh _ _) ?_|refine yab _ (hr1 _) ?_|refine yab _ (hr2 _) ?_|fail)|refine zab [] ?_|fail)));all_goals (conv=>whnf)
    refine LoopN.tok 11 105 3 rfl rfl rfl ?_
    refine zbg Tryz.E0 zad (σ:=Nat) (fun k=>k≤l.length) (fun k=>l.length-k) (fun k=>[(11,.v (.sl (some (H.length+1)) ((l.take k).filter cp).length (((l.take k).filter cp).flatMap (rowC pts)))),(42,.v (.int .i64 k))]) (fun k=>[.box 25 [.sl none b.ser.length (b.ser.flatMap Ser.cells),.sl none b.ent.length (b.ent.flatMap Ent.cells)],.tok 105 3 (((l.take k).filter cp).flatMap (rowC pts)).length]) _ 0 rfl hcl [8,40,41] rfl (yah _) ⟨⟨_,rfl,yae _⟩,⟨_,rfl,yae _⟩,trivial⟩ rfl (fun _ _=>rfl) ?_
    intro k hk
    rcases yag k l.length with hlt|hge
    ·have hts:=take_snoc l (.empty,.empty) k hlt
     have e1:rowC pts (l.getD k (.empty,.empty))=[.str (l.getD k (.empty,.empty)).1,.str (l.getD k (.empty,.empty)).2,.int .i64 (pts (l.getD k (.empty,.empty)))]:=rfl
     have hct:=hct (l.getD k (.empty,.empty))
     have hfl:((l.take k).filter cp).length≤k:=ybg (List.length_filter_le _ _) (by rw [yce];omega)
     have hfs:(l.take (k+1)).filter cp=if cp (l.getD k (.empty,.empty)) then (l.take k).filter cp++[l.getD k (.empty,.empty)] else (l.take k).filter cp:=by
      rw [hts,List.filter_append]
      by_cases h:cp (l.getD k (.empty,.empty))=true
      ·rw [if_pos h]
       simp only [List.filter_cons,h,if_true,List.filter_nil]
      ·rw [if_neg h]
       simp only [List.filter_cons,h,List.filter_nil,yat]
       simp
     cases hq:cp (l.getD k (.empty,.empty)) <;> rw [hq] at hct hfs
     ·simp only [ya9,if_false] at hfs
      (repeat' ((conv=>whnf);(first|(refine yai ?_;first|refine yas ?_|refine yau rfl ?_|refine yar (by omega) ?_|fail)|(refine zao _ _ Cst.h Cst.h ?_ ?_;· omega)|(refine yaf ?_ ?_;· first|kernel_rfl|omega|exact yaa _ _|(simp;done)|(simp;omega)|exact trivial|assumption|fail)|refine yab _ (hct _) ?_|refine zai (.empty,.empty) k rfl (by omega) (zcy pts) e1 ?_|refine zab [] ?_|fail)));all_goals (conv=>whnf)
      all_goals rw [← hfs]
      all_goals (refine ⟨⟨k+1,by omega,by omega,?_,.inl ⟨rfl,rfl⟩,rfl,_,rfl,?_⟩⟩;rotate_left 1;(first|exact .inl rfl|exact .inr ⟨by simp [zau,below,zac,tr,zae,zah,zag,zam,zak,zal,zaf,za8,za7,zan,zas],by simp [za5,Blk.below,zac,below,zae,zah,zag,zam,zak,zal,zaf,za8,za7,zan,zas]⟩|fail);(repeat' (first|exact trivial|refine ⟨⟨_,rfl,?_⟩,?_⟩|fail));all_goals try (first|exact yae _|exact Wk.of_eq (congrArg (AV.int _) (by omega))|fail))
     ·simp only [if_true] at hfs
      have hns:((l.take (k+1)).filter cp).flatMap (rowC pts)=((l.take k).filter cp).flatMap (rowC pts)++[.str (l.getD k (.empty,.empty)).1,.str (l.getD k (.empty,.empty)).2,.int .i64 (pts (l.getD k (.empty,.empty)))]:=by
       rw [hfs,ybt]
       simp [rowC]
      have hnl:((l.take (k+1)).filter cp).length=((l.take k).filter cp).length+1:=by
       rw [hfs]
       simp
      have hbt:(((l.take k).filter cp).length+1) * 40≤140737488355328:=by omega
      have hmx:((l.take k).filter cp).length+1≤maxLen:=ybg (show ((l.take k).filter cp).length+1≤1000001 by omega) (by decide)
      (repeat' ((conv=>whnf);(first|(refine yai ?_;first|refine yas ?_|refine yaq rfl ?_|refine yar (by omega) ?_|fail)|(refine zao _ _ Cst.h Cst.h ?_ ?_;· omega)|(refine yaf ?_ ?_;· first|kernel_rfl|omega|exact yaa _ _|(simp;done)|(simp;omega)|exact trivial|assumption|fail)|refine yab _ (hct _) ?_|refine zai (.empty,.empty) k rfl (by omega) (zcy pts) e1 ?_|refine yaf ⟨rfl,rfl,rfl,hbt,hmx⟩ ?_|refine yb6 _ rfl ?_|refine zab [] ?_|fail)));all_goals (conv=>whnf)
      rw [← hns,← hnl]
      (refine ⟨⟨k+1,by omega,by omega,?_,.inl ⟨rfl,rfl⟩,rfl,_,rfl,?_⟩⟩;rotate_left 1;(first|exact .inl rfl|exact .inr ⟨by simp [zau,below,zac,tr,zae,zah,zag,zam,zak,zal,zaf,za8,za7,zan,zas],by simp [za5,Blk.below,zac,below,zae,zah,zag,zam,zak,zal,zaf,za8,za7,zan,zas]⟩|fail);(repeat' (first|exact trivial|refine ⟨⟨_,rfl,?_⟩,?_⟩|fail));all_goals try (first|exact yae _|exact Wk.of_eq (congrArg (AV.int _) (by omega))|fail))
    ·have:k=l.length:=by omega
     subst this
     rw [ya2]
     (repeat' ((conv=>whnf);(first|refine zat (by omega) ?_|refine zab [] ?_|fail)));all_goals (conv=>whnf)
     exact ya1 (by simp [below,zac,zan]) (by (repeat' (first|exact trivial|refine ybz ?_ ?_|exact yae _|exact wk_sl _ _ _|exact wk_sx _ _|exact zbp|refine zbs ?_|refine zby ?_|fail));done)
   ·have hE1:repE b d1=2:=by
      unfold repE at hE ⊢
      split
      ·rename_i h;rw [if_pos h] at hE;exact absurd rfl hE
      ·rfl
    rw [hE1] at hr1 ⊢
    refine zap Tryz.E0 zad Tryz.func11 (by kernel_rfl) rfl (ybv rfl) rfl fun hcl hbl=>?_
    (repeat' ((conv=>whnf);(first|(refine yai ?_;first|refine yas ?_|refine yau rfl ?_|refine yaq (by assumption) ?_|fail)|(refine ybi ?_;first|refine yab _ (zbh _ _) ?_|refine yab _ (hr1 _) ?_|fail)|refine zab [] ?_|fail)));all_goals (conv=>whnf)
    exact ya1 (by simp [below,zac]) (by (repeat' (first|exact trivial|refine ybz ?_ ?_|exact yae _|exact wk_sl _ _ _|exact wk_sx _ _|exact zbp|refine zbs ?_|refine zby ?_|fail));done)
def mksF (b:Bk) (ex st:ByteArray) (d:Int):List Mrk:=if zbm b&&isDay d then (wksF b d (ex,st)).map (markF (frcF b ex d)) else []
def mksE (b:Bk) (ex st:ByteArray) (d:Int):Int:=if zbm b&&isDay d then (if (wksF b d (ex,st)).isEmpty then 6 else 0) else 2
theorem marks_c (b:Bk) (hb:b.Sm) (ex st:ByteArray) (d:Int) (H:Heap):VDet Tryz.prog 10 [.agg b.cells,.str ex,.str st,.int .i64 d] H (.tup [.sl none (mksF b ex st d).length ((mksF b ex st d).flatMap Mrk.cells),.int .i64 (mksE b ex st d)]):=by
 have hva:=fun H=>zcp b hb H
 have hif:=fun H=>zd9 b hb.ser hb.vers ex d H
 have hcb:b.cells=[.sl none b.ser.length (b.ser.flatMap Ser.cells),.sl none b.ent.length (b.ent.flatMap Ent.cells)]:=rfl
 unfold mksF mksE
 cases hV:zbm b <;> rw [hV] at hva
 ·rw [hcb] at hva ⊢
  refine zap Tryz.E0 zad Tryz.func10 (by kernel_rfl) rfl (ybv rfl) rfl fun hcl hbl=>?_
  (repeat' ((conv=>whnf);(first|(refine yai ?_;first|refine yas ?_|refine yau rfl ?_|fail)|refine yab _ (hva _) ?_|refine zab [] ?_|fail)));all_goals (conv=>whnf)
  exact ya1 (by simp [below,zac]) (by (repeat' (first|exact trivial|refine ybz ?_ ?_|exact yae _|exact wk_sl _ _ _|exact wk_sx _ _|exact zbp|refine zbs ?_|refine zby ?_|fail));done)
 ·cases hD:isDay d
  ·rw [hcb] at hva ⊢
   refine zap Tryz.E0 zad Tryz.func10 (by kernel_rfl) rfl (ybv rfl) rfl fun hcl hbl=>?_
   (repeat' ((conv=>whnf);(first|(refine yai ?_;first|refine yas ?_|refine yaq rfl ?_|refine yau (by assumption) ?_|fail)|(refine ybi ?_;first|refine yab _ (hva _) ?_|refine yab _ (zbh _ _) ?_|fail)|refine zab [] ?_|fail)));all_goals (conv=>whnf)
   exact ya1 (by simp [below,zac]) (by (repeat' (first|exact trivial|refine ybz ?_ ?_|exact yae _|exact wk_sl _ _ _|exact wk_sx _ _|exact zbp|refine zbs ?_|refine zby ?_|fail));done)
  ·simp only [Bool.and_self,if_true]
   have hvb:=validF_iff.1 hV
   have hwo:=fun H=>works_c b hb (by have:=hvb.ne;omega) d H
   have hsk:eqV Tryz.kn Tryz.T 20 100 (.agg [.str ex,.str st]) (.agg [.str ex,.str st])=some true:=(eqVK (ex,st) (ex,st)).trans (by simp)
   by_cases hin:(ex,st)∈keysF (selF b.ent d)
   ·obtain ⟨j,hj,hjk,hmf⟩:=(mfindK (ex,st) (keysF (selF b.ent d))).1 hin
    have hvk:(vsA (keysF (selF b.ent d)) (wfA (selF b.ent d)))[j]? = some (.sl none (cntK (selF b.ent d) (ex,st)) (wrkC (selF b.ent d) (ex,st))):=by
     unfold vsA
     rw [ya7,hjk]
     rfl
    have hF:=zg9 hvb hin
    have hfv:=zft hvb hF
    have hwv:=wks_valid hvb d (ex,st)
    have hwl:=wks_len hvb d (ex,st)
    have e1:(wksF b d (ex,st)).length=cntK (selF b.ent d) (ex,st):=by unfold wksF cntK;rw [yav]
    have e2:wrkC (selF b.ent d) (ex,st)=(wksF b d (ex,st)).flatMap Wrk.cells:=rfl
    have hpos:0<(wksF b d (ex,st)).length:=by
     rw [e1]
     obtain ⟨e,he,hk⟩:=mem_keysF.1 hin
     unfold cntK ofK
     exact List.length_pos_iff.2 (List.ne_nil_of_mem (List.mem_filter.2 ⟨he,by rw [hk];exact ze7 _⟩))
    have hne:(wksF b d (ex,st)).isEmpty=false:=by
     cases hh:wksF b d (ex,st) with
     | nil=>rw [hh] at hpos;cases hpos
     | cons _ _=>rfl
    rw [hne]
    simp only [ya9,if_false]
    rw [e2,← e1] at hvk
    have hgr:∀ w∈wksF b d (ex,st),∀ H,VDet Tryz.prog 39 [.agg (frcF b ex d).cells,.agg w.cells] H (.tup [.agg (markF (frcF b ex d) w).cells,.int .i64 0]):=fun w hw H=>by
     have:=grade_c (frcF b ex d) w H
     rwa [show zcc (frcF b ex d) w=(markF (frcF b ex d) w,0) from if_pos ⟨hfv,hwv w hw⟩] at this
    unfold ksA at hwo
    generalize wksF b d (ex,st)=l at *
    unfold frcF at *
    generalize (za3 b ex d).isSome=fs at *
    generalize hsc:((za3 b ex d).getD ver0).sch=sc at *
    obtain ⟨f2,f3,f4,f5,f6,f7,f8⟩:=sc
    unfold Sch.cells at hif hgr
    simp only at hif hgr
    have hif2:=fun H=>hif H
    rw [hcb] at hva hif hwo ⊢
    refine zap Tryz.E0 zad Tryz.func10 (by kernel_rfl) rfl (ybv rfl) rfl fun hcl hbl=>?_
    (repeat' ((conv=>whnf);(first|(refine yai ?_;first|refine yas ?_|refine yaq rfl ?_|refine zat (by omega) ?_|refine yaq (by assumption) ?_|fail)|(refine ybi ?_;first|refine yab _ (hva _) ?_|refine yab _ (zbh _ _) ?_|refine yab _ (hwo _) ?_|refine yab _ (hif _) ?_|fail)|refine RelN.mk [_] [] ⟨⟨_,hsk⟩,j,hmf,hvk⟩ ?_|refine zab [] ?_|fail)));all_goals (conv=>whnf)
    refine LoopN.tok 13 60 5 rfl rfl rfl ?_
    refine zbg Tryz.E0 zad (σ:=Nat) (fun k=>k≤l.length) (fun k=>l.length-k) (fun k=>[(13,.v (.sl (some (H.length+2)) k (((l.take k).map (markF ⟨f2,f3,f4,f5,f6,f7,f8⟩)).flatMap Mrk.cells))),(45,.v (.int .i64 k))]) (fun k=>[.box 25 [.sl none b.ser.length (b.ser.flatMap Ser.cells),.sl none b.ent.length (b.ent.flatMap Ent.cells)],.box 36 [.int .i64 f2,.int .i64 f3,.sl none f8.length (f8.flatMap encP),.int .i64 f4,.int .i64 f5,.int .i64 f6,.int .u8 f7],.tok 60 5 (((l.take k).map (markF ⟨f2,f3,f4,f5,f6,f7,f8⟩)).flatMap Mrk.cells).length]) _ 0 rfl hcl [11,43,44] rfl (yah _) ⟨⟨_,rfl,yae _⟩,⟨_,rfl,yae _⟩,trivial⟩ rfl (fun _ _=>rfl) ?_
    intro k hk
    rcases yag k l.length with hlt|hge
    ·have hts:=take_snoc l wrk0 k hlt
     have hgr:=hgr (l.getD k wrk0) (zbb wrk0 hlt)
     have hml:(((l.take k).map (markF ⟨f2,f3,f4,f5,f6,f7,f8⟩)).flatMap Mrk.cells).length=k * 5:=by
      rw [zav mrk_size,yav,yce,ycd hk]
     have hns:((l.take (k+1)).map (markF ⟨f2,f3,f4,f5,f6,f7,f8⟩)).flatMap Mrk.cells=((l.take k).map (markF ⟨f2,f3,f4,f5,f6,f7,f8⟩)).flatMap Mrk.cells++(markF ⟨f2,f3,f4,f5,f6,f7,f8⟩ (l.getD k wrk0)).cells:=by
      rw [hts,ydh,ybt]
      simp
     obtain ⟨w1,w2,w3,w4,hw⟩:∃ w1 w2 w3 w4,(l.getD k wrk0).cells=[.int .i64 w1,.int .i64 w2,.int .i64 w3,.int .i64 w4]:=⟨_,_,_,_,rfl⟩
     rw [hw] at hgr
     obtain ⟨m1,m2,m3,m4,m5,hm⟩:∃ m1 m2 m3 m4 m5,(markF ⟨f2,f3,f4,f5,f6,f7,f8⟩ (l.getD k wrk0)).cells=[.int .i64 m1,.int .i64 m2,.int .i64 m3,.int .i64 m4,.int .i64 m5]:=⟨_,_,_,_,_,rfl⟩
     rw [hm] at hgr hns
     have hbt:(k+1) * 40≤140737488355328:=by omega
     have hmx:k+1≤maxLen:=ybg (show k+1≤1000001 by omega) (by decide)
     (repeat' ((conv=>whnf);(first|(refine yai ?_;first|refine yas ?_|refine yaq rfl ?_|refine yar (by omega) ?_|fail)|(refine zao _ _ Cst.h Cst.h ?_ ?_;· omega)|(refine yaf ?_ ?_;· first|kernel_rfl|omega|exact yaa _ _|(simp;done)|(simp;omega)|exact trivial|assumption|fail)|refine yab _ (hgr _) ?_|refine zai wrk0 k rfl (by omega) wrk_size hw ?_|refine yaf ⟨rfl,rfl,rfl,hbt,hmx⟩ ?_|refine yb6 _ rfl ?_|refine zab [] ?_|fail)));all_goals (conv=>whnf)
     rw [← hns]
     (refine ⟨⟨k+1,by omega,by omega,?_,.inl ⟨rfl,rfl⟩,rfl,_,rfl,?_⟩⟩;rotate_left 1;(first|exact .inl rfl|exact .inr ⟨by simp [zau,below,zac,tr,zae,zah,zag,zam,zak,zal,zaf,za8,za7,zan,zas],by simp [za5,Blk.below,zac,below,zae,zah,zag,zam,zak,zal,zaf,za8,za7,zan,zas]⟩|fail);(repeat' (first|exact trivial|refine ⟨⟨_,rfl,?_⟩,?_⟩|fail));all_goals try (first|exact yae _|exact Wk.of_eq (congrArg (AV.int _) (by omega))|fail))
    ·have:k=l.length:=by omega
     subst this
     rw [ya2]
     (repeat' ((conv=>whnf);(first|refine zat (by omega) ?_|refine zab [] ?_|fail)));all_goals (conv=>whnf)
     exact ya1 (by simp [below,zac,zas]) (by rw [yav];(repeat' (first|exact trivial|refine ybz ?_ ?_|exact yae _|exact wk_sl _ _ _|exact wk_sx _ _|exact zbp|refine zbs ?_|refine zby ?_|fail));done)
   ·have hmf:=(mfindK (ex,st) (keysF (selF b.ent d))).2 hin
    have hw0:wksF b d (ex,st)=[]:=by unfold wksF;rw [ofK_nil hin];rfl
    rw [hw0]
    simp only [List.isEmpty_nil,if_true]
    unfold ksA at hwo
    rw [hcb] at hva hif hwo ⊢
    refine zap Tryz.E0 zad Tryz.func10 (by kernel_rfl) rfl (ybv rfl) rfl fun hcl hbl=>?_
    (repeat' ((conv=>whnf);(first|(refine yai ?_;first|refine yas ?_|refine yaq rfl ?_|refine yaq (by assumption) ?_|fail)|(refine ybi ?_;first|refine yab _ (hva _) ?_|refine yab _ (zbh _ _) ?_|refine yab _ (hwo _) ?_|fail)|refine RelN.mk [] [] ⟨⟨_,hsk⟩,hmf⟩ ?_|refine zab [] ?_|fail)));all_goals (conv=>whnf)
    exact ya1 (by simp [below,zac]) (by (repeat' (first|exact trivial|refine ybz ?_ ?_|exact yae _|exact wk_sl _ _ _|exact wk_sx _ _|exact zbp|refine zbs ?_|refine zby ?_|fail));done)
theorem clo42_c (s:Ser) (ex:ByteArray) (H:Heap):VDet Tryz.prog 51 [.agg s.cells,.str ex] H (.int .i64 (cmpS s.name ex)):=by
 obtain ⟨nm,vs⟩:=s
 unfold Ser.cells
 simp only
 refine zap Tryz.E0 zad Tryz.func51 (by kernel_rfl) rfl (ybv rfl) rfl fun hcl hbl=>?_
 (repeat' ((conv=>whnf);(first|refine yab _ (cmpS_c _ _ _) ?_|refine zab [] ?_|fail)));all_goals (conv=>whnf)
 exact eT trivial
theorem cmpS_lt {a b:ByteArray}:cmpS a b<0↔ltS a b=true:=by
 unfold cmpS
 split
 ·simp_all
 ·split
  ·simp_all
  ·simp_all
theorem cmpS_zero {a b:ByteArray}:cmpS a b=0↔a=b:=by
 rw [cmpS_eq]
 exact cmpB_zero
def SrtS (l:List Ser):Prop:=l.Pairwise fun s t=>ltS s.name t.name=true
def posF (l:List Ser) (ex:ByteArray):Nat:=(l.takeWhile fun s=>ltS s.name ex).length
theorem posF_le (l:List Ser) (ex:ByteArray):posF l ex≤l.length:=by
 unfold posF
 exact (List.takeWhile_prefix _).length_le
theorem posF_lt {l:List Ser} {ex:ByteArray} {i:Nat} (h:i<posF l ex):ltS (l.getD i ser0).name ex=true:=by
 unfold posF at h
 induction l generalizing i with
 | nil=>simp at h
 | cons s l ih =>
   rw [List.takeWhile_cons] at h
   split at h
   ·rename_i hs
    cases i with
    | zero=>exact hs
    | succ i=>exact ih (by simpa using h)
   ·simp at h
theorem posF_ge {l:List Ser} (hs:SrtS l) {ex:ByteArray} {i:Nat} (h:posF l ex≤i) (hi:i<l.length):ltS (l.getD i ser0).name ex=false:=by
 unfold posF at h
 induction l generalizing i with
 | nil=>simp at hi
 | cons s l ih =>
   have hs':=List.pairwise_cons.1 hs
   rw [List.takeWhile_cons] at h
   split at h
   ·cases i with
    | zero=>simp at h
    | succ i=>exact ih hs'.2 (by simpa using h) (by simpa using hi)
   ·rename_i hns
    have hns:ltS s.name ex=false:=by simpa using hns
    cases i with
    | zero=>exact hns
    | succ i =>
      have h1:=hs'.1 (l.getD i ser0) (zbb ser0 (by simpa using hi))
      cases h2:ltS ((s::l).getD (i+1) ser0).name ex with
      | false=>rfl
      | true =>
        have:=zg7 h1 h2
        rw [hns] at this
        cases this
def fndF (l:List Ser) (ex:ByteArray):Bool:=decide (posF l ex<l.length)&&eqS (l.getD (posF l ex) ser0).name ex
theorem bsearch_c (l:List Ser) (hl:l.length≤1000000) (hs:SrtS l) (ex:ByteArray) (H:Heap):VDet Tryz.prog 50 [.sl none l.length (l.flatMap Ser.cells),.str ex,.clo (.func 51) [] []] H (.tup [.int .i64 (posF l ex:Nat),.bool (fndF l ex)]):=by
 have hp:=posF_le l ex
 refine zap Tryz.E0 zad Tryz.func50 (by kernel_rfl) rfl (ybv rfl) rfl fun hcl hbl=>?_
 (repeat' ((conv=>whnf);(first|refine zab [] ?_|fail)));all_goals (conv=>whnf)
 refine zbg Tryz.E0 zad (σ:=Nat×Nat) (fun p=>p.1≤posF l ex∧posF l ex≤p.2∧p.2≤l.length) (fun p=>p.2-p.1) (fun p=>[(9,.v (.int .i64 (p.1:Nat))),(10,.v (.int .i64 (p.2:Nat)))]) (fun _=>_) _ (0,l.length) rfl hcl [0,1,2,8] rfl ⟨yah _,hp,yax _⟩ ⟨⟨_,rfl,yae _⟩,⟨_,rfl,yae _⟩,trivial⟩ rfl (fun _ _=>rfl) ?_
 intro p hpv
 obtain ⟨h1,h2,h3⟩:=hpv
 rcases yag p.1 p.2 with hij|hij
 ·have hm:(p.1+p.2) / 2<l.length:=by omega
  have hcm:=fun H=>clo42_c (l.getD ((p.1+p.2) / 2) ser0) ex H
  have hq:=@posF_lt l ex ((p.1+p.2) / 2)
  have hq2:=@posF_ge l hs ex ((p.1+p.2) / 2)
  have hlt:=@cmpS_lt (l.getD ((p.1+p.2) / 2) ser0).name ex
  obtain ⟨nm,vs,hv1⟩:=zdz (l.getD ((p.1+p.2) / 2) ser0)
  have e1:=zbz hv1
  rw [e1] at hcm
  rw [hv1] at hcm hq hq2 hlt
  simp only at hcm hq hq2 hlt
  have hw1:IntKind.u64.wrap ((p.1:Int)+p.2)=((p.1+p.2:Nat):Int):=by
   rw [IntKind.wrap_u64]
   omega
  have hw3:IntKind.i64.wrap (((p.1+p.2:Nat):Int) / 2)=(((p.1+p.2) / 2:Nat):Int):=by
   rw [IntKind.wrap_i64]
   omega
  (repeat' ((conv=>whnf);(first|(refine yai ?_;first|refine yar (by omega) ?_|refine zbq (fun _=>?_) (fun _=>?_)|fail)|(refine ycp ?_;first|refine EqN.mk _ hw1 ?_|refine EqN.mk _ hw3 ?_|refine EqN.shrL 1 2 rfl rfl rfl ?_|(refine zao _ _ Cst.h Cst.h ?_ ?_;· omega)|fail)|(refine yaf ?_ ?_;· first|kernel_rfl|omega|exact yaa _ _|(simp;done)|(simp;omega)|exact trivial|assumption|fail)|refine yab _ (hcm _) ?_|refine zai ser0 ((p.1+p.2) / 2) (by omega) hm zaz e1 ?_|refine zab [] ?_|fail)));all_goals (conv=>whnf)
  ·have h5:(p.1+p.2) / 2<posF l ex:=by
     rcases yag ((p.1+p.2) / 2) (posF l ex) with h|h
     ·exact h
     ·have:=hq2 h hm
      have h6:=hlt.1 (by assumption)
      rw [this] at h6
      cases h6
   (refine ⟨⟨((p.1+p.2) / 2+1,p.2),⟨by simp only;omega,h2,h3⟩,by omega,?_,.inl ⟨rfl,rfl⟩,rfl,_,rfl,?_⟩⟩;rotate_left 1;(first|exact .inl rfl|exact .inr ⟨by simp [zau,below,zac,tr,zae,zah,zag,zam,zak,zal,zaf,za8,za7,zan],by simp [za5,Blk.below,zac,below,zae,zah,zag,zam,zak,zal,zaf,za8,za7,zan]⟩|fail);(repeat' (first|exact trivial|refine ⟨⟨_,rfl,?_⟩,?_⟩|fail));all_goals try (first|exact yae _|exact Wk.of_eq (congrArg (AV.int _) (by omega))|fail))
  ·have h5:posF l ex≤(p.1+p.2) / 2:=by
     rcases yag ((p.1+p.2) / 2) (posF l ex) with h|h
     ·exact absurd (hlt.2 (hq h)) (by assumption)
     ·exact h
   (refine ⟨⟨(p.1,(p.1+p.2) / 2),⟨h1,h5,by simp only;omega⟩,by omega,?_,.inl ⟨rfl,rfl⟩,rfl,_,rfl,?_⟩⟩;rotate_left 1;(first|exact .inl rfl|exact .inr ⟨by simp [zau,below,zac,tr,zae,zah,zag,zam,zak,zal,zaf,za8,za7,zan],by simp [za5,Blk.below,zac,below,zae,zah,zag,zam,zak,zal,zaf,za8,za7,zan]⟩|fail);(repeat' (first|exact trivial|refine ⟨⟨_,rfl,?_⟩,?_⟩|fail));all_goals try (first|exact yae _|exact Wk.of_eq (congrArg (AV.int _) (by omega))|fail))
 ·have hpp:p.1=posF l ex:=by omega
  unfold fndF
  rw [← hpp]
  rcases yag p.1 l.length with hlt|hge
  ·have hcm:=fun H=>clo42_c (l.getD p.1 ser0) ex H
   have hz:=@cmpS_zero (l.getD p.1 ser0).name ex
   obtain ⟨nm,vs,hv1⟩:=zdz (l.getD p.1 ser0)
   have e1:=zbz hv1
   rw [e1] at hcm
   rw [hv1] at hcm hz ⊢
   simp only at hcm hz ⊢
   (repeat' ((conv=>whnf);(first|(refine yai ?_;first|refine yar (by omega) ?_|refine zat (by omega) ?_|fail)|(refine yaf ?_ ?_;· first|kernel_rfl|omega|exact yaa _ _|(simp;done)|(simp;omega)|exact trivial|assumption|fail)|refine yab _ (hcm _) ?_|refine zai ser0 p.1 rfl hlt zaz e1 ?_|refine zab [] ?_|fail)));all_goals (conv=>whnf)
   refine ya1 (by simp [below,zac]) (Wk.of_eq ?_)
   have hd:decide (p.1<l.length)=true:=decide_eq_true hlt
   simp only [AV.tup.injEq,List.cons.injEq,AV.bool.injEq,and_true,true_and,hd,ya8]
   rw [yb5,beq_iff_eq,hz,eqS_iff]
  ·(repeat' ((conv=>whnf);(first|refine zat (by omega) ?_|refine zab [] ?_|fail)));all_goals (conv=>whnf)
   refine ya1 (by simp [below,zac]) (Wk.of_eq ?_)
   have hd:decide (p.1<l.length)=false:=decide_eq_false (by omega)
   simp only [hd,ya0]
end
def stepV (c:Bool) (d:Int) (a:Option Sch) (v:Ver):Option Sch:=if c=true∧v.at_≤d then some v.sch else a
def rfS (ex:ByteArray) (d:Int) (a:Option Sch) (s:Ser):Option Sch:=s.vers.foldl (stepV (eqS s.name ex) d) a
def zdh (b:Bk) (ex:ByteArray) (d:Int):Option Sch:=b.ser.foldl (rfS ex d) none
theorem stepV_no (d:Int):∀ (l:List Ver) (a:Option Sch),l.foldl (stepV false d) a=a
 | [],_=>rfl
 | v::l,a=>by
   rw [ydi,show stepV false d a v=a from if_neg (fun h=>Bool.false_ne_true h.1)]
   exact stepV_no d l a
theorem stepV_yes (d:Int):∀ (l:List Ver) (a:Option Sch),l.foldl (stepV true d) a=match verF l d with|some v=>some v.sch|none=>a
 | [],_=>rfl
 | v::l,a=>by
   rw [ydi,stepV_yes d l]
   unfold verF
   rw [lastF]
   cases lastF (fun v=>decide (v.at_≤d)) l with
   | some w=>rfl
   | none =>
     unfold stepV
     by_cases h:v.at_≤d <;> simp [h]
theorem rf_go (ex:ByteArray) (d:Int):∀ (l:List Ser) (a:Option Sch),l.Pairwise (fun s t=>ltS s.name t.name=true)→l.foldl (rfS ex d) a=match lastF (fun s=>eqS s.name ex) l with
  | some s=>(match verF s.vers d with|some v=>some v.sch|none=>a)
  | none=>a
 | [],_,_=>rfl
 | s::l,a,h=>by
   obtain ⟨h1,h2⟩:=List.pairwise_cons.1 h
   rw [ydi,rf_go ex d l _ h2,lastF]
   by_cases hs:eqS s.name ex=true
   ·have hn:lastF (fun s=>eqS s.name ex) l=none:=lastF_none fun t ht=>by
      have h3:=h1 t ht
      rw [eqS_iff] at hs
      cases he:eqS t.name ex with
      | false=>rfl
      | true =>
        rw [eqS_iff] at he
        rw [hs,he,ltS_irr] at h3
        cases h3
    rw [hn]
    simp only [hs,if_true]
    unfold rfS
    rw [hs]
    exact stepV_yes d s.vers a
   ·have hs':eqS s.name ex=false:=by simpa using hs
    have ha:rfS ex d a s=a:=by
     unfold rfS
     rw [hs']
     exact stepV_no d s.vers a
    rw [ha]
    simp only [hs',ya9,if_false]
    cases lastF (fun s=>eqS s.name ex) l <;> rfl
theorem rForce_eq {b:Bk} (h:b.ser.Pairwise fun s t=>ltS s.name t.name=true) (ex:ByteArray) (d:Int):zdh b ex d=(za3 b ex d).map Ver.sch:=by
 unfold zdh
 rw [rf_go ex d b.ser none h]
 unfold za3 serF
 cases hl:lastF (fun s=>eqS s.name ex) b.ser with
 | none=>rfl
 | some s =>
   simp only [yct]
   cases verF s.vers d <;> rfl
theorem rForce_sch {b:Bk} (h:b.ser.Pairwise fun s t=>ltS s.name t.name=true) (ex:ByteArray) (d:Int):(zdh b ex d).getD sch0=frcF b ex d:=by
 rw [rForce_eq h]
 unfold frcF
 cases za3 b ex d <;> rfl
theorem rForce_some {b:Bk} (h:b.ser.Pairwise fun s t=>ltS s.name t.name=true) (ex:ByteArray) (d:Int):(zdh b ex d).isSome=(za3 b ex d).isSome:=by
 rw [rForce_eq h]
 cases za3 b ex d <;> rfl
def ltK (a b:Ky):Bool:=ltS a.1 b.1 || (eqS a.1 b.1&&ltS a.2 b.2)
theorem ltK_iff (a b:Ky):ltK a b=true↔cKy a b<0:=by
 unfold ltK cKy andC
 rw [Bool.or_eq_true,yak,eqS_iff,← cmpS_lt,← cmpS_lt,← cmpS_zero]
 constructor
 ·rintro (h|⟨h1,h2⟩)
  ·rw [if_neg (by omega)]
   exact h
  ·rw [if_pos h1]
   exact h2
 ·intro h
  by_cases h1:cmpS a.1 b.1=0
  ·rw [if_pos h1] at h
   exact .inr ⟨h1,h⟩
  ·rw [if_neg h1] at h
   exact .inl h
theorem ltK_trans {a b c:Ky} (h1:ltK a b=true) (h2:ltK b c=true):ltK a c=true:=by
 rw [ltK_iff] at *
 obtain ⟨q1,q2⟩:=(ordKy a).tr b c (by omega) (by omega)
 have:cKy a c≠0:=fun e=>by have:=(q2 e).1;omega
 omega
theorem ltK_irr (a:Ky):ltK a a=false:=by
 cases h:ltK a a with
 | false=>rfl
 | true =>
   rw [ltK_iff,(ordKy a).refl] at h
   omega
theorem ltK_asym {a b:Ky} (h:ltK a b=true):ltK b a=false:=by
 cases h1:ltK b a with
 | false=>rfl
 | true =>
   have:=ltK_trans h h1
   rw [ltK_irr] at this
   cases this
def keyS (b:Bk) (d:Int):List Ky:=sortY (keysF (selF b.ent d))
theorem keyS_lt (b:Bk) (d:Int):(keyS b d).Pairwise fun x y=>ltK x y=true:=by
 have h1:=sortY_srt (keysF (selF b.ent d))
 have h2:(sortY (keysF (selF b.ent d))).Nodup:=(zdj _).symm.nodup (zd7 _)
 refine (h1.and h2).imp fun {a c} h=>?_
 rw [ltK_iff]
 have:cKy a c≠0:=fun e=>h.2 ((ordKy a).eq c e)
 have:=h.1
 omega
theorem keyS_mem {b:Bk} {d:Int} {k:Ky}:k∈keyS b d↔∃ e∈b.ent,e.day≤d∧keyOf e=k:=by
 unfold keyS
 rw [(zdj _).mem_iff,mem_keysF]
 constructor
 ·rintro ⟨e,h1,h2⟩
  obtain ⟨h3,h4⟩:=sel_mem.1 h1
  exact ⟨e,h3,h4,h2⟩
 ·rintro ⟨e,h1,h2,h3⟩
  exact ⟨e,sel_mem.2 ⟨h1,h2⟩,h3⟩
def cand (b:Bk) (d:Int) (n:Nat) (e:Ent):Bool:=decide (e.day≤d)&&(n==0 || ltK ((keyS b d).getD (n-1) (.empty,.empty)) (keyOf e))
def zhk (b:Bk) (d:Int) (n i:Nat) (r:Int):Prop :=
 (r=-1∧∀ j,j<i→cand b d n (b.ent.getD j ent0)=false) ∨
 ∃ m:Nat,r=m∧m<i∧cand b d n (b.ent.getD m ent0)=true∧∀ j,j<i→cand b d n (b.ent.getD j ent0)=true→ltK (keyOf (b.ent.getD j ent0)) (keyOf (b.ent.getD m ent0))=false
theorem best0 (b:Bk) (d:Int) (n:Nat):zhk b d n 0 (-1):=.inl ⟨rfl,fun j hj=>absurd hj (Nat.not_lt_zero j)⟩
theorem best_no {b:Bk} {d:Int} {n i:Nat} {r:Int} (h:zhk b d n i r) (hc:cand b d n (b.ent.getD i ent0)=false):zhk b d n (i+1) r:=by
 rcases h with ⟨h1,h2⟩|⟨m,h1,h2,h3,h4⟩
 ·refine .inl ⟨h1,fun j hj=>?_⟩
  rcases Nat.lt_or_eq_of_le (Nat.le_of_lt_succ hj) with h|rfl
  ·exact h2 j h
  ·exact hc
 ·refine .inr ⟨m,h1,by omega,h3,fun j hj hcj=>?_⟩
  rcases Nat.lt_or_eq_of_le (Nat.le_of_lt_succ hj) with h|rfl
  ·exact h4 j h hcj
  ·rw [hc] at hcj
   cases hcj
theorem best_new {b:Bk} {d:Int} {n i:Nat} {r:Int} (h:zhk b d n i r) (hc:cand b d n (b.ent.getD i ent0)=true) (hb:r<0∨ltK (keyOf (b.ent.getD i ent0)) (keyOf (b.ent.getD r.toNat ent0))=true):zhk b d n (i+1) i:=by
 refine .inr ⟨i,rfl,by omega,hc,fun j hj hcj=>?_⟩
 rcases Nat.lt_or_eq_of_le (Nat.le_of_lt_succ hj) with hji|rfl
 ·rcases h with ⟨h1,h2⟩|⟨m,h1,h2,h3,h4⟩
  ·rw [h2 j hji] at hcj
   cases hcj
  ·subst h1
   rcases hb with hb|hb
   ·omega
   ·rw [ybj] at hb
    cases hl:ltK (keyOf (b.ent.getD j ent0)) (keyOf (b.ent.getD i ent0)) with
    | false=>rfl
    | true =>
      have:=ltK_trans hl hb
      rw [h4 j hji hcj] at this
      cases this
 ·exact ltK_irr _
theorem best_old {b:Bk} {d:Int} {n i:Nat} {r:Int} (h:zhk b d n i r) (hr:0≤r) (hb:ltK (keyOf (b.ent.getD i ent0)) (keyOf (b.ent.getD r.toNat ent0))=false):zhk b d n (i+1) r:=by
 rcases h with ⟨h1,h2⟩|⟨m,h1,h2,h3,h4⟩
 ·omega
 ·subst h1
  rw [ybj] at hb
  refine .inr ⟨m,rfl,by omega,h3,fun j hj hcj=>?_⟩
  rcases Nat.lt_or_eq_of_le (Nat.le_of_lt_succ hj) with hji|rfl
  ·exact h4 j hji hcj
  ·exact hb
theorem pwK {l:List Ky} (h:l.Pairwise fun x y=>ltK x y=true) {i j:Nat} (hij:i<j) (hj:j<l.length) (k:Ky):ltK (l.getD i k) (l.getD j k)=true:=zg1 h hij hj
theorem cand_fwd {b:Bk} {d:Int} {n:Nat} (hn:n≤(keyS b d).length) {e:Ent} (he:e∈b.ent) (h:cand b d n e=true):∃ i,n≤i∧i<(keyS b d).length∧(keyS b d).getD i (.empty,.empty)=keyOf e:=by
 have hs:=keyS_lt b d
 unfold cand at h
 rw [yak,decide_eq_true_eq,Bool.or_eq_true,beq_iff_eq] at h
 obtain ⟨h1,h2⟩:=h
 obtain ⟨i,hi,hk⟩:=zck (.empty,.empty) (keyS_mem.2 ⟨e,he,h1,rfl⟩)
 refine ⟨i,?_,hi,hk⟩
 rcases h2 with h2|h2
 ·omega
 ·rcases yag i n with hlt|hge
  ·exfalso
   rw [← hk] at h2
   rcases Nat.lt_or_eq_of_le (Nat.le_sub_one_of_lt hlt) with h3|h3
   ·have:=pwK hs h3 (by omega) (.empty,.empty)
    rw [ltK_asym this] at h2
    cases h2
   ·rw [h3,ltK_irr] at h2
    cases h2
  ·exact hge
theorem cand_ex {b:Bk} {d:Int} {n i:Nat} (hn:n≤i) (hi:i<(keyS b d).length):∃ j,j<b.ent.length∧cand b d n (b.ent.getD j ent0)=true∧keyOf (b.ent.getD j ent0)=(keyS b d).getD i (.empty,.empty):=by
 have hs:=keyS_lt b d
 obtain ⟨e,h1,h2,h3⟩:=keyS_mem.1 (zbb (.empty,.empty) hi)
 obtain ⟨j,hj,rfl⟩:=zck ent0 h1
 refine ⟨j,hj,?_,h3⟩
 unfold cand
 rw [yak,decide_eq_true_eq,Bool.or_eq_true,beq_iff_eq]
 refine ⟨h2,?_⟩
 by_cases h0:n=0
 ·exact .inl h0
 ·exact .inr (h3▸pwK hs (by omega) hi _)
theorem best_end {b:Bk} {d:Int} {n:Nat} {r:Int} (hn:n≤(keyS b d).length) (h:zhk b d n b.ent.length r):(r<0→n=(keyS b d).length)∧(0≤r→n<(keyS b d).length∧r.toNat<b.ent.length∧keyOf (b.ent.getD r.toNat ent0)=(keyS b d).getD n (.empty,.empty)):=by
 rcases h with ⟨rfl,h2⟩|⟨m,rfl,h2,h3,h4⟩
 ·refine ⟨fun _=>?_,fun h=>absurd h (by decide)⟩
  rcases Nat.lt_or_eq_of_le hn with hlt|h
  ·obtain ⟨j,hj,hc,-⟩:=cand_ex (yax n) hlt
   rw [h2 j hj] at hc
   cases hc
  ·exact h
 ·refine ⟨fun h=>by omega,fun _=>?_⟩
  rw [ybj]
  obtain ⟨i,h5,h6,h7⟩:=cand_fwd hn (zbb ent0 h2) h3
  refine ⟨by omega,h2,?_⟩
  obtain ⟨j,hj,hc,hk⟩:=cand_ex (yax n) (show n<(keyS b d).length by omega)
  have h8:=h4 j hj hc
  rw [hk,← h7] at h8
  rcases Nat.lt_or_eq_of_le h5 with hlt|rfl
  ·rw [pwK (keyS_lt b d) hlt h6] at h8
   cases h8
  ·exact h7.symm
theorem okS_srt {b:Bk} (h:∀ i,i<b.ser.length→okS b i=true):b.ser.Pairwise fun s t=>ltS s.name t.name=true :=
 zfm (fun s t:Ser=>ltS s.name t.name=true) (fun a c e=>zg7) ser0 b.ser fun i hi=>by
  have:=h (i+1) hi
  unfold okS at this
  simp only [yak,Bool.or_eq_true,Nat.add_sub_cancel,beq_iff_eq] at this
  rcases this.2.1 with h1|h1
  ·omega
  ·exact h1
theorem okS_frc {b:Bk} (h:∀ i,i<b.ser.length→okS b i=true) {ex:ByteArray} {d:Int} (hf:(za3 b ex d).isSome=true):zbv ((za3 b ex d).getD ver0).sch=true:=by
 cases hv:za3 b ex d with
 | none=>rw [hv] at hf;cases hf
 | some v =>
   obtain ⟨s,h1,-,h2,-⟩:=zf5 hv
   obtain ⟨i,hi,rfl⟩:=zck ser0 h1
   have:=h i hi
   unfold okS at this
   simp only [yak] at this
   exact (versOK_iff.1 this.2.2).sch v h2
def rokE (b:Bk) (i:Nat):Bool :=
 zcg (b.ent.getD i ent0).stu&&(isDay (b.ent.getD i ent0).day&&((i==0 || !decide ((b.ent.getD i ent0).day<(b.ent.getD (i-1) ent0).day))&&((zdh b (b.ent.getD i ent0).exe (b.ent.getD i ent0).day).isSome &&
  (zbr (b.ent.getD i ent0).work&&((b.ent.getD i ent0).work.att==(cntK (b.ent.take i) (keyOf (b.ent.getD i ent0)):Nat)+1)))))
theorem rokE_eq {b:Bk} (h:∀ i,i<b.ser.length→okS b i=true) {i:Nat} (hi:i<b.ent.length):rokE b i=okE b i:=by
 unfold rokE okE
 rw [rForce_some (okS_srt h),take_snoc b.ent ent0 i hi,zfw]
 cases hf:(za3 b (b.ent.getD i ent0).exe (b.ent.getD i ent0).day).isSome with
 | false=>simp
 | true =>
   have hv:=okS_frc h hf
   have:((zcc ((za3 b (b.ent.getD i ent0).exe (b.ent.getD i ent0).day).getD ver0).sch (b.ent.getD i ent0).work).2==0)=zbr (b.ent.getD i ent0).work:=by
    cases hw:zbr (b.ent.getD i ent0).work with
    | true=>rw [grade_ok.2 ⟨hv,hw⟩];rfl
    | false =>
      rw [beq_eq_false_iff_ne]
      intro e
      have:=(grade_ok.1 e).2
      rw [hw] at this
      cases this
   rw [this]
   all_goals (try simp only [Int.natCast_add,Int.natCast_one])
   all_goals (try rfl)
theorem valid_yes {b:Bk} (h1:b.ser.length≤40) (h2:b.ent.length≤2000) (h3:∀ i,i<b.ser.length→okS b i=true) (h4:∀ i,i<b.ent.length→rokE b i=true):zbm b=true:=by
 unfold zbm
 rw [yak,yak,yak,decide_eq_true_eq,decide_eq_true_eq,zfa,zfa]
 exact ⟨h1,h2,h3,fun i hi=>by rw [← rokE_eq h3 hi];exact h4 i hi⟩
theorem valid_noS {b:Bk} {i:Nat} (hi:i<b.ser.length) (h:okS b i=false):zbm b=false:=by
 cases hv:zbm b with
 | false=>rfl
 | true =>
   unfold zbm at hv
   rw [yak,yak,yak,zfa,zfa] at hv
   rw [hv.2.2.1 i hi] at h
   cases h
theorem valid_noE {b:Bk} (h3:∀ i,i<b.ser.length→okS b i=true) {i:Nat} (hi:i<b.ent.length) (h:rokE b i=false):zbm b=false:=by
 cases hv:zbm b with
 | false=>rfl
 | true =>
   unfold zbm at hv
   rw [yak,yak,yak,zfa,zfa] at hv
   rw [rokE_eq h3 hi,hv.2.2.2 i hi] at h
   cases h
def selW (l:List Ent) (ex st:ByteArray) (d:Int):List Wrk:=(l.filter fun e=>eqS e.exe ex&&(eqS e.stu st&&decide (e.day≤d))).map Ent.work
theorem selW_eq (b:Bk) (ex st:ByteArray) (d:Int):selW b.ent ex st d=wksF b d (ex,st):=by
 unfold selW wksF ofK selF
 rw [List.filter_filter]
 congr 2
 funext e
 unfold eqK keyOf
 simp only [Bool.and_assoc]
theorem selW_snoc (l:List Ent) (e:Ent) (ex st:ByteArray) (d:Int):selW (l++[e]) ex st d=if (eqS e.exe ex&&(eqS e.stu st&&decide (e.day≤d)))=true then selW l ex st d++[e.work] else selW l ex st d:=by
 unfold selW
 rw [List.filter_append,ydh]
 by_cases h:(eqS e.exe ex&&(eqS e.stu st&&decide (e.day≤d)))=true
 ·rw [if_pos h,List.filter_cons_of_pos (by simpa using h)]
  rfl
 ·rw [if_neg h,List.filter_cons_of_neg (by simpa using h)]
  simp
section
attribute [local irreducible] VW VCall VO bits
theorem zax (n:Nat) (s:Sch):zac n s.cells:=by simp [Sch.cells,zac,below,zaf]
theorem rName_c (a:ByteArray) (H:Heap):VDet Tryz.prog 26 [.str a] H (.bool (zcg a)):=by
 refine zap Tryz.E0 zad Tryz.func26 (by kernel_rfl) rfl (ybv rfl) rfl fun hcl hbl=>?_
 (repeat' ((conv=>whnf);(first|refine zbq (fun _=>?_) (fun _=>?_)|fail)));all_goals (conv=>whnf)
 all_goals refine ya1 trivial (Wk.of_eq (congrArg AV.bool ?_))
 ·have h:1≤a.size:=by omega
  simp [zcg,h]
  omega
 ·have h:decide (1≤a.size)=false:=decide_eq_false (by omega)
  rw [zcg,h]
  rfl
theorem rDay_c (n:Int) (H:Heap):VDet Tryz.prog 13 [.int .i64 n] H (.bool (isDay n)):=by
 refine zap Tryz.E0 zad Tryz.func13 (by kernel_rfl) rfl (ybv rfl) rfl fun hcl hbl=>?_
 (repeat' ((conv=>whnf);(first|refine zbq (fun _=>?_) (fun _=>?_)|fail)));all_goals (conv=>whnf)
 all_goals refine ya1 trivial (Wk.of_eq (congrArg AV.bool ?_))
 ·simp_all [isDay]
 ·have h:n<0:=by omega
  have:decide (0≤n)=false:=decide_eq_false (by omega)
  simp [isDay,this]
theorem before_c (ex st:ByteArray) (e:Ent) (H:Heap):VDet Tryz.prog 45 [.str ex,.str st,.agg e.cells] H (.bool (ltK (ex,st) (keyOf e))):=by
 obtain ⟨stu,exe,day,a,b,c,d,rfl⟩:=zc2 e
 unfold Ent.cells ltK keyOf
 simp only
 cases h1:ltS ex exe with
 | true =>
   have h1':Op.bytesLess ex.toList exe.toList=true:=h1
   refine zap Tryz.E0 zad Tryz.func45 (by kernel_rfl) rfl (ybv rfl) rfl fun hcl hbl=>?_
   (repeat' ((conv=>whnf);(first|refine yaq (by assumption) ?_|fail)));conv=>whnf
   all_goals exact ya1 trivial (Wk.of_eq (congrArg AV.bool (by simp_all)))
 | false =>
   have h1':Op.bytesLess ex.toList exe.toList=false:=h1
   cases h2:eqS ex exe with
   | true =>
     have h2':(ex.toList==exe.toList)=true:=h2
     refine zap Tryz.E0 zad Tryz.func45 (by kernel_rfl) rfl (ybv rfl) rfl fun hcl hbl=>?_
     (repeat' ((conv=>whnf);(first|(refine yai ?_;first|refine yaq (by assumption) ?_|refine yau (by assumption) ?_|fail)|fail)));conv=>whnf
     all_goals exact ya1 trivial (Wk.of_eq (congrArg AV.bool (by simp_all [ltS])))
   | false =>
     have h2':(ex.toList==exe.toList)=false:=h2
     refine zap Tryz.E0 zad Tryz.func45 (by kernel_rfl) rfl (ybv rfl) rfl fun hcl hbl=>?_
     (repeat' ((conv=>whnf);(first|refine yau (by assumption) ?_|fail)));conv=>whnf
     all_goals exact ya1 trivial (Wk.of_eq (congrArg AV.bool (by simp_all)))
theorem attempts_c (b:Bk) (hb:b.ent.length≤1000000) (n:Nat) (hn:n≤b.ent.length) (ex st:ByteArray) (H:Heap):VDet Tryz.prog 29 [.agg b.cells,.int .i64 n,.str ex,.str st] H (.int .i64 (cntK (b.ent.take n) (ex,st):Nat)):=by
 have hcb:b.cells=[.sl none b.ser.length (b.ser.flatMap Ser.cells),.sl none b.ent.length (b.ent.flatMap Ent.cells)]:=rfl
 refine zap Tryz.E0 zad Tryz.func29 (by kernel_rfl) rfl (ybv rfl) rfl fun hcl hbl=>?_
 rw [hcb]
 conv=>whnf
 refine zbg Tryz.E0 zad (σ:=Nat) (fun k=>k≤n) (fun k=>n-k) (fun k=>[(9,.v (.int .i64 (cntK (b.ent.take k) (ex,st):Nat))),(10,.v (.int .i64 k))]) (fun _=>_) _ 0 rfl hcl [1,2,3,4] rfl (yah _) ⟨⟨_,rfl,yae _⟩,⟨_,rfl,yae _⟩,trivial⟩ rfl (fun _ _=>rfl) ?_
 rintro k hk
 rcases yag k n with hlt|hge
 ·have hle:=zgn (b.ent.take k) (ex,st)
  rw [yce] at hle
  have hlt2:k<b.ent.length:=by omega
  have hsn:=take_snoc b.ent ent0 k hlt2
  have hyes:keyOf (b.ent.getD k ent0)=(ex,st)→cntK (b.ent.take (k+1)) (ex,st)=cntK (b.ent.take k) (ex,st)+1:=fun h=>by rw [hsn,← h,zfw]
  have hno:keyOf (b.ent.getD k ent0)≠(ex,st)→cntK (b.ent.take (k+1)) (ex,st)=cntK (b.ent.take k) (ex,st):=fun h=>by rw [hsn,zew _ _ (ycq h)]
  obtain ⟨stu,exe,day,wa,wb,wc,wd,he⟩:=zc2 (b.ent.getD k ent0)
  have e1:=zbn he
  rw [he] at hyes hno
  simp only [keyOf] at hyes hno
  cases h1:eqS exe ex with
  | false =>
    have h1':(exe.toList==ex.toList)=false:=h1
    have hc:cntK (b.ent.take (k+1)) (ex,st)=cntK (b.ent.take k) (ex,st):=hno fun e=>by
     have:=(Prod.ext_iff.1 e).1
     simp only at this
     subst this
     rw [eqS_iff.2 rfl] at h1
     cases h1
    (repeat' ((conv=>whnf);(first|(refine yai ?_;first|refine yar (by omega) ?_|refine yau (by assumption) ?_|fail)|(refine zao _ _ Cst.h Cst.h ?_ ?_;· omega)|(refine yaf ?_ ?_;· first|omega|exact yaa _ _|fail)|refine zai ent0 k rfl (by omega) za0 e1 ?_|fail)));conv=>whnf
    (refine ⟨⟨k+1,by show k+1≤n;omega,by omega,?_,.inl ⟨rfl,rfl⟩,rfl,_,rfl,?_⟩⟩;rotate_left 1;exact .inl rfl;(repeat' (first|exact trivial|refine ⟨⟨_,rfl,?_⟩,?_⟩|fail));all_goals (first|exact yae _|exact Wk.of_eq (congrArg (AV.int _) (by omega))|fail))
  | true =>
    have h1':(exe.toList==ex.toList)=true:=h1
    cases h2:eqS stu st with
    | false =>
      have h2':(stu.toList==st.toList)=false:=h2
      have hc:cntK (b.ent.take (k+1)) (ex,st)=cntK (b.ent.take k) (ex,st):=hno fun e=>by
       have:=(Prod.ext_iff.1 e).2
       simp only at this
       subst this
       rw [eqS_iff.2 rfl] at h2
       cases h2
      (repeat' ((conv=>whnf);(first|(refine yai ?_;first|refine yar (by omega) ?_|refine yaq (by assumption) ?_|refine yau (by assumption) ?_|fail)|(refine zao _ _ Cst.h Cst.h ?_ ?_;· omega)|(refine yaf ?_ ?_;· first|omega|exact yaa _ _|fail)|refine zai ent0 k rfl (by omega) za0 e1 ?_|fail)));conv=>whnf
      (refine ⟨⟨k+1,by show k+1≤n;omega,by omega,?_,.inl ⟨rfl,rfl⟩,rfl,_,rfl,?_⟩⟩;rotate_left 1;exact .inl rfl;(repeat' (first|exact trivial|refine ⟨⟨_,rfl,?_⟩,?_⟩|fail));all_goals (first|exact yae _|exact Wk.of_eq (congrArg (AV.int _) (by omega))|fail))
    | true =>
      have h2':(stu.toList==st.toList)=true:=h2
      have hc:cntK (b.ent.take (k+1)) (ex,st)=cntK (b.ent.take k) (ex,st)+1:=hyes (by rw [eqS_iff.1 h1,eqS_iff.1 h2])
      (repeat' ((conv=>whnf);(first|(refine yai ?_;first|refine yar (by omega) ?_|refine yaq (by assumption) ?_|fail)|(refine zao _ _ Cst.h Cst.h ?_ ?_;· omega)|(refine yaf ?_ ?_;· first|omega|exact yaa _ _|fail)|refine zai ent0 k rfl (by omega) za0 e1 ?_|fail)));conv=>whnf
      (refine ⟨⟨k+1,by show k+1≤n;omega,by omega,?_,.inl ⟨rfl,rfl⟩,rfl,_,rfl,?_⟩⟩;rotate_left 1;exact .inl rfl;(repeat' (first|exact trivial|refine ⟨⟨_,rfl,?_⟩,?_⟩|fail));all_goals (first|exact yae _|exact Wk.of_eq (congrArg (AV.int _) (by omega))|fail))
 ·obtain rfl:k=n:=by omega
  (repeat' ((conv=>whnf);(first|refine zat (by omega) ?_|fail)));conv=>whnf
  exact eT trivial
def latA:Option Sch→AV
 | none=>.nils
 | some s=>.sl none s.lates.length (s.lates.flatMap encP)
def scC (a:Option Sch):List AV:=[.int .i64 (a.getD sch0).pts,.int .i64 (a.getD sch0).part,latA a,.int .i64 (a.getD sch0).att,.int .i64 (a.getD sch0).rty,.int .i64 (a.getD sch0).hnt,.int .u8 (a.getD sch0).cnt]
theorem scC_below (n:Nat) (a:Option Sch):zac n (scC a):=by
 cases a <;> simp [scC,latA,zac,below,zaf]
theorem force_c (b:Bk) (hb:b.ser.length≤1000000) (hv:∀ s∈b.ser,s.vers.length≤1000000) (ex:ByteArray) (d:Int) (H:Heap):VDet Tryz.prog 15 [.agg b.cells,.str ex,.int .i64 d] H (.tup [.agg ((zdh b ex d).getD sch0).cells,.bool (zdh b ex d).isSome]):=by
 have hcb:b.cells=[.sl none b.ser.length (b.ser.flatMap Ser.cells),.sl none b.ent.length (b.ent.flatMap Ent.cells)]:=rfl
 refine zap Tryz.E0 zad Tryz.func15 (by kernel_rfl) rfl (ybv rfl) rfl fun hcl hbl=>?_
 rw [hcb]
 conv=>whnf
 refine zbg Tryz.E0 zad (σ:=Nat×Option Sch) (fun p=>p.1≤b.ser.length∧p.2=(b.ser.take p.1).foldl (rfS ex d) none) (fun p=>b.ser.length-p.1) (fun p=>[(9,.v (.bool p.2.isSome)),(10,.v (.int .i64 p.1))]) (fun p=>[.box 31 [.sl none b.ser.length (b.ser.flatMap Ser.cells),.sl none b.ent.length (b.ent.flatMap Ent.cells)],.box 51 (scC none),.box 51 (scC p.2)]) _ (0,none) rfl hcl [1,2,3,6,8] rfl ⟨yah _,rfl⟩ ⟨⟨_,rfl,yae _⟩,⟨_,rfl,yae _⟩,trivial⟩ rfl (fun _ _=>rfl) ?_
 rintro ⟨k,a⟩ ⟨hk,ha⟩
 simp only at hk ha
 rcases yag k b.ser.length with hlt|hge
 ·have hsn:=take_snoc b.ser ser0 k hlt
  have hstep:(b.ser.take (k+1)).foldl (rfS ex d) none=rfS ex d a (b.ser.getD k ser0):=by
   rw [hsn,List.foldl_append,← ha]
   rfl
  obtain ⟨nm,vs,hv1⟩:=zdz (b.ser.getD k ser0)
  have e1:=zbz hv1
  have hvl:=hv _ (zbb ser0 hlt)
  rw [hv1] at hvl hstep
  unfold rfS at hstep
  simp only at hvl hstep
  have hsB:=scC_below
  generalize hc0:eqS nm ex=c0 at *
  have hc0':(nm.toList==ex.toList)=c0:=hc0
  (repeat' ((conv=>whnf);(first|refine yar (by omega) ?_|fail)));conv=>whnf
  refine zbg Tryz.E0 zad (σ:=Nat×Option Sch) (fun p=>p.1≤vs.length∧p.2=(vs.take p.1).foldl (stepV c0 d) a) (fun p=>vs.length-p.1) (fun p=>[(9,.v (.bool p.2.isSome)),(11,.v (.int .i64 p.1))]) (fun p=>[.box 31 [.sl none b.ser.length (b.ser.flatMap Ser.cells),.sl none b.ent.length (b.ent.flatMap Ent.cells)],.box 51 (scC none),.box 51 (scC p.2)]) _ (0,a) rfl hcl [1,2,3,6,8,10] rfl ⟨yah _,rfl⟩ ⟨⟨_,rfl,yae _⟩,⟨_,rfl,yae _⟩,trivial⟩ rfl (fun _ _=>rfl) ?_
  rintro ⟨j,a2⟩ ⟨hj,ha2⟩
  simp only at hj ha2
  rcases yag j vs.length with hjl|hjg
  ·have hvt:=take_snoc vs ver0 j hjl
   have hst2:(vs.take (j+1)).foldl (stepV c0 d) a=stepV c0 d a2 (vs.getD j ver0):=by
    rw [hvt,List.foldl_append,← ha2]
    rfl
   obtain ⟨at_,pts,part,att,rty,hnt,cnt,lates,hv2⟩:=zcr (vs.getD j ver0)
   have e2:=zbl hv2
   rw [hv2] at hst2
   unfold stepV at hst2
   simp only at hst2
   cases c0 with
   | false =>
     rw [if_neg (fun h=>Bool.false_ne_true h.1)] at hst2
     (repeat' ((conv=>whnf);(first|(refine yai ?_;first|refine yar (by omega) ?_|refine yau (by assumption) ?_|fail)|(refine zao _ _ Cst.h Cst.h ?_ ?_;· omega)|(refine yaf ?_ ?_;· first|omega|exact yaa _ _|fail)|refine zai ser0 k rfl (by omega) zaz e1 ?_|refine zai ver0 j rfl (by omega) zbf e2 ?_|fail)));conv=>whnf
     (refine ⟨⟨(j+1,a2),⟨by show j+1≤vs.length;omega,hst2.symm⟩,by omega,?_,.inr ?_,rfl,_,rfl,?_⟩⟩;rotate_left 2;exact .inr ⟨by simp [zau,below,zac,tr,zae,zah,zag,zam,zak,zal,zaf,hsB],by simp [za5,Blk.below,zac,below,zae,zah,zag,zam,zak,zal,zaf,hsB]⟩;all_goals (repeat' (first|exact trivial|refine ⟨⟨_,rfl,?_⟩,?_⟩|fail));all_goals exact yae _)
   | true =>
     by_cases hd:at_≤d
     ·rw [if_pos ⟨rfl,hd⟩] at hst2
      (repeat' ((conv=>whnf);(first|(refine yai ?_;first|refine yar (by omega) ?_|refine yaq (by assumption) ?_|fail)|(refine zao _ _ Cst.h Cst.h ?_ ?_;· omega)|(refine yaf ?_ ?_;· first|omega|exact yaa _ _|fail)|refine zai ser0 k rfl (by omega) zaz e1 ?_|refine zai ver0 j rfl (by omega) zbf e2 ?_|fail)));conv=>whnf
      (refine ⟨⟨(j+1,some ⟨pts,part,att,rty,hnt,cnt,lates⟩),⟨by show j+1≤vs.length;omega,hst2.symm⟩,by omega,?_,.inr ?_,rfl,_,rfl,?_⟩⟩;rotate_left 2;exact .inr ⟨by simp [zau,below,zac,tr,zae,zah,zag,zam,zak,zal,zaf,hsB],by simp [za5,Blk.below,zac,below,zae,zah,zag,zam,zak,zal,zaf,hsB]⟩;all_goals (repeat' (first|exact trivial|refine ⟨⟨_,rfl,?_⟩,?_⟩|fail));all_goals exact yae _)
     ·rw [if_neg (fun h=>hd h.2)] at hst2
      (repeat' ((conv=>whnf);(first|(refine yai ?_;first|refine yar (by omega) ?_|refine zat (by omega) ?_|refine yaq (by assumption) ?_|fail)|(refine zao _ _ Cst.h Cst.h ?_ ?_;· omega)|(refine yaf ?_ ?_;· first|omega|exact yaa _ _|fail)|refine zai ser0 k rfl (by omega) zaz e1 ?_|refine zai ver0 j rfl (by omega) zbf e2 ?_|fail)));conv=>whnf
      (refine ⟨⟨(j+1,a2),⟨by show j+1≤vs.length;omega,hst2.symm⟩,by omega,?_,.inr ?_,rfl,_,rfl,?_⟩⟩;rotate_left 2;exact .inr ⟨by simp [zau,below,zac,tr,zae,zah,zag,zam,zak,zal,zaf,hsB],by simp [za5,Blk.below,zac,below,zae,zah,zag,zam,zak,zal,zaf,hsB]⟩;all_goals (repeat' (first|exact trivial|refine ⟨⟨_,rfl,?_⟩,?_⟩|fail));all_goals exact yae _)
  ·obtain rfl:j=vs.length:=by omega
   rw [ya2,← hstep] at ha2
   (repeat' ((conv=>whnf);(first|refine zat (by omega) ?_|(refine zao _ _ Cst.h Cst.h ?_ ?_;· omega)|(refine yaf ?_ ?_;· first|omega|exact yaa _ _|fail)|refine zai ser0 k rfl (by omega) zaz e1 ?_|fail)));conv=>whnf
   (refine ⟨⟨(k+1,a2),⟨by show k+1≤b.ser.length;omega,ha2⟩,by omega,?_,.inr ?_,rfl,_,rfl,?_⟩⟩;rotate_left 2;exact .inl rfl;all_goals (repeat' (first|exact trivial|refine ⟨⟨_,rfl,?_⟩,?_⟩|fail));all_goals exact yae _)
 ·obtain rfl:k=b.ser.length:=by omega
  rw [ya2] at ha
  have ha:a=zdh b ex d:=ha
  rw [← ha]
  cases a with
  | none =>
    (repeat' ((conv=>whnf);(first|refine zat (by omega) ?_|fail)));conv=>whnf
    exact ya1 (by simp [below,zac,zax]) (zby ⟨zbs ⟨yae _,yae _,zbp,yae _,yae _,yae _,yae _,trivial⟩,yae _,trivial⟩)
  | some s =>
    (repeat' ((conv=>whnf);(first|refine zat (by omega) ?_|fail)));conv=>whnf
    exact ya1 (by simp [below,zac,zax]) (yae _)
theorem right_c (w:Wrk) (H:Heap):VDet Tryz.prog 28 [.agg w.cells] H (.bool (zbr w)):=by
 obtain ⟨prog,days,att,hints⟩:=w
 unfold Wrk.cells
 simp only
 refine zap Tryz.E0 zad Tryz.func28 (by kernel_rfl) rfl (ybv rfl) rfl fun hcl hbl=>?_
 (repeat' ((conv=>whnf);(first|refine zbq (fun _=>?_) (fun _=>?_)|fail)));all_goals (conv=>whnf)
 all_goals refine ya1 trivial (Wk.of_eq (congrArg AV.bool ?_))
 all_goals rw [yb5]
 all_goals simp [zbr,btw]
 all_goals omega
theorem zf0 (s:Sch) (H:Heap):VDet Tryz.prog 27 [.agg s.cells] H (.bool (zbv s)):=by
 obtain ⟨pts,part,att,rty,hnt,cnt,lates⟩:=s
 unfold Sch.cells
 simp only
 refine zap Tryz.E0 zad Tryz.func27 (by kernel_rfl) rfl (ybv rfl) rfl fun hcl hbl=>?_
 (repeat' ((conv=>whnf);(first|refine zbq (fun _=>?_) (fun _=>?_)|fail)));all_goals (conv=>whnf)
 all_goals try (refine ya1 trivial (Wk.of_eq (congrArg AV.bool ?_));simp [zbv,btw];omega;done)
 refine zbg Tryz.E0 zad (σ:=Nat) (fun k=>k≤lates.length∧∀ i,i<k→okAt lates i=true) (fun k=>lates.length-k) (fun k=>[(3,.v (.int .i64 k))]) (fun _=>_) _ 0 rfl hcl [1] rfl ⟨yah _,fun i hi=>absurd hi (Nat.not_lt_zero i)⟩ ⟨⟨_,rfl,yae _⟩,trivial⟩ rfl (fun _ _=>rfl) ?_
 rintro k ⟨hk,hok⟩
 (repeat' ((conv=>whnf);(first|refine zbq (fun _=>?_) (fun _=>?_)|(refine ycp ?_;first|(refine zao _ _ Cst.h Cst.h ?_ ?_;· omega)|(refine zbi _ _ Cst.h Cst.h ?_ ?_;· omega)|fail)|(refine yaf ?_ ?_;· first|kernel_rfl|omega|exact yaa _ _|fail)|refine zbt (0,0) k rfl (by omega) (fun _=>rfl) ?_|refine zbt (0,0) (k-1) (by omega) (by omega) (fun _=>rfl) ?_|refine zab [] ?_|fail)));all_goals (conv=>whnf)
 all_goals first
  | (refine ya1 trivial (Wk.of_eq (congrArg AV.bool ?_))
     have hno:okAt lates k=false:=by
      unfold okAt
      generalize lates.getD k (0,0)=x at *
      generalize lates.getD (k-1) (0,0)=y at *
      simp [btw]
      omega
     have:=rows_no (by omega) hno
     simp [zbv,this];done)
  | (refine ya1 trivial (Wk.of_eq (congrArg AV.bool ?_))
     have:=rows_yes (l:=lates) (fun i hi=>hok i (by omega))
     rw [yb5];simp [zbv,btw,this];omega;done)
  | (have hyes:okAt lates k=true:=by
      unfold okAt
      generalize lates.getD k (0,0)=x at *
      generalize lates.getD (k-1) (0,0)=y at *
      simp [btw]
      omega
     (refine ⟨⟨k+1,⟨by omega,fun i hi=>by
      rcases yag i k with h|h
      ·exact hok i h
      ·have:i=k:=by omega
       exact this▸hyes⟩,by omega,?_,.inl ⟨rfl,rfl⟩,rfl,_,rfl,?_⟩⟩;rotate_left 1;exact .inr ⟨by simp [zau,below,zac,tr,zaf,za1],by simp [za5,Blk.below,zac,below,zaf,za1]⟩;exact ⟨⟨_,rfl,yae _⟩,trivial⟩))
  | fail
theorem given_c (s:Sch) (hl:s.lates.length≤1000) (H:Heap):VDet Tryz.prog 25 [.agg s.cells] H (.agg s.cells):=by
 refine zap Tryz.E0 zad Tryz.func25 (by kernel_rfl) rfl (ybv rfl) rfl fun hcl hbl=>?_
 conv=>whnf
 refine LoopN.tokB 2 2 115 2 rfl rfl rfl rfl rfl rfl ?_
 refine zbg Tryz.E0 zad (σ:=Nat×List AV) (fun k=>k.1≤s.lates.length∧k.2=(s.lates.take k.1).flatMap encP) (fun k=>s.lates.length-k.1) (fun k=>[(22,.v (.int .i64 k.1))]) (fun k=>[.box 36 s.cells,.box 51 [.int .i64 0,.int .i64 0,.nils,.int .i64 0,.int .i64 0,.int .i64 0,.int .u8 0],.box 51 [.int .i64 s.pts,.int .i64 s.part,.sl (some (H.length+3)) k.1 k.2,.int .i64 s.att,.int .i64 s.rty,.int .i64 s.hnt,.int .u8 s.cnt],.tok 115 2 k.2.length]) _ (0,[]) rfl hcl [2,3,20,21] rfl ⟨yah _,rfl⟩ ⟨⟨_,rfl,yae _⟩,trivial⟩ rfl (fun _ _=>rfl) ?_
 rintro p ⟨hk,hpl⟩
 by_cases hlt:p.1<s.lates.length
 ·have hbl':∀ n,zac n (p.2++encP (s.lates.getD p.1 (0,0))):=fun n=>by
    rw [hpl,zaq]
    exact ⟨zaf _ _,by simp [encP,zac,below]⟩
  (repeat' ((conv=>whnf);(first|refine yar (by omega) ?_|(refine zao _ _ Cst.h Cst.h ?_ ?_;· omega)|(refine yaf ?_ ?_;· first|omega|exact yaa _ _|fail)|refine zbt (0,0) p.1 rfl (by omega) (fun _=>rfl) ?_|refine yaf ⟨rfl,rfl,rfl,by dsimp only;omega,by simp only [maxLen];omega⟩ ?_|refine yb6 _ rfl ?_|fail)));conv=>whnf
  refine ⟨⟨(p.1+1,p.2++encP (s.lates.getD p.1 (0,0))),⟨by simp only;omega,?_⟩,by simp only;omega,⟨⟨_,rfl,yae _⟩,trivial⟩,.inl ⟨rfl,rfl⟩,rfl,_,rfl,.inr ⟨⟨trivial,trivial⟩,?_⟩⟩⟩
  ·simp only [hpl]
   rw [ydj hlt,ybt]
   simp [yal hlt]
  ·simp only [za5,Blk.below,zac,below,zax,true_and,and_true]
   exact ⟨fun t h=>by cases h;omega,hbl' _⟩
 ·have hk':p.1=s.lates.length:=by omega
  (repeat' ((conv=>whnf);(first|refine zat (by omega) ?_|fail)));conv=>whnf
  refine ya1 (by simp [below,zax]) ?_
  have e2:p.2=s.lates.flatMap encP:=by rw [hpl,hk',ya2]
  unfold Sch.cells
  rw [hk',e2]
  exact zbs ⟨yae _,yae _,wk_sl _ _ _,yae _,yae _,yae _,yae _,trivial⟩
theorem zaw (n:Nat) (l:List Wrk):zac n (l.flatMap Wrk.cells):=zcn _ (za1 n)
theorem rWorks_c (b:Bk) (hb:b.ent.length≤1000000) (ex st:ByteArray) (d:Int) (H:Heap):VDet Tryz.prog 43 [.agg b.cells,.str ex,.str st,.int .i64 d] H (.sl none (selW b.ent ex st d).length ((selW b.ent ex st d).flatMap Wrk.cells)):=by
 have hcb:b.cells=[.sl none b.ser.length (b.ser.flatMap Ser.cells),.sl none b.ent.length (b.ent.flatMap Ent.cells)]:=rfl
 refine zap Tryz.E0 zad Tryz.func43 (by kernel_rfl) rfl (ybv rfl) rfl fun hcl hbl=>?_
 rw [hcb]
 conv=>whnf
 refine LoopN.tok 9 87 4 rfl rfl rfl ?_
 refine zbg Tryz.E0 zad (σ:=Nat×List Wrk) (fun p=>p.1≤b.ent.length∧p.2=selW (b.ent.take p.1) ex st d) (fun p=>b.ent.length-p.1) (fun p=>[(9,.v (.sl (some (H.length+1)) p.2.length (p.2.flatMap Wrk.cells))),(10,.v (.int .i64 p.1))]) (fun p=>[.box 31 [.sl none b.ser.length (b.ser.flatMap Ser.cells),.sl none b.ent.length (b.ent.flatMap Ent.cells)],.tok 87 4 (p.2.flatMap Wrk.cells).length]) _ (0,[]) rfl hcl [1,2,3,4] rfl ⟨yah _,rfl⟩ ⟨⟨_,rfl,yae _⟩,⟨_,rfl,yae _⟩,trivial⟩ rfl (fun _ _=>rfl) ?_
 rintro ⟨k,W⟩ ⟨hk,hW⟩
 simp only at hk hW
 rcases yag k b.ent.length with hlt|hge
 ·have hsn:=selW_snoc (b.ent.take k) (b.ent.getD k ent0) ex st d
  rw [← take_snoc b.ent ent0 k hlt] at hsn
  have hle:(selW (b.ent.take k) ex st d).length≤k:=by
   unfold selW
   rw [yav]
   have h9:=List.length_filter_le (fun e:Ent=>eqS e.exe ex&&(eqS e.stu st&&decide (e.day≤d))) (b.ent.take k)
   rw [yce] at h9
   omega
  rw [← hW] at hsn hle
  have hml:(W.flatMap Wrk.cells).length=W.length * 4:=zav wrk_size _
  obtain ⟨stu,exe,day,wa,wb,wc,wd,he⟩:=zc2 (b.ent.getD k ent0)
  have e1:=zbn he
  rw [he] at hsn
  simp only at hsn
  have hno:(eqS exe ex&&(eqS stu st&&decide (day≤d)))=false→W=selW (b.ent.take (k+1)) ex st d:=fun h=>by rw [hsn,if_neg (by rw [h];exact Bool.false_ne_true)]
  have hyes:(eqS exe ex&&(eqS stu st&&decide (day≤d)))=true→W++[⟨wa,wb,wc,wd⟩]=selW (b.ent.take (k+1)) ex st d:=fun h=>by rw [hsn,if_pos h]
  clear hsn
  cases h1:eqS exe ex with
  | false =>
    have h1':(exe.toList==ex.toList)=false:=h1
    have hq:=hno (by rw [h1];rfl)
    (repeat' ((conv=>whnf);(first|(refine yai ?_;first|refine yar (by omega) ?_|refine yau (by assumption) ?_|fail)|(refine zao _ _ Cst.h Cst.h ?_ ?_;· omega)|(refine yaf ?_ ?_;· first|omega|exact yaa _ _|fail)|refine zai ent0 k rfl (by omega) za0 e1 ?_|fail)));conv=>whnf
    (refine ⟨⟨(k+1,W),⟨by show k+1≤b.ent.length;omega,hq⟩,by omega,?_,.inl ⟨rfl,rfl⟩,rfl,_,rfl,?_⟩⟩;rotate_left 1;exact .inr ⟨by simp [zau,below,zac,tr,zae,zah,zag,zam,zak,zal,zaf,zaw,zas,zax,zaq,za1],by simp [za5,Blk.below,zac,below,zae,zah,zag,zam,zak,zal,zaf,zaw,zas,zax,zaq,za1]⟩;exact ⟨⟨_,rfl,yae _⟩,⟨_,rfl,yae _⟩,trivial⟩)
  | true =>
    have h1':(exe.toList==ex.toList)=true:=h1
    cases h2:eqS stu st with
    | false =>
      have h2':(stu.toList==st.toList)=false:=h2
      have hq:=hno (by rw [h2,ya0,ycv])
      (repeat' ((conv=>whnf);(first|(refine yai ?_;first|refine yar (by omega) ?_|refine yaq (by assumption) ?_|refine yau (by assumption) ?_|fail)|(refine zao _ _ Cst.h Cst.h ?_ ?_;· omega)|(refine yaf ?_ ?_;· first|omega|exact yaa _ _|fail)|refine zai ent0 k rfl (by omega) za0 e1 ?_|fail)));conv=>whnf
      (refine ⟨⟨(k+1,W),⟨by show k+1≤b.ent.length;omega,hq⟩,by omega,?_,.inl ⟨rfl,rfl⟩,rfl,_,rfl,?_⟩⟩;rotate_left 1;exact .inr ⟨by simp [zau,below,zac,tr,zae,zah,zag,zam,zak,zal,zaf,zaw,zas,zax,zaq,za1],by simp [za5,Blk.below,zac,below,zae,zah,zag,zam,zak,zal,zaf,zaw,zas,zax,zaq,za1]⟩;exact ⟨⟨_,rfl,yae _⟩,⟨_,rfl,yae _⟩,trivial⟩)
    | true =>
      have h2':(stu.toList==st.toList)=true:=h2
      by_cases h3:day≤d
      ·have h4:=hyes (by rw [h1,h2,decide_eq_true h3];rfl)
       have hns:(W++[(⟨wa,wb,wc,wd⟩:Wrk)]).flatMap Wrk.cells=W.flatMap Wrk.cells++[.int .i64 wa,.int .i64 wb,.int .i64 wc,.int .i64 wd]:=by
        rw [ybt]
        simp [Wrk.cells]
       have hnl:(W++[(⟨wa,wb,wc,wd⟩:Wrk)]).length=W.length+1:=by rw [ya5];rfl
       have hbt:(W.length+1) * 32≤140737488355328:=by omega
       have hmx:W.length+1≤maxLen:=ybg (show W.length+1≤1000001 by omega) (by decide)
       (repeat' ((conv=>whnf);(first|(refine yai ?_;first|refine yar (by omega) ?_|refine yaq (by assumption) ?_|fail)|(refine zao _ _ Cst.h Cst.h ?_ ?_;· omega)|(refine yaf ?_ ?_;· first|omega|exact yaa _ _|fail)|refine zai ent0 k rfl (by omega) za0 e1 ?_|refine yaf ⟨rfl,rfl,rfl,hbt,hmx⟩ ?_|refine yb6 _ rfl ?_|fail)));conv=>whnf
       rw [← hns,← hnl]
       (refine ⟨⟨(k+1,W++[(⟨wa,wb,wc,wd⟩:Wrk)]),⟨by show k+1≤b.ent.length;omega,h4⟩,by omega,?_,.inl ⟨rfl,rfl⟩,rfl,_,rfl,?_⟩⟩;rotate_left 1;exact .inr ⟨by simp [zau,below,zac,tr,zae,zah,zag,zam,zak,zal,zaf,zaw,zas,zax,zaq,za1],by simp [za5,Blk.below,zac,below,zae,zah,zag,zam,zak,zal,zaf,zaw,zas,zax,zaq,za1]⟩;exact ⟨⟨_,rfl,yae _⟩,⟨_,rfl,yae _⟩,trivial⟩)
      ·have hq:=hno (by rw [decide_eq_false h3,ycv,ycv])
       (repeat' ((conv=>whnf);(first|(refine yai ?_;first|refine yar (by omega) ?_|refine zat (by omega) ?_|refine yaq (by assumption) ?_|fail)|(refine zao _ _ Cst.h Cst.h ?_ ?_;· omega)|(refine yaf ?_ ?_;· first|omega|exact yaa _ _|fail)|refine zai ent0 k rfl (by omega) za0 e1 ?_|fail)));conv=>whnf
       (refine ⟨⟨(k+1,W),⟨by show k+1≤b.ent.length;omega,hq⟩,by omega,?_,.inl ⟨rfl,rfl⟩,rfl,_,rfl,?_⟩⟩;rotate_left 1;exact .inr ⟨by simp [zau,below,zac,tr,zae,zah,zag,zam,zak,zal,zaf,zaw,zas,zax,zaq,za1],by simp [za5,Blk.below,zac,below,zae,zah,zag,zam,zak,zal,zaf,zaw,zas,zax,zaq,za1]⟩;exact ⟨⟨_,rfl,yae _⟩,⟨_,rfl,yae _⟩,trivial⟩)
 ·obtain rfl:k=b.ent.length:=by omega
  rw [ya2] at hW
  subst hW
  (repeat' ((conv=>whnf);(first|refine zat (by omega) ?_|fail)));conv=>whnf
  exact ya1 (by simp [below,zac,zaw]) (by exact wk_sl _ _ _)
theorem rValid_c (b:Bk) (hs:b.ser.length≤1000000) (he:b.ent.length≤1000000) (hv:∀ s∈b.ser,s.vers.length≤1000000) (H:Heap):VDet Tryz.prog 7 [.agg b.cells] H (.bool (zbm b)):=by
 have hcb:b.cells=[.sl none b.ser.length (b.ser.flatMap Ser.cells),.sl none b.ent.length (b.ent.flatMap Ent.cells)]:=rfl
 have hfo:=fun ex d H=>force_c b hs hv ex d H
 have hat:=fun n hn ex st H=>attempts_c b he n hn ex st H
 by_cases h1:b.ser.length≤40
 case neg =>
  rw [show zbm b=false by unfold zbm;rw [decide_eq_false h1];rfl]
  refine zap Tryz.E0 zad Tryz.func7 (by kernel_rfl) rfl (ybv rfl) rfl fun hcl hbl=>?_
  rw [hcb]
  (repeat' ((conv=>whnf);(first|refine yar (by omega) ?_|fail)));conv=>whnf
  exact eT trivial
 by_cases h2:b.ent.length≤2000
 case neg =>
  rw [show zbm b=false by unfold zbm;rw [decide_eq_false h2,ya0,ycv]]
  refine zap Tryz.E0 zad Tryz.func7 (by kernel_rfl) rfl (ybv rfl) rfl fun hcl hbl=>?_
  rw [hcb]
  (repeat' ((conv=>whnf);(first|(refine yai ?_;first|refine yar (by omega) ?_|refine zat (by omega) ?_|fail)|fail)));conv=>whnf
  exact eT trivial
 refine zap Tryz.E0 zad Tryz.func7 (by kernel_rfl) rfl (ybv rfl) rfl fun hcl hbl=>?_
 rw [hcb] at hfo hat ⊢
 (repeat' ((conv=>whnf);(first|refine zat (by omega) ?_|fail)));conv=>whnf
 refine zbg Tryz.E0 zad (σ:=Nat) (fun k=>k≤b.ser.length∧∀ i,i<k→okS b i=true) (fun k=>b.ser.length-k) (fun k=>[(3,.v (.int .i64 k))]) (fun _=>_) _ 0 rfl hcl [1] rfl ⟨yah _,fun i hi=>absurd hi (Nat.not_lt_zero i)⟩ ⟨⟨_,rfl,yae _⟩,trivial⟩ rfl (fun _ _=>rfl) ?_
 rintro k ⟨hk,hok⟩
 rcases yag k b.ser.length with hlt|hge
 ·have hno:=fun h=>valid_noS hlt h
  have hyes:okS b k=true→∀ i,i<k+1→okS b i=true:=fun h i hi=>by
   rcases Nat.lt_or_eq_of_le (Nat.le_of_lt_succ hi) with h1|rfl
   ·exact hok i h1
   ·exact h
  have e0:okS b k=(zcg (b.ser.getD k ser0).name&&((k==0 || ltS (b.ser.getD (k-1) ser0).name (b.ser.getD k ser0).name)&&zfi (b.ser.getD k ser0).vers)):=rfl
  have hvl:=hv _ (zbb ser0 hlt)
  obtain ⟨nm,vs,hv1⟩:=zdz (b.ser.getD k ser0)
  obtain ⟨nm2,vs2,hv2⟩:=zdz (b.ser.getD (k-1) ser0)
  have e1:=zbz hv1
  have e2:=zbz hv2
  rw [hv1] at hvl
  rw [hv1,hv2] at e0
  simp only at e0 hvl
  have hver:zfi vs=(decide (1≤vs.length)&&(decide (vs.length≤20)&&(List.range vs.length).all (okV vs))):=rfl
  have hnm:=fun H=>rName_c nm H
  generalize zcg nm=bn at *
  generalize hbl2:ltS nm2 nm=bl at *
  have hbl3:Op.bytesLess nm2.toList nm.toList=bl:=hbl2
  cases bn with
  | false =>
    rw [hno e0]
    (repeat' ((conv=>whnf);(first|(refine yai ?_;first|refine yas ?_|refine yau rfl ?_|refine yar (by omega) ?_|fail)|(refine yaf ?_ ?_;· first|kernel_rfl|omega|exact yaa _ _|fail)|refine yan _ (fun _ hq X=>hnm _) ?_|refine zai ser0 k rfl (by omega) zaz e1 ?_|refine zab [] ?_|fail)));conv=>whnf
    exact eT trivial
  | true =>
  have hk0:(k=0∨bl=true)∨(0<k∧bl=false):=by
   cases bl with
   | true=>exact .inl (.inr rfl)
   | false =>
     rcases yc1 k with h|h
     ·exact .inl (.inl h)
     ·exact .inr ⟨h,rfl⟩
  rcases hk0 with hk0|⟨hk0,rfl⟩
  rotate_left
  ·rw [hno (by rw [e0];simp;omega)]
   (repeat' ((conv=>whnf);(first|(refine yai ?_;first|refine yas ?_|refine yaq rfl ?_|refine yar (by omega) ?_|refine yau (by assumption) ?_|fail)|(refine zbi _ _ Cst.h Cst.h ?_ ?_;· omega)|(refine yaf ?_ ?_;· first|kernel_rfl|omega|exact yaa _ _|fail)|refine yan _ (fun _ hq X=>hnm _) ?_|refine zai ser0 k rfl (by omega) zaz e1 ?_|refine zai ser0 (k-1) (by omega) (by omega) zaz e2 ?_|refine zab [] ?_|fail)));conv=>whnf
   exact eT trivial
  by_cases h3:vs.length=0∨20<vs.length
  ·have hvf:zfi vs=false:=by
     rw [hver]
     rcases h3 with h3|h3
     ·rw [h3];rfl
     ·rw [decide_eq_false (show ¬ vs.length≤20 by omega),ya0,ycv]
   rw [hno (by rw [e0,hvf,ycv,ycv])]
   rcases hk0 with rfl|rfl <;> rcases h3 with h3|h3
   all_goals
    (repeat' ((conv=>whnf);(first|(refine yai ?_;first|refine yas ?_|refine yaq rfl ?_|refine yau rfl ?_|refine yar (by omega) ?_|refine zat (by omega) ?_|refine zbq (fun _=>?_) (fun _=>?_)|refine yaq (by assumption) ?_|fail)|(refine zbi _ _ Cst.h Cst.h ?_ ?_;· omega)|(refine yaf ?_ ?_;· first|kernel_rfl|omega|exact yaa _ _|fail)|refine yan _ (fun _ hq X=>hnm _) ?_|refine zai ser0 k rfl (by omega) zaz e1 ?_|refine zai ser0 0 rfl (by omega) zaz e1 ?_|refine zai ser0 (k-1) (by omega) (by omega) zaz e2 ?_|refine zab [] ?_|fail)));all_goals (conv=>whnf)
   all_goals exact eT trivial
  have hin:∀ (h:(List.range vs.length).all (okV vs)=true),okS b k=true:=fun h=>by
   rw [e0,hver,h,decide_eq_true (show 1≤vs.length by omega),decide_eq_true (show vs.length≤20 by omega)]
   rcases hk0 with rfl|rfl <;> simp
  have hin0:∀ j,j<vs.length→okV vs j=false→zbm b=false:=fun j hj h=>hno (by
   rw [e0,hver,rng_no hj h];simp)
  have hvs20:vs.length≤20:=by omega
  have hk1:k=0∨(0<k∧bl=true):=by
   rcases yc1 k with h|h
   ·exact .inl h
   ·rcases hk0 with h2|h2
    ·omega
    ·exact .inr ⟨h,h2⟩
  rcases hk1 with hk0|⟨hkp,rfl⟩
  all_goals
   (repeat' ((conv=>whnf);(first|(refine yai ?_;first|refine yas ?_|refine yaq rfl ?_|refine yar (by omega) ?_|refine zat (by omega) ?_|refine yaq (by assumption) ?_|fail)|(refine zbi _ _ Cst.h Cst.h ?_ ?_;· omega)|(refine yaf ?_ ?_;· first|kernel_rfl|omega|exact yaa _ _|fail)|refine yan _ (fun _ hq X=>hnm _) ?_|refine zai ser0 k rfl (by omega) zaz e1 ?_|refine zai ser0 (k-1) (by omega) (by omega) zaz e2 ?_|refine zab [] ?_|fail)));all_goals (conv=>whnf)
   refine zbg Tryz.E0 zad (σ:=Nat) (fun j=>j≤vs.length∧∀ i,i<j→okV vs i=true) (fun j=>vs.length-j) (fun j=>[(5,.v (.int .i64 j))]) (fun _=>_) _ 0 rfl hcl [1,3,4] rfl ⟨yah _,fun i hi=>absurd hi (Nat.not_lt_zero i)⟩ ⟨⟨_,rfl,yae _⟩,trivial⟩ rfl (fun _ _=>rfl) ?_
   rintro j ⟨hj,hokj⟩
   rcases yag j vs.length with hjl|hjg
   ·have hnoj:=hin0 j hjl
    have hyesj:okV vs j=true→∀ i,i<j+1→okV vs i=true:=fun h i hi=>by
     rcases Nat.lt_or_eq_of_le (Nat.le_of_lt_succ hi) with h1|rfl
     ·exact hokj i h1
     ·exact h
    have f0:okV vs j=(isDay (vs.getD j ver0).at_&&((j==0 || !decide ((vs.getD j ver0).at_≤(vs.getD (j-1) ver0).at_))&&zbv (vs.getD j ver0).sch)):=rfl
    have hva:=fun H=>zf0 (vs.getD j ver0).sch H
    have hdy:=fun H=>rDay_c (vs.getD j ver0).at_ H
    obtain ⟨at_,pts,part,att,rty,hnt,cnt,lates,hv3⟩:=zcr (vs.getD j ver0)
    obtain ⟨at2,pts2,part2,att2,rty2,hnt2,cnt2,lates2,hv4⟩:=zcr (vs.getD (j-1) ver0)
    rw [hv3] at hva hdy
    rw [hv3,hv4] at f0
    have e3:=zbl hv3
    have e4:=zbl hv4
    unfold Sch.cells at hva
    simp only at f0 hva hdy
    generalize zbv ⟨pts,part,att,rty,hnt,cnt,lates⟩=bv at *
    generalize isDay at_=bd at *
    clear e0 hno hyes hver hin0 hok
    (repeat' ((conv=>whnf);(first|(refine yai ?_;first|refine yas ?_|refine yar (by omega) ?_|refine zbq (fun _=>?_) (fun _=>?_)|(refine IfN.mk ?_ ?_ <;> intro _)|fail)|(refine ycp ?_;first|(refine zao _ _ Cst.h Cst.h ?_ ?_;· omega)|(refine zbi _ _ Cst.h Cst.h ?_ ?_;· omega)|fail)|(refine yaf ?_ ?_;· first|kernel_rfl|omega|exact yaa _ _|fail)|(refine ycc ?_;first|refine yan _ (fun _ hq X=>hdy _) ?_|refine yan _ (fun _ hq X=>hva _) ?_|fail)|refine zai ver0 j rfl (by omega) zbf e3 ?_|refine zai ver0 (j-1) (by omega) (by omega) zbf e4 ?_|refine zab [] ?_|fail)));all_goals (conv=>whnf)
    all_goals first
     | (refine ya1 trivial (Wk.of_eq (congrArg AV.bool ?_))
        exact (hnoj (by simp_all;try omega)).symm)
     | (have hy:=hyesj (by simp_all;try omega)
        (refine ⟨⟨j+1,⟨by show j+1≤vs.length;omega,hy⟩,by omega,?_,.inr ?_,rfl,_,rfl,?_⟩⟩;rotate_left 2;exact .inl rfl;all_goals (repeat' (first|exact trivial|refine ⟨⟨_,rfl,?_⟩,?_⟩|fail));all_goals exact yae _))
     | fail
   ·obtain rfl:j=vs.length:=by omega
    have hy:=hyes (hin (rng_yes hokj))
    (repeat' ((conv=>whnf);(first|refine zat (by omega) ?_|(refine zao _ _ Cst.h Cst.h ?_ ?_;· omega)|fail)));all_goals (conv=>whnf)
    (refine ⟨⟨k+1,⟨by show k+1≤b.ser.length;omega,hy⟩,by omega,?_,.inr ?_,rfl,_,rfl,?_⟩⟩;rotate_left 2;exact .inr ⟨by simp [zau,below,zac,tr,zae,zah,zag,zam,zak,zal,zaf,zaw,zas,zax],by simp [za5,Blk.below,zac,below,zae,zah,zag,zam,zak,zal,zaf,zaw,zas,zax]⟩;all_goals (repeat' (first|exact trivial|refine ⟨⟨_,rfl,?_⟩,?_⟩|fail));all_goals exact yae _)
 ·obtain rfl:k=b.ser.length:=by omega
  (repeat' ((conv=>whnf);(first|refine zat (by omega) ?_|fail)));conv=>whnf
  refine zbg Tryz.E0 zad (σ:=Nat) (fun k=>k≤b.ent.length∧∀ i,i<k→rokE b i=true) (fun k=>b.ent.length-k) (fun k=>[(6,.v (.int .i64 k))]) (fun _=>_) _ 0 rfl hcl [1] rfl ⟨yah _,fun i hi=>absurd hi (Nat.not_lt_zero i)⟩ ⟨⟨_,rfl,yae _⟩,trivial⟩ rfl (fun _ _=>rfl) ?_
  rintro k ⟨hk,hokE⟩
  rcases yag k b.ent.length with hlt|hge
  ·have hno:=fun h=>valid_noE hok hlt h
   have hyes:rokE b k=true→∀ i,i<k+1→rokE b i=true:=fun h i hi=>by
    rcases Nat.lt_or_eq_of_le (Nat.le_of_lt_succ hi) with h1|rfl
    ·exact hokE i h1
    ·exact h
   have e0:rokE b k=(zcg (b.ent.getD k ent0).stu&&(isDay (b.ent.getD k ent0).day&&((k==0 || !decide ((b.ent.getD k ent0).day<(b.ent.getD (k-1) ent0).day))&&((zdh b (b.ent.getD k ent0).exe (b.ent.getD k ent0).day).isSome&&(zbr (b.ent.getD k ent0).work&&((b.ent.getD k ent0).work.att==(cntK (b.ent.take k) (keyOf (b.ent.getD k ent0)):Nat)+1)))))):=rfl
   have hfo:=fun H=>hfo (b.ent.getD k ent0).exe (b.ent.getD k ent0).day H
   have hnm:=fun H=>rName_c (b.ent.getD k ent0).stu H
   have hdy:=fun H=>rDay_c (b.ent.getD k ent0).day H
   have hrt:=fun H=>right_c (b.ent.getD k ent0).work H
   have hat:=fun H=>hat k (Nat.le_of_lt hlt) (b.ent.getD k ent0).exe (b.ent.getD k ent0).stu H
   rw [show ((b.ent.getD k ent0).exe,(b.ent.getD k ent0).stu)=keyOf (b.ent.getD k ent0) from rfl] at hat
   have hcn:=zgn (b.ent.take k) (keyOf (b.ent.getD k ent0))
   rw [yce] at hcn
   generalize cntK (b.ent.take k) (keyOf (b.ent.getD k ent0))=cn at *
   generalize zdh b (b.ent.getD k ent0).exe (b.ent.getD k ent0).day=rf at *
   obtain ⟨stu,exe,day,wa,wb,wc,wd,he⟩:=zc2 (b.ent.getD k ent0)
   obtain ⟨stu2,exe2,day2,wa2,wb2,wc2,wd2,he2⟩:=zc2 (b.ent.getD (k-1) ent0)
   have e1:=zbn he
   have e2:=zbn he2
   rw [he] at e0 hfo hnm hdy hrt hat
   rw [he2] at e0
   unfold Wrk.cells at hrt
   simp only at e0 hfo hnm hdy hrt hat
   have hsc:∃ f1 f2 f3 f4 f5 f6 f7 f8,(rf.getD sch0).cells=[.int .i64 f1,.int .i64 f2,.sl none f3 f4,.int .i64 f5,.int .i64 f6,.int .i64 f7,.int .u8 f8]:=⟨_,_,_,_,_,_,_,_,rfl⟩
   obtain ⟨f1,f2,f3,f4,f5,f6,f7,f8,hsc⟩:=hsc
   rw [hsc] at hfo
   generalize rf.isSome=fs at *
   generalize zcg stu=bn at *
   generalize isDay day=bd at *
   generalize zbr ⟨wa,wb,wc,wd⟩=bw at *
   (repeat' ((conv=>whnf);(first|(refine yai ?_;first|refine yas ?_|refine yar (by omega) ?_|refine zbq (fun _=>?_) (fun _=>?_)|(refine IfN.mk ?_ ?_ <;> intro _)|fail)|(refine ycp ?_;first|(refine zao _ _ Cst.h Cst.h ?_ ?_;· omega)|(refine zbi _ _ Cst.h Cst.h ?_ ?_;· omega)|fail)|(refine yaf ?_ ?_;· first|kernel_rfl|omega|exact yaa _ _|fail)|refine yab _ (hfo _) ?_|(refine ycc ?_;first|refine yan _ (fun _ hq X=>hnm _) ?_|refine yan _ (fun _ hq X=>hdy _) ?_|refine yan _ (fun _ hq X=>hrt _) ?_|refine yan _ (fun _ hq X=>hat _) ?_|fail)|refine zai ent0 k rfl (by omega) za0 e1 ?_|refine zai ent0 (k-1) (by omega) (by omega) za0 e2 ?_|refine zab [] ?_|fail)));all_goals (conv=>whnf)
   all_goals first
    | (refine ya1 trivial (Wk.of_eq (congrArg AV.bool ?_))
       exact (hno (by simp_all;try omega)).symm)
    | (have hy:=hyes (by simp_all;try omega)
       (refine ⟨⟨k+1,⟨by show k+1≤b.ent.length;omega,hy⟩,by omega,?_,.inl ⟨rfl,rfl⟩,rfl,_,rfl,?_⟩⟩;rotate_left 1;exact .inr ⟨by simp [zau,below,zac,tr,zae,zah,zag,zam,zak,zal,zaf,zaw,zas,zax],by simp [za5,Blk.below,zac,below,zae,zah,zag,zam,zak,zal,zaf,zaw,zas,zax]⟩;exact ⟨⟨_,rfl,yae _⟩,trivial⟩))
    | fail
  ·obtain rfl:k=b.ent.length:=by omega
   rw [valid_yes h1 h2 hok hokE]
   (repeat' ((conv=>whnf);(first|refine zat (by omega) ?_|fail)));conv=>whnf
   exact eT trivial
theorem rMarks_c (hgr:∀ (s:Sch) (w:Wrk),s.lates.length≤1000000→∀ H,VDet Tryz.prog 44 [.agg s.cells,.agg w.cells] H (.tup [.agg (zcc s w).1.cells,.int .i64 (zcc s w).2]))
  (b:Bk) (hs:b.ser.length≤1000000) (he:b.ent.length≤1000000) (hv:∀ s∈b.ser,s.vers.length≤1000000) (ex st:ByteArray) (d:Int) (hl:((zdh b ex d).getD sch0).lates.length≤1000000)
  (hw:∀ w∈selW b.ent ex st d,zcc ((zdh b ex d).getD sch0) w=(markF ((zdh b ex d).getD sch0) w,0)) (H:Heap) :
  VDet Tryz.prog 16 [.agg b.cells,.str ex,.str st,.int .i64 d] H (.sl none (selW b.ent ex st d).length (((selW b.ent ex st d).map (markF ((zdh b ex d).getD sch0))).flatMap Mrk.cells)):=by
 have hcb:b.cells=[.sl none b.ser.length (b.ser.flatMap Ser.cells),.sl none b.ent.length (b.ent.flatMap Ent.cells)]:=rfl
 have hfo:=fun H=>force_c b hs hv ex d H
 have hwo:=fun H=>rWorks_c b he ex st d H
 have hgr:=fun w (h:w∈selW b.ent ex st d) H=>hgr ((zdh b ex d).getD sch0) w hl H
 have hWl:(selW b.ent ex st d).length≤1000000:=by
  unfold selW
  rw [yav]
  exact ybg (List.length_filter_le _ _) he
 generalize selW b.ent ex st d=W at *
 generalize (zdh b ex d).isSome=fs at *
 generalize (zdh b ex d).getD sch0=sc at *
 have hgr:=fun w (h:w∈W) H=>by have h2:=hgr w h H;rw [hw w h] at h2;exact h2
 obtain ⟨f2,f3,f4,f5,f6,f7,f8⟩:=sc
 unfold Sch.cells at hfo hgr
 simp only at hfo hgr
 rw [hcb] at hfo hwo ⊢
 refine zap Tryz.E0 zad Tryz.func16 (by kernel_rfl) rfl (ybv rfl) rfl fun hcl hbl=>?_
 (repeat' ((conv=>whnf);(first|(refine ybi ?_;first|refine yab _ (hfo _) ?_|refine yab _ (hwo _) ?_|fail)|fail)));conv=>whnf
 refine LoopN.tok 12 61 5 rfl rfl rfl ?_
 refine zbg Tryz.E0 zad (σ:=Nat) (fun k=>k≤W.length) (fun k=>W.length-k) (fun k=>[(12,.v (.sl (some (H.length+2)) k (((W.take k).map (markF ⟨f2,f3,f4,f5,f6,f7,f8⟩)).flatMap Mrk.cells))),(13,.v (.int .i64 k))]) (fun k=>[.box 31 [.sl none b.ser.length (b.ser.flatMap Ser.cells),.sl none b.ent.length (b.ent.flatMap Ent.cells)],.box 51 [.int .i64 f2,.int .i64 f3,.sl none f8.length (f8.flatMap encP),.int .i64 f4,.int .i64 f5,.int .i64 f6,.int .u8 f7],.tok 61 5 (((W.take k).map (markF ⟨f2,f3,f4,f5,f6,f7,f8⟩)).flatMap Mrk.cells).length]) _ 0 rfl hcl [9,11] rfl (yah _) ⟨⟨_,rfl,yae _⟩,⟨_,rfl,yae _⟩,trivial⟩ rfl (fun _ _=>rfl) ?_
 intro k hk
 rcases yag k W.length with hlt|hge
 ·have hts:=take_snoc W wrk0 k hlt
  have hgr:=hgr (W.getD k wrk0) (zbb wrk0 hlt)
  have hns:((W.take (k+1)).map (markF ⟨f2,f3,f4,f5,f6,f7,f8⟩)).flatMap Mrk.cells=((W.take k).map (markF ⟨f2,f3,f4,f5,f6,f7,f8⟩)).flatMap Mrk.cells++(markF ⟨f2,f3,f4,f5,f6,f7,f8⟩ (W.getD k wrk0)).cells:=by
   rw [hts,ydh,ybt]
   simp
  obtain ⟨w1,w2,w3,w4,hw⟩:∃ w1 w2 w3 w4,(W.getD k wrk0).cells=[.int .i64 w1,.int .i64 w2,.int .i64 w3,.int .i64 w4]:=⟨_,_,_,_,rfl⟩
  rw [hw] at hgr
  obtain ⟨m1,m2,m3,m4,m5,hm⟩:∃ m1 m2 m3 m4 m5,(markF ⟨f2,f3,f4,f5,f6,f7,f8⟩ (W.getD k wrk0)).cells=[.int .i64 m1,.int .i64 m2,.int .i64 m3,.int .i64 m4,.int .i64 m5]:=⟨_,_,_,_,_,rfl⟩
  rw [hm] at hgr hns
  have hbt:(k+1) * 40≤140737488355328:=by omega
  have hmx:k+1≤maxLen:=ybg (show k+1≤1000001 by omega) (by decide)
  (repeat' ((conv=>whnf);(first|refine zab [3] ?_|refine yar (by omega) ?_|(refine zao _ _ Cst.h Cst.h ?_ ?_;· omega)|(refine yaf ?_ ?_;· first|kernel_rfl|omega|exact yaa _ _|fail)|refine yan _ (fun _ hq X=>hgr _) ?_|refine zai wrk0 k rfl (by omega) wrk_size hw ?_|refine yaf ⟨rfl,rfl,rfl,hbt,hmx⟩ ?_|refine yb6 _ rfl ?_|fail)));conv=>whnf
  rw [← hns]
  (refine ⟨⟨k+1,by show k+1≤W.length;omega,by omega,?_,.inl ⟨rfl,rfl⟩,rfl,_,rfl,?_⟩⟩;rotate_left 1;exact .inr ⟨by simp [zau,below,zac,tr,zae,zah,zag,zam,zak,zal,zaf,zaw,zas,zax,zaq,za1,zan],by simp [za5,Blk.below,zac,below,zae,zah,zag,zam,zak,zal,zaf,zaw,zas,zax,zaq,za1,zan]⟩;exact ⟨⟨_,rfl,yae _⟩,⟨_,rfl,yae _⟩,trivial⟩)
 ·obtain rfl:k=W.length:=by omega
  rw [ya2]
  (repeat' ((conv=>whnf);(first|refine zat (by omega) ?_|fail)));conv=>whnf
  exact ya1 (by simp [below,zac,zas]) (by exact wk_sl _ _ _)
theorem key_entry {b:Bk} (hb:VB b) {d:Int} {n:Nat} (hn:n<(keyS b d).length):(za3 b ((keyS b d).getD n (.empty,.empty)).1 d).isSome=true:=by
 have h1:=zbb (.empty,.empty) hn
 unfold keyS at h1
 exact zg9 hb ((zdj _).mem_iff.1 h1)
theorem key_total {b:Bk} (hb:VB b) {d:Int} {n:Nat} (hn:n<(keyS b d).length):zdc (frcF b ((keyS b d).getD n (.empty,.empty)).1 d) (wksF b d ((keyS b d).getD n (.empty,.empty)))=(ptsF b d ((keyS b d).getD n (.empty,.empty)),0):=by
 have h1:=zbb (.empty,.empty) hn
 unfold keyS at h1
 have:=total_ok hb ((zdj _).mem_iff.1 h1)
 exact Prod.ext rfl this
theorem rReport_c (hto:∀ (s:Sch) (l:List Wrk),s.lates.length≤1000000→l.length≤1000000→∀ H,VDet Tryz.prog 46 [.agg s.cells,.sl none l.length (l.flatMap Wrk.cells)] H (.tup [.int .i64 (zdc s l).1,.int .i64 (zdc s l).2]))
  (b:Bk) (hb:VB b) (hla:∀ s∈b.ser,∀ v∈s.vers,v.sch.lates.length≤1000000) (d:Int) (H:Heap):VDet Tryz.prog 18 [.agg b.cells,.int .i64 d] H (.sl none (keyS b d).length ((keyS b d).flatMap (rowC (ptsF b d)))):=by
 have hcb:b.cells=[.sl none b.ser.length (b.ser.flatMap Ser.cells),.sl none b.ent.length (b.ent.flatMap Ent.cells)]:=rfl
 have hs:b.ser.length≤1000000:=by have:=hb.ns;omega
 have he:b.ent.length≤1000000:=by have:=hb.ne;omega
 have hv:∀ s∈b.ser,s.vers.length≤1000000:=fun s h=>by have:=(hb.vs s h).le;omega
 have hkl:(keyS b d).length≤2000:=by
  unfold keyS
  rw [zeq]
  have h1:=zg8 (selF b.ent d)
  have h2:(selF b.ent d).length≤b.ent.length:=List.length_filter_le _ _
  have:=hb.ne
  omega
 refine zap Tryz.E0 zad Tryz.func18 (by kernel_rfl) rfl (ybv rfl) rfl fun hcl hbl=>?_
 conv=>whnf
 refine LoopN.tok 5 120 3 rfl rfl rfl ?_
 refine zbg Tryz.E0 zad (σ:=Nat) (fun n=>n≤(keyS b d).length) (fun n=>(keyS b d).length+1-n) (fun n=>[(5,.v (.sl (some (H.length+1)) n (((keyS b d).take n).flatMap (rowC (ptsF b d)))))]) (fun n=>[.box 31 b.cells,.tok 120 3 (((keyS b d).take n).flatMap (rowC (ptsF b d))).length]) _ 0 rfl hcl [1,2] rfl (yah _) ⟨⟨_,rfl,yae _⟩,trivial⟩ rfl (fun _ _=>rfl) ?_
 intro n hn
 rw [hcb]
 have hrl:(((keyS b d).take n).flatMap (rowC (ptsF b d))).length=n * 3:=by rw [zav (zcy _),yce,ycd hn]
 conv=>whnf
 refine zbg Tryz.E0 zad (σ:=Nat×Int) (fun p=>p.1≤b.ent.length∧zhk b d n p.1 p.2) (fun p=>b.ent.length-p.1) (fun p=>[(6,.v (.int .i64 p.2)),(7,.v (.int .i64 p.1))]) (fun _=>_) _ (0,-1) rfl hcl [1,2,5] rfl ⟨yah _,best0 b d n⟩ ⟨⟨_,rfl,yae _⟩,⟨_,rfl,yae _⟩,trivial⟩ rfl (fun _ _=>rfl) ?_
 rintro ⟨i,r⟩ ⟨hi,hbest⟩
 simp only at hi hbest
 rcases yag i b.ent.length with hlt|hge
 ·have hno:=fun h=>best_no hbest (i:=i) h
  have hca:cand b d n (b.ent.getD i ent0)=(decide ((b.ent.getD i ent0).day≤d)&&(n==0 || ltK ((keyS b d).getD (n-1) (.empty,.empty)) (keyOf (b.ent.getD i ent0)))):=rfl
  have hnew:=fun hc hb=>best_new hbest (i:=i) hc hb
  have hold:=fun hr hb=>best_old hbest (i:=i) hr hb
  have hrng:r<0∨(0≤r∧r.toNat<b.ent.length):=by
   rcases hbest with ⟨rfl,-⟩|⟨m,rfl,h2,-⟩
   ·exact .inl (by decide)
   ·exact .inr ⟨by omega,by rw [ybj];omega⟩
  have hbf:=fun k:Ky=>fun H=>before_c k.1 k.2 (b.ent.getD i ent0) H
  have hbm:=fun H=>before_c (b.ent.getD i ent0).exe (b.ent.getD i ent0).stu (b.ent.getD r.toNat ent0) H
  have hkk:((b.ent.getD i ent0).exe,(b.ent.getD i ent0).stu)=keyOf (b.ent.getD i ent0):=rfl
  rw [hkk] at hbm
  obtain ⟨stu2,exe2,day2,wa2,wb2,wc2,wd2,he2⟩:=zc2 (b.ent.getD r.toNat ent0)
  have e2:=zbn he2
  generalize hG:ltK (keyOf (b.ent.getD i ent0)) (keyOf (b.ent.getD r.toNat ent0))=bG at *
  rw [e2] at hbm
  clear he2 hbest
  have hlast:0<n→rowC (ptsF b d) (((keyS b d).take n).getD (n-1) (.empty,.empty))=[.str ((keyS b d).getD (n-1) (.empty,.empty)).1,.str ((keyS b d).getD (n-1) (.empty,.empty)).2,.int .i64 (ptsF b d ((keyS b d).getD (n-1) (.empty,.empty)))]:=fun h=>by
   rw [ybl,List.getElem?_take_of_lt (by omega),← ybl]
   rfl
  have hbf:=hbf ((keyS b d).getD (n-1) (.empty,.empty))
  have hkl:∀ k:Ky,(k.1,k.2)=k:=fun k=>rfl
  rw [hkl] at hbf
  generalize hL:(keyS b d).getD (n-1) (.empty,.empty)=L at *
  generalize hLk:ltK L (keyOf (b.ent.getD i ent0))=bL at *
  obtain ⟨L1,L2⟩:=L
  simp only at hbf hlast
  generalize ptsF b d (L1,L2)=pl at hlast
  obtain ⟨stu,exe,day,wa,wb,wc,wd,he⟩:=zc2 (b.ent.getD i ent0)
  have e1:=zbn he
  rw [e1] at hbf
  rw [he] at hbm
  simp only at hbm
  have hca:=hca.trans (show _=(decide (day≤d)&&(n==0 || bL)) by rw [he])
  clear hG hL hLk hkk
  have hlt1:(((keyS b d).take n)).length=n:=by rw [yce,ycd hn]
  by_cases hd:day≤d
  case neg =>
   have hc:=hno (by rw [hca,decide_eq_false hd];rfl)
   (repeat' ((conv=>whnf);(first|refine yar (by omega) ?_|(refine zao _ _ Cst.h Cst.h ?_ ?_;· omega)|(refine yaf ?_ ?_;· first|kernel_rfl|omega|exact yaa _ _|fail)|refine zai ent0 i rfl (by omega) za0 e1 ?_|refine zab [] ?_|fail)));conv=>whnf
   (refine ⟨⟨(i+1,r),⟨by show i+1≤b.ent.length;omega,hc⟩,by omega,?_,.inr ?_,rfl,_,rfl,?_⟩⟩;rotate_left 2;exact .inr ⟨by simp [zau,below,zac,tr,zae,zah,zag,zam,zak,zal,zaf,zaw,zas,zax,zaq,za1,zan],by simp [za5,Blk.below,zac,below,zae,zah,zag,zam,zak,zal,zaf,zaw,zas,zax,zaq,za1,zan]⟩;all_goals (repeat' (first|exact trivial|refine ⟨⟨_,rfl,?_⟩,?_⟩|fail));all_goals exact yae _)
  by_cases hn0:0<n∧bL=false
  ·obtain ⟨hn0,rfl⟩:=hn0
   have hc:=hno (by rw [hca];simp;omega)
   have hlast:=hlast hn0
   (repeat' ((conv=>whnf);(first|(refine yai ?_;first|refine yas ?_|refine yau rfl ?_|refine yar (by omega) ?_|refine zat (by omega) ?_|fail)|(refine ycp ?_;first|(refine zao _ _ Cst.h Cst.h ?_ ?_;· omega)|(refine zbi _ _ Cst.h Cst.h ?_ ?_;· omega)|fail)|(refine yaf ?_ ?_;· first|kernel_rfl|omega|exact yaa _ _|fail)|refine yan _ (fun _ hq X=>hbf _) ?_|refine zai ent0 i rfl (by omega) za0 e1 ?_|refine zai (.empty,.empty) (n-1) (by omega) (by omega) (zcy _) hlast ?_|refine zab [] ?_|fail)));conv=>whnf
   (refine ⟨⟨(i+1,r),⟨by show i+1≤b.ent.length;omega,hc⟩,by omega,?_,.inr ?_,rfl,_,rfl,?_⟩⟩;rotate_left 2;exact .inr ⟨by simp [zau,below,zac,tr,zae,zah,zag,zam,zak,zal,zaf,zaw,zas,zax,zaq,za1,zan],by simp [za5,Blk.below,zac,below,zae,zah,zag,zam,zak,zal,zaf,zaw,zas,zax,zaq,za1,zan]⟩;all_goals (repeat' (first|exact trivial|refine ⟨⟨_,rfl,?_⟩,?_⟩|fail));all_goals exact yae _)
  have hct:cand b d n (b.ent.getD i ent0)=true:=by
   rw [hca,decide_eq_true hd]
   rcases yc1 n with h|h
   ·simp [h]
   ·have:bL=true:=by
      cases bL with
      | true=>rfl
      | false=>exact absurd ⟨h,rfl⟩ hn0
    simp [this]
  have hnew:=fun h=>hnew hct h
  have hcs:n=0∨(0<n∧bL=true):=by
   rcases yc1 n with h|h
   ·exact .inl h
   ·cases bL with
    | true=>exact .inr ⟨h,rfl⟩
    | false=>exact absurd ⟨h,rfl⟩ hn0
  rcases hcs with hcs|⟨hcs,rfl⟩
  ·rcases hrng with hr|⟨hr,hr2⟩
   ·(repeat' ((conv=>whnf);(first|(refine yai ?_;first|refine yar (by omega) ?_|refine zat (by omega) ?_|fail)|(refine zao _ _ Cst.h Cst.h ?_ ?_;· omega)|(refine yaf ?_ ?_;· first|kernel_rfl|omega|exact yaa _ _|fail)|refine zai ent0 i rfl (by omega) za0 e1 ?_|refine zab [] ?_|fail)));conv=>whnf
    (refine ⟨⟨(i+1,(i:Int)),⟨by show i+1≤b.ent.length;omega,hnew (.inl hr)⟩,by omega,?_,.inr ?_,rfl,_,rfl,?_⟩⟩;rotate_left 2;exact .inr ⟨by simp [zau,below,zac,tr,zae,zah,zag,zam,zak,zal,zaf,zaw,zas,zax,zaq,za1,zan],by simp [za5,Blk.below,zac,below,zae,zah,zag,zam,zak,zal,zaf,zaw,zas,zax,zaq,za1,zan]⟩;all_goals (repeat' (first|exact trivial|refine ⟨⟨_,rfl,?_⟩,?_⟩|fail));all_goals exact yae _)
   ·cases bG with
    | true =>
      (repeat' ((conv=>whnf);(first|(refine yai ?_;first|refine yaq rfl ?_|refine yar (by omega) ?_|refine zat (by omega) ?_|fail)|(refine zao _ _ Cst.h Cst.h ?_ ?_;· omega)|(refine yaf ?_ ?_;· first|kernel_rfl|omega|exact yaa _ _|fail)|refine yan _ (fun _ hq X=>hbm _) ?_|refine zai ent0 i rfl (by omega) za0 e1 ?_|refine zai ent0 r.toNat (by omega) hr2 za0 e2 ?_|refine zab [] ?_|fail)));conv=>whnf
      (refine ⟨⟨(i+1,(i:Int)),⟨by show i+1≤b.ent.length;omega,hnew (.inr rfl)⟩,by omega,?_,.inr ?_,rfl,_,rfl,?_⟩⟩;rotate_left 2;exact .inr ⟨by simp [zau,below,zac,tr,zae,zah,zag,zam,zak,zal,zaf,zaw,zas,zax,zaq,za1,zan],by simp [za5,Blk.below,zac,below,zae,zah,zag,zam,zak,zal,zaf,zaw,zas,zax,zaq,za1,zan]⟩;all_goals (repeat' (first|exact trivial|refine ⟨⟨_,rfl,?_⟩,?_⟩|fail));all_goals exact yae _)
    | false =>
      (repeat' ((conv=>whnf);(first|(refine yai ?_;first|refine yau rfl ?_|refine yar (by omega) ?_|refine zat (by omega) ?_|fail)|(refine zao _ _ Cst.h Cst.h ?_ ?_;· omega)|(refine yaf ?_ ?_;· first|kernel_rfl|omega|exact yaa _ _|fail)|refine yan _ (fun _ hq X=>hbm _) ?_|refine zai ent0 i rfl (by omega) za0 e1 ?_|refine zai ent0 r.toNat (by omega) hr2 za0 e2 ?_|refine zab [] ?_|fail)));conv=>whnf
      (refine ⟨⟨(i+1,r),⟨by show i+1≤b.ent.length;omega,hold hr rfl⟩,by omega,?_,.inr ?_,rfl,_,rfl,?_⟩⟩;rotate_left 2;exact .inr ⟨by simp [zau,below,zac,tr,zae,zah,zag,zam,zak,zal,zaf,zaw,zas,zax,zaq,za1,zan],by simp [za5,Blk.below,zac,below,zae,zah,zag,zam,zak,zal,zaf,zaw,zas,zax,zaq,za1,zan]⟩;all_goals (repeat' (first|exact trivial|refine ⟨⟨_,rfl,?_⟩,?_⟩|fail));all_goals exact yae _)
  ·have hlast:=hlast hcs
   rcases hrng with hr|⟨hr,hr2⟩
   ·(repeat' ((conv=>whnf);(first|(refine yai ?_;first|refine yas ?_|refine yaq rfl ?_|refine yar (by omega) ?_|refine zat (by omega) ?_|fail)|(refine ycp ?_;first|(refine zao _ _ Cst.h Cst.h ?_ ?_;· omega)|(refine zbi _ _ Cst.h Cst.h ?_ ?_;· omega)|fail)|(refine yaf ?_ ?_;· first|kernel_rfl|omega|exact yaa _ _|fail)|refine yan _ (fun _ hq X=>hbf _) ?_|refine zai ent0 i rfl (by omega) za0 e1 ?_|refine zai (.empty,.empty) (n-1) (by omega) (by omega) (zcy _) hlast ?_|refine zab [] ?_|fail)));conv=>whnf
    (refine ⟨⟨(i+1,(i:Int)),⟨by show i+1≤b.ent.length;omega,hnew (.inl hr)⟩,by omega,?_,.inr ?_,rfl,_,rfl,?_⟩⟩;rotate_left 2;exact .inr ⟨by simp [zau,below,zac,tr,zae,zah,zag,zam,zak,zal,zaf,zaw,zas,zax,zaq,za1,zan],by simp [za5,Blk.below,zac,below,zae,zah,zag,zam,zak,zal,zaf,zaw,zas,zax,zaq,za1,zan]⟩;all_goals (repeat' (first|exact trivial|refine ⟨⟨_,rfl,?_⟩,?_⟩|fail));all_goals exact yae _)
   ·cases bG with
    | true =>
      (repeat' ((conv=>whnf);(first|(refine yai ?_;first|refine yas ?_|refine yaq rfl ?_|refine yar (by omega) ?_|refine zat (by omega) ?_|fail)|(refine ycp ?_;first|(refine zao _ _ Cst.h Cst.h ?_ ?_;· omega)|(refine zbi _ _ Cst.h Cst.h ?_ ?_;· omega)|fail)|(refine yaf ?_ ?_;· first|kernel_rfl|omega|exact yaa _ _|fail)|(refine ycc ?_;first|refine yan _ (fun _ hq X=>hbf _) ?_|refine yan _ (fun _ hq X=>hbm _) ?_|fail)|refine zai ent0 i rfl (by omega) za0 e1 ?_|refine zai (.empty,.empty) (n-1) (by omega) (by omega) (zcy _) hlast ?_|refine zai ent0 r.toNat (by omega) hr2 za0 e2 ?_|refine zab [] ?_|fail)));conv=>whnf
      (refine ⟨⟨(i+1,(i:Int)),⟨by show i+1≤b.ent.length;omega,hnew (.inr rfl)⟩,by omega,?_,.inr ?_,rfl,_,rfl,?_⟩⟩;rotate_left 2;exact .inr ⟨by simp [zau,below,zac,tr,zae,zah,zag,zam,zak,zal,zaf,zaw,zas,zax,zaq,za1,zan],by simp [za5,Blk.below,zac,below,zae,zah,zag,zam,zak,zal,zaf,zaw,zas,zax,zaq,za1,zan]⟩;all_goals (repeat' (first|exact trivial|refine ⟨⟨_,rfl,?_⟩,?_⟩|fail));all_goals exact yae _)
    | false =>
      (repeat' ((conv=>whnf);(first|(refine yai ?_;first|refine yas ?_|refine yaq rfl ?_|refine yau rfl ?_|refine yar (by omega) ?_|refine zat (by omega) ?_|fail)|(refine ycp ?_;first|(refine zao _ _ Cst.h Cst.h ?_ ?_;· omega)|(refine zbi _ _ Cst.h Cst.h ?_ ?_;· omega)|fail)|(refine yaf ?_ ?_;· first|kernel_rfl|omega|exact yaa _ _|fail)|(refine ycc ?_;first|refine yan _ (fun _ hq X=>hbf _) ?_|refine yan _ (fun _ hq X=>hbm _) ?_|fail)|refine zai ent0 i rfl (by omega) za0 e1 ?_|refine zai (.empty,.empty) (n-1) (by omega) (by omega) (zcy _) hlast ?_|refine zai ent0 r.toNat (by omega) hr2 za0 e2 ?_|refine zab [] ?_|fail)));conv=>whnf
      (refine ⟨⟨(i+1,r),⟨by show i+1≤b.ent.length;omega,hold hr rfl⟩,by omega,?_,.inr ?_,rfl,_,rfl,?_⟩⟩;rotate_left 2;exact .inr ⟨by simp [zau,below,zac,tr,zae,zah,zag,zam,zak,zal,zaf,zaw,zas,zax,zaq,za1,zan],by simp [za5,Blk.below,zac,below,zae,zah,zag,zam,zak,zal,zaf,zaw,zas,zax,zaq,za1,zan]⟩;all_goals (repeat' (first|exact trivial|refine ⟨⟨_,rfl,?_⟩,?_⟩|fail));all_goals exact yae _)
 ·obtain rfl:i=b.ent.length:=by omega
  obtain ⟨hb1,hb2⟩:=best_end hn hbest
  by_cases hr:r<0
  ·obtain rfl:=hb1 hr
   rw [ya2]
   (repeat' ((conv=>whnf);(first|(refine yai ?_;first|refine yar (by omega) ?_|refine zat (by omega) ?_|fail)|fail)));conv=>whnf
   exact ya1 (by simp [below,zac,zan]) (by exact wk_sl _ _ _)
  ·obtain ⟨hnl,hml,hkm⟩:=hb2 (by omega)
   have hfo:=fun ex H=>force_c b hs hv ex d H
   have hwo:=fun ex st H=>rWorks_c b he ex st d H
   have hsn:=take_snoc (keyS b d) (.empty,.empty) n hnl
   have hke:=key_total hb hnl
   have hfc:=rForce_sch hb.srt ((keyS b d).getD n (.empty,.empty)).1 d
   have hlat:(frcF b ((keyS b d).getD n (.empty,.empty)).1 d).lates.length≤1000000:=by
    have hf:=key_entry hb hnl
    unfold frcF
    cases hv2:za3 b ((keyS b d).getD n (.empty,.empty)).1 d with
    | none=>rw [hv2] at hf;cases hf
    | some v =>
      obtain ⟨s2,h1,-,h2,-⟩:=zf5 hv2
      exact hla s2 h1 v h2
   have hwl:(wksF b d ((keyS b d).getD n (.empty,.empty))).length≤1000000:=by
    have:=wks_len hb d ((keyS b d).getD n (.empty,.empty))
    omega
   have hto:=hto (frcF b ((keyS b d).getD n (.empty,.empty)).1 d) (wksF b d ((keyS b d).getD n (.empty,.empty))) hlat hwl
   rw [hke] at hto
   obtain ⟨stu,exe,day,wa,wb,wc,wd,hee⟩:=zc2 (b.ent.getD r.toNat ent0)
   have e1:=zbn hee
   rw [hee] at hkm
   have hk1:(keyS b d).getD n (.empty,.empty)=(exe,stu):=hkm.symm
   rw [hk1] at hto hfc hsn
   simp only at hto hfc
   have hfo:=fun H=>hfo exe H
   have hwo:=fun H=>hwo exe stu H
   rw [hfc] at hfo
   rw [selW_eq] at hwo
   have hns:((keyS b d).take (n+1)).flatMap (rowC (ptsF b d))=((keyS b d).take n).flatMap (rowC (ptsF b d))++[.str exe,.str stu,.int .i64 (ptsF b d (exe,stu))]:=by
    rw [hsn,ybt]
    simp [rowC]
   generalize (zdh b exe d).isSome=fs at *
   generalize wksF b d (exe,stu)=W at *
   generalize ptsF b d (exe,stu)=pt at *
   generalize frcF b exe d=sc at *
   obtain ⟨f2,f3,f4,f5,f6,f7,f8⟩:=sc
   unfold Sch.cells at hfo hto
   simp only at hfo hto
   rw [hcb] at hfo hwo
   have hbt:(n+1) * 40≤140737488355328:=by omega
   have hmx:n+1≤maxLen:=ybg (show n+1≤1000001 by omega) (by decide)
   (repeat' ((conv=>whnf);(first|refine zat (by omega) ?_|(refine yaf ?_ ?_;· first|kernel_rfl|omega|exact yaa _ _|fail)|refine yab _ (hfo _) ?_|(refine ycc ?_;first|refine yan _ (fun _ hq X=>hwo _) ?_|refine yan _ (fun _ hq X=>hto _) ?_|fail)|refine zai ent0 r.toNat (by omega) hml za0 e1 ?_|refine yaf ⟨rfl,rfl,rfl,hbt,hmx⟩ ?_|refine yb6 _ rfl ?_|refine zab [] ?_|fail)));conv=>whnf
   rw [← hns]
   (refine ⟨⟨n+1,by show n+1≤(keyS b d).length;omega,by omega,?_,.inr ?_,rfl,_,rfl,?_⟩⟩;rotate_left 2;exact .inr ⟨by simp [zau,below,zac,tr,zae,zah,zag,zam,zak,zal,zaf,zaw,zas,zax,zaq,za1,zan],by simp [za5,Blk.below,zac,below,zae,zah,zag,zam,zak,zal,zaf,zaw,zas,zax,zaq,za1,zan]⟩;all_goals (repeat' (first|exact trivial|refine ⟨⟨_,rfl,?_⟩,?_⟩|fail));all_goals exact yae _)
def eqR (p q:Ky→Int) (x y:Ky):Bool:=(x.1.toList==y.1.toList)&&((x.2.toList==y.2.toList)&&((p x==q y)&&true))
theorem eqR_row (p q:Ky→Int) (x y:Ky):eqR p q x y=eqRow p y.1 y.2 (q y) x:=by
 unfold eqR eqRow
 rw [yb5]
 simp only [yak,beq_iff_eq,and_true]
 constructor
 ·rintro ⟨h1,h2,h3⟩
  exact ⟨h1.symm,h2.symm,h3.symm⟩
 ·rintro ⟨h1,h2,h3⟩
  exact ⟨h1.symm,h2.symm,h3.symm⟩
theorem any_snoc {α:Type} (p:α→Bool) (l:List α) (d:α) (k:Nat) (h:k<l.length):(l.take (k+1)).any p=((l.take k).any p || p (l.getD k d)):=by
 rw [take_snoc l d k h,List.any_append]
 simp
def ky0:Ky:=(.empty,.empty)
theorem rChanges_k (cs:List AV) (n1:Nat) (c1:List AV) (n2:Nat) (c2:List AV) (hcs:cs=[.sl none n1 c1,.sl none n2 c2]) (hb1:∀ n,zac n c1) (hb2:∀ n,zac n c2) (d1 d2:Int) (l1 l2:List Ky) (p1 p2:Ky→Int) (h1:l1.length≤1000000) (h2:l2.length≤1000000)
  (r1:∀ H,VDet Tryz.prog 18 [.agg cs,.int .i64 d1] H (.sl none l1.length (l1.flatMap (rowC p1)))) (r2:∀ H,VDet Tryz.prog 18 [.agg cs,.int .i64 d2] H (.sl none l2.length (l2.flatMap (rowC p2)))) (H:Heap) :
  VDet Tryz.prog 19 [.agg cs,.int .i64 d1,.int .i64 d2] H (.sl none (l2.filter fun y=>!l1.any fun x=>eqR p1 p2 x y).length ((l2.filter fun y=>!l1.any fun x=>eqR p1 p2 x y).flatMap (rowC p2))):=by
 subst hcs
 refine zap Tryz.E0 zad Tryz.func19 (by kernel_rfl) rfl (ybv rfl) rfl fun hcl hbl=>?_
 (repeat' ((conv=>whnf);(first|refine yaf (by kernel_rfl) ?_|(refine ycc ?_;first|refine yan _ (fun _ hq X=>r1 _) ?_|refine yan _ (fun _ hq X=>r2 _) ?_|fail)|refine zab [] ?_|fail)));conv=>whnf
 refine LoopN.tok 9 120 3 rfl rfl rfl ?_
 refine zbg Tryz.E0 zad (σ:=Nat×List Ky) (fun p=>p.1≤l2.length∧p.2=(l2.take p.1).filter fun y=>!l1.any fun x=>eqR p1 p2 x y) (fun p=>l2.length-p.1) (fun p=>[(9,.v (.sl (some (H.length+1)) p.2.length (p.2.flatMap (rowC p2)))),(10,.v (.int .i64 p.1))]) (fun p=>[.box 31 [.sl none n1 c1,.sl none n2 c2],.tok 120 3 (p.2.flatMap (rowC p2)).length]) _ (0,[]) rfl hcl [7,8] rfl ⟨yah _,rfl⟩ ⟨⟨_,rfl,yae _⟩,⟨_,rfl,yae _⟩,trivial⟩ rfl (fun _ _=>rfl) ?_
 rintro ⟨i,W⟩ ⟨hi,hW⟩
 simp only at hi hW
 rcases yag i l2.length with hlt|hge
 ·have hle:W.length≤i:=by
    have h9:=List.length_filter_le (fun y=>!l1.any fun x=>eqR p1 p2 x y) (l2.take i)
    rw [← hW,yce] at h9
    omega
  have hsn:(l2.take (i+1)).filter (fun y=>!l1.any fun x=>eqR p1 p2 x y)=if l1.any (fun x=>eqR p1 p2 x (l2.getD i ky0))=true then W else W++[l2.getD i ky0]:=by
   rw [take_snoc l2 ky0 i hlt,List.filter_append,← hW]
   by_cases h:l1.any (fun x=>eqR p1 p2 x (l2.getD i ky0))=true
   ·rw [if_pos h,List.filter_cons_of_neg (by simp only [h];simp)]
    simp
   ·rw [if_neg h,List.filter_cons_of_pos (by simp only [h];simp)]
    rfl
  have e2:rowC p2 (l2.getD i ky0)=[.str (l2.getD i ky0).1,.str (l2.getD i ky0).2,.int .i64 (p2 (l2.getD i ky0))]:=rfl
  have heq:∀ x,eqR p1 p2 x (l2.getD i ky0)=((x.1.toList==(l2.getD i ky0).1.toList)&&((x.2.toList==(l2.getD i ky0).2.toList)&&((p1 x==p2 (l2.getD i ky0))&&true))):=fun x=>rfl
  have hns:(W++[l2.getD i ky0]).flatMap (rowC p2)=W.flatMap (rowC p2)++[.str (l2.getD i ky0).1,.str (l2.getD i ky0).2,.int .i64 (p2 (l2.getD i ky0))]:=by
   rw [ybt]
   simp [rowC]
  have hnl:(W++[l2.getD i ky0]).length=W.length+1:=by rw [ya5];rfl
  have hbr:=fun n=>zan n p2 (W++[l2.getD i ky0])
  generalize hy:l2.getD i ky0=y at *
  obtain ⟨y1,y2⟩:=y
  simp only at e2 heq hns
  generalize hy3:p2 (y1,y2)=y3 at *
  have e3:rowC p2 (l2.getD i ky0)=[.str y1,.str y2,.int .i64 y3]:=by rw [hy];exact e2
  (repeat' ((conv=>whnf);(first|refine yar (by omega) ?_|fail)));conv=>whnf
  refine zbg Tryz.E0 zad (σ:=Nat×Bool) (fun p=>p.1≤l1.length∧p.2=(l1.take p.1).any fun x=>eqR p1 p2 x (y1,y2)) (fun p=>l1.length-p.1) (fun p=>[(11,.v (.bool p.2)),(12,.v (.int .i64 p.1))]) (fun _=>_) _ (0,false) rfl hcl [7,8,9,10] rfl ⟨yah _,rfl⟩ ⟨⟨_,rfl,yae _⟩,⟨_,rfl,yae _⟩,trivial⟩ rfl (fun _ _=>rfl) ?_
  rintro ⟨j,s⟩ ⟨hj,hs⟩
  simp only at hj hs
  rcases yag j l1.length with hjl|hjg
  ·have hst:=any_snoc (fun x=>eqR p1 p2 x (y1,y2)) l1 ky0 j hjl
   rw [← hs,heq] at hst
   have e1:rowC p1 (l1.getD j ky0)=[.str (l1.getD j ky0).1,.str (l1.getD j ky0).2,.int .i64 (p1 (l1.getD j ky0))]:=rfl
   cases s with
   | true =>
     (repeat' ((conv=>whnf);(first|(refine yai ?_;first|refine yaq rfl ?_|refine yar (by omega) ?_|fail)|(refine zao _ _ Cst.h Cst.h ?_ ?_;· omega)|refine yaf (by kernel_rfl) ?_|refine zab [] ?_|fail)));conv=>whnf
     (refine ⟨⟨(j+1,true),⟨by show j+1≤l1.length;omega,by rw [hst,Bool.true_or]⟩,by omega,?_,.inr ?_,rfl,_,rfl,?_⟩⟩;rotate_left 2;exact .inl rfl;all_goals (repeat' (first|exact trivial|refine ⟨⟨_,rfl,?_⟩,?_⟩|fail));all_goals exact yae _)
   | false =>
     rw [Bool.false_or] at hst
     (repeat' ((conv=>whnf);(first|(refine yai ?_;first|refine yau rfl ?_|refine yar (by omega) ?_|fail)|(refine zao _ _ Cst.h Cst.h ?_ ?_;· omega)|(refine yaf ?_ ?_;· first|kernel_rfl|omega|exact yaa _ _|fail)|refine zai ky0 j rfl (by omega) (zcy _) e1 ?_|refine zai ky0 i rfl (by omega) (zcy _) e3 ?_|refine zab [] ?_|fail)));conv=>whnf
     (refine ⟨⟨(j+1,((l1.getD j ky0).1.toList==y1.toList)&&(((l1.getD j ky0).2.toList==y2.toList)&&((p1 (l1.getD j ky0)==y3)&&true))),⟨by show j+1≤l1.length;omega,hst.symm⟩,by omega,?_,.inr ?_,rfl,_,rfl,?_⟩⟩;rotate_left 2;exact .inl rfl;all_goals (repeat' (first|exact trivial|refine ⟨⟨_,rfl,?_⟩,?_⟩|fail));all_goals exact yae _)
  ·obtain rfl:j=l1.length:=by omega
   rw [ya2] at hs
   rw [← hs] at hsn
   have hbt:(W.length+1) * 40≤140737488355328:=by omega
   have hmx:W.length+1≤maxLen:=ybg (show W.length+1≤1000001 by omega) (by decide)
   cases s with
   | true =>
     rw [if_pos rfl] at hsn
     (repeat' ((conv=>whnf);(first|(refine yai ?_;first|refine yas ?_|refine yaq rfl ?_|refine zat (by omega) ?_|fail)|(refine zao _ _ Cst.h Cst.h ?_ ?_;· omega)|fail)));conv=>whnf
     (refine ⟨⟨(i+1,W),⟨by show i+1≤l2.length;omega,hsn.symm⟩,by omega,?_,.inr ?_,rfl,_,rfl,?_⟩⟩;rotate_left 2;exact .inl rfl;all_goals (repeat' (first|exact trivial|refine ⟨⟨_,rfl,?_⟩,?_⟩|fail));all_goals exact yae _)
   | false =>
     rw [if_neg (by simp)] at hsn
     (repeat' ((conv=>whnf);(first|(refine yai ?_;first|refine yas ?_|refine yau rfl ?_|refine zat (by omega) ?_|fail)|(refine zao _ _ Cst.h Cst.h ?_ ?_;· omega)|(refine yaf ?_ ?_;· first|omega|exact yaa _ _|fail)|refine zai ky0 i rfl (by omega) (zcy _) e3 ?_|refine yaf ⟨rfl,rfl,rfl,hbt,hmx⟩ ?_|refine yb6 _ rfl ?_|fail)));conv=>whnf
     rw [← hns,← hnl]
     (refine ⟨⟨(i+1,W++[(y1,y2)]),⟨by show i+1≤l2.length;omega,hsn.symm⟩,by omega,?_,.inr ?_,rfl,_,rfl,?_⟩⟩;rotate_left 2;exact .inl rfl;all_goals (repeat' (first|exact trivial|refine ⟨⟨_,rfl,?_⟩,?_⟩|fail));all_goals exact yae _)
 ·obtain rfl:i=l2.length:=by omega
  rw [ya2] at hW
  subst hW
  (repeat' ((conv=>whnf);(first|refine zat (by omega) ?_|fail)));conv=>whnf
  exact ya1 (by simp [below,zac,zan]) (by exact wk_sl _ _ _)
theorem wk_nils_sx:Wk .nils (.sx 0 []):=fun g w c h=>by
 simp only [VRel] at h ⊢
 exact ⟨none,h,.inl trivial⟩
theorem clone67_0 (H:Heap):VDet Tryz.prog 69 [.sl none 0 []] H (.sx 0 []):=by
 refine zap Tryz.E0 zad Tryz.func69 (by kernel_rfl) rfl (ybv rfl) rfl fun hcl hbl=>?_
 (repeat' ((conv=>whnf);(first|(refine yai ?_;first|refine yaq rfl ?_|refine yau rfl ?_|fail)|refine OrN.r (OrN.l (yaf rfl ?_))|refine AnyVN.nil (fun _=>?_) ?_|refine zab [] ?_|fail)));all_goals (conv=>whnf)
 all_goals exact ya1 (by simp [below,zac]) (by first|exact wk_nils_sx|(repeat' (first|exact trivial|refine ybz ?_ ?_|exact yae _|exact wk_sl _ _ _|exact wk_sx _ _|exact zbp|refine zbs ?_|refine zby ?_|fail));done)
theorem clone67_k (l:List Ent) (hl:l.length≤1000000) (h0:l≠[]) (H:Heap):VCall Tryz.prog 69 [.sl none l.length (l.flatMap Ent.cells)] H fun r H'=>r=.sl (some (H.length+0)) l.length (l.flatMap Ent.cells)∧H'=H++[.tok 80 7 (l.length * 7)]:=by
 have hpos:0<l.length:=List.length_pos_iff.2 h0
 have hb:(0+l.length) * 72≤140737488355328:=by omega
 have hm:0+l.length≤maxLen:=ybg (by omega) (show 1000000≤maxLen by decide)
 have hc:(l.flatMap Ent.cells).length=l.length * 7:=zav za0 l
 have hn:l.flatMap Ent.cells≠[]:=fun h=>by rw [h] at hc;simp at hc;omega
 have hbel:=zag H.length l
 generalize l.flatMap Ent.cells=c at *
 generalize l.length=n at *
 refine zfe Tryz.E0 zad Tryz.func69 (by kernel_rfl) rfl (ybv rfl) rfl fun hcl hbl=>?_
 (repeat' ((conv=>whnf);(first|refine yau rfl ?_|refine AnyVN.nil (fun h=>absurd h hn) ?_|refine OrN.l ?_|refine yaf ⟨hpos,rfl,hc,hb,hm⟩ ?_|refine zab [] ?_|fail)));all_goals (conv=>whnf)
 rw [ydg,ybr]
 exact .keep _ (.refl _) ⟨rfl,by rw [hc]⟩
theorem clone67_c (l:List Ent) (hl:l.length≤1000000) (H:Heap):VDet Tryz.prog 69 [.sl none l.length (l.flatMap Ent.cells)] H (.sl none l.length (l.flatMap Ent.cells)):=by
 by_cases h0:l=[]
 ·subst h0
  refine zap Tryz.E0 zad Tryz.func69 (by kernel_rfl) rfl (ybv rfl) rfl fun hcl hbl=>?_
  (repeat' ((conv=>whnf);(first|(refine yai ?_;first|refine yaq rfl ?_|refine yau rfl ?_|fail)|refine OrN.r (OrN.l (yaf rfl ?_))|refine AnyVN.nil (fun _=>?_) ?_|refine zab [] ?_|fail)));all_goals (conv=>whnf)
  all_goals exact ya1 (by simp [below,zac]) (by (repeat' (first|exact trivial|refine ybz ?_ ?_|exact yae _|exact wk_sl _ _ _|exact wk_sx _ _|exact zbp|refine zbs ?_|refine zby ?_|fail));done)
 ·have hpos:0<l.length:=List.length_pos_iff.2 h0
  have hb:(0+l.length) * 72≤140737488355328:=by omega
  have hm:0+l.length≤maxLen:=ybg (by omega) (show 1000000≤maxLen by decide)
  have hc:(l.flatMap Ent.cells).length=l.length * 7:=zav za0 l
  have hn:l.flatMap Ent.cells≠[]:=fun h=>by rw [h] at hc;simp at hc;omega
  have hbel:=zag H.length l
  generalize l.flatMap Ent.cells=c at *
  generalize l.length=n at *
  refine zap Tryz.E0 zad Tryz.func69 (by kernel_rfl) rfl (ybv rfl) rfl fun hcl hbl=>?_
  (repeat' ((conv=>whnf);(first|refine yau rfl ?_|refine AnyVN.nil (fun h=>absurd h hn) ?_|refine OrN.l ?_|refine yaf ⟨hpos,rfl,hc,hb,hm⟩ ?_|refine zab [] ?_|fail)));all_goals (conv=>whnf)
  rw [ydg,ybr]
  exact ya1 ⟨fun _ e=>(nomatch e),hbel⟩ (wk_sl _ _ _)
def chC (l:List Ser) (q t:Nat):List AV:=[.str (l.getD q ser0).name,.sl (some t) (l.getD q ser0).vers.length ((l.getD q ser0).vers.flatMap Ver.cells)]
def cpyL (l:List Ser) (q t k:Nat):List AV:=if k≤q then (l.take k).flatMap Ser.cells else (l.take q).flatMap Ser.cells++(chC l q t++((l.take k).drop (q+1)).flatMap Ser.cells)
def cpyX (l:List Ser) (q n0 k:Nat):Heap:=if k≤q then [] else [.box 69 (l.getD q ser0).cells,.box 69 (chC l q (n0+6)),.tok 71 8 ((l.getD q ser0).vers.length * 8)]
theorem cpyL_len {l:List Ser} {q t k:Nat} (hk:k≤l.length):(cpyL l q t k).length=k * 2:=by
 unfold cpyL
 split
 ·rw [zav zaz,yce,ycd hk]
 ·rw [ya5,ya5,zav zaz,zav zaz,List.length_drop,yce,yce]
  simp only [chC,List.length_cons,List.length_nil]
  omega
theorem cpyL_lt {l:List Ser} {q t k:Nat} (h:k<q) (hk:k<l.length):cpyL l q t (k+1)=cpyL l q t k++(l.getD k ser0).cells:=by
 unfold cpyL
 rw [if_pos (by omega),if_pos (by omega),take_snoc l ser0 k hk]
 simp
theorem cpyL_eq {l:List Ser} {q t:Nat}:cpyL l q t (q+1)=cpyL l q t q++chC l q t:=by
 unfold cpyL
 rw [if_neg (by omega),if_pos (by omega),List.drop_eq_nil_of_le (by rw [yce];omega)]
 simp
theorem cpyL_gt {l:List Ser} {q t k:Nat} (h:q<k) (hk:k<l.length):cpyL l q t (k+1)=cpyL l q t k++(l.getD k ser0).cells:=by
 unfold cpyL
 rw [if_neg (by omega),if_neg (by omega),take_snoc l ser0 k hk,List.drop_append_of_le_length (by rw [yce];omega)]
 simp
theorem cpyL_below (n:Nat) (l:List Ser) (q t k:Nat) (h:k≤q∨t<n):zac n (cpyL l q t k):=by
 unfold cpyL
 split
 ·exact zae _ _
 ·have ht:t<n:=by omega
  refine (zaq _ _).2 ⟨zae _ _,(zaq _ _).2 ⟨?_,zae _ _⟩⟩
  refine ⟨trivial,⟨fun u e=>?_,zah _ _⟩,trivial⟩
  cases e
  exact ht
def cpyK (b:Bk) (q n0 k:Nat) (r:List AV):Heap:=[.box 25 b.cells,.box 25 r,.box 25 [.vs (n0+3) k,.sl none b.ent.length (b.ent.flatMap Ent.cells)],.vec 69 2 (cpyL b.ser q (n0+6) k)]++cpyX b.ser q n0 k
theorem cpyK_below (b:Bk) (q n0 k:Nat):za5 (n0+(cpyK b q n0 k [.nils,.nils]).length) (cpyK b q n0 k [.nils,.nils]):=by
 have hl:(cpyK b q n0 k [.nils,.nils]).length=4+(cpyX b.ser q n0 k).length:=by simp [cpyK];omega
 rw [hl]
 have ht:k≤q∨n0+6<n0+(4+(cpyX b.ser q n0 k).length):=by
  by_cases h:k≤q
  ·exact .inl h
  ·refine .inr ?_
   unfold cpyX
   rw [if_neg h]
   simp
 refine ⟨?_,?_,?_,cpyL_below _ _ _ _ _ ht,?_⟩
 ·simp [Blk.below,zac,below,Bk.cells,zae,zag]
 ·simp [Blk.below,zac,below]
 ·simp [Blk.below,zac,below,zag]
  omega
 ·unfold cpyX at ht ⊢
  by_cases h:k≤q
  ·rw [if_pos h];trivial
  ·rw [if_neg h] at ht ⊢
   refine ⟨zak _ _,⟨trivial,⟨fun u e=>?_,zah _ _⟩,trivial⟩,trivial,trivial⟩
   cases e
   exact ht.resolve_left h
theorem cpyK_set (H:Heap) (b:Bk) (q k:Nat) (r:List AV) (V B:Blk):((H++cpyK b q H.length k r).set (H.length+3) V).set (H.length+(0+1+1)) B=H++([.box 25 b.cells,.box 25 r,B,V]++cpyX b.ser q H.length k):=by
 unfold cpyK
 rw [zb8,zb8]
 rfl
theorem copyBook_c (b:Bk) (hb:b.Sm) (hs:b.ser.length≤1000) (he:b.ent.length≤1000000) (hv:∀ s∈b.ser,s.vers.length≤1000000∧∀ v∈s.vers,v.sch.lates.length≤1000000) (q:Nat) (H:Heap):VCall Tryz.prog 49 [.agg b.cells] H fun r H'=>r=.agg [.vs (H.length+3) b.ser.length,.sl none b.ent.length (b.ent.flatMap Ent.cells)]∧H'=H++cpyK b q H.length b.ser.length [.vs (H.length+3) b.ser.length,.sl none b.ent.length (b.ent.flatMap Ent.cells)]:=by
 have hcl67:=fun H=>clone67_c b.ent he H
 have hcb:b.cells=[.sl none b.ser.length (b.ser.flatMap Ser.cells),.sl none b.ent.length (b.ent.flatMap Ent.cells)]:=rfl
 have hL0:([.box 25 [.sl none b.ser.length (b.ser.flatMap Ser.cells),.sl none b.ent.length (b.ent.flatMap Ent.cells)],.box 25 [.nils,.nils],.box 25 [.vs (H.length+3) 0,.sl none b.ent.length (b.ent.flatMap Ent.cells)],.vec 69 2 []]:Heap)=cpyK b q H.length 0 [.nils,.nils]:=rfl
 refine zfe Tryz.E0 zad Tryz.func49 (by kernel_rfl) rfl (ybv rfl) rfl fun hcl hbl=>?_
 rw [hcb]
 (repeat' ((conv=>whnf);(first|refine yab _ (hcl67 _) ?_|refine zab [] ?_|fail)));all_goals (conv=>whnf)
 refine LoopN.vecB 2 0 69 2 rfl rfl rfl rfl rfl rfl ?_
 refine loop_X Tryz.E0 zad (σ:=Nat) (fun k=>k≤b.ser.length) (fun k=>b.ser.length-k) (fun k=>[(16,.v (.int .i64 k))]) (fun k=>cpyK b q H.length k [.nils,.nils]) _ 0 rfl hcl [2,3,14,15] rfl (yah _) ⟨⟨_,rfl,yae _⟩,trivial⟩ hL0 (fun s _=>by simp [cpyK,cpyX]) ?_
 intro k hk
 rcases yag k b.ser.length with hlt|hge
 ·obtain ⟨nm,vs,hv1⟩:=zdz (b.ser.getD k ser0)
  have e1:=zbz hv1
  have hvb:=hv _ (zbb ser0 hlt)
  rw [hv1] at hvb
  simp only at hvb
  obtain ⟨hvl,hlat⟩:=hvb
  have hn1:(cpyK b q H.length k [.nils,.nils]).length=(cpyK b q H.length k [.nils,.nils]).length:=rfl
  generalize hNL:(cpyK b q H.length k [.nils,.nils]).length=NL at hn1
  have hm3:(H++cpyK b q H.length k [.nils,.nils])[H.length+3]? = some (.vec 69 2 (cpyL b.ser q (H.length+6) k)):=zbk rfl
  have hm2:(H++cpyK b q H.length k [.nils,.nils])[H.length+2]? = some (.box 25 [.vs (H.length+3) k,.sl none b.ent.length (b.ent.flatMap Ent.cells)]):=zbk rfl
  have hm2b:∀ M,((H++cpyK b q H.length k [.nils,.nils]).set (H.length+3) M)[H.length+2]? = some (.box 25 [.vs (H.length+3) k,.sl none b.ent.length (b.ent.flatMap Ent.cells)]):=fun M=>by
   rw [ydb (by omega),hm2]
  have hbt:(k+1) * 40≤140737488355328:=by omega
  have hmx:k+1≤maxLen:=ybg (show k+1≤1000001 by omega) (by decide)
  (repeat' ((conv=>whnf);(first|refine yar (by omega) ?_|(refine yaf ?_ ?_;· first|kernel_rfl|omega|exact yaa _ _|(simp;done)|(simp;omega)|exact trivial|assumption|fail)|refine zai ser0 k rfl (by omega) zaz e1 ?_|refine zab [] ?_|fail)));all_goals (conv=>whnf)
  refine LoopN.tokB 1 1 71 8 (by rw [ya5,hNL]) rfl rfl rfl rfl rfl ?_
  have hw0:Wk (.sl (some (H.length+NL+2)) 0 []) (.sl (some (H.length+NL+2)) 0 []):=.refl _
  refine zbg Tryz.E0 zad (σ:=Nat) (fun i=>i≤vs.length) (fun i=>vs.length-i) (fun i=>[(26,.v (.int .i64 i))]) (fun i=>[.box 69 [.str nm,.sl none vs.length (vs.flatMap Ver.cells)],.box 69 [.str nm,.sl (some (H.length+NL+2)) i ((vs.take i).flatMap Ver.cells)],.tok 71 8 ((vs.take i).flatMap Ver.cells).length]) _ 0 (by rw [ya5,hNL]) (zex hcl fun B hB=>by
   rw [ya5]
   exact zc9 (cpyK_below b q H.length k) B hB) [2,3,5,6,14,15,16,24,25] rfl (yah _) ⟨⟨_,rfl,yae _⟩,trivial⟩ rfl (fun _ _=>rfl) ?_
  intro i hi
  rcases yag i vs.length with hil|hige
  ·have hvt:=take_snoc vs ver0 i hil
   obtain ⟨at_,pts,part,att,rty,hnt,cnt,lates,hv2⟩:=zcr (vs.getD i ver0)
   have e2:=zbl hv2
   have hns:(vs.take (i+1)).flatMap Ver.cells=(vs.take i).flatMap Ver.cells++(vs.getD i ver0).cells:=by
    rw [hvt,ybt]
    simp
   rw [e2] at hns
   have hco:=fun H=>copyS_c ⟨pts,part,att,rty,hnt,cnt,lates⟩ (by
    have:=hlat _ (zbb ver0 hil)
    rw [hv2] at this
    exact this) H
   unfold Sch.cells at hco
   simp only at hco
   have hbt:(i+1) * 80≤140737488355328:=by omega
   have hmx:i+1≤maxLen:=ybg (show i+1≤1000001 by omega) (by decide)
   have hml:((vs.take i).flatMap Ver.cells).length=i * 8:=by rw [zav zbf,yce,ycd hi]
   (repeat' ((conv=>whnf);(first|refine yar (by omega) ?_|(refine zao _ _ Cst.h Cst.h ?_ ?_;· omega)|(refine yaf ?_ ?_;· first|kernel_rfl|omega|exact yaa _ _|(simp;done)|(simp;omega)|exact trivial|assumption|fail)|refine yan _ (fun _ hq X=>hco _) ?_|refine zai ver0 i rfl (by omega) zbf e2 ?_|refine yaf ⟨rfl,rfl,rfl,hbt,hmx⟩ ?_|refine yb6 _ rfl ?_|refine zab [] ?_|fail)));all_goals (conv=>whnf)
   rw [← hns]
   (refine ⟨⟨i+1,by show i+1≤_;omega,by omega,?_,.inl ⟨rfl,rfl⟩,rfl,_,rfl,?_⟩⟩;rotate_left 1;(first|exact .inl rfl|exact .inr ⟨by simp [zau,below,zac,tr,zae,zah,zag,zam,zak,zal,zaf,za8,za7,zan],by simp [za5,Blk.below,zac,below,zae,zah,zag,zam,zak,zal,zaf,za8,za7,zan]⟩|fail);(repeat' (first|exact trivial|refine ⟨⟨_,rfl,?_⟩,?_⟩|fail));all_goals try (first|exact yae _|exact Wk.of_eq (congrArg (AV.int _) (by omega))|fail))
  ·have hie:i=vs.length:=by omega
   subst hie
   rw [ya2]
   have hvk:((k:Int)+((1:Nat):Int))=((k+1:Nat):Int):=rfl
   (repeat' ((conv=>whnf);(first|refine zat (by omega) ?_|(refine zao _ _ Cst.h Cst.h ?_ ?_;· omega)|refine SetN.mk _ rfl ?_|refine yb9 _ hm2 ?_|refine yb9 _ hm3 ?_|refine yb9 _ (hm2b _) ?_|refine yaf ⟨cpyL_len hk,rfl,rfl,hbt,hmx⟩ ?_|refine zab [] ?_|fail)));all_goals (conv=>whnf)
   rw [show (cpyL b.ser q (H.length+6) k++[AV.str nm,AV.sl (some (H.length+NL+2)) vs.length (vs.flatMap Ver.cells)])=cpyL b.ser q (H.length+6) k++[AV.str nm,AV.sl (some (H.length+NL+2)) vs.length (vs.flatMap Ver.cells)] from rfl,cpyK_set]
   by_cases hkq:k=q
   ·subst hkq
    have hN4:NL=4:=by rw [← hNL];simp [cpyK,cpyX]
    subst hN4
    refine ⟨⟨k+1,by show k+1≤_;omega,by show b.ser.length-(k+1)<b.ser.length-k;omega,⟨⟨_,rfl,yae _⟩,trivial⟩,.inr ⟨⟨_,rfl,yae _⟩,⟨_,rfl,yae _⟩,⟨_,rfl,yae _⟩,⟨_,rfl,yae _⟩,trivial⟩,[],.of_eq ?_,.inl rfl⟩⟩
    have hch:chC b.ser k (H.length+6)=[.str nm,.sl (some (H.length+4+2)) vs.length (vs.flatMap Ver.cells)]:=by unfold chC;rw [hv1]
    have hx1:cpyX b.ser k H.length k=[]:=by unfold cpyX;rw [if_pos (yax _)]
    have hx2:cpyX b.ser k H.length (k+1)=[.box 69 [.str nm,.sl none vs.length (vs.flatMap Ver.cells)],.box 69 [.str nm,.sl (some (H.length+4+2)) vs.length (vs.flatMap Ver.cells)],.tok 71 8 (vs.flatMap Ver.cells).length]:=by
     unfold cpyX
     rw [if_neg (by omega),hch,hv1,zav zbf]
     rfl
    unfold cpyK
    rw [hx1,hx2,cpyL_eq,hch]
    simp
   ·have hx:cpyX b.ser q H.length (k+1)=cpyX b.ser q H.length k:=by
      unfold cpyX
      by_cases h:k≤q
      ·rw [if_pos h,if_pos (by omega)]
      ·rw [if_neg h,if_neg (by omega)]
    have hcl:cpyL b.ser q (H.length+6) (k+1)=cpyL b.ser q (H.length+6) k++[.str nm,.sl none vs.length (vs.flatMap Ver.cells)]:=by
     rw [← e1]
     by_cases h:k≤q
     ·exact cpyL_lt (by omega) hlt
     ·exact cpyL_gt (by omega) hlt
    refine ⟨⟨k+1,by show k+1≤_;omega,by show b.ser.length-(k+1)<b.ser.length-k;omega,⟨⟨_,rfl,yae _⟩,trivial⟩,.inr ⟨⟨_,rfl,yae _⟩,⟨_,rfl,yae _⟩,⟨_,rfl,yae _⟩,⟨_,rfl,yae _⟩,trivial⟩,_,.app (.app (.refl H) ?_) (.refl _),.inr ⟨by simp [zau,below,tr],cpyK_below b q H.length (k+1)⟩⟩⟩
    simp only [cpyK]
    rw [hx,hcl]
    exact .app (.cons (.refl _) (.cons (.refl _) (.cons (.refl _) (.cons (.vec (.app (.id _) ⟨yae _,wk_sl _ _ _,trivial⟩)) .nil)))) (.refl _)
 ·have hkn:k=b.ser.length:=by omega
  subst hkn
  (repeat' ((conv=>whnf);(first|refine zat (by omega) ?_|refine zab [] ?_|fail)));all_goals (conv=>whnf)
  refine zhm _ [(2,.lp 1 0),(3,.lp 2 0),(14,.v (.sl none b.ser.length (b.ser.flatMap Ser.cells))),(15,.v (.int .i64 b.ser.length))] rfl rfl rfl ?_
  (repeat' ((conv=>whnf);(first|refine zab [] ?_|fail)));all_goals (conv=>whnf)
  refine .keep _ (.refl _) ⟨rfl,?_⟩
  simp [cpyK,List.set]
def gvL (b:Bk) (n0 k:Nat):Heap:=[.box 25 b.cells,.box 31 [.nils,.nils],.box 31 [.vs (n0+3) k,.nils],.vec 83 2 ((b.ser.take k).flatMap Ser.cells)]
theorem zhj (n:Nat) (b:Bk):zac n b.cells:=by simp [Bk.cells,zac,below,zae,zag]
theorem gvL_len (b:Bk) (n0 k:Nat):(gvL b n0 k).length=4:=rfl
theorem gvL_below (b:Bk) (n0 k:Nat):za5 (n0+4) (gvL b n0 k):=by
 refine ⟨?_,?_,?_,zae _ _,trivial⟩
 ·simp [Blk.below,zac,below,Bk.cells,zae,zag]
 ·simp [Blk.below,zac,below]
 ·simp [Blk.below,zac,below]
theorem gvL_set (H:Heap) (b:Bk) (k:Nat) (V B:Blk):((H++gvL b H.length k).set (H.length+3) V).set (H.length+(0+1+1)) B=H++[.box 25 b.cells,.box 31 [.nils,.nils],B,V]:=by
 unfold gvL
 rw [zb8,zb8]
 rfl
theorem given38_c (b:Bk) (hs:b.ser.length≤1000) (he:b.ent.length≤1000000) (hv:∀ s∈b.ser,s.vers.length≤1000000∧∀ v∈s.vers,v.sch.lates.length≤1000) (H:Heap):VDet Tryz.prog 6 [.agg b.cells] H (.agg b.cells):=by
 have hcb:b.cells=[.sl none b.ser.length (b.ser.flatMap Ser.cells),.sl none b.ent.length (b.ent.flatMap Ent.cells)]:=rfl
 have hL0:([.box 25 [.sl none b.ser.length (b.ser.flatMap Ser.cells),.sl none b.ent.length (b.ent.flatMap Ent.cells)],.box 31 [.nils,.nils],.box 31 [.vs (H.length+3) 0,.nils],.vec 83 2 []]:Heap)=gvL b H.length 0:=rfl
 refine zap Tryz.E0 zad Tryz.func6 (by kernel_rfl) rfl (ybv rfl) rfl fun hcl hbl=>?_
 rw [hcb]
 conv=>whnf
 refine LoopN.vecB 2 0 83 2 rfl rfl rfl rfl rfl rfl ?_
 refine loop_X Tryz.E0 zad (σ:=Nat) (fun k=>k≤b.ser.length) (fun k=>b.ser.length-k) (fun k=>[(14,.v (.int .i64 k))]) (fun k=>gvL b H.length k) _ 0 rfl hcl [1,2,3,12,13] rfl (yah _) ⟨⟨_,rfl,yae _⟩,trivial⟩ hL0 (fun s _=>by simp [gvL]) ?_
 intro k hk
 rcases yag k b.ser.length with hlt|hge
 ·obtain ⟨nm,vs,hv1⟩:=zdz (b.ser.getD k ser0)
  have e1:=zbz hv1
  have hvb:=hv _ (zbb ser0 hlt)
  rw [hv1] at hvb
  simp only at hvb
  obtain ⟨hvl,hlat⟩:=hvb
  have hm3:(H++gvL b H.length k)[H.length+3]? = some (.vec 83 2 ((b.ser.take k).flatMap Ser.cells)):=zbk rfl
  have hm2:(H++gvL b H.length k)[H.length+2]? = some (.box 31 [.vs (H.length+3) k,.nils]):=zbk rfl
  have hm2b:∀ M,((H++gvL b H.length k).set (H.length+3) M)[H.length+2]? = some (.box 31 [.vs (H.length+3) k,.nils]):=fun M=>by
   rw [ydb (by omega),hm2]
  have hcl3:((b.ser.take k).flatMap Ser.cells).length=k * 2:=by rw [zav zaz,yce,ycd hk]
  have hbt:(k+1) * 40≤140737488355328:=by omega
  have hmx:k+1≤maxLen:=ybg (show k+1≤1000001 by omega) (by decide)
  have hbl4:(H++gvL b H.length k).length=H.length+4:=by rw [ya5];rfl
  (repeat' ((conv=>whnf);(first|refine yar (by omega) ?_|(refine yaf ?_ ?_;· first|omega|exact yaa _ _|fail)|refine zai ser0 k rfl (by omega) zaz e1 ?_|fail)));conv=>whnf
  refine LoopN.tokB 1 1 86 8 hbl4 rfl rfl rfl rfl rfl ?_
  refine zbg Tryz.E0 zad (σ:=Nat) (fun i=>i≤vs.length) (fun i=>vs.length-i) (fun i=>[(24,.v (.int .i64 i))]) (fun i=>[.box 69 [.str nm,.sl none vs.length (vs.flatMap Ver.cells)],.box 83 [.str nm,.sl (some (H.length+4+2)) i ((vs.take i).flatMap Ver.cells)],.tok 86 8 ((vs.take i).flatMap Ver.cells).length]) _ 0 hbl4 (zex hcl fun B hB=>by
   rw [hbl4]
   exact zc9 (gvL_below b H.length k) B hB) [1,2,3,6,12,13,14,22,23] rfl (yah _) ⟨⟨_,rfl,yae _⟩,trivial⟩ rfl (fun _ _=>rfl) ?_
  intro i hi
  rcases yag i vs.length with hil|hige
  ·have hvt:=take_snoc vs ver0 i hil
   obtain ⟨at_,pts,part,att,rty,hnt,cnt,lates,hv2⟩:=zcr (vs.getD i ver0)
   have e2:=zbl hv2
   have hns:(vs.take (i+1)).flatMap Ver.cells=(vs.take i).flatMap Ver.cells++(vs.getD i ver0).cells:=by
    rw [hvt,ybt]
    simp
   rw [e2] at hns
   have hco:=fun H=>given_c ⟨pts,part,att,rty,hnt,cnt,lates⟩ (by
    have:=hlat _ (zbb ver0 hil)
    rw [hv2] at this
    exact this) H
   unfold Sch.cells at hco
   simp only at hco
   have hbt:(i+1) * 80≤140737488355328:=by omega
   have hmx:i+1≤maxLen:=ybg (show i+1≤1000001 by omega) (by decide)
   have hml:((vs.take i).flatMap Ver.cells).length=i * 8:=by rw [zav zbf,yce,ycd hi]
   (repeat' ((conv=>whnf);(first|refine yar (by omega) ?_|(refine zao _ _ Cst.h Cst.h ?_ ?_;· omega)|(refine yaf ?_ ?_;· first|kernel_rfl|omega|exact yaa _ _|fail)|refine yan _ (fun _ hq X=>hco _) ?_|refine zai ver0 i rfl (by omega) zbf e2 ?_|refine yaf ⟨rfl,rfl,rfl,hbt,hmx⟩ ?_|refine yb6 _ rfl ?_|refine zab [] ?_|fail)));conv=>whnf
   rw [← hns]
   (refine ⟨⟨i+1,by show i+1≤_;omega,by omega,?_,.inl ⟨rfl,rfl⟩,rfl,_,rfl,?_⟩⟩;rotate_left 1;exact .inr ⟨by simp [zau,below,zac,tr,zae,zah,zag,zam,zak,zal,zaf,zaq,gvL_len,zhj],by simp [za5,Blk.below,zac,below,zae,zah,zag,zam,zak,zal,zaf,zaq,gvL_len,zhj]⟩;exact ⟨⟨_,rfl,yae _⟩,trivial⟩)
  ·have hie:i=vs.length:=by omega
   subst hie
   rw [ya2]
   (repeat' ((conv=>whnf);(first|refine zat (by omega) ?_|(refine zao _ _ Cst.h Cst.h ?_ ?_;· omega)|refine SetN.mk _ rfl ?_|refine yb9 _ hm2 ?_|refine yb9 _ hm3 ?_|refine yb9 _ (hm2b _) ?_|refine yaf ⟨hcl3,rfl,rfl,hbt,hmx⟩ ?_|fail)));conv=>whnf
   have hcl4:(b.ser.take (k+1)).flatMap Ser.cells=(b.ser.take k).flatMap Ser.cells++[.str nm,.sl none vs.length (vs.flatMap Ver.cells)]:=by
    rw [take_snoc b.ser ser0 k hlt,ybt,← e1]
    simp
   rw [gvL_set]
   refine ⟨⟨k+1,by show k+1≤_;omega,by show b.ser.length-(k+1)<b.ser.length-k;omega,⟨⟨_,rfl,yae _⟩,trivial⟩,.inr ⟨⟨_,rfl,yae _⟩,⟨_,rfl,yae _⟩,⟨_,rfl,yae _⟩,⟨_,rfl,yae _⟩,⟨_,rfl,yae _⟩,trivial⟩,_,.app (.app (.refl H) ?_) (.refl _),.inr ⟨by simp [zau,below,tr],gvL_below b H.length (k+1)⟩⟩⟩
   simp only [gvL]
   rw [hcl4]
   exact .cons (.refl _) (.cons (.refl _) (.cons (.refl _) (.cons (.vec (.app (.id _) ⟨yae _,wk_sl _ _ _,trivial⟩)) .nil)))
 ·have hkn:k=b.ser.length:=by omega
  subst hkn
  (repeat' ((conv=>whnf);(first|refine zat (by omega) ?_|fail)));conv=>whnf
  refine zhm _ [(1,.lp 0 0),(2,.lp 1 0),(3,.lp 2 0),(12,.v (.sl none b.ser.length (b.ser.flatMap Ser.cells))),(13,.v (.int .i64 b.ser.length))] rfl rfl rfl ?_
  conv=>whnf
  refine LoopN.tokB 2 1 89 7 rfl rfl rfl rfl rfl rfl ?_
  refine zbg Tryz.E0 zad (σ:=Nat) (fun i=>i≤b.ent.length) (fun i=>b.ent.length-i) (fun i=>[(50,.v (.int .i64 i))]) (fun i=>[.box 25 b.cells,.box 31 [.nils,.nils],.box 31 [.vs (H.length+3) b.ser.length,.sl (some (H.length+4)) i ((b.ent.take i).flatMap Ent.cells)],.vec 83 2 ((b.ser.take b.ser.length).flatMap Ser.cells),.tok 89 7 ((b.ent.take i).flatMap Ent.cells).length]) _ 0 rfl hcl [2,3,48,49] rfl (yah _) ⟨⟨_,rfl,yae _⟩,trivial⟩ rfl (fun _ _=>rfl) ?_
  intro i hi
  rcases yag i b.ent.length with hil|hige
  ·have hvt:=take_snoc b.ent ent0 i hil
   obtain ⟨stu,exe,day,wa,wb,wc,wd,hee⟩:=zc2 (b.ent.getD i ent0)
   have e2:=zbn hee
   have hns:(b.ent.take (i+1)).flatMap Ent.cells=(b.ent.take i).flatMap Ent.cells++(b.ent.getD i ent0).cells:=by
    rw [hvt,ybt]
    simp
   rw [e2] at hns
   have hbt:(i+1) * 72≤140737488355328:=by omega
   have hmx:i+1≤maxLen:=ybg (show i+1≤1000001 by omega) (by decide)
   (repeat' ((conv=>whnf);(first|refine yar (by omega) ?_|(refine zao _ _ Cst.h Cst.h ?_ ?_;· omega)|(refine yaf ?_ ?_;· first|omega|exact yaa _ _|fail)|refine zai ent0 i rfl (by omega) za0 e2 ?_|refine yaf ⟨rfl,rfl,rfl,hbt,hmx⟩ ?_|refine yb6 _ rfl ?_|fail)));conv=>whnf
   rw [← hns]
   (refine ⟨⟨i+1,by show i+1≤_;omega,by omega,?_,.inl ⟨rfl,rfl⟩,rfl,_,rfl,?_⟩⟩;rotate_left 1;exact .inr ⟨by simp [zau,below,zac,tr,zae,zah,zag,zam,zak,zal,zaf,zaq,gvL_len,zhj],by simp [za5,Blk.below,zac,below,zae,zah,zag,zam,zak,zal,zaf,zaq,gvL_len,zhj]⟩;exact ⟨⟨_,rfl,yae _⟩,trivial⟩)
  ·have hie:i=b.ent.length:=by omega
   subst hie
   rw [ya2,ya2]
   have hls:(b.ser.flatMap Ser.cells).length=b.ser.length * 2:=zav zaz _
   (repeat' ((conv=>whnf);(first|refine zat (by omega) ?_|fail)));conv=>whnf
   exact ydc (by simp [below,zac,zae,zag]) (.agg (.cons (.vs rfl hls (yda _)) (.cons (.sl (yda _)) .nil))) (yae _)
theorem clone55_o (l:List (Int×Int)) (h0:l≠[]) (hl:l.length≤1000000) (H:Heap):VCall Tryz.prog 55 [.sl none l.length (l.flatMap encP)] H fun r H'=>∃ z,r=.ms H.length 0 l.length∧H'=H++[.box 63 (l.flatMap encP++List.replicate z .junk)]:=by
 have hpos:0<l.length:=List.length_pos_iff.2 h0
 have hb:(0+l.length) * 16≤140737488355328:=by omega
 have hm:0+l.length≤maxLen:=ybg (by omega) (show 1000000≤maxLen by decide)
 have hc:=encP_len l
 have hn:l.flatMap encP≠[]:=fun h=>h0 (encP_nil h)
 have hbel:=zaf H.length l
 generalize l.flatMap encP=c at *
 generalize l.length=n at *
 refine zfe Tryz.E0 zad Tryz.func55 (by kernel_rfl) rfl (ybv rfl) rfl fun hcl hbl=>?_
 (repeat' ((conv=>whnf);(first|refine yau rfl ?_|refine AnyVN.nil (fun h=>absurd h hn) ?_|refine OrN.r (OrN.r (OrN.l ?_))|refine yaf ⟨hpos,rfl,hc,hb,hm⟩ ?_|fail)));conv=>whnf
 refine BlkUN.box fun s=>?_
 rw [ydg,ybr]
 conv=>whnf
 exact EndN.keep _ (yae _) ⟨s,rfl,rfl⟩
def ownC (s:Sch) (p:Nat):List AV:=[.int .i64 s.pts,.int .i64 s.part,.ms p 0 s.lates.length,.int .i64 s.att,.int .i64 s.rty,.int .i64 s.hnt,.int .u8 s.cnt]
theorem copyS_o (s:Sch) (h0:s.lates≠[]) (hl:s.lates.length≤1000000) (H:Heap):VCall Tryz.prog 32 [.agg s.cells] H fun r H'=>∃ z,r=.agg (ownC s (H.length+2))∧H'=H++[.box 36 (ownC s (H.length+2)),.box 36 (ownC s (H.length+2)),.box 63 (s.lates.flatMap encP++List.replicate z .junk)]:=by
 have hc:∀ B1 B2,VCall Tryz.prog 55 [.sl none s.lates.length (s.lates.flatMap encP)] (H++[B1,B2]) fun r H'=>∃ z,r=.ms (H.length+2) 0 s.lates.length∧H'=(H++[B1,B2])++[.box 63 (s.lates.flatMap encP++List.replicate z .junk)]:=fun B1 B2=>by
  have:=clone55_o s.lates h0 hl (H++[B1,B2])
  rw [ya5] at this
  exact this
 obtain ⟨pts,part,att,rty,hnt,cnt,lates⟩:=s
 unfold Sch.cells ownC
 simp only at hc ⊢
 generalize lates.flatMap encP=c at *
 generalize lates.length=n at *
 refine zfe Tryz.E0 zad Tryz.func32 (by kernel_rfl) rfl (ybv rfl) rfl fun hcl hbl=>?_
 (repeat' ((conv=>whnf);(first|refine CallN.more (fun _=>AV.ms (H.length+2) 0 n) (fun z=>[Blk.box 63 (c++List.replicate z AV.junk)]) (hc _ _) rfl _ (fun _=>rfl) 3 (fun _=>rfl) fun z=>?_|fail)));conv=>whnf
 refine EndN.keep _ (yae _) ?_
 exact ⟨z,rfl,by simp⟩
theorem scheme_o (b:Bk) (hb:b.Sm) (ex:ByteArray) (d:Int) (hV:zbm b=true) (hD:isDay d=true) (hF:(za3 b ex d).isSome=true) (h0:(frcF b ex d).lates≠[]) (hl:(frcF b ex d).lates.length≤1000000) (H:Heap) :
  VCall Tryz.prog 8 [.agg b.cells,.str ex,.int .i64 d] H fun r H'=>∃ z,r=.tup [.agg (ownC (frcF b ex d) (H.length+5)),.int .i64 0]∧H'=H++[.box 25 b.cells,.box 36 (ownC (frcF b ex d) (H.length+5)),.box 36 (frcF b ex d).cells,.box 36 (ownC (frcF b ex d) (H.length+5)),.box 36 (ownC (frcF b ex d) (H.length+5)),.box 63 ((frcF b ex d).lates.flatMap encP++List.replicate z .junk)]:=by
 have hva:=fun H=>zcp b hb H
 have hif:=fun H=>zd9 b hb.ser hb.vers ex d H
 rw [hV] at hva
 rw [hF] at hif
 have hfr:((za3 b ex d).getD ver0).sch=frcF b ex d:=rfl
 rw [hfr] at hif
 have hc:∀ B1 B2 B3,VCall Tryz.prog 32 [.agg (frcF b ex d).cells] (H++[B1,B2,B3]) fun r H'=>∃ z,r=.agg (ownC (frcF b ex d) (H.length+5))∧H'=(H++[B1,B2,B3])++[.box 36 (ownC (frcF b ex d) (H.length+5)),.box 36 (ownC (frcF b ex d) (H.length+5)),.box 63 ((frcF b ex d).lates.flatMap encP++List.replicate z .junk)]:=fun B1 B2 B3=>by
  have:=copyS_o _ h0 hl (H++[B1,B2,B3])
  rw [ya5] at this
  exact this
 have hcb:b.cells=[.sl none b.ser.length (b.ser.flatMap Ser.cells),.sl none b.ent.length (b.ent.flatMap Ent.cells)]:=rfl
 generalize frcF b ex d=sc at *
 obtain ⟨pts,part,att,rty,hnt,cnt,lates⟩:=sc
 unfold Sch.cells ownC at *
 simp only at hc hif ⊢
 generalize lates.flatMap encP=c at *
 generalize lates.length=n at *
 rw [hcb] at hva hif ⊢
 refine zfe Tryz.E0 zad Tryz.func8 (by kernel_rfl) rfl (ybv rfl) rfl fun hcl hbl=>?_
 (repeat' ((conv=>whnf);(first|(refine yai ?_;first|refine yas ?_|refine yaq rfl ?_|refine yaq (by assumption) ?_|fail)|(refine ybi ?_;first|refine yab _ (hva _) ?_|refine yab _ (zbh _ _) ?_|refine yab _ (hif _) ?_|fail)|refine CallN.more (fun _=>AV.agg [.int .i64 pts,.int .i64 part,.ms (H.length+5) 0 n,.int .i64 att,.int .i64 rty,.int .i64 hnt,.int .u8 cnt]) (fun z=>[Blk.box 36 [.int .i64 pts,.int .i64 part,.ms (H.length+5) 0 n,.int .i64 att,.int .i64 rty,.int .i64 hnt,.int .u8 cnt],.box 36 [.int .i64 pts,.int .i64 part,.ms (H.length+5) 0 n,.int .i64 att,.int .i64 rty,.int .i64 hnt,.int .u8 cnt],.box 63 (c++List.replicate z AV.junk)]) (hc _ _ _) rfl _ (fun _=>rfl) 6 (fun _=>rfl) fun z=>?_|fail)));conv=>whnf
 refine EndN.keep _ (yae _) ?_
 exact ⟨z,rfl,by simp⟩
theorem all_no {α:Type} {p:α→Bool} {l:List α} {k:Nat} (d:α) (hk:k<l.length) (h:p (l.getD k d)=false):l.all p=false:=by
 rw [List.all_eq_false]
 exact ⟨_,zbb d hk,by rw [h];exact Bool.false_ne_true⟩
theorem all_yes {α:Type} {p:α→Bool} {l:List α} (d:α) (h:∀ i,i<l.length→p (l.getD i d)=true):l.all p=true:=by
 rw [yao]
 intro x hx
 obtain ⟨i,hi,rfl⟩:=zck d hx
 exact h i hi
def fewV (v:Ver):Bool:=decide (v.sch.lates.length≤10)
def fewS (s:Ser):Bool:=decide (s.vers.length≤22)&&s.vers.all fewV
def fewB (b:Bk):Bool:=decide (b.ser.length≤42)&&(decide (b.ent.length≤60)&&b.ser.all fewS)
theorem few_c (b:Bk) (H:Heap):VDet Tryz.prog 4 [.agg b.cells] H (.bool (fewB b)):=by
 have hcb:b.cells=[.sl none b.ser.length (b.ser.flatMap Ser.cells),.sl none b.ent.length (b.ent.flatMap Ent.cells)]:=rfl
 by_cases h1:b.ser.length≤42
 case neg =>
  rw [show fewB b=false by unfold fewB;rw [decide_eq_false h1];rfl]
  refine zap Tryz.E0 zad Tryz.func4 (by kernel_rfl) rfl (ybv rfl) rfl fun hcl hbl=>?_
  rw [hcb]
  (repeat' ((conv=>whnf);(first|refine yar (by omega) ?_|fail)));conv=>whnf
  exact eT trivial
 by_cases h2:b.ent.length≤60
 case neg =>
  rw [show fewB b=false by unfold fewB;rw [decide_eq_false h2,ya0,ycv]]
  refine zap Tryz.E0 zad Tryz.func4 (by kernel_rfl) rfl (ybv rfl) rfl fun hcl hbl=>?_
  rw [hcb]
  (repeat' ((conv=>whnf);(first|(refine yai ?_;first|refine yar (by omega) ?_|refine zat (by omega) ?_|fail)|fail)));conv=>whnf
  exact eT trivial
 rw [show fewB b=b.ser.all fewS by unfold fewB;rw [decide_eq_true h1,decide_eq_true h2,ya8,ya8]]
 refine zap Tryz.E0 zad Tryz.func4 (by kernel_rfl) rfl (ybv rfl) rfl fun hcl hbl=>?_
 rw [hcb]
 (repeat' ((conv=>whnf);(first|refine zat (by omega) ?_|fail)));conv=>whnf
 refine zbg Tryz.E0 zad (σ:=Nat) (fun k=>k≤b.ser.length∧∀ i,i<k→fewS (b.ser.getD i ser0)=true) (fun k=>b.ser.length-k) (fun k=>[(20,.v (.int .i64 k))]) (fun _=>_) _ 0 rfl hcl [18,19] rfl ⟨yah _,fun i hi=>absurd hi (Nat.not_lt_zero i)⟩ ⟨⟨_,rfl,yae _⟩,trivial⟩ rfl (fun _ _=>rfl) ?_
 rintro k ⟨hk,hok⟩
 rcases yag k b.ser.length with hlt|hge
 ·have hno:=fun h=>all_no (p:=fewS) ser0 hlt h
  have hyes:fewS (b.ser.getD k ser0)=true→∀ i,i<k+1→fewS (b.ser.getD i ser0)=true:=fun h i hi=>by
   rcases Nat.lt_or_eq_of_le (Nat.le_of_lt_succ hi) with h1|rfl
   ·exact hok i h1
   ·exact h
  obtain ⟨nm,vs,hv1⟩:=zdz (b.ser.getD k ser0)
  have e1:=zbz hv1
  rw [hv1] at hno hyes
  by_cases h3:vs.length≤22
  case neg =>
   have hf:=hno (by unfold fewS;simp only;rw [decide_eq_false h3];rfl)
   rw [hf]
   (repeat' ((conv=>whnf);(first|refine yar (by omega) ?_|(refine yaf ?_ ?_;· first|omega|exact yaa _ _|fail)|refine zai ser0 k rfl (by omega) zaz e1 ?_|fail)));conv=>whnf
   exact eT trivial
  have hfs:fewS ⟨nm,vs⟩=vs.all fewV:=by unfold fewS;simp only;rw [decide_eq_true h3,ya8]
  rw [hfs] at hno hyes
  (repeat' ((conv=>whnf);(first|(refine yai ?_;first|refine yar (by omega) ?_|refine zat (by omega) ?_|fail)|(refine yaf ?_ ?_;· first|omega|exact yaa _ _|fail)|refine zai ser0 k rfl (by omega) zaz e1 ?_|fail)));conv=>whnf
  refine zbg Tryz.E0 zad (σ:=Nat) (fun j=>j≤vs.length∧∀ i,i<j→fewV (vs.getD i ver0)=true) (fun j=>vs.length-j) (fun j=>[(31,.v (.int .i64 j))]) (fun _=>_) _ 0 rfl hcl [18,19,20,29,30] rfl ⟨yah _,fun i hi=>absurd hi (Nat.not_lt_zero i)⟩ ⟨⟨_,rfl,yae _⟩,trivial⟩ rfl (fun _ _=>rfl) ?_
  rintro j ⟨hj,hokj⟩
  rcases yag j vs.length with hjl|hjg
  ·have hnoj:=fun h=>all_no (p:=fewV) ver0 hjl h
   have hyesj:fewV (vs.getD j ver0)=true→∀ i,i<j+1→fewV (vs.getD i ver0)=true:=fun h i hi=>by
    rcases Nat.lt_or_eq_of_le (Nat.le_of_lt_succ hi) with h1|rfl
    ·exact hokj i h1
    ·exact h
   obtain ⟨at_,pts,part,att,rty,hnt,cnt,lates,hv2⟩:=zcr (vs.getD j ver0)
   have e2:=zbl hv2
   rw [hv2] at hnoj hyesj
   unfold fewV at hnoj hyesj
   simp only at hnoj hyesj
   by_cases h4:lates.length≤10
   ·have hy:=hyesj (decide_eq_true h4)
    (repeat' ((conv=>whnf);(first|(refine yai ?_;first|refine yar (by omega) ?_|refine zat (by omega) ?_|fail)|(refine zao _ _ Cst.h Cst.h ?_ ?_;· omega)|(refine yaf ?_ ?_;· first|omega|exact yaa _ _|fail)|refine zai ver0 j rfl (by omega) zbf e2 ?_|fail)));conv=>whnf
    (refine ⟨⟨j+1,⟨by show j+1≤vs.length;omega,hy⟩,by omega,?_,.inr ?_,rfl,_,rfl,?_⟩⟩;rotate_left 2;exact .inr ⟨by simp [zau,below,zac,tr,zae,zah,zag,zam,zak,zal,zaf,zan],by simp [za5,Blk.below,zac,below,zae,zah,zag,zam,zak,zal,zaf,zan]⟩;all_goals (repeat' (first|exact trivial|refine ⟨⟨_,rfl,?_⟩,?_⟩|fail));all_goals exact yae _)
   ·have hf:=hno (hnoj (decide_eq_false h4))
    rw [hf]
    (repeat' ((conv=>whnf);(first|refine yar (by omega) ?_|(refine yaf ?_ ?_;· first|omega|exact yaa _ _|fail)|refine zai ver0 j rfl (by omega) zbf e2 ?_|fail)));conv=>whnf
    exact eT trivial
  ·obtain rfl:j=vs.length:=by omega
   have hy:=hyes (all_yes ver0 hokj)
   (repeat' ((conv=>whnf);(first|refine zat (by omega) ?_|(refine zao _ _ Cst.h Cst.h ?_ ?_;· omega)|fail)));conv=>whnf
   (refine ⟨⟨k+1,⟨by show k+1≤b.ser.length;omega,hy⟩,by omega,?_,.inr ?_,rfl,_,rfl,?_⟩⟩;rotate_left 2;exact .inr ⟨by simp [zau,below,zac,tr,zae,zah,zag,zam,zak,zal,zaf,zan],by simp [za5,Blk.below,zac,below,zae,zah,zag,zam,zak,zal,zaf,zan]⟩;all_goals (repeat' (first|exact trivial|refine ⟨⟨_,rfl,?_⟩,?_⟩|fail));all_goals exact yae _)
 ·obtain rfl:k=b.ser.length:=by omega
  rw [all_yes ser0 hok]
  (repeat' ((conv=>whnf);(first|refine zat (by omega) ?_|fail)));conv=>whnf
  exact eT trivial
theorem neq2_F (a b:Int):(!((a==a)&&((b==b)&&true)))=false:=by simp
theorem neq3_F (a b:ByteArray) (p:Int):(!((a.toList==a.toList)&&((b.toList==b.toList)&&((p==p)&&true))))=false:=by simp
theorem neq4_F (a b c d:Int):(!((a==a)&&((b==b)&&((c==c)&&((d==d)&&true)))))=false:=by simp
theorem sameS_c (s:Sch) (hl:s.lates.length≤1000000) (H:Heap):VDet Tryz.prog 14 [.agg s.cells,.agg s.cells] H (.bool true):=by
 obtain ⟨pts,part,att,rty,hnt,cnt,lates⟩:=s
 have hl:lates.length≤1000000:=hl
 unfold Sch.cells
 simp only
 refine zap Tryz.E0 zad Tryz.func14 (by kernel_rfl) rfl (ybv rfl) rfl fun hcl hbl=>?_
 (repeat' ((conv=>whnf);(first|refine yau (bne_self_eq_false _) ?_|fail)));conv=>whnf
 refine zbg Tryz.E0 zad (σ:=Nat) (fun k=>k≤lates.length) (fun k=>lates.length-k) (fun k=>[(58,.v (.int .i64 k))]) (fun _=>_) _ 0 rfl hcl [2,3,57] rfl (yah _) ⟨⟨_,rfl,yae _⟩,trivial⟩ rfl (fun _ _=>rfl) ?_
 intro k hk
 rcases yag k lates.length with hlt|hge
 ·have e1:encP (lates.getD k (0,0))=[.int .i64 (lates.getD k (0,0)).1,.int .i64 (lates.getD k (0,0)).2]:=rfl
  generalize (lates.getD k (0,0)).1=q1 at *
  generalize (lates.getD k (0,0)).2=q2 at *
  (repeat' ((conv=>whnf);(first|(refine yai ?_;first|refine yau (neq2_F _ _) ?_|refine yar (by omega) ?_|fail)|(refine zao _ _ Cst.h Cst.h ?_ ?_;· omega)|(refine yaf ?_ ?_;· first|kernel_rfl|omega|exact yaa _ _|fail)|refine zai (0,0) k rfl (by omega) (fun _=>rfl) e1 ?_|refine zab [] ?_|fail)));conv=>whnf
  (refine ⟨⟨k+1,by show k+1≤lates.length;omega,by omega,?_,.inl ⟨rfl,rfl⟩,rfl,_,rfl,?_⟩⟩;rotate_left 1;exact .inl rfl;exact ⟨⟨_,rfl,yae _⟩,trivial⟩)
 ·obtain rfl:k=lates.length:=by omega
  (repeat' ((conv=>whnf);(first|refine zat (by omega) ?_|fail)));conv=>whnf
  exact eT trivial
theorem rowsEq_c (pts:Ky→Int) (l:List Ky) (hl:l.length≤1000000) (H:Heap):VDet Tryz.prog 17 [.sl none l.length (l.flatMap (rowC pts)),.sl none l.length (l.flatMap (rowC pts))] H (.bool true):=by
 refine zap Tryz.E0 zad Tryz.func17 (by kernel_rfl) rfl (ybv rfl) rfl fun hcl hbl=>?_
 (repeat' ((conv=>whnf);(first|refine yau (bne_self_eq_false _) ?_|fail)));conv=>whnf
 refine zbg Tryz.E0 zad (σ:=Nat) (fun k=>k≤l.length) (fun k=>l.length-k) (fun k=>[(13,.v (.int .i64 k))]) (fun _=>_) _ 0 rfl hcl [0,1,12] rfl (yah _) ⟨⟨_,rfl,yae _⟩,trivial⟩ rfl (fun _ _=>rfl) ?_
 intro k hk
 rcases yag k l.length with hlt|hge
 ·have e1:rowC pts (l.getD k (.empty,.empty))=[.str (l.getD k (.empty,.empty)).1,.str (l.getD k (.empty,.empty)).2,.int .i64 (pts (l.getD k (.empty,.empty)))]:=rfl
  generalize (l.getD k (.empty,.empty)).1=q1 at *
  generalize (l.getD k (.empty,.empty)).2=q2 at *
  generalize pts (l.getD k (.empty,.empty))=q3 at *
  (repeat' ((conv=>whnf);(first|(refine yai ?_;first|refine yau (neq3_F _ _ _) ?_|refine yar (by omega) ?_|fail)|(refine zao _ _ Cst.h Cst.h ?_ ?_;· omega)|(refine yaf ?_ ?_;· first|kernel_rfl|omega|exact yaa _ _|fail)|refine zai (.empty,.empty) k rfl (by omega) (zcy pts) e1 ?_|refine zab [] ?_|fail)));conv=>whnf
  (refine ⟨⟨k+1,by show k+1≤l.length;omega,by omega,?_,.inl ⟨rfl,rfl⟩,rfl,_,rfl,?_⟩⟩;rotate_left 1;exact .inl rfl;exact ⟨⟨_,rfl,yae _⟩,trivial⟩)
 ·obtain rfl:k=l.length:=by omega
  (repeat' ((conv=>whnf);(first|refine zat (by omega) ?_|fail)));conv=>whnf
  exact eT trivial
theorem like_c (b:Bk) (hb:b.Sm) (hla:∀ s∈b.ser,∀ v∈s.vers,v.sch.lates.length≤1000000) (H:Heap):VDet Tryz.prog 20 [.agg b.cells,.agg b.cells] H (.bool true):=by
 have hcb:b.cells=[.sl none b.ser.length (b.ser.flatMap Ser.cells),.sl none b.ent.length (b.ent.flatMap Ent.cells)]:=rfl
 have hls:=hb.ser
 have hle:=hb.ent
 have hlv:=hb.vers
 refine zap Tryz.E0 zad Tryz.func20 (by kernel_rfl) rfl (ybv rfl) rfl fun hcl hbl=>?_
 rw [hcb]
 (repeat' ((conv=>whnf);(first|refine yau (bne_self_eq_false _) ?_|fail)));conv=>whnf
 refine zbg Tryz.E0 zad (σ:=Nat) (fun k=>k≤b.ser.length) (fun k=>b.ser.length-k) (fun k=>[(31,.v (.int .i64 k))]) (fun _=>_) _ 0 rfl hcl [2,3,29,30] rfl (yah _) ⟨⟨_,rfl,yae _⟩,trivial⟩ rfl (fun _ _=>rfl) ?_
 intro k hk
 rcases yag k b.ser.length with hlt|hge
 ·obtain ⟨nm,vs,hv1⟩:=zdz (b.ser.getD k ser0)
  have e1:=zbz hv1
  have hvl:=hlv _ (zbb ser0 hlt)
  have hvla:=hla _ (zbb ser0 hlt)
  rw [hv1] at hvl hvla
  simp only at hvl hvla
  (repeat' ((conv=>whnf);(first|(refine yai ?_;first|refine yau (bne_self_eq_false _) ?_|refine yar (by omega) ?_|fail)|(refine yaf ?_ ?_;· first|kernel_rfl|omega|exact yaa _ _|fail)|refine zai ser0 k rfl (by omega) zaz e1 ?_|refine zab [] ?_|fail)));conv=>whnf
  refine zbg Tryz.E0 zad (σ:=Nat) (fun j=>j≤vs.length) (fun j=>vs.length-j) (fun j=>[(61,.v (.int .i64 j))]) (fun _=>_) _ 0 rfl hcl [2,3,5,29,30,31,59,60] rfl (yah _) ⟨⟨_,rfl,yae _⟩,trivial⟩ rfl (fun _ _=>rfl) ?_
  intro j hj
  rcases yag j vs.length with hjl|hjg
  ·have hsm:=fun H=>sameS_c (vs.getD j ver0).sch (hvla _ (zbb ver0 hjl)) H
   obtain ⟨at_,pts,part,att,rty,hnt,cnt,lates,hv2⟩:=zcr (vs.getD j ver0)
   have e2:=zbl hv2
   rw [hv2] at hsm
   unfold Sch.cells at hsm
   simp only at hsm
   (repeat' ((conv=>whnf);(first|(refine yai ?_;first|refine yau (bne_self_eq_false _) ?_|refine yas ?_|refine yaq rfl ?_|refine yar (by omega) ?_|fail)|(refine zao _ _ Cst.h Cst.h ?_ ?_;· omega)|(refine yaf ?_ ?_;· first|kernel_rfl|omega|exact yaa _ _|fail)|refine yan _ (fun _ hq X=>hsm _) ?_|refine zai ser0 k rfl (by omega) zaz e1 ?_|refine zai ver0 j rfl (by omega) zbf e2 ?_|refine zab [] ?_|fail)));conv=>whnf
   (refine ⟨⟨j+1,by show j+1≤vs.length;omega,by omega,?_,.inr ?_,rfl,_,rfl,?_⟩⟩;rotate_left 2;exact .inr ⟨by simp [zau,below,zac,tr,zae,zah,zag,zam,zak,zal,zaf,zan],by simp [za5,Blk.below,zac,below,zae,zah,zag,zam,zak,zal,zaf,zan]⟩;all_goals (repeat' (first|exact trivial|refine ⟨⟨_,rfl,?_⟩,?_⟩|fail));all_goals exact yae _)
  ·obtain rfl:j=vs.length:=by omega
   (repeat' ((conv=>whnf);(first|refine zat (by omega) ?_|(refine zao _ _ Cst.h Cst.h ?_ ?_;· omega)|fail)));conv=>whnf
   (refine ⟨⟨k+1,by show k+1≤b.ser.length;omega,by omega,?_,.inr ?_,rfl,_,rfl,?_⟩⟩;rotate_left 2;exact .inr ⟨by simp [zau,below,zac,tr,zae,zah,zag,zam,zak,zal,zaf,zan],by simp [za5,Blk.below,zac,below,zae,zah,zag,zam,zak,zal,zaf,zan]⟩;all_goals (repeat' (first|exact trivial|refine ⟨⟨_,rfl,?_⟩,?_⟩|fail));all_goals exact yae _)
 ·obtain rfl:k=b.ser.length:=by omega
  (repeat' ((conv=>whnf);(first|refine zat (by omega) ?_|fail)));conv=>whnf
  refine zbg Tryz.E0 zad (σ:=Nat) (fun k=>k≤b.ent.length) (fun k=>b.ent.length-k) (fun k=>[(100,.v (.int .i64 k))]) (fun _=>_) _ 0 rfl hcl [3,98,99] rfl (yah _) ⟨⟨_,rfl,yae _⟩,trivial⟩ rfl (fun _ _=>rfl) ?_
  intro j hj
  rcases yag j b.ent.length with hjl|hjg
  ·obtain ⟨stu,exe,day,wa,wb,wc,wd,he⟩:=zc2 (b.ent.getD j ent0)
   have e3:=zbn he
   (repeat' ((conv=>whnf);(first|(refine yai ?_;first|refine yau (bne_self_eq_false _) ?_|refine yau (neq4_F _ _ _ _) ?_|refine yar (by omega) ?_|fail)|(refine zao _ _ Cst.h Cst.h ?_ ?_;· omega)|(refine yaf ?_ ?_;· first|omega|exact yaa _ _|fail)|refine zai ent0 j rfl (by omega) za0 e3 ?_|fail)));conv=>whnf
   (refine ⟨⟨j+1,by show j+1≤b.ent.length;omega,by omega,?_,.inr ?_,rfl,_,rfl,?_⟩⟩;rotate_left 2;exact .inr ⟨by simp [zau,below,zac,tr,zae,zah,zag,zam,zak,zal,zaf,zan],by simp [za5,Blk.below,zac,below,zae,zah,zag,zam,zak,zal,zaf,zan]⟩;all_goals (repeat' (first|exact trivial|refine ⟨⟨_,rfl,?_⟩,?_⟩|fail));all_goals exact yae _)
  ·obtain rfl:j=b.ent.length:=by omega
   (repeat' ((conv=>whnf);(first|refine zat (by omega) ?_|fail)));conv=>whnf
   exact eT trivial
end
end Go.Proofs.YtgopbbkpcjgihaaGreat
namespace Go.Proofs.YtgopbbkpcjgihaaGreat
section
open Go.Shelf Go.RowKit Go.Lib
theorem zf1 {P:Program} (w:World) (dT sT ty elem:TypeId) (k b o dLen dCap:Nat) (a:Addr) (sLen sCap:Nat) (cs:List Value)
  (hu:P.underlying dT=some (.slice elem)) (hs:(P.info? elem).map (·.size)=some k) (hn:cs.length=Nat.min sLen dLen * k)
  (hsrc:∀ j v,cs[j]? = some v→w.cell? (a.add j)=some v) (hc:∀ j,j<cs.length→(w.cell? ⟨b,o+j,none⟩).isSome=true) (hf:∀ j,j<cs.length→w.frozen? ⟨b,o+j,none⟩=false) (h1:∀ v∈cs,v.oneCell'=true) :
  (Builtin.copy_ #[dT,sT] ty #[.slice (some ⟨b,o,none⟩) dLen dCap,.slice (some a) sLen sCap]).run P w=.ok (goInt (Nat.min sLen dLen)) (w.setCells b o cs):=by
 have hl:=run_loadCells_list (P:=P) w a cs hsrc
 have hst:=run_storeCells_cells (P:=P) b o cs 0 w (by simpa using hc) (by simpa using hf) h1
 cases hq:P.info? elem with
 | none=>simp [hq] at hs
 | some i =>
   have hi:i.size=k:=by simpa [hq] using hs
   simp [Builtin.copy_,run_underlying hu,Builtin.lenOf,Builtin.firstCells,sizeOf,typeInfo,hq,hi,← hn,hl,hst]
theorem run_overlaps_2 {P:Program} (w:World) (tS tR e:TypeId) (ht:P.underlying tS=some (.slice e)) (size:Nat) (hz:∀ w,(Go.sizeOf e).run P w=.ok size w)
  (a b:Addr) (la ca lb cb:Nat) (hne:a.block≠b.block) {csA csB:Array Value} {tA tB:TypeId} {fa:Nat×Nat} (hA:w.heap[a.block]? = some (.cells csA tA fa)) (hB:w.heap[b.block]? = some (.cells csB tB (0,0))) (hkA:csA.size≠0) (hkB:csB.size≠0) :
  (Extern.SlicesOverlaps.overlaps #[tS,tS] #[tR] #[.slice (some a) la ca,.slice (some b) lb cb]).run P w=.ok (.bool false) w:=by
 have hnb:(a.block != b.block)=true:=by simpa using hne
 have hnb':(a.block==b.block)=false:=by simpa using hne
 change Sem.run P (α:=Value) (do
  let some t:=(#[tS,tS]:Array TypeId)[0]? | stuck "slices.overlaps: no parameter types"
  let .slice elem ← underlying t|stuck "slices.overlaps: slice type expected"
  let size ← sizeOf elem
  match (some a:Option Addr),(some b:Option Addr) with
  | some a,some b =>
    if la=0∨lb=0∨size=0 then pure (Value.bool false)
    else if a.block != b.block&&(← frozen a)&&(← frozen b) then unsupported .addressObserved
    else do
     if a.block != b.block then do
      noView a;noView b
      if ← mayBeOne a b then return Value.bool ((← choose (.extern "sameAddr.stringBytes" 2))==1)
     pure (Value.bool (a.block==b.block&&a.off<b.off+lb * size&&b.off<a.off+la * size))
  | _,_=>pure (Value.bool false)) w=_
 by_cases h0:la=0∨lb=0∨size=0
 ·simp [run_underlying ht,hz,h0]
 ·obtain ⟨kA,hkA⟩:∃ kA,csA.size=kA+1:=⟨csA.size-1,by omega⟩
  obtain ⟨kB,hkB⟩:∃ kB,csB.size=kB+1:=⟨csB.size-1,by omega⟩
  have hsa:w.shape? a.block=some (tA,kA+1):=by simp [World.shape?,hA,hkA]
  have hsb:w.shape? b.block=some (tB,kB+1):=by simp [World.shape?,hB,hkB]
  have hfb:∀ o,w.frozen? ⟨b.block,o,none⟩=false:=fun o=>by simp [World.frozen?,hB]
  have hfb2:w.frozen? b=false:=by simp [World.frozen?,hB]
  obtain ⟨pa,hpa⟩:∃ pa,w.frozen? a=pa:=⟨_,rfl⟩
  obtain ⟨pb,hpb⟩:∃ pb,w.frozen? ⟨a.block,kA+1,none⟩=pb:=⟨_,rfl⟩
  cases pa <;> cases pb <;> simp [run_underlying ht,hz,h0,hnb,hnb',frozen,noView,viewAt,mayBeOne,stringish,shape,Sem.run,hsa,hsb,hpa,hpb,hfb,hfb2]
set_option maxHeartbeats 4000000 in
set_option maxRecDepth 100000 in
theorem ins_shift (b n c p vb vo vc:Nat) (cs vs:List Value) (w:World) (hp:p<n) (hroom:n+1≤c) (hc63:c≤9223372036854775807) (hvb:vb≠b) (hn1:n≤1000)
  (hcl:cs.length=n * 2) (hvl:vs.length=2)
  (hcs:∀ j v,cs[j]? = some v→w.cell? ⟨b,j,none⟩=some v) (hsp:∀ j,j<(n+1) * 2→(w.cell? ⟨b,j,none⟩).isSome=true) (hfz:∀ j,w.frozen? ⟨b,j,none⟩=false)
  (hvs:∀ j v,vs[j]? = some v→w.cell? ⟨vb,vo+j,none⟩=some v) (h1c:∀ v∈cs,v.oneCell'=true) (h1v:∀ v∈vs,v.oneCell'=true)
  {csA csB:Array Value} {tA tB:TypeId} {fa:Nat×Nat} (hA:w.heap[vb]? = some (.cells csA tA fa)) (hB:w.heap[b]? = some (.cells csB tB (0,0))) (hkA:csA.size≠0) (hkB:csB.size≠0) :
  Calls Tryz.prog 52 #[.slice (some ⟨b,0,none⟩) n c,.int .i64 p,.slice (some ⟨vb,vo,none⟩) 1 vc] w fun e w' =>
   e=.returned (.slice (some ⟨b,0,none⟩) (n+1) c)∧w'=(w.drew.setCells b ((p+1) * 2) (cs.drop (p * 2))).setCells b (p * 2) vs:=by
 have hz1:¬ ((1:Int)=0):=by omega
 have hz2:¬ ((p:Int)=(n:Int)):=by omega
 have hz3:¬ ((c:Int)<(n:Int)+1):=by omega
 have hsz:(Tryz.prog.info? 69).map (·.size)=some 2:=by kernel_rfl
 have hu22:Tryz.prog.underlying 22=some (.slice 69):=Tryz.underlying22
 have hov:∀ lb cb,(callFunc 70 #[.slice (some ⟨vb,vo,none⟩) 1 vc,.slice (some ⟨b,(p+1) * 2,none⟩) lb cb]).run Tryz.prog w=.ok (.value (.bool false)) w:=fun lb cb=>by
  rw [run_callFunc_extern Tryz.func70 (by kernel_rfl) (by kernel_rfl) (by kernel_rfl) (e:=Extern.SlicesOverlaps.overlaps #[22,22] #[4]) (by kernel_rfl),
   run_overlaps_2 w 22 4 69 hu22 2 Tryz.sizeOf69 ⟨vb,vo,none⟩ ⟨b,(p+1) * 2,none⟩ 1 vc lb cb hvb hA hB hkA hkB]
  rfl
 have hdl:(cs.drop (p * 2)).length=(n-p) * 2:=by rw [List.length_drop,hcl];omega
 have hcp1:∀ ty dl dc sl sc,dl=n-p→n-p≤sl→(Builtin.copy_ #[22,22] ty #[.slice (some ⟨b,(p+1) * 2,none⟩) dl dc,.slice (some ⟨b,p * 2,none⟩) sl sc]).run Tryz.prog w.drew=.ok (goInt (n-p:Nat)) (w.drew.setCells b ((p+1) * 2) (cs.drop (p * 2))):=fun ty dl dc sl sc h1 h2=>by
  have hmin:Nat.min sl dl=n-p:=by simp only [Nat.min_def];split <;> omega
  have:=zf1 (P:=Tryz.prog) w.drew 22 22 ty 69 2 b ((p+1) * 2) dl dc ⟨b,p * 2,none⟩ sl sc (cs.drop (p * 2)) hu22 hsz (by rw [hdl,hmin])
   (fun j v hj=>by rw [Addr.add_lit];exact hcs (p * 2+j) v (by rwa [List.getElem?_drop] at hj))
   (fun j hj=>hsp ((p+1) * 2+j) (by rw [hdl] at hj;omega)) (fun j hj=>hfz _) (fun v hv=>h1c v (List.mem_of_mem_drop hv))
  rwa [hmin] at this
 obtain ⟨W1,hW1⟩:∃ W1,W1=w.drew.setCells b ((p+1) * 2) (cs.drop (p * 2)):=⟨_,rfl⟩
 have hsp1:∀ k,k<(n+1) * 2→(W1.cell? ⟨b,k,none⟩).isSome=true:=fun k hk=>by
  rw [hW1]
  exact isSome_setCells b _ _ w.drew (fun j hj=>hsp ((p+1) * 2+j) (by rw [hdl] at hj;omega)) _ (hsp k hk)
 have hcp2:∀ (W:World),(∀ x,W.cell? x=W1.cell? x)→(∀ x,W.frozen? x=W1.frozen? x)→∀ ty dl dc,1≤dl→(Builtin.copy_ #[22,22] ty #[.slice (some ⟨b,p * 2,none⟩) dl dc,.slice (some ⟨vb,vo,none⟩) 1 vc]).run Tryz.prog W=.ok (goInt (1:Nat)) (W.setCells b (p * 2) vs):=fun W hWc hWf ty dl dc h1=>by
  have hmin:Nat.min 1 dl=1:=by simp only [Nat.min_def];split <;> omega
  have:=zf1 (P:=Tryz.prog) W 22 22 ty 69 2 b (p * 2) dl dc ⟨vb,vo,none⟩ 1 vc vs hu22 hsz (by rw [hvl,hmin])
   (fun j v hj=>by
     rw [Addr.add_lit,hWc,hW1,World.cell?_setCells_out b _ _ _ _ (fun h _=>absurd h hvb)]
     exact hvs j v hj)
   (fun j hj=>by rw [hWc];exact hsp1 _ (by rw [hvl] at hj;omega)) (fun j hj=>by rw [hWf,hW1,World.frozen?_setCells];exact hfz _) h1v
  rwa [hmin] at this
 rw [← hW1] at hcp1
 have hw1:IntKind.i64.wrap ((p:Int)+1)=(p:Int)+1:=by rw [IntKind.wrap_i64];omega
 have hw2:IntKind.i64.wrap ((n:Int)+1)=(n:Int)+1:=by rw [IntKind.wrap_i64];omega
 have mixed:Tryz.prog.follows .mixedOrders=true:=zad
 have hb1:(0:Int)≤(p:Int)+1:=by omega
 have hin:p≤n:=by omega
 have htn:((p:Int)+1).toNat=p+1:=by omega
 have hb2:¬ (c=p+1):=by omega
 have hb3:(p:Int)≤(n:Int)+1:=by omega
 have hb4:¬ (c=p):=by omega
 go_enter Tryz.func52,Tryz.ntmps52
 go_wp2_with (simp only [hov])
 go_region_law_o (refine step_copy_runI rfl _ _ 22 22 rfl (.slice (some ⟨b,(p+1) * 2,none⟩) (n-p) (c-(p+1))) (.slice (some ⟨b,p * 2,none⟩) (n+1-p) (c-p)) (by simp [Act.eval,Act.put]) (by simp [Act.eval,Act.put]) (hcp1 3 (n-p) (c-(p+1)) (n+1-p) (c-p) rfl (by omega)) ?_)
 have hcp3:=hcp2 (w.drew.setCells b ((p+1) * 2) (cs.drop (p * 2))) (fun _=>by rw [hW1]) (fun _=>by rw [hW1]) 3 (n+1-p) (c-p) (by omega)
 go_wp2_with (simp only [hcp3])
 go_ret
 first|exact ⟨rfl,rfl⟩|exact ⟨rfl,by rw [hW1]⟩
set_option maxHeartbeats 4000000 in
set_option maxRecDepth 100000 in
theorem ins_grow (b n c p vb vo vc:Nat) (cs vs:List Value) (w:World) (hp:p<n) (hnc:n≤c) (hroom:c<n+1) (hvb:vb<w.heap.size) (hbw:b<w.heap.size) (hn1:n≤1000)
  (hcl:cs.length=n * 2) (hvl:vs.length=2)
  (hcs:∀ j v,cs[j]? = some v→w.cell? ⟨b,j,none⟩=some v)
  (hvs:∀ j v,vs[j]? = some v→w.cell? ⟨vb,vo+j,none⟩=some v) (h1c:∀ v∈cs,v.oneCell'=true) (h1v:∀ v∈vs,v.oneCell'=true) :
  Calls Tryz.prog 52 #[.slice (some ⟨b,0,none⟩) n c,.int .i64 p,.slice (some ⟨vb,vo,none⟩) 1 vc] w fun e w' =>
   e=.returned (.slice (some ⟨w.heap.size,0,none⟩) (n+1) (grownCap w (n+1) c 69)) ∧
   w'=(((w.alloc (.cells ((cs.take (p * 2)).toArray++Builtin.zeroCells (Value.agg #[.string ⟨#[]⟩,.slice none 0 0]).cells (n+1-p)++Builtin.zeroCells (Value.agg #[.string ⟨#[]⟩,.slice none 0 0]).cells (grownCap w (n+1) c 69-(n+1))) 69)).drew.setCells w.heap.size (p * 2) vs).drew).setCells w.heap.size ((p+1) * 2) (cs.drop (p * 2)):=by
 obtain ⟨i0,hi0,hz0,hzs,hzb⟩:∃ i0:TypeInfo,Tryz.prog.info? 69=some i0∧i0.zero=some (Value.agg #[.string ⟨#[]⟩,.slice none 0 0])∧i0.size=2∧i0.bytes=40:=⟨Tryz.t69,by kernel_rfl,by kernel_rfl,by kernel_rfl,by kernel_rfl⟩
 have hz1:¬ ((1:Int)=0):=by omega
 have hz2:¬ ((p:Int)=(n:Int)):=by omega
 have hz3:(c:Int)<(n:Int)+1:=by omega
 have hsz:(Tryz.prog.info? 69).map (·.size)=some 2:=by kernel_rfl
 have hu22:Tryz.prog.underlying 22=some (.slice 69):=Tryz.underlying22
 have hu3:Tryz.prog.underlying 3=some (.int .i64):=Tryz.underlying3
 have hkk:(n:Int)+1-(p:Int)=((n+1-p:Nat):Int):=by omega
 have hik:p+(n+1-p)=n+1:=by omega
 have hold:(Builtin.firstCells i0.size p (.slice (some ⟨b,0,none⟩) p c)).run Tryz.prog w.drew=.ok (cs.take (p * 2)).toArray w.drew:=by
  rw [hzs]
  exact run_firstCells_some w.drew 2 p ⟨b,0,none⟩ p c (cs.take (p * 2)) (by rw [List.length_take];omega) (fun j v hj=>by
   rw [Addr.add_lit,Nat.zero_add]
   rw [List.getElem?_take] at hj
   split at hj
   ·exact hcs j v hj
   ·cases hj)
 have hrz:∀ ty,(Builtin.append_ #[22,3] ty #[.slice (some ⟨b,0,none⟩) p c,.int .i64 ((n:Int)+1-(p:Int))]).run Tryz.prog w =
   .ok (.slice (some ⟨w.heap.size,0,none⟩) (n+1) (grownCap w (n+1) c 69)) (w.drew.alloc (.cells ((cs.take (p * 2)).toArray++Builtin.zeroCells (Value.agg #[.string ⟨#[]⟩,.slice none 0 0]).cells (n+1-p)++Builtin.zeroCells (Value.agg #[.string ⟨#[]⟩,.slice none 0 0]).cells (grownCap w (n+1) c 69-(n+1))) 69)):=fun ty=>by
  have h:=Lib.run_append_grow_zeros w 22 3 ty 69 i0 _ .i64 .i64 hu22 hu3 hi0 hz0 (some ⟨b,0,none⟩) p c (cs.take (p * 2)) hold (n+1-p) (by omega) (by omega) (by omega) (by omega) (by rw [hzb];omega) (by rw [hzb,hik];exact growslice_fits hroom (by omega))
  rw [hik] at h
  rw [hkk]
  exact h
 obtain ⟨G,hG⟩:∃ G,G=grownCap w (n+1) c 69:=⟨_,rfl⟩
 obtain ⟨ROW,hROW⟩:∃ ROW:Array Value,ROW=(cs.take (p * 2)).toArray++Builtin.zeroCells (Value.agg #[.string ⟨#[]⟩,.slice none 0 0]).cells (n+1-p)++Builtin.zeroCells (Value.agg #[.string ⟨#[]⟩,.slice none 0 0]).cells (G-(n+1)):=⟨_,rfl⟩
 rw [← hG] at hrz ⊢
 rw [← hROW] at hrz ⊢
 have hRl:(n+1) * 2≤ROW.size:=by
  rw [hROW]
  simp [Builtin.zeroCells,Value.cells]
  omega
 obtain ⟨W1,hW1⟩:∃ W1,W1=w.drew.alloc (.cells ROW 69):=⟨_,rfl⟩
 rw [← hW1] at hrz
 have hN:∀ j,j<(n+1) * 2→(W1.cell? ⟨w.heap.size,j,none⟩).isSome=true:=fun j hj=>by
  rw [hW1,World.cell?_alloc_at (w:=w.drew) ROW _ w.heap.size j rfl,Array.getElem?_eq_getElem (by omega)];rfl
 have hNf:∀ j,W1.frozen? ⟨w.heap.size,j,none⟩=false:=fun j=>by rw [hW1];exact World.frozen?_alloc_at (w:=w.drew) ROW _ w.heap.size j rfl
 have hOb:∀ j v,w.cell? ⟨b,j,none⟩=some v→W1.cell? ⟨b,j,none⟩=some v:=fun j v h=>by rw [hW1,World.cell?_alloc_past (w:=w.drew) _ b j hbw];exact h
 have hOv:∀ j v,w.cell? ⟨vb,j,none⟩=some v→W1.cell? ⟨vb,j,none⟩=some v:=fun j v h=>by rw [hW1,World.cell?_alloc_past (w:=w.drew) _ vb j hvb];exact h
 have hdl:(cs.drop (p * 2)).length=(n-p) * 2:=by rw [List.length_drop,hcl];omega
 have hbN:b≠w.heap.size:=by omega
 have hcpA:∀ (W:World),(∀ x,W.cell? x=W1.cell? x)→(∀ x,W.frozen? x=W1.frozen? x)→∀ ty dl dc,1≤dl→(Builtin.copy_ #[22,22] ty #[.slice (some ⟨w.heap.size,p * 2,none⟩) dl dc,.slice (some ⟨vb,vo,none⟩) 1 vc]).run Tryz.prog W=.ok (goInt (1:Nat)) (W.setCells w.heap.size (p * 2) vs):=fun W hWc hWf ty dl dc h1=>by
  have hmin:Nat.min 1 dl=1:=by simp only [Nat.min_def];split <;> omega
  have:=zf1 (P:=Tryz.prog) W 22 22 ty 69 2 w.heap.size (p * 2) dl dc ⟨vb,vo,none⟩ 1 vc vs hu22 hsz (by rw [hvl,hmin])
   (fun j v hj=>by rw [Addr.add_lit,hWc];exact hOv _ v (hvs j v hj))
   (fun j hj=>by rw [hWc];exact hN _ (by rw [hvl] at hj;omega)) (fun j hj=>by rw [hWf];exact hNf _) h1v
  rwa [hmin] at this
 have hcpB:∀ (W:World),(∀ x,W.cell? x=(W1.setCells w.heap.size (p * 2) vs).cell? x)→(∀ x,W.frozen? x=(W1.setCells w.heap.size (p * 2) vs).frozen? x)→∀ ty dl dc sl sc,dl=n-p→n-p≤sl→(Builtin.copy_ #[22,22] ty #[.slice (some ⟨w.heap.size,(p+1) * 2,none⟩) dl dc,.slice (some ⟨b,p * 2,none⟩) sl sc]).run Tryz.prog W=.ok (goInt (n-p:Nat)) (W.setCells w.heap.size ((p+1) * 2) (cs.drop (p * 2))):=fun W hWc hWf ty dl dc sl sc h1 h2=>by
  have hmin:Nat.min sl dl=n-p:=by simp only [Nat.min_def];split <;> omega
  have:=zf1 (P:=Tryz.prog) W 22 22 ty 69 2 w.heap.size ((p+1) * 2) dl dc ⟨b,p * 2,none⟩ sl sc (cs.drop (p * 2)) hu22 hsz (by rw [hdl,hmin])
   (fun j v hj=>by
     rw [Addr.add_lit,hWc,World.cell?_setCells_out _ _ _ _ _ (fun h _=>absurd h hbN)]
     exact hOb _ v (hcs (p * 2+j) v (by rwa [List.getElem?_drop] at hj)))
   (fun j hj=>by rw [hWc];exact isSome_setCells _ _ _ _ (fun t ht=>hN _ (by rw [hvl] at ht;omega)) _ (hN _ (by rw [hdl] at hj;omega)))
   (fun j hj=>by rw [hWf,World.frozen?_setCells];exact hNf _) (fun v hv=>h1c v (List.mem_of_mem_drop hv))
  rwa [hmin] at this
 have hGn:n+1≤G:=by rw [hG];exact grownCap_ge w _ _ _
 have hG63:G≤9223372036854775807:=by
  have:=grownCap_le_maxLen w (n+1) c 69 (by unfold maxLen;omega)
  rw [← hG] at this
  unfold maxLen at this
  omega
 have hGi:¬ (G=p):=by omega
 have hGim:¬ (G=p+1):=by omega
 have hci:¬ (c=p):=by omega
 have hw1:IntKind.i64.wrap ((p:Int)+1)=(p:Int)+1:=by rw [IntKind.wrap_i64];omega
 have hw2:IntKind.i64.wrap ((n:Int)+1)=(n:Int)+1:=by rw [IntKind.wrap_i64];omega
 have hw3:IntKind.i64.wrap ((n:Int)+1-(p:Int))=(n:Int)+1-(p:Int):=by rw [IntKind.wrap_i64];omega
 have hb1:(0:Int)≤(p:Int)+1:=by omega
 have hin:p≤n:=by omega
 have htn:((p:Int)+1).toNat=p+1:=by omega
 have hb3:(p:Int)≤(n:Int):=by omega
 have mixed:Tryz.prog.follows .mixedOrders=true:=zad
 have hE1:∀ x,((w.alloc (.cells ROW 69)).drew).cell? x=W1.cell? x:=fun x=>by rw [hW1];rfl
 have hE2:∀ x,((w.alloc (.cells ROW 69)).drew).frozen? x=W1.frozen? x:=fun x=>by rw [hW1];rfl
 have hcA3:=hcpA (w.alloc (.cells ROW 69)).drew hE1 hE2 3 (n+1-p) (G-p) (by omega)
 have hcB3:=hcpB ((w.alloc (.cells ROW 69)).drew.setCells w.heap.size (p * 2) vs).drew (fun x=>by rw [hW1];rfl) (fun x=>by rw [hW1];rfl) 3 (n-p) (G-(p+1)) (n-p) (c-p) rfl (by omega)
 clear hkk hik hold hROW hG hRl
 rw [hW1] at hrz
 go_enter Tryz.func52,Tryz.ntmps52
 go_wp2_with (first
  | (at_builtin;refine Lib.wpList_append_run _ rfl _ _ _ _ rfl _ _ rfl rfl _ _ (hrz _) ?_)
  | (at_builtin;refine wpList_copy_runI _ rfl _ _ 22 22 rfl _ _ rfl rfl hcA3 ?_))
 go_region_law_o (refine step_copy_runI rfl _ _ 22 22 rfl (.slice (some ⟨w.heap.size,(p+1) * 2,none⟩) (n-p) (G-(p+1))) (.slice (some ⟨b,p * 2,none⟩) (n-p) (c-p)) (by simp [Act.eval,Act.put]) (by simp [Act.eval,Act.put]) hcB3 ?_)
 go_wp2
 go_ret
 exact ⟨rfl,rfl⟩
set_option maxHeartbeats 4000000 in
set_option maxRecDepth 100000 in
theorem ins_end (A:Option Addr) (n c vb vo:Nat) (w w':World) (r:Value) (hA:(A=none∧n=0∧c=0)∨∃ b,A=some ⟨b,0,none⟩) (hnc:n≤c)
  (hrun:(Builtin.append_ #[22,22] 22 #[.slice A n c,.slice (some ⟨vb,vo,none⟩) 1 1]).run Tryz.prog w=.ok r w') :
  Calls Tryz.prog 52 #[.slice A n c,.int .i64 n,.slice (some ⟨vb,vo,none⟩) 1 1] w fun e w2=>e=.returned r∧w2=w':=by
 have hz1:¬ ((1:Int)=0):=by omega
 rcases hA with ⟨rfl,rfl,rfl⟩|⟨b,rfl⟩
 ·go_enter Tryz.func52,Tryz.ntmps52
  go_wp2_with (at_builtin;refine Lib.wpList_append_run _ rfl _ _ _ _ rfl _ _ rfl rfl _ _ hrun ?_)
  go_ret
  exact ⟨rfl,rfl⟩
 ·go_enter Tryz.func52,Tryz.ntmps52
  go_wp2_with (at_builtin;refine Lib.wpList_append_run _ rfl _ _ _ _ rfl _ _ rfl rfl _ _ hrun ?_)
  all_goals (go_ret;exact ⟨rfl,rfl⟩)
end
end Go.Proofs.YtgopbbkpcjgihaaGreat
