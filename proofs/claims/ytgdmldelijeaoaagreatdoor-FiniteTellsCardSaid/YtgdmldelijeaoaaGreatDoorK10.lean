/- A text of the proof: the parts VG41, VH41, VI41, VJ41, AK41, LA41, LB41, YS41, LC41, LD41, AL41. -/
import Derived.Shelf.SlSortCmp.NoneTotal
import Derived.Shelf.SlSortCmp.WholeK
import Derived.Test.YtgdmldelijeaoaaGreatDoorK9
set_option linter.unusedSimpArgs false
set_option linter.unusedVariables false
set_option maxHeartbeats 8000000
namespace Go.Proofs.YtgdmldelijeaoaaGreatDoor
open Go.Vsi
section
attribute [local irreducible] VW VCall VO bits
mutual
def rT:Tm→Bool
 | .mk v s l=>if v then decide (l.length=0)&&isVar s else rTs l&&(isFun s&&decide (l.length≤4))
def rTs:List Tm→Bool
 | []=>true
 | x::l=>rT x&&rTs l
end
theorem rTs_all:∀ l:List Tm,rTs l=l.all rT
 | []=>by unfold rTs;rfl
 | x::l=>by unfold rTs;rw [rTs_all l];rfl
def rowB (op:Nat) (s:ByteArray) (n k:Nat):Bool:=decide (op<17)&&(rowK op&&(zg9 (rowN op) s&&(decide (n≤rowA op)&&decide (k=rowS op))))
mutual
def rfF:Fo→Bool
 | .mk op s l m=>rowB op s l.length m.length&&(rTs l&&rfFs m)
def rfFs:List Fo→Bool
 | []=>true
 | x::l=>rfF x&&rfFs l
end
theorem rfFs_all:∀ l:List Fo,rfFs l=l.all rfF
 | []=>by unfold rfFs;rfl
 | x::l=>by unfold rfFs;rw [rfFs_all l];rfl
def RtP (x:Tm):Prop:=∀ H,VDet Tryz.prog 182 [.agg x.cells,.bool false] H (.bool (rT x))
theorem rt_step (v:Bool) (s:ByteArray) (l:List Tm) (hs:s.size≤9223372036854775807) (hll:l.length≤9223372036854775807) (ih:∀ x∈l,RtP x):RtP (.mk v s l):=by
 intro H
 have hv:=refVar_c s hs
 have hf:=refFun_c s hs
 have hr:rT (.mk v s l)=if v then decide (l.length=0)&&isVar s else l.all rT&&(isFun s&&decide (l.length≤4)):=by
  rw [← rTs_all]
  unfold rT
  rfl
 rw [hr,zav]
 generalize isVar s=bv at *
 generalize isFun s=bf at *
 cases v with
 | true =>
   simp only [if_true]
   generalize l.flatMap Tm.cells=lc at *
   by_cases h0:l.length=0
   ·rw [decide_eq_true h0]
    refine fdD Tryz.func182 ⟨rfl,rfl,rfl⟩ fun hcl hbl=>?_
    (repeat' ((conv=>whnf);(first|(refine yai ?_;first|refine yaq rfl ?_|refine yau rfl ?_|refine yar (by omega) ?_|(refine IfN.mk ?_ ?_ <;> intro _)|fail)|refine yab _ (hv _) ?_|fail)));all_goals (conv=>whnf)
    all_goals exact ya2 trivial (zaf (by cases bv <;> simp_all))
   ·rw [decide_eq_false h0]
    refine fdD Tryz.func182 ⟨rfl,rfl,rfl⟩ fun hcl hbl=>?_
    (repeat' ((conv=>whnf);(first|(refine yai ?_;first|refine yaq rfl ?_|refine ya1 (by omega) ?_|fail)|fail)));conv=>whnf
    all_goals exact eT trivial
 | false =>
   simp only [yba,if_false]
   refine fdD Tryz.func182 ⟨rfl,rfl,rfl⟩ fun hcl hbl=>?_
   (repeat' ((conv=>whnf);(first|refine yau rfl ?_|fail)));conv=>whnf
   refine zax Tryz.E0 zag (σ:=Nat) (fun k=>k≤l.length∧∀ y∈l.take k,rT y=true) (fun k=>l.length-k) (fun k=>[(5,.v (.int .i64 k))]) (fun _=>_) _ 0 rfl hcl [1,2] rfl ⟨yah _,fun y hy=>(by cases hy)⟩ ⟨⟨_,rfl,yae _⟩,trivial⟩ rfl (fun _ _=>rfl) ?_
   rintro k ⟨hk,hinv⟩
   rcases yag k l.length with hlt|hge
   ·have hc:=ih _ (zar l k tm0 hlt)
    unfold RtP at hc
    obtain ⟨w1,w2,w3,w4,hw,hb⟩:=zc1 (l.getD k tm0)
    rw [hw] at hc
    cases ht:rT (l.getD k tm0) <;> rw [ht] at hc
    ·rw [zcj tm0 hlt ht,ya0]
     (repeat' ((conv=>whnf);(first|(refine yai ?_;first|refine yas ?_|refine yau rfl ?_|refine yar (by omega) ?_|fail)|(refine yaf ?_ ?_;· first|omega|exact yaa _ _|fail)|refine yab _ (hc _) ?_|refine zaa tm0 k rfl (by omega) zba hw ?_|fail)));conv=>whnf
     exact eT trivial
    ·(repeat' ((conv=>whnf);(first|(refine yai ?_;first|refine yas ?_|refine yaq rfl ?_|refine yar (by omega) ?_|fail)|(refine zad _ _ Cst.h Cst.h ?_ ?_;· omega)|(refine yaf ?_ ?_;· first|omega|exact yaa _ _|fail)|refine yab _ (hc _) ?_|refine zaa tm0 k rfl (by omega) zba hw ?_|fail)));conv=>whnf
     (refine ⟨⟨k+1,⟨by omega,zbt tm0 hlt hinv ht⟩,by omega,?_,.inl ⟨rfl,rfl⟩,rfl,_,rfl,?_⟩⟩;rotate_left 1;exact .inl rfl;exact ⟨⟨_,rfl,yae _⟩,trivial⟩)
   ·have:k=l.length:=by omega
    subst this
    rw [ya3] at hinv
    rw [yao.2 hinv,ya9]
    cases bf with
    | false =>
      (repeat' ((conv=>whnf);(first|(refine yai ?_;first|refine yau rfl ?_|refine ya1 (by omega) ?_|fail)|refine yab _ (hf _) ?_|fail)));conv=>whnf
      exact eT trivial
    | true =>
      by_cases h4:l.length≤4
      ·rw [decide_eq_true h4]
       (repeat' ((conv=>whnf);(first|(refine yai ?_;first|refine yaq rfl ?_|refine ya1 (by omega) ?_|fail)|refine yab _ (hf _) ?_|fail)));conv=>whnf
       exact ya2 trivial (zaf (congrArg AV.bool (decide_eq_true (by omega))))
      ·rw [decide_eq_false h4]
       (repeat' ((conv=>whnf);(first|(refine yai ?_;first|refine yaq rfl ?_|refine ya1 (by omega) ?_|fail)|refine yab _ (hf _) ?_|fail)));conv=>whnf
       exact ya2 trivial (zaf (congrArg AV.bool (decide_eq_false (by omega))))
mutual
theorem rt_c:∀ x:Tm,x.good→RtP x
 | .mk v s l,h=>rt_step v s l (zaz h.1) (zaz h.2.1) (rts_all l h.2.2)
theorem rts_all:∀ l:List Tm,Tm.goodL l→∀ x∈l,RtP x
 | [],_,x,hx=>by cases hx
 | y::l,h,x,hx=>by
   rcases yay.1 hx with e|hx
   ·rw [e]
    exact rt_c y h.1
   ·exact rts_all l h.2 x hx
end
theorem refTerm_c (x:Tm) (hx:x.good) (H:Heap):VDet Tryz.prog 126 [.agg x.cells] H (.bool (rT x)):=by
 have h1:∀ H,VDet Tryz.prog 182 [.agg x.cells,.bool false] H (.bool (rT x)):=fun H=>rt_c x hx H
 obtain ⟨w1,w2,w3,w4,hw,hb⟩:=zc1 x
 rw [hw] at h1 ⊢
 refine fdD Tryz.func126 ⟨rfl,rfl,rfl⟩ fun hcl hbl=>?_
 (repeat' ((conv=>whnf);(first|refine yab _ (h1 _) ?_|fail)));conv=>whnf
 exact eT trivial
theorem row1_c (op:Nat) (h:op=1) (s:ByteArray) (hs:s.size≤9223372036854775807) (n k:Nat) (hn0:n≤9223372036854775807) (hk0:k≤9223372036854775807) (L M:List AV) (H:Heap):VDet Tryz.prog 226 [.agg [.int .u8 op,.str s,.sl none n L,.sl none k M],.bool false] H (.bool (rowB op s n k)):=by
 have hv:rowB op s n k=(ze8 s&&(decide (n≤4)&&decide (k=0))):=by subst h;rfl
 rw [hv]
 have hn:=refPred_c s hs
 generalize ze8 s=nb at *
 cases nb with
 | false =>
   subst h;(refine fdD Tryz.func226 ⟨rfl,rfl,rfl⟩ fun hcl hbl=>?_;((repeat' ((conv=>whnf);(first|(refine yai ?_;first|refine yaq rfl ?_|refine yau rfl ?_|fail)|refine yab _ (hn _) ?_|fail)));conv=>whnf);all_goals first|exact eT trivial|exact ya2 trivial (zaf (congrArg AV.bool (beq_iff_eq.2 (by omega))))|exact ya2 trivial (zaf (congrArg AV.bool (beq_eq_false_iff_ne.2 (by omega))))|fail)
 | true =>
   by_cases h1:n≤4
   ·by_cases h2:k=0
    ·rw [decide_eq_true h1,decide_eq_true h2]
     subst h;(refine fdD Tryz.func226 ⟨rfl,rfl,rfl⟩ fun hcl hbl=>?_;((repeat' ((conv=>whnf);(first|(refine yai ?_;first|refine yaq rfl ?_|refine yar (by omega) ?_|fail)|refine yab _ (hn _) ?_|fail)));conv=>whnf);all_goals first|exact eT trivial|exact ya2 trivial (zaf (congrArg AV.bool (beq_iff_eq.2 (by omega))))|exact ya2 trivial (zaf (congrArg AV.bool (beq_eq_false_iff_ne.2 (by omega))))|fail)
    ·rw [decide_eq_true h1,decide_eq_false h2]
     subst h;(refine fdD Tryz.func226 ⟨rfl,rfl,rfl⟩ fun hcl hbl=>?_;((repeat' ((conv=>whnf);(first|(refine yai ?_;first|refine yaq rfl ?_|refine yar (by omega) ?_|fail)|refine yab _ (hn _) ?_|fail)));conv=>whnf);all_goals first|exact eT trivial|exact ya2 trivial (zaf (congrArg AV.bool (beq_iff_eq.2 (by omega))))|exact ya2 trivial (zaf (congrArg AV.bool (beq_eq_false_iff_ne.2 (by omega))))|fail)
   ·rw [decide_eq_false h1]
    subst h;(refine fdD Tryz.func226 ⟨rfl,rfl,rfl⟩ fun hcl hbl=>?_;((repeat' ((conv=>whnf);(first|(refine yai ?_;first|refine yaq rfl ?_|refine ya1 (by omega) ?_|fail)|refine yab _ (hn _) ?_|fail)));conv=>whnf);all_goals first|exact eT trivial|exact ya2 trivial (zaf (congrArg AV.bool (beq_iff_eq.2 (by omega))))|exact ya2 trivial (zaf (congrArg AV.bool (beq_eq_false_iff_ne.2 (by omega))))|fail)
theorem row2_c (op:Nat) (h:op=2) (s:ByteArray) (hs:s.size≤9223372036854775807) (n k:Nat) (hn0:n≤9223372036854775807) (hk0:k≤9223372036854775807) (L M:List AV) (H:Heap):VDet Tryz.prog 226 [.agg [.int .u8 op,.str s,.sl none n L,.sl none k M],.bool false] H (.bool (rowB op s n k)):=by
 have hv:rowB op s n k=(zfb s&&(decide (n≤0)&&decide (k=0))):=by subst h;rfl
 rw [hv]
 have e0:(s.toList==(ByteArray.mk #[]).toList)=zfb s:=rfl
 generalize zfb s=nb at *
 cases nb with
 | false =>
   subst h;(refine fdD Tryz.func226 ⟨rfl,rfl,rfl⟩ fun hcl hbl=>?_;((repeat' ((conv=>whnf);(first|(refine yai ?_;first|refine yau e0 ?_|refine yaq rfl ?_|refine yau rfl ?_|fail)|fail)));conv=>whnf);all_goals first|exact eT trivial|exact ya2 trivial (zaf (congrArg AV.bool (beq_iff_eq.2 (by omega))))|exact ya2 trivial (zaf (congrArg AV.bool (beq_eq_false_iff_ne.2 (by omega))))|fail)
 | true =>
   by_cases h1:n≤0
   ·by_cases h2:k=0
    ·rw [decide_eq_true h1,decide_eq_true h2]
     subst h;(refine fdD Tryz.func226 ⟨rfl,rfl,rfl⟩ fun hcl hbl=>?_;((repeat' ((conv=>whnf);(first|(refine yai ?_;first|refine yaq e0 ?_|refine yaq rfl ?_|refine yau rfl ?_|refine yar (by omega) ?_|fail)|fail)));conv=>whnf);all_goals first|exact eT trivial|exact ya2 trivial (zaf (congrArg AV.bool (beq_iff_eq.2 (by omega))))|exact ya2 trivial (zaf (congrArg AV.bool (beq_eq_false_iff_ne.2 (by omega))))|fail)
    ·rw [decide_eq_true h1,decide_eq_false h2]
     subst h;(refine fdD Tryz.func226 ⟨rfl,rfl,rfl⟩ fun hcl hbl=>?_;((repeat' ((conv=>whnf);(first|(refine yai ?_;first|refine yaq e0 ?_|refine yaq rfl ?_|refine yau rfl ?_|refine yar (by omega) ?_|fail)|fail)));conv=>whnf);all_goals first|exact eT trivial|exact ya2 trivial (zaf (congrArg AV.bool (beq_iff_eq.2 (by omega))))|exact ya2 trivial (zaf (congrArg AV.bool (beq_eq_false_iff_ne.2 (by omega))))|fail)
   ·rw [decide_eq_false h1]
    subst h;(refine fdD Tryz.func226 ⟨rfl,rfl,rfl⟩ fun hcl hbl=>?_;((repeat' ((conv=>whnf);(first|(refine yai ?_;first|refine yaq e0 ?_|refine yaq rfl ?_|refine yau rfl ?_|refine ya1 (by omega) ?_|fail)|fail)));conv=>whnf);all_goals first|exact eT trivial|exact ya2 trivial (zaf (congrArg AV.bool (beq_iff_eq.2 (by omega))))|exact ya2 trivial (zaf (congrArg AV.bool (beq_eq_false_iff_ne.2 (by omega))))|fail)
theorem row3_c (op:Nat) (h:op=3∨op=10∨op=11∨op=12∨op=13) (s:ByteArray) (hs:s.size≤9223372036854775807) (n k:Nat) (hn0:n≤9223372036854775807) (hk0:k≤9223372036854775807) (L M:List AV) (H:Heap):VDet Tryz.prog 226 [.agg [.int .u8 op,.str s,.sl none n L,.sl none k M],.bool false] H (.bool (rowB op s n k)):=by
 have hv:rowB op s n k=(zfb s&&(decide (n≤0)&&decide (k=1))):=by rcases h with rfl|rfl|rfl|rfl|rfl <;> rfl
 rw [hv]
 have e0:(s.toList==(ByteArray.mk #[]).toList)=zfb s:=rfl
 generalize zfb s=nb at *
 cases nb with
 | false =>
   rcases h with rfl|rfl|rfl|rfl|rfl <;> (refine fdD Tryz.func226 ⟨rfl,rfl,rfl⟩ fun hcl hbl=>?_;((repeat' ((conv=>whnf);(first|(refine yai ?_;first|refine yau e0 ?_|refine yaq rfl ?_|refine yau rfl ?_|fail)|fail)));all_goals (conv=>whnf));all_goals first|exact eT trivial|exact ya2 trivial (zaf (congrArg AV.bool (beq_iff_eq.2 (by omega))))|exact ya2 trivial (zaf (congrArg AV.bool (beq_eq_false_iff_ne.2 (by omega))))|fail)
 | true =>
   by_cases h1:n≤0
   ·by_cases h2:k=1
    ·rw [decide_eq_true h1,decide_eq_true h2]
     rcases h with rfl|rfl|rfl|rfl|rfl <;> (refine fdD Tryz.func226 ⟨rfl,rfl,rfl⟩ fun hcl hbl=>?_;((repeat' ((conv=>whnf);(first|(refine yai ?_;first|refine yaq e0 ?_|refine yaq rfl ?_|refine yau rfl ?_|refine yar (by omega) ?_|fail)|fail)));all_goals (conv=>whnf));all_goals first|exact eT trivial|exact ya2 trivial (zaf (congrArg AV.bool (beq_iff_eq.2 (by omega))))|exact ya2 trivial (zaf (congrArg AV.bool (beq_eq_false_iff_ne.2 (by omega))))|fail)
    ·rw [decide_eq_true h1,decide_eq_false h2]
     rcases h with rfl|rfl|rfl|rfl|rfl <;> (refine fdD Tryz.func226 ⟨rfl,rfl,rfl⟩ fun hcl hbl=>?_;((repeat' ((conv=>whnf);(first|(refine yai ?_;first|refine yaq e0 ?_|refine yaq rfl ?_|refine yau rfl ?_|refine yar (by omega) ?_|fail)|fail)));all_goals (conv=>whnf));all_goals first|exact eT trivial|exact ya2 trivial (zaf (congrArg AV.bool (beq_iff_eq.2 (by omega))))|exact ya2 trivial (zaf (congrArg AV.bool (beq_eq_false_iff_ne.2 (by omega))))|fail)
   ·rw [decide_eq_false h1]
    rcases h with rfl|rfl|rfl|rfl|rfl <;> (refine fdD Tryz.func226 ⟨rfl,rfl,rfl⟩ fun hcl hbl=>?_;((repeat' ((conv=>whnf);(first|(refine yai ?_;first|refine yaq e0 ?_|refine yaq rfl ?_|refine yau rfl ?_|refine ya1 (by omega) ?_|fail)|fail)));all_goals (conv=>whnf));all_goals first|exact eT trivial|exact ya2 trivial (zaf (congrArg AV.bool (beq_iff_eq.2 (by omega))))|exact ya2 trivial (zaf (congrArg AV.bool (beq_eq_false_iff_ne.2 (by omega))))|fail)
theorem row4_c (op:Nat) (h:op=4∨op=5∨op=6∨op=7∨op=14) (s:ByteArray) (hs:s.size≤9223372036854775807) (n k:Nat) (hn0:n≤9223372036854775807) (hk0:k≤9223372036854775807) (L M:List AV) (H:Heap):VDet Tryz.prog 226 [.agg [.int .u8 op,.str s,.sl none n L,.sl none k M],.bool false] H (.bool (rowB op s n k)):=by
 have hv:rowB op s n k=(zfb s&&(decide (n≤0)&&decide (k=2))):=by rcases h with rfl|rfl|rfl|rfl|rfl <;> rfl
 rw [hv]
 have e0:(s.toList==(ByteArray.mk #[]).toList)=zfb s:=rfl
 generalize zfb s=nb at *
 cases nb with
 | false =>
   rcases h with rfl|rfl|rfl|rfl|rfl <;> (refine fdD Tryz.func226 ⟨rfl,rfl,rfl⟩ fun hcl hbl=>?_;((repeat' ((conv=>whnf);(first|(refine yai ?_;first|refine yau e0 ?_|refine yaq rfl ?_|refine yau rfl ?_|fail)|fail)));all_goals (conv=>whnf));all_goals first|exact eT trivial|exact ya2 trivial (zaf (congrArg AV.bool (beq_iff_eq.2 (by omega))))|exact ya2 trivial (zaf (congrArg AV.bool (beq_eq_false_iff_ne.2 (by omega))))|fail)
 | true =>
   by_cases h1:n≤0
   ·by_cases h2:k=2
    ·rw [decide_eq_true h1,decide_eq_true h2]
     rcases h with rfl|rfl|rfl|rfl|rfl <;> (refine fdD Tryz.func226 ⟨rfl,rfl,rfl⟩ fun hcl hbl=>?_;((repeat' ((conv=>whnf);(first|(refine yai ?_;first|refine yaq e0 ?_|refine yaq rfl ?_|refine yau rfl ?_|refine yar (by omega) ?_|fail)|fail)));all_goals (conv=>whnf));all_goals first|exact eT trivial|exact ya2 trivial (zaf (congrArg AV.bool (beq_iff_eq.2 (by omega))))|exact ya2 trivial (zaf (congrArg AV.bool (beq_eq_false_iff_ne.2 (by omega))))|fail)
    ·rw [decide_eq_true h1,decide_eq_false h2]
     rcases h with rfl|rfl|rfl|rfl|rfl <;> (refine fdD Tryz.func226 ⟨rfl,rfl,rfl⟩ fun hcl hbl=>?_;((repeat' ((conv=>whnf);(first|(refine yai ?_;first|refine yaq e0 ?_|refine yaq rfl ?_|refine yau rfl ?_|refine yar (by omega) ?_|fail)|fail)));all_goals (conv=>whnf));all_goals first|exact eT trivial|exact ya2 trivial (zaf (congrArg AV.bool (beq_iff_eq.2 (by omega))))|exact ya2 trivial (zaf (congrArg AV.bool (beq_eq_false_iff_ne.2 (by omega))))|fail)
   ·rw [decide_eq_false h1]
    rcases h with rfl|rfl|rfl|rfl|rfl <;> (refine fdD Tryz.func226 ⟨rfl,rfl,rfl⟩ fun hcl hbl=>?_;((repeat' ((conv=>whnf);(first|(refine yai ?_;first|refine yaq e0 ?_|refine yaq rfl ?_|refine yau rfl ?_|refine ya1 (by omega) ?_|fail)|fail)));all_goals (conv=>whnf));all_goals first|exact eT trivial|exact ya2 trivial (zaf (congrArg AV.bool (beq_iff_eq.2 (by omega))))|exact ya2 trivial (zaf (congrArg AV.bool (beq_eq_false_iff_ne.2 (by omega))))|fail)
theorem row8_c (op:Nat) (h:op=8∨op=9) (s:ByteArray) (hs:s.size≤9223372036854775807) (n k:Nat) (hn0:n≤9223372036854775807) (hk0:k≤9223372036854775807) (L M:List AV) (H:Heap):VDet Tryz.prog 226 [.agg [.int .u8 op,.str s,.sl none n L,.sl none k M],.bool false] H (.bool (rowB op s n k)):=by
 have hv:rowB op s n k=(isVar s&&(decide (n≤0)&&decide (k=1))):=by rcases h with rfl|rfl <;> rfl
 rw [hv]
 have hn:=refVar_c s hs
 generalize isVar s=nb at *
 cases nb with
 | false =>
   rcases h with rfl|rfl <;> (refine fdD Tryz.func226 ⟨rfl,rfl,rfl⟩ fun hcl hbl=>?_;((repeat' ((conv=>whnf);(first|(refine yai ?_;first|refine yaq rfl ?_|refine yau rfl ?_|fail)|refine yab _ (hn _) ?_|fail)));all_goals (conv=>whnf));all_goals first|exact eT trivial|exact ya2 trivial (zaf (congrArg AV.bool (beq_iff_eq.2 (by omega))))|exact ya2 trivial (zaf (congrArg AV.bool (beq_eq_false_iff_ne.2 (by omega))))|fail)
 | true =>
   by_cases h1:n≤0
   ·by_cases h2:k=1
    ·rw [decide_eq_true h1,decide_eq_true h2]
     rcases h with rfl|rfl <;> (refine fdD Tryz.func226 ⟨rfl,rfl,rfl⟩ fun hcl hbl=>?_;((repeat' ((conv=>whnf);(first|(refine yai ?_;first|refine yaq rfl ?_|refine yau rfl ?_|refine yar (by omega) ?_|fail)|refine yab _ (hn _) ?_|fail)));all_goals (conv=>whnf));all_goals first|exact eT trivial|exact ya2 trivial (zaf (congrArg AV.bool (beq_iff_eq.2 (by omega))))|exact ya2 trivial (zaf (congrArg AV.bool (beq_eq_false_iff_ne.2 (by omega))))|fail)
    ·rw [decide_eq_true h1,decide_eq_false h2]
     rcases h with rfl|rfl <;> (refine fdD Tryz.func226 ⟨rfl,rfl,rfl⟩ fun hcl hbl=>?_;((repeat' ((conv=>whnf);(first|(refine yai ?_;first|refine yaq rfl ?_|refine yau rfl ?_|refine yar (by omega) ?_|fail)|refine yab _ (hn _) ?_|fail)));all_goals (conv=>whnf));all_goals first|exact eT trivial|exact ya2 trivial (zaf (congrArg AV.bool (beq_iff_eq.2 (by omega))))|exact ya2 trivial (zaf (congrArg AV.bool (beq_eq_false_iff_ne.2 (by omega))))|fail)
   ·rw [decide_eq_false h1]
    rcases h with rfl|rfl <;> (refine fdD Tryz.func226 ⟨rfl,rfl,rfl⟩ fun hcl hbl=>?_;((repeat' ((conv=>whnf);(first|(refine yai ?_;first|refine yaq rfl ?_|refine yau rfl ?_|refine ya1 (by omega) ?_|fail)|refine yab _ (hn _) ?_|fail)));all_goals (conv=>whnf));all_goals first|exact eT trivial|exact ya2 trivial (zaf (congrArg AV.bool (beq_iff_eq.2 (by omega))))|exact ya2 trivial (zaf (congrArg AV.bool (beq_eq_false_iff_ne.2 (by omega))))|fail)
theorem row0_c (op:Nat) (hop:op≤255) (h:op=0∨15≤op) (s:ByteArray) (n k:Nat) (hn0:n≤9223372036854775807) (hk0:k≤9223372036854775807) (L M:List AV) (H:Heap):VDet Tryz.prog 226 [.agg [.int .u8 op,.str s,.sl none n L,.sl none k M],.bool false] H (.bool (rowB op s n k)):=by
 have hv:rowB op s n k=false:=by
  unfold rowB
  rcases yag op 17 with h17|h17
  ·have:op=0∨op=15∨op=16:=by omega
   rcases this with rfl|rfl|rfl <;> rfl
  ·rw [decide_eq_false (by omega)]
   rfl
 rw [hv]
 refine fdD Tryz.func226 ⟨rfl,rfl,rfl⟩ fun hcl hbl=>?_
 (repeat' ((conv=>whnf);(first|(refine yai ?_;first|refine yau rfl ?_|refine ya1 (by omega) ?_|refine zcy (fun _=>?_) (fun _=>?_)|fail)|fail)));all_goals (conv=>whnf)
 all_goals exact eT trivial
theorem row_c (op:Nat) (hop:op≤255) (s:ByteArray) (hs:s.size≤9223372036854775807) (n k:Nat) (hn0:n≤9223372036854775807) (hk0:k≤9223372036854775807) (L M:List AV) (H:Heap):VDet Tryz.prog 226 [.agg [.int .u8 op,.str s,.sl none n L,.sl none k M],.bool false] H (.bool (rowB op s n k)):=by
 by_cases h1:op=1
 ·exact row1_c op h1 s hs n k hn0 hk0 L M H
 by_cases h2:op=2
 ·exact row2_c op h2 s hs n k hn0 hk0 L M H
 by_cases h3:op=3∨op=10∨op=11∨op=12∨op=13
 ·exact row3_c op h3 s hs n k hn0 hk0 L M H
 by_cases h4:op=4∨op=5∨op=6∨op=7∨op=14
 ·exact row4_c op h4 s hs n k hn0 hk0 L M H
 by_cases h8:op=8∨op=9
 ·exact row8_c op h8 s hs n k hn0 hk0 L M H
 exact row0_c op hop (by omega) s n k hn0 hk0 L M H
def RfP (x:Fo):Prop:=∀ H,VDet Tryz.prog 183 [.agg x.cells,.bool false] H (.bool (rfF x))
theorem rf_step (op:Nat) (s:ByteArray) (l:List Tm) (m:List Fo) (hop:op≤255) (hs:s.size≤9223372036854775807) (hll:l.length≤9223372036854775807) (hml:m.length≤9223372036854775807) (iht:∀ x∈l,RtP x) (ih:∀ x∈m,RfP x):RfP (.mk op s l m):=by
 intro H
 have h0:=row_c op hop s hs l.length m.length hll hml (l.flatMap Tm.cells) (m.flatMap Fo.cells)
 have hr:rfF (.mk op s l m)=(rowB op s l.length m.length&&(l.all rT&&m.all rfF)):=by
  rw [← rTs_all,← rfFs_all]
  unfold rfF
  rfl
 rw [hr,zaq]
 generalize rowB op s l.length m.length=b0 at *
 cases b0 with
 | false =>
   have hb:=fun n=>zan n m
   have hb2:=fun n=>zal n l
   generalize l.flatMap Tm.cells=lc at *
   generalize m.flatMap Fo.cells=mc at *
   refine fdD Tryz.func183 ⟨rfl,rfl,rfl⟩ fun hcl hbl=>?_
   (repeat' ((conv=>whnf);(first|(refine yai ?_;first|refine yas ?_|refine yau rfl ?_|fail)|refine yab _ (h0 _) ?_|fail)));conv=>whnf
   exact eT trivial
 | true =>
   rw [ya9]
   refine fdD Tryz.func183 ⟨rfl,rfl,rfl⟩ fun hcl hbl=>?_
   (repeat' ((conv=>whnf);(first|(refine yai ?_;first|refine yas ?_|refine yaq rfl ?_|fail)|refine yab _ (h0 _) ?_|fail)));conv=>whnf
   refine zax Tryz.E0 zag (σ:=Nat) (fun k=>k≤l.length∧∀ y∈l.take k,rT y=true) (fun k=>l.length-k) (fun k=>[(5,.v (.int .i64 k))]) (fun _=>_) _ 0 rfl hcl [1,2] rfl ⟨yah _,fun y hy=>(by cases hy)⟩ ⟨⟨_,rfl,yae _⟩,trivial⟩ rfl (fun _ _=>rfl) ?_
   rintro k ⟨hk,hinv⟩
   rcases yag k l.length with hlt|hge
   ·have hc:=iht _ (zar l k tm0 hlt)
    unfold RtP at hc
    obtain ⟨w1,w2,w3,w4,hw,hb⟩:=zc1 (l.getD k tm0)
    rw [hw] at hc
    cases ht:rT (l.getD k tm0) <;> rw [ht] at hc
    ·rw [zcj tm0 hlt ht,ya0]
     (repeat' ((conv=>whnf);(first|(refine yai ?_;first|refine yas ?_|refine yau rfl ?_|refine yar (by omega) ?_|fail)|(refine yaf ?_ ?_;· first|omega|exact yaa _ _|fail)|refine yab _ (hc _) ?_|refine zaa tm0 k rfl (by omega) zba hw ?_|fail)));conv=>whnf
     exact eT trivial
    ·(repeat' ((conv=>whnf);(first|(refine yai ?_;first|refine yas ?_|refine yaq rfl ?_|refine yar (by omega) ?_|fail)|(refine zad _ _ Cst.h Cst.h ?_ ?_;· omega)|(refine yaf ?_ ?_;· first|omega|exact yaa _ _|fail)|refine yab _ (hc _) ?_|refine zaa tm0 k rfl (by omega) zba hw ?_|fail)));conv=>whnf
     (refine ⟨⟨k+1,⟨by omega,zbt tm0 hlt hinv ht⟩,by omega,?_,.inl ⟨rfl,rfl⟩,rfl,_,rfl,?_⟩⟩;rotate_left 1;exact .inl rfl;exact ⟨⟨_,rfl,yae _⟩,trivial⟩)
   ·have:k=l.length:=by omega
    subst this
    rw [ya3] at hinv
    rw [yao.2 hinv,ya9]
    (repeat' ((conv=>whnf);(first|refine ya1 (by omega) ?_|fail)));conv=>whnf
    refine zax Tryz.E0 zag (σ:=Nat) (fun k=>k≤m.length∧∀ y∈m.take k,rfF y=true) (fun k=>m.length-k) (fun k=>[(6,.v (.int .i64 k))]) (fun _=>_) _ 0 rfl hcl [1,2] rfl ⟨yah _,fun y hy=>(by cases hy)⟩ ⟨⟨_,rfl,yae _⟩,trivial⟩ rfl (fun _ _=>rfl) ?_
    rintro k ⟨hk,hinv⟩
    rcases yag k m.length with hlt|hge
    ·have hc:=ih _ (zar m k fo0 hlt)
     unfold RfP at hc
     obtain ⟨w1,w2,w3,w4,w5,w6,hw,hb⟩:=zbz (m.getD k fo0)
     rw [hw] at hc
     cases ht:rfF (m.getD k fo0) <;> rw [ht] at hc
     ·rw [zcj fo0 hlt ht]
      (repeat' ((conv=>whnf);(first|(refine yai ?_;first|refine yas ?_|refine yau rfl ?_|refine yar (by omega) ?_|fail)|(refine yaf ?_ ?_;· first|omega|exact yaa _ _|fail)|refine yab _ (hc _) ?_|refine zaa fo0 k rfl (by omega) za4 hw ?_|fail)));conv=>whnf
      exact eT trivial
     ·(repeat' ((conv=>whnf);(first|(refine yai ?_;first|refine yas ?_|refine yaq rfl ?_|refine yar (by omega) ?_|fail)|(refine zad _ _ Cst.h Cst.h ?_ ?_;· omega)|(refine yaf ?_ ?_;· first|omega|exact yaa _ _|fail)|refine yab _ (hc _) ?_|refine zaa fo0 k rfl (by omega) za4 hw ?_|fail)));conv=>whnf
      (refine ⟨⟨k+1,⟨by omega,zbt fo0 hlt hinv ht⟩,by omega,?_,.inl ⟨rfl,rfl⟩,rfl,_,rfl,?_⟩⟩;rotate_left 1;exact .inl rfl;exact ⟨⟨_,rfl,yae _⟩,trivial⟩)
    ·have:k=m.length:=by omega
     subst this
     rw [ya3] at hinv
     rw [yao.2 hinv]
     (repeat' ((conv=>whnf);(first|refine ya1 (by omega) ?_|fail)));conv=>whnf
     exact eT trivial
mutual
theorem rf_c:∀ x:Fo,x.good→RfP x
 | .mk op s l m,h=>rf_step op s l m h.1 (zaz h.2.1) (zaz h.2.2.1) (zaz h.2.2.2.2.1) (rts_all l h.2.2.2.1) (rfs_all m h.2.2.2.2.2)
theorem rfs_all:∀ l:List Fo,Fo.goodL l→∀ x∈l,RfP x
 | [],_,x,hx=>by cases hx
 | y::l,h,x,hx=>by
   rcases yay.1 hx with e|hx
   ·rw [e]
    exact rf_c y h.1
   ·exact rfs_all l h.2 x hx
end
def SmlP (x:Tm):Prop:=∀ H,VDet Tryz.prog 127 [.agg x.cells] H (.bool (tmR x))
theorem sml_step (v:Bool) (s:ByteArray) (l:List Tm) (hll:l.length≤9223372036854775807) (ih:∀ x∈l,SmlP x):SmlP (.mk v s l):=by
 intro H
 have hr:tmR (.mk v s l)=(decide (l.length≤1)&&l.all tmR):=by
  rw [← zef]
  unfold tmR
  rfl
 rw [hr,zav]
 by_cases h1:l.length≤1
 ·rw [decide_eq_true h1,ya9]
  refine fdD Tryz.func127 ⟨rfl,rfl,rfl⟩ fun hcl hbl=>?_
  (repeat' ((conv=>whnf);(first|refine ya1 (by omega) ?_|fail)));conv=>whnf
  refine zax Tryz.E0 zag (σ:=Nat) (fun k=>k≤l.length∧∀ y∈l.take k,tmR y=true) (fun k=>l.length-k) (fun k=>[(3,.v (.int .i64 k))]) (fun _=>_) _ 0 rfl hcl [1] rfl ⟨yah _,fun y hy=>(by cases hy)⟩ ⟨⟨_,rfl,yae _⟩,trivial⟩ rfl (fun _ _=>rfl) ?_
  rintro k ⟨hk,hinv⟩
  rcases yag k l.length with hlt|hge
  ·have hc:=ih _ (zar l k tm0 hlt)
   unfold SmlP at hc
   obtain ⟨w1,w2,w3,w4,hw,hb⟩:=zc1 (l.getD k tm0)
   rw [hw] at hc
   cases ht:tmR (l.getD k tm0) <;> rw [ht] at hc
   ·rw [zcj tm0 hlt ht]
    (repeat' ((conv=>whnf);(first|(refine yai ?_;first|refine yas ?_|refine yau rfl ?_|refine yar (by omega) ?_|fail)|(refine yaf ?_ ?_;· first|omega|exact yaa _ _|fail)|refine yab _ (hc _) ?_|refine zaa tm0 k rfl (by omega) zba hw ?_|fail)));conv=>whnf
    exact eT trivial
   ·(repeat' ((conv=>whnf);(first|(refine yai ?_;first|refine yas ?_|refine yaq rfl ?_|refine yar (by omega) ?_|fail)|(refine zad _ _ Cst.h Cst.h ?_ ?_;· omega)|(refine yaf ?_ ?_;· first|omega|exact yaa _ _|fail)|refine yab _ (hc _) ?_|refine zaa tm0 k rfl (by omega) zba hw ?_|fail)));conv=>whnf
    (refine ⟨⟨k+1,⟨by omega,zbt tm0 hlt hinv ht⟩,by omega,?_,.inl ⟨rfl,rfl⟩,rfl,_,rfl,?_⟩⟩;rotate_left 1;exact .inl rfl;exact ⟨⟨_,rfl,yae _⟩,trivial⟩)
  ·have:k=l.length:=by omega
   subst this
   rw [ya3] at hinv
   rw [yao.2 hinv]
   (repeat' ((conv=>whnf);(first|refine ya1 (by omega) ?_|fail)));conv=>whnf
   exact eT trivial
 ·rw [decide_eq_false h1,ya0]
  generalize l.flatMap Tm.cells=lc at *
  refine fdD Tryz.func127 ⟨rfl,rfl,rfl⟩ fun hcl hbl=>?_
  (repeat' ((conv=>whnf);(first|refine yar (by omega) ?_|fail)));conv=>whnf
  exact eT trivial
mutual
theorem sml_c:∀ x:Tm,x.good→SmlP x
 | .mk v s l,h=>sml_step v s l (zaz h.2.1) (smls_all l h.2.2)
theorem smls_all:∀ l:List Tm,Tm.goodL l→∀ x∈l,SmlP x
 | [],_,x,hx=>by cases hx
 | y::l,h,x,hx=>by
   rcases yay.1 hx with e|hx
   ·rw [e]
    exact sml_c y h.1
   ·exact smls_all l h.2 x hx
end
def PlnP (x:Fo):Prop:=∀ H,VDet Tryz.prog 130 [.agg x.cells] H (.bool (foR x))
theorem pln_step (op:Nat) (s:ByteArray) (l:List Tm) (m:List Fo) (hop:op≤255) (hll:l.length≤9223372036854775807) (hml:m.length≤9223372036854775807) (iht:∀ x∈l,SmlP x) (ih:∀ x∈m,PlnP x):PlnP (.mk op s l m):=by
 intro H
 have hr:foR (.mk op s l m)=(decide (1≤op∧op≤9∧l.length≤2)&&(l.all tmR&&m.all foR)):=by
  rw [← zef,← foRs_all]
  unfold foR
  rfl
 rw [hr,zaq]
 by_cases h1:1≤op∧op≤9∧l.length≤2
 ·rw [decide_eq_true h1,ya9]
  refine fdD Tryz.func130 ⟨rfl,rfl,rfl⟩ fun hcl hbl=>?_
  (repeat' ((conv=>whnf);(first|refine ya1 (by omega) ?_|fail)));conv=>whnf
  refine zax Tryz.E0 zag (σ:=Nat) (fun k=>k≤l.length∧∀ y∈l.take k,tmR y=true) (fun k=>l.length-k) (fun k=>[(3,.v (.int .i64 k))]) (fun _=>_) _ 0 rfl hcl [1] rfl ⟨yah _,fun y hy=>(by cases hy)⟩ ⟨⟨_,rfl,yae _⟩,trivial⟩ rfl (fun _ _=>rfl) ?_
  rintro k ⟨hk,hinv⟩
  rcases yag k l.length with hlt|hge
  ·have hc:=iht _ (zar l k tm0 hlt)
   unfold SmlP at hc
   obtain ⟨w1,w2,w3,w4,hw,hb⟩:=zc1 (l.getD k tm0)
   rw [hw] at hc
   cases ht:tmR (l.getD k tm0) <;> rw [ht] at hc
   ·rw [zcj tm0 hlt ht,ya0]
    (repeat' ((conv=>whnf);(first|(refine yai ?_;first|refine yas ?_|refine yau rfl ?_|refine yar (by omega) ?_|fail)|(refine yaf ?_ ?_;· first|omega|exact yaa _ _|fail)|refine yab _ (hc _) ?_|refine zaa tm0 k rfl (by omega) zba hw ?_|fail)));conv=>whnf
    exact eT trivial
   ·(repeat' ((conv=>whnf);(first|(refine yai ?_;first|refine yas ?_|refine yaq rfl ?_|refine yar (by omega) ?_|fail)|(refine zad _ _ Cst.h Cst.h ?_ ?_;· omega)|(refine yaf ?_ ?_;· first|omega|exact yaa _ _|fail)|refine yab _ (hc _) ?_|refine zaa tm0 k rfl (by omega) zba hw ?_|fail)));conv=>whnf
    (refine ⟨⟨k+1,⟨by omega,zbt tm0 hlt hinv ht⟩,by omega,?_,.inl ⟨rfl,rfl⟩,rfl,_,rfl,?_⟩⟩;rotate_left 1;exact .inl rfl;exact ⟨⟨_,rfl,yae _⟩,trivial⟩)
  ·have:k=l.length:=by omega
   subst this
   rw [ya3] at hinv
   rw [yao.2 hinv,ya9]
   (repeat' ((conv=>whnf);(first|refine ya1 (by omega) ?_|fail)));conv=>whnf
   refine zax Tryz.E0 zag (σ:=Nat) (fun k=>k≤m.length∧∀ y∈m.take k,foR y=true) (fun k=>m.length-k) (fun k=>[(4,.v (.int .i64 k))]) (fun _=>_) _ 0 rfl hcl [1] rfl ⟨yah _,fun y hy=>(by cases hy)⟩ ⟨⟨_,rfl,yae _⟩,trivial⟩ rfl (fun _ _=>rfl) ?_
   rintro k ⟨hk,hinv⟩
   rcases yag k m.length with hlt|hge
   ·have hc:=ih _ (zar m k fo0 hlt)
    unfold PlnP at hc
    obtain ⟨w1,w2,w3,w4,w5,w6,hw,hb⟩:=zbz (m.getD k fo0)
    rw [hw] at hc
    cases ht:foR (m.getD k fo0) <;> rw [ht] at hc
    ·rw [zcj fo0 hlt ht]
     (repeat' ((conv=>whnf);(first|(refine yai ?_;first|refine yas ?_|refine yau rfl ?_|refine yar (by omega) ?_|fail)|(refine yaf ?_ ?_;· first|omega|exact yaa _ _|fail)|refine yab _ (hc _) ?_|refine zaa fo0 k rfl (by omega) za4 hw ?_|fail)));conv=>whnf
     exact eT trivial
    ·(repeat' ((conv=>whnf);(first|(refine yai ?_;first|refine yas ?_|refine yaq rfl ?_|refine yar (by omega) ?_|fail)|(refine zad _ _ Cst.h Cst.h ?_ ?_;· omega)|(refine yaf ?_ ?_;· first|omega|exact yaa _ _|fail)|refine yab _ (hc _) ?_|refine zaa fo0 k rfl (by omega) za4 hw ?_|fail)));conv=>whnf
     (refine ⟨⟨k+1,⟨by omega,zbt fo0 hlt hinv ht⟩,by omega,?_,.inl ⟨rfl,rfl⟩,rfl,_,rfl,?_⟩⟩;rotate_left 1;exact .inl rfl;exact ⟨⟨_,rfl,yae _⟩,trivial⟩)
   ·have:k=m.length:=by omega
    subst this
    rw [ya3] at hinv
    rw [yao.2 hinv]
    (repeat' ((conv=>whnf);(first|refine ya1 (by omega) ?_|fail)));conv=>whnf
    exact eT trivial
 ·rw [decide_eq_false h1,ya0]
  have hb:=fun n=>zan n m
  have hb2:=fun n=>zal n l
  generalize l.flatMap Tm.cells=lc at *
  generalize m.flatMap Fo.cells=mc at *
  by_cases q1:op<1
  ·refine fdD Tryz.func130 ⟨rfl,rfl,rfl⟩ fun hcl hbl=>?_
   (repeat' ((conv=>whnf);(first|refine yar (by omega) ?_|fail)));conv=>whnf
   exact eT trivial
  ·by_cases q2:9<op
   ·refine fdD Tryz.func130 ⟨rfl,rfl,rfl⟩ fun hcl hbl=>?_
    (repeat' ((conv=>whnf);(first|(refine yai ?_;first|refine yar (by omega) ?_|refine ya1 (by omega) ?_|fail)|fail)));conv=>whnf
    exact eT trivial
   ·have q3:2<l.length:=by omega
    refine fdD Tryz.func130 ⟨rfl,rfl,rfl⟩ fun hcl hbl=>?_
    (repeat' ((conv=>whnf);(first|(refine yai ?_;first|refine yar (by omega) ?_|refine ya1 (by omega) ?_|fail)|fail)));conv=>whnf
    exact eT trivial
mutual
theorem pln_c:∀ x:Fo,x.good→PlnP x
 | .mk op s l m,h=>pln_step op s l m h.1 (zaz h.2.2.1) (zaz h.2.2.2.2.1) (smls_all l h.2.2.2.1) (plns_all m h.2.2.2.2.2)
theorem plns_all:∀ l:List Fo,Fo.goodL l→∀ x∈l,PlnP x
 | [],_,x,hx=>by cases hx
 | y::l,h,x,hx=>by
   rcases yay.1 hx with e|hx
   ·rw [e]
    exact pln_c y h.1
   ·exact plns_all l h.2 x hx
end
mutual
def szzT:Tm→Nat
 | .mk _ _ l=>szzTs l+1
def szzTs:List Tm→Nat
 | []=>0
 | x::l=>szzT x+szzTs l
end
mutual
def szzF:Fo→Nat
 | .mk _ _ l m=>1+szzTs l+szzFs m
def szzFs:List Fo→Nat
 | []=>0
 | x::l=>szzF x+szzFs l
end
mutual
def dT:Tm→Nat
 | .mk _ _ l=>dTs l+1
def dTs:List Tm→Nat
 | []=>0
 | x::l=>max (dT x) (dTs l)
end
mutual
def dpF:Fo→Nat
 | .mk _ _ l m=>max (dTs l) (dpFs m)+1
def dpFs:List Fo→Nat
 | []=>0
 | x::l=>max (dpF x) (dpFs l)
end
mutual
def rkF:Fo→Nat
 | .mk op _ _ m=>if isQ op then rkFs m+1 else rkFs m
def rkFs:List Fo→Nat
 | []=>0
 | x::l=>max (rkF x) (rkFs l)
end
def smN {α:Type} (f:α→Nat):List α→Nat
 | []=>0
 | x::l=>f x+smN f l
def mxN {α:Type} (f:α→Nat):List α→Nat
 | []=>0
 | x::l=>max (f x) (mxN f l)
theorem smN_app {α:Type} (f:α→Nat):∀ l m,smN f (l++m)=smN f l+smN f m
 | [],m=>(yby _).symm
 | x::l,m=>by show f x+smN f (l++m)=f x+smN f l+smN f m;rw [smN_app f l m];omega
theorem mxN_app {α:Type} (f:α→Nat):∀ l m,mxN f (l++m)=max (mxN f l) (mxN f m)
 | [],m=>(Nat.zero_max _).symm
 | x::l,m=>by show max (f x) (mxN f (l++m))=max (max (f x) (mxN f l)) (mxN f m);rw [mxN_app f l m];omega
theorem zfj {α:Type} (f:α→Nat) (d:α) (l:List α) (k:Nat) (h:k<l.length):smN f (l.take (k+1))=smN f (l.take k)+f (l.getD k d):=by
 rw [zbm l d k h,smN_app]
 rfl
theorem mxN_take {α:Type} (f:α→Nat) (d:α) (l:List α) (k:Nat) (h:k<l.length):mxN f (l.take (k+1))=max (mxN f (l.take k)) (f (l.getD k d)):=by
 rw [zbm l d k h,mxN_app]
 show max _ (max (f (l.getD k d)) 0)=_
 rw [Nat.max_zero]
theorem zh1 {α:Type} (f:α→Nat) (l:List α) (k:Nat):smN f (l.take k)≤smN f l:=by
 have:=smN_app f (l.take k) (l.drop k)
 rw [ycu] at this
 omega
theorem mxN_le {α:Type} (f:α→Nat) (l:List α) (k:Nat):mxN f (l.take k)≤mxN f l:=by
 have:=mxN_app f (l.take k) (l.drop k)
 rw [ycu] at this
 omega
theorem szzTs_eq:∀ l,szzTs l=smN szzT l
 | []=>by unfold szzTs;rfl
 | x::l=>by unfold szzTs;rw [szzTs_eq l];rfl
theorem szzFs_eq:∀ l,szzFs l=smN szzF l
 | []=>by unfold szzFs;rfl
 | x::l=>by unfold szzFs;rw [szzFs_eq l];rfl
theorem dTs_eq:∀ l,dTs l=mxN dT l
 | []=>by unfold dTs;rfl
 | x::l=>by unfold dTs;rw [dTs_eq l];rfl
theorem dpFs_eq:∀ l,dpFs l=mxN dpF l
 | []=>by unfold dpFs;rfl
 | x::l=>by unfold dpFs;rw [dpFs_eq l];rfl
theorem rkFs_eq:∀ l,rkFs l=mxN rkF l
 | []=>by unfold rkFs;rfl
 | x::l=>by unfold rkFs;rw [rkFs_eq l];rfl
mutual
theorem dT_le:∀ x:Tm,dT x≤szzT x
 | .mk v s l=>by
   have:=dTs_le l
   unfold dT szzT
   omega
theorem dTs_le:∀ l:List Tm,dTs l≤szzTs l
 | []=>by unfold dTs;omega
 | x::l=>by
   have h1:=dT_le x
   have h2:=dTs_le l
   unfold dTs szzTs
   omega
end
mutual
theorem dpF_le:∀ x:Fo,dpF x≤szzF x∧rkF x≤szzF x
 | .mk op s l m=>by
   have h1:=dTs_le l
   have h2:=dpFs_le m
   unfold dpF szzF rkF
   refine ⟨by omega,?_⟩
   split <;> omega
theorem dpFs_le:∀ l:List Fo,dpFs l≤szzFs l∧rkFs l≤szzFs l
 | []=>by unfold dpFs rkFs;omega
 | x::l=>by
   have h1:=dpF_le x
   have h2:=dpFs_le l
   unfold dpFs szzFs rkFs
   omega
end
mutual
theorem nT_pos:∀ x:Tm,1≤szzT x
 | .mk v s l=>by unfold szzT;omega
theorem nTs_len:∀ l:List Tm,l.length≤szzTs l
 | []=>yah _
 | x::l=>by
   have h1:=nT_pos x
   have h2:=nTs_len l
   unfold szzTs
   rw [ybu]
   omega
end
mutual
theorem nF_pos:∀ x:Fo,1≤szzF x
 | .mk op s l m=>by unfold szzF;omega
theorem nFs_len:∀ l:List Fo,l.length≤szzFs l
 | []=>yah _
 | x::l=>by
   have h1:=nF_pos x
   have h2:=nFs_len l
   unfold szzFs
   rw [ybu]
   omega
end
def tar:Tm→List Tm
 | .mk _ _ l=>l
theorem tar_ex (x:Tm):∃ v s,x.cells=[.bool v,.str s,.sl none (tar x).length ((tar x).flatMap Tm.cells)]∧szzT x=szzTs (tar x)+1∧dT x=dTs (tar x)+1:=by
 obtain ⟨v,s,l⟩:=x
 exact ⟨v,s,zav v s l,by unfold szzT;rfl,by unfold dT;rfl⟩
def SzP (x:Tm):Prop:=∀ H,VDet Tryz.prog 227 [.sl none (tar x).length ((tar x).flatMap Tm.cells)] H (.int .i64 (szzTs (tar x):Nat))
def DpP (x:Tm):Prop:=∀ H,VDet Tryz.prog 228 [.sl none (tar x).length ((tar x).flatMap Tm.cells)] H (.int .i64 (dTs (tar x):Nat))
theorem size_l (l:List Tm) (hn:szzTs l≤100000) (ih:∀ x∈l,SzP x) (H:Heap):VDet Tryz.prog 227 [.sl none l.length (l.flatMap Tm.cells)] H (.int .i64 (szzTs l:Nat)):=by
 have hll:=nTs_len l
 rw [szzTs_eq] at hn hll ⊢
 refine fdD Tryz.func227 ⟨rfl,rfl,rfl⟩ fun hcl hbl=>?_
 conv=>whnf
 refine zax Tryz.E0 zag (σ:=Nat) (fun k=>k≤l.length) (fun k=>l.length-k) (fun k=>[(3,.v (.int .i64 (smN szzT (l.take k):Nat))),(4,.v (.int .i64 k))]) (fun _=>_) _ 0 rfl hcl [0] rfl (yah _) ⟨⟨_,rfl,yae _⟩,⟨_,rfl,yae _⟩,trivial⟩ rfl (fun _ _=>rfl) ?_
 intro k hk
 have hle:=zh1 szzT l k
 rcases yag k l.length with hlt|hge
 ·have hc:=ih _ (zar l k tm0 hlt)
  have hs:=zfj szzT tm0 l k hlt
  have hle2:=zh1 szzT l (k+1)
  unfold SzP at hc
  obtain ⟨w1,w2,hw,e1,e2⟩:=tar_ex (l.getD k tm0)
  rw [e1] at hs
  generalize szzTs (tar (l.getD k tm0))=a at *
  generalize (tar (l.getD k tm0)).length=an at *
  generalize (tar (l.getD k tm0)).flatMap Tm.cells=ac at *
  generalize smN szzT (l.take k)=S0 at *
  (repeat' ((conv=>whnf);(first|refine yar (by omega) ?_|(refine zad _ _ Cst.h Cst.h ?_ ?_;· omega)|(refine yaf ?_ ?_;· first|omega|exact yaa _ _|fail)|refine yab _ (hc _) ?_|refine zaa tm0 k rfl (by omega) zba hw ?_|fail)));conv=>whnf
  (refine ⟨⟨k+1,by show k+1≤_;omega,by omega,?_,.inl ⟨rfl,rfl⟩,rfl,_,rfl,?_⟩⟩;rotate_left 1;exact .inl rfl;(repeat' (first|exact trivial|refine ⟨⟨_,rfl,?_⟩,?_⟩|fail));all_goals (first|exact yae _|exact zaf (congrArg (AV.int _) (by omega))|fail))
 ·have:k=l.length:=by omega
  subst this
  rw [ya3]
  (repeat' ((conv=>whnf);(first|refine ya1 (by omega) ?_|fail)));conv=>whnf
  exact eT trivial
theorem deep_l (l:List Tm) (hn:szzTs l≤100000) (ih:∀ x∈l,DpP x) (H:Heap):VDet Tryz.prog 228 [.sl none l.length (l.flatMap Tm.cells)] H (.int .i64 (dTs l:Nat)):=by
 have hll:=nTs_len l
 have hdl:=dTs_le l
 rw [dTs_eq] at hdl ⊢
 refine fdD Tryz.func228 ⟨rfl,rfl,rfl⟩ fun hcl hbl=>?_
 conv=>whnf
 refine zax Tryz.E0 zag (σ:=Nat) (fun k=>k≤l.length) (fun k=>l.length-k) (fun k=>[(3,.v (.int .i64 (mxN dT (l.take k):Nat))),(4,.v (.int .i64 k))]) (fun _=>_) _ 0 rfl hcl [0] rfl (yah _) ⟨⟨_,rfl,yae _⟩,⟨_,rfl,yae _⟩,trivial⟩ rfl (fun _ _=>rfl) ?_
 intro k hk
 have hle:=mxN_le dT l k
 rcases yag k l.length with hlt|hge
 ·have hc:=ih _ (zar l k tm0 hlt)
  have hs:=mxN_take dT tm0 l k hlt
  have hle2:=mxN_le dT l (k+1)
  unfold DpP at hc
  obtain ⟨w1,w2,hw,e1,e2⟩:=tar_ex (l.getD k tm0)
  rw [e2] at hs
  generalize dTs (tar (l.getD k tm0))=a at *
  generalize (tar (l.getD k tm0)).length=an at *
  generalize (tar (l.getD k tm0)).flatMap Tm.cells=ac at *
  generalize mxN dT (l.take k)=S0 at *
  rcases yag S0 (a+1) with hmx|hmx
  ·rw [Nat.max_eq_right (by omega)] at hs
   (repeat' ((conv=>whnf);(first|refine yar (by omega) ?_|(refine zad _ _ Cst.h Cst.h ?_ ?_;· omega)|(refine yaf ?_ ?_;· first|omega|exact yaa _ _|fail)|refine yab _ (hc _) ?_|refine zaa tm0 k rfl (by omega) zba hw ?_|fail)));conv=>whnf
   (refine ⟨⟨k+1,by show k+1≤_;omega,by omega,?_,.inl ⟨rfl,rfl⟩,rfl,_,rfl,?_⟩⟩;rotate_left 1;exact .inl rfl;(repeat' (first|exact trivial|refine ⟨⟨_,rfl,?_⟩,?_⟩|fail));all_goals (first|exact yae _|exact zaf (congrArg (AV.int _) (by omega))|fail))
  ·rw [Nat.max_eq_left (by omega)] at hs
   (repeat' ((conv=>whnf);(first|(refine yai ?_;first|refine yar (by omega) ?_|refine ya1 (by omega) ?_|fail)|(refine zad _ _ Cst.h Cst.h ?_ ?_;· omega)|(refine yaf ?_ ?_;· first|omega|exact yaa _ _|fail)|refine yab _ (hc _) ?_|refine zaa tm0 k rfl (by omega) zba hw ?_|fail)));conv=>whnf
   (refine ⟨⟨k+1,by show k+1≤_;omega,by omega,?_,.inl ⟨rfl,rfl⟩,rfl,_,rfl,?_⟩⟩;rotate_left 1;exact .inl rfl;(repeat' (first|exact trivial|refine ⟨⟨_,rfl,?_⟩,?_⟩|fail));all_goals (first|exact yae _|exact zaf (congrArg (AV.int _) (by omega))|fail))
 ·have:k=l.length:=by omega
  subst this
  rw [ya3]
  (repeat' ((conv=>whnf);(first|refine ya1 (by omega) ?_|fail)));conv=>whnf
  exact eT trivial
mutual
theorem sz_c:∀ x:Tm,szzT x≤100000→SzP x∧DpP x
 | .mk v s l,h=>by
   unfold szzT at h
   have h2:=szs_all l (by omega)
   exact ⟨fun H=>size_l l (by omega) (fun x hx=>(h2 x hx).1) H,fun H=>deep_l l (by omega) (fun x hx=>(h2 x hx).2) H⟩
theorem szs_all:∀ l:List Tm,szzTs l≤100000→∀ x∈l,SzP x∧DpP x
 | [],_,x,hx=>by cases hx
 | y::l,h,x,hx=>by
   unfold szzTs at h
   rcases yay.1 hx with e|hx
   ·rw [e]
    exact sz_c y (by omega)
   ·exact szs_all l (by omega) x hx
end
def NdP (x:Fo):Prop:=∀ H,VDet Tryz.prog 184 [.agg x.cells] H (.int .i64 (szzF x:Nat))
def DeP (x:Fo):Prop:=∀ H,VDet Tryz.prog 185 [.agg x.cells] H (.int .i64 (dpF x:Nat))
def RaP (x:Fo):Prop:=∀ H,VDet Tryz.prog 55 [.agg x.cells] H (.int .i64 (rkF x:Nat))
def RbP (x:Fo):Prop:=∀ H,VDet Tryz.prog 19 [.agg x.cells] H (.int .i64 (rkF x:Nat))
theorem nodes_step (op:Nat) (hop:op≤255) (s:ByteArray) (l:List Tm) (m:List Fo) (hn:szzF (.mk op s l m)≤100000) (ih:∀ x∈m,NdP x):NdP (.mk op s l m):=by
 intro H
 have hll:=nTs_len l
 have hml:=nFs_len m
 have he:szzF (.mk op s l m)=1+szzTs l+smN szzF m:=by rw [← szzFs_eq];unfold szzF;rfl
 rw [he] at hn ⊢
 rw [szzFs_eq] at hml
 have h1:=fun H=>size_l l (by omega) (fun x hx=>(szs_all l (by omega) x hx).1) H
 rw [zaq]
 generalize szzTs l=A0 at *
 generalize l.flatMap Tm.cells=lc at *
 refine fdD Tryz.func184 ⟨rfl,rfl,rfl⟩ fun hcl hbl=>?_
 (repeat' ((conv=>whnf);(first|(refine zad _ _ Cst.h Cst.h ?_ ?_;· omega)|refine yab _ (h1 _) ?_|fail)));conv=>whnf
 refine zax Tryz.E0 zag (σ:=Nat) (fun k=>k≤m.length) (fun k=>m.length-k) (fun k=>[(3,.v (.int .i64 ((1+A0+smN szzF (m.take k):Nat):Int))),(4,.v (.int .i64 k))]) (fun _=>_) _ 0 rfl hcl [1] rfl (yah _) ⟨⟨_,rfl,zaf (congrArg (AV.int _) (by show _=((1+A0+0:Nat):Int);omega))⟩,⟨_,rfl,yae _⟩,trivial⟩ rfl (fun _ _=>rfl) ?_
 intro k hk
 have hle:=zh1 szzF m k
 rcases yag k m.length with hlt|hge
 ·have hc:=ih _ (zar m k fo0 hlt)
  have hs:=zfj szzF fo0 m k hlt
  have hle2:=zh1 szzF m (k+1)
  unfold NdP at hc
  obtain ⟨w1,w2,w3,w4,w5,w6,hw,hb⟩:=zbz (m.getD k fo0)
  rw [hw] at hc
  generalize szzF (m.getD k fo0)=a at *
  generalize smN szzF (m.take k)=S0 at *
  (repeat' ((conv=>whnf);(first|refine yar (by omega) ?_|(refine zad _ _ Cst.h Cst.h ?_ ?_;· omega)|(refine yaf ?_ ?_;· first|omega|exact yaa _ _|fail)|refine yab _ (hc _) ?_|refine zaa fo0 k rfl (by omega) za4 hw ?_|fail)));conv=>whnf
  (refine ⟨⟨k+1,by show k+1≤_;omega,by omega,?_,.inl ⟨rfl,rfl⟩,rfl,_,rfl,?_⟩⟩;rotate_left 1;exact .inl rfl;(repeat' (first|exact trivial|refine ⟨⟨_,rfl,?_⟩,?_⟩|fail));all_goals (first|exact yae _|exact zaf (congrArg (AV.int _) (by omega))|fail))
 ·have:k=m.length:=by omega
  subst this
  rw [ya3]
  (repeat' ((conv=>whnf);(first|refine ya1 (by omega) ?_|fail)));conv=>whnf
  exact eT trivial
theorem depth_step (op:Nat) (hop:op≤255) (s:ByteArray) (l:List Tm) (m:List Fo) (hn:szzF (.mk op s l m)≤100000) (ih:∀ x∈m,DeP x):DeP (.mk op s l m):=by
 intro H
 have hml:=nFs_len m
 have hdm:=(dpFs_le m).1
 have hdl:=dTs_le l
 have he:dpF (.mk op s l m)=max (dTs l) (mxN dpF m)+1:=by rw [← dpFs_eq];unfold dpF;rfl
 have hn2:1+szzTs l+szzFs m≤100000:=by unfold szzF at hn;exact hn
 rw [he]
 rw [dpFs_eq] at hdm
 have h1:=fun H=>deep_l l (by omega) (fun x hx=>(szs_all l (by omega) x hx).2) H
 rw [zaq]
 generalize dTs l=A0 at *
 generalize l.flatMap Tm.cells=lc at *
 refine fdD Tryz.func185 ⟨rfl,rfl,rfl⟩ fun hcl hbl=>?_
 (repeat' ((conv=>whnf);(first|refine yab _ (h1 _) ?_|fail)));conv=>whnf
 refine zax Tryz.E0 zag (σ:=Nat) (fun k=>k≤m.length) (fun k=>m.length-k) (fun k=>[(3,.v (.int .i64 ((max A0 (mxN dpF (m.take k)):Nat):Int))),(4,.v (.int .i64 k))]) (fun _=>_) _ 0 rfl hcl [1] rfl (yah _) ⟨⟨_,rfl,zaf (congrArg (AV.int _) (by show _=((max A0 0:Nat):Int);rw [Nat.max_zero]))⟩,⟨_,rfl,yae _⟩,trivial⟩ rfl (fun _ _=>rfl) ?_
 intro k hk
 have hle:=mxN_le dpF m k
 rcases yag k m.length with hlt|hge
 ·have hc:=ih _ (zar m k fo0 hlt)
  have hs:=mxN_take dpF fo0 m k hlt
  have hle2:=mxN_le dpF m (k+1)
  unfold DeP at hc
  obtain ⟨w1,w2,w3,w4,w5,w6,hw,hb⟩:=zbz (m.getD k fo0)
  rw [hw] at hc
  generalize dpF (m.getD k fo0)=a at *
  have hS:max A0 (mxN dpF (m.take (k+1)))=max (max A0 (mxN dpF (m.take k))) a:=by rw [hs];omega
  have hS2:max A0 (mxN dpF (m.take k))≤100000:=by omega
  generalize max A0 (mxN dpF (m.take k))=S0 at *
  rcases yag S0 a with hmx|hmx
  ·rw [Nat.max_eq_right (show S0≤a by omega)] at hS
   (repeat' ((conv=>whnf);(first|refine yar (by omega) ?_|(refine zad _ _ Cst.h Cst.h ?_ ?_;· omega)|(refine yaf ?_ ?_;· first|omega|exact yaa _ _|fail)|refine yab _ (hc _) ?_|refine zaa fo0 k rfl (by omega) za4 hw ?_|fail)));conv=>whnf
   (refine ⟨⟨k+1,by show k+1≤_;omega,by omega,?_,.inl ⟨rfl,rfl⟩,rfl,_,rfl,?_⟩⟩;rotate_left 1;exact .inl rfl;(repeat' (first|exact trivial|refine ⟨⟨_,rfl,?_⟩,?_⟩|fail));all_goals (first|exact yae _|exact zaf (congrArg (AV.int _) (by omega))|fail))
  ·rw [Nat.max_eq_left (show a≤S0 by omega)] at hS
   (repeat' ((conv=>whnf);(first|(refine yai ?_;first|refine yar (by omega) ?_|refine ya1 (by omega) ?_|fail)|(refine zad _ _ Cst.h Cst.h ?_ ?_;· omega)|(refine yaf ?_ ?_;· first|omega|exact yaa _ _|fail)|refine yab _ (hc _) ?_|refine zaa fo0 k rfl (by omega) za4 hw ?_|fail)));conv=>whnf
   (refine ⟨⟨k+1,by show k+1≤_;omega,by omega,?_,.inl ⟨rfl,rfl⟩,rfl,_,rfl,?_⟩⟩;rotate_left 1;exact .inl rfl;(repeat' (first|exact trivial|refine ⟨⟨_,rfl,?_⟩,?_⟩|fail));all_goals (first|exact yae _|exact zaf (congrArg (AV.int _) (by omega))|fail))
 ·have:k=m.length:=by omega
  subst this
  rw [ya3]
  have hS2:max A0 (mxN dpF m)≤100000:=by omega
  generalize max A0 (mxN dpF m)=S0 at *
  (repeat' ((conv=>whnf);(first|refine ya1 (by omega) ?_|(refine zad _ _ Cst.h Cst.h ?_ ?_;· omega)|fail)));conv=>whnf
  exact ya2 trivial (zaf (congrArg (AV.int _) (by omega)))
theorem rank55_step (op:Nat) (hop:op≤255) (s:ByteArray) (l:List Tm) (m:List Fo) (hn:szzF (.mk op s l m)≤100000) (ih:∀ x∈m,RaP x):RaP (.mk op s l m):=by
 intro H
 have hml:=nFs_len m
 have hdm:=(dpFs_le m).2
 have hn2:1+szzTs l+szzFs m≤100000:=by unfold szzF at hn;exact hn
 have he:rkF (.mk op s l m)=if isQ op then mxN rkF m+1 else mxN rkF m:=by rw [← rkFs_eq];unfold rkF;rfl
 rw [he]
 rw [rkFs_eq] at hdm
 rw [zaq]
 refine fdD Tryz.func55 ⟨rfl,rfl,rfl⟩ fun hcl hbl=>?_
 conv=>whnf
 refine zax Tryz.E0 zag (σ:=Nat) (fun k=>k≤m.length) (fun k=>m.length-k) (fun k=>[(3,.v (.int .i64 ((mxN rkF (m.take k):Nat):Int))),(4,.v (.int .i64 k))]) (fun _=>_) _ 0 rfl hcl [1] rfl (yah _) ⟨⟨_,rfl,yae _⟩,⟨_,rfl,yae _⟩,trivial⟩ rfl (fun _ _=>rfl) ?_
 intro k hk
 have hle:=mxN_le rkF m k
 rcases yag k m.length with hlt|hge
 ·have hc:=ih _ (zar m k fo0 hlt)
  have hs:=mxN_take rkF fo0 m k hlt
  have hle2:=mxN_le rkF m (k+1)
  unfold RaP at hc
  obtain ⟨w1,w2,w3,w4,w5,w6,hw,hb⟩:=zbz (m.getD k fo0)
  rw [hw] at hc
  generalize rkF (m.getD k fo0)=a at *
  generalize mxN rkF (m.take k)=S0 at *
  (repeat' ((conv=>whnf);(first|refine yar (by omega) ?_|(refine zad _ _ Cst.h Cst.h ?_ ?_;· omega)|(refine yaf ?_ ?_;· first|omega|exact yaa _ _|fail)|refine yab _ (hc _) ?_|refine zaa fo0 k rfl (by omega) za4 hw ?_|fail)));conv=>whnf
  (refine ⟨⟨k+1,by show k+1≤_;omega,by omega,?_,.inl ⟨rfl,rfl⟩,rfl,_,rfl,?_⟩⟩;rotate_left 1;exact .inl rfl;(repeat' (first|exact trivial|refine ⟨⟨_,rfl,?_⟩,?_⟩|fail));all_goals (first|exact yae _|exact zaf (congrArg (AV.int _) (by omega))|fail))
 ·have:k=m.length:=by omega
  subst this
  rw [ya3]
  generalize mxN rkF m=S0 at *
  by_cases h8:op=8
  ·subst h8
   (repeat' ((conv=>whnf);(first|(refine yai ?_;first|refine yaq rfl ?_|refine ya1 (by omega) ?_|fail)|(refine zad _ _ Cst.h Cst.h ?_ ?_;· omega)|fail)));conv=>whnf
   exact ya2 trivial (zaf (congrArg (AV.int _) (by show _=((S0+1:Nat):Int);omega)))
  ·by_cases h9:op=9
   ·subst h9
    (repeat' ((conv=>whnf);(first|(refine yai ?_;first|refine yaq rfl ?_|refine yau rfl ?_|refine ya1 (by omega) ?_|fail)|(refine zad _ _ Cst.h Cst.h ?_ ?_;· omega)|fail)));conv=>whnf
    exact ya2 trivial (zaf (congrArg (AV.int _) (by show _=((S0+1:Nat):Int);omega)))
   ·rw [show isQ op=false from decide_eq_false (by omega)]
    (repeat' ((conv=>whnf);(first|refine ya1 (by omega) ?_|fail)));conv=>whnf
    exact eT trivial
theorem rank19_step (op:Nat) (hop:op≤255) (s:ByteArray) (l:List Tm) (m:List Fo) (hn:szzF (.mk op s l m)≤100000) (ih:∀ x∈m,RbP x):RbP (.mk op s l m):=by
 intro H
 have hml:=nFs_len m
 have hdm:=(dpFs_le m).2
 have hn2:1+szzTs l+szzFs m≤100000:=by unfold szzF at hn;exact hn
 have he:rkF (.mk op s l m)=if isQ op then mxN rkF m+1 else mxN rkF m:=by rw [← rkFs_eq];unfold rkF;rfl
 rw [he]
 rw [rkFs_eq] at hdm
 have hqc:=fun H=>quant_c op hop s l.length (l.flatMap Tm.cells) m.length (m.flatMap Fo.cells) H
 rw [zaq]
 refine fdD Tryz.func19 ⟨rfl,rfl,rfl⟩ fun hcl hbl=>?_
 conv=>whnf
 refine zax Tryz.E0 zag (σ:=Nat) (fun k=>k≤m.length) (fun k=>m.length-k) (fun k=>[(3,.v (.int .i64 ((mxN rkF (m.take k):Nat):Int))),(9,.v (.int .i64 k))]) (fun _=>_) _ 0 rfl hcl [1,7,8] rfl (yah _) ⟨⟨_,rfl,yae _⟩,⟨_,rfl,yae _⟩,trivial⟩ rfl (fun _ _=>rfl) ?_
 intro k hk
 have hle:=mxN_le rkF m k
 rcases yag k m.length with hlt|hge
 ·have hc:=ih _ (zar m k fo0 hlt)
  have hs:=mxN_take rkF fo0 m k hlt
  have hle2:=mxN_le rkF m (k+1)
  unfold RbP at hc
  obtain ⟨w1,w2,w3,w4,w5,w6,hw,hb⟩:=zbz (m.getD k fo0)
  rw [hw] at hc
  generalize rkF (m.getD k fo0)=a at *
  generalize mxN rkF (m.take k)=S0 at *
  (repeat' ((conv=>whnf);(first|refine yar (by omega) ?_|(refine zad _ _ Cst.h Cst.h ?_ ?_;· omega)|(refine yaf ?_ ?_;· first|omega|exact yaa _ _|fail)|refine yab _ (hc _) ?_|refine zaa fo0 k rfl (by omega) za4 hw ?_|fail)));conv=>whnf
  (refine ⟨⟨k+1,by show k+1≤_;omega,by omega,?_,.inl ⟨rfl,rfl⟩,rfl,_,rfl,?_⟩⟩;rotate_left 1;exact .inr ⟨by simp [zaw,below,zab,tr,zah,zak,zai,zam,zal,zan,hb],by simp [zbe,Blk.below,zab,below,zah,zak,zai,zam,zal,zan,hb]⟩;(repeat' (first|exact trivial|refine ⟨⟨_,rfl,?_⟩,?_⟩|fail));all_goals (first|exact yae _|exact zaf (congrArg (AV.int _) (by omega))|fail))
 ·have:k=m.length:=by omega
  subst this
  rw [ya3]
  generalize mxN rkF m=S0 at *
  cases hq:isQ op <;> rw [hq] at hqc
  ·(repeat' ((conv=>whnf);(first|(refine yai ?_;first|refine yau rfl ?_|refine ya1 (by omega) ?_|fail)|refine yab _ (hqc _) ?_|fail)));conv=>whnf
   exact eT trivial
  ·(repeat' ((conv=>whnf);(first|(refine yai ?_;first|refine yaq rfl ?_|refine ya1 (by omega) ?_|fail)|(refine zad _ _ Cst.h Cst.h ?_ ?_;· omega)|refine yab _ (hqc _) ?_|fail)));conv=>whnf
   exact ya2 trivial (zaf (congrArg (AV.int _) (by show _=((S0+1:Nat):Int);omega)))
mutual
theorem msr_c:∀ x:Fo,x.good→szzF x≤100000→(NdP x∧DeP x)∧RaP x∧RbP x
 | .mk op s l m,hg,h=>by
   have h':=h
   unfold szzF at h
   have h2:=msrs_all m hg.2.2.2.2.2 (by omega)
   exact ⟨⟨nodes_step op hg.1 s l m h' fun x hx=>(h2 x hx).1.1,depth_step op hg.1 s l m h' fun x hx=>(h2 x hx).1.2⟩,rank55_step op hg.1 s l m h' fun x hx=>(h2 x hx).2.1,rank19_step op hg.1 s l m h' fun x hx=>(h2 x hx).2.2⟩
theorem msrs_all:∀ l:List Fo,Fo.goodL l→szzFs l≤100000→∀ x∈l,(NdP x∧DeP x)∧RaP x∧RbP x
 | [],_,_,x,hx=>by cases hx
 | y::l,hg,h,x,hx=>by
   unfold szzFs at h
   rcases yay.1 hx with e|hx
   ·rw [e]
    exact msr_c y hg.1 (by omega)
   ·exact msrs_all l hg.2 (by omega) x hx
end
def refR (x:Fo):Bool:=rfF x&&(decide (szzF x≤400)&&decide (dpF x≤40))
theorem refRight_c (x:Fo) (hg:x.good) (hn:szzF x≤100000) (H:Heap):VDet Tryz.prog 129 [.agg x.cells] H (.bool (refR x)):=by
 have h1:∀ H,VDet Tryz.prog 183 [.agg x.cells,.bool false] H (.bool (rfF x)):=fun H=>rf_c x hg H
 have h2:∀ H,VDet Tryz.prog 184 [.agg x.cells] H (.int .i64 (szzF x:Nat)):=(msr_c x hg hn).1.1
 have h3:∀ H,VDet Tryz.prog 185 [.agg x.cells] H (.int .i64 (dpF x:Nat)):=(msr_c x hg hn).1.2
 unfold refR
 obtain ⟨w1,w2,w3,w4,w5,w6,hw,hb⟩:=zbz x
 rw [hw] at h1 h2 h3 ⊢
 generalize rfF x=b0 at *
 generalize szzF x=n at *
 generalize dpF x=d at *
 cases b0 with
 | false =>
   refine fdD Tryz.func129 ⟨rfl,rfl,rfl⟩ fun hcl hbl=>?_
   (repeat' ((conv=>whnf);(first|refine yau rfl ?_|refine yab _ (h1 _) ?_|fail)));conv=>whnf
   exact eT trivial
 | true =>
   rw [ya9]
   by_cases q1:n≤400
   ·rw [decide_eq_true q1,ya9]
    by_cases q2:d≤40
    ·rw [decide_eq_true q2]
     refine fdD Tryz.func129 ⟨rfl,rfl,rfl⟩ fun hcl hbl=>?_
     (repeat' ((conv=>whnf);(first|(refine yai ?_;first|refine yaq rfl ?_|refine yar (by omega) ?_|fail)|(refine ybm ?_;first|refine yab _ (h1 _) ?_|refine yab _ (h2 _) ?_|refine yab _ (h3 _) ?_|fail)|fail)));conv=>whnf
     exact ya2 trivial (zaf (congrArg AV.bool (decide_eq_true (by omega))))
    ·rw [decide_eq_false q2]
     refine fdD Tryz.func129 ⟨rfl,rfl,rfl⟩ fun hcl hbl=>?_
     (repeat' ((conv=>whnf);(first|(refine yai ?_;first|refine yaq rfl ?_|refine yar (by omega) ?_|fail)|(refine ybm ?_;first|refine yab _ (h1 _) ?_|refine yab _ (h2 _) ?_|refine yab _ (h3 _) ?_|fail)|fail)));conv=>whnf
     exact ya2 trivial (zaf (congrArg AV.bool (decide_eq_false (by omega))))
   ·rw [decide_eq_false q1,ya0]
    refine fdD Tryz.func129 ⟨rfl,rfl,rfl⟩ fun hcl hbl=>?_
    (repeat' ((conv=>whnf);(first|(refine yai ?_;first|refine yaq rfl ?_|refine ya1 (by omega) ?_|fail)|(refine ybm ?_;first|refine yab _ (h1 _) ?_|refine yab _ (h2 _) ?_|fail)|fail)));conv=>whnf
    exact eT trivial
theorem zgb (x:Fo) (hg:x.good) (hn:szzF x≤100000) (H:Heap):VDet Tryz.prog 65 [.agg x.cells] H (.bool (refR x&&foR x)):=by
 have h1:=refRight_c x hg hn
 have h2:∀ H,VDet Tryz.prog 130 [.agg x.cells] H (.bool (foR x)):=fun H=>pln_c x hg H
 obtain ⟨w1,w2,w3,w4,w5,w6,hw,hb⟩:=zbz x
 rw [hw] at h1 h2 ⊢
 generalize refR x=b0 at *
 generalize foR x=b1 at *
 cases b0 with
 | false =>
   refine fdD Tryz.func65 ⟨rfl,rfl,rfl⟩ fun hcl hbl=>?_
   (repeat' ((conv=>whnf);(first|refine yau rfl ?_|refine yab _ (h1 _) ?_|fail)));conv=>whnf
   exact eT trivial
 | true =>
   rw [ya9]
   refine fdD Tryz.func65 ⟨rfl,rfl,rfl⟩ fun hcl hbl=>?_
   (repeat' ((conv=>whnf);(first|refine yaq rfl ?_|(refine ybm ?_;first|refine yab _ (h1 _) ?_|refine yab _ (h2 _) ?_|fail)|fail)));conv=>whnf
   exact eT trivial
theorem bl_lt:∀ x y:List UInt8,Op.bytesLess x y=decide (x<y)
 | [],[]=>by simp [Op.bytesLess]
 | _::_,[]=>by simp [Op.bytesLess]
 | [],_::_=>by simp [Op.bytesLess]
 | a::x,b::y=>by
   rw [Op.bytesLess,bl_lt x y]
   apply ycd.2
   simp only [Bool.or_eq_true,yak,decide_eq_true_eq,beq_iff_eq,List.cons_lt_cons_iff]
theorem bl_cmp (a b:ByteArray):Op.bytesLess a.toList b.toList=decide (cmpB a b<0):=by
 rw [bl_lt,ByteArray.toList_eq,ByteArray.toList_eq]
 apply ycd.2
 rw [decide_eq_true_eq,decide_eq_true_eq]
 unfold cmpB
 split
 ·exact ⟨fun _=>by decide,fun _=>by assumption⟩
 ·split
  ·exact ⟨fun h=>absurd h (by assumption),fun h=>absurd h (by decide)⟩
  ·exact ⟨fun h=>absurd h (by assumption),fun h=>absurd h (by decide)⟩
theorem rless_c (x y:SymI) (H:Heap):VDet Tryz.prog 168 [.agg (symI x),.agg (symI y)] H (.bool (decide (cSymI x y<0))):=by
 obtain ⟨s,a⟩:=x
 obtain ⟨t,b⟩:=y
 have e1:=bl_cmp s t
 have e2:=ba_beqG s t
 have hz:=cmpB_zero (a:=s) (b:=t)
 have hcs:cSymI (s,a) (t,b)=andC (cmpB s t) (cmpI a b):=rfl
 rw [hcs]
 unfold symI
 simp only
 by_cases h1:cmpB s t<0
 ·rw [decide_eq_true h1] at e1
  rw [show andC (cmpB s t) (cmpI a b)=cmpB s t from if_neg (by omega),decide_eq_true h1]
  refine fdD Tryz.func168 ⟨rfl,rfl,rfl⟩ fun hcl hbl=>?_
  (repeat' ((conv=>whnf);(first|refine yaq e1 ?_|fail)));conv=>whnf
  exact eT trivial
 ·rw [decide_eq_false h1] at e1
  by_cases h2:s=t
  ·rw [decide_eq_true h2] at e2
   rw [show andC (cmpB s t) (cmpI a b)=cmpI a b from if_pos (hz.2 h2)]
   have h3:decide (cmpI a b<0)=decide (a<b):=by
    apply ycd.2
    rw [decide_eq_true_eq,decide_eq_true_eq]
    unfold cmpI
    split
    ·omega
    ·split <;> omega
   rw [h3]
   refine fdD Tryz.func168 ⟨rfl,rfl,rfl⟩ fun hcl hbl=>?_
   (repeat' ((conv=>whnf);(first|(refine yai ?_;first|refine yau e1 ?_|refine yaq e2 ?_|fail)|fail)));conv=>whnf
   exact eT trivial
  ·rw [decide_eq_false h2] at e2
   have h4:¬ cmpB s t=0:=fun h=>h2 (hz.1 h)
   rw [show andC (cmpB s t) (cmpI a b)=cmpB s t from if_neg h4,decide_eq_false h1]
   refine fdD Tryz.func168 ⟨rfl,rfl,rfl⟩ fun hcl hbl=>?_
   (repeat' ((conv=>whnf);(first|(refine yai ?_;first|refine yau e1 ?_|refine yau e2 ?_|fail)|fail)));conv=>whnf
   exact eT trivial
theorem sound_c (s:Sig) (hs:s.Sm) (H:Heap):VDet Tryz.prog 88 [.agg s.cells] H (.bool (sigR s)):=by
 have hpl:=hs.preds
 have hfl:=hs.funcs
 have hvl:=hs.vars
 have hnp:=hs.np
 have hnf:=hs.nf
 have hnv:=hs.nv
 unfold sigR Sig.cells
 obtain ⟨P,U,V⟩:=s
 simp only at *
 refine fdD Tryz.func88 ⟨rfl,rfl,rfl⟩ fun hcl hbl=>?_
 conv=>whnf
 refine zax Tryz.E0 zag (σ:=Nat) (fun k=>k≤P.length∧∀ i,i<k→incA cSymI predO symI0 P i=true) (fun k=>P.length-k) (fun k=>[(3,.v (.int .i64 k))]) (fun _=>_) _ 0 rfl hcl [1] rfl ⟨yah _,fun i h=>by omega⟩ ⟨⟨_,rfl,yae _⟩,trivial⟩ rfl (fun _ _=>rfl) ?_
 rintro k ⟨hk,hinv⟩
 rcases yag k P.length with hlt|hge
 ·have hsz:=hnp _ (zar P k symI0 hlt)
  have hc:=rless_c (P.getD (k-1) symI0) (P.getD k symI0)
  have hA:incA cSymI predO symI0 P k=(predO (P.getD k symI0)&&(decide (k=0) || decide (cSymI (P.getD (k-1) symI0) (P.getD k symI0)<0))):=rfl
  have hstep:incA cSymI predO symI0 P k=true→∀ i,i<k+1→incA cSymI predO symI0 P i=true:=fun h i hi=>by
   rcases yag i k with h2|h2
   ·exact hinv i h2
   ·rw [show i=k by omega]
    exact h
  generalize cSymI (P.getD (k-1) symI0) (P.getD k symI0)=cv at *
  obtain ⟨u,v,hx,hx0⟩:∃ u v,symI (P.getD k symI0)=[.str u,.int .i64 v]∧P.getD k symI0=(u,v):=⟨_,_,rfl,rfl⟩
  obtain ⟨u2,v2,hy⟩:∃ u2 v2,symI (P.getD (k-1) symI0)=[.str u2,.int .i64 v2]:=⟨_,_,rfl⟩
  rw [hx,hy] at hc
  rw [hx0] at hA hsz
  have hr:=refPred_c u hsz
  rw [show predO (u,v)=(ze8 u&&(decide (0≤v)&&decide (v≤2))) from rfl] at hA
  generalize ze8 u=pk at *
  cases pk
  ·rw [ya0,ya0] at hA
   rw [zer hlt hA,ya0]
   (repeat' ((conv=>whnf);(first|(refine yai ?_;first|refine yas ?_|refine yau rfl ?_|refine yar (by omega) ?_|fail)|(refine yaf ?_ ?_;· first|kernel_rfl|omega|exact yaa _ _|fail)|refine yan _ (fun _ hq X=>hr _) ?_|refine zaa symI0 k rfl (by omega) za6 hx ?_|refine zae [] ?_|fail)));conv=>whnf
   exact eT trivial
  ·by_cases v0:0≤v
   ·by_cases v1:v≤2
    ·rw [decide_eq_true v0,decide_eq_true v1] at hA
     simp only [ya9] at hA
     by_cases hk0:k=0
     ·rw [decide_eq_true hk0,Bool.true_or] at hA
      subst hk0
      (repeat' ((conv=>whnf);(first|(refine yai ?_;first|refine yas ?_|refine yaq rfl ?_|refine yau rfl ?_|refine yar (by omega) ?_|refine ya1 (by omega) ?_|fail)|(refine zad _ _ Cst.h Cst.h ?_ ?_;· omega)|(refine yaf ?_ ?_;· first|kernel_rfl|omega|exact yaa _ _|fail)|refine yan _ (fun _ hq X=>hr _) ?_|refine zaa symI0 0 rfl (by omega) za6 hx ?_|refine zae [] ?_|fail)));conv=>whnf
      (refine ⟨⟨0+1,⟨by omega,hstep hA⟩,by omega,?_,.inl ⟨rfl,rfl⟩,rfl,_,rfl,?_⟩⟩;rotate_left 1;exact .inr ⟨by simp [zaw,below,zab,tr,zah,zak,zai,zam,zal,zan,zaj,zao],by simp [zbe,Blk.below,zab,below,zah,zak,zai,zam,zal,zan,zaj,zao]⟩;exact ⟨⟨_,rfl,yae _⟩,trivial⟩)
     ·rw [decide_eq_false hk0,yej] at hA
      by_cases hcv:cv<0
      ·rw [decide_eq_true hcv] at hA hc
       (repeat' ((conv=>whnf);(first|(refine yai ?_;first|refine yas ?_|refine yaq rfl ?_|refine yar (by omega) ?_|refine ya1 (by omega) ?_|fail)|(refine yc0 ?_;first|(refine zad _ _ Cst.h Cst.h ?_ ?_;· omega)|(refine zb5 _ _ Cst.h Cst.h ?_ ?_;· omega)|fail)|(refine yaf ?_ ?_;· first|kernel_rfl|omega|exact yaa _ _|fail)|(refine yck ?_;first|refine yan _ (fun _ hq X=>hr _) ?_|refine yan _ (fun _ hq X=>hc _) ?_|fail)|refine zaa symI0 k rfl (by omega) za6 hx ?_|refine zaa symI0 (k-1) (by omega) (by omega) za6 hy ?_|refine zae [] ?_|fail)));conv=>whnf
       (refine ⟨⟨k+1,⟨by omega,hstep hA⟩,by omega,?_,.inl ⟨rfl,rfl⟩,rfl,_,rfl,?_⟩⟩;rotate_left 1;exact .inr ⟨by simp [zaw,below,zab,tr,zah,zak,zai,zam,zal,zan,zaj,zao],by simp [zbe,Blk.below,zab,below,zah,zak,zai,zam,zal,zan,zaj,zao]⟩;exact ⟨⟨_,rfl,yae _⟩,trivial⟩)
      ·rw [decide_eq_false hcv] at hA hc
       rw [zer hlt hA,ya0]
       (repeat' ((conv=>whnf);(first|(refine yai ?_;first|refine yas ?_|refine yaq rfl ?_|refine yau rfl ?_|refine yar (by omega) ?_|refine ya1 (by omega) ?_|fail)|(refine zb5 _ _ Cst.h Cst.h ?_ ?_;· omega)|(refine yaf ?_ ?_;· first|kernel_rfl|omega|exact yaa _ _|fail)|(refine yck ?_;first|refine yan _ (fun _ hq X=>hr _) ?_|refine yan _ (fun _ hq X=>hc _) ?_|fail)|refine zaa symI0 k rfl (by omega) za6 hx ?_|refine zaa symI0 (k-1) (by omega) (by omega) za6 hy ?_|refine zae [] ?_|fail)));conv=>whnf
       exact eT trivial
    ·rw [decide_eq_false v1] at hA
     simp only [yc6,ya0] at hA
     rw [zer hlt hA,ya0]
     (repeat' ((conv=>whnf);(first|(refine yai ?_;first|refine yas ?_|refine yaq rfl ?_|refine yar (by omega) ?_|refine ya1 (by omega) ?_|fail)|(refine yaf ?_ ?_;· first|kernel_rfl|omega|exact yaa _ _|fail)|refine yan _ (fun _ hq X=>hr _) ?_|refine zaa symI0 k rfl (by omega) za6 hx ?_|refine zae [] ?_|fail)));conv=>whnf
     exact eT trivial
   ·rw [decide_eq_false v0] at hA
    simp only [yc6,ya0] at hA
    rw [zer hlt hA,ya0]
    (repeat' ((conv=>whnf);(first|(refine yai ?_;first|refine yas ?_|refine yaq rfl ?_|refine yar (by omega) ?_|fail)|(refine yaf ?_ ?_;· first|kernel_rfl|omega|exact yaa _ _|fail)|refine yan _ (fun _ hq X=>hr _) ?_|refine zaa symI0 k rfl (by omega) za6 hx ?_|refine zae [] ?_|fail)));conv=>whnf
    exact eT trivial
 ·have:k=P.length:=by omega
  subst this
  rw [inc_all hinv,ya9]
  (repeat' ((conv=>whnf);(first|refine ya1 (by omega) ?_|fail)));conv=>whnf
  refine zax Tryz.E0 zag (σ:=Nat) (fun k=>k≤U.length∧∀ i,i<k→incA cSymI funcO symI0 U i=true) (fun k=>U.length-k) (fun k=>[(5,.v (.int .i64 k))]) (fun _=>_) _ 0 rfl hcl [1] rfl ⟨yah _,fun i h=>by omega⟩ ⟨⟨_,rfl,yae _⟩,trivial⟩ rfl (fun _ _=>rfl) ?_
  rintro k ⟨hk,hinv⟩
  rcases yag k U.length with hlt|hge
  ·have hsz:=hnf _ (zar U k symI0 hlt)
   have hc:=rless_c (U.getD (k-1) symI0) (U.getD k symI0)
   have hA:incA cSymI funcO symI0 U k=(funcO (U.getD k symI0)&&(decide (k=0) || decide (cSymI (U.getD (k-1) symI0) (U.getD k symI0)<0))):=rfl
   have hstep:incA cSymI funcO symI0 U k=true→∀ i,i<k+1→incA cSymI funcO symI0 U i=true:=fun h i hi=>by
    rcases yag i k with h2|h2
    ·exact hinv i h2
    ·rw [show i=k by omega]
     exact h
   generalize cSymI (U.getD (k-1) symI0) (U.getD k symI0)=cv at *
   obtain ⟨u,v,hx,hx0⟩:∃ u v,symI (U.getD k symI0)=[.str u,.int .i64 v]∧U.getD k symI0=(u,v):=⟨_,_,rfl,rfl⟩
   obtain ⟨u2,v2,hy⟩:∃ u2 v2,symI (U.getD (k-1) symI0)=[.str u2,.int .i64 v2]:=⟨_,_,rfl⟩
   rw [hx,hy] at hc
   rw [hx0] at hA hsz
   have hr:=refFun_c u hsz
   rw [show funcO (u,v)=(isFun u&&(decide (0≤v)&&decide (v≤1))) from rfl] at hA
   generalize isFun u=pk at *
   cases pk
   ·rw [ya0,ya0] at hA
    rw [zer hlt hA,ya0]
    (repeat' ((conv=>whnf);(first|(refine yai ?_;first|refine yas ?_|refine yau rfl ?_|refine yar (by omega) ?_|fail)|(refine yaf ?_ ?_;· first|kernel_rfl|omega|exact yaa _ _|fail)|refine yan _ (fun _ hq X=>hr _) ?_|refine zaa symI0 k rfl (by omega) za6 hx ?_|refine zae [] ?_|fail)));conv=>whnf
    exact eT trivial
   ·by_cases v0:0≤v
    ·by_cases v1:v≤1
     ·rw [decide_eq_true v0,decide_eq_true v1] at hA
      simp only [ya9] at hA
      by_cases hk0:k=0
      ·rw [decide_eq_true hk0,Bool.true_or] at hA
       subst hk0
       (repeat' ((conv=>whnf);(first|(refine yai ?_;first|refine yas ?_|refine yaq rfl ?_|refine yau rfl ?_|refine yar (by omega) ?_|refine ya1 (by omega) ?_|fail)|(refine zad _ _ Cst.h Cst.h ?_ ?_;· omega)|(refine yaf ?_ ?_;· first|kernel_rfl|omega|exact yaa _ _|fail)|refine yan _ (fun _ hq X=>hr _) ?_|refine zaa symI0 0 rfl (by omega) za6 hx ?_|refine zae [] ?_|fail)));conv=>whnf
       (refine ⟨⟨0+1,⟨by omega,hstep hA⟩,by omega,?_,.inl ⟨rfl,rfl⟩,rfl,_,rfl,?_⟩⟩;rotate_left 1;exact .inr ⟨by simp [zaw,below,zab,tr,zah,zak,zai,zam,zal,zan,zaj,zao],by simp [zbe,Blk.below,zab,below,zah,zak,zai,zam,zal,zan,zaj,zao]⟩;exact ⟨⟨_,rfl,yae _⟩,trivial⟩)
      ·rw [decide_eq_false hk0,yej] at hA
       by_cases hcv:cv<0
       ·rw [decide_eq_true hcv] at hA hc
        (repeat' ((conv=>whnf);(first|(refine yai ?_;first|refine yas ?_|refine yaq rfl ?_|refine yar (by omega) ?_|refine ya1 (by omega) ?_|fail)|(refine yc0 ?_;first|(refine zad _ _ Cst.h Cst.h ?_ ?_;· omega)|(refine zb5 _ _ Cst.h Cst.h ?_ ?_;· omega)|fail)|(refine yaf ?_ ?_;· first|kernel_rfl|omega|exact yaa _ _|fail)|(refine yck ?_;first|refine yan _ (fun _ hq X=>hr _) ?_|refine yan _ (fun _ hq X=>hc _) ?_|fail)|refine zaa symI0 k rfl (by omega) za6 hx ?_|refine zaa symI0 (k-1) (by omega) (by omega) za6 hy ?_|refine zae [] ?_|fail)));conv=>whnf
        (refine ⟨⟨k+1,⟨by omega,hstep hA⟩,by omega,?_,.inl ⟨rfl,rfl⟩,rfl,_,rfl,?_⟩⟩;rotate_left 1;exact .inr ⟨by simp [zaw,below,zab,tr,zah,zak,zai,zam,zal,zan,zaj,zao],by simp [zbe,Blk.below,zab,below,zah,zak,zai,zam,zal,zan,zaj,zao]⟩;exact ⟨⟨_,rfl,yae _⟩,trivial⟩)
       ·rw [decide_eq_false hcv] at hA hc
        rw [zer hlt hA,ya0]
        (repeat' ((conv=>whnf);(first|(refine yai ?_;first|refine yas ?_|refine yaq rfl ?_|refine yau rfl ?_|refine yar (by omega) ?_|refine ya1 (by omega) ?_|fail)|(refine zb5 _ _ Cst.h Cst.h ?_ ?_;· omega)|(refine yaf ?_ ?_;· first|kernel_rfl|omega|exact yaa _ _|fail)|(refine yck ?_;first|refine yan _ (fun _ hq X=>hr _) ?_|refine yan _ (fun _ hq X=>hc _) ?_|fail)|refine zaa symI0 k rfl (by omega) za6 hx ?_|refine zaa symI0 (k-1) (by omega) (by omega) za6 hy ?_|refine zae [] ?_|fail)));conv=>whnf
        exact eT trivial
     ·rw [decide_eq_false v1] at hA
      simp only [yc6,ya0] at hA
      rw [zer hlt hA,ya0]
      (repeat' ((conv=>whnf);(first|(refine yai ?_;first|refine yas ?_|refine yaq rfl ?_|refine yar (by omega) ?_|refine ya1 (by omega) ?_|fail)|(refine yaf ?_ ?_;· first|kernel_rfl|omega|exact yaa _ _|fail)|refine yan _ (fun _ hq X=>hr _) ?_|refine zaa symI0 k rfl (by omega) za6 hx ?_|refine zae [] ?_|fail)));conv=>whnf
      exact eT trivial
    ·rw [decide_eq_false v0] at hA
     simp only [yc6,ya0] at hA
     rw [zer hlt hA,ya0]
     (repeat' ((conv=>whnf);(first|(refine yai ?_;first|refine yas ?_|refine yaq rfl ?_|refine yar (by omega) ?_|fail)|(refine yaf ?_ ?_;· first|kernel_rfl|omega|exact yaa _ _|fail)|refine yan _ (fun _ hq X=>hr _) ?_|refine zaa symI0 k rfl (by omega) za6 hx ?_|refine zae [] ?_|fail)));conv=>whnf
     exact eT trivial
  ·have:k=U.length:=by omega
   subst this
   rw [inc_all hinv,ya9]
   (repeat' ((conv=>whnf);(first|refine ya1 (by omega) ?_|fail)));conv=>whnf
   refine zax Tryz.E0 zag (σ:=Nat) (fun k=>k≤V.length∧∀ i,i<k→incA cmpB isVar .empty V i=true) (fun k=>V.length-k) (fun k=>[(7,.v (.int .i64 k))]) (fun _=>_) _ 0 rfl hcl [1] rfl ⟨yah _,fun i h=>by omega⟩ ⟨⟨_,rfl,yae _⟩,trivial⟩ rfl (fun _ _=>rfl) ?_
   rintro k ⟨hk,hinv⟩
   rcases yag k V.length with hlt|hge
   ·have hsz:=hnv _ (zar V k .empty hlt)
    have hr:=refVar_c _ hsz
    have e3:=bl_cmp (V.getD (k-1) .empty) (V.getD k .empty)
    have hA:incA cmpB isVar .empty V k=(isVar (V.getD k .empty)&&(decide (k=0) || decide (cmpB (V.getD (k-1) .empty) (V.getD k .empty)<0))):=rfl
    have hstep:incA cmpB isVar .empty V k=true→∀ i,i<k+1→incA cmpB isVar .empty V i=true:=fun h i hi=>by
     rcases yag i k with h2|h2
     ·exact hinv i h2
     ·rw [show i=k by omega]
      exact h
    generalize cmpB (V.getD (k-1) .empty) (V.getD k .empty)=cv at *
    generalize isVar (V.getD k .empty)=pk at hr hA
    obtain ⟨u,hx⟩:∃ u,encS (V.getD k .empty)=[.str u]:=⟨_,rfl⟩
    obtain ⟨u2,hy⟩:∃ u2,encS (V.getD (k-1) .empty)=[.str u2]:=⟨_,rfl⟩
    have hxe:V.getD k .empty=u:=by cases hx;rfl
    have hye:V.getD (k-1) .empty=u2:=by cases hy;rfl
    rw [hxe] at hr;rw [hxe,hye] at e3
    cases pk
    ·rw [ya0] at hA
     rw [zer hlt hA]
     (repeat' ((conv=>whnf);(first|(refine yai ?_;first|refine yas ?_|refine yau rfl ?_|refine yar (by omega) ?_|fail)|(refine yaf ?_ ?_;· first|kernel_rfl|omega|exact yaa _ _|fail)|refine yan _ (fun _ hq X=>hr _) ?_|refine zaa .empty k rfl (by omega) zb4 hx ?_|refine zae [] ?_|fail)));conv=>whnf
     exact eT trivial
    ·rw [ya9] at hA
     by_cases hk0:k=0
     ·rw [decide_eq_true hk0,Bool.true_or] at hA
      subst hk0
      (repeat' ((conv=>whnf);(first|(refine yai ?_;first|refine yas ?_|refine yaq rfl ?_|refine yau rfl ?_|refine yar (by omega) ?_|fail)|(refine zad _ _ Cst.h Cst.h ?_ ?_;· omega)|(refine yaf ?_ ?_;· first|kernel_rfl|omega|exact yaa _ _|fail)|refine yan _ (fun _ hq X=>hr _) ?_|refine zaa .empty 0 rfl (by omega) zb4 hx ?_|refine zae [] ?_|fail)));conv=>whnf
      (refine ⟨⟨0+1,⟨by omega,hstep hA⟩,by omega,?_,.inl ⟨rfl,rfl⟩,rfl,_,rfl,?_⟩⟩;rotate_left 1;exact .inl rfl;exact ⟨⟨_,rfl,yae _⟩,trivial⟩)
     ·rw [decide_eq_false hk0,yej] at hA
      by_cases hcv:cv<0
      ·rw [decide_eq_true hcv] at hA e3
       have e4:(!(Op.bytesLess u2.toList u.toList))=false:=by rw [e3];rfl
       (repeat' ((conv=>whnf);(first|(refine yai ?_;first|refine yau e4 ?_|refine yas ?_|refine yaq rfl ?_|refine yar (by omega) ?_|fail)|(refine yc0 ?_;first|(refine zad _ _ Cst.h Cst.h ?_ ?_;· omega)|(refine zb5 _ _ Cst.h Cst.h ?_ ?_;· omega)|fail)|(refine yaf ?_ ?_;· first|kernel_rfl|omega|exact yaa _ _|fail)|refine yan _ (fun _ hq X=>hr _) ?_|refine zaa .empty k rfl (by omega) zb4 hx ?_|refine zaa .empty (k-1) (by omega) (by omega) zb4 hy ?_|refine zae [] ?_|fail)));conv=>whnf
       (refine ⟨⟨k+1,⟨by omega,hstep hA⟩,by omega,?_,.inl ⟨rfl,rfl⟩,rfl,_,rfl,?_⟩⟩;rotate_left 1;exact .inl rfl;exact ⟨⟨_,rfl,yae _⟩,trivial⟩)
      ·rw [decide_eq_false hcv] at hA e3
       have e4:(!(Op.bytesLess u2.toList u.toList))=true:=by rw [e3];rfl
       rw [zer hlt hA]
       (repeat' ((conv=>whnf);(first|(refine yai ?_;first|refine yaq e4 ?_|refine yas ?_|refine yaq rfl ?_|refine yar (by omega) ?_|fail)|(refine zb5 _ _ Cst.h Cst.h ?_ ?_;· omega)|(refine yaf ?_ ?_;· first|kernel_rfl|omega|exact yaa _ _|fail)|refine yan _ (fun _ hq X=>hr _) ?_|refine zaa .empty k rfl (by omega) zb4 hx ?_|refine zaa .empty (k-1) (by omega) (by omega) zb4 hy ?_|refine zae [] ?_|fail)));conv=>whnf
       exact eT trivial
   ·have:k=V.length:=by omega
    subst this
    rw [inc_all hinv]
    (repeat' ((conv=>whnf);(first|refine ya1 (by omega) ?_|fail)));conv=>whnf
    exact eT trivial
theorem rof_c (m:Mdl) (hm:m.Sm) (H:Heap):VDet Tryz.prog 114 [.agg m.cells] H (.agg (sigM m).cells):=by
 have hfl:=hm.facts
 have hul:=hm.funcs
 have hbl2:=hm.binds
 have hmc:m.cells=[.int .u8 m.kind,.int .i64 m.size,.sl none m.rel.length (m.rel.flatMap enc64),.int .i64 m.loop,.sl none m.facts.length (m.facts.flatMap Fct.cells),.sl none m.funcs.length (m.funcs.flatMap Fnc.cells),.sl none m.binds.length (m.binds.flatMap Bnd.cells)]:=rfl
 rw [hmc]
 refine fdD Tryz.func114 ⟨rfl,rfl,rfl⟩ fun hcl hbl=>?_
 conv=>whnf
 refine ydv 2 0 126 2 rfl rfl rfl rfl rfl rfl ?_
 refine zax Tryz.E0 zag (σ:=Nat) (fun k=>k≤m.facts.length) (fun k=>m.facts.length-k) (fun k=>[(4,.v (.int .i64 k))]) (fun k=>[.box 37 [.int .u8 m.kind,.int .i64 m.size,.sl none m.rel.length (m.rel.flatMap enc64),.int .i64 m.loop,.sl none m.facts.length (m.facts.flatMap Fct.cells),.sl none m.funcs.length (m.funcs.flatMap Fnc.cells),.sl none m.binds.length (m.binds.flatMap Bnd.cells)],.box 67 [.nils,.nils,.nils],.box 67 [.sl (some (H.length+3)) k (((m.facts.map fun f=>(f.nm,f.ar)).take k).flatMap symI),.nils,.nils],.tok 126 2 (((m.facts.map fun f=>(f.nm,f.ar)).take k).flatMap symI).length]) _ 0 rfl hcl [1,2,3] rfl (yah _) ⟨⟨_,rfl,yae _⟩,trivial⟩ rfl (fun _ _=>rfl) ?_
 intro k hk
 rcases yag k m.facts.length with hlt|hge
 ·obtain ⟨u,v,z,hx,e1⟩:=zhc (f:=m.facts.getD k fct0) rfl
  have hns:((m.facts.map fun f=>(f.nm,f.ar)).take (k+1)).flatMap symI=((m.facts.map fun f=>(f.nm,f.ar)).take k).flatMap symI++[.str u,.int .i64 v]:=by
   rw [zbm _ symI0 k (by rw [yav];exact hlt),yb0]
   have:(m.facts.map fun f=>(f.nm,f.ar)).getD k symI0=(u,v):=by
    have hg:m.facts[k]=⟨u,v,z⟩:=by
     rw [← hx]
     simp [yal hlt]
    simp [yal hlt,hg]
   rw [this]
   rfl
  have hml:(((m.facts.map fun f=>(f.nm,f.ar)).take k).flatMap symI).length=k * 2:=by
   rw [zbh za6,ycm,yav,ycl hk]
  have hbt:(k+1) * 24≤140737488355328:=by omega
  have hmx:k+1≤maxLen:=ybk (show k+1≤1000001 by omega) (by decide)
  (repeat' ((conv=>whnf);(first|refine yar (by omega) ?_|(refine zad _ _ Cst.h Cst.h ?_ ?_;· omega)|(refine yaf ?_ ?_;· first|kernel_rfl|omega|exact yaa _ _|fail)|refine zaa fct0 k rfl (by omega) zbr e1 ?_|refine yaf ⟨rfl,rfl,rfl,hbt,hmx⟩ ?_|refine yce _ rfl ?_|refine zae [] ?_|fail)));conv=>whnf
  rw [← hns]
  (refine ⟨⟨k+1,by show k+1≤_;omega,by omega,?_,.inl ⟨rfl,rfl⟩,rfl,_,rfl,?_⟩⟩;rotate_left 1;exact .inl rfl;exact ⟨⟨_,rfl,yae _⟩,trivial⟩)
 ·have:k=m.facts.length:=by omega
  subst this
  rw [yca (by rw [yav];exact yax _)]
  (repeat' ((conv=>whnf);(first|refine ya1 (by omega) ?_|fail)));conv=>whnf
  refine ydv 2 1 126 2 rfl rfl rfl rfl rfl rfl ?_
  refine zax Tryz.E0 zag (σ:=Nat) (fun k=>k≤m.funcs.length) (fun k=>m.funcs.length-k) (fun k=>[(5,.v (.int .i64 k))]) (fun k=>[.box 37 [.int .u8 m.kind,.int .i64 m.size,.sl none m.rel.length (m.rel.flatMap enc64),.int .i64 m.loop,.sl none m.facts.length (m.facts.flatMap Fct.cells),.sl none m.funcs.length (m.funcs.flatMap Fnc.cells),.sl none m.binds.length (m.binds.flatMap Bnd.cells)],.box 67 [.nils,.nils,.nils],.box 67 [.sl (some (H.length+3)) m.facts.length ((m.facts.map fun f=>(f.nm,f.ar)).flatMap symI),.sl (some (H.length+4)) k (((m.funcs.map fun f=>(f.nm,f.ar)).take k).flatMap symI),.nils],.tok 126 2 ((m.facts.map fun f=>(f.nm,f.ar)).flatMap symI).length,.tok 126 2 (((m.funcs.map fun f=>(f.nm,f.ar)).take k).flatMap symI).length]) _ 0 rfl hcl [1,2,3] rfl (yah _) ⟨⟨_,rfl,yae _⟩,trivial⟩ rfl (fun _ _=>rfl) ?_
  intro k hk
  rcases yag k m.funcs.length with hlt|hge
  ·obtain ⟨u,v,z,hx,e1⟩:=zha (f:=m.funcs.getD k fnc0) rfl
   have hns:((m.funcs.map fun f=>(f.nm,f.ar)).take (k+1)).flatMap symI=((m.funcs.map fun f=>(f.nm,f.ar)).take k).flatMap symI++[.str u,.int .i64 v]:=by
    rw [zbm _ symI0 k (by rw [yav];exact hlt),yb0]
    have:(m.funcs.map fun f=>(f.nm,f.ar)).getD k symI0=(u,v):=by
     have hg:m.funcs[k]=⟨u,v,z⟩:=by
      rw [← hx]
      simp [yal hlt]
     simp [yal hlt,hg]
    rw [this]
    rfl
   have hml:(((m.funcs.map fun f=>(f.nm,f.ar)).take k).flatMap symI).length=k * 2:=by
    rw [zbh za6,ycm,yav,ycl hk]
   have hbt:(k+1) * 24≤140737488355328:=by omega
   have hmx:k+1≤maxLen:=ybk (show k+1≤1000001 by omega) (by decide)
   (repeat' ((conv=>whnf);(first|refine yar (by omega) ?_|(refine zad _ _ Cst.h Cst.h ?_ ?_;· omega)|(refine yaf ?_ ?_;· first|kernel_rfl|omega|exact yaa _ _|fail)|refine zaa fnc0 k rfl (by omega) zbw e1 ?_|refine yaf ⟨rfl,rfl,rfl,hbt,hmx⟩ ?_|refine yce _ rfl ?_|refine zae [] ?_|fail)));conv=>whnf
   rw [← hns]
   (refine ⟨⟨k+1,by show k+1≤_;omega,by omega,?_,.inl ⟨rfl,rfl⟩,rfl,_,rfl,?_⟩⟩;rotate_left 1;exact .inl rfl;exact ⟨⟨_,rfl,yae _⟩,trivial⟩)
  ·have:k=m.funcs.length:=by omega
   subst this
   rw [yca (by rw [yav];exact yax _)]
   (repeat' ((conv=>whnf);(first|refine ya1 (by omega) ?_|fail)));conv=>whnf
   refine ydv 2 2 9 1 rfl rfl rfl rfl rfl rfl ?_
   refine zax Tryz.E0 zag (σ:=Nat) (fun k=>k≤m.binds.length) (fun k=>m.binds.length-k) (fun k=>[(6,.v (.int .i64 k))]) (fun k=>[.box 37 [.int .u8 m.kind,.int .i64 m.size,.sl none m.rel.length (m.rel.flatMap enc64),.int .i64 m.loop,.sl none m.facts.length (m.facts.flatMap Fct.cells),.sl none m.funcs.length (m.funcs.flatMap Fnc.cells),.sl none m.binds.length (m.binds.flatMap Bnd.cells)],.box 67 [.nils,.nils,.nils],.box 67 [.sl (some (H.length+3)) m.facts.length ((m.facts.map fun f=>(f.nm,f.ar)).flatMap symI),.sl (some (H.length+4)) m.funcs.length ((m.funcs.map fun f=>(f.nm,f.ar)).flatMap symI),.sl (some (H.length+5)) k (((m.binds.map Bnd.nm).take k).flatMap encS)],.tok 126 2 ((m.facts.map fun f=>(f.nm,f.ar)).flatMap symI).length,.tok 126 2 ((m.funcs.map fun f=>(f.nm,f.ar)).flatMap symI).length,.tok 9 1 (((m.binds.map Bnd.nm).take k).flatMap encS).length]) _ 0 rfl hcl [1,2,3] rfl (yah _) ⟨⟨_,rfl,yae _⟩,trivial⟩ rfl (fun _ _=>rfl) ?_
   intro k hk
   rcases yag k m.binds.length with hlt|hge
   ·obtain ⟨u,v,hx,e1⟩:=zf4 (f:=m.binds.getD k bnd0) rfl
    have hns:((m.binds.map Bnd.nm).take (k+1)).flatMap encS=((m.binds.map Bnd.nm).take k).flatMap encS++[.str u]:=by
     rw [zbm _ .empty k (by rw [yav];exact hlt),yb0]
     have:(m.binds.map Bnd.nm).getD k .empty=u:=by
      have hg:m.binds[k]=⟨u,v⟩:=by
       rw [← hx]
       simp [yal hlt]
      simp [yal hlt,hg]
     rw [this]
     rfl
    have hml:(((m.binds.map Bnd.nm).take k).flatMap encS).length=k * 1:=by
     rw [zbh zb4,ycm,yav,ycl hk]
    have hbt:(k+1) * 16≤140737488355328:=by omega
    have hmx:k+1≤maxLen:=ybk (show k+1≤1000001 by omega) (by decide)
    (repeat' ((conv=>whnf);(first|refine yar (by omega) ?_|(refine zad _ _ Cst.h Cst.h ?_ ?_;· omega)|(refine yaf ?_ ?_;· first|kernel_rfl|omega|exact yaa _ _|fail)|refine zaa bnd0 k rfl (by omega) zbs e1 ?_|refine yaf ⟨rfl,rfl,rfl,hbt,hmx⟩ ?_|refine yce _ rfl ?_|refine zae [] ?_|fail)));conv=>whnf
    rw [← hns]
    (refine ⟨⟨k+1,by show k+1≤_;omega,by omega,?_,.inl ⟨rfl,rfl⟩,rfl,_,rfl,?_⟩⟩;rotate_left 1;exact .inl rfl;exact ⟨⟨_,rfl,yae _⟩,trivial⟩)
   ·have:k=m.binds.length:=by omega
    subst this
    rw [yca (by rw [yav];exact yax _)]
    (repeat' ((conv=>whnf);(first|refine ya1 (by omega) ?_|fail)));conv=>whnf
    refine ya2 (by simp [below,zab,Sig.cells,sigM,zaj,zao]) ?_
    unfold Sig.cells sigM
    simp only [yav]
    (repeat' (first|exact trivial|refine yb6 ?_ ?_|exact wk_sl _ _ _|refine zb9 ?_|fail));done
theorem rpower_c (b:Int) (e:Nat) (hb:1≤b∧b≤3) (he:e≤10) (H:Heap):VDet Tryz.prog 94 [.int .i64 b,.int .i64 e] H (.int .i64 (b ^ e)):=by
 have hp:∀ k,k≤10→1≤b ^ k∧b ^ k≤59049:=by
  intro k hk
  have h1:∀ j:Nat,1≤b ^ j∧b ^ j≤3 ^ j:=by
   intro j
   induction j with
   | zero=>simp
   | succ j ih =>
     rw [yd3,yd3]
     constructor
     ·have:=Int.mul_le_mul ih.1 hb.1 (by decide) (by omega)
      omega
     ·exact Int.mul_le_mul ih.2 hb.2 (by omega) (by have:(0:Int)≤3 ^ j:=Int.pow_nonneg (by decide);omega)
  have h2:(3:Int) ^ k≤3 ^ 10:=by
   have:(3:Nat) ^ k≤3 ^ 10:=ycb (by decide) hk
   exact_mod_cast this
  have:=h1 k
  exact ⟨this.1,by omega⟩
 refine fdD Tryz.func94 ⟨rfl,rfl,rfl⟩ fun hcl hbl=>?_
 conv=>whnf
 refine zax Tryz.E0 zag (σ:=Nat) (fun k=>k≤e) (fun k=>e-k) (fun k=>[(5,.v (.int .i64 (b ^ k))),(6,.v (.int .i64 k))]) (fun _=>[]) _ 0 rfl hcl [0,1] rfl (yah _) ⟨⟨_,rfl,zaf (congrArg (AV.int _) (Int.pow_zero b).symm)⟩,⟨_,rfl,yae _⟩,trivial⟩ rfl (fun _ _=>rfl) ?_
 intro k hk
 rcases yag k e with hlt|hge
 ·have h1:=hp (k+1) (by omega)
  rw [yd3] at h1
  have h2:=yd3 b k
  (repeat' ((conv=>whnf);(first|refine yar (by omega) ?_|(refine yc0 ?_;first|(refine zad _ _ Cst.h Cst.h ?_ ?_;· omega)|refine yco (by omega) ?_|fail)|fail)));conv=>whnf
  rw [← h2]
  (refine ⟨⟨k+1,by show k+1≤_;omega,by omega,?_,.inl ⟨rfl,rfl⟩,rfl,_,rfl,?_⟩⟩;rotate_left 1;exact .inl rfl;exact ⟨⟨_,rfl,yae _⟩,⟨_,rfl,yae _⟩,trivial⟩)
 ·have:k=e:=by omega
  subst this
  (repeat' ((conv=>whnf);(first|refine ya1 (by omega) ?_|fail)));conv=>whnf
  exact eT trivial
theorem rpowN_c (n e:Nat) (hn:1≤n∧n≤3) (he:e≤10) (H:Heap):VDet Tryz.prog 94 [.int .i64 n,.int .i64 e] H (.int .i64 ((n ^ e:Nat):Int)):=by
 have:=rpower_c n e (by omega) he H
 rwa [show ((n ^ e:Nat):Int)=(n:Int) ^ e from Int.natCast_pow n e]
theorem rvalid_no {m:Mdl} (hm:m.Sm) (hn:m.Nm) (h:shape m→sigR (sigM m)=false) (H:Heap):VDet Tryz.prog 64 [.agg m.cells] H (.bool false):=by
 have h1:=fun H=>rof_c m hm H
 have h2:=fun H=>sound_c (sigM m) (sigM_sm hm hn) H
 obtain ⟨a1,a2,a3,a4,a5,a6,hsc,hsb⟩:∃ a1 a2 a3 a4 a5 a6,(sigM m).cells=[.sl none a1 a2,.sl none a3 a4,.sl none a5 a6]∧∀ n,zab n a2∧zab n a4∧zab n a6:=⟨_,_,_,_,_,_,rfl,fun n=>⟨zaj n _,zaj n _,zao n _⟩⟩
 rw [hsc] at h1 h2
 have hmc:m.cells=[.int .u8 m.kind,.int .i64 m.size,.sl none m.rel.length (m.rel.flatMap enc64),.int .i64 m.loop,.sl none m.facts.length (m.facts.flatMap Fct.cells),.sl none m.funcs.length (m.funcs.flatMap Fnc.cells),.sl none m.binds.length (m.binds.flatMap Bnd.cells)]:=rfl
 rw [hmc] at h1 ⊢
 by_cases q1:m.kind=2
 ·by_cases q2:m.size<1
  ·refine fdD Tryz.func64 ⟨rfl,rfl,rfl⟩ fun hcl hbl=>?_
   (repeat' ((conv=>whnf);(first|(refine yai ?_;first|refine yas ?_|refine yar (by omega) ?_|fail)|fail)));conv=>whnf
   exact eT trivial
  ·by_cases q3:3<m.size
   ·refine fdD Tryz.func64 ⟨rfl,rfl,rfl⟩ fun hcl hbl=>?_
    (repeat' ((conv=>whnf);(first|(refine yai ?_;first|refine yas ?_|refine yar (by omega) ?_|refine ya1 (by omega) ?_|fail)|fail)));conv=>whnf
    exact eT trivial
   ·by_cases q4:0<m.rel.length
    ·refine fdD Tryz.func64 ⟨rfl,rfl,rfl⟩ fun hcl hbl=>?_
     (repeat' ((conv=>whnf);(first|(refine yai ?_;first|refine yas ?_|refine yar (by omega) ?_|refine ya1 (by omega) ?_|fail)|fail)));conv=>whnf
     exact eT trivial
    ·by_cases q5:m.loop=0
     ·rw [h ⟨q1,by omega,by omega,by omega,q5⟩] at h2
      refine fdD Tryz.func64 ⟨rfl,rfl,rfl⟩ fun hcl hbl=>?_
      (repeat' ((conv=>whnf);(first|(refine yai ?_;first|refine yas ?_|refine yau rfl ?_|refine yar (by omega) ?_|refine ya1 (by omega) ?_|fail)|(refine ybm ?_;first|refine yab _ (h1 _) ?_|refine yab _ (h2 _) ?_|fail)|fail)));conv=>whnf
      exact eT trivial
     ·refine fdD Tryz.func64 ⟨rfl,rfl,rfl⟩ fun hcl hbl=>?_
      (repeat' ((conv=>whnf);(first|(refine yai ?_;first|refine yas ?_|refine yar (by omega) ?_|refine ya1 (by omega) ?_|fail)|fail)));conv=>whnf
      exact eT trivial
 ·refine fdD Tryz.func64 ⟨rfl,rfl,rfl⟩ fun hcl hbl=>?_
  (repeat' ((conv=>whnf);(first|(refine yai ?_;first|refine yas ?_|refine ya1 (by omega) ?_|fail)|fail)));conv=>whnf
  exact eT trivial
theorem zh2 (m:Mdl) (hm:m.Sm) (hn:m.Nm) (H:Heap):VDet Tryz.prog 64 [.agg m.cells] H (.bool (zb0 m)):=by
 by_cases hs:shape m∧sigR (sigM m)=true
 case neg =>
  have:zb0 m=false:=by
   unfold zb0
   by_cases h1:shape m
   ·have:sigR (sigM m)=false:=by
     rw [ybj]
     exact fun h=>hs ⟨h1,h⟩
    rw [this,ya0,yc6]
   ·rw [decide_eq_false h1,ya0]
  rw [this]
  exact rvalid_no hm hn (fun h1=>by
   rw [ybj]
   exact fun h=>hs ⟨h1,h⟩) H
 obtain ⟨⟨q1,q2,q3,q4,q5⟩,hsr⟩:=hs
 have hV:zb0 m=(m.facts.all (okFct m.size)&&(m.funcs.all (okFnc m.size)&&m.binds.all (okBnd m.size))):=by
  unfold zb0
  rw [decide_eq_true (show shape m from ⟨q1,q2,q3,q4,q5⟩),hsr,ya9,ya9]
 rw [hV]
 have hsr2:=hsr
 unfold sigR at hsr2
 rw [yak,yak] at hsr2
 have hpa:∀ f∈m.facts,0≤f.ar∧f.ar≤2:=fun f hf=>by
  have:=inc_p hsr2.1 (f.nm,f.ar) (ybx.2 ⟨f,hf,rfl⟩)
  unfold predO at this
  simp only [yak,decide_eq_true_eq] at this
  exact this.2
 have hfa:∀ f∈m.funcs,0≤f.ar∧f.ar≤1:=fun f hf=>by
  have:=inc_p hsr2.2.1 (f.nm,f.ar) (ybx.2 ⟨f,hf,rfl⟩)
  unfold funcO at this
  simp only [yak,decide_eq_true_eq] at this
  exact this.2
 obtain ⟨n,hnn⟩:∃ n:Nat,m.size=n:=⟨m.size.toNat,by omega⟩
 have h1:=fun H=>rof_c m hm H
 have h2:=fun H=>sound_c (sigM m) (sigM_sm hm hn) H
 rw [hsr] at h2
 obtain ⟨a1,a2,a3,a4,a5,a6,hsc,hsb⟩:∃ a1 a2 a3 a4 a5 a6,(sigM m).cells=[.sl none a1 a2,.sl none a3 a4,.sl none a5 a6]∧∀ n,zab n a2∧zab n a4∧zab n a6:=⟨_,_,_,_,_,_,rfl,fun n=>⟨zaj n _,zaj n _,zao n _⟩⟩
 rw [hsc] at h1 h2
 have hmc:m.cells=[.int .u8 m.kind,.int .i64 m.size,.sl none m.rel.length (m.rel.flatMap enc64),.int .i64 m.loop,.sl none m.facts.length (m.facts.flatMap Fct.cells),.sl none m.funcs.length (m.funcs.flatMap Fnc.cells),.sl none m.binds.length (m.binds.flatMap Bnd.cells)]:=rfl
 have hfl:=hm.facts
 have hul:=hm.funcs
 have hbl2:=hm.binds
 have hvl:=hm.vals
 rw [hmc,q1,hnn] at h1
 rw [hmc,q1,hnn]
 have hn3:1≤n∧n≤3:=by omega
 have hpow:=fun e he H=>rpowN_c n e hn3 he H
 refine fdD Tryz.func64 ⟨rfl,rfl,rfl⟩ fun hcl hbl=>?_
 (repeat' ((conv=>whnf);(first|(refine yai ?_;first|refine yas ?_|refine yaq rfl ?_|refine yar (by omega) ?_|refine ya1 (by omega) ?_|fail)|(refine ybm ?_;first|refine yab _ (h1 _) ?_|refine yab _ (h2 _) ?_|fail)|fail)));conv=>whnf
 refine zax Tryz.E0 zag (σ:=Nat) (fun k=>k≤m.facts.length∧∀ y∈m.facts.take k,okFct n y=true) (fun k=>m.facts.length-k) (fun k=>[(3,.v (.int .i64 k))]) (fun _=>_) _ 0 rfl hcl [1] rfl ⟨yah _,fun y hy=>(by cases hy)⟩ ⟨⟨_,rfl,yae _⟩,trivial⟩ rfl (fun _ _=>rfl) ?_
 rintro k ⟨hk,hinv⟩
 rcases yag k m.facts.length with hlt|hge
 ·obtain ⟨u,v,z,hx,e1⟩:=zhc (f:=m.facts.getD k fct0) rfl
  have har:=hpa _ (zar m.facts k fct0 hlt)
  rw [hx] at har
  obtain ⟨e,he⟩:∃ e:Nat,v=e:=⟨v.toNat,by simp only at har;omega⟩
  subst he
  simp only at har
  have hpe:=hpow e (by omega)
  have hne:n ^ e≤9:=ybk (yd0 hn3.2 _) (ybk (ycb (by decide) (show e≤2 by omega)) (by decide:3 ^ 2≤9))
  have h512:2 ^ n ^ e≤512:=ycb (by decide) hne
  have hok:okFct n (m.facts.getD k fct0)=(decide (0≤z)&&decide (z<(2 ^ n ^ e:Nat))):=by
   rw [hx]
   unfold okFct
   simp only [ybp]
  have hsh:1 <<< n ^ e=2 ^ n ^ e:=Nat.one_shiftLeft _
  by_cases z0:0≤z
  ·by_cases z1:z<(2 ^ n ^ e:Nat)
   ·rw [decide_eq_true z0,decide_eq_true z1] at hok
    (repeat' ((conv=>whnf);(first|(refine yai ?_;first|refine yar (by omega) ?_|refine ya1 (by omega) ?_|fail)|(refine yc0 ?_;first|(refine zf0 _ _ Cst.h Cst.h rfl ?_ ?_ ?_;(· (repeat' (first|omega|refine yb6 ?_ ?_|exact za1 (by omega)|exact zby (by omega)|refine zdc ?_ ?_|refine zbx ?_ ?_|refine zcf ?_ ?_|refine zbj ?_ ?_|refine zcg ?_|refine zch ?_ ?_|refine zci ?_|refine za1 ?_|fail)));(· (repeat' (first|omega|refine yb6 ?_ ?_|exact za1 (by omega)|exact zby (by omega)|refine zdc ?_ ?_|refine zbx ?_ ?_|refine zcf ?_ ?_|refine zbj ?_ ?_|refine zcg ?_|refine zch ?_ ?_|refine zci ?_|refine za1 ?_|fail))))|(refine zad _ _ Cst.h Cst.h ?_ ?_;· omega)|fail)|(refine yaf ?_ ?_;· first|kernel_rfl|omega|exact yaa _ _|fail)|refine yan _ (fun _ hq X=>hpe _) ?_|refine zaa fct0 k rfl (by omega) zbr e1 ?_|refine zae [] ?_|fail)));conv=>whnf
    (refine ⟨⟨k+1,⟨by omega,zbt fct0 hlt hinv hok⟩,by omega,?_,.inl ⟨rfl,rfl⟩,rfl,_,rfl,?_⟩⟩;rotate_left 1;exact .inr ⟨by simp [zaw,below,zab,tr,zah,zak,zai,zam,zal,zan,zaj,zao],by simp [zbe,Blk.below,zab,below,zah,zak,zai,zam,zal,zan,zaj,zao]⟩;exact ⟨⟨_,rfl,yae _⟩,trivial⟩)
   ·rw [decide_eq_true z0,decide_eq_false z1] at hok
    rw [zcj fct0 hlt hok,ya0]
    (repeat' ((conv=>whnf);(first|(refine yai ?_;first|refine yar (by omega) ?_|refine ya1 (by omega) ?_|fail)|(refine zf0 _ _ Cst.h Cst.h rfl ?_ ?_ ?_;(· (repeat' (first|omega|refine yb6 ?_ ?_|exact za1 (by omega)|exact zby (by omega)|refine zdc ?_ ?_|refine zbx ?_ ?_|refine zcf ?_ ?_|refine zbj ?_ ?_|refine zcg ?_|refine zch ?_ ?_|refine zci ?_|refine za1 ?_|fail)));(· (repeat' (first|omega|refine yb6 ?_ ?_|exact za1 (by omega)|exact zby (by omega)|refine zdc ?_ ?_|refine zbx ?_ ?_|refine zcf ?_ ?_|refine zbj ?_ ?_|refine zcg ?_|refine zch ?_ ?_|refine zci ?_|refine za1 ?_|fail))))|(refine yaf ?_ ?_;· first|kernel_rfl|omega|exact yaa _ _|fail)|refine yan _ (fun _ hq X=>hpe _) ?_|refine zaa fct0 k rfl (by omega) zbr e1 ?_|refine zae [] ?_|fail)));conv=>whnf
    exact eT trivial
  ·rw [decide_eq_false z0] at hok
   rw [zcj fct0 hlt hok,ya0]
   (repeat' ((conv=>whnf);(first|refine yar (by omega) ?_|(refine yaf ?_ ?_;· first|kernel_rfl|omega|exact yaa _ _|fail)|refine zaa fct0 k rfl (by omega) zbr e1 ?_|refine zae [] ?_|fail)));conv=>whnf
   exact eT trivial
 ·have hke:k=m.facts.length:=by omega
  subst hke
  rw [ya3] at hinv
  rw [yao.2 hinv,ya9]
  (repeat' ((conv=>whnf);(first|refine ya1 (by omega) ?_|fail)));conv=>whnf
  refine zax Tryz.E0 zag (σ:=Nat) (fun k=>k≤m.funcs.length∧∀ y∈m.funcs.take k,okFnc n y=true) (fun k=>m.funcs.length-k) (fun k=>[(5,.v (.int .i64 k))]) (fun _=>_) _ 0 rfl hcl [1] rfl ⟨yah _,fun y hy=>(by cases hy)⟩ ⟨⟨_,rfl,yae _⟩,trivial⟩ rfl (fun _ _=>rfl) ?_
  rintro k ⟨hk,hinv⟩
  rcases yag k m.funcs.length with hlt|hge
  ·obtain ⟨u,v,z,hx,e1⟩:=zha (f:=m.funcs.getD k fnc0) rfl
   have har:=hfa _ (zar m.funcs k fnc0 hlt)
   have hzl:=hvl _ (zar m.funcs k fnc0 hlt)
   rw [hx] at har hzl
   obtain ⟨e,he⟩:∃ e:Nat,v=e:=⟨v.toNat,by simp only at har;omega⟩
   subst he
   simp only at har hzl
   have hpe:=hpow e (by omega)
   have hok:okFnc n (m.funcs.getD k fnc0)=(decide (z.length=n ^ e)&&z.all (elB n)):=by
    rw [hx]
    unfold okFnc
    simp only [ybp]
   by_cases hzn:z.length=n ^ e
   ·rw [decide_eq_true hzn,ya9] at hok
    (repeat' ((conv=>whnf);(first|(refine yai ?_;first|refine yas ?_|refine yar (by omega) ?_|fail)|(refine yaf ?_ ?_;· first|kernel_rfl|omega|exact yaa _ _|fail)|refine yan _ (fun _ hq X=>hpe _) ?_|refine zaa fnc0 k rfl (by omega) zbw e1 ?_|refine zae [] ?_|fail)));conv=>whnf
    refine zax Tryz.E0 zag (σ:=Nat) (fun j=>j≤z.length∧∀ y∈z.take j,elB n y=true) (fun j=>z.length-j) (fun j=>[(7,.v (.int .i64 j))]) (fun _=>_) _ 0 rfl hcl [1,5,6] rfl ⟨yah _,fun y hy=>(by cases hy)⟩ ⟨⟨_,rfl,yae _⟩,trivial⟩ rfl (fun _ _=>rfl) ?_
    rintro j ⟨hj,hinj⟩
    rcases yag j z.length with hjl|hjg
    ·obtain ⟨a,ha⟩:∃ a,a=z.getD j 0:=⟨_,rfl⟩
     have ez:enc64 (z.getD j 0)=[.int .i64 a]:=by rw [ha];rfl
     have hb0:elB n a=(decide (0≤a)&&decide (a<n)):=rfl
     by_cases a0:0≤a
     ·by_cases a1:a<n
      ·rw [decide_eq_true a0,decide_eq_true a1] at hb0
       (repeat' ((conv=>whnf);(first|(refine yai ?_;first|refine yar (by omega) ?_|refine ya1 (by omega) ?_|fail)|(refine zad _ _ Cst.h Cst.h ?_ ?_;· omega)|(refine yaf ?_ ?_;· first|kernel_rfl|omega|exact yaa _ _|fail)|refine zaa 0 j rfl (by omega) zcu ez ?_|refine zae [] ?_|fail)));conv=>whnf
       (refine ⟨⟨j+1,⟨by omega,zbt 0 hjl hinj (by rw [← ha];exact hb0)⟩,by omega,?_,.inl ⟨rfl,rfl⟩,rfl,_,rfl,?_⟩⟩;rotate_left 1;exact .inl rfl;exact ⟨⟨_,rfl,yae _⟩,trivial⟩)
      ·rw [decide_eq_false a1,yc6] at hb0
       rw [zcj (p:=elB n) 0 hjl (by rw [← ha];exact hb0)] at hok
       rw [zcj fnc0 hlt hok,ya0]
       (repeat' ((conv=>whnf);(first|(refine yai ?_;first|refine yar (by omega) ?_|refine ya1 (by omega) ?_|fail)|(refine yaf ?_ ?_;· first|kernel_rfl|omega|exact yaa _ _|fail)|refine zaa 0 j rfl (by omega) zcu ez ?_|refine zae [] ?_|fail)));conv=>whnf
       exact eT trivial
     ·rw [decide_eq_false a0,ya0] at hb0
      rw [zcj (p:=elB n) 0 hjl (by rw [← ha];exact hb0)] at hok
      rw [zcj fnc0 hlt hok,ya0]
      (repeat' ((conv=>whnf);(first|refine yar (by omega) ?_|(refine yaf ?_ ?_;· first|kernel_rfl|omega|exact yaa _ _|fail)|refine zaa 0 j rfl (by omega) zcu ez ?_|refine zae [] ?_|fail)));conv=>whnf
      exact eT trivial
    ·have hje:j=z.length:=by omega
     subst hje
     rw [ya3] at hinj
     rw [yao.2 hinj] at hok
     (repeat' ((conv=>whnf);(first|refine ya1 (by omega) ?_|(refine zad _ _ Cst.h Cst.h ?_ ?_;· omega)|fail)));conv=>whnf
     (refine ⟨⟨k+1,⟨by omega,zbt fnc0 hlt hinv hok⟩,by omega,?_,.inr ?_,rfl,_,rfl,?_⟩⟩;rotate_left 2;exact .inr ⟨by simp [zaw,below,zab,tr,zah,zak,zai,zam,zal,zan,zaj,zao],by simp [zbe,Blk.below,zab,below,zah,zak,zai,zam,zal,zan,zaj,zao]⟩;all_goals (repeat' (first|exact trivial|refine ⟨⟨_,rfl,?_⟩,?_⟩|fail));all_goals exact yae _)
   ·rw [decide_eq_false hzn,ya0] at hok
    rw [zcj fnc0 hlt hok,ya0]
    (repeat' ((conv=>whnf);(first|(refine yai ?_;first|refine yas ?_|refine yar (by omega) ?_|refine ya1 (by omega) ?_|fail)|(refine yaf ?_ ?_;· first|kernel_rfl|omega|exact yaa _ _|fail)|refine yan _ (fun _ hq X=>hpe _) ?_|refine zaa fnc0 k rfl (by omega) zbw e1 ?_|refine zae [] ?_|fail)));conv=>whnf
    exact eT trivial
  ·have hke:k=m.funcs.length:=by omega
   subst hke
   rw [ya3] at hinv
   rw [yao.2 hinv,ya9]
   (repeat' ((conv=>whnf);(first|refine ya1 (by omega) ?_|fail)));conv=>whnf
   refine zax Tryz.E0 zag (σ:=Nat) (fun k=>k≤m.binds.length∧∀ y∈m.binds.take k,okBnd n y=true) (fun k=>m.binds.length-k) (fun k=>[(8,.v (.int .i64 k))]) (fun _=>_) _ 0 rfl hcl [1] rfl ⟨yah _,fun y hy=>(by cases hy)⟩ ⟨⟨_,rfl,yae _⟩,trivial⟩ rfl (fun _ _=>rfl) ?_
   rintro k ⟨hk,hinv⟩
   rcases yag k m.binds.length with hlt|hge
   ·obtain ⟨u,v,hx,e1⟩:=zf4 (f:=m.binds.getD k bnd0) rfl
    have hok:okBnd n (m.binds.getD k bnd0)=(decide (0≤v)&&decide (v<n)):=by
     rw [hx]
     rfl
    by_cases a0:0≤v
    ·by_cases a1:v<n
     ·rw [decide_eq_true a0,decide_eq_true a1] at hok
      (repeat' ((conv=>whnf);(first|(refine yai ?_;first|refine yar (by omega) ?_|refine ya1 (by omega) ?_|fail)|(refine zad _ _ Cst.h Cst.h ?_ ?_;· omega)|(refine yaf ?_ ?_;· first|kernel_rfl|omega|exact yaa _ _|fail)|refine zaa bnd0 k rfl (by omega) zbs e1 ?_|refine zae [] ?_|fail)));conv=>whnf
      (refine ⟨⟨k+1,⟨by omega,zbt bnd0 hlt hinv hok⟩,by omega,?_,.inl ⟨rfl,rfl⟩,rfl,_,rfl,?_⟩⟩;rotate_left 1;exact .inl rfl;exact ⟨⟨_,rfl,yae _⟩,trivial⟩)
     ·rw [decide_eq_false a1,yc6] at hok
      rw [zcj bnd0 hlt hok]
      (repeat' ((conv=>whnf);(first|(refine yai ?_;first|refine yar (by omega) ?_|refine ya1 (by omega) ?_|fail)|(refine yaf ?_ ?_;· first|kernel_rfl|omega|exact yaa _ _|fail)|refine zaa bnd0 k rfl (by omega) zbs e1 ?_|refine zae [] ?_|fail)));conv=>whnf
      exact eT trivial
    ·rw [decide_eq_false a0,ya0] at hok
     rw [zcj bnd0 hlt hok]
     (repeat' ((conv=>whnf);(first|refine yar (by omega) ?_|(refine yaf ?_ ?_;· first|kernel_rfl|omega|exact yaa _ _|fail)|refine zaa bnd0 k rfl (by omega) zbs e1 ?_|refine zae [] ?_|fail)));conv=>whnf
     exact eT trivial
   ·have hke:k=m.binds.length:=by omega
    subst hke
    rw [ya3] at hinv
    rw [yao.2 hinv]
    (repeat' ((conv=>whnf);(first|refine ya1 (by omega) ?_|fail)));conv=>whnf
    exact eT trivial
theorem insG_in {ks:List ByteArray} {c:ByteArray} (h:c∈ks):insG ks c=ks:=by
 unfold insG
 rw [if_pos ((zfo c ks).2 h)]
theorem dec_c (op:Nat) (s:ByteArray) (n1:Nat) (c1:List AV) (n2:Nat) (c2:List AV) (bs:List ByteArray) (c:ByteArray→Int) (hnd:bs.Nodup) (hs:s∈bs) (hc:-1000000≤c s∧c s≤1000000) (H:Heap) (p1 p2 i:Nat) (h1:H[p1]? = some (.box 166 [.mp i])) (h2:H[p2]? = some (.box 29 [.int .u8 op,.str s,.sl none n1 c1,.sl none n2 c2])) (hi:H[i]? = some (bdG bs c)):VDfr Tryz.prog 207 [.ptr p1 0,.ptr p2 0] H (H.set i (bdG bs (updC c s (c s-1)))):=by
 obtain ⟨f1,f2⟩:=mfindG s bs
 obtain ⟨jx,e1,e2,e3⟩:=f1 hs
 have e4:=bdG_val c bs jx s e2
 have hput:=putC c s (c s-1) bs hnd
 rw [insG_in hs] at hput
 unfold bdG at hi
 refine dfr_region Tryz.E0 Tryz.func207 rfl rfl (yb2 rfl) rfl fun hcl hbl=>?_
 (repeat' ((conv=>whnf);(first|refine yco (by omega) ?_|refine yeh _ rfl ?_|refine ydt [_] [] ⟨⟨_,rfl⟩,jx,e3,e4⟩ ?_|refine ydt _ _ ⟨⟨_,rfl⟩,hput⟩ ?_|refine ych _ (by (repeat' (first|assumption|exact zbc _ rfl|exact za2 rfl|refine za9 (B':=?_) ?_|refine zat ?_|fail))) ?_|fail)));conv=>whnf
 exact yat _
mutual
def bkF (bs:List ByteArray):Fo→List ByteArray
 | .mk op s _ m=>bkFs (if isQ op then insG bs s else bs) m
def bkFs (bs:List ByteArray):List Fo→List ByteArray
 | []=>bs
 | x::l=>bkFs (bkF bs x) l
end
mutual
def frF (c:ByteArray→Int) (ns:List ByteArray):Fo→List ByteArray
 | .mk op s l m=>frFs (if isQ op then updC c s (c s+1) else c) (frTs c ns l) m
def frFs (c:ByteArray→Int) (ns:List ByteArray):List Fo→List ByteArray
 | []=>ns
 | x::l=>frFs c (frF c ns x) l
end
mutual
def qdF:Fo→Nat
 | .mk op _ _ m=>(if isQ op then 1 else 0)+qdFs m
def qdFs:List Fo→Nat
 | []=>0
 | x::l=>max (qdF x) (qdFs l)
end
theorem zif (bs:List ByteArray) (x:Fo) (l:List Fo):bkFs bs (x::l)=bkFs (bkF bs x) l:=by rw [bkFs.eq_def]
theorem bkFs_nil (bs:List ByteArray):bkFs bs []=bs:=by rw [bkFs.eq_def]
theorem bkF_mk (bs:List ByteArray) (op:Nat) (s:ByteArray) (l:List Tm) (m:List Fo):bkF bs (.mk op s l m)=bkFs (if isQ op then insG bs s else bs) m:=by rw [bkF.eq_def]
theorem zea (c:ByteArray→Int) (ns:List ByteArray) (x:Fo) (l:List Fo):frFs c ns (x::l)=frFs c (frF c ns x) l:=by rw [frFs.eq_def]
theorem zd4 (c:ByteArray→Int) (ns:List ByteArray):frFs c ns []=ns:=by rw [frFs.eq_def]
theorem frF_mk (c:ByteArray→Int) (ns:List ByteArray) (op:Nat) (s:ByteArray) (l:List Tm) (m:List Fo):frF c ns (.mk op s l m)=frFs (if isQ op then updC c s (c s+1) else c) (frTs c ns l) m:=by rw [frF.eq_def]
theorem qdF_mk (op:Nat) (s:ByteArray) (l:List Tm) (m:List Fo):qdF (.mk op s l m)=(if isQ op then 1 else 0)+qdFs m:=by rw [qdF.eq_def]
theorem zgc (x:Fo) (l:List Fo):qdFs (x::l)=max (qdF x) (qdFs l):=by rw [qdFs.eq_def]
theorem qdFs_le:∀ (l:List Fo) (x:Fo),x∈l→qdF x≤qdFs l
 | y::l,x,h=>by
   rw [zgc]
   rcases yay.1 h with rfl|h
   ·omega
   ·have:=qdFs_le l x h
    omega
mutual
theorem bkF_sub:∀ (x:Fo) (bs:List ByteArray),bs.Nodup→(bkF bs x).Nodup∧∀ s∈bs,s∈bkF bs x
 | .mk op s l m,bs,h=>by
   rw [bkF_mk]
   have h1:(if isQ op then insG bs s else bs).Nodup∧∀ t∈bs,t∈(if isQ op then insG bs s else bs):=by
    split
    ·exact ⟨nd_insG bs s h,fun t ht=>(zgx bs t s).2 (.inl ht)⟩
    ·exact ⟨h,fun t ht=>ht⟩
   obtain ⟨h2,h3⟩:=bkFs_sub m _ h1.1
   exact ⟨h2,fun t ht=>h3 t (h1.2 t ht)⟩
theorem bkFs_sub:∀ (l:List Fo) (bs:List ByteArray),bs.Nodup→(bkFs bs l).Nodup∧∀ s∈bs,s∈bkFs bs l
 | [],bs,h=>by rw [bkFs_nil];exact ⟨h,fun s hs=>hs⟩
 | x::l,bs,h=>by
   rw [zif]
   obtain ⟨h1,h2⟩:=bkF_sub x bs h
   obtain ⟨h3,h4⟩:=bkFs_sub l _ h1
   exact ⟨h3,fun s hs=>h4 s (h2 s hs)⟩
end
theorem updC_back (c:ByteArray→Int) (s:ByteArray):updC (updC c s (c s+1)) s (updC c s (c s+1) s-1)=c:=by
 funext y
 unfold updC
 by_cases h:y=s
 ·rw [if_pos h,if_pos rfl,h]
  omega
 ·rw [if_neg h,if_neg h]
theorem set2_ne {H:Heap} {i j:Nat} (hij:i≠j) {X Y:Blk} (hi:H[i]? = some Y):((H.set j X).set i Y)=H.set j X:=zfk (by rw [ydw (yc1 hij),hi])
theorem low2 {H:Heap} {i j:Nat} {X Y:Blk} (hX:X.below H.length) (hY:Y.below H.length):∀ (k:Nat) B,((H.set j X).set i Y)[k]? = some B→H[k]? = some B∨B.below H.length:=by
 intro k B h
 rw [yaw] at h
 split at h
 ·split at h
  ·cases h
   exact .inr hY
  ·cases h
 ·rw [yaw] at h
  split at h
  ·split at h
   ·cases h
    exact .inr hX
   ·cases h
  ·exact .inl h
theorem closed2 {H:Heap} (h:zde H) (i j:Nat) {X Y:Blk} (hX:X.below H.length) (hY:Y.below H.length):zde ((H.set j X).set i Y):=zcq (zcq h j X hX) i Y (by simpa using hY)
def FfP (x:Fo):Prop:=∀ (H:Heap) (i j:Nat) (bs:List ByteArray) (c:ByteArray→Int) (ns:List ByteArray),i≠j→bs.Nodup→(∀ s,s ∉ bs→c s=0)→(∀ s,0≤c s∧c s+qdF x≤1000000)→H[i]? = some (bdG bs c)→H[j]? = some (mpG ns)→VCall Tryz.prog 147 [.agg x.cells,.mp i,.mp j] H (fun r H'=>r=.tup []∧H'=(H.set j (mpG (frF c ns x))).set i (bdG (bkF bs x) c))
theorem ff_step (op:Nat) (s:ByteArray) (l:List Tm) (m:List Fo) (hop:op≤255) (hll:l.length≤9223372036854775807) (hml:m.length≤9223372036854775807) (iht:∀ x∈l,FrTP x) (ihf:∀ x∈m,FfP x):FfP (.mk op s l m):=by
 intro H i j bs c ns hij hnd hcz hcb hi hj
 have hqc:=fun H=>quant_c op hop s l.length (l.flatMap Tm.cells) m.length (m.flatMap Fo.cells) H
 rw [zaq,bkF_mk,frF_mk]
 rw [qdF_mk] at hcb
 have hib:∀ B,(H.set j B)[i]? = some (bdG bs c):=fun B=>by rw [ydw (yc1 hij),hi]
 have hi0:=hi
 have hj0:=hj
 have hjm:∀ X Y,((H.set j X).set i Y)[j]? = some X:=fun X Y=>by rw [ydw hij,za9 hj]
 have him:∀ X Y,((H.set j X).set i Y)[i]? = some Y:=fun X Y=>za9 (hib X)
 have hlen2:∀ X Y,((H.set j X).set i Y).length=H.length:=fun X Y=>by simp
 have hss:∀ X Y X' Y' (Z:Heap),(((H.set j X).set i Y++Z).set j X').set i Y'=(H.set j X').set i Y'++Z:=fun X Y X' Y' Z=>by
  have hil:i<H.length:=(yac.1 hi).1
  have hjl:j<H.length:=(yac.1 hj).1
  rw [ycx _ _ (by simpa using hjl),ycx _ _ (by simpa using hil)]
  congr 1
  apply ybt
  intro k
  simp only [yaw,List.length_set]
  by_cases h1:i=k
  ·simp [h1]
  ·by_cases h2:j=k
   ·simp [h1,h2]
   ·simp [h1,h2]
 have hil:∀ n,i<H.length+n:=fun n=>by
  have hil:i<H.length:=(yac.1 hi).1
  omega
 cases hQ:isQ op
 ·rw [hQ] at hqc hcb
  simp only [yba,if_false,yby] at hcb ⊢
  refine fdG Tryz.func147 ⟨rfl,rfl,rfl⟩ fun hcl hbl=>?_
  conv=>whnf
  refine zd8 Tryz.E0 zag (σ:=Nat×List ByteArray) (fun p=>p.1≤l.length∧frTs c ns l=frTs c p.2 (l.drop p.1)) (fun p=>l.length-p.1) (fun p=>[(13,.v (.int .i64 p.1))]) (fun p=>H.set j (mpG p.2)) (fun _=>_) _ (0,ns) (fun p _=>by simp) (fun p _=>zcq hcl j _ (zb3 _ _)) [2,3,4,11,12] rfl ⟨yah _,rfl⟩ ⟨⟨_,rfl,yae _⟩,trivial⟩ (zfk hj0).symm rfl (fun _ _=>rfl) ?_
  rintro ⟨k,N⟩ ⟨hk,hq⟩
  simp only at hk hq
  have hNl:(H.set j (mpG N)).length=H.length:=by simp
  by_cases hlt:k<l.length
  ·have hmem:=zar l k tm0 hlt
   rw [zbn l k tm0 hlt,zdt] at hq
   have hx:=fun X=>iht _ hmem (H.set j (mpG N)++X) i j bs c N hij hcz (zat (hib _)) (zat (za9 hj0))
   obtain ⟨w1,w2,w3,w4,hw,hwb⟩:=zc1 (l.getD k tm0)
   rw [hw] at hx
   generalize hr2:frT c N (l.getD k tm0)=N' at *
   generalize hB2:mpG N'=B2 at *
   (repeat' ((conv=>whnf);(first|refine yar (by omega) ?_|(refine zad _ _ Cst.h Cst.h ?_ ?_;· omega)|(refine yaf ?_ ?_;· first|omega|exact yaa _ _|fail)|refine zaa tm0 k rfl hlt zba hw ?_|refine zay j _ _ _ _ (za9 hj0) (by simp) rfl (hx _) (ycn ..) ?_|fail)));conv=>whnf
   subst hB2
   (refine ⟨⟨(k+1,N'),⟨by simp only;omega,hq⟩,by omega,?_,.inl ⟨rfl,rfl⟩,rfl,_,rfl,?_⟩⟩;rotate_left 1;exact .inr ⟨by simp [zaw,below,zab,tr,zah,zak,zai,zam,zal,zan,zaj,zao,hil],by simp [zbe,Blk.below,zab,below,zah,zak,zai,zam,zal,zan,zaj,zao,hil]⟩;exact ⟨⟨_,rfl,yae _⟩,trivial⟩)
  ·have hke:k=l.length:=by omega
   subst hke
   rw [ybo,zcw] at hq
   subst hq
   (repeat' ((conv=>whnf);(first|(refine yai ?_;first|refine yau rfl ?_|refine ya1 (by omega) ?_|fail)|refine yab _ (hqc _) ?_|fail)));conv=>whnf
   refine zd8 Tryz.E0 zag (σ:=Nat×List ByteArray×List ByteArray) (fun p=>p.1≤m.length∧p.2.1.Nodup∧(∀ y,y ∉ p.2.1→(c) y=0)∧(∀ t∈(bs),t∈p.2.1)∧bkFs (bs) m=bkFs p.2.1 (m.drop p.1)∧frFs (c) (frTs c ns l) m=frFs (c) p.2.2 (m.drop p.1)) (fun p=>m.length-p.1) (fun p=>[(33,.v (.int .i64 p.1))]) (fun p=>(H.set j (mpG p.2.2)).set i (bdG p.2.1 (c))) (fun _=>_) _ (0,bs,frTs c ns l) (fun p _=>by simp) (fun p _=>closed2 hcl i j (zb3 _ _) (zfc _ _ _)) [2,4,31,32] rfl ⟨yah _,hnd,hcz,fun t ht=>ht,rfl,rfl⟩ ⟨⟨_,rfl,yae _⟩,trivial⟩ (set2_ne hij hi0).symm rfl (fun _ _=>rfl) ?_
   rintro ⟨k,N,M⟩ ⟨hk,hNd,hNz,hNs,hqb,hqf⟩
   simp only at hk hNd hNz hNs hqb hqf
   have hNl:=hlen2 (mpG M) (bdG N (c))
   by_cases hlt:k<m.length
   ·have hmem:=zar m k fo0 hlt
    rw [zbn m k fo0 hlt] at hqb hqf
    rw [zif] at hqb
    rw [zea] at hqf
    have hqd:=qdFs_le m _ hmem
    have hx:=fun X=>ihf _ hmem ((H.set j (mpG M)).set i (bdG N (c))++X) i j N (c) M hij hNd hNz (fun s=>⟨(hcb s).1,by have:=(hcb s).2;omega⟩) (zat (him _ _)) (zat (hjm _ _))
    obtain ⟨hb1,hb2⟩:=bkF_sub (m.getD k fo0) N hNd
    obtain ⟨w1,w2,w3,w4,w5,w6,hw,hwb⟩:=zbz (m.getD k fo0)
    rw [hw] at hx
    generalize bkF N (m.getD k fo0)=N' at *
    generalize frF (c) M (m.getD k fo0)=M' at *
    simp only [hss] at hx
    (repeat' ((conv=>whnf);(first|refine yar (by omega) ?_|(refine zad _ _ Cst.h Cst.h ?_ ?_;· omega)|(refine yaf ?_ ?_;· first|omega|exact yaa _ _|fail)|refine zaa fo0 k rfl hlt za4 hw ?_|refine ycv _ _ _ _ (hx _) (hlen2 _ _) rfl ?_|fail)));conv=>whnf
    (refine ⟨⟨(k+1,N',M'),⟨by simp only;omega,hb1,fun s hs=>hNz s (fun h=>hs (hb2 s h)),fun t ht=>hb2 t (hNs t ht),hqb,hqf⟩,by omega,?_,.inl ⟨rfl,rfl⟩,rfl,_,rfl,?_⟩⟩;rotate_left 1;exact .inr ⟨by simp [zaw,below,zab,tr,zah,zak,zai,zam,zal,zan,zaj,zao,hil],by simp [zbe,Blk.below,zab,below,zah,zak,zai,zam,zal,zan,zaj,zao,hil]⟩;exact ⟨⟨_,rfl,yae _⟩,trivial⟩)
   ·have hke:k=m.length:=by omega
    subst hke
    rw [ybo,bkFs_nil] at hqb
    rw [ybo,zd4] at hqf
    (repeat' ((conv=>whnf);(first|refine ya1 (by omega) ?_|fail)));conv=>whnf
    refine .cut (hlen2 _ _) (low2 (zb3 _ _) (zfc _ _ _)) ⟨_,.tup [],Frz.refl _,yae _,trivial,rfl,?_⟩
    rw [hqb,hqf]
 ·rw [hQ] at hqc hcb
  simp only [if_true] at hcb ⊢
  have hput:=putC c s (c s+1) bs hnd
  obtain ⟨f1,f2⟩:=mfindG s bs
  have hcs:=hcb s
  have hcz2:∀ t,t ∉ insG bs s→updC c s (c s+1) t=0:=fun t ht=>by
   have h1:t≠s:=fun e=>ht ((zgx bs t s).2 (.inr e))
   unfold updC
   rw [if_neg h1]
   exact hcz t fun h=>ht ((zgx bs t s).2 (.inl h))
  have hcb2a:∀ t,0≤updC c s (c s+1) t∧updC c s (c s+1) t+qdFs m≤1000000:=fun t=>by
   have h1:=hcb t
   unfold updC
   split
   ·omega
   ·omega
  refine fn_defer Tryz.E0 zag (G:=207) (fg:=Tryz.f207) (q:=23) (t:=29) (cs:=[.tmp 4,.tmp 3]) Tryz.func147 (by kernel_rfl) rfl rfl Tryz.func207 (ne_of_beq_false (by kernel_rfl)) (Option.isSome_iff_ne_none.1 (by kernel_rfl)) rfl rfl rfl rfl rfl rfl rfl (yb2 rfl) rfl fun hcl hbl=>?_
  conv=>whnf
  refine zd8 Tryz.E0 zag (σ:=Nat×List ByteArray) (fun p=>p.1≤l.length∧frTs c ns l=frTs c p.2 (l.drop p.1)) (fun p=>l.length-p.1) (fun p=>[(13,.v (.int .i64 p.1))]) (fun p=>H.set j (mpG p.2)) (fun _=>_) _ (0,ns) (fun p _=>by simp) (fun p _=>zcq hcl j _ (zb3 _ _)) [2,3,4,11,12] rfl ⟨yah _,rfl⟩ ⟨⟨_,rfl,yae _⟩,trivial⟩ (zfk hj0).symm rfl (fun _ _=>rfl) ?_
  rintro ⟨k,N⟩ ⟨hk,hq⟩
  simp only at hk hq
  have hNl:(H.set j (mpG N)).length=H.length:=by simp
  by_cases hlt:k<l.length
  ·have hmem:=zar l k tm0 hlt
   rw [zbn l k tm0 hlt,zdt] at hq
   have hx:=fun X=>iht _ hmem (H.set j (mpG N)++X) i j bs c N hij hcz (zat (hib _)) (zat (za9 hj0))
   obtain ⟨w1,w2,w3,w4,hw,hwb⟩:=zc1 (l.getD k tm0)
   rw [hw] at hx
   generalize hr2:frT c N (l.getD k tm0)=N' at *
   generalize hB2:mpG N'=B2 at *
   (repeat' ((conv=>whnf);(first|refine yar (by omega) ?_|(refine zad _ _ Cst.h Cst.h ?_ ?_;· omega)|(refine yaf ?_ ?_;· first|omega|exact yaa _ _|fail)|refine zaa tm0 k rfl hlt zba hw ?_|refine zay j _ _ _ _ (za9 hj0) (by simp) rfl (hx _) (ycn ..) ?_|fail)));conv=>whnf
   subst hB2
   (refine ⟨⟨(k+1,N'),⟨by simp only;omega,hq⟩,by omega,?_,.inl ⟨rfl,rfl⟩,rfl,_,rfl,?_⟩⟩;rotate_left 1;exact .inr ⟨by simp [zaw,below,zab,tr,zah,zak,zai,zam,zal,zan,zaj,zao,hil],by simp [zbe,Blk.below,zab,below,zah,zak,zai,zam,zal,zan,zaj,zao,hil]⟩;exact ⟨⟨_,rfl,yae _⟩,trivial⟩)
  ·have hke:k=l.length:=by omega
   subst hke
   rw [ybo,zcw] at hq
   subst hq
   (repeat' ((conv=>whnf);(first|refine ya1 (by omega) ?_|refine yab _ (hqc _) ?_|fail)));conv=>whnf
   refine ⟨rfl,?_⟩
   by_cases hm:s∈bs
   ·obtain ⟨jx,e1,e2,e3⟩:=f1 hm
    have e4:=bdG_val c bs jx s e2
    have hib:=hib (mpG (frTs c ns l))
    unfold bdG at hib
    (repeat' ((conv=>whnf);(first|refine yco (by omega) ?_|refine yeh _ rfl ?_|refine ydt [_] [] ⟨⟨_,rfl⟩,jx,e3,e4⟩ ?_|refine ydt _ _ ⟨⟨_,rfl⟩,hput⟩ ?_|refine ych _ (by (repeat' (first|assumption|exact zbc _ rfl|exact za2 rfl|refine za9 (B':=?_) ?_|refine zat ?_|fail))) ?_|fail)));conv=>whnf
    refine ⟨[.ptr (H.length+1) 0,.ptr (H.length+0) 0],rfl,?_⟩
    conv=>whnf
    refine zd8 Tryz.E0 zag (σ:=Nat×List ByteArray×List ByteArray) (fun p=>p.1≤m.length∧p.2.1.Nodup∧(∀ y,y ∉ p.2.1→(updC c s (c s+1)) y=0)∧(∀ t∈(insG bs s),t∈p.2.1)∧bkFs (insG bs s) m=bkFs p.2.1 (m.drop p.1)∧frFs (updC c s (c s+1)) (frTs c ns l) m=frFs (updC c s (c s+1)) p.2.2 (m.drop p.1)) (fun p=>m.length-p.1) (fun p=>[(33,.v (.int .i64 p.1))]) (fun p=>(H.set j (mpG p.2.2)).set i (bdG p.2.1 (updC c s (c s+1)))) (fun _=>_) _ (0,insG bs s,frTs c ns l) (fun p _=>by simp) (fun p _=>closed2 hcl i j (zb3 _ _) (zfc _ _ _)) [2,4,31,32] rfl ⟨yah _,nd_insG bs s hnd,hcz2,fun t ht=>ht,rfl,rfl⟩ ⟨⟨_,rfl,yae _⟩,trivial⟩ rfl rfl (fun _ _=>rfl) ?_
    rintro ⟨k,N,M⟩ ⟨hk,hNd,hNz,hNs,hqb,hqf⟩
    simp only at hk hNd hNz hNs hqb hqf
    have hNl:=hlen2 (mpG M) (bdG N (updC c s (c s+1)))
    by_cases hlt:k<m.length
    ·have hmem:=zar m k fo0 hlt
     rw [zbn m k fo0 hlt] at hqb hqf
     rw [zif] at hqb
     rw [zea] at hqf
     have hqd:=qdFs_le m _ hmem
     have hx:=fun X=>ihf _ hmem ((H.set j (mpG M)).set i (bdG N (updC c s (c s+1)))++X) i j N (updC c s (c s+1)) M hij hNd hNz (fun t=>⟨(hcb2a t).1,by have:=(hcb2a t).2;omega⟩) (zat (him _ _)) (zat (hjm _ _))
     obtain ⟨hb1,hb2⟩:=bkF_sub (m.getD k fo0) N hNd
     obtain ⟨w1,w2,w3,w4,w5,w6,hw,hwb⟩:=zbz (m.getD k fo0)
     rw [hw] at hx
     generalize bkF N (m.getD k fo0)=N' at *
     generalize frF (updC c s (c s+1)) M (m.getD k fo0)=M' at *
     simp only [hss] at hx
     (repeat' ((conv=>whnf);(first|refine yar (by omega) ?_|(refine zad _ _ Cst.h Cst.h ?_ ?_;· omega)|(refine yaf ?_ ?_;· first|omega|exact yaa _ _|fail)|refine zaa fo0 k rfl hlt za4 hw ?_|refine ycv _ _ _ _ (hx _) (hlen2 _ _) rfl ?_|fail)));conv=>whnf
     (refine ⟨⟨(k+1,N',M'),⟨by simp only;omega,hb1,fun s hs=>hNz s (fun h=>hs (hb2 s h)),fun t ht=>hb2 t (hNs t ht),hqb,hqf⟩,by omega,?_,.inl ⟨rfl,rfl⟩,rfl,_,rfl,?_⟩⟩;rotate_left 1;exact .inr ⟨by simp [zaw,below,zab,tr,zah,zak,zai,zam,zal,zan,zaj,zao,hil],by simp [zbe,Blk.below,zab,below,zah,zak,zai,zam,zal,zan,zaj,zao,hil]⟩;exact ⟨⟨_,rfl,yae _⟩,trivial⟩)
    ·have hke:k=m.length:=by omega
     subst hke
     rw [ybo,bkFs_nil] at hqb
     rw [ybo,zd4] at hqf
     (repeat' ((conv=>whnf);(first|refine ya1 (by omega) ?_|fail)));conv=>whnf
     have hsN:s∈N:=hNs s ((zgx bs s s).2 (.inr rfl))
     have hcs:updC c s (c s+1) s=c s+1:=if_pos rfl
     have hbs:=hcb s
     have hp1:((H.set j (mpG M)).set i (bdG N (updC c s (c s+1)))++[.box 29 [.int .u8 op,.str s,.sl none l.length (l.flatMap Tm.cells),.sl none m.length (m.flatMap Fo.cells)],.box 166 [.mp i]])[H.length+1]? = some (.box 166 [.mp i]):=by
      rw [← hlen2 (mpG M) (bdG N (updC c s (c s+1)))]
      exact za2 rfl
     have hp0:((H.set j (mpG M)).set i (bdG N (updC c s (c s+1)))++[.box 29 [.int .u8 op,.str s,.sl none l.length (l.flatMap Tm.cells),.sl none m.length (m.flatMap Fo.cells)],.box 166 [.mp i]])[H.length+0]? = some (.box 29 [.int .u8 op,.str s,.sl none l.length (l.flatMap Tm.cells),.sl none m.length (m.flatMap Fo.cells)]):=by
      rw [← hlen2 (mpG M) (bdG N (updC c s (c s+1)))]
      exact za2 rfl
     have hdc:=dec_c op s l.length (l.flatMap Tm.cells) m.length (m.flatMap Fo.cells) N (updC c s (c s+1)) hNd hsN (by rw [hcs];omega) _ (H.length+1) (H.length+0) i hp1 hp0 (zat (him _ _))
     rw [updC_back,ycx _ _ (by rw [hlen2];exact hil 0),ycn] at hdc
     exact ⟨⟨_,_,hdc,hlen2 _ _,low2 (zb3 _ _) (zfc _ _ _),rfl,by rw [hqb,hqf]⟩⟩
   ·have hz:=hcz s hm
    have hput0:MPut (eqV Tryz.kn Tryz.T 20 9) (bs.map fun c=>.str c) (bs.map fun b=>.int .i64 (c b)) (.str s) (.int .i64 (0+1)) ((insG bs s).map fun c=>.str c) ((insG bs s).map fun b=>.int .i64 (updC c s (c s+1) b)):=by
     rw [show (0:Int)+1=c s+1 by rw [hz]]
     exact hput
    have hib:=hib (mpG (frTs c ns l))
    unfold bdG at hib
    (repeat' ((conv=>whnf);(first|(refine zad _ _ Cst.h Cst.h ?_ ?_;· omega)|refine yeh _ rfl ?_|refine ydt [] [] ⟨⟨_,rfl⟩,f2 hm⟩ ?_|refine ydt _ _ ⟨⟨_,rfl⟩,hput0⟩ ?_|refine ych _ (by (repeat' (first|assumption|exact zbc _ rfl|exact za2 rfl|refine za9 (B':=?_) ?_|refine zat ?_|fail))) ?_|fail)));conv=>whnf
    refine ⟨[.ptr (H.length+1) 0,.ptr (H.length+0) 0],rfl,?_⟩
    conv=>whnf
    refine zd8 Tryz.E0 zag (σ:=Nat×List ByteArray×List ByteArray) (fun p=>p.1≤m.length∧p.2.1.Nodup∧(∀ y,y ∉ p.2.1→(updC c s (c s+1)) y=0)∧(∀ t∈(insG bs s),t∈p.2.1)∧bkFs (insG bs s) m=bkFs p.2.1 (m.drop p.1)∧frFs (updC c s (c s+1)) (frTs c ns l) m=frFs (updC c s (c s+1)) p.2.2 (m.drop p.1)) (fun p=>m.length-p.1) (fun p=>[(33,.v (.int .i64 p.1))]) (fun p=>(H.set j (mpG p.2.2)).set i (bdG p.2.1 (updC c s (c s+1)))) (fun _=>_) _ (0,insG bs s,frTs c ns l) (fun p _=>by simp) (fun p _=>closed2 hcl i j (zb3 _ _) (zfc _ _ _)) [2,4,31,32] rfl ⟨yah _,nd_insG bs s hnd,hcz2,fun t ht=>ht,rfl,rfl⟩ ⟨⟨_,rfl,yae _⟩,trivial⟩ rfl rfl (fun _ _=>rfl) ?_
    rintro ⟨k,N,M⟩ ⟨hk,hNd,hNz,hNs,hqb,hqf⟩
    simp only at hk hNd hNz hNs hqb hqf
    have hNl:=hlen2 (mpG M) (bdG N (updC c s (c s+1)))
    by_cases hlt:k<m.length
    ·have hmem:=zar m k fo0 hlt
     rw [zbn m k fo0 hlt] at hqb hqf
     rw [zif] at hqb
     rw [zea] at hqf
     have hqd:=qdFs_le m _ hmem
     have hx:=fun X=>ihf _ hmem ((H.set j (mpG M)).set i (bdG N (updC c s (c s+1)))++X) i j N (updC c s (c s+1)) M hij hNd hNz (fun t=>⟨(hcb2a t).1,by have:=(hcb2a t).2;omega⟩) (zat (him _ _)) (zat (hjm _ _))
     obtain ⟨hb1,hb2⟩:=bkF_sub (m.getD k fo0) N hNd
     obtain ⟨w1,w2,w3,w4,w5,w6,hw,hwb⟩:=zbz (m.getD k fo0)
     rw [hw] at hx
     generalize bkF N (m.getD k fo0)=N' at *
     generalize frF (updC c s (c s+1)) M (m.getD k fo0)=M' at *
     simp only [hss] at hx
     (repeat' ((conv=>whnf);(first|refine yar (by omega) ?_|(refine zad _ _ Cst.h Cst.h ?_ ?_;· omega)|(refine yaf ?_ ?_;· first|omega|exact yaa _ _|fail)|refine zaa fo0 k rfl hlt za4 hw ?_|refine ycv _ _ _ _ (hx _) (hlen2 _ _) rfl ?_|fail)));conv=>whnf
     (refine ⟨⟨(k+1,N',M'),⟨by simp only;omega,hb1,fun s hs=>hNz s (fun h=>hs (hb2 s h)),fun t ht=>hb2 t (hNs t ht),hqb,hqf⟩,by omega,?_,.inl ⟨rfl,rfl⟩,rfl,_,rfl,?_⟩⟩;rotate_left 1;exact .inr ⟨by simp [zaw,below,zab,tr,zah,zak,zai,zam,zal,zan,zaj,zao,hil],by simp [zbe,Blk.below,zab,below,zah,zak,zai,zam,zal,zan,zaj,zao,hil]⟩;exact ⟨⟨_,rfl,yae _⟩,trivial⟩)
    ·have hke:k=m.length:=by omega
     subst hke
     rw [ybo,bkFs_nil] at hqb
     rw [ybo,zd4] at hqf
     (repeat' ((conv=>whnf);(first|refine ya1 (by omega) ?_|fail)));conv=>whnf
     have hsN:s∈N:=hNs s ((zgx bs s s).2 (.inr rfl))
     have hcs:updC c s (c s+1) s=c s+1:=if_pos rfl
     have hbs:=hcb s
     have hp1:((H.set j (mpG M)).set i (bdG N (updC c s (c s+1)))++[.box 29 [.int .u8 op,.str s,.sl none l.length (l.flatMap Tm.cells),.sl none m.length (m.flatMap Fo.cells)],.box 166 [.mp i]])[H.length+1]? = some (.box 166 [.mp i]):=by
      rw [← hlen2 (mpG M) (bdG N (updC c s (c s+1)))]
      exact za2 rfl
     have hp0:((H.set j (mpG M)).set i (bdG N (updC c s (c s+1)))++[.box 29 [.int .u8 op,.str s,.sl none l.length (l.flatMap Tm.cells),.sl none m.length (m.flatMap Fo.cells)],.box 166 [.mp i]])[H.length+0]? = some (.box 29 [.int .u8 op,.str s,.sl none l.length (l.flatMap Tm.cells),.sl none m.length (m.flatMap Fo.cells)]):=by
      rw [← hlen2 (mpG M) (bdG N (updC c s (c s+1)))]
      exact za2 rfl
     have hdc:=dec_c op s l.length (l.flatMap Tm.cells) m.length (m.flatMap Fo.cells) N (updC c s (c s+1)) hNd hsN (by rw [hcs];omega) _ (H.length+1) (H.length+0) i hp1 hp0 (zat (him _ _))
     rw [updC_back,ycx _ _ (by rw [hlen2];exact hil 0),ycn] at hdc
     exact ⟨⟨_,_,hdc,hlen2 _ _,low2 (zb3 _ _) (zfc _ _ _),rfl,by rw [hqb,hqf]⟩⟩
mutual
theorem ff_c:∀ x:Fo,x.good→FfP x
 | .mk op s l m,h=>ff_step op s l m h.1 (zaz h.2.2.1) (zaz h.2.2.2.2.1) (frts_all l h.2.2.2.1) (ffs_all m h.2.2.2.2.2)
theorem ffs_all:∀ l:List Fo,Fo.goodL l→∀ x∈l,FfP x
 | [],_,x,hx=>by cases hx
 | y::l,h,x,hx=>by
   rcases yay.1 hx with e|hx
   ·rw [e]
    exact ff_c y h.1
   ·exact ffs_all l h.2 x hx
end
end
section
open Go.Shelf Go.RowKit Go.Sort Go.Lib
theorem clo149_k (x y:ByteArray×Nat) (W:World):Calls Tryz.prog 149 #[.agg #[.string x.1,.int .i64 (x.2:Nat)],.agg #[.string y.1,.int .i64 (y.2:Nat)]] W fun e w'=>e=.returned (.int .i64 (cSym x y))∧∃ q os',w'=grow (W.drewN q) os':=by
 have hs:=cmp31_k x.1 y.1
 have hi:=cmp62_k (x.2:Nat) (y.2:Nat)
 unfold cSym andC
 generalize cmpB x.1 y.1=c at *
 generalize cmpI (x.2:Nat) (y.2:Nat)=d at *
 by_cases h0:c=0
 ·rw [if_pos h0]
  go_enter Tryz.func149,Tryz.ntmps149
  go_wp2_with (first|(go_at_call 151;refine (hs _).mono ?_;rintro e w' ⟨rfl,rfl⟩)|(go_at_call 210;refine (hi _).mono ?_;rintro e w' ⟨rfl,rfl⟩))
  all_goals (try simp [h0])
  all_goals go_ret
  all_goals exact ⟨rfl,0,_,by rw [alloc_eq_grow,alloc_eq_grow,grow_grow];rfl⟩
 ·rw [if_neg h0]
  go_enter Tryz.func149,Tryz.ntmps149
  go_wp2_with (first|(go_at_call 151;refine (hs _).mono ?_;rintro e w' ⟨rfl,rfl⟩)|(go_at_call 210;refine (hi _).mono ?_;rintro e w' ⟨rfl,rfl⟩))
  all_goals (try simp [h0])
  all_goals go_ret
  all_goals exact ⟨rfl,0,_,by rw [alloc_eq_grow,alloc_eq_grow,grow_grow];rfl⟩
theorem clo149_lays (blk off size:Nat) (w:World):CmpLays Tryz.prog 149 #[] symV 2 cSym blk off size w :=
 fun _ _ _ _ x y=>clo149_k x y _
theorem sort149_c (H:Heap) (i:Nat) (l:List Sym) (hl:l.length≤1000000000000) (hi:H[i]? = some (.vec 92 2 (l.flatMap symC))) :
  VCall Tryz.prog 239 [.vs i l.length,.clo (.func 149) [] []] H (fun r H'=>r=.tup []∧H'=H.set i (.vec 92 2 ((sortY l).flatMap symC))):=by
 refine ⟨⟨_,Tryz.func239,by kernel_rfl,rfl⟩,fun g w xs hH hL=>?_⟩
 simp only [LRel,VRel,fnG] at hL
 obtain ⟨c,r,has,⟨hok,hle,A,cap,rfl,hncap,hcur⟩,c2,r2,rfl,⟨-,f',c',rfl,hf',hc'⟩,rfl⟩:=hL
 have hf':f'=#[]:=by simpa using congrArg List.toArray hf'
 have hc':c'=#[]:=by simpa using congrArg List.toArray hc'
 have has:xs=#[.slice A l.length cap,.func (.func 149) f' c']:=by simpa using congrArg List.toArray has
 subst has hf' hc'
 have hat:Vsi.At (Hp.of H) i (.vec 92 2 (l.flatMap symC)):=by
  show (Hp.of H).all[i]? = _
  simpa [Hp.all,Hp.of] using hi
 obtain ⟨b1,b2,b3⟩:=hH.rel i _ hat
 obtain ⟨hA,hcap⟩:=hcur (by rw [b1,b2,zct])
 have hput:Put (Hp.of H) i (.vec 92 2 ((sortY l).flatMap symC)) (Hp.of (H.set i (.vec 92 2 ((sortY l).flatMap symC)))):=⟨by simp [Hp.all,Hp.of],by simp [Hp.of],rfl,rfl⟩
 rcases b3 with ⟨-,hl0,-⟩|⟨b,cs,hbase,hheap,hsize,hcm,hlen,hrel,hown⟩
 ·have hz:l=[]:=by
   have:=zct l
   rw [hl0] at this
   exact ya4 (by simp at this;omega)
  subst hz
  have hc:=AnyF.slices_SortFunc_none zev A cap (.func (.func 149) #[] #[]) w
  change Calls Tryz.prog 239 _ _ _ at hc
  refine hc.mono ?_
  rintro e w' ⟨rfl,rfl⟩
  have hset:H.set i (.vec 92 2 ((sortY []).flatMap symC))=H:=by
   apply ybt
   intro j
   rw [yaw]
   by_cases hij:i=j
   ·subst hij
    have:=(yac.1 hi).1
    have hs0:sortY []=[]:=by unfold sortY;simp
    simp only [if_true,this]
    rw [hi,hs0]
   ·rw [if_neg hij]
  exact ⟨_,_,g,_,rfl,⟨rfl,rfl⟩,by rw [hset];exact hH,by simp [VRel,LRel],ycw _ _⟩
 ·rw [hbase] at hA
  simp only [ybc] at hA
  subst hA
  have hpre:=sym_of hrel
  have hlen2:(l.flatMap symC).length=l.length * 2:=zct l
  have hH2:HoldsK symV 2 w b 0 l.toArray:=by
   unfold HoldsK
   rw [flatK_eq]
   intro j hj
   have hj2:j<l.length * 2:=by
    have:=zfg l
    simp only [ybs] at hj
    omega
   have hjc:j<cs.size:=by omega
   have hg:cs[j]? = some ((l.flatMap symV).toArray[j]!):=by
    have h1:(cs.toList.take (l.flatMap symC).length)[j]? = (l.flatMap symV)[j]? := by rw [hpre]
    rw [ybw,if_pos (by omega)] at h1
    have h2:(l.flatMap symV)[j]? = some ((l.flatMap symV).toArray[j]!):=by
     have:j<(l.flatMap symV).length:=by simpa using hj
     rw [getElem!_pos _ j hj]
     simp
    rw [h2] at h1
    simpa using h1
   refine ⟨cell_iff.2 ⟨cs,92,(0,0),hheap,by simpa using hg⟩,?_⟩
   simp [World.frozen?,hheap]
  have hc:=AnyQ.slices_SortFunc_total zev 2 Tryz.isAgg92 Tryz.sizeOf92 symV (fun _=>rfl) (fun x v hv=>by simp [symV] at hv;rcases hv with rfl|rfl <;> rfl) cSym swoSym 149 #[] b 0 cap l.toArray w (enters_of Tryz.func149 (by kernel_rfl) rfl) (clo149_lays b 0 _ w) hH2 (zbf hheap) (by simp;omega) totSym
  change Calls Tryz.prog 239 _ _ _ at hc
  simp only [ybs] at hc
  refine hc.mono ?_
  rintro e w' ⟨rfl,q,os,rfl⟩
  have hsl:l.mergeSort (fun x y=>!(ltOf cSym) y x)=sortY l:=rfl
  rw [hsl]
  have hF:flatK symV 2 (sortY l).toArray=((sortY l).flatMap symV).toArray:=flatK_eq _
  have hFs:((sortY l).flatMap symV).toArray.size≤cs.size:=by
   rw [ybs,zfg,zd5,← hlen2]
   exact hlen
  obtain ⟨p1,p2⟩:=put_take ((sortY l).flatMap symV).toArray cs hFs
  have hw:∀ k,(sortWorldK symV 2 w b 0 q (sortY l).toArray os).heap[k]? = if k<w.heap.size then (w.heap.modify b (onCells (putCells id 0 ((sortY l).flatMap symV).toArray)))[k]? else (os[k-w.heap.size]?):=by
   intro k
   unfold sortWorldK putRowK putRow mapBlock grow Sort.ahead
   rw [hF]
   simp only [Array.getElem?_append,Array.size_modify]
  obtain ⟨hH3,hX⟩:=hH.setVec (w':=sortWorldK symV 2 w b 0 q (sortY l).toArray os) (cs':=putCells id 0 ((sortY l).flatMap symV).toArray cs) hat hbase hheap (by
    rw [hw,if_pos (zbf hheap),yb8,if_pos rfl,hheap]
    rfl) p2 (fun k hk hkb=>by
    rw [hw,if_pos hk,yb8,if_neg (yc1 hkb)]) (size_sortWorldK_c symV 2 w b 0 q _ os) rfl rfl rfl (ydb w.drawn q) (by
    have e1:((sortY l).flatMap symC).length=((sortY l).flatMap symV).toArray.size:=by rw [ybs,zfg,zct]
    rw [e1,p1]
    exact sym_rel g w (sortY l)) (by rw [zct,zct,zd5]) hput
  exact ⟨_,_,g,_,rfl,⟨rfl,rfl⟩,hH3,by simp [VRel,LRel],hX⟩
end
section
open Go.Shelf Go.RowKit Go.Sort
attribute [local irreducible] VW VCall VO bits
theorem sf149_c (H:Heap) (i p:Nat) (ks:List Sym) (hl:ks.length≤1000000000000) (hi:H[i]? = some (mpY ks)) (hp:H[p]? = some (.box 182 [.mp i])) :
  VDet Tryz.prog 208 [.clo (.func 240) [] [.ptr p 0],.clo (.func 149) [] []] H (.sl none ks.length ((sortY ks).flatMap symC)):=by
 have h:=coll86_c H i p ks hl hi hp
 refine fdD Tryz.func208 ⟨rfl,rfl,rfl⟩ fun hcl hbl=>?_
 conv=>whnf
 rw [← yat H] at h
 refine CallN.gen _ h ?_
 rw [yat]
 rintro r H' ⟨ord,hperm,rfl,rfl⟩
 have hlen:=hperm.length_eq
 have hs:=sortY_eq hperm
 have h2:=sort149_c (H++[.box 56 [.vs (H.length+1) ord.length],.vec 92 2 (ord.flatMap symC),.dead]) (H.length+1) ord (by omega) (by simp)
 rw [zeg] at h2
 have h2:VCall Tryz.prog 239 [.vs (H.length+1) ord.length,.clo (.func 149) [] []] (H++[.box 56 [.vs (H.length+1) ord.length],.vec 92 2 (ord.flatMap symC),.dead]) (fun r H'=>r=.tup []∧H'=H++[.box 56 [.vs (H.length+1) ord.length],.vec 92 2 ((sortY ord).flatMap symC),.dead]):=h2
 refine ⟨H,3,_,rfl,rfl,rfl,?_⟩
 (repeat' ((conv=>whnf);(first|refine ycv _ _ _ 3 h2 rfl rfl ?_|fail)));conv=>whnf
 refine ydy (u':=.sl none ord.length ((sortY ord).flatMap symC)) (by simp [below,zca]) (Frz.vs rfl (by rw [zct,zd5]) (ydu _)) ?_
 rw [hlen,hs]
 exact yae _
theorem keys148_c (H:Heap) (i:Nat) (ks:List Sym) (hl:ks.length≤1000000000000) (hi:H[i]? = some (mpY ks)):VDet Tryz.prog 148 [.mp i,.clo (.func 149) [] []] H (.sl none ks.length ((sortY ks).flatMap symC)):=by
 have h1:VCall Tryz.prog 209 [.mp i] (H++[]) (fun r H'=>r=.clo (.func 240) [] [.ptr (H.length+0) 0]∧H'=(H++[])++[.box 182 [.mp i]]):=by
  rw [yat]
  exact keys75_c H i
 have h2:=sf149_c (H++[.box 182 [.mp i]]) i (H.length+0) ks hl (zat hi) (by simp)
 refine fdD Tryz.func148 ⟨rfl,rfl,rfl⟩ fun hcl hbl=>?_
 (repeat' ((conv=>whnf);(first|refine yab _ (h2) ?_|refine yek _ _ _ 1 h1 rfl rfl rfl ?_|fail)));conv=>whnf
 refine ya2 ?_ (yae _)
 exact ⟨fun _ e=>(nomatch e),zca _ _⟩
end
end Go.Proofs.YtgdmldelijeaoaaGreatDoor
namespace Go.Proofs.YtgdmldelijeaoaaGreatDoor
section
open Go.Shelf
def Tryz.sortfS_ren:Go.Shelf.Ren:=⟨fun|6=>242|15=>249|14=>252|28=>263|29=>264|20=>273|21=>274|22=>275|23=>276|24=>277|25=>278|26=>279|27=>280|46=>290|47=>282|48=>283|49=>291|50=>292|57=>295|n=>n,fun|22=>24|24=>9|25=>189|3=>3|39=>194|0=>0|53=>262|55=>115|4=>4|46=>256|45=>255|50=>158|5=>5|9=>9|66=>274|70=>278|76=>284|77=>285|n=>n,fun|n=>n⟩
theorem Tryz.sortfS:Go.Proofs.SlLaysF.n6 Tryz.prog Tryz.sortfS_ren:={
 mixed:=by kernel_rfl
 f6:=⟨Tryz.f242.name,by decide,Tryz.func242.trans (congrArg some (by kernel_rfl))⟩
 f14:=⟨Tryz.f252.name,by decide,Tryz.func252.trans (congrArg some (by kernel_rfl))⟩
 f15:=Tryz.func249.trans (congrArg some (by kernel_rfl))
 f20:=⟨Tryz.f273.name,by decide,Tryz.func273.trans (congrArg some (by kernel_rfl))⟩
 f21:=⟨Tryz.f274.name,by decide,Tryz.func274.trans (congrArg some (by kernel_rfl))⟩
 f22:=⟨Tryz.f275.name,by decide,Tryz.func275.trans (congrArg some (by kernel_rfl))⟩
 f23:=⟨Tryz.f276.name,by decide,Tryz.func276.trans (congrArg some (by kernel_rfl))⟩
 f24:=⟨Tryz.f277.name,by decide,Tryz.func277.trans (congrArg some (by kernel_rfl))⟩
 f25:=⟨Tryz.f278.name,by decide,Tryz.func278.trans (congrArg some (by kernel_rfl))⟩
 f26:=⟨Tryz.f279.name,by decide,Tryz.func279.trans (congrArg some (by kernel_rfl))⟩
 f27:=⟨Tryz.f280.name,by decide,Tryz.func280.trans (congrArg some (by kernel_rfl))⟩
 f28:=Tryz.func263.trans (congrArg some (by kernel_rfl))
 f29:=Tryz.func264.trans (congrArg some (by kernel_rfl))
 f46:=⟨Tryz.f290.name,by decide,Tryz.func290.trans (congrArg some (by kernel_rfl))⟩
 f47:=Tryz.func282.trans (congrArg some (by kernel_rfl))
 f48:=Tryz.func283.trans (congrArg some (by kernel_rfl))
 f49:=⟨Tryz.f291.name,by decide,Tryz.func291.trans (congrArg some (by kernel_rfl))⟩
 f50:=⟨Tryz.f292.name,by decide,Tryz.func292.trans (congrArg some (by kernel_rfl))⟩
 f57:=⟨Tryz.f295.name,by decide,Tryz.func295.trans (congrArg some (by kernel_rfl))⟩
 t0:=Tryz.underlying0
 a0:=Tryz.isAgg0
 z0:=Tryz.sizeOf0
 v0:=Tryz.zeroValue0
 t3:=Tryz.underlying3
 a3:=Tryz.isAgg3
 z3:=Tryz.sizeOf3
 v3:=Tryz.zeroValue3
 t4:=Tryz.underlying4
 a4:=Tryz.isAgg4
 z4:=Tryz.sizeOf4
 v4:=Tryz.zeroValue4
 t5:=Tryz.underlying5
 a5:=Tryz.isAgg5
 z5:=Tryz.sizeOf5
 v5:=Tryz.zeroValue5
 t9:=Tryz.underlying9
 a9:=Tryz.isAgg9
 z9:=Tryz.sizeOf9
 v9:=Tryz.zeroValue9
 t22:=Tryz.underlying24
 a22:=Tryz.isAgg24
 z22:=Tryz.sizeOf24
 v22:=Tryz.zeroValue24
 a24:=Tryz.isAgg9
 z24:=Tryz.sizeOf9
 t25:=Tryz.underlying189
 a25:=Tryz.isAgg189
 z25:=Tryz.sizeOf189
 v25:=Tryz.zeroValue189
 t39:=Tryz.underlying194
 a39:=Tryz.isAgg194
 z39:=Tryz.sizeOf194
 v39:=Tryz.zeroValue194
 t45:=Tryz.underlying255
 a45:=Tryz.isAgg255
 z45:=Tryz.sizeOf255
 v45:=Tryz.zeroValue255
 t46:=Tryz.underlying256
 a46:=Tryz.isAgg256
 z46:=Tryz.sizeOf256
 v46:=Tryz.zeroValue256
 t50:=Tryz.underlying158
 a50:=Tryz.isAgg158
 z50:=Tryz.sizeOf158
 v50:=Tryz.zeroValue158
 t53:=Tryz.underlying262
 a53:=Tryz.isAgg262
 z53:=Tryz.sizeOf262
 v53:=Tryz.zeroValue262
 t55:=Tryz.underlying115
 a55:=Tryz.isAgg115
 z55:=Tryz.sizeOf115
 v55:=Tryz.zeroValue115
 t66:=Tryz.underlying274
 a66:=Tryz.isAgg274
 z66:=Tryz.sizeOf274
 v66:=Tryz.zeroValue274
 t70:=Tryz.underlying278
 a70:=Tryz.isAgg278
 z70:=Tryz.sizeOf278
 v70:=Tryz.zeroValue278
 t76:=Tryz.underlying284
 a76:=Tryz.isAgg284
 z76:=Tryz.sizeOf284
 v76:=Tryz.zeroValue284
 t77:=Tryz.underlying285
 a77:=Tryz.isAgg285
 z77:=Tryz.sizeOf285
 v77:=Tryz.zeroValue285 }
theorem Tryz.sortfS0:Go.Proofs.SlLaysF0.n6 Tryz.prog Tryz.sortfS_ren:={
 mixed:=by kernel_rfl
 f6:=⟨Tryz.f242.name,by decide,Tryz.func242.trans (congrArg some (by kernel_rfl))⟩
 f14:=⟨Tryz.f252.name,by decide,Tryz.func252.trans (congrArg some (by kernel_rfl))⟩
 f15:=Tryz.func249.trans (congrArg some (by kernel_rfl))
 f20:=⟨Tryz.f273.name,by decide,Tryz.func273.trans (congrArg some (by kernel_rfl))⟩
 f21:=⟨Tryz.f274.name,by decide,Tryz.func274.trans (congrArg some (by kernel_rfl))⟩
 f22:=⟨Tryz.f275.name,by decide,Tryz.func275.trans (congrArg some (by kernel_rfl))⟩
 f23:=⟨Tryz.f276.name,by decide,Tryz.func276.trans (congrArg some (by kernel_rfl))⟩
 f24:=⟨Tryz.f277.name,by decide,Tryz.func277.trans (congrArg some (by kernel_rfl))⟩
 f25:=⟨Tryz.f278.name,by decide,Tryz.func278.trans (congrArg some (by kernel_rfl))⟩
 f26:=⟨Tryz.f279.name,by decide,Tryz.func279.trans (congrArg some (by kernel_rfl))⟩
 f27:=⟨Tryz.f280.name,by decide,Tryz.func280.trans (congrArg some (by kernel_rfl))⟩
 f28:=Tryz.func263.trans (congrArg some (by kernel_rfl))
 f29:=Tryz.func264.trans (congrArg some (by kernel_rfl))
 f46:=⟨Tryz.f290.name,by decide,Tryz.func290.trans (congrArg some (by kernel_rfl))⟩
 f47:=Tryz.func282.trans (congrArg some (by kernel_rfl))
 f48:=Tryz.func283.trans (congrArg some (by kernel_rfl))
 f49:=⟨Tryz.f291.name,by decide,Tryz.func291.trans (congrArg some (by kernel_rfl))⟩
 f50:=⟨Tryz.f292.name,by decide,Tryz.func292.trans (congrArg some (by kernel_rfl))⟩
 f57:=⟨Tryz.f295.name,by decide,Tryz.func295.trans (congrArg some (by kernel_rfl))⟩
 t0:=Tryz.underlying0
 a0:=Tryz.isAgg0
 z0:=Tryz.sizeOf0
 v0:=Tryz.zeroValue0
 t3:=Tryz.underlying3
 a3:=Tryz.isAgg3
 z3:=Tryz.sizeOf3
 v3:=Tryz.zeroValue3
 t4:=Tryz.underlying4
 a4:=Tryz.isAgg4
 z4:=Tryz.sizeOf4
 v4:=Tryz.zeroValue4
 t5:=Tryz.underlying5
 a5:=Tryz.isAgg5
 z5:=Tryz.sizeOf5
 v5:=Tryz.zeroValue5
 t9:=Tryz.underlying9
 a9:=Tryz.isAgg9
 z9:=Tryz.sizeOf9
 v9:=Tryz.zeroValue9
 t22:=Tryz.underlying24
 a22:=Tryz.isAgg24
 z22:=Tryz.sizeOf24
 v22:=Tryz.zeroValue24
 t25:=Tryz.underlying189
 a25:=Tryz.isAgg189
 z25:=Tryz.sizeOf189
 v25:=Tryz.zeroValue189
 t39:=Tryz.underlying194
 a39:=Tryz.isAgg194
 z39:=Tryz.sizeOf194
 v39:=Tryz.zeroValue194
 t45:=Tryz.underlying255
 a45:=Tryz.isAgg255
 z45:=Tryz.sizeOf255
 v45:=Tryz.zeroValue255
 t46:=Tryz.underlying256
 a46:=Tryz.isAgg256
 z46:=Tryz.sizeOf256
 v46:=Tryz.zeroValue256
 t50:=Tryz.underlying158
 a50:=Tryz.isAgg158
 z50:=Tryz.sizeOf158
 v50:=Tryz.zeroValue158
 t53:=Tryz.underlying262
 a53:=Tryz.isAgg262
 z53:=Tryz.sizeOf262
 v53:=Tryz.zeroValue262
 t55:=Tryz.underlying115
 a55:=Tryz.isAgg115
 z55:=Tryz.sizeOf115
 v55:=Tryz.zeroValue115
 t66:=Tryz.underlying274
 a66:=Tryz.isAgg274
 z66:=Tryz.sizeOf274
 v66:=Tryz.zeroValue274
 t70:=Tryz.underlying278
 a70:=Tryz.isAgg278
 z70:=Tryz.sizeOf278
 v70:=Tryz.zeroValue278
 t76:=Tryz.underlying284
 a76:=Tryz.isAgg284
 z76:=Tryz.sizeOf284
 v76:=Tryz.zeroValue284
 t77:=Tryz.underlying285
 a77:=Tryz.isAgg285
 z77:=Tryz.sizeOf285
 v77:=Tryz.zeroValue285 }
end
end Go.Proofs.YtgdmldelijeaoaaGreatDoor
namespace Go.Proofs.YtgdmldelijeaoaaGreatDoor
open Go.Vsi
section
open Go.Shelf Go.RowKit Go.Sort Go.Lib
theorem swoB:SWO (ltOf cmpB):=by
 have ha:∀ x y,cmpB y x=- cmpB x y:=fun x y=>(ordB x).anti y
 refine ⟨fun x=>?_,fun x y z h1 h2=>?_,fun x y z h1 h2=>?_⟩
 ·unfold ltOf
  rw [(ordB x).refl]
  rfl
 ·unfold ltOf at *
  simp only [decide_eq_true_eq] at *
  obtain ⟨q1,q2⟩:=(ordB x).tr y z (by omega) (by omega)
  have:cmpB x z≠0:=fun e=>by have:=(q2 e).1;omega
  omega
 ·unfold ltOf at *
  simp only [decide_eq_false_iff_not] at *
  have h3:=ha x y
  have h4:=ha y z
  obtain ⟨q1,-⟩:=(ordB z).tr y x (by omega) (by omega)
  have h5:=ha x z
  omega
theorem totB (x y:ByteArray) (h1:ltOf cmpB x y=false) (h2:ltOf cmpB y x=false):x=y:=by
 unfold ltOf at h1 h2
 simp only [decide_eq_false_iff_not] at h1 h2
 have:=(ordB x).anti y
 exact (ordB x).eq y (by omega)
def sortB (l:List ByteArray):List ByteArray:=l.mergeSort fun x y=>!(ltOf cmpB) y x
theorem zc6 (l:List ByteArray):(sortB l).Perm l:=List.mergeSort_perm l _
theorem zh0 (l:List ByteArray):(sortB l).length=l.length:=(zc6 l).length_eq
theorem zes (l:List ByteArray):(l.flatMap encS).length=l.length:=by
 induction l with
 | nil=>rfl
 | cons x l ih=>rw [ya7,ya6,ih,ybu];simp only [encS,ybu,ybg];omega
theorem str_rel (g:G) (w:World):∀ l:List ByteArray,LRel g w (l.flatMap encS) (l.map Value.string)
 | []=>by simp [LRel]
 | x::l=>by
   rw [ya7]
   show LRel g w (AV.str x::l.flatMap encS) (Value.string x::l.map Value.string)
   simp only [LRel,VRel]
   exact ⟨_,_,rfl,rfl,str_rel g w l⟩
theorem str_of {g:G} {w:World}:∀ {l:List ByteArray} {cs:List Value},LRel g w (l.flatMap encS) cs→cs=l.map Value.string
 | [],cs,h=>by simpa [LRel] using h
 | x::l,cs,h=>by
   rw [ya7] at h
   simp only [encS,ycr,yd6,LRel,VRel] at h
   obtain ⟨c,r,rfl,rfl,h⟩:=h
   rw [str_of h,yb4]
theorem putS (d:Array ByteArray) (cs:Array Value):putCells Value.string 0 d cs=putCells id 0 (d.map Value.string) cs:=by
 unfold putCells
 apply Array.ext_getElem?
 intro k
 simp only [Array.getElem?_mapIdx,Array.size_map]
 cases cs[k]? with
 | none=>rfl
 | some v =>
   simp only [ybc,yah,true_and,yby,Nat.sub_zero,id]
   by_cases h:k<d.size
   ·rw [if_pos h,if_pos h,getElem!_pos _ k h,getElem!_pos _ k (by simpa using h)]
    simp
   ·rw [if_neg h,if_neg h]
theorem size_sW (w:World) (b q:Nat) (d:Array ByteArray) (os:Array Obj):w.heap.size≤(sortWorld Value.string w b 0 q d os).heap.size:=by
 unfold sortWorld putRow mapBlock grow Sort.ahead
 simp
theorem clo151_lays (blk off size:Nat) (w:World):CmpLays1 Tryz.prog 151 #[] Value.string cmpB blk off size w :=
 fun m os dk _ x y=>(cmp31_k x y _).mono fun _ _ ⟨he,hw⟩=>⟨he,0,#[],by rw [hw,grow_empty];rfl⟩
theorem sort242_c (H:Heap) (i:Nat) (l:List ByteArray) (hl:l.length≤1000000000000) (hi:H[i]? = some (.vec 9 1 (l.flatMap encS))) :
  VCall Tryz.prog 242 [.vs i l.length,.clo (.func 151) [] []] H (fun r H'=>r=.tup []∧H'=H.set i (.vec 9 1 ((sortB l).flatMap encS))):=by
 refine ⟨⟨_,Tryz.func242,by kernel_rfl,rfl⟩,fun g w xs hH hL=>?_⟩
 simp only [LRel,VRel,fnG] at hL
 obtain ⟨c,r,has,⟨hok,hle,A,cap,rfl,hncap,hcur⟩,c2,r2,rfl,⟨-,f',c',rfl,hf',hc'⟩,rfl⟩:=hL
 have hf':f'=#[]:=by simpa using congrArg List.toArray hf'
 have hc':c'=#[]:=by simpa using congrArg List.toArray hc'
 have has:xs=#[.slice A l.length cap,.func (.func 151) f' c']:=by simpa using congrArg List.toArray has
 subst has hf' hc'
 have hat:Vsi.At (Hp.of H) i (.vec 9 1 (l.flatMap encS)):=by
  show (Hp.of H).all[i]? = _
  simpa [Hp.all,Hp.of] using hi
 obtain ⟨b1,b2,b3⟩:=hH.rel i _ hat
 obtain ⟨hA,hcap⟩:=hcur (by rw [b1,b2,zes,Nat.mul_one])
 have hput:Put (Hp.of H) i (.vec 9 1 ((sortB l).flatMap encS)) (Hp.of (H.set i (.vec 9 1 ((sortB l).flatMap encS)))):=⟨by simp [Hp.all,Hp.of],by simp [Hp.of],rfl,rfl⟩
 rcases b3 with ⟨-,hl0,-⟩|⟨b,cs,hbase,hheap,hsize,hcm,hlen,hrel,hown⟩
 ·have hz:l=[]:=by
   have:=zes l
   rw [hl0] at this
   exact ya4 (by simp at this;omega)
  subst hz
  have hc:=AnyF.slices_SortFunc_none Tryz.sortfS0 A cap (.func (.func 151) #[] #[]) w
  change Calls Tryz.prog 242 _ _ _ at hc
  refine hc.mono ?_
  rintro e w' ⟨rfl,rfl⟩
  have hset:H.set i (.vec 9 1 ((sortB []).flatMap encS))=H:=by
   apply ybt
   intro j
   rw [yaw]
   by_cases hij:i=j
   ·subst hij
    have:=(yac.1 hi).1
    have hs0:sortB []=[]:=by unfold sortB;simp
    simp only [if_true,this]
    rw [hi,hs0]
   ·rw [if_neg hij]
  exact ⟨_,_,g,_,rfl,⟨rfl,rfl⟩,by rw [hset];exact hH,by simp [VRel,LRel],ycw _ _⟩
 ·rw [hbase] at hA
  simp only [ybc] at hA
  subst hA
  have hpre:=str_of hrel
  have hlen2:(l.flatMap encS).length=l.length:=zes l
  have hH2:Holds Value.string w b 0 l.toArray:=by
   intro j hj
   have hj2:j<l.length:=by simpa using hj
   have hjc:j<cs.size:=by omega
   have hg:cs[j]? = some (Value.string l.toArray[j]!):=by
    have h1:(cs.toList.take (l.flatMap encS).length)[j]? = (l.map Value.string)[j]? := by rw [hpre]
    rw [ybw,if_pos (by omega)] at h1
    have h2:(l.map Value.string)[j]? = some (Value.string l.toArray[j]!):=by
     rw [getElem!_pos _ j hj]
     simp [hj2]
    rw [h2] at h1
    simpa using h1
   refine ⟨cell_iff.2 ⟨cs,9,(0,0),hheap,by simpa using hg⟩,?_⟩
   simp [World.frozen?,hheap]
  have hc:=Any.slices_SortFunc_total Tryz.sortfS Value.string (fun _=>rfl) cmpB swoB 151 #[] b 0 cap l.toArray w (enters_of Tryz.func151 (by kernel_rfl) rfl) (clo151_lays b 0 _ w) hH2 (zbf hheap) (by simp;omega) totB
  change Calls Tryz.prog 242 _ _ _ at hc
  simp only [ybs] at hc
  refine hc.mono ?_
  rintro e w' ⟨rfl,q,os,rfl⟩
  have hsl:l.mergeSort (fun x y=>!(ltOf cmpB) y x)=sortB l:=rfl
  rw [hsl]
  have hF:((sortB l).toArray.map Value.string)=((sortB l).map Value.string).toArray:=by simp
  have hFs:((sortB l).map Value.string).toArray.size≤cs.size:=by
   rw [ybs,yav,zh0,← hlen2]
   exact hlen
  obtain ⟨p1,p2⟩:=put_take ((sortB l).map Value.string).toArray cs hFs
  have hw:∀ k,(sortWorld Value.string w b 0 q (sortB l).toArray os).heap[k]? = if k<w.heap.size then (w.heap.modify b (onCells (putCells id 0 ((sortB l).map Value.string).toArray)))[k]? else (os[k-w.heap.size]?):=by
   intro k
   unfold sortWorld putRow mapBlock grow Sort.ahead
   have hpf:(putCells Value.string 0 (sortB l).toArray)=putCells id 0 ((sortB l).map Value.string).toArray:=by
    funext c
    rw [putS,hF]
   rw [hpf]
   simp only [Array.getElem?_append,Array.size_modify]
  obtain ⟨hH3,hX⟩:=hH.setVec (w':=sortWorld Value.string w b 0 q (sortB l).toArray os) (cs':=putCells id 0 ((sortB l).map Value.string).toArray cs) hat hbase hheap (by
    rw [hw,if_pos (zbf hheap),yb8,if_pos rfl,hheap]
    rfl) p2 (fun k hk hkb=>by
    rw [hw,if_pos hk,yb8,if_neg (yc1 hkb)]) (size_sW w b q _ os) rfl rfl rfl (ydb w.drawn q) (by
    have e1:((sortB l).flatMap encS).length=((sortB l).map Value.string).toArray.size:=by rw [ybs,yav,zes]
    rw [e1,p1]
    exact str_rel g w (sortB l)) (by rw [zes,zes,zh0]) hput
  exact ⟨_,_,g,_,rfl,⟨rfl,rfl⟩,hH3,by simp [VRel,LRel],hX⟩
end
section
attribute [local irreducible] VW VCall VO bits
theorem sortB_eq {l m:List ByteArray} (h:l.Perm m):sortB l=sortB m:=by
 have hA:∀ x y,cmpB y x=- cmpB x y:=fun x y=>(ordB x).anti y
 have hle:∀ x y:ByteArray,(!(Go.Proofs.ltOf cmpB) y x)=decide (cmpB x y≤0):=fun x y=>by
  unfold Go.Proofs.ltOf
  rw [hA]
  by_cases h:cmpB x y≤0
  ·simp [h]
  ·simp [h];omega
 have srt:∀ l:List ByteArray,(sortB l).Pairwise fun x y=>cmpB x y≤0:=fun l=>by
  have:=List.pairwise_mergeSort (le:=fun x y=>!(Go.Proofs.ltOf cmpB) y x) (fun a b c h1 h2=>by
   rw [hle] at h1 h2 ⊢
   simp only [decide_eq_true_eq] at *
   exact ((ordB a).tr b c h1 h2).1) (fun a b=>by
   rw [hle,hle,hA a b]
   simp
   omega) l
  refine this.imp fun {a b} h=>?_
  rw [hle] at h
  simpa using h
 exact (((zc6 l).trans h).trans (zc6 m).symm).eq_of_pairwise (fun a b _ _ h1 h2=>(ordB a).eq b (by have:=(ordB a).anti b;omega)) (srt l) (srt m)
structure VisS {S:Type} (F:Fn) (hp:S→Heap) (N:Nat) (ks:List ByteArray) (R:Nat→S→Prop) (step:S→ByteArray→S):Prop where
 len:∀ n s,R n s→(hp s).length=N
 low:∀ n s,R n s→∀ B∈hp s,B.below N
 pres:∀ n s x,n<ks.length→R n s→x∈ks→R (n+1) (step s x)
 call:∀ n s x Y,n<ks.length→R n s→x∈ks→VFn Tryz.prog F [.str x] (hp s++Y) (fun r H'=>r=.bool true∧H'=hp (step s x)++Y)
theorem keysItS_c {S:Type} {F:Fn} {hp:S→Heap} {N:Nat} {R:Nat→S→Prop} {step:S→ByteArray→S} {ks:List ByteArray} (hv:VisS F hp N ks R step)
  (s0:S) (hs0:R 0 s0) (p i:Nat) (hp1:∀ n s,R n s→(hp s)[p]? = some (.box 183 [.mp i])) (hi1:∀ n s,R n s→(hp s)[i]? = some (mpG ks)) :
  VCall Tryz.prog 234 [.clo F [] [],.ptr p 0] (hp s0) (fun _ H'=>∃ ord:List ByteArray,ord.Perm ks∧R ord.length (ord.foldl step s0)∧H'=hp (ord.foldl step s0)):=by
 have hpp:=hp1 0 s0 hs0
 have hii:=hi1 0 s0 hs0
 have hii2:(hp s0)[i]? = some (.mp (ks.map fun x=>.str x) (ks.map fun _=>.bool true)):=hii
 have hlen:∀ n s,R n s→(hp s).length=(hp s0).length:=fun n s hs=>by rw [hv.len n s hs,hv.len 0 s0 hs0]
 have hcl2:∀ n s,R n s→zde (hp s):=fun n s hs j B hj=>by
  rw [hv.len n s hs]
  exact hv.low n s hs B (ycs hj)
 refine fdG Tryz.func234 ⟨rfl,rfl,rfl⟩ fun hcl hbl=>?_
 (repeat' ((conv=>whnf);(first|refine ych _ (by (repeat' (first|assumption|exact zbc _ rfl|exact za2 rfl|refine za9 (B':=?_) ?_|refine zat ?_|fail))) ?_|fail)));conv=>whnf
 refine zd8 Tryz.E0 zag (σ:=List Nat×S) (fun q=>q.1.Nodup∧(∀ e∈q.1,e<ks.length)∧R q.1.length q.2∧q.2=(q.1.map fun i=>ks.getD i .empty).foldl step s0) (fun q=>ks.length-q.1.length) (fun _=>[]) (fun q=>hp q.2) (fun q=>[.it (.mp i) (ks.map fun x=>AV.str x).length q.1]) _ ([],s0) (fun q h=>hlen _ _ h.2.2.1) (fun q h=>hcl2 _ _ h.2.2.1) [0,5] rfl ⟨ydx,(fun e h=>absurd h (yc5)),hs0,rfl⟩ trivial rfl rfl (fun _ _=>rfl) ?_
 rintro ⟨seen,s⟩ ⟨hnd,hlt,hs,hfold⟩
 simp only at hnd hlt hs hfold
 have hii3:(hp s)[i]? = some (.mp (ks.map fun x=>.str x) (ks.map fun _=>.bool true)):=hi1 _ s hs
 clear hbl
 (repeat' ((conv=>whnf);(first|refine yaf (by kernel_rfl) ?_|refine ych _ (by (repeat' (first|assumption|exact zbc _ rfl|exact za2 rfl|refine za9 (B':=?_) ?_|refine zat ?_|fail))) ?_|fail)));conv=>whnf
 rintro B v (⟨rfl,rfl,hall⟩|⟨e,kv,x,he,hn,hk,hx,rfl,rfl⟩)
 ·have hall:∀ e,e<ks.length→e∈seen:=fun e he=>hall e (by simpa using he)
  (repeat' ((conv=>whnf);(first|refine yau rfl ?_|fail)));conv=>whnf
  refine .cut (hlen _ _ hs) (fun j B hB=>.inr ?_) ⟨_,_,.refl _,yae _,by simp [below,zab],seen.map fun i=>ks.getD i .empty,seen_perm .empty hnd hlt hall,by rw [← hfold,yav];exact hs,by rw [← hfold]⟩
  rw [← hlen _ _ hs]
  exact hcl2 _ _ hs j B hB
 ·have he:e<ks.length:=by simpa using he
  have hn:e ∉ seen:=hn
  have hke:ks[e]? = some (ks.getD e .empty):=by simp [he]
  have hxm:ks.getD e .empty∈ks:=ycs hke
  have hk2:kv=.str (ks.getD e .empty):=by
   rw [ya8,hke] at hk
   simpa using hk.symm
  have hx2:x=.bool true:=by
   rw [ya8,hke] at hx
   simpa using hx.symm
  subst hk2 hx2
  have hlt2:seen.length<ks.length:=by
   have:=nodup_lt (zgw hnd hn) (n:=ks.length) (fun a ha=>by
    rcases ybl.1 ha with h|h
    ·exact hlt a h
    ·simp at h;exact h▸he)
   simp at this
   omega
  have hc:=fun Y=>hv.call _ s (ks.getD e .empty) Y hlt2 hs hxm
  have hR1:=hv.pres _ s (ks.getD e .empty) hlt2 hs hxm
  have hf2:step s (ks.getD e .empty)=((seen++[e]).map fun i=>ks.getD i .empty).foldl step s0:=by
   rw [yd7,List.foldl_append,← hfold]
   rfl
  generalize step s (ks.getD e .empty)=s1 at *
  generalize hkx:ks.getD e .empty=kx at *
  have hil:i<(hp s0).length+1:=by
   have:=(yac.1 hii).1
   omega
  have hg1:((seen++[e],s1):List Nat×S).fst.length=seen.length+1:=by simp
  have hg2:((seen,s):List Nat×S).fst.length=seen.length:=rfl
  (repeat' ((conv=>whnf);(first|(refine yai ?_;first|refine yas ?_|refine yaq rfl ?_|fail)|refine ydt [_,_] [] ⟨by simp,rfl,seen,e,_,_,rfl,hk,hx,rfl⟩ ?_|refine ycv _ _ _ _ (hc _) (hlen _ _ hR1) rfl ?_|refine ych _ (by (repeat' (first|assumption|exact zbc _ rfl|exact za2 rfl|refine za9 (B':=?_) ?_|refine zat ?_|fail))) ?_|fail)));conv=>whnf
  (refine ⟨⟨(seen++[e],s1),⟨zgw hnd hn,fun a ha=>by
    rcases ybl.1 ha with h|h
    ·exact hlt a h
    ·simp at h;exact h▸he,by rw [hg1];exact hR1,hf2⟩,by omega,?_,.inl ⟨rfl,rfl⟩,rfl,_,rfl,?_⟩⟩;rotate_left 1;exact .inl rfl;exact trivial)
theorem range_keysS {S:Type} {N:FN} {n0:Nat} {ps:Array Tmp} {assign body:Code} {Q:QR} {top bot:RE} {base:Heap} {k:Nat} {loc:Heap}
  (hbase:base.length=n0) (hcl:zde base) (hN:N.r=none) (ts:List Nat) (bk:RE) (hbk:pickO ts top bot=some bk)
  (hps:∀ p∈ps.toList,p<N.n) (hps1:ps.size=1) (bbk:zaw n0 (n0+(k+1)) bk) (ks:List ByteArray)
  (ls:S→Heap) (R:Nat→S→Prop) (step:S→ByteArray→S) (s0:S) (hs0:R 0 s0) (h0:loc=ls s0) (p i:Nat) (hp1:base[p]? = some (.box 183 [.mp i])) (hi1:base[i]? = some (mpG ks))
  (lens:∀ n s,R n s→(ls s).length=k) (bls:∀ n s,R n s→∀ B∈ls s,B.below (n0+(k+1)))
  (pres:∀ n s x,n<ks.length→R n s→x∈ks→R (n+1) (step s x))
  (hy:∀ n s x Y,n<ks.length→R n s→x∈ks→rndW n0 k bk N ps assign body ((base++(ls s++[lpB n0 bk N ps assign body .ready none]))++Y) [.str x] (fun r H'=>r=.bool true∧H'=(base++(ls (step s x)++[lpB n0 bk N ps assign body .ready none]))++Y))
  (hQ:∀ ord:List ByteArray,ord.Perm ks→R ord.length (ord.foldl step s0)→jumpN Q top bot base (k+1) (ls (ord.foldl step s0)++[.dead]) none) :
  RangeN Tryz.prog N n0 234 [] [.ptr p 0] ps assign body Q top bot base k loc:=by
 subst hbase h0
 let hp:S→Heap:=fun s=>base++(ls s++[lpB base.length bk N ps assign body .ready none])
 have hloopb:(lpB base.length bk N ps assign body .ready none).below (base.length+(k+1)):=ze9 bbk
 have hk0:(ls s0).length=k:=lens 0 s0 hs0
 have hv:VisS (.yield (base.length+k)) hp (base.length+(k+1)) ks R step:=by
  refine ⟨fun n s h=>by simp [hp,lens _ _ h],fun n s h B hB=>?_,pres,fun n s x Y hn h hx=>?_⟩
  ·rcases ybl.1 hB with hB|hB
   ·obtain ⟨j,hj⟩:=ycy hB
    exact ydp (by omega) (hcl j B hj)
   ·rcases ybl.1 hB with hB|hB
    ·exact bls _ _ h B hB
    ·simp only [yaz] at hB
     subst hB
     exact hloopb
  ·have h3:=hy n s x Y hn h hx
   have hi:((base++(ls s++[lpB base.length bk N ps assign body .ready none]))++Y)[base.length+k]? = some (lpB base.length bk N ps assign body .ready none):=by
    refine zbc Y ?_
    rw [za8,yam (by rw [lens n s h];exact yax _),lens n s h,yc2]
    rfl
   exact round_R Tryz.E0 zag hi hps (by simp [hps1]) h3
 have hit:=keysItS_c hv s0 hs0 p i (fun n s _=>zat hp1) (fun n s _=>zat hi1)
 refine .mk ⟨(fun i hi=>by rw [hN] at hi;cases hi),ts,bk,(fun _ H'=>∃ ord:List ByteArray,ord.Perm ks∧R ord.length (ord.foldl step s0)∧H'=hp (ord.foldl step s0)),hbk,?_,?_⟩
 ·rw [ybf]
  exact hit
 ·rintro r H' ⟨ord,ho,hR,rfl⟩
  have hl2:=lens _ _ hR
  refine ⟨base,k+1,ls (ord.foldl step s0)++[lpB base.length bk N ps assign body .ready none],.ready,none,ls (ord.foldl step s0)++[.dead],rfl,by simp [hl2],rfl,?_,by simp,?_,hQ ord ho hR⟩
  ·rw [za8,yam (by omega),hl2,yc2];rfl
  ·rw [zd7 (by simp [hl2])]
   rw [yb7 _ _ (by omega),hl2,yc2]
   rfl
theorem keys194_c (H:Heap) (i:Nat):VCall Tryz.prog 194 [.mp i] H (fun r H'=>r=.clo (.func 234) [] [.ptr (H.length+0) 0]∧H'=H++[.box 183 [.mp i]]):=by
 refine fdG Tryz.func194 ⟨rfl,rfl,rfl⟩ fun hcl hbl=>?_
 conv=>whnf
 exact yem _ (yae _) ⟨rfl,rfl⟩
def lsS (n0:Nat) (n:Nat) (c:List AV):Heap:=[.box 24 [.vs (n0+1) n],.vec 9 1 c]
theorem app247_c (H:Heap) (i p:Nat) (ks:List ByteArray) (hl:ks.length≤1000000000000) (hi:H[i]? = some (mpG ks)) (hp:H[p]? = some (.box 183 [.mp i])) :
  VCall Tryz.prog 247 [.nils,.clo (.func 234) [] [.ptr p 0]] H (fun r H'=>∃ ord:List ByteArray,ord.Perm ks∧r=.vs (H.length+1) ord.length∧H'=H++[.box 24 [.vs (H.length+1) ord.length],.vec 9 1 (ord.flatMap encS),.dead]):=by
 refine fdG Tryz.func247 ⟨rfl,rfl,rfl⟩ fun hcl hbl=>?_
 conv=>whnf
 refine RangeN.vecB 0 0 9 1 rfl rfl rfl rfl rfl ?_
 refine range_keysS rfl hcl rfl [2] _ rfl (by decide) rfl (by simp [zaw,below,tr]) ks
  (fun acc:List ByteArray=>lsS H.length acc.length (acc.flatMap encS)) (fun n acc=>acc.length=n) (fun acc x=>acc++[x]) [] rfl rfl p i hp hi (fun _ _ _=>rfl) ?_ (fun n acc x _ h _=>by simp [h]) ?_ ?_
 ·intro n acc _ B hB
  simp only [lsS,yay,yc5,or_false] at hB
  rcases hB with rfl|rfl
  ·simp [Blk.below,zab,below]
  ·exact zao _ acc
 ·intro n acc x Y hn hacc _
  have hl1:(acc++[x]).length=acc.length+1:=by simp
  have hf1:(acc++[x]).flatMap encS=acc.flatMap encS++[.str x]:=by simp [encS]
  have hb2:∀ B∈lsS H.length (acc++[x]).length ((acc++[x]).flatMap encS),B.below (H.length+3):=by
   intro B hB
   simp only [lsS,yay,yc5,or_false] at hB
   rcases hB with rfl|rfl
   ·simp [Blk.below,zab,below]
   ·exact zao _ _
  have hbk:zaw H.length (H.length+3) [(2,.lp 0 0)]:=by simp [zaw,below,tr]
  rw [hl1,hf1] at hb2 ⊢
  have hcl:=(zes acc).trans (Nat.mul_one _).symm
  have hmx:acc.length+1≤maxLen:=ybk (show acc.length+1≤1000000000001 by omega) (by decide)
  have hside:AppV acc.length 1 1 16 (acc.flatMap encS) [.str x]:=⟨hcl,rfl,rfl,by omega,hmx⟩
  generalize acc.flatMap encS=pc at *
  unfold lsS at hb2 ⊢
  conv=>whnf
  refine ⟨none,_,zbc Y rfl,zd2 rfl,?_⟩
  generalize hB:Blk.loop LoopState.busy none _ _=B
  (repeat' ((conv=>whnf);(first|refine yeh _ (zd2 rfl) ?_|refine yaf (by omega) ?_|refine ych _ (by (repeat' (first|assumption|exact zbc _ rfl|exact za2 rfl|refine za9 (B':=?_) ?_|refine zat ?_|fail))) ?_|fail)));conv=>whnf
  subst hB
  exact rnd_end (l':=[_,_]) .normal rfl rfl hb2 hbk
 ·intro ord hperm hlen
  have hf:ord.foldl (fun acc x=>acc++[x]) []=ord:=by
   have:∀ (l a:List ByteArray),l.foldl (fun acc x=>acc++[x]) a=a++l:=by
    intro l
    induction l with
    | nil=>intro a;simp
    | cons x l ih=>intro a;rw [yd9,ih];simp
   rw [this]
   rfl
  rw [hf]
  unfold lsS
  conv=>whnf
  exact yem _ (yae _) ⟨ord,hperm,rfl,rfl⟩
theorem coll232_c (H:Heap) (i p:Nat) (ks:List ByteArray) (hl:ks.length≤1000000000000) (hi:H[i]? = some (mpG ks)) (hp:H[p]? = some (.box 183 [.mp i])) :
  VCall Tryz.prog 232 [.clo (.func 234) [] [.ptr p 0]] H (fun r H'=>∃ ord:List ByteArray,ord.Perm ks∧r=.vs (H.length+1) ord.length∧H'=H++[.box 24 [.vs (H.length+1) ord.length],.vec 9 1 (ord.flatMap encS),.dead]):=by
 have h:=app247_c H i p ks hl hi hp
 refine fdG Tryz.func232 ⟨rfl,rfl,rfl⟩ fun hcl hbl=>?_
 conv=>whnf
 rw [← yat H] at h
 refine CallN.gen _ h ?_
 rw [yat]
 rintro r H' ⟨ord,hperm,rfl,rfl⟩
 refine ⟨H,3,_,rfl,rfl,rfl,?_⟩
 conv=>whnf
 exact yem _ (yae _) ⟨ord,hperm,rfl,rfl⟩
theorem sf211_c (H:Heap) (i p:Nat) (ks:List ByteArray) (hl:ks.length≤1000000000000) (hi:H[i]? = some (mpG ks)) (hp:H[p]? = some (.box 183 [.mp i])) :
  VDet Tryz.prog 211 [.clo (.func 234) [] [.ptr p 0],.clo (.func 151) [] []] H (.sl none ks.length ((sortB ks).flatMap encS)):=by
 have h:=coll232_c H i p ks hl hi hp
 refine fdD Tryz.func211 ⟨rfl,rfl,rfl⟩ fun hcl hbl=>?_
 conv=>whnf
 rw [← yat H] at h
 refine CallN.gen _ h ?_
 rw [yat]
 rintro r H' ⟨ord,hperm,rfl,rfl⟩
 have hlen:=hperm.length_eq
 have hs:=sortB_eq hperm
 have h2:=sort242_c (H++[.box 24 [.vs (H.length+1) ord.length],.vec 9 1 (ord.flatMap encS),.dead]) (H.length+1) ord (by omega) (by simp)
 rw [zeg] at h2
 have h2:VCall Tryz.prog 242 [.vs (H.length+1) ord.length,.clo (.func 151) [] []] (H++[.box 24 [.vs (H.length+1) ord.length],.vec 9 1 (ord.flatMap encS),.dead]) (fun r H'=>r=.tup []∧H'=H++[.box 24 [.vs (H.length+1) ord.length],.vec 9 1 ((sortB ord).flatMap encS),.dead]):=h2
 refine ⟨H,3,_,rfl,rfl,rfl,?_⟩
 (repeat' ((conv=>whnf);(first|refine ycv _ _ _ 3 h2 rfl rfl ?_|fail)));conv=>whnf
 refine ydy (u':=.sl none ord.length ((sortB ord).flatMap encS)) (by simp [below,zao]) (Frz.vs rfl (by rw [zes,zh0,Nat.mul_one]) (ydu _)) ?_
 rw [hlen,hs]
 exact yae _
theorem keys150_c (H:Heap) (i:Nat) (ks:List ByteArray) (hl:ks.length≤1000000000000) (hi:H[i]? = some (mpG ks)):VDet Tryz.prog 150 [.mp i,.clo (.func 151) [] []] H (.sl none ks.length ((sortB ks).flatMap encS)):=by
 have h1:VCall Tryz.prog 194 [.mp i] (H++[]) (fun r H'=>r=.clo (.func 234) [] [.ptr (H.length+0) 0]∧H'=(H++[])++[.box 183 [.mp i]]):=by
  rw [yat]
  exact keys194_c H i
 have h2:=sf211_c (H++[.box 183 [.mp i]]) i (H.length+0) ks hl (zat hi) (by simp)
 refine fdD Tryz.func150 ⟨rfl,rfl,rfl⟩ fun hcl hbl=>?_
 (repeat' ((conv=>whnf);(first|refine yab _ (h2) ?_|refine yek _ _ _ 1 h1 rfl rfl rfl ?_|fail)));conv=>whnf
 refine ya2 ?_ (yae _)
 exact ⟨fun _ e=>(nomatch e),zao _ _⟩
theorem zff (n k:Nat) (l:List Sym):zab n (List.take k (l.map fun x=>AV.agg (symC x))):=by
 rw [← List.map_take]
 exact zdy n _
theorem zfe (n k:Nat) (l:List Sym):zab n (List.take k (l.map fun _=>AV.bool true)):=by
 rw [← List.map_take]
 exact zdx n _
def toI (x:Sym):SymI:=(x.1,(x.2:Int))
def freeF (f:Fo):List ByteArray:=frF (fun _=>0) [] f
def sigF (f:Fo):Sig:=⟨(sortY (predY f)).map toI,(sortY (funY f)).map toI,sortB (freeF f)⟩
theorem toI_flat (l:List Sym):(l.map toI).flatMap symI=l.flatMap symC:=by
 rw [List.flatMap_map]
 rfl
theorem sortY_nd {l:List Sym} (h:l.Nodup):(sortY l).Nodup:=(zbp l).symm.nodup h
theorem sortY_idem (l:List Sym):sortY (sortY l)=sortY l:=sortY_eq (zbp l)
theorem insY_snoc {l:List Sym} (h:l.Nodup) {k:Nat} (hk:k<l.length):insY (l.take k) (l.getD k sym0)=l.take (k+1):=by
 rw [zbm l sym0 k hk]
 unfold insY
 rw [if_neg]
 intro hm
 rw [zh7] at hm
 have e:l.getD k sym0=l[k]:=by simp [yal hk]
 rw [e] at hm
 obtain ⟨i,hi,he⟩:=yd1 hm
 rw [ycm] at hi
 rw [List.getElem_take] at he
 have:=(List.getElem_inj h).1 he
 omega
theorem symC_ex (x:Sym):∃ u v,x=(u,v)∧symC x=[.str u,.int .i64 (v:Nat)]:=⟨x.1,x.2,rfl,rfl⟩
theorem symC_size (x:Sym):(symC x).length=2:=rfl
theorem symbols_c (f:Fo) (hg:f.good) (hp:(predY f).length≤1000000) (hu:(funY f).length≤1000000) (hv:(freeF f).length≤1000000) (hqd:qdF f≤1000000) (H:Heap):VDet Tryz.prog 74 [.sl none 1 f.cells] H (.agg (sigF f).cells):=by
 have hpc:=fun H=>pred_c f hg (by omega) H
 have huc:=fun H=>func_c f hg (by omega) H
 have hfc:=ff_c f hg
 unfold FfP at hfc
 have hfr:frF (fun _=>0) [] f=freeF f:=rfl
 obtain ⟨w1,w2,w3,w4,w5,w6,hw,hb⟩:=zbz f
 rw [hw] at hpc huc hfc ⊢
 refine fdD Tryz.func74 ⟨rfl,rfl,rfl⟩ fun hcl hbl=>?_
 conv=>whnf
 refine ybe Tryz.E0 zag 2 rfl ?_
 (repeat' ((conv=>whnf);(first|refine yaq rfl ?_|(refine yaf ?_ ?_;· first|omega|exact yaa _ _|fail)|refine yab _ (hpc _) ?_|refine ydq _ (zcm rfl) ?_|fail)));conv=>whnf
 have hnd1:(sortY (predY f)).Nodup:=sortY_nd (predY_nd f)
 have hnd2:(sortY (funY f)).Nodup:=sortY_nd (funY_nd f)
 have hl1:(predY f).length=(sortY (predY f)).length:=(zd5 _).symm
 have hl2:(funY f).length=(sortY (funY f)).length:=(zd5 _).symm
 have hse:sigF f=⟨(sortY (predY f)).map toI,(sortY (funY f)).map toI,sortB (freeF f)⟩:=rfl
 have hk1:=fun H i hi=>keys148_c H i (sortY (predY f)) (by omega) hi
 have hk2:=fun H i hi=>keys148_c H i (sortY (funY f)) (by omega) hi
 rw [sortY_idem] at hk1 hk2
 rw [hl1,hse]
 rw [hl1] at hpc
 rw [hl2] at huc
 generalize sortY (predY f)=lp at *
 generalize sortY (funY f)=lu at *
 refine zax Tryz.E0 zag (σ:=Nat) (fun k=>k≤lp.length) (fun k=>lp.length-k) (fun k=>[(24,.v (.int .i64 k))]) (fun k=>[.box 58 [.nils,.nils,.nils],mpY (lp.take k),mpY [],mpG [],.box 29 [.int .u8 (w1:Nat),.str w2,.sl none w3 w4,.sl none w5 w6]]) _ 0 rfl hcl [2,3,4,5,7,15,16,17,22,23] rfl (yah _) ⟨⟨_,rfl,yae _⟩,trivial⟩ rfl (fun _ _=>rfl) ?_
 intro k hk
 rcases yag k lp.length with hlt|hge
 ·have hins:=insY_snoc hnd1 hlt
  have hput:=putY (lp.getD k sym0) (lp.take k)
  rw [hins] at hput
  obtain ⟨u,v,hx,e1⟩:=symC_ex (lp.getD k sym0)
  rw [e1] at hput
  (repeat' ((conv=>whnf);(first|refine yar (by omega) ?_|(refine zad _ _ Cst.h Cst.h ?_ ?_;· omega)|(refine yaf ?_ ?_;· first|omega|exact yaa _ _|fail)|refine zaa sym0 k rfl (by omega) symC_size e1 ?_|refine ydt _ _ ⟨⟨_,rfl⟩,hput⟩ ?_|refine yce _ rfl ?_|fail)));conv=>whnf
  (refine ⟨⟨k+1,by show k+1≤_;omega,by omega,?_,.inl ⟨rfl,rfl⟩,rfl,_,rfl,?_⟩⟩;rotate_left 1;exact .inr ⟨by simp [zaw,below,zab,tr,zah,zak,zai,zam,zal,zan,zaj,zao,zca,mpY,zdy,zdx,mpG,zff,zfe,hb],by simp [zbe,Blk.below,zab,below,zah,zak,zai,zam,zal,zan,zaj,zao,zca,mpY,zdy,zdx,mpG,zff,zfe,hb]⟩;exact ⟨⟨_,rfl,yae _⟩,trivial⟩)
 ·have hke:k=lp.length:=by omega
  subst hke
  rw [ya3]
  (repeat' ((conv=>whnf);(first|refine ya1 (by omega) ?_|refine yab _ (huc _) ?_|fail)));conv=>whnf
  refine zax Tryz.E0 zag (σ:=Nat) (fun k=>k≤lu.length) (fun k=>lu.length-k) (fun k=>[(34,.v (.int .i64 k))]) (fun k=>[.box 58 [.nils,.nils,.nils],mpY lp,mpY (lu.take k),mpG [],.box 29 [.int .u8 (w1:Nat),.str w2,.sl none w3 w4,.sl none w5 w6]]) _ 0 rfl hcl [2,3,4,5,7,15,16,17,32,33] rfl (yah _) ⟨⟨_,rfl,yae _⟩,trivial⟩ rfl (fun _ _=>rfl) ?_
  intro k hk
  rcases yag k lu.length with hlt|hge
  ·have hins:=insY_snoc hnd2 hlt
   have hput:=putY (lu.getD k sym0) (lu.take k)
   rw [hins] at hput
   obtain ⟨u,v,hx,e1⟩:=symC_ex (lu.getD k sym0)
   rw [e1] at hput
   (repeat' ((conv=>whnf);(first|refine yar (by omega) ?_|(refine zad _ _ Cst.h Cst.h ?_ ?_;· omega)|(refine yaf ?_ ?_;· first|omega|exact yaa _ _|fail)|refine zaa sym0 k rfl (by omega) symC_size e1 ?_|refine ydt _ _ ⟨⟨_,rfl⟩,hput⟩ ?_|refine yce _ rfl ?_|fail)));conv=>whnf
   (refine ⟨⟨k+1,by show k+1≤_;omega,by omega,?_,.inl ⟨rfl,rfl⟩,rfl,_,rfl,?_⟩⟩;rotate_left 1;exact .inr ⟨by simp [zaw,below,zab,tr,zah,zak,zai,zam,zal,zan,zaj,zao,zca,mpY,zdy,zdx,mpG,zff,zfe,hb],by simp [zbe,Blk.below,zab,below,zah,zak,zai,zam,zal,zan,zaj,zao,zca,mpY,zdy,zdx,mpG,zff,zfe,hb]⟩;exact ⟨⟨_,rfl,yae _⟩,trivial⟩)
  ·have hke:k=lu.length:=by omega
   subst hke
   rw [ya3]
   (repeat' ((conv=>whnf);(first|refine ya1 (by omega) ?_|fail)));conv=>whnf
   have hx:=hfc (H++[.box 58 [.nils,.nils,.nils],mpY lp,mpY lu,mpG [],.box 29 [.int .u8 (w1:Nat),.str w2,.sl none w3 w4,.sl none w5 w6],.mp [] []]) (H.length+5) (H.length+3) [] (fun _=>0) [] (by omega) ydx (fun _ _=>rfl) (fun s=>⟨Int.le_refl _,by show (0:Int)+_≤_;omega⟩) (za2 rfl) (za2 rfl)
   rw [zeg,zeg,hfr] at hx
   have hx:VCall Tryz.prog 147 [.agg [.int .u8 (w1:Nat),.str w2,.sl none w3 w4,.sl none w5 w6],.mp (H.length+5),.mp (H.length+3)] (H++[.box 58 [.nils,.nils,.nils],mpY lp,mpY lu,mpG [],.box 29 [.int .u8 (w1:Nat),.str w2,.sl none w3 w4,.sl none w5 w6],.mp [] []]) (fun r H'=>r=.tup []∧H'=H++[.box 58 [.nils,.nils,.nils],mpY lp,mpY lu,mpG (freeF f),.box 29 [.int .u8 (w1:Nat),.str w2,.sl none w3 w4,.sl none w5 w6],bdG (bkF [] f) (fun _=>0)]):=hx
   have c1:=hk1 (H++[.box 58 [.nils,.nils,.nils],mpY lp,mpY lu,mpG (freeF f),.box 29 [.int .u8 (w1:Nat),.str w2,.sl none w3 w4,.sl none w5 w6],bdG (bkF [] f) (fun _=>0)]) (H.length+1) (za2 rfl)
   have c2:=hk2 (H++[.box 58 [.nils,.nils,.nils],mpY lp,mpY lu,mpG (freeF f),.box 29 [.int .u8 (w1:Nat),.str w2,.sl none w3 w4,.sl none w5 w6],bdG (bkF [] f) (fun _=>0)]) (H.length+2) (za2 rfl)
   have c3:=keys150_c (H++[.box 58 [.nils,.nils,.nils],mpY lp,mpY lu,mpG (freeF f),.box 29 [.int .u8 (w1:Nat),.str w2,.sl none w3 w4,.sl none w5 w6],bdG (bkF [] f) (fun _=>0)]) (H.length+3) (freeF f) (by omega) (za2 rfl)
   (repeat' ((conv=>whnf);(first|refine yau rfl ?_|(refine zad _ _ Cst.h Cst.h ?_ ?_;· omega)|(refine ybm ?_;first|refine yab _ (c1) ?_|refine yab _ (c2) ?_|refine yab _ (c3) ?_|fail)|refine ycv _ _ _ 6 hx rfl rfl ?_|fail)));conv=>whnf
   refine ya2 (by simp [below,zab,Sig.cells,zaj,zao]) ?_
   unfold Sig.cells
   simp only [toI_flat,yav,zh0]
   exact yae _
end
end Go.Proofs.YtgdmldelijeaoaaGreatDoor
