/- A text of the proof: the parts AU13c, FF13c, FG13c, FH13c, FT13c, FB13c, FD13c, FE13c, FU13c, FP13c, F14z, PT13c, RU13c. -/
import Derived.Test.YtjflngchbeegcaaGreatDoorK11
set_option linter.unusedSimpArgs false
set_option linter.unusedVariables false
set_option maxHeartbeats 8000000
namespace Go.Proofs.YtjflngchbeegcaaGreatDoor.P10.C
open Go.Vsi
section
attribute [local irreducible] VW VCall VO bits
theorem lessB_lt (a b:ByteArray):lessB a b=decide (a.toList<b.toList):=zh6 _ _
theorem Tr.Ok.rise {t:Tr} (h:t.Ok) (i:Nat) (hi:i+1<t.fs.length):(ft t.fs i).1.toList<(ft t.fs (i+1)).1.toList:=by
 have h1:=yao.1 h.nms (i+1) (ybs.2 (by simpa using hi))
 unfold nmAt at h1
 rw [yak,Bool.or_eq_true,decide_eq_true_eq] at h1
 have h2:=h1.2.resolve_left (by omega)
 rw [lessB_lt,decide_eq_true_eq,Nat.add_sub_cancel] at h2
 have e:∀ j,j<t.fs.length→(t.fs.map (·.1)).getD j eN=(ft t.fs j).1:=fun j hj=>by
  simp [ft,ybp,hj]
 rwa [e _ (by omega),e _ hi] at h2
theorem Tr.Ok.mono {t:Tr} (h:t.Ok) (i:Nat):∀ d,i+d+1<t.fs.length→(ft t.fs i).1.toList<(ft t.fs (i+d+1)).1.toList
 | 0,hl=>h.rise i hl
 | d+1,hl=>List.lt_trans (h.mono i d (by omega)) (h.rise (i+d+1) hl)
theorem Tr.Ok.new {t:Tr} (h:t.Ok) {k:Nat} (hk:k<t.fs.length):fnd (ft t.fs k).1 (t.fs.take k)=none:=by
 refine zt3 fun p hp=>?_
 obtain ⟨i,hi,rfl⟩:=ydj hp
 rw [yci] at hi
 have hik:i<k:=by omega
 have:=h.mono i (k-i-1) (by omega)
 rw [show i+(k-i-1)+1=k by omega] at this
 intro e
 rw [e] at this
 have h2:(t.fs.take k)[i]=ft t.fs i:=by simp [ft,List.getD,show i<t.fs.length by omega]
 rw [h2] at this
 exact List.lt_irrefl _ this
theorem At_t (t:Tr) (ht:t.Ok) (f:Tf) (htf:f.Temp) (hr:∀ H,VDet Tryz.prog 68 [.agg f.cells] H (.bool true)) (H:Heap) :
  VDet Tryz.prog 34 [.agg t.cells,.agg f.cells] H (.tup [.int .i64 ((if miss t f=true then 0 else evT t f:Nat):Int),.int .i64 (if miss t f=true then 6 else 0)]):=by
 have hv:=fun H=>zev ht H
 have ho:=fun H=>zq6 t ht H
 have hq:=at_c t ht f htf (H++[.box 27 t.cells,.box 50 f.cells,.mp (fk t.fs) (fv t.fs),.box 104 [.mp (H.length+2)],.box 105 [.rmp opK (opV t)],.box 4 [.bool false],.box 107 [.clo (.func 80) [] [.ptr (H.length+3) 0,.ptr (H.length+5) 0,.ptr (H.length+6) 0,.ptr (H.length+4) 0]]]) (H.length+2) (H.length+3) (H.length+5) (H.length+6) (H.length+4) false
  ⟨zaj rfl,zaj rfl,zaj rfl,zaj rfl,zaj rfl,by omega⟩
 have hnew:=fun k hk=>(zm7 _ _).1 (ht.new (k:=k) hk)
 have hl:=ht.len
 obtain ⟨n,lp,fs⟩:=t
 generalize opV ⟨n,lp,fs⟩=ov at ho hq
 unfold Tr.cells at hv ho hq ⊢
 unfold Tf.cells at hr hq ⊢
 simp only at hv hr ho hq hl hnew ⊢
 refine fdD Tryz.func34 ⟨rfl,rfl,rfl⟩ fun hcl hbl=>?_
 (repeat' ((conv=>whnf);(first|(refine yai ?_;first|refine yas ?_|refine yaq rfl ?_|fail)|(refine ybk ?_;first|refine yab _ (hv _) ?_|refine yab _ (hr _) ?_|fail)|fail)));conv=>whnf
 refine zam Tryz.E0 zaf (σ:=Nat) (fun k=>k≤fs.length) (fun k=>fs.length-k) (fun k=>[(25,.v (.int .i64 k))]) (fun k=>[.box 27 [.int .u8 5,.int .i64 n,.sl none 0 [],.int .i64 lp,.sl none fs.length (fs.flatMap encT),.sl none 0 [],.sl none 0 []],.box 50 [.int .u8 f.op,.str f.nmB,.sl none 0 [],.sl none f.sn f.sc],.mp (fk (fs.take k)) (fv (fs.take k)),.box 104 [.mp (H.length+2)]]) _ 0 rfl hcl [2,3,6,23,24] rfl (yah _) ⟨⟨_,rfl,yae _⟩,trivial⟩ rfl (fun _ _=>rfl) ?_
 intro k hk
 clear hbl
 rcases yag k fs.length with hlt|hge
 ·obtain ⟨s,m,e2⟩:∃ s m,fs.getD k p0=(s,m):=⟨_,_,rfl⟩
  have qc:encT (fs.getD k p0)=[.str s,.int .i64 0,.int .i64 m]:=by rw [e2];rfl
  have hn:=hnew k hlt
  have s1:=fk_succ (l:=fs) (k:=k) hlt
  have s2:=fv_succ (l:=fs) (k:=k) hlt
  unfold ft at hn s1 s2
  rw [e2] at hn s1 s2
  (repeat' ((conv=>whnf);(first|refine yar (by omega) ?_|(refine zac _ _ Cst.h Cst.h ?_ ?_;· omega)|(refine yaf ?_ ?_;· first|omega|exact yaa _ _|fail)|refine SegN.nthE p0 k rfl hlt zbb qc ?_|refine ydg _ _ ⟨⟨_,rfl⟩,.new hn⟩ ?_|refine yca _ rfl ?_|fail)));conv=>whnf
  rw [s1,s2]
  (refine ⟨⟨k+1,by omega,by omega,?_,.inl ⟨rfl,rfl⟩,rfl,_,rfl,?_⟩⟩;rotate_left 1;exact .inr ⟨by simp [zbe,below,zaa,tr,zar,Tf.sc_below,zhz,zhv,zbv,zb4],by simp [zcj,Blk.below,zaa,below,zar,Tf.sc_below,zhz,zhv,zbv,zb4]⟩;exact ⟨⟨_,rfl,yae _⟩,trivial⟩)
 ·have:k=fs.length:=by omega
  subst this
  rw [ya2]
  (repeat' ((conv=>whnf);(first|(refine yai ?_;first|refine zah (by omega) ?_|(refine IfN.mk ?_ ?_ <;> intro _)|fail)|refine yab _ (ho _) ?_|refine CallN.setL 5 _ _ _ rfl rfl hq rfl ?_|fail)));all_goals (conv=>whnf)
  all_goals
   rename_i hm
   simp only [Bool.false_or] at hm
   exact ya1 (by simp [below,zaa]) (Wk.of_eq (by rw [hm];rfl))
def synR (f:Fo):Bool:=(jF 1 f 400).2
theorem zp7 (f:Fo) (hg:f.good) (H:Heap):VDet Tryz.prog 100 [.agg f.cells] H (.bool (synR f)):=by
 have h1:=form_g f hg (H++[.box 50 f.cells,jB 400]) (H.length+1) 400 1 (zaj rfl) ⟨by omega,by omega⟩ (by omega)
 unfold synR
 generalize hr:jF 1 f 400=r at *
 obtain ⟨M,b⟩:=r
 simp only at h1 ⊢
 generalize hB:jB M=B at *
 unfold jB at h1
 obtain ⟨op,s,l,m⟩:=f
 rw [zan] at h1 ⊢
 refine fdD Tryz.func100 ⟨rfl,rfl,rfl⟩ fun hcl hbl=>?_
 (repeat' ((conv=>whnf);(first|refine CallN.setL 1 _ _ _ rfl rfl h1 rfl ?_|fail)));conv=>whnf
 exact eT trivial
theorem zzk {s:ByteArray} (h:zfd s=true):s=.empty:=by
 unfold zfd at h
 rw [beq_iff_eq] at h
 exact ba_eq h
theorem ztw {d:Nat}:∀ {l:List Fo} {L:Int},(jFs d l L).2=true→∀ x∈l,∃ M,(jF d x M).2=true
 | y::l,L,h,x,hx=>by
   rw [zji] at h
   split at h
   ·rename_i hb
    rcases yay.1 hx with e|hx
    ·exact ⟨L,e▸hb⟩
    ·exact ztw h x hx
   ·cases h
mutual
def tempF:Fo→Bool
 | .mk op _ l m=>decide (l.length=0∧(1≤op∧op≤7∨12≤op∧op≤14))&&tempFs m
def tempFs:List Fo→Bool
 | []=>true
 | x::l=>tempF x&&tempFs l
end
theorem zgk:∀ l:List Fo,tempFs l=l.all tempF
 | []=>by unfold tempFs;rfl
 | x::l=>by
   rw [tempFs.eq_def]
   simp only
   rw [List.all_cons,zgk l]
def TempP (x:Fo):Prop:=∀ H,VDet Tryz.prog 101 [.agg x.cells] H (.bool (tempF x))
theorem zw0 (op:Nat) (s:ByteArray) (l:List Tm) (m:List Fo) (hop:op≤255) (hll:l.length≤9223372036854775807) (hml:m.length≤9223372036854775807) (hm:∀ x∈m,TempP x):TempP (.mk op s l m):=by
 intro H
 rw [zan]
 unfold tempF
 rw [zgk]
 by_cases h:l.length=0∧(1≤op∧op≤7∨12≤op∧op≤14)
 ·rw [decide_eq_true h,ya8]
  obtain ⟨h3,h1⟩:=h
  refine fdD Tryz.func101 ⟨rfl,rfl,rfl⟩ fun hcl hbl=>?_
  (repeat' ((conv=>whnf);(first|(refine yai ?_;first|refine yas ?_|refine yaq rfl ?_|refine zah (by omega) ?_|refine za1 (fun _=>?_) (fun _=>?_)|fail)|fail)));all_goals (conv=>whnf)
  all_goals
   refine zam Tryz.E0 zaf (σ:=Nat) (fun j=>j≤m.length∧∀ i,i<j→tempF (m.getD i fo0)=true) (fun j=>m.length-j) (fun j=>[(40,.v (.int .i64 j))]) (fun _=>_) _ 0 rfl hcl [38,39] rfl ⟨yah _,fun i hi=>by omega⟩ ⟨⟨_,rfl,yae _⟩,trivial⟩ rfl (fun _ _=>rfl) ?_
   rintro j ⟨hj,hall⟩
   clear hbl
   by_cases hlt:j<m.length
   ·have hmem:=getD_memT m j fo0 hlt
    have hx:=hm _ hmem
    unfold TempP at hx
    obtain ⟨w1,w2,w3,w4,w5,w6,hce,-⟩:=zer (m.getD j fo0)
    rw [hce] at hx
    cases hb:tempF (m.getD j fo0) with
    | true =>
      rw [hb] at hx
      (repeat' ((conv=>whnf);(first|(refine yai ?_;first|refine yas ?_|refine yaq rfl ?_|refine yar (by omega) ?_|fail)|(refine zac _ _ Cst.h Cst.h ?_ ?_;· omega)|(refine yaf ?_ ?_;· first|omega|exact yaa _ _|fail)|refine yab _ (hx _) ?_|refine SegN.nthE fo0 j rfl hlt zcl hce ?_|fail)));all_goals (conv=>whnf)
      (refine ⟨⟨j+1,⟨by omega,fun i hi=>by
       by_cases e:i=j
       ·rw [e];exact hb
       ·exact hall i (by omega)⟩,by omega,?_,.inl ⟨rfl,rfl⟩,rfl,_,rfl,?_⟩⟩;rotate_left 1;exact .inr ⟨by simp [zbe,below,zaa,tr,zar,Tf.sc_below,zhz,zhv,zbv,zb4],by simp [zcj,Blk.below,zaa,below,zar,Tf.sc_below,zhz,zhv,zbv,zb4]⟩;exact ⟨⟨_,rfl,yae _⟩,trivial⟩)
    | false =>
      rw [hb] at hx
      (repeat' ((conv=>whnf);(first|(refine yai ?_;first|refine yas ?_|refine yau rfl ?_|refine yar (by omega) ?_|fail)|(refine yaf ?_ ?_;· first|omega|exact yaa _ _|fail)|refine yab _ (hx _) ?_|refine SegN.nthE fo0 j rfl hlt zcl hce ?_|fail)));all_goals (conv=>whnf)
      have:m.all tempF=false:=by
       apply ybh.2
       intro hA
       rw [yao.1 hA _ hmem] at hb
       cases hb
      rw [this]
      exact eT trivial
   ·have:m.all tempF=true:=by
     rw [yao]
     intro x hx
     obtain ⟨i,hi,rfl⟩:=ydj hx
     have:=hall i (by omega)
     rwa [show m.getD i fo0=m[i] by simp [ybp,hi]] at this
    rw [this]
    (repeat' ((conv=>whnf);(first|refine zah (by omega) ?_|fail)));all_goals (conv=>whnf)
    exact eT trivial
 ·rw [decide_eq_false h,ya0]
  generalize l.flatMap Tm.cells=lc at *
  generalize m.flatMap Fo.cells=mc at *
  generalize l.length=ln at *
  generalize m.length=mn at *
  refine fdD Tryz.func101 ⟨rfl,rfl,rfl⟩ fun hcl hbl=>?_
  (repeat' ((conv=>whnf);(first|(refine yai ?_;first|refine yas ?_|refine yar (by omega) ?_|refine zah (by omega) ?_|refine za1 (fun _=>?_) (fun _=>?_)|fail)|fail)));all_goals (conv=>whnf)
  all_goals exact eT trivial
mutual
theorem temp_g:∀ x:Fo,x.good→TempP x
 | .mk op s l m,h=>zw0 op s l m h.1 (zbq h.2.2.1) (zbq h.2.2.2.2.1) (zwz m h.2.2.2.2.2)
theorem zwz:∀ l:List Fo,Fo.goodL l→∀ x∈l,TempP x
 | [],_,x,h=>by cases h
 | y::l,hg,x,h=>by
   rcases yay.1 h with e|h
   ·rw [e]
    exact temp_g y hg.1
   ·exact zwz l hg.2 x h
end
def ze2 (f:Fo):Bool:=synR f&&tempF f
theorem zqu (f:Fo) (hg:f.good) (H:Heap):VDet Tryz.prog 68 [.agg f.cells] H (.bool (ze2 f)):=by
 have h1:=zp7 f hg
 have h2:=temp_g f hg
 unfold TempP at h2
 unfold ze2
 generalize synR f=a at *
 generalize tempF f=b at *
 obtain ⟨op,s,l,m⟩:=f
 rw [zan] at h1 h2 ⊢
 cases a with
 | true =>
   refine fdD Tryz.func68 ⟨rfl,rfl,rfl⟩ fun hcl hbl=>?_
   (repeat' ((conv=>whnf);(first|refine yaq rfl ?_|(refine ybk ?_;first|refine yab _ (h1 _) ?_|refine yab _ (h2 _) ?_|fail)|fail)));conv=>whnf
   exact eT trivial
 | false =>
   refine fdD Tryz.func68 ⟨rfl,rfl,rfl⟩ fun hcl hbl=>?_
   (repeat' ((conv=>whnf);(first|refine yau rfl ?_|refine yab _ (h1 _) ?_|fail)));conv=>whnf
   exact eT trivial
def Tf.fo:Tf→Fo
 | .at c=>.mk 1 c [] []
 | .fa=>.mk 2 .empty [] []
 | .f1 k a=>.mk k .empty [] [a.fo]
 | .f2 k a b=>.mk k .empty [] [a.fo,b.fo]
theorem za6:∀ f:Tf,f.fo.cells=f.cells
 | .at c=>by unfold Tf.fo;rw [zan];rfl
 | .fa=>by unfold Tf.fo;rw [zan];rfl
 | .f1 k a=>by
   unfold Tf.fo
   rw [zan,ya6,za6 a]
   rfl
 | .f2 k a b=>by
   unfold Tf.fo
   rw [zan,ya6,ya6,za6 a,za6 b]
   rfl
theorem zxq:∀ op,(1≤op∧op≤7∨12≤op∧op≤14)→P10.rowS op=(if op≤2 then 0 else if op=3∨op=12∨op=13 then 1 else 2)∧rowN op=(if op=1 then 1 else 0):=by
 intro op h
 have:op=1∨op=2∨op=3∨op=4∨op=5∨op=6∨op=7∨op=12∨op=13∨op=14:=by omega
 rcases this with rfl|rfl|rfl|rfl|rfl|rfl|rfl|rfl|rfl|rfl <;> decide
theorem tf_of:∀ (f:Fo) (d:Nat) (L:Int),(jF d f L).2=true→tempF f=true→∃ p:Tf,p.Temp∧f=p.fo
 | .mk op s l m,d,L,h1,h2=>by
   unfold tempF at h2
   rw [yak,decide_eq_true_eq,zgk,yao] at h2
   obtain ⟨⟨q3,q1⟩,q4⟩:=h2
   unfold jF at h1
   split at h1
   ·cases h1
   ·split at h1
    ·cases h1
    ·split at h1
     ·cases h1
     ·rename_i h3
      have h3:=Classical.not_not.1 h3
      obtain ⟨r1,r2⟩:=zxq op q1
      have hl:l=[]:=ya3 q3
      split at h1
      ·have hsub:=ztw h1
       have hm:=h3.2.2
       rw [r1] at hm
       rw [r2] at h3
       have hs:op≠1→s=.empty:=fun e=>by
        have:=h3.1
        rw [if_neg e] at this
        exact zzk (by simpa [zg0] using this)
       have hop:op=1∨op=2∨(op=3∨op=12∨op=13)∨(op=4∨op=5∨op=6∨op=7∨op=14):=by omega
       rcases hop with rfl|rfl|h4|h4
       ·have hm0:m=[]:=ya3 (by simpa using hm)
        subst hm0 hl
        exact ⟨.at s,trivial,rfl⟩
       ·have hm0:m=[]:=ya3 (by simpa using hm)
        subst hm0 hl
        exact ⟨.fa,trivial,by rw [hs (by omega)];rfl⟩
       ·rw [if_neg (by omega),if_pos h4] at hm
        match m,hm with
        | [a],_ =>
          obtain ⟨M,hM⟩:=hsub a (by simp)
          obtain ⟨p,hp1,hp2⟩:=tf_of a _ M hM (q4 a (by simp))
          subst hl
          exact ⟨.f1 op p,⟨h4,hp1⟩,by rw [hs (by omega),hp2];rfl⟩
       ·rw [if_neg (by omega),if_neg (by omega)] at hm
        match m,hm with
        | [a,b],_ =>
          obtain ⟨M,hM⟩:=hsub a (by simp)
          obtain ⟨N,hN⟩:=hsub b (by simp)
          obtain ⟨p,hp1,hp2⟩:=tf_of a _ M hM (q4 a (by simp))
          obtain ⟨q,hq1,hq2⟩:=tf_of b _ N hN (q4 b (by simp))
          subst hl
          exact ⟨.f2 op p q,⟨h4,hp1,hq1⟩,by rw [hs (by omega),hp2,hq2];rfl⟩
      ·cases h1
theorem tf_right {f:Fo} (h:ze2 f=true):∃ p:Tf,p.Temp∧f=p.fo:=by
 unfold ze2 at h
 rw [yak] at h
 exact tf_of f 1 400 h.1 h.2
theorem At_no (m:Mdl) (f:Fo) (x y:Bool) (hxy:x=false∨(x=true∧y=false)) (hm:∀ H,VDet Tryz.prog 43 [.agg m.cells] H (.bool x)) (hr:∀ H,VDet Tryz.prog 68 [.agg f.cells] H (.bool y)) (H:Heap):VDet Tryz.prog 34 [.agg m.cells,.agg f.cells] H (.tup [.int .i64 0,.int .i64 2]):=by
 obtain ⟨w1,w2,w3,w4,w5,w6,hce,-⟩:=zer f
 rw [hce] at hr ⊢
 unfold Mdl.cells at *
 rcases hxy with rfl|⟨rfl,rfl⟩
 all_goals
  refine fdD Tryz.func34 ⟨rfl,rfl,rfl⟩ fun hcl hbl=>?_
  (repeat' ((conv=>whnf);(first|(refine yai ?_;first|refine yas ?_|refine yaq rfl ?_|refine yau rfl ?_|fail)|(refine ybk ?_;first|refine yab _ (hm _) ?_|refine yab _ (hr _) ?_|fail)|fail)));all_goals (conv=>whnf)
  exact eT (by simp [below,zaa])
theorem Holds_g (m:Mdl) (f:Fo) (v:Nat) (e:Int) (hv:v<32) (he:e=0∨(e≠0∧v=0)) (hA:∀ H,VDet Tryz.prog 34 [.agg m.cells,.agg f.cells] H (.tup [.int .i64 v,.int .i64 e])) (H:Heap):VDet Tryz.prog 36 [.agg m.cells,.agg f.cells] H (.tup [.bool (((v % 2:Nat):Int)==1),.int .i64 e]):=by
 obtain ⟨w1,w2,w3,w4,w5,w6,hce,-⟩:=zer f
 rw [hce] at hA ⊢
 unfold Mdl.cells at *
 have h2:v &&& 1=v % 2:=Nat.and_one_is_mod v
 rcases he with rfl|⟨h1,rfl⟩
 ·refine fdD Tryz.func36 ⟨rfl,rfl,rfl⟩ fun hcl hbl=>?_
  (repeat' ((conv=>whnf);(first|refine yaq rfl ?_|(refine EqN.and _ _ Cst.h Cst.h ?_ ?_;· (repeat' (first|omega|refine yb3 ?_ ?_|exact zag (by omega)|exact zat (by omega)|refine zbf ?_ ?_|refine zas ?_ ?_|refine za2 ?_ ?_|refine zao ?_ ?_|refine za3 ?_|refine za4 ?_ ?_|refine za5 ?_|refine zag ?_|fail)))|refine yab _ (hA _) ?_|fail)));conv=>whnf
  all_goals exact ya1 (by simp [below,zaa]) (Wk.of_eq (by rw [h2]))
 ·refine fdD Tryz.func36 ⟨rfl,rfl,rfl⟩ fun hcl hbl=>?_
  (repeat' ((conv=>whnf);(first|refine yau (beq_eq_false_iff_ne.2 h1) ?_|refine yab _ (hA _) ?_|fail)));conv=>whnf
  all_goals exact ya1 (by simp [below,zaa]) (Wk.of_eq rfl)
theorem zyx (s:ByteArray):isVar s=(letB true s&&isVa1 (bt s 0)):=by
 unfold isVar nameB
 cases hr:isRes s with
 | false =>
   unfold letB
   simp only [refQ_t]
   generalize (List.all _ _)=a
   cases a <;> cases isVa1 (bt s 0) <;> simp
 | true =>
   have h:=res_at hr
   rw [zrl (yax 1) (by omega) ((refQ_t _).trans h.2.1)]
   simp
def isR5 (s:ByteArray):Bool:=wordE s #[97,108,108] || (wordE s #[115,111,109,101] || (wordE s #[102,97,108,115,101] || (wordE s #[110,101,120,116] || wordE s #[97,108,119,97,121,115])))
theorem zyy (s:ByteArray):isFun s=(!isR5 s&&(letB false s&&isFu1 (bt s 0))):=by
 have e:isRes s=(isR5 s || wordE s #[117,110,116,105,108]):=by
  unfold isRes isR5
  simp only [Bool.or_assoc]
 have hu:wordE s #[117,110,116,105,108]=true→isFu1 (bt s 0)=false:=by
  intro h
  unfold wordE at h
  rw [zi5,decide_eq_true_eq] at h
  subst h
  decide
 unfold isFun nameB letB
 simp only [refQ_f]
 rw [e]
 generalize (List.all _ _)=a
 cases isR5 s with
 | true=>simp
 | false =>
   cases hw:wordE s #[117,110,116,105,108] with
   | true=>rw [hu hw];simp
   | false=>cases a <;> cases isFu1 (bt s 0) <;> simp
theorem ztc (s:ByteArray) (hs:s.size≤9223372036854775807) (H:Heap):VDet Tryz.prog 174 [.str s] H (.bool (isVar s)):=by
 rw [zyx]
 have hl:=zyi s hs
 have h1:letB true s=true→s[(0:Int).toNat]? = some (bt s 0):=fun h=>zk6 s 0 (zkn h) 0 rfl
 have r1:∀ H,VDet Tryz.prog 134 [.int .u8 (bt s 0).toNat,.int .u8 117,.int .u8 122] H (.bool (isVa1 (bt s 0))):=rin_c (bt s 0) 117 122 117 122 rfl rfl
 generalize letB true s=b1 at *
 generalize isVa1 (bt s 0)=b2 at *
 cases b1 with
 | true =>
   have hb0:=h1 rfl
   refine fdD Tryz.func174 ⟨rfl,rfl,rfl⟩ fun hcl hbl=>?_
   (repeat' ((conv=>whnf);(first|refine yaq rfl ?_|refine yaf (by omega) ?_|(refine ybk ?_;first|refine yab _ (hl _) ?_|refine yab _ (r1 _) ?_|fail)|refine ydn _ hb0 ?_|fail)));conv=>whnf
   all_goals exact eT trivial
 | false =>
   refine fdD Tryz.func174 ⟨rfl,rfl,rfl⟩ fun hcl hbl=>?_
   (repeat' ((conv=>whnf);(first|refine yau rfl ?_|refine yab _ (hl _) ?_|fail)));conv=>whnf
   exact eT trivial
theorem refFun_c (s:ByteArray) (hs:s.size≤9223372036854775807) (H:Heap):VDet Tryz.prog 177 [.str s] H (.bool (isFun s)):=by
 rw [zyy]
 unfold isR5
 have hl:=zpc s hs
 have h1:letB false s=true→s[(0:Int).toNat]? = some (bt s 0):=fun h=>zk6 s 0 (zkn h) 0 rfl
 have r1:∀ H,VDet Tryz.prog 134 [.int .u8 (bt s 0).toNat,.int .u8 97,.int .u8 116] H (.bool (isFu1 (bt s 0))):=rin_c (bt s 0) 97 116 97 116 rfl rfl
 have e1:(s.toList==(ByteArray.mk #[97,108,108]).toList)=wordE s #[97,108,108]:=rfl
 have e2:(s.toList==(ByteArray.mk #[115,111,109,101]).toList)=wordE s #[115,111,109,101]:=rfl
 have e3:(s.toList==(ByteArray.mk #[102,97,108,115,101]).toList)=wordE s #[102,97,108,115,101]:=rfl
 have e4:(s.toList==(ByteArray.mk #[110,101,120,116]).toList)=wordE s #[110,101,120,116]:=rfl
 have e5:(s.toList==(ByteArray.mk #[97,108,119,97,121,115]).toList)=wordE s #[97,108,119,97,121,115]:=rfl
 generalize wordE s #[97,108,108]=w1 at *
 generalize wordE s #[115,111,109,101]=w2 at *
 generalize wordE s #[102,97,108,115,101]=w3 at *
 generalize wordE s #[110,101,120,116]=w4 at *
 generalize wordE s #[97,108,119,97,121,115]=w5 at *
 generalize letB false s=b1 at *
 generalize isFu1 (bt s 0)=b2 at *
 cases w1 with
 | true =>
   refine fdD Tryz.func177 ⟨rfl,rfl,rfl⟩ fun hcl hbl=>?_
   (repeat' ((conv=>whnf);(first|refine yaq e1 ?_|fail)));conv=>whnf
   exact eT trivial
 | false =>
   cases w2 with
   | true =>
     refine fdD Tryz.func177 ⟨rfl,rfl,rfl⟩ fun hcl hbl=>?_
     (repeat' ((conv=>whnf);(first|(refine yai ?_;first|refine yau e1 ?_|refine yaq e2 ?_|fail)|fail)));conv=>whnf
     exact eT trivial
   | false =>
     cases w3 with
     | true =>
       refine fdD Tryz.func177 ⟨rfl,rfl,rfl⟩ fun hcl hbl=>?_
       (repeat' ((conv=>whnf);(first|(refine yai ?_;first|refine yau e1 ?_|refine yau e2 ?_|refine yaq e3 ?_|fail)|fail)));conv=>whnf
       exact eT trivial
     | false =>
       cases w4 with
       | true =>
         refine fdD Tryz.func177 ⟨rfl,rfl,rfl⟩ fun hcl hbl=>?_
         (repeat' ((conv=>whnf);(first|(refine yai ?_;first|refine yau e1 ?_|refine yau e2 ?_|refine yau e3 ?_|refine yaq e4 ?_|fail)|fail)));conv=>whnf
         exact eT trivial
       | false =>
         cases w5 with
         | true =>
           refine fdD Tryz.func177 ⟨rfl,rfl,rfl⟩ fun hcl hbl=>?_
           (repeat' ((conv=>whnf);(first|(refine yai ?_;first|refine yau e1 ?_|refine yau e2 ?_|refine yau e3 ?_|refine yau e4 ?_|refine yaq e5 ?_|fail)|fail)));conv=>whnf
           exact eT trivial
         | false =>
           cases b1 with
           | true =>
             have hb0:=h1 rfl
             refine fdD Tryz.func177 ⟨rfl,rfl,rfl⟩ fun hcl hbl=>?_
             (repeat' ((conv=>whnf);(first|(refine yai ?_;first|refine yau e1 ?_|refine yau e2 ?_|refine yau e3 ?_|refine yau e4 ?_|refine yau e5 ?_|refine yaq rfl ?_|fail)|refine yaf (by omega) ?_|(refine ybk ?_;first|refine yab _ (hl _) ?_|refine yab _ (r1 _) ?_|fail)|refine ydn _ hb0 ?_|fail)));conv=>whnf
             all_goals exact eT trivial
           | false =>
             refine fdD Tryz.func177 ⟨rfl,rfl,rfl⟩ fun hcl hbl=>?_
             (repeat' ((conv=>whnf);(first|(refine yai ?_;first|refine yau e1 ?_|refine yau e2 ?_|refine yau e3 ?_|refine yau e4 ?_|refine yau e5 ?_|refine yau rfl ?_|fail)|refine yab _ (hl _) ?_|fail)));conv=>whnf
             exact eT trivial
mutual
def rT:Tm→Bool
 | .mk v s l=>if v then decide (l.length=0)&&isVar s else rTs l&&(isFun s&&decide (l.length≤4))
def rTs:List Tm→Bool
 | []=>true
 | x::l=>rT x&&rTs l
end
theorem zq1:∀ l:List Tm,rTs l=l.all rT
 | []=>by unfold rTs;rfl
 | x::l=>by unfold rTs;rw [zq1 l];rfl
def rowB (op:Nat) (s:ByteArray) (n k:Nat):Bool:=decide (op<17)&&(rowK op&&(zg0 (rowN op) s&&(decide (n≤rowA op)&&decide (k=P10.rowS op))))
mutual
def rfF:Fo→Bool
 | .mk op s l m=>rowB op s l.length m.length&&(rTs l&&rfFs m)
def rfFs:List Fo→Bool
 | []=>true
 | x::l=>rfF x&&rfFs l
end
theorem zs8:∀ l:List Fo,rfFs l=l.all rfF
 | []=>by unfold rfFs;rfl
 | x::l=>by unfold rfFs;rw [zs8 l];rfl
def RtP (x:Tm):Prop:=∀ H,VDet Tryz.prog 164 [.agg x.cells,.bool false] H (.bool (rT x))
theorem rt_step (v:Bool) (s:ByteArray) (l:List Tm) (hs:s.size≤9223372036854775807) (hll:l.length≤9223372036854775807) (ih:∀ x∈l,RtP x):RtP (.mk v s l):=by
 intro H
 have hv:=ztc s hs
 have hf:=refFun_c s hs
 have hr:rT (.mk v s l)=if v then decide (l.length=0)&&isVar s else l.all rT&&(isFun s&&decide (l.length≤4)):=by
  rw [← zq1]
  unfold rT
  rfl
 rw [hr,zay]
 generalize isVar s=bv at *
 generalize isFun s=bf at *
 cases v with
 | true =>
   simp only [if_true]
   generalize l.flatMap Tm.cells=lc at *
   by_cases h0:l.length=0
   ·rw [decide_eq_true h0]
    refine fdD Tryz.func164 ⟨rfl,rfl,rfl⟩ fun hcl hbl=>?_
    (repeat' ((conv=>whnf);(first|(refine yai ?_;first|refine yaq rfl ?_|refine yau rfl ?_|refine yar (by omega) ?_|(refine IfN.mk ?_ ?_ <;> intro _)|fail)|refine yab _ (hv _) ?_|fail)));all_goals (conv=>whnf)
    all_goals exact ya1 trivial (Wk.of_eq (by cases bv <;> simp_all))
   ·rw [decide_eq_false h0]
    refine fdD Tryz.func164 ⟨rfl,rfl,rfl⟩ fun hcl hbl=>?_
    (repeat' ((conv=>whnf);(first|(refine yai ?_;first|refine yaq rfl ?_|refine zah (by omega) ?_|fail)|fail)));conv=>whnf
    all_goals exact eT trivial
 | false =>
   simp only [ya9,if_false]
   refine fdD Tryz.func164 ⟨rfl,rfl,rfl⟩ fun hcl hbl=>?_
   (repeat' ((conv=>whnf);(first|refine yau rfl ?_|fail)));conv=>whnf
   refine zam Tryz.E0 zaf (σ:=Nat) (fun k=>k≤l.length∧∀ y∈l.take k,rT y=true) (fun k=>l.length-k) (fun k=>[(5,.v (.int .i64 k))]) (fun _=>_) _ 0 rfl hcl [1,2] rfl ⟨yah _,fun y hy=>(by cases hy)⟩ ⟨⟨_,rfl,yae _⟩,trivial⟩ rfl (fun _ _=>rfl) ?_
   rintro k ⟨hk,hinv⟩
   rcases yag k l.length with hlt|hge
   ·have hc:=ih _ (getD_memT l k tm0 hlt)
    unfold RtP at hc
    obtain ⟨w1,w2,w3,w4,hw,hb⟩:=zoh (l.getD k tm0)
    rw [hw] at hc
    cases ht:rT (l.getD k tm0) <;> rw [ht] at hc
    ·rw [zsi tm0 hlt ht,ya0]
     (repeat' ((conv=>whnf);(first|(refine yai ?_;first|refine yas ?_|refine yau rfl ?_|refine yar (by omega) ?_|fail)|(refine yaf ?_ ?_;· first|omega|exact yaa _ _|fail)|refine yab _ (hc _) ?_|refine SegN.nthE tm0 k rfl (by omega) zcv hw ?_|fail)));conv=>whnf
     exact eT trivial
    ·(repeat' ((conv=>whnf);(first|(refine yai ?_;first|refine yas ?_|refine yaq rfl ?_|refine yar (by omega) ?_|fail)|(refine zac _ _ Cst.h Cst.h ?_ ?_;· omega)|(refine yaf ?_ ?_;· first|omega|exact yaa _ _|fail)|refine yab _ (hc _) ?_|refine SegN.nthE tm0 k rfl (by omega) zcv hw ?_|fail)));conv=>whnf
     (refine ⟨⟨k+1,⟨by omega,zn3 tm0 hlt hinv ht⟩,by omega,?_,.inl ⟨rfl,rfl⟩,rfl,_,rfl,?_⟩⟩;rotate_left 1;exact .inl rfl;exact ⟨⟨_,rfl,yae _⟩,trivial⟩)
   ·have:k=l.length:=by omega
    subst this
    rw [ya2] at hinv
    rw [yao.2 hinv,ya8]
    cases bf with
    | false =>
      (repeat' ((conv=>whnf);(first|(refine yai ?_;first|refine yau rfl ?_|refine zah (by omega) ?_|fail)|refine yab _ (hf _) ?_|fail)));conv=>whnf
      exact eT trivial
    | true =>
      by_cases h4:l.length≤4
      ·rw [decide_eq_true h4]
       (repeat' ((conv=>whnf);(first|(refine yai ?_;first|refine yaq rfl ?_|refine zah (by omega) ?_|fail)|refine yab _ (hf _) ?_|fail)));conv=>whnf
       exact ya1 trivial (Wk.of_eq (congrArg AV.bool (decide_eq_true (by omega))))
      ·rw [decide_eq_false h4]
       (repeat' ((conv=>whnf);(first|(refine yai ?_;first|refine yaq rfl ?_|refine zah (by omega) ?_|fail)|refine yab _ (hf _) ?_|fail)));conv=>whnf
       exact ya1 trivial (Wk.of_eq (congrArg AV.bool (decide_eq_false (by omega))))
mutual
theorem rt_c:∀ x:Tm,x.good→RtP x
 | .mk v s l,h=>rt_step v s l (zbq h.1) (zbq h.2.1) (zqs l h.2.2)
theorem zqs:∀ l:List Tm,Tm.goodL l→∀ x∈l,RtP x
 | [],_,x,hx=>by cases hx
 | y::l,h,x,hx=>by
   rcases yay.1 hx with e|hx
   ·rw [e]
    exact rt_c y h.1
   ·exact zqs l h.2 x hx
end
theorem row1_c (op:Nat) (h:op=1) (s:ByteArray) (hs:s.size≤9223372036854775807) (n k:Nat) (hn0:n≤9223372036854775807) (hk0:k≤9223372036854775807) (L M:List AV) (H:Heap):VDet Tryz.prog 163 [.agg [.int .u8 op,.str s,.sl none n L,.sl none k M],.bool false] H (.bool (rowB op s n k)):=by
 have hv:rowB op s n k=(zec s&&(decide (n≤4)&&decide (k=0))):=by subst h;rfl
 rw [hv]
 have hn:=zov s hs
 generalize zec s=nb at *
 cases nb with
 | false =>
   subst h;(refine fdD Tryz.func163 ⟨rfl,rfl,rfl⟩ fun hcl hbl=>?_;((repeat' ((conv=>whnf);(first|(refine yai ?_;first|refine yaq rfl ?_|refine yau rfl ?_|fail)|refine yab _ (hn _) ?_|fail)));conv=>whnf);all_goals first|exact eT trivial|exact ya1 trivial (Wk.of_eq (congrArg AV.bool (beq_iff_eq.2 (by omega))))|exact ya1 trivial (Wk.of_eq (congrArg AV.bool (beq_eq_false_iff_ne.2 (by omega))))|fail)
 | true =>
   by_cases h1:n≤4
   ·by_cases h2:k=0
    ·rw [decide_eq_true h1,decide_eq_true h2]
     subst h;(refine fdD Tryz.func163 ⟨rfl,rfl,rfl⟩ fun hcl hbl=>?_;((repeat' ((conv=>whnf);(first|(refine yai ?_;first|refine yaq rfl ?_|refine yar (by omega) ?_|fail)|refine yab _ (hn _) ?_|fail)));conv=>whnf);all_goals first|exact eT trivial|exact ya1 trivial (Wk.of_eq (congrArg AV.bool (beq_iff_eq.2 (by omega))))|exact ya1 trivial (Wk.of_eq (congrArg AV.bool (beq_eq_false_iff_ne.2 (by omega))))|fail)
    ·rw [decide_eq_true h1,decide_eq_false h2]
     subst h;(refine fdD Tryz.func163 ⟨rfl,rfl,rfl⟩ fun hcl hbl=>?_;((repeat' ((conv=>whnf);(first|(refine yai ?_;first|refine yaq rfl ?_|refine yar (by omega) ?_|fail)|refine yab _ (hn _) ?_|fail)));conv=>whnf);all_goals first|exact eT trivial|exact ya1 trivial (Wk.of_eq (congrArg AV.bool (beq_iff_eq.2 (by omega))))|exact ya1 trivial (Wk.of_eq (congrArg AV.bool (beq_eq_false_iff_ne.2 (by omega))))|fail)
   ·rw [decide_eq_false h1]
    subst h;(refine fdD Tryz.func163 ⟨rfl,rfl,rfl⟩ fun hcl hbl=>?_;((repeat' ((conv=>whnf);(first|(refine yai ?_;first|refine yaq rfl ?_|refine zah (by omega) ?_|fail)|refine yab _ (hn _) ?_|fail)));conv=>whnf);all_goals first|exact eT trivial|exact ya1 trivial (Wk.of_eq (congrArg AV.bool (beq_iff_eq.2 (by omega))))|exact ya1 trivial (Wk.of_eq (congrArg AV.bool (beq_eq_false_iff_ne.2 (by omega))))|fail)
theorem row2_c (op:Nat) (h:op=2) (s:ByteArray) (hs:s.size≤9223372036854775807) (n k:Nat) (hn0:n≤9223372036854775807) (hk0:k≤9223372036854775807) (L M:List AV) (H:Heap):VDet Tryz.prog 163 [.agg [.int .u8 op,.str s,.sl none n L,.sl none k M],.bool false] H (.bool (rowB op s n k)):=by
 have hv:rowB op s n k=(zfd s&&(decide (n≤0)&&decide (k=0))):=by subst h;rfl
 rw [hv]
 have e0:(s.toList==(ByteArray.mk #[]).toList)=zfd s:=rfl
 generalize zfd s=nb at *
 cases nb with
 | false =>
   subst h;(refine fdD Tryz.func163 ⟨rfl,rfl,rfl⟩ fun hcl hbl=>?_;((repeat' ((conv=>whnf);(first|(refine yai ?_;first|refine yau e0 ?_|refine yaq rfl ?_|refine yau rfl ?_|fail)|fail)));conv=>whnf);all_goals first|exact eT trivial|exact ya1 trivial (Wk.of_eq (congrArg AV.bool (beq_iff_eq.2 (by omega))))|exact ya1 trivial (Wk.of_eq (congrArg AV.bool (beq_eq_false_iff_ne.2 (by omega))))|fail)
 | true =>
   by_cases h1:n≤0
   ·by_cases h2:k=0
    ·rw [decide_eq_true h1,decide_eq_true h2]
     subst h;(refine fdD Tryz.func163 ⟨rfl,rfl,rfl⟩ fun hcl hbl=>?_;((repeat' ((conv=>whnf);(first|(refine yai ?_;first|refine yaq e0 ?_|refine yaq rfl ?_|refine yau rfl ?_|refine yar (by omega) ?_|fail)|fail)));conv=>whnf);all_goals first|exact eT trivial|exact ya1 trivial (Wk.of_eq (congrArg AV.bool (beq_iff_eq.2 (by omega))))|exact ya1 trivial (Wk.of_eq (congrArg AV.bool (beq_eq_false_iff_ne.2 (by omega))))|fail)
    ·rw [decide_eq_true h1,decide_eq_false h2]
     subst h;(refine fdD Tryz.func163 ⟨rfl,rfl,rfl⟩ fun hcl hbl=>?_;((repeat' ((conv=>whnf);(first|(refine yai ?_;first|refine yaq e0 ?_|refine yaq rfl ?_|refine yau rfl ?_|refine yar (by omega) ?_|fail)|fail)));conv=>whnf);all_goals first|exact eT trivial|exact ya1 trivial (Wk.of_eq (congrArg AV.bool (beq_iff_eq.2 (by omega))))|exact ya1 trivial (Wk.of_eq (congrArg AV.bool (beq_eq_false_iff_ne.2 (by omega))))|fail)
   ·rw [decide_eq_false h1]
    subst h;(refine fdD Tryz.func163 ⟨rfl,rfl,rfl⟩ fun hcl hbl=>?_;((repeat' ((conv=>whnf);(first|(refine yai ?_;first|refine yaq e0 ?_|refine yaq rfl ?_|refine yau rfl ?_|refine zah (by omega) ?_|fail)|fail)));conv=>whnf);all_goals first|exact eT trivial|exact ya1 trivial (Wk.of_eq (congrArg AV.bool (beq_iff_eq.2 (by omega))))|exact ya1 trivial (Wk.of_eq (congrArg AV.bool (beq_eq_false_iff_ne.2 (by omega))))|fail)
theorem row3_c (op:Nat) (h:op=3∨op=10∨op=11∨op=12∨op=13) (s:ByteArray) (hs:s.size≤9223372036854775807) (n k:Nat) (hn0:n≤9223372036854775807) (hk0:k≤9223372036854775807) (L M:List AV) (H:Heap):VDet Tryz.prog 163 [.agg [.int .u8 op,.str s,.sl none n L,.sl none k M],.bool false] H (.bool (rowB op s n k)):=by
 have hv:rowB op s n k=(zfd s&&(decide (n≤0)&&decide (k=1))):=by rcases h with rfl|rfl|rfl|rfl|rfl <;> rfl
 rw [hv]
 have e0:(s.toList==(ByteArray.mk #[]).toList)=zfd s:=rfl
 generalize zfd s=nb at *
 cases nb with
 | false =>
   rcases h with rfl|rfl|rfl|rfl|rfl <;> (refine fdD Tryz.func163 ⟨rfl,rfl,rfl⟩ fun hcl hbl=>?_;((repeat' ((conv=>whnf);(first|(refine yai ?_;first|refine yau e0 ?_|refine yaq rfl ?_|refine yau rfl ?_|fail)|fail)));all_goals (conv=>whnf));all_goals first|exact eT trivial|exact ya1 trivial (Wk.of_eq (congrArg AV.bool (beq_iff_eq.2 (by omega))))|exact ya1 trivial (Wk.of_eq (congrArg AV.bool (beq_eq_false_iff_ne.2 (by omega))))|fail)
 | true =>
   by_cases h1:n≤0
   ·by_cases h2:k=1
    ·rw [decide_eq_true h1,decide_eq_true h2]
     rcases h with rfl|rfl|rfl|rfl|rfl <;> (refine fdD Tryz.func163 ⟨rfl,rfl,rfl⟩ fun hcl hbl=>?_;((repeat' ((conv=>whnf);(first|(refine yai ?_;first|refine yaq e0 ?_|refine yaq rfl ?_|refine yau rfl ?_|refine yar (by omega) ?_|fail)|fail)));all_goals (conv=>whnf));all_goals first|exact eT trivial|exact ya1 trivial (Wk.of_eq (congrArg AV.bool (beq_iff_eq.2 (by omega))))|exact ya1 trivial (Wk.of_eq (congrArg AV.bool (beq_eq_false_iff_ne.2 (by omega))))|fail)
    ·rw [decide_eq_true h1,decide_eq_false h2]
     rcases h with rfl|rfl|rfl|rfl|rfl <;> (refine fdD Tryz.func163 ⟨rfl,rfl,rfl⟩ fun hcl hbl=>?_;((repeat' ((conv=>whnf);(first|(refine yai ?_;first|refine yaq e0 ?_|refine yaq rfl ?_|refine yau rfl ?_|refine yar (by omega) ?_|fail)|fail)));all_goals (conv=>whnf));all_goals first|exact eT trivial|exact ya1 trivial (Wk.of_eq (congrArg AV.bool (beq_iff_eq.2 (by omega))))|exact ya1 trivial (Wk.of_eq (congrArg AV.bool (beq_eq_false_iff_ne.2 (by omega))))|fail)
   ·rw [decide_eq_false h1]
    rcases h with rfl|rfl|rfl|rfl|rfl <;> (refine fdD Tryz.func163 ⟨rfl,rfl,rfl⟩ fun hcl hbl=>?_;((repeat' ((conv=>whnf);(first|(refine yai ?_;first|refine yaq e0 ?_|refine yaq rfl ?_|refine yau rfl ?_|refine zah (by omega) ?_|fail)|fail)));all_goals (conv=>whnf));all_goals first|exact eT trivial|exact ya1 trivial (Wk.of_eq (congrArg AV.bool (beq_iff_eq.2 (by omega))))|exact ya1 trivial (Wk.of_eq (congrArg AV.bool (beq_eq_false_iff_ne.2 (by omega))))|fail)
theorem row4_c (op:Nat) (h:op=4∨op=5∨op=6∨op=7∨op=14) (s:ByteArray) (hs:s.size≤9223372036854775807) (n k:Nat) (hn0:n≤9223372036854775807) (hk0:k≤9223372036854775807) (L M:List AV) (H:Heap):VDet Tryz.prog 163 [.agg [.int .u8 op,.str s,.sl none n L,.sl none k M],.bool false] H (.bool (rowB op s n k)):=by
 have hv:rowB op s n k=(zfd s&&(decide (n≤0)&&decide (k=2))):=by rcases h with rfl|rfl|rfl|rfl|rfl <;> rfl
 rw [hv]
 have e0:(s.toList==(ByteArray.mk #[]).toList)=zfd s:=rfl
 generalize zfd s=nb at *
 cases nb with
 | false =>
   rcases h with rfl|rfl|rfl|rfl|rfl <;> (refine fdD Tryz.func163 ⟨rfl,rfl,rfl⟩ fun hcl hbl=>?_;((repeat' ((conv=>whnf);(first|(refine yai ?_;first|refine yau e0 ?_|refine yaq rfl ?_|refine yau rfl ?_|fail)|fail)));all_goals (conv=>whnf));all_goals first|exact eT trivial|exact ya1 trivial (Wk.of_eq (congrArg AV.bool (beq_iff_eq.2 (by omega))))|exact ya1 trivial (Wk.of_eq (congrArg AV.bool (beq_eq_false_iff_ne.2 (by omega))))|fail)
 | true =>
   by_cases h1:n≤0
   ·by_cases h2:k=2
    ·rw [decide_eq_true h1,decide_eq_true h2]
     rcases h with rfl|rfl|rfl|rfl|rfl <;> (refine fdD Tryz.func163 ⟨rfl,rfl,rfl⟩ fun hcl hbl=>?_;((repeat' ((conv=>whnf);(first|(refine yai ?_;first|refine yaq e0 ?_|refine yaq rfl ?_|refine yau rfl ?_|refine yar (by omega) ?_|fail)|fail)));all_goals (conv=>whnf));all_goals first|exact eT trivial|exact ya1 trivial (Wk.of_eq (congrArg AV.bool (beq_iff_eq.2 (by omega))))|exact ya1 trivial (Wk.of_eq (congrArg AV.bool (beq_eq_false_iff_ne.2 (by omega))))|fail)
    ·rw [decide_eq_true h1,decide_eq_false h2]
     rcases h with rfl|rfl|rfl|rfl|rfl <;> (refine fdD Tryz.func163 ⟨rfl,rfl,rfl⟩ fun hcl hbl=>?_;((repeat' ((conv=>whnf);(first|(refine yai ?_;first|refine yaq e0 ?_|refine yaq rfl ?_|refine yau rfl ?_|refine yar (by omega) ?_|fail)|fail)));all_goals (conv=>whnf));all_goals first|exact eT trivial|exact ya1 trivial (Wk.of_eq (congrArg AV.bool (beq_iff_eq.2 (by omega))))|exact ya1 trivial (Wk.of_eq (congrArg AV.bool (beq_eq_false_iff_ne.2 (by omega))))|fail)
   ·rw [decide_eq_false h1]
    rcases h with rfl|rfl|rfl|rfl|rfl <;> (refine fdD Tryz.func163 ⟨rfl,rfl,rfl⟩ fun hcl hbl=>?_;((repeat' ((conv=>whnf);(first|(refine yai ?_;first|refine yaq e0 ?_|refine yaq rfl ?_|refine yau rfl ?_|refine zah (by omega) ?_|fail)|fail)));all_goals (conv=>whnf));all_goals first|exact eT trivial|exact ya1 trivial (Wk.of_eq (congrArg AV.bool (beq_iff_eq.2 (by omega))))|exact ya1 trivial (Wk.of_eq (congrArg AV.bool (beq_eq_false_iff_ne.2 (by omega))))|fail)
theorem row8_c (op:Nat) (h:op=8∨op=9) (s:ByteArray) (hs:s.size≤9223372036854775807) (n k:Nat) (hn0:n≤9223372036854775807) (hk0:k≤9223372036854775807) (L M:List AV) (H:Heap):VDet Tryz.prog 163 [.agg [.int .u8 op,.str s,.sl none n L,.sl none k M],.bool false] H (.bool (rowB op s n k)):=by
 have hv:rowB op s n k=(isVar s&&(decide (n≤0)&&decide (k=1))):=by rcases h with rfl|rfl <;> rfl
 rw [hv]
 have hn:=ztc s hs
 generalize isVar s=nb at *
 cases nb with
 | false =>
   rcases h with rfl|rfl <;> (refine fdD Tryz.func163 ⟨rfl,rfl,rfl⟩ fun hcl hbl=>?_;((repeat' ((conv=>whnf);(first|(refine yai ?_;first|refine yaq rfl ?_|refine yau rfl ?_|fail)|refine yab _ (hn _) ?_|fail)));all_goals (conv=>whnf));all_goals first|exact eT trivial|exact ya1 trivial (Wk.of_eq (congrArg AV.bool (beq_iff_eq.2 (by omega))))|exact ya1 trivial (Wk.of_eq (congrArg AV.bool (beq_eq_false_iff_ne.2 (by omega))))|fail)
 | true =>
   by_cases h1:n≤0
   ·by_cases h2:k=1
    ·rw [decide_eq_true h1,decide_eq_true h2]
     rcases h with rfl|rfl <;> (refine fdD Tryz.func163 ⟨rfl,rfl,rfl⟩ fun hcl hbl=>?_;((repeat' ((conv=>whnf);(first|(refine yai ?_;first|refine yaq rfl ?_|refine yau rfl ?_|refine yar (by omega) ?_|fail)|refine yab _ (hn _) ?_|fail)));all_goals (conv=>whnf));all_goals first|exact eT trivial|exact ya1 trivial (Wk.of_eq (congrArg AV.bool (beq_iff_eq.2 (by omega))))|exact ya1 trivial (Wk.of_eq (congrArg AV.bool (beq_eq_false_iff_ne.2 (by omega))))|fail)
    ·rw [decide_eq_true h1,decide_eq_false h2]
     rcases h with rfl|rfl <;> (refine fdD Tryz.func163 ⟨rfl,rfl,rfl⟩ fun hcl hbl=>?_;((repeat' ((conv=>whnf);(first|(refine yai ?_;first|refine yaq rfl ?_|refine yau rfl ?_|refine yar (by omega) ?_|fail)|refine yab _ (hn _) ?_|fail)));all_goals (conv=>whnf));all_goals first|exact eT trivial|exact ya1 trivial (Wk.of_eq (congrArg AV.bool (beq_iff_eq.2 (by omega))))|exact ya1 trivial (Wk.of_eq (congrArg AV.bool (beq_eq_false_iff_ne.2 (by omega))))|fail)
   ·rw [decide_eq_false h1]
    rcases h with rfl|rfl <;> (refine fdD Tryz.func163 ⟨rfl,rfl,rfl⟩ fun hcl hbl=>?_;((repeat' ((conv=>whnf);(first|(refine yai ?_;first|refine yaq rfl ?_|refine yau rfl ?_|refine zah (by omega) ?_|fail)|refine yab _ (hn _) ?_|fail)));all_goals (conv=>whnf));all_goals first|exact eT trivial|exact ya1 trivial (Wk.of_eq (congrArg AV.bool (beq_iff_eq.2 (by omega))))|exact ya1 trivial (Wk.of_eq (congrArg AV.bool (beq_eq_false_iff_ne.2 (by omega))))|fail)
theorem row0_c (op:Nat) (hop:op≤255) (h:op=0∨15≤op) (s:ByteArray) (n k:Nat) (hn0:n≤9223372036854775807) (hk0:k≤9223372036854775807) (L M:List AV) (H:Heap):VDet Tryz.prog 163 [.agg [.int .u8 op,.str s,.sl none n L,.sl none k M],.bool false] H (.bool (rowB op s n k)):=by
 have hv:rowB op s n k=false:=by
  unfold rowB
  rcases yag op 17 with h17|h17
  ·have:op=0∨op=15∨op=16:=by omega
   rcases this with rfl|rfl|rfl <;> rfl
  ·rw [decide_eq_false (by omega)]
   rfl
 rw [hv]
 refine fdD Tryz.func163 ⟨rfl,rfl,rfl⟩ fun hcl hbl=>?_
 (repeat' ((conv=>whnf);(first|(refine yai ?_;first|refine yau rfl ?_|refine zah (by omega) ?_|refine za1 (fun _=>?_) (fun _=>?_)|fail)|fail)));all_goals (conv=>whnf)
 all_goals exact eT trivial
theorem row_c (op:Nat) (hop:op≤255) (s:ByteArray) (hs:s.size≤9223372036854775807) (n k:Nat) (hn0:n≤9223372036854775807) (hk0:k≤9223372036854775807) (L M:List AV) (H:Heap):VDet Tryz.prog 163 [.agg [.int .u8 op,.str s,.sl none n L,.sl none k M],.bool false] H (.bool (rowB op s n k)):=by
 by_cases h1:op=1
 ·exact row1_c op h1 s hs n k hn0 hk0 L M H
 by_cases h2:op=2
 ·exact row2_c op h2 s hs n k hn0 hk0 L M H
 by_cases h3:op=3∨op=10∨op=11∨op=12∨op=13
 ·exact row3_c op h3 s hs n k hn0 hk0 L M H
 by_cases h4:op=4∨op=5∨op=6∨op=7∨op=14
 ·exact row4_c op h4 s hs n k hn0 hk0 L M H
 by_cases h8:op=8∨op=9
 ·exact row8_c op h8 s hs n k hn0 hk0 L M H
 exact row0_c op hop (by omega) s n k hn0 hk0 L M H
def RfP (x:Fo):Prop:=∀ H,VDet Tryz.prog 144 [.agg x.cells,.bool false] H (.bool (rfF x))
theorem rf_step (op:Nat) (s:ByteArray) (l:List Tm) (m:List Fo) (hop:op≤255) (hs:s.size≤9223372036854775807) (hll:l.length≤9223372036854775807) (hml:m.length≤9223372036854775807) (iht:∀ x∈l,RtP x) (ih:∀ x∈m,RfP x):RfP (.mk op s l m):=by
 intro H
 have h0:=row_c op hop s hs l.length m.length hll hml (l.flatMap Tm.cells) (m.flatMap Fo.cells)
 have hr:rfF (.mk op s l m)=(rowB op s l.length m.length&&(l.all rT&&m.all rfF)):=by
  rw [← zq1,← zs8]
  unfold rfF
  rfl
 rw [hr,zan]
 generalize rowB op s l.length m.length=b0 at *
 cases b0 with
 | false =>
   have hb:=fun n=>zb4 n m
   have hb2:=fun n=>zbv n l
   generalize l.flatMap Tm.cells=lc at *
   generalize m.flatMap Fo.cells=mc at *
   refine fdD Tryz.func144 ⟨rfl,rfl,rfl⟩ fun hcl hbl=>?_
   (repeat' ((conv=>whnf);(first|(refine yai ?_;first|refine yas ?_|refine yau rfl ?_|fail)|refine yab _ (h0 _) ?_|fail)));conv=>whnf
   exact eT trivial
 | true =>
   rw [ya8]
   refine fdD Tryz.func144 ⟨rfl,rfl,rfl⟩ fun hcl hbl=>?_
   (repeat' ((conv=>whnf);(first|(refine yai ?_;first|refine yas ?_|refine yaq rfl ?_|fail)|refine yab _ (h0 _) ?_|fail)));conv=>whnf
   refine zam Tryz.E0 zaf (σ:=Nat) (fun k=>k≤l.length∧∀ y∈l.take k,rT y=true) (fun k=>l.length-k) (fun k=>[(5,.v (.int .i64 k))]) (fun _=>_) _ 0 rfl hcl [1,2] rfl ⟨yah _,fun y hy=>(by cases hy)⟩ ⟨⟨_,rfl,yae _⟩,trivial⟩ rfl (fun _ _=>rfl) ?_
   rintro k ⟨hk,hinv⟩
   rcases yag k l.length with hlt|hge
   ·have hc:=iht _ (getD_memT l k tm0 hlt)
    unfold RtP at hc
    obtain ⟨w1,w2,w3,w4,hw,hb⟩:=zoh (l.getD k tm0)
    rw [hw] at hc
    cases ht:rT (l.getD k tm0) <;> rw [ht] at hc
    ·rw [zsi tm0 hlt ht,ya0]
     (repeat' ((conv=>whnf);(first|(refine yai ?_;first|refine yas ?_|refine yau rfl ?_|refine yar (by omega) ?_|fail)|(refine yaf ?_ ?_;· first|omega|exact yaa _ _|fail)|refine yab _ (hc _) ?_|refine SegN.nthE tm0 k rfl (by omega) zcv hw ?_|fail)));conv=>whnf
     exact eT trivial
    ·(repeat' ((conv=>whnf);(first|(refine yai ?_;first|refine yas ?_|refine yaq rfl ?_|refine yar (by omega) ?_|fail)|(refine zac _ _ Cst.h Cst.h ?_ ?_;· omega)|(refine yaf ?_ ?_;· first|omega|exact yaa _ _|fail)|refine yab _ (hc _) ?_|refine SegN.nthE tm0 k rfl (by omega) zcv hw ?_|fail)));conv=>whnf
     (refine ⟨⟨k+1,⟨by omega,zn3 tm0 hlt hinv ht⟩,by omega,?_,.inl ⟨rfl,rfl⟩,rfl,_,rfl,?_⟩⟩;rotate_left 1;exact .inl rfl;exact ⟨⟨_,rfl,yae _⟩,trivial⟩)
   ·have:k=l.length:=by omega
    subst this
    rw [ya2] at hinv
    rw [yao.2 hinv,ya8]
    (repeat' ((conv=>whnf);(first|refine zah (by omega) ?_|fail)));conv=>whnf
    refine zam Tryz.E0 zaf (σ:=Nat) (fun k=>k≤m.length∧∀ y∈m.take k,rfF y=true) (fun k=>m.length-k) (fun k=>[(6,.v (.int .i64 k))]) (fun _=>_) _ 0 rfl hcl [1,2] rfl ⟨yah _,fun y hy=>(by cases hy)⟩ ⟨⟨_,rfl,yae _⟩,trivial⟩ rfl (fun _ _=>rfl) ?_
    rintro k ⟨hk,hinv⟩
    rcases yag k m.length with hlt|hge
    ·have hc:=ih _ (getD_memT m k fo0 hlt)
     unfold RfP at hc
     obtain ⟨w1,w2,w3,w4,w5,w6,hw,hb⟩:=zer (m.getD k fo0)
     rw [hw] at hc
     cases ht:rfF (m.getD k fo0) <;> rw [ht] at hc
     ·rw [zsi fo0 hlt ht]
      (repeat' ((conv=>whnf);(first|(refine yai ?_;first|refine yas ?_|refine yau rfl ?_|refine yar (by omega) ?_|fail)|(refine yaf ?_ ?_;· first|omega|exact yaa _ _|fail)|refine yab _ (hc _) ?_|refine SegN.nthE fo0 k rfl (by omega) zcl hw ?_|fail)));conv=>whnf
      exact eT trivial
     ·(repeat' ((conv=>whnf);(first|(refine yai ?_;first|refine yas ?_|refine yaq rfl ?_|refine yar (by omega) ?_|fail)|(refine zac _ _ Cst.h Cst.h ?_ ?_;· omega)|(refine yaf ?_ ?_;· first|omega|exact yaa _ _|fail)|refine yab _ (hc _) ?_|refine SegN.nthE fo0 k rfl (by omega) zcl hw ?_|fail)));conv=>whnf
      (refine ⟨⟨k+1,⟨by omega,zn3 fo0 hlt hinv ht⟩,by omega,?_,.inl ⟨rfl,rfl⟩,rfl,_,rfl,?_⟩⟩;rotate_left 1;exact .inl rfl;exact ⟨⟨_,rfl,yae _⟩,trivial⟩)
    ·have:k=m.length:=by omega
     subst this
     rw [ya2] at hinv
     rw [yao.2 hinv]
     (repeat' ((conv=>whnf);(first|refine zah (by omega) ?_|fail)));conv=>whnf
     exact eT trivial
mutual
theorem rf_c:∀ x:Fo,x.good→RfP x
 | .mk op s l m,h=>rf_step op s l m h.1 (zbq h.2.1) (zbq h.2.2.1) (zbq h.2.2.2.2.1) (zqs l h.2.2.2.1) (zxr m h.2.2.2.2.2)
theorem zxr:∀ l:List Fo,Fo.goodL l→∀ x∈l,RfP x
 | [],_,x,hx=>by cases hx
 | y::l,h,x,hx=>by
   rcases yay.1 hx with e|hx
   ·rw [e]
    exact rf_c y h.1
   ·exact zxr l h.2 x hx
end
mutual
def szzT:Tm→Nat
 | .mk _ _ l=>szzTs l+1
def szzTs:List Tm→Nat
 | []=>0
 | x::l=>szzT x+szzTs l
end
mutual
def szzF:Fo→Nat
 | .mk _ _ l m=>1+szzTs l+szzFs m
def szzFs:List Fo→Nat
 | []=>0
 | x::l=>szzF x+szzFs l
end
mutual
def dT:Tm→Nat
 | .mk _ _ l=>dTs l+1
def dTs:List Tm→Nat
 | []=>0
 | x::l=>max (dT x) (dTs l)
end
mutual
def dpF:Fo→Nat
 | .mk _ _ l m=>max (dTs l) (dpFs m)+1
def dpFs:List Fo→Nat
 | []=>0
 | x::l=>max (dpF x) (dpFs l)
end
mutual
def rkF:Fo→Nat
 | .mk op _ _ m=>if isQ op then rkFs m+1 else rkFs m
def rkFs:List Fo→Nat
 | []=>0
 | x::l=>max (rkF x) (rkFs l)
end
def smN {α:Type} (f:α→Nat):List α→Nat
 | []=>0
 | x::l=>f x+smN f l
def mxN {α:Type} (f:α→Nat):List α→Nat
 | []=>0
 | x::l=>max (f x) (mxN f l)
theorem zqk {α:Type} (f:α→Nat):∀ l m,smN f (l++m)=smN f l+smN f m
 | [],m=>(ybv _).symm
 | x::l,m=>by show f x+smN f (l++m)=f x+smN f l+smN f m;rw [zqk f l m];omega
theorem zq8 {α:Type} (f:α→Nat):∀ l m,mxN f (l++m)=max (mxN f l) (mxN f m)
 | [],m=>(Nat.zero_max _).symm
 | x::l,m=>by show max (f x) (mxN f (l++m))=max (max (f x) (mxN f l)) (mxN f m);rw [zq8 f l m];omega
theorem zfl {α:Type} (f:α→Nat) (d:α) (l:List α) (k:Nat) (h:k<l.length):smN f (l.take (k+1))=smN f (l.take k)+f (l.getD k d):=by
 rw [zdr l d k h,zqk]
 rfl
theorem ztl {α:Type} (f:α→Nat) (d:α) (l:List α) (k:Nat) (h:k<l.length):mxN f (l.take (k+1))=max (mxN f (l.take k)) (f (l.getD k d)):=by
 rw [zdr l d k h,zq8]
 show max _ (max (f (l.getD k d)) 0)=_
 rw [Nat.max_zero]
theorem zhr {α:Type} (f:α→Nat) (l:List α) (k:Nat):smN f (l.take k)≤smN f l:=by
 have:=zqk f (l.take k) (l.drop k)
 rw [ycp] at this
 omega
theorem ztm {α:Type} (f:α→Nat) (l:List α) (k:Nat):mxN f (l.take k)≤mxN f l:=by
 have:=zq8 f (l.take k) (l.drop k)
 rw [ycp] at this
 omega
theorem zjc:∀ l,szzTs l=smN szzT l
 | []=>by unfold szzTs;rfl
 | x::l=>by unfold szzTs;rw [zjc l];rfl
theorem zjd:∀ l,szzFs l=smN szzF l
 | []=>by unfold szzFs;rfl
 | x::l=>by unfold szzFs;rw [zjd l];rfl
theorem dTs_eq:∀ l,dTs l=mxN dT l
 | []=>by unfold dTs;rfl
 | x::l=>by unfold dTs;rw [dTs_eq l];rfl
theorem zr2:∀ l,dpFs l=mxN dpF l
 | []=>by unfold dpFs;rfl
 | x::l=>by unfold dpFs;rw [zr2 l];rfl
mutual
theorem dT_le:∀ x:Tm,dT x≤szzT x
 | .mk v s l=>by
   have:=zpr l
   unfold dT szzT
   omega
theorem zpr:∀ l:List Tm,dTs l≤szzTs l
 | []=>by unfold dTs;omega
 | x::l=>by
   have h1:=dT_le x
   have h2:=zpr l
   unfold dTs szzTs
   omega
end
mutual
theorem dpF_le:∀ x:Fo,dpF x≤szzF x∧rkF x≤szzF x
 | .mk op s l m=>by
   have h1:=zpr l
   have h2:=zr1 m
   unfold dpF szzF rkF
   refine ⟨by omega,?_⟩
   split <;> omega
theorem zr1:∀ l:List Fo,dpFs l≤szzFs l∧rkFs l≤szzFs l
 | []=>by unfold dpFs rkFs;omega
 | x::l=>by
   have h1:=dpF_le x
   have h2:=zr1 l
   unfold dpFs szzFs rkFs
   omega
end
mutual
theorem nT_pos:∀ x:Tm,1≤szzT x
 | .mk v s l=>by unfold szzT;omega
theorem zii:∀ l:List Tm,l.length≤szzTs l
 | []=>yah _
 | x::l=>by
   have h1:=nT_pos x
   have h2:=zii l
   unfold szzTs
   rw [List.length_cons]
   omega
end
mutual
theorem nF_pos:∀ x:Fo,1≤szzF x
 | .mk op s l m=>by unfold szzF;omega
theorem zm6:∀ l:List Fo,l.length≤szzFs l
 | []=>yah _
 | x::l=>by
   have h1:=nF_pos x
   have h2:=zm6 l
   unfold szzFs
   rw [List.length_cons]
   omega
end
def tar:Tm→List Tm
 | .mk _ _ l=>l
theorem tar_ex (x:Tm):∃ v s,x.cells=[.bool v,.str s,.sl none (tar x).length ((tar x).flatMap Tm.cells)]∧szzT x=szzTs (tar x)+1∧dT x=dTs (tar x)+1:=by
 obtain ⟨v,s,l⟩:=x
 exact ⟨v,s,zay v s l,by unfold szzT;rfl,by unfold dT;rfl⟩
def SzP (x:Tm):Prop:=∀ H,VDet Tryz.prog 165 [.sl none (tar x).length ((tar x).flatMap Tm.cells)] H (.int .i64 (szzTs (tar x):Nat))
def DpP (x:Tm):Prop:=∀ H,VDet Tryz.prog 166 [.sl none (tar x).length ((tar x).flatMap Tm.cells)] H (.int .i64 (dTs (tar x):Nat))
theorem size_l (l:List Tm) (hn:szzTs l≤100000) (ih:∀ x∈l,SzP x) (H:Heap):VDet Tryz.prog 165 [.sl none l.length (l.flatMap Tm.cells)] H (.int .i64 (szzTs l:Nat)):=by
 have hll:=zii l
 rw [zjc] at hn hll ⊢
 refine fdD Tryz.func165 ⟨rfl,rfl,rfl⟩ fun hcl hbl=>?_
 conv=>whnf
 refine zam Tryz.E0 zaf (σ:=Nat) (fun k=>k≤l.length) (fun k=>l.length-k) (fun k=>[(3,.v (.int .i64 (smN szzT (l.take k):Nat))),(4,.v (.int .i64 k))]) (fun _=>_) _ 0 rfl hcl [0] rfl (yah _) ⟨⟨_,rfl,yae _⟩,⟨_,rfl,yae _⟩,trivial⟩ rfl (fun _ _=>rfl) ?_
 intro k hk
 have hle:=zhr szzT l k
 rcases yag k l.length with hlt|hge
 ·have hc:=ih _ (getD_memT l k tm0 hlt)
  have hs:=zfl szzT tm0 l k hlt
  have hle2:=zhr szzT l (k+1)
  unfold SzP at hc
  obtain ⟨w1,w2,hw,e1,e2⟩:=tar_ex (l.getD k tm0)
  rw [e1] at hs
  generalize szzTs (tar (l.getD k tm0))=a at *
  generalize (tar (l.getD k tm0)).length=an at *
  generalize (tar (l.getD k tm0)).flatMap Tm.cells=ac at *
  generalize smN szzT (l.take k)=S0 at *
  (repeat' ((conv=>whnf);(first|refine yar (by omega) ?_|(refine zac _ _ Cst.h Cst.h ?_ ?_;· omega)|(refine yaf ?_ ?_;· first|omega|exact yaa _ _|fail)|refine yab _ (hc _) ?_|refine SegN.nthE tm0 k rfl (by omega) zcv hw ?_|fail)));conv=>whnf
  (refine ⟨⟨k+1,by show k+1≤_;omega,by omega,?_,.inl ⟨rfl,rfl⟩,rfl,_,rfl,?_⟩⟩;rotate_left 1;exact .inl rfl;(repeat' (first|exact trivial|refine ⟨⟨_,rfl,?_⟩,?_⟩|fail));all_goals (first|exact yae _|exact Wk.of_eq (congrArg (AV.int _) (by omega))|fail))
 ·have:k=l.length:=by omega
  subst this
  rw [ya2]
  (repeat' ((conv=>whnf);(first|refine zah (by omega) ?_|fail)));conv=>whnf
  exact eT trivial
theorem deep_l (l:List Tm) (hn:szzTs l≤100000) (ih:∀ x∈l,DpP x) (H:Heap):VDet Tryz.prog 166 [.sl none l.length (l.flatMap Tm.cells)] H (.int .i64 (dTs l:Nat)):=by
 have hll:=zii l
 have hdl:=zpr l
 rw [dTs_eq] at hdl ⊢
 refine fdD Tryz.func166 ⟨rfl,rfl,rfl⟩ fun hcl hbl=>?_
 conv=>whnf
 refine zam Tryz.E0 zaf (σ:=Nat) (fun k=>k≤l.length) (fun k=>l.length-k) (fun k=>[(3,.v (.int .i64 (mxN dT (l.take k):Nat))),(4,.v (.int .i64 k))]) (fun _=>_) _ 0 rfl hcl [0] rfl (yah _) ⟨⟨_,rfl,yae _⟩,⟨_,rfl,yae _⟩,trivial⟩ rfl (fun _ _=>rfl) ?_
 intro k hk
 have hle:=ztm dT l k
 rcases yag k l.length with hlt|hge
 ·have hc:=ih _ (getD_memT l k tm0 hlt)
  have hs:=ztl dT tm0 l k hlt
  have hle2:=ztm dT l (k+1)
  unfold DpP at hc
  obtain ⟨w1,w2,hw,e1,e2⟩:=tar_ex (l.getD k tm0)
  rw [e2] at hs
  generalize dTs (tar (l.getD k tm0))=a at *
  generalize (tar (l.getD k tm0)).length=an at *
  generalize (tar (l.getD k tm0)).flatMap Tm.cells=ac at *
  generalize mxN dT (l.take k)=S0 at *
  rcases yag S0 (a+1) with hmx|hmx
  ·rw [Nat.max_eq_right (by omega)] at hs
   (repeat' ((conv=>whnf);(first|refine yar (by omega) ?_|(refine zac _ _ Cst.h Cst.h ?_ ?_;· omega)|(refine yaf ?_ ?_;· first|omega|exact yaa _ _|fail)|refine yab _ (hc _) ?_|refine SegN.nthE tm0 k rfl (by omega) zcv hw ?_|fail)));conv=>whnf
   (refine ⟨⟨k+1,by show k+1≤_;omega,by omega,?_,.inl ⟨rfl,rfl⟩,rfl,_,rfl,?_⟩⟩;rotate_left 1;exact .inl rfl;(repeat' (first|exact trivial|refine ⟨⟨_,rfl,?_⟩,?_⟩|fail));all_goals (first|exact yae _|exact Wk.of_eq (congrArg (AV.int _) (by omega))|fail))
  ·rw [Nat.max_eq_left (by omega)] at hs
   (repeat' ((conv=>whnf);(first|(refine yai ?_;first|refine yar (by omega) ?_|refine zah (by omega) ?_|fail)|(refine zac _ _ Cst.h Cst.h ?_ ?_;· omega)|(refine yaf ?_ ?_;· first|omega|exact yaa _ _|fail)|refine yab _ (hc _) ?_|refine SegN.nthE tm0 k rfl (by omega) zcv hw ?_|fail)));conv=>whnf
   (refine ⟨⟨k+1,by show k+1≤_;omega,by omega,?_,.inl ⟨rfl,rfl⟩,rfl,_,rfl,?_⟩⟩;rotate_left 1;exact .inl rfl;(repeat' (first|exact trivial|refine ⟨⟨_,rfl,?_⟩,?_⟩|fail));all_goals (first|exact yae _|exact Wk.of_eq (congrArg (AV.int _) (by omega))|fail))
 ·have:k=l.length:=by omega
  subst this
  rw [ya2]
  (repeat' ((conv=>whnf);(first|refine zah (by omega) ?_|fail)));conv=>whnf
  exact eT trivial
mutual
theorem sz_c:∀ x:Tm,szzT x≤100000→SzP x∧DpP x
 | .mk v s l,h=>by
   unfold szzT at h
   have h2:=zmo l (by omega)
   exact ⟨fun H=>size_l l (by omega) (fun x hx=>(h2 x hx).1) H,fun H=>deep_l l (by omega) (fun x hx=>(h2 x hx).2) H⟩
theorem zmo:∀ l:List Tm,szzTs l≤100000→∀ x∈l,SzP x∧DpP x
 | [],_,x,hx=>by cases hx
 | y::l,h,x,hx=>by
   unfold szzTs at h
   rcases yay.1 hx with e|hx
   ·rw [e]
    exact sz_c y (by omega)
   ·exact zmo l (by omega) x hx
end
def NdP (x:Fo):Prop:=∀ H,VDet Tryz.prog 145 [.agg x.cells] H (.int .i64 (szzF x:Nat))
def DeP (x:Fo):Prop:=∀ H,VDet Tryz.prog 146 [.agg x.cells] H (.int .i64 (dpF x:Nat))
theorem zvm (op:Nat) (hop:op≤255) (s:ByteArray) (l:List Tm) (m:List Fo) (hn:szzF (.mk op s l m)≤100000) (ih:∀ x∈m,NdP x):NdP (.mk op s l m):=by
 intro H
 have hll:=zii l
 have hml:=zm6 m
 have he:szzF (.mk op s l m)=1+szzTs l+smN szzF m:=by rw [← zjd];unfold szzF;rfl
 rw [he] at hn ⊢
 rw [zjd] at hml
 have h1:=fun H=>size_l l (by omega) (fun x hx=>(zmo l (by omega) x hx).1) H
 rw [zan]
 generalize szzTs l=A0 at *
 generalize l.flatMap Tm.cells=lc at *
 refine fdD Tryz.func145 ⟨rfl,rfl,rfl⟩ fun hcl hbl=>?_
 (repeat' ((conv=>whnf);(first|(refine zac _ _ Cst.h Cst.h ?_ ?_;· omega)|refine yab _ (h1 _) ?_|fail)));conv=>whnf
 refine zam Tryz.E0 zaf (σ:=Nat) (fun k=>k≤m.length) (fun k=>m.length-k) (fun k=>[(3,.v (.int .i64 ((1+A0+smN szzF (m.take k):Nat):Int))),(4,.v (.int .i64 k))]) (fun _=>_) _ 0 rfl hcl [1] rfl (yah _) ⟨⟨_,rfl,Wk.of_eq (congrArg (AV.int _) (by show _=((1+A0+0:Nat):Int);omega))⟩,⟨_,rfl,yae _⟩,trivial⟩ rfl (fun _ _=>rfl) ?_
 intro k hk
 have hle:=zhr szzF m k
 rcases yag k m.length with hlt|hge
 ·have hc:=ih _ (getD_memT m k fo0 hlt)
  have hs:=zfl szzF fo0 m k hlt
  have hle2:=zhr szzF m (k+1)
  unfold NdP at hc
  obtain ⟨w1,w2,w3,w4,w5,w6,hw,hb⟩:=zer (m.getD k fo0)
  rw [hw] at hc
  generalize szzF (m.getD k fo0)=a at *
  generalize smN szzF (m.take k)=S0 at *
  (repeat' ((conv=>whnf);(first|refine yar (by omega) ?_|(refine zac _ _ Cst.h Cst.h ?_ ?_;· omega)|(refine yaf ?_ ?_;· first|omega|exact yaa _ _|fail)|refine yab _ (hc _) ?_|refine SegN.nthE fo0 k rfl (by omega) zcl hw ?_|fail)));conv=>whnf
  (refine ⟨⟨k+1,by show k+1≤_;omega,by omega,?_,.inl ⟨rfl,rfl⟩,rfl,_,rfl,?_⟩⟩;rotate_left 1;exact .inl rfl;(repeat' (first|exact trivial|refine ⟨⟨_,rfl,?_⟩,?_⟩|fail));all_goals (first|exact yae _|exact Wk.of_eq (congrArg (AV.int _) (by omega))|fail))
 ·have:k=m.length:=by omega
  subst this
  rw [ya2]
  (repeat' ((conv=>whnf);(first|refine zah (by omega) ?_|fail)));conv=>whnf
  exact eT trivial
theorem zwh (op:Nat) (hop:op≤255) (s:ByteArray) (l:List Tm) (m:List Fo) (hn:szzF (.mk op s l m)≤100000) (ih:∀ x∈m,DeP x):DeP (.mk op s l m):=by
 intro H
 have hml:=zm6 m
 have hdm:=(zr1 m).1
 have hdl:=zpr l
 have he:dpF (.mk op s l m)=max (dTs l) (mxN dpF m)+1:=by rw [← zr2];unfold dpF;rfl
 have hn2:1+szzTs l+szzFs m≤100000:=by unfold szzF at hn;exact hn
 rw [he]
 rw [zr2] at hdm
 have h1:=fun H=>deep_l l (by omega) (fun x hx=>(zmo l (by omega) x hx).2) H
 rw [zan]
 generalize dTs l=A0 at *
 generalize l.flatMap Tm.cells=lc at *
 refine fdD Tryz.func146 ⟨rfl,rfl,rfl⟩ fun hcl hbl=>?_
 (repeat' ((conv=>whnf);(first|refine yab _ (h1 _) ?_|fail)));conv=>whnf
 refine zam Tryz.E0 zaf (σ:=Nat) (fun k=>k≤m.length) (fun k=>m.length-k) (fun k=>[(3,.v (.int .i64 ((max A0 (mxN dpF (m.take k)):Nat):Int))),(4,.v (.int .i64 k))]) (fun _=>_) _ 0 rfl hcl [1] rfl (yah _) ⟨⟨_,rfl,Wk.of_eq (congrArg (AV.int _) (by show _=((max A0 0:Nat):Int);rw [Nat.max_zero]))⟩,⟨_,rfl,yae _⟩,trivial⟩ rfl (fun _ _=>rfl) ?_
 intro k hk
 have hle:=ztm dpF m k
 rcases yag k m.length with hlt|hge
 ·have hc:=ih _ (getD_memT m k fo0 hlt)
  have hs:=ztl dpF fo0 m k hlt
  have hle2:=ztm dpF m (k+1)
  unfold DeP at hc
  obtain ⟨w1,w2,w3,w4,w5,w6,hw,hb⟩:=zer (m.getD k fo0)
  rw [hw] at hc
  generalize dpF (m.getD k fo0)=a at *
  have hS:max A0 (mxN dpF (m.take (k+1)))=max (max A0 (mxN dpF (m.take k))) a:=by rw [hs];omega
  have hS2:max A0 (mxN dpF (m.take k))≤100000:=by omega
  generalize max A0 (mxN dpF (m.take k))=S0 at *
  rcases yag S0 a with hmx|hmx
  ·rw [Nat.max_eq_right (show S0≤a by omega)] at hS
   (repeat' ((conv=>whnf);(first|refine yar (by omega) ?_|(refine zac _ _ Cst.h Cst.h ?_ ?_;· omega)|(refine yaf ?_ ?_;· first|omega|exact yaa _ _|fail)|refine yab _ (hc _) ?_|refine SegN.nthE fo0 k rfl (by omega) zcl hw ?_|fail)));conv=>whnf
   (refine ⟨⟨k+1,by show k+1≤_;omega,by omega,?_,.inl ⟨rfl,rfl⟩,rfl,_,rfl,?_⟩⟩;rotate_left 1;exact .inl rfl;(repeat' (first|exact trivial|refine ⟨⟨_,rfl,?_⟩,?_⟩|fail));all_goals (first|exact yae _|exact Wk.of_eq (congrArg (AV.int _) (by omega))|fail))
  ·rw [Nat.max_eq_left (show a≤S0 by omega)] at hS
   (repeat' ((conv=>whnf);(first|(refine yai ?_;first|refine yar (by omega) ?_|refine zah (by omega) ?_|fail)|(refine zac _ _ Cst.h Cst.h ?_ ?_;· omega)|(refine yaf ?_ ?_;· first|omega|exact yaa _ _|fail)|refine yab _ (hc _) ?_|refine SegN.nthE fo0 k rfl (by omega) zcl hw ?_|fail)));conv=>whnf
   (refine ⟨⟨k+1,by show k+1≤_;omega,by omega,?_,.inl ⟨rfl,rfl⟩,rfl,_,rfl,?_⟩⟩;rotate_left 1;exact .inl rfl;(repeat' (first|exact trivial|refine ⟨⟨_,rfl,?_⟩,?_⟩|fail));all_goals (first|exact yae _|exact Wk.of_eq (congrArg (AV.int _) (by omega))|fail))
 ·have:k=m.length:=by omega
  subst this
  rw [ya2]
  have hS2:max A0 (mxN dpF m)≤100000:=by omega
  generalize max A0 (mxN dpF m)=S0 at *
  (repeat' ((conv=>whnf);(first|refine zah (by omega) ?_|(refine zac _ _ Cst.h Cst.h ?_ ?_;· omega)|fail)));conv=>whnf
  exact ya1 trivial (Wk.of_eq (congrArg (AV.int _) (by omega)))
mutual
theorem msr_c:∀ x:Fo,x.good→szzF x≤100000→(NdP x∧DeP x)∧True
 | .mk op s l m,hg,h=>by
   have h':=h
   unfold szzF at h
   have h2:=ztn m hg.2.2.2.2.2 (by omega)
   exact ⟨⟨zvm op hg.1 s l m h' fun x hx=>(h2 x hx).1.1,zwh op hg.1 s l m h' fun x hx=>(h2 x hx).1.2⟩,trivial⟩
theorem ztn:∀ l:List Fo,Fo.goodL l→szzFs l≤100000→∀ x∈l,(NdP x∧DeP x)∧True
 | [],_,_,x,hx=>by cases hx
 | y::l,hg,h,x,hx=>by
   unfold szzFs at h
   rcases yay.1 hx with e|hx
   ·rw [e]
    exact msr_c y hg.1 (by omega)
   ·exact ztn l hg.2 (by omega) x hx
end
def refR (x:Fo):Bool:=rfF x&&(decide (szzF x≤400)&&decide (dpF x≤40))
theorem zu6 (x:Fo) (hg:x.good) (hn:szzF x≤100000) (H:Heap):VDet Tryz.prog 108 [.agg x.cells] H (.bool (refR x)):=by
 have h1:∀ H,VDet Tryz.prog 144 [.agg x.cells,.bool false] H (.bool (rfF x)):=fun H=>rf_c x hg H
 have h2:∀ H,VDet Tryz.prog 145 [.agg x.cells] H (.int .i64 (szzF x:Nat)):=(msr_c x hg hn).1.1
 have h3:∀ H,VDet Tryz.prog 146 [.agg x.cells] H (.int .i64 (dpF x:Nat)):=(msr_c x hg hn).1.2
 unfold refR
 obtain ⟨w1,w2,w3,w4,w5,w6,hw,hb⟩:=zer x
 rw [hw] at h1 h2 h3 ⊢
 generalize rfF x=b0 at *
 generalize szzF x=n at *
 generalize dpF x=d at *
 cases b0 with
 | false =>
   refine fdD Tryz.func108 ⟨rfl,rfl,rfl⟩ fun hcl hbl=>?_
   (repeat' ((conv=>whnf);(first|refine yau rfl ?_|refine yab _ (h1 _) ?_|fail)));conv=>whnf
   exact eT trivial
 | true =>
   rw [ya8]
   by_cases q1:n≤400
   ·rw [decide_eq_true q1,ya8]
    by_cases q2:d≤40
    ·rw [decide_eq_true q2]
     refine fdD Tryz.func108 ⟨rfl,rfl,rfl⟩ fun hcl hbl=>?_
     (repeat' ((conv=>whnf);(first|(refine yai ?_;first|refine yaq rfl ?_|refine yar (by omega) ?_|fail)|(refine ybk ?_;first|refine yab _ (h1 _) ?_|refine yab _ (h2 _) ?_|refine yab _ (h3 _) ?_|fail)|fail)));conv=>whnf
     exact ya1 trivial (Wk.of_eq (congrArg AV.bool (decide_eq_true (by omega))))
    ·rw [decide_eq_false q2]
     refine fdD Tryz.func108 ⟨rfl,rfl,rfl⟩ fun hcl hbl=>?_
     (repeat' ((conv=>whnf);(first|(refine yai ?_;first|refine yaq rfl ?_|refine yar (by omega) ?_|fail)|(refine ybk ?_;first|refine yab _ (h1 _) ?_|refine yab _ (h2 _) ?_|refine yab _ (h3 _) ?_|fail)|fail)));conv=>whnf
     exact ya1 trivial (Wk.of_eq (congrArg AV.bool (decide_eq_false (by omega))))
   ·rw [decide_eq_false q1,ya0]
    refine fdD Tryz.func108 ⟨rfl,rfl,rfl⟩ fun hcl hbl=>?_
    (repeat' ((conv=>whnf);(first|(refine yai ?_;first|refine yaq rfl ?_|refine zah (by omega) ?_|fail)|(refine ybk ?_;first|refine yab _ (h1 _) ?_|refine yab _ (h2 _) ?_|fail)|fail)));conv=>whnf
    exact eT trivial
def capN (a M:Nat):Nat:=min a (M+1)
def TzP (x:Tm):Prop:=∀ (M:Nat),M≤1000→∀ H,VDet Tryz.prog 158 [.agg x.cells,.int .i64 (M:Nat)] H (.int .i64 (capN (szzT x) M:Nat))
def FzP (x:Fo):Prop:=∀ (M:Nat),M≤1000→∀ H,VDet Tryz.prog 135 [.agg x.cells,.int .i64 (M:Nat)] H (.int .i64 (capN (szzF x) M:Nat))
theorem tz_step (v:Bool) (s:ByteArray) (l:List Tm) (hll:l.length≤9223372036854775807) (ih:∀ x∈l,TzP x):TzP (.mk v s l):=by
 intro M hM H
 rw [show szzT (.mk v s l)=1+smN szzT l by rw [← zjc];unfold szzT;omega,zay]
 refine fdD Tryz.func158 ⟨rfl,rfl,rfl⟩ fun hcl hbl=>?_
 conv=>whnf
 refine zam Tryz.E0 zaf (σ:=Nat) (fun k=>k≤l.length) (fun k=>l.length-k) (fun k=>[(5,.v (.int .i64 (capN (1+smN szzT (l.take k)) M:Nat))),(6,.v (.int .i64 k))]) (fun _=>_) _ 0 rfl hcl [1,2] rfl (yah _) ⟨⟨_,rfl,Wk.of_eq (congrArg (AV.int _) (by show _=((capN (1+0) M:Nat):Int);unfold capN;omega))⟩,⟨_,rfl,yae _⟩,trivial⟩ rfl (fun _ _=>rfl) ?_
 intro k hk
 have hle:=zhr szzT l k
 rcases yag k l.length with hlt|hge
 ·rcases yag M (capN (1+smN szzT (l.take k)) M) with hM1|hM1
  ·have hcap:capN (1+smN szzT (l.take k)) M=capN (1+smN szzT l) M:=by unfold capN at *;omega
   rw [hcap] at hM1 ⊢
   (repeat' ((conv=>whnf);(first|(refine yai ?_;first|refine yar (by omega) ?_|refine zah (by omega) ?_|fail)|fail)));conv=>whnf
   exact eT trivial
  ·have hc:=ih _ (getD_memT l k tm0 hlt)
   have hs:=zfl szzT tm0 l k hlt
   unfold TzP at hc
   obtain ⟨w1,w2,w3,w4,hw,hb⟩:=zoh (l.getD k tm0)
   rw [hw] at hc
   have hc:=hc (M-capN (1+smN szzT (l.take k)) M) (by omega)
   have hst:capN (1+smN szzT (l.take (k+1))) M=capN (1+smN szzT (l.take k)) M+capN (szzT (l.getD k tm0)) (M-capN (1+smN szzT (l.take k)) M):=by unfold capN at *;omega
   have hst2:capN (1+smN szzT (l.take (k+1))) M≤M+1:=by unfold capN;omega
   generalize capN (1+smN szzT (l.take k)) M=N0 at *
   generalize capN (szzT (l.getD k tm0)) (M-N0)=N1 at *
   (repeat' ((conv=>whnf);(first|refine yar (by omega) ?_|(refine yct ?_;first|(refine zac _ _ Cst.h Cst.h ?_ ?_;· omega)|(refine zb6 _ _ Cst.h Cst.h ?_ ?_;· omega)|fail)|(refine yaf ?_ ?_;· first|omega|exact yaa _ _|fail)|refine yab _ (hc _) ?_|refine SegN.nthE tm0 k rfl (by omega) zcv hw ?_|fail)));conv=>whnf
   (refine ⟨⟨k+1,by show k+1≤_;omega,by omega,?_,.inl ⟨rfl,rfl⟩,rfl,_,rfl,?_⟩⟩;rotate_left 1;exact .inl rfl;(repeat' (first|exact trivial|refine ⟨⟨_,rfl,?_⟩,?_⟩|fail));all_goals (first|exact yae _|exact Wk.of_eq (congrArg (AV.int _) (by omega))|fail))
 ·have:k=l.length:=by omega
  subst this
  rw [ya2]
  (repeat' ((conv=>whnf);(first|refine zah (by omega) ?_|fail)));conv=>whnf
  exact eT trivial
mutual
theorem tzV_c:∀ x:Tm,x.good→TzP x
 | .mk v s l,h=>tz_step v s l (zbq h.2.1) (zp6 l h.2.2)
theorem zp6:∀ l:List Tm,Tm.goodL l→∀ x∈l,TzP x
 | [],_,x,hx=>by cases hx
 | y::l,h,x,hx=>by
   rcases yay.1 hx with e|hx
   ·rw [e]
    exact tzV_c y h.1
   ·exact zp6 l h.2 x hx
end
theorem fz_step (op:Nat) (hop:op≤255) (s:ByteArray) (l:List Tm) (m:List Fo) (hll:l.length≤9223372036854775807) (hml:m.length≤9223372036854775807) (iht:∀ x∈l,TzP x) (ih:∀ x∈m,FzP x):FzP (.mk op s l m):=by
 intro M hM H
 rw [show szzF (.mk op s l m)=1+smN szzF m+smN szzT l by rw [← zjc,← zjd];unfold szzF;omega,zan]
 refine fdD Tryz.func135 ⟨rfl,rfl,rfl⟩ fun hcl hbl=>?_
 conv=>whnf
 refine zam Tryz.E0 zaf (σ:=Nat) (fun k=>k≤m.length) (fun k=>m.length-k) (fun k=>[(5,.v (.int .i64 (capN (1+smN szzF (m.take k)) M:Nat))),(6,.v (.int .i64 k))]) (fun _=>_) _ 0 rfl hcl [1,2] rfl (yah _) ⟨⟨_,rfl,Wk.of_eq (congrArg (AV.int _) (by show _=((capN (1+0) M:Nat):Int);unfold capN;omega))⟩,⟨_,rfl,yae _⟩,trivial⟩ rfl (fun _ _=>rfl) ?_
 intro k hk
 have hle:=zhr szzF m k
 rcases yag k m.length with hlt|hge
 ·rcases yag M (capN (1+smN szzF (m.take k)) M) with hM1|hM1
  ·have hcap:capN (1+smN szzF (m.take k)) M=capN (1+smN szzF m) M:=by unfold capN at *;omega
   rw [hcap] at hM1 ⊢
   (repeat' ((conv=>whnf);(first|(refine yai ?_;first|refine yar (by omega) ?_|refine zah (by omega) ?_|fail)|fail)));conv=>whnf
   refine zam Tryz.E0 zaf (σ:=Nat) (fun k=>k≤l.length) (fun k=>l.length-k) (fun k=>[(5,.v (.int .i64 (capN ((1+smN szzF m)+smN szzT (l.take k)) M:Nat))),(7,.v (.int .i64 k))]) (fun _=>_) _ 0 rfl hcl [1,2] rfl (yah _) ⟨⟨_,rfl,Wk.of_eq (congrArg (AV.int _) (by show _=((capN ((1+smN szzF m)+0) M:Nat):Int);unfold capN;omega))⟩,⟨_,rfl,yae _⟩,trivial⟩ rfl (fun _ _=>rfl) ?_
   intro k hk
   have hle:=zhr szzT l k
   rcases yag k l.length with hlt|hge
   ·rcases yag M (capN ((1+smN szzF m)+smN szzT (l.take k)) M) with hM1|hM1
    ·have hcap:capN ((1+smN szzF m)+smN szzT (l.take k)) M=capN ((1+smN szzF m)+smN szzT l) M:=by unfold capN at *;omega
     rw [hcap] at hM1 ⊢
     (repeat' ((conv=>whnf);(first|(refine yai ?_;first|refine yar (by omega) ?_|refine zah (by omega) ?_|fail)|fail)));conv=>whnf
     exact eT trivial
    ·have hc:=iht _ (getD_memT l k tm0 hlt)
     have hs:=zfl szzT tm0 l k hlt
     unfold TzP at hc
     obtain ⟨w1,w2,w3,w4,hw,hb⟩:=zoh (l.getD k tm0)
     rw [hw] at hc
     have hc:=hc (M-capN ((1+smN szzF m)+smN szzT (l.take k)) M) (by omega)
     have hst:capN ((1+smN szzF m)+smN szzT (l.take (k+1))) M=capN ((1+smN szzF m)+smN szzT (l.take k)) M+capN (szzT (l.getD k tm0)) (M-capN ((1+smN szzF m)+smN szzT (l.take k)) M):=by unfold capN at *;omega
     have hst2:capN ((1+smN szzF m)+smN szzT (l.take (k+1))) M≤M+1:=by unfold capN;omega
     generalize capN ((1+smN szzF m)+smN szzT (l.take k)) M=N0 at *
     generalize capN (szzT (l.getD k tm0)) (M-N0)=N1 at *
     (repeat' ((conv=>whnf);(first|refine yar (by omega) ?_|(refine yct ?_;first|(refine zac _ _ Cst.h Cst.h ?_ ?_;· omega)|(refine zb6 _ _ Cst.h Cst.h ?_ ?_;· omega)|fail)|(refine yaf ?_ ?_;· first|omega|exact yaa _ _|fail)|refine yab _ (hc _) ?_|refine SegN.nthE tm0 k rfl (by omega) zcv hw ?_|fail)));conv=>whnf
     (refine ⟨⟨k+1,by show k+1≤_;omega,by omega,?_,.inl ⟨rfl,rfl⟩,rfl,_,rfl,?_⟩⟩;rotate_left 1;exact .inl rfl;(repeat' (first|exact trivial|refine ⟨⟨_,rfl,?_⟩,?_⟩|fail));all_goals (first|exact yae _|exact Wk.of_eq (congrArg (AV.int _) (by omega))|fail))
   ·have:k=l.length:=by omega
    subst this
    rw [ya2]
    (repeat' ((conv=>whnf);(first|refine zah (by omega) ?_|fail)));conv=>whnf
    exact eT trivial
  ·have hc:=ih _ (getD_memT m k fo0 hlt)
   have hs:=zfl szzF fo0 m k hlt
   unfold FzP at hc
   obtain ⟨w1,w2,w3,w4,w5,w6,hw,hb⟩:=zer (m.getD k fo0)
   rw [hw] at hc
   have hc:=hc (M-capN (1+smN szzF (m.take k)) M) (by omega)
   have hst:capN (1+smN szzF (m.take (k+1))) M=capN (1+smN szzF (m.take k)) M+capN (szzF (m.getD k fo0)) (M-capN (1+smN szzF (m.take k)) M):=by unfold capN at *;omega
   have hst2:capN (1+smN szzF (m.take (k+1))) M≤M+1:=by unfold capN;omega
   generalize capN (1+smN szzF (m.take k)) M=N0 at *
   generalize capN (szzF (m.getD k fo0)) (M-N0)=N1 at *
   (repeat' ((conv=>whnf);(first|refine yar (by omega) ?_|(refine yct ?_;first|(refine zac _ _ Cst.h Cst.h ?_ ?_;· omega)|(refine zb6 _ _ Cst.h Cst.h ?_ ?_;· omega)|fail)|(refine yaf ?_ ?_;· first|omega|exact yaa _ _|fail)|refine yab _ (hc _) ?_|refine SegN.nthE fo0 k rfl (by omega) zcl hw ?_|fail)));conv=>whnf
   (refine ⟨⟨k+1,by show k+1≤_;omega,by omega,?_,.inl ⟨rfl,rfl⟩,rfl,_,rfl,?_⟩⟩;rotate_left 1;exact .inl rfl;(repeat' (first|exact trivial|refine ⟨⟨_,rfl,?_⟩,?_⟩|fail));all_goals (first|exact yae _|exact Wk.of_eq (congrArg (AV.int _) (by omega))|fail))
 ·have:k=m.length:=by omega
  subst this
  rw [ya2]
  (repeat' ((conv=>whnf);(first|refine zah (by omega) ?_|fail)));conv=>whnf
  refine zam Tryz.E0 zaf (σ:=Nat) (fun k=>k≤l.length) (fun k=>l.length-k) (fun k=>[(5,.v (.int .i64 (capN ((1+smN szzF m)+smN szzT (l.take k)) M:Nat))),(7,.v (.int .i64 k))]) (fun _=>_) _ 0 rfl hcl [1,2] rfl (yah _) ⟨⟨_,rfl,Wk.of_eq (congrArg (AV.int _) (by show _=((capN ((1+smN szzF m)+0) M:Nat):Int);unfold capN;omega))⟩,⟨_,rfl,yae _⟩,trivial⟩ rfl (fun _ _=>rfl) ?_
  intro k hk
  have hle:=zhr szzT l k
  rcases yag k l.length with hlt|hge
  ·rcases yag M (capN ((1+smN szzF m)+smN szzT (l.take k)) M) with hM1|hM1
   ·have hcap:capN ((1+smN szzF m)+smN szzT (l.take k)) M=capN ((1+smN szzF m)+smN szzT l) M:=by unfold capN at *;omega
    rw [hcap] at hM1 ⊢
    (repeat' ((conv=>whnf);(first|(refine yai ?_;first|refine yar (by omega) ?_|refine zah (by omega) ?_|fail)|fail)));conv=>whnf
    exact eT trivial
   ·have hc:=iht _ (getD_memT l k tm0 hlt)
    have hs:=zfl szzT tm0 l k hlt
    unfold TzP at hc
    obtain ⟨w1,w2,w3,w4,hw,hb⟩:=zoh (l.getD k tm0)
    rw [hw] at hc
    have hc:=hc (M-capN ((1+smN szzF m)+smN szzT (l.take k)) M) (by omega)
    have hst:capN ((1+smN szzF m)+smN szzT (l.take (k+1))) M=capN ((1+smN szzF m)+smN szzT (l.take k)) M+capN (szzT (l.getD k tm0)) (M-capN ((1+smN szzF m)+smN szzT (l.take k)) M):=by unfold capN at *;omega
    have hst2:capN ((1+smN szzF m)+smN szzT (l.take (k+1))) M≤M+1:=by unfold capN;omega
    generalize capN ((1+smN szzF m)+smN szzT (l.take k)) M=N0 at *
    generalize capN (szzT (l.getD k tm0)) (M-N0)=N1 at *
    (repeat' ((conv=>whnf);(first|refine yar (by omega) ?_|(refine yct ?_;first|(refine zac _ _ Cst.h Cst.h ?_ ?_;· omega)|(refine zb6 _ _ Cst.h Cst.h ?_ ?_;· omega)|fail)|(refine yaf ?_ ?_;· first|omega|exact yaa _ _|fail)|refine yab _ (hc _) ?_|refine SegN.nthE tm0 k rfl (by omega) zcv hw ?_|fail)));conv=>whnf
    (refine ⟨⟨k+1,by show k+1≤_;omega,by omega,?_,.inl ⟨rfl,rfl⟩,rfl,_,rfl,?_⟩⟩;rotate_left 1;exact .inl rfl;(repeat' (first|exact trivial|refine ⟨⟨_,rfl,?_⟩,?_⟩|fail));all_goals (first|exact yae _|exact Wk.of_eq (congrArg (AV.int _) (by omega))|fail))
  ·have:k=l.length:=by omega
   subst this
   rw [ya2]
   (repeat' ((conv=>whnf);(first|refine zah (by omega) ?_|fail)));conv=>whnf
   exact eT trivial
mutual
theorem fz_c:∀ x:Fo,x.good→FzP x
 | .mk op s l m,h=>fz_step op h.1 s l m (zbq h.2.2.1) (zbq h.2.2.2.2.1) (zp6 l h.2.2.2.1) (zry m h.2.2.2.2.2)
theorem zry:∀ l:List Fo,Fo.goodL l→∀ x∈l,FzP x
 | [],_,x,hx=>by cases hx
 | y::l,h,x,hx=>by
   rcases yay.1 hx with e|hx
   ·rw [e]
    exact fz_c y h.1
   ·exact zry l h.2 x hx
end
def fewF (l:List Fo):Bool:=decide (smN szzF l≤600)
theorem zwf (l:List Fo) (hl:l.length≤9223372036854775807) (hg:Fo.goodL l) (H:Heap):VDet Tryz.prog 97 [.sl none l.length (l.flatMap Fo.cells)] H (.bool (fewF l)):=by
 unfold fewF
 have hx:=fun x hx=>zry l hg x hx
 refine fdD Tryz.func97 ⟨rfl,rfl,rfl⟩ fun hcl hbl=>?_
 conv=>whnf
 refine zam Tryz.E0 zaf (σ:=Nat) (fun k=>k≤l.length∧smN szzF (l.take k)≤600) (fun k=>l.length-k) (fun k=>[(3,.v (.int .i64 (smN szzF (l.take k):Nat))),(4,.v (.int .i64 k))]) (fun _=>_) _ 0 rfl hcl [0] rfl ⟨yah _,yah _⟩ ⟨⟨_,rfl,yae _⟩,⟨_,rfl,yae _⟩,trivial⟩ rfl (fun _ _=>rfl) ?_
 rintro k ⟨hk,hi⟩
 rcases yag k l.length with hlt|hge
 ·have hc0:=hx _ (getD_memT l k fo0 hlt)
  have hs:=zfl szzF fo0 l k hlt
  have hle2:=zhr szzF l (k+1)
  unfold FzP at hc0
  obtain ⟨w1,w2,w3,w4,w5,w6,hw,hb⟩:=zer (l.getD k fo0)
  rw [hw] at hc0
  have hc:∀ H,VDet Tryz.prog 135 [.agg [.int .u8 (w1:Nat),.str w2,.sl none w3 w4,.sl none w5 w6],.int .i64 600] H (.int .i64 (capN (szzF (l.getD k fo0)) 600:Nat)):=hc0 600 (by decide)
  clear hc0
  have hcap:capN (szzF (l.getD k fo0)) 600≤601:=by unfold capN;omega
  have hcap2:capN (szzF (l.getD k fo0)) 600=szzF (l.getD k fo0)∨(capN (szzF (l.getD k fo0)) 600=601∧601≤szzF (l.getD k fo0)):=by unfold capN;omega
  generalize capN (szzF (l.getD k fo0)) 600=N1 at *
  generalize szzF (l.getD k fo0)=z at *
  generalize smN szzF (l.take k)=S0 at *
  rcases yag 600 (S0+N1) with h6|h6
  ·rw [decide_eq_false (by omega)]
   (repeat' ((conv=>whnf);(first|refine yar (by omega) ?_|(refine zac _ _ Cst.h Cst.h ?_ ?_;· omega)|(refine yaf ?_ ?_;· first|omega|exact yaa _ _|fail)|refine yab _ (hc _) ?_|refine SegN.nthE fo0 k rfl (by omega) zcl hw ?_|fail)));conv=>whnf
   exact eT trivial
  ·have hN:N1=z:=by omega
   (repeat' ((conv=>whnf);(first|(refine yai ?_;first|refine yar (by omega) ?_|refine zah (by omega) ?_|fail)|(refine zac _ _ Cst.h Cst.h ?_ ?_;· omega)|(refine yaf ?_ ?_;· first|omega|exact yaa _ _|fail)|refine yab _ (hc _) ?_|refine SegN.nthE fo0 k rfl (by omega) zcl hw ?_|fail)));conv=>whnf
   (refine ⟨⟨k+1,⟨by show k+1≤_;omega,by omega⟩,by omega,?_,.inl ⟨rfl,rfl⟩,rfl,_,rfl,?_⟩⟩;rotate_left 1;exact .inl rfl;(repeat' (first|exact trivial|refine ⟨⟨_,rfl,?_⟩,?_⟩|fail));all_goals (first|exact yae _|exact Wk.of_eq (congrArg (AV.int _) (by omega))|fail))
 ·have:k=l.length:=by omega
  subst this
  rw [ya2] at hi
  rw [decide_eq_true hi]
  (repeat' ((conv=>whnf);(first|refine zah (by omega) ?_|fail)));conv=>whnf
  exact eT trivial
theorem zrh (x:Tm):∃ v s a,x.cells=[.bool v,.str s,.sl none a.length (a.flatMap Tm.cells)]∧lnT x=[.bool v,.str s,.sk a.length (a.length+12) (lnTs a++mksT 12)]:=by
 obtain ⟨v,s,a⟩:=x
 exact ⟨v,s,a,zay v s a,zl9 v s a⟩
theorem zfa (n:Nat) (l:List Tm):zaa n (l.flatMap lnT):=za9 l fun x=>zo9 n x
theorem zfb (n:Nat) (l:List Fo):zaa n (l.flatMap lnF):=za9 l fun x=>zpb n x
theorem appC_T (C:List AV):∀ j,appC (fun i=>(mkTm i).cells) C j=C++mksT j
 | 0=>(yat C).symm
 | j+1=>by rw [appC,appC_T C j,zo4,ybe]
theorem appC_F (C:List AV):∀ j,appC (fun i=>(mkFo i).cells) C j=C++mksF j
 | 0=>(yat C).symm
 | j+1=>by rw [appC,appC_F C j,zo5,ybe]
theorem zl0 (n i:Nat):zaa n (mkTm i).cells:=by rw [ze7];simp [below,zaa]
theorem zl1 (n i:Nat):zaa n (mkFo i).cells:=by rw [ze8];simp [below,zaa]
def LnTP (x:Tm):Prop:=∀ H,VDet Tryz.prog 136 [.agg x.cells] H (.agg (lnT x))
theorem zko (l:List Tm) (hl:l.length≤1000) (h:∀ x∈l,LnTP x) (H:Heap):VDet Tryz.prog 98 [.sl none l.length (l.flatMap Tm.cells)] H (.sk l.length (l.length+12) (lnTs l++mksT 12)):=by
 have hEb:=True.intro
 rw [zkj]
 refine fdD Tryz.func98 ⟨rfl,rfl,rfl⟩ fun hcl hbl=>?_
 (repeat' ((conv=>whnf);(first|(refine zfz ?_;refine yc7 (l.length+12) (by omega) ?_;refine yaf ⟨rfl,by omega,by dsimp only;omega⟩ (OrN.l ?_))|refine yck (by omega) ?_|fail)));conv=>whnf
 refine zam Tryz.E0 zaf (σ:=Nat) (fun i=>i≤l.length) (fun i=>l.length-i) (fun i=>[(3,.v (.sl (some (H.length+0)) i ((l.take i).flatMap lnT))),(4,.v (.int .i64 i))]) (fun i=>[.tok 63 3 ((l.take i).flatMap lnT).length]) _ 0 rfl hcl [0] rfl (yah _) ⟨⟨_,rfl,yae _⟩,⟨_,rfl,yae _⟩,trivial⟩ rfl (fun _ _=>rfl) ?_
 intro i hi
 rcases yag i l.length with hlt|hge
 ·have hx:=h _ (getD_memT l i tm0 hlt)
  obtain ⟨v,s,a,q1,q2⟩:=zrh (l.getD i tm0)
  unfold LnTP at hx
  rw [q1,q2] at hx
  have hns:(l.take (i+1)).flatMap lnT=(l.take i).flatMap lnT++[.bool v,.str s,.sk a.length (a.length+12) (lnTs a++mksT 12)]:=by
   rw [zdr l tm0 i hlt,ybx,ya6,ybf,yat,q2]
  have hml:((l.take i).flatMap lnT).length=i * 3:=by
   rw [zaq (f:=lnT) (sz:=3) zri,yci,ych (by omega)]
  (repeat' ((conv=>whnf);(first|refine yar (by omega) ?_|(refine zac _ _ Cst.h Cst.h ?_ ?_;· omega)|(refine yaf ?_ ?_;· first|omega|exact yaa _ _|fail)|refine yab _ (hx _) ?_|refine SegN.nthE tm0 i rfl (by omega) zcv q1 ?_|refine yaf ⟨rfl,rfl,rfl,by dsimp only;omega,by simp only [maxLen];omega⟩ ?_|refine yca _ rfl ?_|fail)));conv=>whnf
  rw [← hns]
  (refine ⟨⟨i+1,by show i+1≤_;omega,by omega,?_,.inl ⟨rfl,rfl⟩,rfl,_,rfl,?_⟩⟩;rotate_left 1;exact .inr ⟨by simp [zbe,below,zaa,tr,zbv,zb4,zc1,zdu,zc2,zdw,zfa,zfb,hEb],by simp [zcj,Blk.below,zaa,below,zbv,zb4,zc1,zdu,zc2,zdw,zfa,zfb,hEb]⟩;exact ⟨⟨_,rfl,yae _⟩,⟨_,rfl,yae _⟩,trivial⟩)
 ·have hie:i=l.length:=by omega
  subst hie
  rw [ya2]
  have hml:(l.flatMap lnT).length=l.length * 3:=zaq (f:=lnT) (sz:=3) zri l
  have hCb:=fun n=>zfa n l
  rw [← appC_T]
  generalize l.flatMap lnT=C at *
  (repeat' ((conv=>whnf);(first|refine zah (by omega) ?_|fail)));conv=>whnf
  refine zam Tryz.E0 zaf (σ:=Nat) (fun j=>j≤12) (fun j=>12-j) (fun j=>[(3,.v (.sl (some (H.length+0)) (l.length+j) (appC (fun i=>(mkTm i).cells) C j))),(6,.v (.int .i64 j))]) (fun j=>[.tok 63 3 (appC (fun i=>(mkTm i).cells) C j).length]) _ 0 rfl hcl [0] rfl (yah _) ⟨⟨_,rfl,yae _⟩,⟨_,rfl,yae _⟩,trivial⟩ rfl (fun _ _=>rfl) ?_
  intro j hj
  have hDl:=zeu (m:=fun i=>(mkTm i).cells) (fun i=>zcv _) hml j
  have hDb:=fun n=>zb0 n (m:=fun i=>(mkTm i).cells) (fun i=>zl0 n i) (hCb n) j
  rcases yag j 12 with hlt|hge
  ·have hm:=fun H=>zl4 j hlt H
   have hns:appC (fun i=>(mkTm i).cells) C (j+1)=appC (fun i=>(mkTm i).cells) C j++(mkTm j).cells:=rfl
   clear hEb
   have hEb:=fun n=>zb0 n (m:=fun i=>(mkTm i).cells) (fun i=>zl0 n i) (hCb n) (j+1)
   rw [ze7] at hm hns
   generalize appC (fun i=>(mkTm i).cells) C j=D at *
   (repeat' ((conv=>whnf);(first|refine yar (by omega) ?_|(refine zac _ _ Cst.h Cst.h ?_ ?_;· omega)|refine yab _ (hm _) ?_|refine yaf ⟨rfl,rfl,rfl,by dsimp only;omega,by simp only [maxLen];omega⟩ ?_|refine yca _ rfl ?_|fail)));conv=>whnf
   rw [← hns]
   (refine ⟨⟨j+1,by show j+1≤_;omega,by omega,?_,.inl ⟨rfl,rfl⟩,rfl,_,rfl,?_⟩⟩;rotate_left 1;exact .inl rfl;exact ⟨⟨_,rfl,yae _⟩,⟨_,rfl,yae _⟩,trivial⟩)
  ·have hje:j=12:=by omega
   subst hje
   (repeat' ((conv=>whnf);(first|(refine OrN.r ?_;(conv=>whnf);refine yc7 l.length rfl ?_;(conv=>whnf);refine yaf (by omega) ?_)|refine yau rfl ?_|fail)));conv=>whnf
   exact eT (by simp [below,zaa,hDb])
mutual
def smT:Tm→Prop
 | .mk _ _ l=>l.length≤1000∧smTs l
def smTs:List Tm→Prop
 | []=>True
 | x::l=>smT x∧smTs l
end
mutual
def smF:Fo→Prop
 | .mk op _ l m=>op≤255∧(l.length≤1000∧smTs l)∧(m.length≤1000∧smFs m)
def smFs:List Fo→Prop
 | []=>True
 | x::l=>smF x∧smFs l
end
theorem zvr (v:Bool) (s:ByteArray) (l:List Tm) (hl:l.length≤1000) (h:∀ x∈l,LnTP x):LnTP (.mk v s l):=by
 intro H
 have h1:=fun H=>zko l hl h H
 have hC:=fun n=>(zak _ _).2 ⟨zc2 n l,zc1 n 12⟩
 rw [zay,zl9]
 generalize lnTs l++mksT 12=C at *
 generalize l.flatMap Tm.cells=c at *
 refine fdD Tryz.func136 ⟨rfl,rfl,rfl⟩ fun hcl hbl=>?_
 (repeat' ((conv=>whnf);(first|refine yab _ (h1 _) ?_|fail)));conv=>whnf
 exact eT (by simp [below,zaa,hC])
mutual
theorem lentT_g:∀ x:Tm,smT x→LnTP x
 | .mk v s l,h=>by
   unfold smT at h
   exact zvr v s l h.1 (zng l h.2)
theorem zng:∀ l:List Tm,smTs l→∀ x∈l,LnTP x
 | [],_,x,hx=>by cases hx
 | y::l,h,x,hx=>by
   unfold smTs at h
   rcases yay.1 hx with e|hx
   ·rw [e]
    exact lentT_g y h.1
   ·exact zng l h.2 x hx
end
theorem znd (x:Fo):∃ o s a b,x.cells=[.int .u8 (o:Nat),.str s,.sl none a.length (a.flatMap Tm.cells),.sl none b.length (b.flatMap Fo.cells)]∧lnF x=[.int .u8 (o:Nat),.str s,.sk a.length (a.length+12) (lnTs a++mksT 12),.sk b.length (b.length+12) (lnFs b++mksF 12)]:=by
 obtain ⟨o,s,a,b⟩:=x
 exact ⟨o,s,a,b,zan o s a b,zma o s a b⟩
def LnFP (x:Fo):Prop:=∀ H,VDet Tryz.prog 67 [.agg x.cells] H (.agg (lnF x))
theorem zrn (l:List Fo) (hl:l.length≤1000) (h:∀ x∈l,LnFP x) (H:Heap):VDet Tryz.prog 99 [.sl none l.length (l.flatMap Fo.cells)] H (.sk l.length (l.length+12) (lnFs l++mksF 12)):=by
 have hEb:=True.intro
 rw [zkl]
 refine fdD Tryz.func99 ⟨rfl,rfl,rfl⟩ fun hcl hbl=>?_
 (repeat' ((conv=>whnf);(first|(refine zfz ?_;refine yc7 (l.length+12) (by omega) ?_;refine yaf ⟨rfl,by omega,by dsimp only;omega⟩ (OrN.l ?_))|refine yck (by omega) ?_|fail)));conv=>whnf
 refine zam Tryz.E0 zaf (σ:=Nat) (fun i=>i≤l.length) (fun i=>l.length-i) (fun i=>[(3,.v (.sl (some (H.length+0)) i ((l.take i).flatMap lnF))),(4,.v (.int .i64 i))]) (fun i=>[.tok 50 4 ((l.take i).flatMap lnF).length]) _ 0 rfl hcl [0] rfl (yah _) ⟨⟨_,rfl,yae _⟩,⟨_,rfl,yae _⟩,trivial⟩ rfl (fun _ _=>rfl) ?_
 intro i hi
 rcases yag i l.length with hlt|hge
 ·have hx:=h _ (getD_memT l i fo0 hlt)
  obtain ⟨o,s,a,b,q1,q2⟩:=znd (l.getD i fo0)
  unfold LnFP at hx
  rw [q1,q2] at hx
  have hns:(l.take (i+1)).flatMap lnF=(l.take i).flatMap lnF++[.int .u8 (o:Nat),.str s,.sk a.length (a.length+12) (lnTs a++mksT 12),.sk b.length (b.length+12) (lnFs b++mksF 12)]:=by
   rw [zdr l fo0 i hlt,ybx,ya6,ybf,yat,q2]
  have hml:((l.take i).flatMap lnF).length=i * 4:=by
   rw [zaq (f:=lnF) (sz:=4) zrj,yci,ych (by omega)]
  (repeat' ((conv=>whnf);(first|refine yar (by omega) ?_|(refine zac _ _ Cst.h Cst.h ?_ ?_;· omega)|(refine yaf ?_ ?_;· first|omega|exact yaa _ _|fail)|refine yab _ (hx _) ?_|refine SegN.nthE fo0 i rfl (by omega) zcl q1 ?_|refine yaf ⟨rfl,rfl,rfl,by dsimp only;omega,by simp only [maxLen];omega⟩ ?_|refine yca _ rfl ?_|fail)));conv=>whnf
  rw [← hns]
  (refine ⟨⟨i+1,by show i+1≤_;omega,by omega,?_,.inl ⟨rfl,rfl⟩,rfl,_,rfl,?_⟩⟩;rotate_left 1;exact .inr ⟨by simp [zbe,below,zaa,tr,zbv,zb4,zc1,zdu,zc2,zdw,zfa,zfb,hEb],by simp [zcj,Blk.below,zaa,below,zbv,zb4,zc1,zdu,zc2,zdw,zfa,zfb,hEb]⟩;exact ⟨⟨_,rfl,yae _⟩,⟨_,rfl,yae _⟩,trivial⟩)
 ·have hie:i=l.length:=by omega
  subst hie
  rw [ya2]
  have hml:(l.flatMap lnF).length=l.length * 4:=zaq (f:=lnF) (sz:=4) zrj l
  have hCb:=fun n=>zfb n l
  rw [← appC_F]
  generalize l.flatMap lnF=C at *
  (repeat' ((conv=>whnf);(first|refine zah (by omega) ?_|fail)));conv=>whnf
  refine zam Tryz.E0 zaf (σ:=Nat) (fun j=>j≤12) (fun j=>12-j) (fun j=>[(3,.v (.sl (some (H.length+0)) (l.length+j) (appC (fun i=>(mkFo i).cells) C j))),(6,.v (.int .i64 j))]) (fun j=>[.tok 50 4 (appC (fun i=>(mkFo i).cells) C j).length]) _ 0 rfl hcl [0] rfl (yah _) ⟨⟨_,rfl,yae _⟩,⟨_,rfl,yae _⟩,trivial⟩ rfl (fun _ _=>rfl) ?_
  intro j hj
  have hDl:=zeu (m:=fun i=>(mkFo i).cells) (fun i=>zcl _) hml j
  have hDb:=fun n=>zb0 n (m:=fun i=>(mkFo i).cells) (fun i=>zl1 n i) (hCb n) j
  rcases yag j 12 with hlt|hge
  ·have hm:=fun H=>zl6 j hlt H
   have hns:appC (fun i=>(mkFo i).cells) C (j+1)=appC (fun i=>(mkFo i).cells) C j++(mkFo j).cells:=rfl
   clear hEb
   have hEb:=fun n=>zb0 n (m:=fun i=>(mkFo i).cells) (fun i=>zl1 n i) (hCb n) (j+1)
   rw [ze8] at hm hns
   generalize appC (fun i=>(mkFo i).cells) C j=D at *
   (repeat' ((conv=>whnf);(first|refine yar (by omega) ?_|(refine zac _ _ Cst.h Cst.h ?_ ?_;· omega)|refine yab _ (hm _) ?_|refine yaf ⟨rfl,rfl,rfl,by dsimp only;omega,by simp only [maxLen];omega⟩ ?_|refine yca _ rfl ?_|fail)));conv=>whnf
   rw [← hns]
   (refine ⟨⟨j+1,by show j+1≤_;omega,by omega,?_,.inl ⟨rfl,rfl⟩,rfl,_,rfl,?_⟩⟩;rotate_left 1;exact .inl rfl;exact ⟨⟨_,rfl,yae _⟩,⟨_,rfl,yae _⟩,trivial⟩)
  ·have hje:j=12:=by omega
   subst hje
   (repeat' ((conv=>whnf);(first|(refine OrN.r ?_;(conv=>whnf);refine yc7 l.length rfl ?_;(conv=>whnf);refine yaf (by omega) ?_)|refine yau rfl ?_|fail)));conv=>whnf
   exact eT (by simp [below,zaa,hDb])
theorem zvu (op:Nat) (hop:op≤255) (s:ByteArray) (l:List Tm) (m:List Fo) (hl:l.length≤1000) (hlt:∀ x∈l,LnTP x) (hm:m.length≤1000) (h:∀ x∈m,LnFP x):LnFP (.mk op s l m):=by
 intro H
 have h1:=fun H=>zko l hl hlt H
 have h2:=fun H=>zrn m hm h H
 have hC:=fun n=>(zak _ _).2 ⟨zc2 n l,zc1 n 12⟩
 have hD:=fun n=>(zak _ _).2 ⟨zdw n m,zdu n 12⟩
 rw [zan,zma]
 generalize lnTs l++mksT 12=C at *
 generalize lnFs m++mksF 12=D at *
 generalize l.flatMap Tm.cells=c at *
 generalize m.flatMap Fo.cells=d at *
 refine fdD Tryz.func67 ⟨rfl,rfl,rfl⟩ fun hcl hbl=>?_
 (repeat' ((conv=>whnf);(first|(refine ybk ?_;first|refine yab _ (h1 _) ?_|refine yab _ (h2 _) ?_|fail)|fail)));conv=>whnf
 exact eT (by simp [below,zaa,hC,hD])
mutual
theorem zyj:∀ x:Fo,smF x→LnFP x
 | .mk op s l m,h=>by
   unfold smF at h
   exact zvu op h.1 s l m h.2.1.1 (zng l h.2.1.2) h.2.2.1 (ztq m h.2.2.2)
theorem ztq:∀ l:List Fo,smFs l→∀ x∈l,LnFP x
 | [],_,x,hx=>by cases hx
 | y::l,h,x,hx=>by
   unfold smFs at h
   rcases yay.1 hx with e|hx
   ·rw [e]
    exact zyj y h.1
   ·exact ztq l h.2 x hx
end
def SmTP (x:Tm):Prop:=∀ H,VDet Tryz.prog 143 [.agg x.cells,.agg x.cells] H (.bool true)
def SmFP (x:Fo):Prop:=∀ H,VDet Tryz.prog 102 [.agg x.cells,.agg x.cells] H (.bool true)
theorem zj3 (l:List Tm) (hl:l.length≤1000000) (h:∀ x∈l,SmTP x) (H:Heap):VDet Tryz.prog 140 [.sl none l.length (l.flatMap Tm.cells),.sl none l.length (l.flatMap Tm.cells)] H (.bool true):=by
 refine fdD Tryz.func140 ⟨rfl,rfl,rfl⟩ fun hcl hbl=>?_
 (repeat' ((conv=>whnf);(first|(refine yai ?_;first|refine yas ?_|refine yar (by omega) ?_|fail)|fail)));conv=>whnf
 refine zam Tryz.E0 zaf (σ:=Nat) (fun j=>j≤l.length) (fun j=>l.length-j) (fun j=>[(5,.v (.int .i64 j))]) (fun _=>_) _ 0 rfl hcl [0,1] rfl (yah _) ⟨⟨_,rfl,yae _⟩,trivial⟩ rfl (fun _ _=>rfl) ?_
 intro j hj
 rcases yag j l.length with hlt|hge
 ·have hx:=h _ (getD_memT l j tm0 hlt)
  obtain ⟨v,s,a,q1,-⟩:=zrh (l.getD j tm0)
  unfold SmTP at hx
  rw [q1] at hx
  (repeat' ((conv=>whnf);(first|(refine yai ?_;first|refine yas ?_|refine yaq rfl ?_|refine yar (by omega) ?_|fail)|(refine zac _ _ Cst.h Cst.h ?_ ?_;· omega)|(refine yaf ?_ ?_;· first|kernel_rfl|omega|exact yaa _ _|fail)|refine yan _ (fun _ hq X=>hx _) ?_|refine SegN.nthE tm0 j rfl (by omega) zcv q1 ?_|refine zad [] ?_|fail)));conv=>whnf
  (refine ⟨⟨j+1,by show j+1≤_;omega,by omega,?_,.inl ⟨rfl,rfl⟩,rfl,_,rfl,?_⟩⟩;rotate_left 1;exact .inl rfl;exact ⟨⟨_,rfl,yae _⟩,trivial⟩)
 ·have hje:j=l.length:=by omega
  subst hje
  (repeat' ((conv=>whnf);(first|refine zah (by omega) ?_|fail)));conv=>whnf
  exact eT trivial
theorem zuz (v:Bool) (s:ByteArray) (l:List Tm) (hl:l.length≤1000) (h:∀ x∈l,SmTP x):SmTP (.mk v s l):=by
 intro H
 have h1:=fun H=>zj3 l (by omega) h H
 rw [zay]
 generalize l.flatMap Tm.cells=c at *
 refine fdD Tryz.func143 ⟨rfl,rfl,rfl⟩ fun hcl hbl=>?_
 (repeat' ((conv=>whnf);(first|refine yaq (beq_self_eq_true _) ?_|refine yab _ (h1 _) ?_|fail)));conv=>whnf
 exact eT trivial
mutual
theorem zqm:∀ x:Tm,smT x→SmTP x
 | .mk v s l,h=>by
   unfold smT at h
   exact zuz v s l h.1 (zmu l h.2)
theorem zmu:∀ l:List Tm,smTs l→∀ x∈l,SmTP x
 | [],_,x,hx=>by cases hx
 | y::l,h,x,hx=>by
   unfold smTs at h
   rcases yay.1 hx with e|hx
   ·rw [e]
    exact zqm y h.1
   ·exact zmu l h.2 x hx
end
theorem zqo (l:List Fo) (hl:l.length≤1000000) (h:∀ x∈l,SmFP x) (H:Heap):VDet Tryz.prog 141 [.sl none l.length (l.flatMap Fo.cells),.sl none l.length (l.flatMap Fo.cells)] H (.bool true):=by
 refine fdD Tryz.func141 ⟨rfl,rfl,rfl⟩ fun hcl hbl=>?_
 (repeat' ((conv=>whnf);(first|(refine yai ?_;first|refine yas ?_|refine yar (by omega) ?_|fail)|fail)));conv=>whnf
 refine zam Tryz.E0 zaf (σ:=Nat) (fun j=>j≤l.length) (fun j=>l.length-j) (fun j=>[(5,.v (.int .i64 j))]) (fun _=>_) _ 0 rfl hcl [0,1] rfl (yah _) ⟨⟨_,rfl,yae _⟩,trivial⟩ rfl (fun _ _=>rfl) ?_
 intro j hj
 rcases yag j l.length with hlt|hge
 ·have hx:=h _ (getD_memT l j fo0 hlt)
  obtain ⟨o,s,a,b,q1,-⟩:=znd (l.getD j fo0)
  unfold SmFP at hx
  rw [q1] at hx
  (repeat' ((conv=>whnf);(first|(refine yai ?_;first|refine yas ?_|refine yaq rfl ?_|refine yar (by omega) ?_|fail)|(refine zac _ _ Cst.h Cst.h ?_ ?_;· omega)|(refine yaf ?_ ?_;· first|kernel_rfl|omega|exact yaa _ _|fail)|refine yan _ (fun _ hq X=>hx _) ?_|refine SegN.nthE fo0 j rfl (by omega) zcl q1 ?_|refine zad [] ?_|fail)));conv=>whnf
  (refine ⟨⟨j+1,by show j+1≤_;omega,by omega,?_,.inl ⟨rfl,rfl⟩,rfl,_,rfl,?_⟩⟩;rotate_left 1;exact .inl rfl;exact ⟨⟨_,rfl,yae _⟩,trivial⟩)
 ·have hje:j=l.length:=by omega
  subst hje
  (repeat' ((conv=>whnf);(first|refine zah (by omega) ?_|fail)));conv=>whnf
  exact eT trivial
theorem zu0 (op:Nat) (s:ByteArray) (l:List Tm) (m:List Fo) (hl:l.length≤1000) (hlt:∀ x∈l,SmTP x) (hm:m.length≤1000) (h:∀ x∈m,SmFP x):SmFP (.mk op s l m):=by
 intro H
 have h1:=fun H=>zj3 l (by omega) hlt H
 have h2:=fun H=>zqo m (by omega) h H
 rw [zan]
 generalize l.flatMap Tm.cells=c at *
 generalize m.flatMap Fo.cells=d at *
 refine fdD Tryz.func102 ⟨rfl,rfl,rfl⟩ fun hcl hbl=>?_
 (repeat' ((conv=>whnf);(first|(refine yai ?_;first|refine yaq (beq_self_eq_true _) ?_|refine yaq rfl ?_|fail)|(refine ybk ?_;first|refine yab _ (h1 _) ?_|refine yab _ (h2 _) ?_|fail)|fail)));conv=>whnf
 exact eT trivial
mutual
theorem zqq:∀ x:Fo,smF x→SmFP x
 | .mk op s l m,h=>by
   unfold smF at h
   exact zu0 op s l m h.2.1.1 (zmu l h.2.1.2) h.2.2.1 (zs7 m h.2.2.2)
theorem zs7:∀ l:List Fo,smFs l→∀ x∈l,SmFP x
 | [],_,x,hx=>by cases hx
 | y::l,h,x,hx=>by
   unfold smFs at h
   rcases yay.1 hx with e|hx
   ·rw [e]
    exact zqq y h.1
   ·exact zs7 l h.2 x hx
end
theorem smT_mk0 (i:Nat):smT (mkTm i):=by
 unfold mkTm smT smTs
 exact ⟨yah _,trivial⟩
theorem smF_mk0 (i:Nat):smF (mkFo i):=by
 unfold mkFo smF smTs smFs
 exact ⟨yah _,⟨yah _,trivial⟩,⟨yah _,trivial⟩⟩
def KpTP (x:Tm):Prop:=∀ H,VDet Tryz.prog 142 [.agg (lnT x),.agg x.cells] H (.bool true)
def KpFP (x:Fo):Prop:=∀ H,VDet Tryz.prog 69 [.agg (lnF x),.agg x.cells] H (.bool true)
theorem zkq (l:List Tm) (hl:l.length≤1000000) (h:∀ x∈l,KpTP x) (H:Heap):VDet Tryz.prog 103 [.sk l.length (l.length+12) (lnTs l++mksT 12),.sl none l.length (l.flatMap Tm.cells)] H (.bool true):=by
 rw [zkj,show mksT 12=(List.range 12).flatMap (fun i=>(mkTm i).cells) from rfl,znf]
 have g1:=fun j h=>zyh (.inr 0) (tm0:Tm) l j h
 have g2:=fun i h=>zyg (.inr 0) l i h
 have gl:=zrk l
 have hsz:=zne (f:=lnT) (g:=(fun i=>(mkTm i).cells)) (zri) (fun i=>zcv _)
 have hl1:∀ x,lnA lnT (fun i=>(mkTm i).cells) (.inl x)=lnT x:=fun _=>rfl
 have hl2:∀ i,lnA lnT (fun i=>(mkTm i).cells) (.inr i)=(fun i=>(mkTm i).cells) i:=fun _=>rfl
 generalize lnAl l=A at *
 generalize lnA lnT (fun i=>(mkTm i).cells)=LF at *
 refine fdD Tryz.func103 ⟨rfl,rfl,rfl⟩ fun hcl hbl=>?_
 (repeat' ((conv=>whnf);(first|(refine OrN.r ?_;(conv=>whnf);refine yc7 (l.length+12) (by omega) ?_;(conv=>whnf);refine yaf (by omega) ?_)|(refine yai ?_;first|refine yas ?_|refine yar (by omega) ?_|fail)|refine yck (by omega) ?_|fail)));conv=>whnf
 refine zam Tryz.E0 zaf (σ:=Nat) (fun j=>j≤l.length+12) (fun j=>l.length+12-j) (fun j=>[(6,.v (.int .i64 j))]) (fun _=>_) _ 0 rfl hcl [1,5] rfl (yah _) ⟨⟨_,rfl,yae _⟩,trivial⟩ rfl (fun _ _=>rfl) ?_
 intro j hj
 rcases yag j (l.length+12) with hlt|hge
 ·rcases yag j l.length with h1|h1
  ·have e1:=g1 j h1
   have hx:=h _ (getD_memT l j tm0 h1)
   obtain ⟨v,s,a,q1,q2⟩:=zrh (l.getD j tm0)
   have qA:=(hl1 (l.getD j tm0)).trans q2
   unfold KpTP at hx
   rw [q1,q2] at hx
   rw [← e1] at qA
   (repeat' ((conv=>whnf);(first|(refine yai ?_;first|refine yas ?_|refine yaq rfl ?_|refine yar (by omega) ?_|refine zah (by omega) ?_|fail)|(refine zac _ _ Cst.h Cst.h ?_ ?_;· omega)|(refine yaf ?_ ?_;· first|kernel_rfl|omega|exact yaa _ _|fail)|refine yan _ (fun _ hq X=>hx _) ?_|refine SegN.nthE (.inr 0) j rfl (by omega) hsz qA ?_|refine SegN.nthE tm0 j rfl (by omega) zcv q1 ?_|refine zad [] ?_|fail)));conv=>whnf
   (refine ⟨⟨j+1,by show j+1≤_;omega,by omega,?_,.inl ⟨rfl,rfl⟩,rfl,_,rfl,?_⟩⟩;rotate_left 1;exact .inl rfl;exact ⟨⟨_,rfl,yae _⟩,trivial⟩)
  ·obtain ⟨i,rfl⟩:∃ i,j=l.length+i:=⟨j-l.length,by omega⟩
   have hi:i<12:=by omega
   have e1:=g2 i hi
   have hm:=fun H=>zl4 i hi H
   have hs:=zqm (mkTm i) (smT_mk0 i)
   have qA:=hl2 i
   simp only at qA
   unfold SmTP at hs
   rw [ze7] at hm hs qA
   rw [← e1] at qA
   generalize mkB i=sj at *
   (repeat' ((conv=>whnf);(first|(refine yai ?_;first|refine yas ?_|refine yaq rfl ?_|refine yar (by omega) ?_|refine zah (by omega) ?_|fail)|(refine yct ?_;first|refine zf1 (by omega) ?_|(refine zac _ _ Cst.h Cst.h ?_ ?_;· omega)|fail)|(refine yaf ?_ ?_;· first|kernel_rfl|omega|exact yaa _ _|fail)|(refine ycg ?_;first|refine yan _ (fun _ hq X=>hm _) ?_|refine yan _ (fun _ hq X=>hs _) ?_|fail)|refine SegN.nthE (.inr 0) (l.length+i) rfl (by omega) hsz qA ?_|refine zad [] ?_|fail)));conv=>whnf
   (refine ⟨⟨l.length+i+1,by show l.length+i+1≤_;omega,by omega,?_,.inl ⟨rfl,rfl⟩,rfl,_,rfl,?_⟩⟩;rotate_left 1;exact .inl rfl;exact ⟨⟨_,rfl,yae _⟩,trivial⟩)
 ·have hje:j=l.length+12:=by omega
  subst hje
  (repeat' ((conv=>whnf);(first|refine zah (by omega) ?_|fail)));conv=>whnf
  exact eT trivial
theorem zv7 (v:Bool) (s:ByteArray) (l:List Tm) (hl:l.length≤1000) (hs:smT (.mk v s l)) (h:∀ x∈l,KpTP x):KpTP (.mk v s l):=by
 intro H
 have h0:∀ H,VDet Tryz.prog 143 [.agg (lnT (.mk v s l)),.agg (Tm.mk v s l).cells] H (.bool true):=fun H=>zbs (zqm _ hs H) ⟨zbm (lnT_wk _),yae _,trivial⟩
 have h1:=fun H=>zkq l (by omega) h H
 rw [zay,zl9] at *
 generalize lnTs l++mksT 12=C at *
 generalize l.flatMap Tm.cells=c at *
 refine fdD Tryz.func142 ⟨rfl,rfl,rfl⟩ fun hcl hbl=>?_
 (repeat' ((conv=>whnf);(first|refine yaq rfl ?_|(refine ybk ?_;first|refine yab _ (h0 _) ?_|refine yab _ (h1 _) ?_|fail)|fail)));conv=>whnf
 exact eT trivial
mutual
theorem keptT_g:∀ x:Tm,smT x→KpTP x
 | .mk v s l,h=>by
   have h':=h
   unfold smT at h
   exact zv7 v s l h.1 h' (znh l h.2)
theorem znh:∀ l:List Tm,smTs l→∀ x∈l,KpTP x
 | [],_,x,hx=>by cases hx
 | y::l,h,x,hx=>by
   unfold smTs at h
   rcases yay.1 hx with e|hx
   ·rw [e]
    exact keptT_g y h.1
   ·exact znh l h.2 x hx
end
theorem zrt (l:List Fo) (hl:l.length≤1000000) (h:∀ x∈l,KpFP x) (H:Heap):VDet Tryz.prog 104 [.sk l.length (l.length+12) (lnFs l++mksF 12),.sl none l.length (l.flatMap Fo.cells)] H (.bool true):=by
 rw [zkl,show mksF 12=(List.range 12).flatMap (fun i=>(mkFo i).cells) from rfl,znf]
 have g1:=fun j h=>zyh (.inr 0) (fo0:Fo) l j h
 have g2:=fun i h=>zyg (.inr 0) l i h
 have gl:=zrk l
 have hsz:=zne (f:=lnF) (g:=(fun i=>(mkFo i).cells)) (zrj) (fun i=>zcl _)
 have hl1:∀ x,lnA lnF (fun i=>(mkFo i).cells) (.inl x)=lnF x:=fun _=>rfl
 have hl2:∀ i,lnA lnF (fun i=>(mkFo i).cells) (.inr i)=(fun i=>(mkFo i).cells) i:=fun _=>rfl
 generalize lnAl l=A at *
 generalize lnA lnF (fun i=>(mkFo i).cells)=LF at *
 refine fdD Tryz.func104 ⟨rfl,rfl,rfl⟩ fun hcl hbl=>?_
 (repeat' ((conv=>whnf);(first|(refine OrN.r ?_;(conv=>whnf);refine yc7 (l.length+12) (by omega) ?_;(conv=>whnf);refine yaf (by omega) ?_)|(refine yai ?_;first|refine yas ?_|refine yar (by omega) ?_|fail)|refine yck (by omega) ?_|fail)));conv=>whnf
 refine zam Tryz.E0 zaf (σ:=Nat) (fun j=>j≤l.length+12) (fun j=>l.length+12-j) (fun j=>[(6,.v (.int .i64 j))]) (fun _=>_) _ 0 rfl hcl [1,5] rfl (yah _) ⟨⟨_,rfl,yae _⟩,trivial⟩ rfl (fun _ _=>rfl) ?_
 intro j hj
 rcases yag j (l.length+12) with hlt|hge
 ·rcases yag j l.length with h1|h1
  ·have e1:=g1 j h1
   have hx:=h _ (getD_memT l j fo0 h1)
   obtain ⟨o,s,a,b,q1,q2⟩:=znd (l.getD j fo0)
   have qA:=(hl1 (l.getD j fo0)).trans q2
   unfold KpFP at hx
   rw [q1,q2] at hx
   rw [← e1] at qA
   (repeat' ((conv=>whnf);(first|(refine yai ?_;first|refine yas ?_|refine yaq rfl ?_|refine yar (by omega) ?_|refine zah (by omega) ?_|fail)|(refine zac _ _ Cst.h Cst.h ?_ ?_;· omega)|(refine yaf ?_ ?_;· first|kernel_rfl|omega|exact yaa _ _|fail)|refine yan _ (fun _ hq X=>hx _) ?_|refine SegN.nthE (.inr 0) j rfl (by omega) hsz qA ?_|refine SegN.nthE fo0 j rfl (by omega) zcl q1 ?_|refine zad [] ?_|fail)));conv=>whnf
   (refine ⟨⟨j+1,by show j+1≤_;omega,by omega,?_,.inl ⟨rfl,rfl⟩,rfl,_,rfl,?_⟩⟩;rotate_left 1;exact .inl rfl;exact ⟨⟨_,rfl,yae _⟩,trivial⟩)
  ·obtain ⟨i,rfl⟩:∃ i,j=l.length+i:=⟨j-l.length,by omega⟩
   have hi:i<12:=by omega
   have e1:=g2 i hi
   have hm:=fun H=>zl6 i hi H
   have hs:=zqq (mkFo i) (smF_mk0 i)
   have qA:=hl2 i
   simp only at qA
   unfold SmFP at hs
   rw [ze8] at hm hs qA
   rw [← e1] at qA
   generalize mkB i=sj at *
   (repeat' ((conv=>whnf);(first|(refine yai ?_;first|refine yas ?_|refine yaq rfl ?_|refine yar (by omega) ?_|refine zah (by omega) ?_|fail)|(refine yct ?_;first|refine zf1 (by omega) ?_|(refine zac _ _ Cst.h Cst.h ?_ ?_;· omega)|fail)|(refine yaf ?_ ?_;· first|kernel_rfl|omega|exact yaa _ _|fail)|(refine ycg ?_;first|refine yan _ (fun _ hq X=>hm _) ?_|refine yan _ (fun _ hq X=>hs _) ?_|fail)|refine SegN.nthE (.inr 0) (l.length+i) rfl (by omega) hsz qA ?_|refine zad [] ?_|fail)));conv=>whnf
   (refine ⟨⟨l.length+i+1,by show l.length+i+1≤_;omega,by omega,?_,.inl ⟨rfl,rfl⟩,rfl,_,rfl,?_⟩⟩;rotate_left 1;exact .inl rfl;exact ⟨⟨_,rfl,yae _⟩,trivial⟩)
 ·have hje:j=l.length+12:=by omega
  subst hje
  (repeat' ((conv=>whnf);(first|refine zah (by omega) ?_|fail)));conv=>whnf
  exact eT trivial
theorem zv9 (op:Nat) (s:ByteArray) (l:List Tm) (m:List Fo) (hs:smF (.mk op s l m)) (hl:l.length≤1000) (hlt:∀ x∈l,KpTP x) (hm:m.length≤1000) (h:∀ x∈m,KpFP x):KpFP (.mk op s l m):=by
 intro H
 have h0:∀ H,VDet Tryz.prog 102 [.agg (lnF (.mk op s l m)),.agg (Fo.mk op s l m).cells] H (.bool true):=fun H=>zbs (zqq _ hs H) ⟨zbm (zpa _),yae _,trivial⟩
 have h1:=fun H=>zkq l (by omega) hlt H
 have h2:=fun H=>zrt m (by omega) h H
 rw [zan,zma] at *
 generalize lnTs l++mksT 12=C at *
 generalize lnFs m++mksF 12=D at *
 generalize l.flatMap Tm.cells=c at *
 generalize m.flatMap Fo.cells=d at *
 refine fdD Tryz.func69 ⟨rfl,rfl,rfl⟩ fun hcl hbl=>?_
 (repeat' ((conv=>whnf);(first|refine yaq rfl ?_|(refine ybk ?_;first|refine yab _ (h0 _) ?_|refine yab _ (h1 _) ?_|refine yab _ (h2 _) ?_|fail)|fail)));conv=>whnf
 exact eT trivial
mutual
theorem zys:∀ x:Fo,smF x→KpFP x
 | .mk op s l m,h=>by
   have h':=h
   unfold smF at h
   exact zv9 op s l m h' h.2.1.1 (znh l h.2.1.2) h.2.2.1 (ztt m h.2.2.2)
theorem ztt:∀ l:List Fo,smFs l→∀ x∈l,KpFP x
 | [],_,x,hx=>by cases hx
 | y::l,h,x,hx=>by
   unfold smFs at h
   rcases yay.1 hx with e|hx
   ·rw [e]
    exact zys y h.1
   ·exact ztt l h.2 x hx
end
mutual
theorem smT_of:∀ x:Tm,szzT x≤1000→smT x
 | .mk v s l,h=>by
   have hl:=zii l
   unfold szzT at h
   unfold smT
   exact ⟨by omega,zqj l (by omega)⟩
theorem zqj:∀ l:List Tm,szzTs l≤1000→smTs l
 | [],_=>by unfold smTs;trivial
 | x::l,h=>by
   unfold szzTs at h
   unfold smTs
   exact ⟨smT_of x (by omega),zqj l (by omega)⟩
end
mutual
theorem smF_of:∀ x:Fo,x.good→szzF x≤1000→smF x
 | .mk op s l m,hg,h=>by
   have hl:=zii l
   have hm:=zm6 m
   unfold szzF at h
   unfold smF
   exact ⟨hg.1,⟨by omega,zqj l (by omega)⟩,by omega,zxi m hg.2.2.2.2.2 (by omega)⟩
theorem zxi:∀ l:List Fo,Fo.goodL l→szzFs l≤1000→smFs l
 | [],_,_=>by unfold smFs;trivial
 | x::l,hg,h=>by
   unfold szzFs at h
   unfold smFs
   exact ⟨smF_of x hg.1 (by omega),zxi l hg.2 (by omega)⟩
end
theorem jT_def (d:Nat) (v:Bool) (s:ByteArray) (l:List Tm) (L:Int):jT d (.mk v s l) L=if ¬ (1≤L∧d≤40) then (L-1,false) else if v then (L-1,decide (l.length=0)&&isVar s) else if l.length≤4∧isFun s=true then jTs (d+1) l (L-1) else (L-1,false):=by rw [jT.eq_def]
mutual
theorem jT_iff (d:Nat):∀ (x:Tm) (L:Int),0≤L→((jT d x L).2=true↔rT x=true∧(szzT x:Int)≤L∧d+dT x≤41)∧((jT d x L).2=true→(jT d x L).1=L-(szzT x:Int))
 | .mk v s l,L,h=>by
   have e1:rT (.mk v s l)=if v then decide (l.length=0)&&isVar s else rTs l&&(isFun s&&decide (l.length≤4)):=by rw [rT.eq_def]
   have e2:szzT (.mk v s l)=szzTs l+1:=by rw [szzT.eq_def]
   have e3:dT (.mk v s l)=dTs l+1:=by rw [dT.eq_def]
   rw [jT_def,e1,e2,e3]
   by_cases h1:1≤L∧d≤40
   ·rw [if_neg (not_not_intro h1)]
    cases v with
    | true =>
      rw [if_pos rfl,if_pos rfl]
      refine ⟨⟨fun h2=>⟨h2,?_⟩,fun h2=>h2.1⟩,fun h2=>?_⟩
      ·have h3:l.length=0:=of_decide_eq_true (ybl.1 h2).1
       have h4:l=[]:=ydm.1 h3
       subst h4
       unfold szzTs dTs
       omega
      ·have h3:l.length=0:=of_decide_eq_true (ybl.1 h2).1
       have h4:l=[]:=ydm.1 h3
       subst h4
       unfold szzTs
       show L-1=_
       omega
    | false =>
      simp only [ya9,if_false]
      have ih:=zrw (d+1) l (L-1) (by omega) (by omega)
      by_cases h2:l.length≤4∧isFun s=true
      ·rw [if_pos h2,h2.2,decide_eq_true h2.1]
       refine ⟨ih.1.trans ⟨fun h3=>⟨by rw [h3.1];rfl,by omega,by omega⟩,fun h3=>⟨(ybl.1 h3.1).1,by omega,by omega⟩⟩,fun h3=>?_⟩
       rw [ih.2 h3]
       omega
      ·rw [if_neg h2]
       refine ⟨⟨fun h3=>(by cases h3),fun h3=>?_⟩,fun h3=>(by cases h3)⟩
       have h4:=ybl.1 (ybl.1 h3.1).2
       exact absurd ⟨of_decide_eq_true h4.2,h4.1⟩ h2
   ·rw [if_pos h1]
    refine ⟨⟨fun h3=>(by cases h3),fun h3=>?_⟩,fun h3=>(by cases h3)⟩
    exact absurd ⟨by omega,by omega⟩ h1
theorem zrw (d:Nat):∀ (l:List Tm) (L:Int),0≤L→d≤41→((jTs d l L).2=true↔rTs l=true∧(szzTs l:Int)≤L∧d+dTs l≤41)∧((jTs d l L).2=true→(jTs d l L).1=L-(szzTs l:Int))
 | [],L,h,hd=>by
   unfold jTs rTs szzTs dTs
   refine ⟨⟨fun _=>⟨rfl,by omega,by omega⟩,fun _=>rfl⟩,fun _=>?_⟩
   show L=_
   omega
 | x::l,L,h,hd=>by
   have e1:rTs (x::l)=(rT x&&rTs l):=by rw [rTs.eq_def]
   have e2:szzTs (x::l)=szzT x+szzTs l:=by rw [szzTs.eq_def]
   have e3:dTs (x::l)=max (dT x) (dTs l):=by rw [dTs.eq_def]
   rw [ztu,e1,e2,e3]
   have h1:=jT_iff d x L h
   by_cases hj:(jT d x L).2=true
   ·have h2:=h1.1.1 hj
    have h3:=h1.2 hj
    rw [if_pos hj,h3,h2.1]
    have ih:=zrw d l (L-szzT x) (by omega) hd
    refine ⟨ih.1.trans ⟨fun h4=>⟨by rw [h4.1];rfl,by omega,by omega⟩,fun h4=>⟨(ybl.1 h4.1).2,by omega,by omega⟩⟩,fun h4=>?_⟩
    rw [ih.2 h4]
    omega
   ·rw [if_neg hj]
    refine ⟨⟨fun h3=>(by cases h3),fun h3=>?_⟩,fun h3=>(by cases h3)⟩
    exact absurd (h1.1.2 ⟨(ybl.1 h3.1).1,by omega,by omega⟩) hj
end
theorem jF_def (d:Nat) (op:Nat) (s:ByteArray) (l:List Tm) (m:List Fo) (L:Int):jF d (.mk op s l m) L=if ¬ (1≤L∧d≤40)∨17≤op then (L-1,false) else if rowK op=false then (L-1,false) else if ¬ (zg0 (rowN op) s=true∧l.length≤rowA op∧m.length=P10.rowS op) then (L-1,false) else if (jTs (d+1) l (L-1)).2 then jFs (d+1) m (jTs (d+1) l (L-1)).1 else ((jTs (d+1) l (L-1)).1,false):=by rw [jF.eq_def]
theorem rowB_iff (op:Nat) (s:ByteArray) (n k:Nat):rowB op s n k=true↔op<17∧rowK op=true∧zg0 (rowN op) s=true∧n≤rowA op∧k=P10.rowS op:=by
 unfold rowB
 simp only [yak,decide_eq_true_eq]
mutual
theorem jF_iff (d:Nat):∀ (x:Fo) (L:Int),0≤L→((jF d x L).2=true↔rfF x=true∧(szzF x:Int)≤L∧d+dpF x≤41)∧((jF d x L).2=true→(jF d x L).1=L-(szzF x:Int))
 | .mk op s l m,L,h=>by
   have e1:(rfF (.mk op s l m)=true)=(rowB op s l.length m.length=true∧rTs l=true∧rfFs m=true):=by rw [rfF.eq_def];simp only [yak]
   have e2:szzF (.mk op s l m)=1+szzTs l+szzFs m:=by rw [szzF.eq_def]
   have e3:dpF (.mk op s l m)=max (dTs l) (dpFs m)+1:=by rw [dpF.eq_def]
   rw [jF_def,e1,e2,e3,rowB_iff]
   by_cases h1:¬ (1≤L∧d≤40)∨17≤op
   ·rw [if_pos h1]
    refine ⟨⟨fun h3=>(by cases h3),fun h3=>?_⟩,fun h3=>(by cases h3)⟩
    exfalso
    have:=h3.1.1.1
    omega
   ·rw [if_neg h1]
    by_cases h2:rowK op=false
    ·rw [if_pos h2]
     refine ⟨⟨fun h3=>(by cases h3),fun h3=>?_⟩,fun h3=>(by cases h3)⟩
     have:=h3.1.1.2.1
     rw [h2] at this
     cases this
    ·rw [if_neg h2]
     by_cases h4:zg0 (rowN op) s=true∧l.length≤rowA op∧m.length=P10.rowS op
     ·rw [if_neg (not_not_intro h4)]
      have hr:op<17∧rowK op=true∧zg0 (rowN op) s=true∧l.length≤rowA op∧m.length=P10.rowS op:=⟨by omega,by simpa using h2,h4⟩
      have h5:=zrw (d+1) l (L-1) (by omega) (by omega)
      by_cases hj:(jTs (d+1) l (L-1)).2=true
      ·have h6:=h5.1.1 hj
       rw [if_pos hj,h5.2 hj]
       have ih:=zyu (d+1) m (L-1-szzTs l) (by omega) (by omega)
       refine ⟨ih.1.trans ⟨fun h7=>⟨⟨hr,h6.1,h7.1⟩,by omega,by omega⟩,fun h7=>⟨h7.1.2.2,by omega,by omega⟩⟩,fun h7=>?_⟩
       rw [ih.2 h7]
       omega
      ·rw [if_neg hj]
       refine ⟨⟨fun h3=>(by cases h3),fun h3=>?_⟩,fun h3=>(by cases h3)⟩
       exact absurd (h5.1.2 ⟨h3.1.2.1,by omega,by omega⟩) hj
     ·rw [if_pos h4]
      refine ⟨⟨fun h3=>(by cases h3),fun h3=>?_⟩,fun h3=>(by cases h3)⟩
      exact absurd h3.1.1.2.2 h4
theorem zyu (d:Nat):∀ (l:List Fo) (L:Int),0≤L→d≤41→((jFs d l L).2=true↔rfFs l=true∧(szzFs l:Int)≤L∧d+dpFs l≤41)∧((jFs d l L).2=true→(jFs d l L).1=L-(szzFs l:Int))
 | [],L,h,hd=>by
   unfold jFs rfFs szzFs dpFs
   refine ⟨⟨fun _=>⟨rfl,by omega,by omega⟩,fun _=>rfl⟩,fun _=>?_⟩
   show L=_
   omega
 | x::l,L,h,hd=>by
   have e1:rfFs (x::l)=(rfF x&&rfFs l):=by rw [rfFs.eq_def]
   have e2:szzFs (x::l)=szzF x+szzFs l:=by rw [szzFs.eq_def]
   have e3:dpFs (x::l)=max (dpF x) (dpFs l):=by rw [dpFs.eq_def]
   rw [zji,e1,e2,e3]
   have h1:=jF_iff d x L h
   by_cases hj:(jF d x L).2=true
   ·have h2:=h1.1.1 hj
    have h3:=h1.2 hj
    rw [if_pos hj,h3,h2.1]
    have ih:=zyu d l (L-szzF x) (by omega) hd
    refine ⟨ih.1.trans ⟨fun h4=>⟨by rw [h4.1];rfl,by omega,by omega⟩,fun h4=>⟨(ybl.1 h4.1).2,by omega,by omega⟩⟩,fun h4=>?_⟩
    rw [ih.2 h4]
    omega
   ·rw [if_neg hj]
    refine ⟨⟨fun h3=>(by cases h3),fun h3=>?_⟩,fun h3=>(by cases h3)⟩
    exact absurd (h1.1.2 ⟨(ybl.1 h3.1).1,by omega,by omega⟩) hj
end
theorem refR_eq (x:Fo):refR x=(jF 1 x 400).2:=by
 have h:=(jF_iff 1 x 400 (by omega)).1
 apply yb9.2
 rw [h]
 unfold refR
 simp only [yak,decide_eq_true_eq]
 refine ⟨fun h=>⟨h.1,by omega,by omega⟩,fun h=>⟨h.1,by omega,by omega⟩⟩
end
end Go.Proofs.YtjflngchbeegcaaGreatDoor.P10.C
namespace Go.Proofs.YtjflngchbeegcaaGreatDoor
open Go.Vsi
theorem zig (d lp x:Nat):(posN (lp+d) lp x=x∧x<lp+d)∨(posN (lp+d) lp x=lp+(x-lp) % d∧lp+d≤x):=by
 unfold posN
 split
 ·exact .inl ⟨rfl,by assumption⟩
 ·exact .inr ⟨by rw [ybo],by omega⟩
theorem zhs {n lp x:Nat} (h:x<n):posN n lp x=x:=if_pos h
theorem zm2 {n lp:Nat} (hn:n≤5) (hl:lp<n) (x u:Nat):posN n lp (posN n lp x+u)=posN n lp (x+u):=by
 obtain ⟨d,hd,rfl⟩:∃ d,1≤d∧n=lp+d:=⟨n-lp,by omega,by omega⟩
 have h1:=zig d lp x
 have h2:=zig d lp (x+u)
 have h3:=zig d lp (posN (lp+d) lp x+u)
 have:d=1∨d=2∨d=3∨d=4∨d=5:=by omega
 rcases this with rfl|rfl|rfl|rfl|rfl <;> omega
theorem bit1 (m p:Nat):(m >>> p) &&& 1=(m.testBit p).toNat:=by
 rw [Nat.and_one_is_mod,Nat.shiftRight_eq_div_pow,Nat.toNat_testBit]
theorem bitTo (b:Bool) (k i:Nat):(b.toNat <<< k).testBit i=(b&&decide (k=i)):=by
 cases b
 ·simp
 ·simp only [Bool.toNat_true,Nat.shiftLeft_eq,Nat.one_mul,Nat.testBit_two_pow,ya8]
theorem znx (n lp m i:Nat):∀ k,(befK n lp m k).testBit i=(decide (i<k)&&m.testBit (posN n lp (i+1)))
 | 0=>by simp [befK]
 | k+1=>by
   simp only [befK,Nat.testBit_or,znx n lp m i k,bit1,bitTo]
   rcases Nat.lt_trichotomy i k with h|h|h
   ·rw [decide_eq_true h,decide_eq_true (show i<k+1 by omega),decide_eq_false (show ¬ k=i by omega)]
    simp
   ·subst h
    rw [decide_eq_false (show ¬ i<i by omega),decide_eq_true (show i<i+1 by omega)]
    simp
   ·rw [decide_eq_false (show ¬ i<k by omega),decide_eq_false (show ¬ i<k+1 by omega),decide_eq_false (show ¬ k=i by omega)]
    simp
theorem zh3 (n i:Nat):(every n).testBit i=decide (i<n):=by
 unfold every
 rw [Nat.shiftLeft_eq,Nat.one_mul,Nat.testBit_two_pow_sub_one]
theorem zx6 (e a i:Nat):(nt e a).testBit i=(e.testBit i&&!a.testBit i):=by
 unfold nt
 rw [Nat.testBit_xor,Nat.testBit_and]
 cases e.testBit i <;> cases a.testBit i <;> rfl
def tm (n lp m x:Nat):Bool:=m.testBit (posN n lp x)
theorem zsu {n lp:Nat} (hn:n≤5) (hl:lp<n) (m x:Nat):tm n lp (befN n lp m) x=tm n lp m (x+1):=by
 unfold tm befN
 rw [znx,decide_eq_true (zdm hl),zm2 hn hl]
 rfl
theorem tm_every {n lp:Nat} (hl:lp<n) (x:Nat):tm n lp (every n) x=true:=by
 unfold tm
 rw [zh3,decide_eq_true (zdm hl)]
theorem zsv {n lp:Nat} (a b x:Nat):tm n lp (a &&& b) x=(tm n lp a x&&tm n lp b x):=Nat.testBit_and ..
theorem tm_or {n lp:Nat} (a b x:Nat):tm n lp (a ||| b) x=(tm n lp a x || tm n lp b x):=Nat.testBit_or ..
theorem tm_0 {n lp:Nat} (x:Nat):tm n lp 0 x=false:=Nat.zero_testBit _
theorem tm_itA {n lp:Nat} (hn:n≤5) (hl:lp<n) (a:Nat):∀ k x,tm n lp (itN (alF n lp a) k (every n)) x=true↔∀ j,j<k→tm n lp a (x+j)=true
 | 0,x=>by simp [itN,tm_every hl]
 | k+1,x=>by
   show tm n lp (a &&& befN n lp (itN (alF n lp a) k (every n))) x=true↔_
   rw [zsv,zsu hn hl,yak,tm_itA hn hl a k (x+1)]
   constructor
   ·rintro ⟨h1,h2⟩ j hj
    rcases j with _|j
    ·exact h1
    ·have:=h2 j (by omega)
     rwa [show x+1+j=x+(j+1) by omega] at this
   ·intro h
    refine ⟨h 0 (by omega),fun j hj=>?_⟩
    rw [show x+1+j=x+(j+1) by omega]
    exact h (j+1) (by omega)
theorem tm_itU {n lp:Nat} (hn:n≤5) (hl:lp<n) (a b:Nat):∀ k x,tm n lp (itN (unF n lp a b) k 0) x=true↔∃ j,j<k∧tm n lp b (x+j)=true∧∀ i,i<j→tm n lp a (x+i)=true
 | 0,x=>by simp [itN,tm_0]
 | k+1,x=>by
   show tm n lp (b ||| (a &&& befN n lp (itN (unF n lp a b) k 0))) x=true↔_
   rw [tm_or,zsv,zsu hn hl,Bool.or_eq_true,yak,tm_itU hn hl a b k (x+1)]
   constructor
   ·rintro (h|⟨h1,j,hj,h2,h3⟩)
    ·exact ⟨0,by omega,h,fun i hi=>absurd hi (Nat.not_lt_zero i)⟩
    ·refine ⟨j+1,by omega,by rw [show x+(j+1)=x+1+j by omega];exact h2,fun i hi=>?_⟩
     rcases i with _|i
     ·exact h1
     ·have:=h3 i (by omega)
      rwa [show x+1+i=x+(i+1) by omega] at this
   ·rintro ⟨j,hj,h2,h3⟩
    rcases j with _|j
    ·exact .inl h2
    ·refine .inr ⟨h3 0 (by omega),j,by omega,by rw [show x+1+j=x+(j+1) by omega];exact h2,fun i hi=>?_⟩
     have:=h3 (i+1) (by omega)
     rwa [show x+1+i=x+(i+1) by omega]
theorem tm_al {n lp:Nat} (hn:n≤5) (hl:lp<n) {a:Nat} (ha:a<2 ^ n) (x:Nat):tm n lp (alN n lp a) x=true↔∀ j,tm n lp a (x+j)=true:=by
 constructor
 ·have hf:=al_fix hn hl ha
  have hs:∀ y,tm n lp (alN n lp a) y=true→tm n lp a y=true∧tm n lp (alN n lp a) (y+1)=true:=fun y h=>by
   rw [← hf] at h
   unfold alF at h
   rwa [zsv,zsu hn hl,yak] at h
  have hall:∀ (h:tm n lp (alN n lp a) x=true) j,tm n lp (alN n lp a) (x+j)=true:=fun h j=>by
   induction j with
   | zero=>exact h
   | succ j ih=>exact (hs _ ih).2
  exact fun h j=>(hs _ (hall h j)).1
 ·intro h
  exact (tm_itA hn hl a 5 x).2 fun j _=>h j
theorem tm_un {n lp:Nat} (hn:n≤5) (hl:lp<n) {a b:Nat} (ha:a<2 ^ n) (hb:b<2 ^ n) (x:Nat):tm n lp (unN n lp a b) x=true↔∃ j,tm n lp b (x+j)=true∧∀ i,i<j→tm n lp a (x+i)=true:=by
 constructor
 ·intro h
  obtain ⟨j,_,h1,h2⟩:=(tm_itU hn hl a b 5 x).1 h
  exact ⟨j,h1,h2⟩
 ·have hf:=un_fix hn hl ha hb
  have hs:∀ y,(tm n lp b y=true∨tm n lp a y=true∧tm n lp (unN n lp a b) (y+1)=true)→tm n lp (unN n lp a b) y=true:=fun y h=>by
   rw [← hf]
   unfold unF
   rw [tm_or,zsv,zsu hn hl,Bool.or_eq_true,yak]
   exact h
  rintro ⟨j,h1,h2⟩
  induction j generalizing x with
  | zero=>exact hs x (.inl h1)
  | succ j ih =>
    refine hs x (.inr ⟨h2 0 (by omega),ih (x+1) ?_ fun i hi=>?_⟩)
    ·rwa [show x+1+j=x+(j+1) by omega]
    ·have:=h2 (i+1) (by omega)
     rwa [show x+1+i=x+(i+1) by omega]
end Go.Proofs.YtjflngchbeegcaaGreatDoor
namespace Go.Proofs.YtjflngchbeegcaaGreatDoor.P10.C
open Go.Vsi
theorem posN_red {n lp x j:Nat} (hl:lp<n) (h:n<j):posN n lp (x+(j-(n-lp)))=posN n lp (x+j):=by
 obtain ⟨d,hd,rfl⟩:∃ d,1≤d∧n=lp+d:=⟨n-lp,by omega,by omega⟩
 rw [show lp+d-lp=d by omega,show x+j=(x+(j-d))+d by omega]
 have hy:lp<x+(j-d):=by omega
 generalize x+(j-d)=y at *
 unfold posN
 rw [if_neg (show ¬ y+d<lp+d by omega),ybo,show y+d-lp=(y-lp)+d by omega,Nat.add_mod_right]
 split
 ·rw [Nat.mod_eq_of_lt (by omega)];omega
 ·rfl
theorem tm_red {n lp:Nat} (hl:lp<n) (m x:Nat):∀ j,∃ i,i≤j∧i≤n∧tm n lp m (x+i)=tm n lp m (x+j):=by
 intro j
 induction j using Nat.strongRecOn with
 | _ j ih =>
   rcases yag n j with h|h
   ·obtain ⟨i,h1,h2,h3⟩:=ih (j-(n-lp)) (by omega)
    exact ⟨i,by omega,h2,h3.trans (by unfold tm;rw [posN_red hl h])⟩
   ·exact ⟨j,yax _,h,rfl⟩
def allN (n lp a p k:Nat):Bool:=(List.range k).all fun i=>tm n lp a (p+i)
theorem zp0 (n lp a p k:Nat):allN n lp a p (k+1)=(allN n lp a p k&&tm n lp a (p+k)):=by
 unfold allN
 rw [List.range_succ,List.all_append]
 simp
theorem al_n {n lp a:Nat} (hn:n≤5) (hl:lp<n) (ha:a<2 ^ n) (p:Nat):tm n lp (alN n lp a) p=allN n lp a p (n+1):=by
 rw [yb9,tm_al hn hl ha]
 unfold allN
 rw [yao]
 constructor
 ·exact fun h i _=>h i
 ·intro h j
  obtain ⟨i,-,h2,h3⟩:=tm_red hl a p j
  rw [← h3]
  exact h i (ybs.2 (by omega))
def unO (n lp a b p:Nat):Nat→Bool
 | 0=>false
 | k+1=>unO n lp a b p k || (allN n lp a p k&&tm n lp b (p+k))
theorem zwu (n lp a b p:Nat):∀ k,unO n lp a b p k=true↔∃ j,j<k∧tm n lp b (p+j)=true∧∀ i,i<j→tm n lp a (p+i)=true
 | 0=>by simp [unO]
 | k+1=>by
   rw [unO,Bool.or_eq_true,yak,zwu n lp a b p k]
   unfold allN
   rw [yao]
   constructor
   ·rintro (⟨j,h1,h2,h3⟩|⟨h1,h2⟩)
    ·exact ⟨j,by omega,h2,h3⟩
    ·exact ⟨k,by omega,h2,fun i hi=>h1 i (ybs.2 hi)⟩
   ·rintro ⟨j,h1,h2,h3⟩
    rcases yag j k with h|h
    ·exact .inl ⟨j,h,h2,h3⟩
    ·obtain rfl:j=k:=by omega
     exact .inr ⟨fun i hi=>h3 i (ybs.1 hi),h2⟩
theorem un_n {n lp a b:Nat} (hn:n≤5) (hl:lp<n) (ha:a<2 ^ n) (hb:b<2 ^ n) (p:Nat):tm n lp (unN n lp a b) p=unO n lp a b p (n+1):=by
 rw [yb9,tm_un hn hl ha hb,zwu]
 constructor
 ·rintro ⟨j,h1,h2⟩
  obtain ⟨i,h3,h4,h5⟩:=tm_red hl b p j
  exact ⟨i,by omega,h5.trans h1,fun q hq=>h2 q (by omega)⟩
 ·rintro ⟨j,-,h1,h2⟩
  exact ⟨j,h1,h2⟩
theorem nxt_pos {n lp p:Nat} (hl:lp<n) (hp:p<n):posN n lp (p+1)=if p=n-1 then lp else p+1:=by
 unfold posN
 by_cases h:p=n-1
 ·rw [if_neg (by omega),if_pos h,show p+1-lp=n-lp by omega,Nat.mod_self,yb2]
 ·rw [if_pos (by omega),if_neg h]
def sumK (m:Nat):Nat→Nat
 | 0=>0
 | k+1=>sumK m k+if m.testBit k=true then 1 <<< k else 0
theorem zw4 (m:Nat):∀ k,sumK m k=m % 2 ^ k
 | 0=>by simp [sumK,Nat.mod_one]
 | k+1=>by
   rw [sumK,zw4 m k,Nat.shiftLeft_eq,Nat.one_mul]
   have h:m % 2 ^ (k+1)=m % 2 ^ k+2 ^ k * (m / 2 ^ k % 2):=by rw [Nat.pow_succ];exact Nat.mod_mul
   have h2:m.testBit k=decide (m / 2 ^ k % 2=1):=by
    rw [Nat.testBit_eq_decide_div_mod_eq]
   rw [h,h2]
   have h3:m / 2 ^ k % 2=0∨m / 2 ^ k % 2=1:=by omega
   rcases h3 with h3|h3 <;> rw [h3] <;> simp
section
attribute [local irreducible] VW VCall VO bits
def PlnP (x:Fo):Prop:=∀ H,VDet Tryz.prog 109 [.agg x.cells] H (.bool (tempF x))
theorem pln_step (op:Nat) (s:ByteArray) (l:List Tm) (m:List Fo) (hop:op≤255) (hll:l.length≤9223372036854775807) (hml:m.length≤9223372036854775807) (hm:∀ x∈m,PlnP x):PlnP (.mk op s l m):=by
 intro H
 rw [zan]
 unfold tempF
 rw [zgk]
 by_cases h:l.length=0∧(1≤op∧op≤7∨12≤op∧op≤14)
 ·rw [decide_eq_true h,ya8]
  obtain ⟨h3,h1⟩:=h
  refine fdD Tryz.func109 ⟨rfl,rfl,rfl⟩ fun hcl hbl=>?_
  (repeat' ((conv=>whnf);(first|(refine yai ?_;first|refine zah (by omega) ?_|refine za1 (fun _=>?_) (fun _=>?_)|fail)|fail)));all_goals (conv=>whnf)
  all_goals
   refine zam Tryz.E0 zaf (σ:=Nat) (fun j=>j≤m.length∧∀ i,i<j→tempF (m.getD i fo0)=true) (fun j=>m.length-j) (fun j=>[(3,.v (.int .i64 j))]) (fun _=>_) _ 0 rfl hcl [1] rfl ⟨yah _,fun i hi=>by omega⟩ ⟨⟨_,rfl,yae _⟩,trivial⟩ rfl (fun _ _=>rfl) ?_
   rintro j ⟨hj,hall⟩
   clear hbl
   by_cases hlt:j<m.length
   ·have hmem:=getD_memT m j fo0 hlt
    have hx:=hm _ hmem
    unfold PlnP at hx
    obtain ⟨w1,w2,w3,w4,w5,w6,hce,-⟩:=zer (m.getD j fo0)
    rw [hce] at hx
    cases hb:tempF (m.getD j fo0) with
    | true =>
      rw [hb] at hx
      (repeat' ((conv=>whnf);(first|(refine yai ?_;first|refine yas ?_|refine yaq rfl ?_|refine yar (by omega) ?_|fail)|(refine zac _ _ Cst.h Cst.h ?_ ?_;· omega)|(refine yaf ?_ ?_;· first|omega|exact yaa _ _|fail)|refine yab _ (hx _) ?_|refine SegN.nthE fo0 j rfl hlt zcl hce ?_|fail)));all_goals (conv=>whnf)
      (refine ⟨⟨j+1,⟨by omega,fun i hi=>by
       by_cases e:i=j
       ·rw [e];exact hb
       ·exact hall i (by omega)⟩,by omega,?_,.inl ⟨rfl,rfl⟩,rfl,_,rfl,?_⟩⟩;rotate_left 1;exact .inl rfl;exact ⟨⟨_,rfl,yae _⟩,trivial⟩)
    | false =>
      rw [hb] at hx
      (repeat' ((conv=>whnf);(first|(refine yai ?_;first|refine yas ?_|refine yau rfl ?_|refine yar (by omega) ?_|fail)|(refine yaf ?_ ?_;· first|omega|exact yaa _ _|fail)|refine yab _ (hx _) ?_|refine SegN.nthE fo0 j rfl hlt zcl hce ?_|fail)));all_goals (conv=>whnf)
      have:m.all tempF=false:=by
       apply ybh.2
       intro hA
       rw [yao.1 hA _ hmem] at hb
       cases hb
      rw [this]
      exact eT trivial
   ·have:m.all tempF=true:=by
     rw [yao]
     intro x hx
     obtain ⟨i,hi,rfl⟩:=ydj hx
     have:=hall i (by omega)
     rwa [show m.getD i fo0=m[i] by simp [ybp,hi]] at this
    rw [this]
    (repeat' ((conv=>whnf);(first|refine zah (by omega) ?_|fail)));all_goals (conv=>whnf)
    exact eT trivial
 ·rw [decide_eq_false h,ya0]
  generalize l.flatMap Tm.cells=lc at *
  generalize m.flatMap Fo.cells=mc at *
  generalize l.length=ln at *
  generalize m.length=mn at *
  refine fdD Tryz.func109 ⟨rfl,rfl,rfl⟩ fun hcl hbl=>?_
  (repeat' ((conv=>whnf);(first|(refine yai ?_;first|refine yar (by omega) ?_|refine za1 (fun _=>?_) (fun _=>?_)|fail)|fail)));all_goals (conv=>whnf)
  all_goals exact eT trivial
mutual
theorem pln_g:∀ x:Fo,x.good→PlnP x
 | .mk op s l m,h=>pln_step op s l m h.1 (zbq h.2.2.1) (zbq h.2.2.2.2.1) (plns_g m h.2.2.2.2.2)
theorem plns_g:∀ l:List Fo,Fo.goodL l→∀ x∈l,PlnP x
 | [],_,x,h=>by cases h
 | y::l,hg,x,h=>by
   rcases yay.1 h with e|h
   ·rw [e]
    exact pln_g y hg.1
   ·exact plns_g l hg.2 x h
end
theorem zxv (f:Fo) (hg:f.good) (hn:szzF f≤100000) (H:Heap):VDet Tryz.prog 73 [.agg f.cells] H (.bool (ze2 f)):=by
 have h1:=zu6 f hg hn
 have h2:=pln_g f hg
 unfold PlnP at h2
 rw [show ze2 f=(refR f&&tempF f) by unfold ze2 synR;rw [refR_eq]]
 obtain ⟨w1,w2,w3,w4,w5,w6,hce,-⟩:=zer f
 rw [hce] at h1 h2 ⊢
 generalize refR f=a at *
 generalize tempF f=b at *
 cases a with
 | true =>
   refine fdD Tryz.func73 ⟨rfl,rfl,rfl⟩ fun hcl hbl=>?_
   (repeat' ((conv=>whnf);(first|refine yaq rfl ?_|(refine ybk ?_;first|refine yab _ (h1 _) ?_|refine yab _ (h2 _) ?_|fail)|fail)));conv=>whnf
   exact eT trivial
 | false =>
   refine fdD Tryz.func73 ⟨rfl,rfl,rfl⟩ fun hcl hbl=>?_
   (repeat' ((conv=>whnf);(first|refine yau rfl ?_|refine yab _ (h1 _) ?_|fail)));conv=>whnf
   exact eT trivial
theorem ztk (t:Tr) (ht:t.Ok) (p:Nat) (hp:p<t.n) (H:Heap):VDet Tryz.prog 107 [.agg t.cells,.int .i64 (p:Nat)] H (.int .i64 (posN t.n t.lp (p+1):Nat)):=by
 rw [nxt_pos ht.lp hp]
 obtain ⟨n,lp,fs⟩:=t
 have h1:=ht.n1
 have h2:=ht.n5
 have h3:=ht.lp
 unfold Tr.cells
 simp only at h1 h2 h3 hp ⊢
 by_cases h:p=n-1
 ·rw [if_pos h]
  refine fdD Tryz.func107 ⟨rfl,rfl,rfl⟩ fun hcl hbl=>?_
  (repeat' ((conv=>whnf);(first|refine yar (by omega) ?_|(refine zb6 _ _ Cst.h Cst.h ?_ ?_;· omega)|fail)));conv=>whnf
  exact eT trivial
 ·rw [if_neg h]
  refine fdD Tryz.func107 ⟨rfl,rfl,rfl⟩ fun hcl hbl=>?_
  (repeat' ((conv=>whnf);(first|refine zah (by omega) ?_|(refine yct ?_;first|(refine zac _ _ Cst.h Cst.h ?_ ?_;· omega)|(refine zb6 _ _ Cst.h Cst.h ?_ ?_;· omega)|fail)|fail)));conv=>whnf
  exact eT trivial
def HasP (t:Tr) (f:Tf):Prop:=∀ H,VDet Tryz.prog 105 [.agg t.cells,.agg f.cells] H (.bool (!miss t f))
theorem has_at (t:Tr) (ht:t.Ok) (c:ByteArray):HasP t (.at c):=by
 intro H
 have hl:=ht.len
 obtain ⟨n,lp,fs⟩:=t
 unfold Tr.cells Tf.cells
 simp only [Tf.op,Tf.nmB,Tf.sn,Tf.sc,miss] at hl ⊢
 refine fdD Tryz.func105 ⟨rfl,rfl,rfl⟩ fun hcl hbl=>?_
 (repeat' ((conv=>whnf);(first|refine yaq rfl ?_|fail)));conv=>whnf
 refine zam Tryz.E0 zaf (σ:=Nat) (fun k=>k≤fs.length∧fnd c fs=fnd c (fs.drop k)) (fun k=>fs.length-k) (fun k=>[(5,.v (.int .i64 k))]) (fun _=>_) _ 0 rfl hcl [2,3] rfl ⟨yah _,rfl⟩ ⟨⟨_,rfl,yae _⟩,trivial⟩ rfl (fun _ _=>rfl) ?_
 rintro k ⟨hk,hf⟩
 clear hbl
 rcases yag k fs.length with hlt|hge
 ·obtain ⟨s,m,e2⟩:∃ s m,fs.getD k p0=(s,m):=⟨_,_,rfl⟩
  have qc:encT (fs.getD k p0)=[.str s,.int .i64 0,.int .i64 m]:=by rw [e2];rfl
  rw [zk1 fs k p0 hlt,e2] at hf
  simp only [fnd] at hf
  by_cases hc:c=s
  ·rw [decide_eq_true hc] at hf
   simp only at hf
   rw [hf]
   (repeat' ((conv=>whnf);(first|(refine yai ?_;first|refine yaq (by rw [zi5];exact decide_eq_true hc.symm) ?_|refine yar (by omega) ?_|fail)|(refine yaf ?_ ?_;· first|kernel_rfl|omega|exact yaa _ _|fail)|refine SegN.nthE p0 k rfl hlt zbb qc ?_|refine zad [] ?_|fail)));conv=>whnf
   exact eT trivial
  ·rw [decide_eq_false hc] at hf
   simp only at hf
   (repeat' ((conv=>whnf);(first|(refine yai ?_;first|refine yau (by rw [zi5];exact decide_eq_false (ycu hc)) ?_|refine yar (by omega) ?_|fail)|(refine zac _ _ Cst.h Cst.h ?_ ?_;· omega)|(refine yaf ?_ ?_;· first|kernel_rfl|omega|exact yaa _ _|fail)|refine SegN.nthE p0 k rfl hlt zbb qc ?_|refine zad [] ?_|fail)));conv=>whnf
   (refine ⟨⟨k+1,⟨by omega,hf⟩,by omega,?_,.inl ⟨rfl,rfl⟩,rfl,_,rfl,?_⟩⟩;rotate_left 1;exact .inl rfl;exact ⟨⟨_,rfl,yae _⟩,trivial⟩)
 ·obtain rfl:k=fs.length:=by omega
  rw [ybm] at hf
  rw [hf]
  (repeat' ((conv=>whnf);(first|refine zah (by omega) ?_|fail)));conv=>whnf
  exact eT trivial
theorem has_fa (t:Tr) (ht:t.Ok):HasP t .fa:=by
 intro H
 unfold Tr.cells Tf.cells
 simp only [Tf.op,Tf.nmB,Tf.sn,Tf.sc,miss]
 refine fdD Tryz.func105 ⟨rfl,rfl,rfl⟩ fun hcl hbl=>?_
 (repeat' ((conv=>whnf);(first|refine yau rfl ?_|fail)));conv=>whnf
 refine ybd Tryz.E0 zaf 1 rfl ?_
 (repeat' ((conv=>whnf);(first|refine yau rfl ?_|fail)));conv=>whnf
 exact eT trivial
theorem has_f1 (t:Tr) (k:Nat) (hk:k≠1) (hk2:k≤255) (a:Tf) (ih:HasP t a):HasP t (.f1 k a):=by
 intro H
 unfold HasP at ih
 rw [show (Tf.f1 k a).cells=[.int .u8 (k:Nat),.str .empty,.sl none 0 [],.sl none 1 [.int .u8 a.op,.str a.nmB,.sl none 0 [],.sl none a.sn a.sc]] from rfl,show miss t (.f1 k a)=miss t a from rfl]
 unfold Tr.cells Tf.cells at *
 generalize a.op=ao at ih ⊢
 generalize a.nmB=an at ih ⊢
 generalize a.sn=asn at ih ⊢
 generalize a.sc=asc at ih ⊢
 generalize miss t a=b at ih ⊢
 cases b
 all_goals
  refine fdD Tryz.func105 ⟨rfl,rfl,rfl⟩ fun hcl hbl=>?_
  (repeat' ((conv=>whnf);(first|refine yau (beq_eq_false_iff_ne.2 (by omega)) ?_|fail)));all_goals (conv=>whnf)
  refine ybd Tryz.E0 zaf 2 rfl ?_
  (repeat' ((conv=>whnf);(first|(refine yai ?_;first|refine yas ?_|refine yaq rfl ?_|refine yau rfl ?_|fail)|(refine zac _ _ Cst.h Cst.h ?_ ?_;· omega)|(refine yaf ?_ ?_;· first|kernel_rfl|omega|exact yaa _ _|fail)|refine yan _ (fun _ hq X=>ih _) ?_|refine ydf _ (zb3 rfl) ?_|refine zad [] ?_|fail)));all_goals (conv=>whnf)
  exact eT trivial
theorem has_f2 (t:Tr) (k:Nat) (hk:k≠1) (hk2:k≤255) (a b:Tf) (iha:HasP t a) (ihb:HasP t b):HasP t (.f2 k a b):=by
 intro H
 unfold HasP at iha ihb
 rw [show (Tf.f2 k a b).cells=[.int .u8 (k:Nat),.str .empty,.sl none 0 [],.sl none 2 [.int .u8 a.op,.str a.nmB,.sl none 0 [],.sl none a.sn a.sc,.int .u8 b.op,.str b.nmB,.sl none 0 [],.sl none b.sn b.sc]] from rfl,show miss t (.f2 k a b)=(miss t a || miss t b) from rfl]
 unfold Tr.cells Tf.cells at *
 generalize a.op=ao at iha ⊢
 generalize a.nmB=an at iha ⊢
 generalize a.sn=asn at iha ⊢
 generalize a.sc=asc at iha ⊢
 generalize miss t a=x at iha ⊢
 generalize b.op=bo at ihb ⊢
 generalize b.nmB=bn at ihb ⊢
 generalize b.sn=bsn at ihb ⊢
 generalize b.sc=bsc at ihb ⊢
 generalize miss t b=y at ihb ⊢
 cases x <;> cases y
 all_goals
  refine fdD Tryz.func105 ⟨rfl,rfl,rfl⟩ fun hcl hbl=>?_
  (repeat' ((conv=>whnf);(first|refine yau (beq_eq_false_iff_ne.2 (by omega)) ?_|fail)));all_goals (conv=>whnf)
  refine ybd Tryz.E0 zaf 3 rfl ?_
  (repeat' ((conv=>whnf);(first|(refine yai ?_;first|refine yas ?_|refine yaq rfl ?_|refine yau rfl ?_|fail)|(refine zac _ _ Cst.h Cst.h ?_ ?_;· omega)|(refine yaf ?_ ?_;· first|kernel_rfl|omega|exact yaa _ _|fail)|(refine ycg ?_;first|refine yan _ (fun _ hq X=>iha _) ?_|refine yan _ (fun _ hq X=>ihb _) ?_|fail)|refine ydf _ (zb3 rfl) ?_|refine zad [] ?_|fail)));all_goals (conv=>whnf)
  exact eT trivial
theorem has_c (t:Tr) (ht:t.Ok):∀ f:Tf,f.Temp→HasP t f
 | .at c,_=>has_at t ht c
 | .fa,_=>has_fa t ht
 | .f1 k a,h=>by
   have:=h.1
   exact has_f1 t k (by omega) (by omega) a (has_c t ht a h.2)
 | .f2 k a b,h=>by
   have:=h.1
   unfold is2 at this
   exact has_f2 t k (by omega) (by omega) a b (has_c t ht a h.2.1) (has_c t ht b h.2.2)
end
end Go.Proofs.YtjflngchbeegcaaGreatDoor.P10.C
