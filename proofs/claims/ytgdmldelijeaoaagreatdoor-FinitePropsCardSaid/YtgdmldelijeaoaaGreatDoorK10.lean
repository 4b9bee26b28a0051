/- A text of the proof: the parts AK41, LA41, LB41, YS41, LC41, LD41, AL41, AM41, AN41, AO41, AP41, AQ41, AR41. -/
import Derived.Shelf.SlSortCmp.NoneTotal
import Derived.Shelf.SlSortCmp.WholeK
import Derived.Test.YtgdmldelijeaoaaGreatDoorK9
set_option linter.unusedSimpArgs false
set_option linter.unusedVariables false
set_option maxHeartbeats 8000000
namespace Go.Proofs.YtgdmldelijeaoaaGreatDoor
open Go.Vsi
section
attribute [local irreducible] VW VCall VO bits
theorem insG_in {ks:List ByteArray} {c:ByteArray} (h:c∈ks):insG ks c=ks:=by
 unfold insG
 rw [if_pos ((memG_iff c ks).2 h)]
theorem dec_c (op:Nat) (s:ByteArray) (n1:Nat) (c1:List AV) (n2:Nat) (c2:List AV) (bs:List ByteArray) (c:ByteArray→Int) (hnd:bs.Nodup) (hs:s∈bs) (hc:-1000000≤c s∧c s≤1000000) (H:Heap) (p1 p2 i:Nat) (h1:H[p1]? = some (.box 166 [.mp i])) (h2:H[p2]? = some (.box 29 [.int .u8 op,.str s,.sl none n1 c1,.sl none n2 c2])) (hi:H[i]? = some (bdG bs c)):VDfr Tryz.prog 207 [.ptr p1 0,.ptr p2 0] H (H.set i (bdG bs (updC c s (c s-1)))):=by
 obtain ⟨f1,f2⟩:=mfindG s bs
 obtain ⟨jx,e1,e2,e3⟩:=f1 hs
 have e4:=bdG_val c bs jx s e2
 have hput:=putC c s (c s-1) bs hnd
 rw [insG_in hs] at hput
 unfold bdG at hi
 refine dfr_region Tryz.E0 Tryz.func207 rfl rfl (Nat.le_of_ble_eq_true rfl) rfl fun hcl hbl=>?_
 (repeat' ((conv=>whnf);(first|refine EqN.i64 (by omega) ?_|refine SetN.mk _ rfl ?_|refine RelN.mk [_] [] ⟨⟨_,rfl⟩,jx,e3,e4⟩ ?_|refine RelN.mk _ _ ⟨⟨_,rfl⟩,hput⟩ ?_|refine PtrN.base _ (by (repeat' (first|assumption|exact zau _ rfl|exact zar rfl|refine zaw (B':=?_) ?_|refine zan ?_|fail))) ?_|refine DrawN.mk' [] ?_|fail)));all_goals (conv=>whnf)
 exact List.append_nil _
mutual
def bkF (bs:List ByteArray):Fo→List ByteArray
 | .mk op s _ m=>bkFs (if isQ op then insG bs s else bs) m
def bkFs (bs:List ByteArray):List Fo→List ByteArray
 | []=>bs
 | x::l=>bkFs (bkF bs x) l
end
mutual
def frF (c:ByteArray→Int) (ns:List ByteArray):Fo→List ByteArray
 | .mk op s l m=>frFs (if isQ op then updC c s (c s+1) else c) (frTs c ns l) m
def frFs (c:ByteArray→Int) (ns:List ByteArray):List Fo→List ByteArray
 | []=>ns
 | x::l=>frFs c (frF c ns x) l
end
mutual
def qdF:Fo→Nat
 | .mk op _ _ m=>(if isQ op then 1 else 0)+qdFs m
def qdFs:List Fo→Nat
 | []=>0
 | x::l=>max (qdF x) (qdFs l)
end
theorem bkFs_cons (bs:List ByteArray) (x:Fo) (l:List Fo):bkFs bs (x::l)=bkFs (bkF bs x) l:=by rw [bkFs.eq_def]
theorem bkFs_nil (bs:List ByteArray):bkFs bs []=bs:=by rw [bkFs.eq_def]
theorem bkF_mk (bs:List ByteArray) (op:Nat) (s:ByteArray) (l:List Tm) (m:List Fo):bkF bs (.mk op s l m)=bkFs (if isQ op then insG bs s else bs) m:=by rw [bkF.eq_def]
theorem frFs_cons (c:ByteArray→Int) (ns:List ByteArray) (x:Fo) (l:List Fo):frFs c ns (x::l)=frFs c (frF c ns x) l:=by rw [frFs.eq_def]
theorem frFs_nil (c:ByteArray→Int) (ns:List ByteArray):frFs c ns []=ns:=by rw [frFs.eq_def]
theorem frF_mk (c:ByteArray→Int) (ns:List ByteArray) (op:Nat) (s:ByteArray) (l:List Tm) (m:List Fo):frF c ns (.mk op s l m)=frFs (if isQ op then updC c s (c s+1) else c) (frTs c ns l) m:=by rw [frF.eq_def]
theorem qdF_mk (op:Nat) (s:ByteArray) (l:List Tm) (m:List Fo):qdF (.mk op s l m)=(if isQ op then 1 else 0)+qdFs m:=by rw [qdF.eq_def]
theorem qdFs_cons (x:Fo) (l:List Fo):qdFs (x::l)=max (qdF x) (qdFs l):=by rw [qdFs.eq_def]
theorem qdFs_le:∀ (l:List Fo) (x:Fo),x∈l→qdF x≤qdFs l
 | y::l,x,h=>by
   rw [qdFs_cons]
   rcases List.mem_cons.1 h with rfl|h
   ·omega
   ·have:=qdFs_le l x h
    omega
mutual
theorem bkF_sub:∀ (x:Fo) (bs:List ByteArray),bs.Nodup→(bkF bs x).Nodup∧∀ s∈bs,s∈bkF bs x
 | .mk op s l m,bs,h=>by
   rw [bkF_mk]
   have h1:(if isQ op then insG bs s else bs).Nodup∧∀ t∈bs,t∈(if isQ op then insG bs s else bs):=by
    split
    ·exact ⟨nd_insG bs s h,fun t ht=>(mem_insG bs t s).2 (.inl ht)⟩
    ·exact ⟨h,fun t ht=>ht⟩
   obtain ⟨h2,h3⟩:=bkFs_sub m _ h1.1
   exact ⟨h2,fun t ht=>h3 t (h1.2 t ht)⟩
theorem bkFs_sub:∀ (l:List Fo) (bs:List ByteArray),bs.Nodup→(bkFs bs l).Nodup∧∀ s∈bs,s∈bkFs bs l
 | [],bs,h=>by rw [bkFs_nil];exact ⟨h,fun s hs=>hs⟩
 | x::l,bs,h=>by
   rw [bkFs_cons]
   obtain ⟨h1,h2⟩:=bkF_sub x bs h
   obtain ⟨h3,h4⟩:=bkFs_sub l _ h1
   exact ⟨h3,fun s hs=>h4 s (h2 s hs)⟩
end
theorem updC_back (c:ByteArray→Int) (s:ByteArray):updC (updC c s (c s+1)) s (updC c s (c s+1) s-1)=c:=by
 funext y
 unfold updC
 by_cases h:y=s
 ·rw [if_pos h,if_pos rfl,h]
  omega
 ·rw [if_neg h,if_neg h]
theorem set2_ne {H:Heap} {i j:Nat} (hij:i≠j) {X Y:Blk} (hi:H[i]? = some Y):((H.set j X).set i Y)=H.set j X:=set_self (by rw [List.getElem?_set_ne (Ne.symm hij),hi])
theorem low2 {H:Heap} {i j:Nat} {X Y:Blk} (hX:X.below H.length) (hY:Y.below H.length):∀ (k:Nat) B,((H.set j X).set i Y)[k]? = some B→H[k]? = some B∨B.below H.length:=by
 intro k B h
 rw [List.getElem?_set] at h
 split at h
 ·split at h
  ·cases h
   exact .inr hY
  ·cases h
 ·rw [List.getElem?_set] at h
  split at h
  ·split at h
   ·cases h
    exact .inr hX
   ·cases h
  ·exact .inl h
theorem closed2 {H:Heap} (h:Closed H) (i j:Nat) {X Y:Blk} (hX:X.below H.length) (hY:Y.below H.length):Closed ((H.set j X).set i Y):=closed_set (closed_set h j X hX) i Y (by simpa using hY)
def FfP (x:Fo):Prop:=∀ (H:Heap) (i j:Nat) (bs:List ByteArray) (c:ByteArray→Int) (ns:List ByteArray),i≠j→bs.Nodup→(∀ s,s ∉ bs→c s=0)→(∀ s,0≤c s∧c s+qdF x≤1000000)→H[i]? = some (bdG bs c)→H[j]? = some (mpG ns)→VCall Tryz.prog 147 [.agg x.cells,.mp i,.mp j] H (fun r H'=>r=.tup []∧H'=(H.set j (mpG (frF c ns x))).set i (bdG (bkF bs x) c))
theorem ff_step (op:Nat) (s:ByteArray) (l:List Tm) (m:List Fo) (hop:op≤255) (hll:l.length≤9223372036854775807) (hml:m.length≤9223372036854775807) (iht:∀ x∈l,FrTP x) (ihf:∀ x∈m,FfP x):FfP (.mk op s l m):=by
 intro H i j bs c ns hij hnd hcz hcb hi hj
 have hqc:=fun H=>quant_c op hop s l.length (l.flatMap Tm.cells) m.length (m.flatMap Fo.cells) H
 rw [Fo.cells_mk,bkF_mk,frF_mk]
 rw [qdF_mk] at hcb
 have hib:∀ B,(H.set j B)[i]? = some (bdG bs c):=fun B=>by rw [List.getElem?_set_ne (Ne.symm hij),hi]
 have hi0:=hi
 have hj0:=hj
 have hjm:∀ X Y,((H.set j X).set i Y)[j]? = some X:=fun X Y=>by rw [List.getElem?_set_ne hij,zaw hj]
 have him:∀ X Y,((H.set j X).set i Y)[i]? = some Y:=fun X Y=>zaw (hib X)
 have hlen2:∀ X Y,((H.set j X).set i Y).length=H.length:=fun X Y=>by simp
 have hss:∀ X Y X' Y' (Z:Heap),(((H.set j X).set i Y++Z).set j X').set i Y'=(H.set j X').set i Y'++Z:=fun X Y X' Y' Z=>by
  have hil:i<H.length:=(List.getElem?_eq_some_iff.1 hi).1
  have hjl:j<H.length:=(List.getElem?_eq_some_iff.1 hj).1
  rw [List.set_append_left _ _ (by simpa using hjl),List.set_append_left _ _ (by simpa using hil)]
  congr 1
  apply List.ext_getElem?
  intro k
  simp only [List.getElem?_set,List.length_set]
  by_cases h1:i=k
  ·simp [h1]
  ·by_cases h2:j=k
   ·simp [h1,h2]
   ·simp [h1,h2]
 have hil:∀ n,i<H.length+n:=fun n=>by
  have hil:i<H.length:=(List.getElem?_eq_some_iff.1 hi).1
  omega
 cases hQ:isQ op
 ·rw [hQ] at hqc hcb
  simp only [Bool.false_eq_true,if_false,Nat.zero_add] at hcb ⊢
  refine za8 Tryz.E0 Tryz.mx Tryz.func147 (by kernel_rfl) rfl (Nat.le_of_ble_eq_true rfl) rfl fun hcl hbl=>?_
  (repeat' ((conv=>whnf);(first|refine DrawN.mk' [] ?_|fail)));all_goals (conv=>whnf)
  refine loop_B Tryz.E0 Tryz.mx (σ:=Nat×List ByteArray) (fun p=>p.1≤l.length∧frTs c ns l=frTs c p.2 (l.drop p.1)) (fun p=>l.length-p.1) (fun p=>[(13,.v (.int .i64 p.1))]) (fun p=>H.set j (mpG p.2)) (fun _=>_) _ (0,ns) (fun p _=>by simp) (fun p _=>closed_set hcl j _ (mpG_below _ _)) [2,3,4,11,12] rfl ⟨Nat.zero_le _,rfl⟩ ⟨⟨_,rfl,Wk.refl _⟩,trivial⟩ (set_self hj0).symm rfl (fun _ _=>rfl) ?_
  rintro ⟨k,N⟩ ⟨hk,hq⟩
  simp only at hk hq
  have hNl:(H.set j (mpG N)).length=H.length:=by simp
  by_cases hlt:k<l.length
  ·have hmem:=zas l k tm0 hlt
   rw [za7 l k tm0 hlt,frTs_cons] at hq
   have hx:=fun X=>iht _ hmem (H.set j (mpG N)++X) i j bs c N hij hcz (zan (hib _)) (zan (zaw hj0))
   obtain ⟨w1,w2,w3,w4,hw,hwb⟩:=tm_ex4 (l.getD k tm0)
   rw [hw] at hx
   generalize hr2:frT c N (l.getD k tm0)=N' at *
   generalize hB2:mpG N'=B2 at *
   (repeat' ((conv=>whnf);(first|refine IfN.dT (by omega) ?_|(refine EqN.addN _ _ Cst.h Cst.h ?_ ?_;· omega)|(refine SideN.mk ?_ ?_;· first|kernel_rfl|omega|exact List.cons_ne_nil _ _|(simp;done)|(simp;omega)|exact trivial|assumption|fail)|refine SegN.nthE tm0 k rfl hlt tm_size hw ?_|refine CallN.setB j _ _ _ _ (zaw hj0) (by simp) rfl (hx _) (List.set_set ..) ?_|refine DrawN.mk' [] ?_|fail)));all_goals (conv=>whnf)
   subst hB2
   (refine ⟨⟨(k+1,N'),⟨by simp only;omega,hq⟩,by omega,?_,.inl ⟨rfl,rfl⟩,rfl,_,rfl,?_⟩⟩;rotate_left 1;(first|exact .inl rfl|exact .inr ⟨by simp [zal,below,zaa,tr,zag,zaf,zah,zad,zai,zaj,zac,zae,hil],by simp [zap,Blk.below,zaa,below,zag,zaf,zah,zad,zai,zaj,zac,zae,hil]⟩|fail);(repeat' (first|exact trivial|refine ⟨⟨_,rfl,?_⟩,?_⟩|fail));all_goals try (first|exact Wk.refl _|exact Wk.of_eq (congrArg (AV.int _) (by omega))|fail))
  ·have hke:k=l.length:=by omega
   subst hke
   rw [List.drop_length,frTs_nil] at hq
   subst hq
   (repeat' ((conv=>whnf);(first|(refine IfN.id ?_;first|refine IfN.ff rfl ?_|refine IfN.dF (by omega) ?_|fail)|refine CallN.det _ (hqc _) ?_|refine DrawN.mk' [] ?_|fail)));all_goals (conv=>whnf)
   refine loop_B Tryz.E0 Tryz.mx (σ:=Nat×List ByteArray×List ByteArray) (fun p=>p.1≤m.length∧p.2.1.Nodup∧(∀ y,y ∉ p.2.1→(c) y=0)∧(∀ t∈(bs),t∈p.2.1)∧bkFs (bs) m=bkFs p.2.1 (m.drop p.1)∧frFs (c) (frTs c ns l) m=frFs (c) p.2.2 (m.drop p.1)) (fun p=>m.length-p.1) (fun p=>[(33,.v (.int .i64 p.1))]) (fun p=>(H.set j (mpG p.2.2)).set i (bdG p.2.1 (c))) (fun _=>_) _ (0,bs,frTs c ns l) (fun p _=>by simp) (fun p _=>closed2 hcl i j (mpG_below _ _) (bdG_below _ _ _)) [2,4,31,32] rfl ⟨Nat.zero_le _,hnd,hcz,fun t ht=>ht,rfl,rfl⟩ ⟨⟨_,rfl,Wk.refl _⟩,trivial⟩ (set2_ne hij hi0).symm rfl (fun _ _=>rfl) ?_
   rintro ⟨k,N,M⟩ ⟨hk,hNd,hNz,hNs,hqb,hqf⟩
   simp only at hk hNd hNz hNs hqb hqf
   have hNl:=hlen2 (mpG M) (bdG N (c))
   by_cases hlt:k<m.length
   ·have hmem:=zas m k fo0 hlt
    rw [za7 m k fo0 hlt] at hqb hqf
    rw [bkFs_cons] at hqb
    rw [frFs_cons] at hqf
    have hqd:=qdFs_le m _ hmem
    have hx:=fun X=>ihf _ hmem ((H.set j (mpG M)).set i (bdG N (c))++X) i j N (c) M hij hNd hNz (fun s=>⟨(hcb s).1,by have:=(hcb s).2;omega⟩) (zan (him _ _)) (zan (hjm _ _))
    obtain ⟨hb1,hb2⟩:=bkF_sub (m.getD k fo0) N hNd
    obtain ⟨w1,w2,w3,w4,w5,w6,hw,hwb⟩:=fo_ex4 (m.getD k fo0)
    rw [hw] at hx
    generalize bkF N (m.getD k fo0)=N' at *
    generalize frF (c) M (m.getD k fo0)=M' at *
    simp only [hss] at hx
    (repeat' ((conv=>whnf);(first|refine IfN.dT (by omega) ?_|(refine EqN.addN _ _ Cst.h Cst.h ?_ ?_;· omega)|(refine SideN.mk ?_ ?_;· first|kernel_rfl|omega|exact List.cons_ne_nil _ _|(simp;done)|(simp;omega)|exact trivial|assumption|fail)|refine SegN.nthE fo0 k rfl hlt fo_size hw ?_|refine CallN.fix _ _ _ _ (hx _) (hlen2 _ _) rfl ?_|refine DrawN.mk' [] ?_|fail)));all_goals (conv=>whnf)
    (refine ⟨⟨(k+1,N',M'),⟨by simp only;omega,hb1,fun s hs=>hNz s (fun h=>hs (hb2 s h)),fun t ht=>hb2 t (hNs t ht),hqb,hqf⟩,by omega,?_,.inl ⟨rfl,rfl⟩,rfl,_,rfl,?_⟩⟩;rotate_left 1;(first|exact .inl rfl|exact .inr ⟨by simp [zal,below,zaa,tr,zag,zaf,zah,zad,zai,zaj,zac,zae,hil],by simp [zap,Blk.below,zaa,below,zag,zaf,zah,zad,zai,zaj,zac,zae,hil]⟩|fail);(repeat' (first|exact trivial|refine ⟨⟨_,rfl,?_⟩,?_⟩|fail));all_goals try (first|exact Wk.refl _|exact Wk.of_eq (congrArg (AV.int _) (by omega))|fail))
   ·have hke:k=m.length:=by omega
    subst hke
    rw [List.drop_length,bkFs_nil] at hqb
    rw [List.drop_length,frFs_nil] at hqf
    (repeat' ((conv=>whnf);(first|refine IfN.dF (by omega) ?_|refine DrawN.mk' [] ?_|fail)));all_goals (conv=>whnf)
    refine .cut (hlen2 _ _) (low2 (mpG_below _ _) (bdG_below _ _ _)) ⟨_,.tup [],Frz.refl _,Wk.refl _,trivial,rfl,?_⟩
    rw [hqb,hqf]
 ·rw [hQ] at hqc hcb
  simp only [if_true] at hcb ⊢
  have hput:=putC c s (c s+1) bs hnd
  obtain ⟨f1,f2⟩:=mfindG s bs
  have hcs:=hcb s
  have hcz2:∀ t,t ∉ insG bs s→updC c s (c s+1) t=0:=fun t ht=>by
   have h1:t≠s:=fun e=>ht ((mem_insG bs t s).2 (.inr e))
   unfold updC
   rw [if_neg h1]
   exact hcz t fun h=>ht ((mem_insG bs t s).2 (.inl h))
  have hcb2a:∀ t,0≤updC c s (c s+1) t∧updC c s (c s+1) t+qdFs m≤1000000:=fun t=>by
   have h1:=hcb t
   unfold updC
   split
   ·omega
   ·omega
  refine fn_defer Tryz.E0 Tryz.mx (G:=207) (fg:=Tryz.f207) (q:=23) (t:=29) (cs:=[.tmp 4,.tmp 3]) Tryz.func147 (by kernel_rfl) rfl rfl Tryz.func207 (ne_of_beq_false (by kernel_rfl)) (Option.isSome_iff_ne_none.1 (by kernel_rfl)) rfl rfl rfl rfl rfl rfl rfl (Nat.le_of_ble_eq_true rfl) rfl fun hcl hbl=>?_
  (repeat' ((conv=>whnf);(first|refine DrawN.mk' [] ?_|fail)));all_goals (conv=>whnf)
  refine loop_B Tryz.E0 Tryz.mx (σ:=Nat×List ByteArray) (fun p=>p.1≤l.length∧frTs c ns l=frTs c p.2 (l.drop p.1)) (fun p=>l.length-p.1) (fun p=>[(13,.v (.int .i64 p.1))]) (fun p=>H.set j (mpG p.2)) (fun _=>_) _ (0,ns) (fun p _=>by simp) (fun p _=>closed_set hcl j _ (mpG_below _ _)) [2,3,4,11,12] rfl ⟨Nat.zero_le _,rfl⟩ ⟨⟨_,rfl,Wk.refl _⟩,trivial⟩ (set_self hj0).symm rfl (fun _ _=>rfl) ?_
  rintro ⟨k,N⟩ ⟨hk,hq⟩
  simp only at hk hq
  have hNl:(H.set j (mpG N)).length=H.length:=by simp
  by_cases hlt:k<l.length
  ·have hmem:=zas l k tm0 hlt
   rw [za7 l k tm0 hlt,frTs_cons] at hq
   have hx:=fun X=>iht _ hmem (H.set j (mpG N)++X) i j bs c N hij hcz (zan (hib _)) (zan (zaw hj0))
   obtain ⟨w1,w2,w3,w4,hw,hwb⟩:=tm_ex4 (l.getD k tm0)
   rw [hw] at hx
   generalize hr2:frT c N (l.getD k tm0)=N' at *
   generalize hB2:mpG N'=B2 at *
   (repeat' ((conv=>whnf);(first|refine IfN.dT (by omega) ?_|(refine EqN.addN _ _ Cst.h Cst.h ?_ ?_;· omega)|(refine SideN.mk ?_ ?_;· first|kernel_rfl|omega|exact List.cons_ne_nil _ _|(simp;done)|(simp;omega)|exact trivial|assumption|fail)|refine SegN.nthE tm0 k rfl hlt tm_size hw ?_|refine CallN.setB j _ _ _ _ (zaw hj0) (by simp) rfl (hx _) (List.set_set ..) ?_|refine DrawN.mk' [] ?_|fail)));all_goals (conv=>whnf)
   subst hB2
   (refine ⟨⟨(k+1,N'),⟨by simp only;omega,hq⟩,by omega,?_,.inl ⟨rfl,rfl⟩,rfl,_,rfl,?_⟩⟩;rotate_left 1;(first|exact .inl rfl|exact .inr ⟨by simp [zal,below,zaa,tr,zag,zaf,zah,zad,zai,zaj,zac,zae,hil],by simp [zap,Blk.below,zaa,below,zag,zaf,zah,zad,zai,zaj,zac,zae,hil]⟩|fail);(repeat' (first|exact trivial|refine ⟨⟨_,rfl,?_⟩,?_⟩|fail));all_goals try (first|exact Wk.refl _|exact Wk.of_eq (congrArg (AV.int _) (by omega))|fail))
  ·have hke:k=l.length:=by omega
   subst hke
   rw [List.drop_length,frTs_nil] at hq
   subst hq
   (repeat' ((conv=>whnf);(first|refine IfN.dF (by omega) ?_|refine CallN.det _ (hqc _) ?_|refine DrawN.mk' [] ?_|fail)));all_goals (conv=>whnf)
   refine ⟨rfl,?_⟩
   by_cases hm:s∈bs
   ·obtain ⟨jx,e1,e2,e3⟩:=f1 hm
    have e4:=bdG_val c bs jx s e2
    have hib:=hib (mpG (frTs c ns l))
    unfold bdG at hib
    (repeat' ((conv=>whnf);(first|refine EqN.i64 (by omega) ?_|refine SetN.mk _ rfl ?_|refine RelN.mk [_] [] ⟨⟨_,rfl⟩,jx,e3,e4⟩ ?_|refine RelN.mk _ _ ⟨⟨_,rfl⟩,hput⟩ ?_|refine PtrN.base _ (by (repeat' (first|assumption|exact zau _ rfl|exact zar rfl|refine zaw (B':=?_) ?_|refine zan ?_|fail))) ?_|refine DrawN.mk' [] ?_|fail)));all_goals (conv=>whnf)
    refine ⟨[.ptr (H.length+1) 0,.ptr (H.length+0) 0],rfl,?_⟩
    (repeat' ((conv=>whnf);(first|refine DrawN.mk' [] ?_|fail)));all_goals (conv=>whnf)
    refine loop_B Tryz.E0 Tryz.mx (σ:=Nat×List ByteArray×List ByteArray) (fun p=>p.1≤m.length∧p.2.1.Nodup∧(∀ y,y ∉ p.2.1→(updC c s (c s+1)) y=0)∧(∀ t∈(insG bs s),t∈p.2.1)∧bkFs (insG bs s) m=bkFs p.2.1 (m.drop p.1)∧frFs (updC c s (c s+1)) (frTs c ns l) m=frFs (updC c s (c s+1)) p.2.2 (m.drop p.1)) (fun p=>m.length-p.1) (fun p=>[(33,.v (.int .i64 p.1))]) (fun p=>(H.set j (mpG p.2.2)).set i (bdG p.2.1 (updC c s (c s+1)))) (fun _=>_) _ (0,insG bs s,frTs c ns l) (fun p _=>by simp) (fun p _=>closed2 hcl i j (mpG_below _ _) (bdG_below _ _ _)) [2,4,31,32] rfl ⟨Nat.zero_le _,nd_insG bs s hnd,hcz2,fun t ht=>ht,rfl,rfl⟩ ⟨⟨_,rfl,Wk.refl _⟩,trivial⟩ rfl rfl (fun _ _=>rfl) ?_
    rintro ⟨k,N,M⟩ ⟨hk,hNd,hNz,hNs,hqb,hqf⟩
    simp only at hk hNd hNz hNs hqb hqf
    have hNl:=hlen2 (mpG M) (bdG N (updC c s (c s+1)))
    by_cases hlt:k<m.length
    ·have hmem:=zas m k fo0 hlt
     rw [za7 m k fo0 hlt] at hqb hqf
     rw [bkFs_cons] at hqb
     rw [frFs_cons] at hqf
     have hqd:=qdFs_le m _ hmem
     have hx:=fun X=>ihf _ hmem ((H.set j (mpG M)).set i (bdG N (updC c s (c s+1)))++X) i j N (updC c s (c s+1)) M hij hNd hNz (fun t=>⟨(hcb2a t).1,by have:=(hcb2a t).2;omega⟩) (zan (him _ _)) (zan (hjm _ _))
     obtain ⟨hb1,hb2⟩:=bkF_sub (m.getD k fo0) N hNd
     obtain ⟨w1,w2,w3,w4,w5,w6,hw,hwb⟩:=fo_ex4 (m.getD k fo0)
     rw [hw] at hx
     generalize bkF N (m.getD k fo0)=N' at *
     generalize frF (updC c s (c s+1)) M (m.getD k fo0)=M' at *
     simp only [hss] at hx
     (repeat' ((conv=>whnf);(first|refine IfN.dT (by omega) ?_|(refine EqN.addN _ _ Cst.h Cst.h ?_ ?_;· omega)|(refine SideN.mk ?_ ?_;· first|kernel_rfl|omega|exact List.cons_ne_nil _ _|(simp;done)|(simp;omega)|exact trivial|assumption|fail)|refine SegN.nthE fo0 k rfl hlt fo_size hw ?_|refine CallN.fix _ _ _ _ (hx _) (hlen2 _ _) rfl ?_|refine DrawN.mk' [] ?_|fail)));all_goals (conv=>whnf)
     (refine ⟨⟨(k+1,N',M'),⟨by simp only;omega,hb1,fun s hs=>hNz s (fun h=>hs (hb2 s h)),fun t ht=>hb2 t (hNs t ht),hqb,hqf⟩,by omega,?_,.inl ⟨rfl,rfl⟩,rfl,_,rfl,?_⟩⟩;rotate_left 1;(first|exact .inl rfl|exact .inr ⟨by simp [zal,below,zaa,tr,zag,zaf,zah,zad,zai,zaj,zac,zae,hil],by simp [zap,Blk.below,zaa,below,zag,zaf,zah,zad,zai,zaj,zac,zae,hil]⟩|fail);(repeat' (first|exact trivial|refine ⟨⟨_,rfl,?_⟩,?_⟩|fail));all_goals try (first|exact Wk.refl _|exact Wk.of_eq (congrArg (AV.int _) (by omega))|fail))
    ·have hke:k=m.length:=by omega
     subst hke
     rw [List.drop_length,bkFs_nil] at hqb
     rw [List.drop_length,frFs_nil] at hqf
     (repeat' ((conv=>whnf);(first|refine IfN.dF (by omega) ?_|refine DrawN.mk' [] ?_|fail)));all_goals (conv=>whnf)
     have hsN:s∈N:=hNs s ((mem_insG bs s s).2 (.inr rfl))
     have hcs:updC c s (c s+1) s=c s+1:=if_pos rfl
     have hbs:=hcb s
     have hp1:((H.set j (mpG M)).set i (bdG N (updC c s (c s+1)))++[.box 29 [.int .u8 op,.str s,.sl none l.length (l.flatMap Tm.cells),.sl none m.length (m.flatMap Fo.cells)],.box 166 [.mp i]])[H.length+1]? = some (.box 166 [.mp i]):=by
      rw [← hlen2 (mpG M) (bdG N (updC c s (c s+1)))]
      exact zar rfl
     have hp0:((H.set j (mpG M)).set i (bdG N (updC c s (c s+1)))++[.box 29 [.int .u8 op,.str s,.sl none l.length (l.flatMap Tm.cells),.sl none m.length (m.flatMap Fo.cells)],.box 166 [.mp i]])[H.length+0]? = some (.box 29 [.int .u8 op,.str s,.sl none l.length (l.flatMap Tm.cells),.sl none m.length (m.flatMap Fo.cells)]):=by
      rw [← hlen2 (mpG M) (bdG N (updC c s (c s+1)))]
      exact zar rfl
     have hdc:=dec_c op s l.length (l.flatMap Tm.cells) m.length (m.flatMap Fo.cells) N (updC c s (c s+1)) hNd hsN (by rw [hcs];omega) _ (H.length+1) (H.length+0) i hp1 hp0 (zan (him _ _))
     rw [updC_back,List.set_append_left _ _ (by rw [hlen2];exact hil 0),List.set_set] at hdc
     exact ⟨⟨_,_,hdc,hlen2 _ _,low2 (mpG_below _ _) (bdG_below _ _ _),rfl,by rw [hqb,hqf]⟩⟩
   ·have hz:=hcz s hm
    have hput0:MPut (eqV Tryz.kn Tryz.T 20 9) (bs.map fun c=>.str c) (bs.map fun b=>.int .i64 (c b)) (.str s) (.int .i64 (0+1)) ((insG bs s).map fun c=>.str c) ((insG bs s).map fun b=>.int .i64 (updC c s (c s+1) b)):=by
     rw [show (0:Int)+1=c s+1 by rw [hz]]
     exact hput
    have hib:=hib (mpG (frTs c ns l))
    unfold bdG at hib
    (repeat' ((conv=>whnf);(first|(refine EqN.addN _ _ Cst.h Cst.h ?_ ?_;· omega)|refine SetN.mk _ rfl ?_|refine RelN.mk [] [] ⟨⟨_,rfl⟩,f2 hm⟩ ?_|refine RelN.mk _ _ ⟨⟨_,rfl⟩,hput0⟩ ?_|refine PtrN.base _ (by (repeat' (first|assumption|exact zau _ rfl|exact zar rfl|refine zaw (B':=?_) ?_|refine zan ?_|fail))) ?_|refine DrawN.mk' [] ?_|fail)));all_goals (conv=>whnf)
    refine ⟨[.ptr (H.length+1) 0,.ptr (H.length+0) 0],rfl,?_⟩
    (repeat' ((conv=>whnf);(first|refine DrawN.mk' [] ?_|fail)));all_goals (conv=>whnf)
    refine loop_B Tryz.E0 Tryz.mx (σ:=Nat×List ByteArray×List ByteArray) (fun p=>p.1≤m.length∧p.2.1.Nodup∧(∀ y,y ∉ p.2.1→(updC c s (c s+1)) y=0)∧(∀ t∈(insG bs s),t∈p.2.1)∧bkFs (insG bs s) m=bkFs p.2.1 (m.drop p.1)∧frFs (updC c s (c s+1)) (frTs c ns l) m=frFs (updC c s (c s+1)) p.2.2 (m.drop p.1)) (fun p=>m.length-p.1) (fun p=>[(33,.v (.int .i64 p.1))]) (fun p=>(H.set j (mpG p.2.2)).set i (bdG p.2.1 (updC c s (c s+1)))) (fun _=>_) _ (0,insG bs s,frTs c ns l) (fun p _=>by simp) (fun p _=>closed2 hcl i j (mpG_below _ _) (bdG_below _ _ _)) [2,4,31,32] rfl ⟨Nat.zero_le _,nd_insG bs s hnd,hcz2,fun t ht=>ht,rfl,rfl⟩ ⟨⟨_,rfl,Wk.refl _⟩,trivial⟩ rfl rfl (fun _ _=>rfl) ?_
    rintro ⟨k,N,M⟩ ⟨hk,hNd,hNz,hNs,hqb,hqf⟩
    simp only at hk hNd hNz hNs hqb hqf
    have hNl:=hlen2 (mpG M) (bdG N (updC c s (c s+1)))
    by_cases hlt:k<m.length
    ·have hmem:=zas m k fo0 hlt
     rw [za7 m k fo0 hlt] at hqb hqf
     rw [bkFs_cons] at hqb
     rw [frFs_cons] at hqf
     have hqd:=qdFs_le m _ hmem
     have hx:=fun X=>ihf _ hmem ((H.set j (mpG M)).set i (bdG N (updC c s (c s+1)))++X) i j N (updC c s (c s+1)) M hij hNd hNz (fun t=>⟨(hcb2a t).1,by have:=(hcb2a t).2;omega⟩) (zan (him _ _)) (zan (hjm _ _))
     obtain ⟨hb1,hb2⟩:=bkF_sub (m.getD k fo0) N hNd
     obtain ⟨w1,w2,w3,w4,w5,w6,hw,hwb⟩:=fo_ex4 (m.getD k fo0)
     rw [hw] at hx
     generalize bkF N (m.getD k fo0)=N' at *
     generalize frF (updC c s (c s+1)) M (m.getD k fo0)=M' at *
     simp only [hss] at hx
     (repeat' ((conv=>whnf);(first|refine IfN.dT (by omega) ?_|(refine EqN.addN _ _ Cst.h Cst.h ?_ ?_;· omega)|(refine SideN.mk ?_ ?_;· first|kernel_rfl|omega|exact List.cons_ne_nil _ _|(simp;done)|(simp;omega)|exact trivial|assumption|fail)|refine SegN.nthE fo0 k rfl hlt fo_size hw ?_|refine CallN.fix _ _ _ _ (hx _) (hlen2 _ _) rfl ?_|refine DrawN.mk' [] ?_|fail)));all_goals (conv=>whnf)
     (refine ⟨⟨(k+1,N',M'),⟨by simp only;omega,hb1,fun s hs=>hNz s (fun h=>hs (hb2 s h)),fun t ht=>hb2 t (hNs t ht),hqb,hqf⟩,by omega,?_,.inl ⟨rfl,rfl⟩,rfl,_,rfl,?_⟩⟩;rotate_left 1;(first|exact .inl rfl|exact .inr ⟨by simp [zal,below,zaa,tr,zag,zaf,zah,zad,zai,zaj,zac,zae,hil],by simp [zap,Blk.below,zaa,below,zag,zaf,zah,zad,zai,zaj,zac,zae,hil]⟩|fail);(repeat' (first|exact trivial|refine ⟨⟨_,rfl,?_⟩,?_⟩|fail));all_goals try (first|exact Wk.refl _|exact Wk.of_eq (congrArg (AV.int _) (by omega))|fail))
    ·have hke:k=m.length:=by omega
     subst hke
     rw [List.drop_length,bkFs_nil] at hqb
     rw [List.drop_length,frFs_nil] at hqf
     (repeat' ((conv=>whnf);(first|refine IfN.dF (by omega) ?_|refine DrawN.mk' [] ?_|fail)));all_goals (conv=>whnf)
     have hsN:s∈N:=hNs s ((mem_insG bs s s).2 (.inr rfl))
     have hcs:updC c s (c s+1) s=c s+1:=if_pos rfl
     have hbs:=hcb s
     have hp1:((H.set j (mpG M)).set i (bdG N (updC c s (c s+1)))++[.box 29 [.int .u8 op,.str s,.sl none l.length (l.flatMap Tm.cells),.sl none m.length (m.flatMap Fo.cells)],.box 166 [.mp i]])[H.length+1]? = some (.box 166 [.mp i]):=by
      rw [← hlen2 (mpG M) (bdG N (updC c s (c s+1)))]
      exact zar rfl
     have hp0:((H.set j (mpG M)).set i (bdG N (updC c s (c s+1)))++[.box 29 [.int .u8 op,.str s,.sl none l.length (l.flatMap Tm.cells),.sl none m.length (m.flatMap Fo.cells)],.box 166 [.mp i]])[H.length+0]? = some (.box 29 [.int .u8 op,.str s,.sl none l.length (l.flatMap Tm.cells),.sl none m.length (m.flatMap Fo.cells)]):=by
      rw [← hlen2 (mpG M) (bdG N (updC c s (c s+1)))]
      exact zar rfl
     have hdc:=dec_c op s l.length (l.flatMap Tm.cells) m.length (m.flatMap Fo.cells) N (updC c s (c s+1)) hNd hsN (by rw [hcs];omega) _ (H.length+1) (H.length+0) i hp1 hp0 (zan (him _ _))
     rw [updC_back,List.set_append_left _ _ (by rw [hlen2];exact hil 0),List.set_set] at hdc
     exact ⟨⟨_,_,hdc,hlen2 _ _,low2 (mpG_below _ _) (bdG_below _ _ _),rfl,by rw [hqb,hqf]⟩⟩
mutual
theorem ff_c:∀ x:Fo,x.good→FfP x
 | .mk op s l m,h=>ff_step op s l m h.1 (zbd h.2.2.1) (zbd h.2.2.2.2.1) (frts_all l h.2.2.2.1) (ffs_all m h.2.2.2.2.2)
theorem ffs_all:∀ l:List Fo,Fo.goodL l→∀ x∈l,FfP x
 | [],_,x,hx=>by cases hx
 | y::l,h,x,hx=>by
   rcases List.mem_cons.1 hx with e|hx
   ·rw [e]
    exact ff_c y h.1
   ·exact ffs_all l h.2 x hx
end
end
section
open Go.Shelf Go.RowKit Go.Sort Go.Lib
theorem clo149_k (x y:ByteArray×Nat) (W:World):Calls Tryz.prog 149 #[.agg #[.string x.1,.int .i64 (x.2:Nat)],.agg #[.string y.1,.int .i64 (y.2:Nat)]] W fun e w'=>e=.returned (.int .i64 (cSym x y))∧∃ q os',w'=grow (W.drewN q) os':=by
 have hs:=cmp31_k x.1 y.1
 have hi:=cmp62_k (x.2:Nat) (y.2:Nat)
 unfold cSym andC
 generalize cmpB x.1 y.1=c at *
 generalize cmpI (x.2:Nat) (y.2:Nat)=d at *
 by_cases h0:c=0
 ·rw [if_pos h0]
  go_enter Tryz.func149,Tryz.ntmps149
  go_wp2_with (first|(go_at_call 151;refine (hs _).mono ?_;rintro e w' ⟨rfl,rfl⟩)|(go_at_call 210;refine (hi _).mono ?_;rintro e w' ⟨rfl,rfl⟩))
  all_goals (try simp [h0])
  all_goals go_ret
  all_goals exact ⟨rfl,0,_,by rw [alloc_eq_grow,alloc_eq_grow,grow_grow];rfl⟩
 ·rw [if_neg h0]
  go_enter Tryz.func149,Tryz.ntmps149
  go_wp2_with (first|(go_at_call 151;refine (hs _).mono ?_;rintro e w' ⟨rfl,rfl⟩)|(go_at_call 210;refine (hi _).mono ?_;rintro e w' ⟨rfl,rfl⟩))
  all_goals (try simp [h0])
  all_goals go_ret
  all_goals exact ⟨rfl,0,_,by rw [alloc_eq_grow,alloc_eq_grow,grow_grow];rfl⟩
theorem clo149_lays (blk off size:Nat) (w:World):CmpLays Tryz.prog 149 #[] symV 2 cSym blk off size w :=
 fun _ _ _ _ x y=>clo149_k x y _
theorem sort149_c (H:Heap) (i:Nat) (l:List Sym) (hl:l.length≤1000000000000) (hi:H[i]? = some (.vec 92 2 (l.flatMap symC))) :
  VCall Tryz.prog 239 [.vs i l.length,.clo (.func 149) [] []] H (fun r H'=>r=.tup []∧H'=H.set i (.vec 92 2 ((sortY l).flatMap symC))):=by
 refine ⟨⟨_,Tryz.func239,by kernel_rfl,rfl⟩,fun g w xs hH hL=>?_⟩
 simp only [LRel,VRel,fnG] at hL
 obtain ⟨c,r,has,⟨hok,hle,A,cap,rfl,hncap,hcur⟩,c2,r2,rfl,⟨-,f',c',rfl,hf',hc'⟩,rfl⟩:=hL
 have hf':f'=#[]:=by simpa using congrArg List.toArray hf'
 have hc':c'=#[]:=by simpa using congrArg List.toArray hc'
 have has:xs=#[.slice A l.length cap,.func (.func 149) f' c']:=by simpa using congrArg List.toArray has
 subst has hf' hc'
 have hat:Vsi.At (Hp.of H) i (.vec 92 2 (l.flatMap symC)):=by
  show (Hp.of H).all[i]? = _
  simpa [Hp.all,Hp.of] using hi
 obtain ⟨b1,b2,b3⟩:=hH.rel i _ hat
 obtain ⟨hA,hcap⟩:=hcur (by rw [b1,b2,symC_len])
 have hput:Put (Hp.of H) i (.vec 92 2 ((sortY l).flatMap symC)) (Hp.of (H.set i (.vec 92 2 ((sortY l).flatMap symC)))):=⟨by simp [Hp.all,Hp.of],by simp [Hp.of],rfl,rfl⟩
 rcases b3 with ⟨-,hl0,-⟩|⟨b,cs,hbase,hheap,hsize,hcm,hlen,hrel,hown⟩
 ·have hz:l=[]:=by
   have:=symC_len l
   rw [hl0] at this
   exact List.eq_nil_of_length_eq_zero (by simp at this;omega)
  subst hz
  have hc:=AnyF.slices_SortFunc_none Tryz.sortf87 A cap (.func (.func 149) #[] #[]) w
  change Calls Tryz.prog 239 _ _ _ at hc
  refine hc.mono ?_
  rintro e w' ⟨rfl,rfl⟩
  have hset:H.set i (.vec 92 2 ((sortY []).flatMap symC))=H:=by
   apply List.ext_getElem?
   intro j
   rw [List.getElem?_set]
   by_cases hij:i=j
   ·subst hij
    have:=(List.getElem?_eq_some_iff.1 hi).1
    have hs0:sortY []=[]:=by unfold sortY;simp
    simp only [if_true,this]
    rw [hi,hs0]
   ·rw [if_neg hij]
  exact ⟨_,_,g,_,rfl,⟨rfl,rfl⟩,by rw [hset];exact hH,by simp [VRel,LRel],Ext.refl _ _⟩
 ·rw [hbase] at hA
  simp only [Option.map_some] at hA
  subst hA
  have hpre:=sym_of hrel
  have hlen2:(l.flatMap symC).length=l.length * 2:=symC_len l
  have hH2:HoldsK symV 2 w b 0 l.toArray:=by
   unfold HoldsK
   rw [flatK_eq]
   intro j hj
   have hj2:j<l.length * 2:=by
    have:=symV_len l
    simp only [List.size_toArray] at hj
    omega
   have hjc:j<cs.size:=by omega
   have hg:cs[j]? = some ((l.flatMap symV).toArray[j]!):=by
    have h1:(cs.toList.take (l.flatMap symC).length)[j]? = (l.flatMap symV)[j]? := by rw [hpre]
    rw [List.getElem?_take,if_pos (by omega)] at h1
    have h2:(l.flatMap symV)[j]? = some ((l.flatMap symV).toArray[j]!):=by
     have:j<(l.flatMap symV).length:=by simpa using hj
     rw [getElem!_pos _ j hj]
     simp
    rw [h2] at h1
    simpa using h1
   refine ⟨cell_iff.2 ⟨cs,92,(0,0),hheap,by simpa using hg⟩,?_⟩
   simp [World.frozen?,hheap]
  have hc:=AnyQ.slices_SortFunc_total Tryz.sortf87 2 Tryz.isAgg92 Tryz.sizeOf92 symV (fun _=>rfl) (fun x v hv=>by simp [symV] at hv;rcases hv with rfl|rfl <;> rfl) cSym swoSym 149 #[] b 0 cap l.toArray w (enters_of Tryz.func149 (by kernel_rfl) rfl) (clo149_lays b 0 _ w) hH2 (za5 hheap) (by simp;omega) totSym
  change Calls Tryz.prog 239 _ _ _ at hc
  simp only [List.size_toArray] at hc
  refine hc.mono ?_
  rintro e w' ⟨rfl,q,os,rfl⟩
  have hsl:l.mergeSort (fun x y=>!(ltOf cSym) y x)=sortY l:=rfl
  rw [hsl]
  have hF:flatK symV 2 (sortY l).toArray=((sortY l).flatMap symV).toArray:=flatK_eq _
  have hFs:((sortY l).flatMap symV).toArray.size≤cs.size:=by
   rw [List.size_toArray,symV_len,sortY_len,← hlen2]
   exact hlen
  obtain ⟨p1,p2⟩:=put_take ((sortY l).flatMap symV).toArray cs hFs
  have hw:∀ k,(sortWorldK symV 2 w b 0 q (sortY l).toArray os).heap[k]? = if k<w.heap.size then (w.heap.modify b (onCells (putCells id 0 ((sortY l).flatMap symV).toArray)))[k]? else (os[k-w.heap.size]?):=by
   intro k
   unfold sortWorldK putRowK putRow mapBlock grow Sort.ahead
   rw [hF]
   simp only [Array.getElem?_append,Array.size_modify]
  obtain ⟨hH3,hX⟩:=hH.setVec (w':=sortWorldK symV 2 w b 0 q (sortY l).toArray os) (cs':=putCells id 0 ((sortY l).flatMap symV).toArray cs) hat hbase hheap (by
    rw [hw,if_pos (za5 hheap),Array.getElem?_modify,if_pos rfl,hheap]
    rfl) p2 (fun k hk hkb=>by
    rw [hw,if_pos hk,Array.getElem?_modify,if_neg (Ne.symm hkb)]) (size_sortWorldK_c symV 2 w b 0 q _ os) rfl rfl rfl (Nat.le_add_right w.drawn q) (by
    have e1:((sortY l).flatMap symC).length=((sortY l).flatMap symV).toArray.size:=by rw [List.size_toArray,symV_len,symC_len]
    rw [e1,p1]
    exact sym_rel g w (sortY l)) (by rw [symC_len,symC_len,sortY_len]) hput
  exact ⟨_,_,g,_,rfl,⟨rfl,rfl⟩,hH3,by simp [VRel,LRel],hX⟩
end
section
open Go.Shelf Go.RowKit Go.Sort
attribute [local irreducible] VW VCall VO bits
theorem sf149_c (H:Heap) (i p:Nat) (ks:List Sym) (hl:ks.length≤1000000000000) (hi:H[i]? = some (mpY ks)) (hp:H[p]? = some (.box 182 [.mp i])) :
  VDet Tryz.prog 208 [.clo (.func 240) [] [.ptr p 0],.clo (.func 149) [] []] H (.sl none ks.length ((sortY ks).flatMap symC)):=by
 have h:=coll86_c H i p ks hl hi hp
 refine zak Tryz.E0 Tryz.mx Tryz.func208 (by kernel_rfl) rfl (Nat.le_of_ble_eq_true rfl) rfl fun hcl hbl=>?_
 (repeat' ((conv=>whnf);(first|refine DrawN.mk' [] ?_|fail)));all_goals (conv=>whnf)
 rw [← List.append_nil H] at h
 refine CallN.gen _ h ?_
 rw [List.append_nil]
 rintro r H' ⟨ord,hperm,rfl,rfl⟩
 have hlen:=hperm.length_eq
 have hs:=sortY_eq hperm
 have h2:=sort149_c (H++[.box 56 [.vs (H.length+1) ord.length],.vec 92 2 (ord.flatMap symC),.dead]) (H.length+1) ord (by omega) (by simp)
 rw [set_loc'] at h2
 have h2:VCall Tryz.prog 239 [.vs (H.length+1) ord.length,.clo (.func 149) [] []] (H++[.box 56 [.vs (H.length+1) ord.length],.vec 92 2 (ord.flatMap symC),.dead]) (fun r H'=>r=.tup []∧H'=H++[.box 56 [.vs (H.length+1) ord.length],.vec 92 2 ((sortY ord).flatMap symC),.dead]):=h2
 refine ⟨H,3,_,rfl,rfl,rfl,?_⟩
 (repeat' ((conv=>whnf);(first|refine CallN.fix _ _ _ 3 h2 rfl rfl ?_|refine DrawN.mk' [] ?_|fail)));all_goals (conv=>whnf)
 refine EndN.detF (u':=.sl none ord.length ((sortY ord).flatMap symC)) (by simp [below,syms_below]) (Frz.vs rfl (by rw [symC_len,sortY_len]) (FrzL.refl _)) ?_
 rw [hlen,hs]
 exact Wk.refl _
theorem keys148_c (H:Heap) (i:Nat) (ks:List Sym) (hl:ks.length≤1000000000000) (hi:H[i]? = some (mpY ks)):VDet Tryz.prog 148 [.mp i,.clo (.func 149) [] []] H (.sl none ks.length ((sortY ks).flatMap symC)):=by
 have h1:VCall Tryz.prog 209 [.mp i] (H++[]) (fun r H'=>r=.clo (.func 240) [] [.ptr (H.length+0) 0]∧H'=(H++[])++[.box 182 [.mp i]]):=by
  rw [List.append_nil]
  exact keys75_c H i
 have h2:=sf149_c (H++[.box 182 [.mp i]]) i (H.length+0) ks hl (zan hi) (by simp)
 refine zak Tryz.E0 Tryz.mx Tryz.func148 (by kernel_rfl) rfl (Nat.le_of_ble_eq_true rfl) rfl fun hcl hbl=>?_
 (repeat' ((conv=>whnf);(first|refine CallN.det _ (h2) ?_|refine CallN.grow _ _ _ 1 h1 rfl rfl rfl ?_|refine DrawN.mk' [] ?_|fail)));all_goals (conv=>whnf)
 refine EndN.det ?_ (Wk.refl _)
 exact ⟨fun _ e=>(nomatch e),syms_below _ _⟩
end
end Go.Proofs.YtgdmldelijeaoaaGreatDoor
namespace Go.Proofs.YtgdmldelijeaoaaGreatDoor
section
open Go.Shelf
def Tryz.sortfS_ren:Go.Shelf.Ren:=⟨fun|6=>242|15=>249|14=>252|28=>263|29=>264|20=>273|21=>274|22=>275|23=>276|24=>277|25=>278|26=>279|27=>280|46=>290|47=>282|48=>283|49=>291|50=>292|57=>295|n=>n,fun|22=>24|24=>9|25=>189|3=>3|39=>194|0=>0|53=>262|55=>115|4=>4|46=>256|45=>255|50=>158|5=>5|9=>9|66=>274|70=>278|76=>284|77=>285|n=>n,fun|n=>n⟩
theorem Tryz.sortfS:Go.Proofs.SlLaysF.n6 Tryz.prog Tryz.sortfS_ren:={
 mixed:=by kernel_rfl
 f6:=⟨Tryz.f242.name,by decide,Tryz.func242.trans (congrArg some (by kernel_rfl))⟩
 f14:=⟨Tryz.f252.name,by decide,Tryz.func252.trans (congrArg some (by kernel_rfl))⟩
 f15:=Tryz.func249.trans (congrArg some (by kernel_rfl))
 f20:=⟨Tryz.f273.name,by decide,Tryz.func273.trans (congrArg some (by kernel_rfl))⟩
 f21:=⟨Tryz.f274.name,by decide,Tryz.func274.trans (congrArg some (by kernel_rfl))⟩
 f22:=⟨Tryz.f275.name,by decide,Tryz.func275.trans (congrArg some (by kernel_rfl))⟩
 f23:=⟨Tryz.f276.name,by decide,Tryz.func276.trans (congrArg some (by kernel_rfl))⟩
 f24:=⟨Tryz.f277.name,by decide,Tryz.func277.trans (congrArg some (by kernel_rfl))⟩
 f25:=⟨Tryz.f278.name,by decide,Tryz.func278.trans (congrArg some (by kernel_rfl))⟩
 f26:=⟨Tryz.f279.name,by decide,Tryz.func279.trans (congrArg some (by kernel_rfl))⟩
 f27:=⟨Tryz.f280.name,by decide,Tryz.func280.trans (congrArg some (by kernel_rfl))⟩
 f28:=Tryz.func263.trans (congrArg some (by kernel_rfl))
 f29:=Tryz.func264.trans (congrArg some (by kernel_rfl))
 f46:=⟨Tryz.f290.name,by decide,Tryz.func290.trans (congrArg some (by kernel_rfl))⟩
 f47:=Tryz.func282.trans (congrArg some (by kernel_rfl))
 f48:=Tryz.func283.trans (congrArg some (by kernel_rfl))
 f49:=⟨Tryz.f291.name,by decide,Tryz.func291.trans (congrArg some (by kernel_rfl))⟩
 f50:=⟨Tryz.f292.name,by decide,Tryz.func292.trans (congrArg some (by kernel_rfl))⟩
 f57:=⟨Tryz.f295.name,by decide,Tryz.func295.trans (congrArg some (by kernel_rfl))⟩
 t0:=Tryz.underlying0
 a0:=Tryz.isAgg0
 z0:=Tryz.sizeOf0
 v0:=Tryz.zeroValue0
 t3:=Tryz.underlying3
 a3:=Tryz.isAgg3
 z3:=Tryz.sizeOf3
 v3:=Tryz.zeroValue3
 t4:=Tryz.underlying4
 a4:=Tryz.isAgg4
 z4:=Tryz.sizeOf4
 v4:=Tryz.zeroValue4
 t5:=Tryz.underlying5
 a5:=Tryz.isAgg5
 z5:=Tryz.sizeOf5
 v5:=Tryz.zeroValue5
 t9:=Tryz.underlying9
 a9:=Tryz.isAgg9
 z9:=Tryz.sizeOf9
 v9:=Tryz.zeroValue9
 t22:=Tryz.underlying24
 a22:=Tryz.isAgg24
 z22:=Tryz.sizeOf24
 v22:=Tryz.zeroValue24
 a24:=Tryz.isAgg9
 z24:=Tryz.sizeOf9
 t25:=Tryz.underlying189
 a25:=Tryz.isAgg189
 z25:=Tryz.sizeOf189
 v25:=Tryz.zeroValue189
 t39:=Tryz.underlying194
 a39:=Tryz.isAgg194
 z39:=Tryz.sizeOf194
 v39:=Tryz.zeroValue194
 t45:=Tryz.underlying255
 a45:=Tryz.isAgg255
 z45:=Tryz.sizeOf255
 v45:=Tryz.zeroValue255
 t46:=Tryz.underlying256
 a46:=Tryz.isAgg256
 z46:=Tryz.sizeOf256
 v46:=Tryz.zeroValue256
 t50:=Tryz.underlying158
 a50:=Tryz.isAgg158
 z50:=Tryz.sizeOf158
 v50:=Tryz.zeroValue158
 t53:=Tryz.underlying262
 a53:=Tryz.isAgg262
 z53:=Tryz.sizeOf262
 v53:=Tryz.zeroValue262
 t55:=Tryz.underlying115
 a55:=Tryz.isAgg115
 z55:=Tryz.sizeOf115
 v55:=Tryz.zeroValue115
 t66:=Tryz.underlying274
 a66:=Tryz.isAgg274
 z66:=Tryz.sizeOf274
 v66:=Tryz.zeroValue274
 t70:=Tryz.underlying278
 a70:=Tryz.isAgg278
 z70:=Tryz.sizeOf278
 v70:=Tryz.zeroValue278
 t76:=Tryz.underlying284
 a76:=Tryz.isAgg284
 z76:=Tryz.sizeOf284
 v76:=Tryz.zeroValue284
 t77:=Tryz.underlying285
 a77:=Tryz.isAgg285
 z77:=Tryz.sizeOf285
 v77:=Tryz.zeroValue285 }
theorem Tryz.sortfS0:Go.Proofs.SlLaysF0.n6 Tryz.prog Tryz.sortfS_ren:={
 mixed:=by kernel_rfl
 f6:=⟨Tryz.f242.name,by decide,Tryz.func242.trans (congrArg some (by kernel_rfl))⟩
 f14:=⟨Tryz.f252.name,by decide,Tryz.func252.trans (congrArg some (by kernel_rfl))⟩
 f15:=Tryz.func249.trans (congrArg some (by kernel_rfl))
 f20:=⟨Tryz.f273.name,by decide,Tryz.func273.trans (congrArg some (by kernel_rfl))⟩
 f21:=⟨Tryz.f274.name,by decide,Tryz.func274.trans (congrArg some (by kernel_rfl))⟩
 f22:=⟨Tryz.f275.name,by decide,Tryz.func275.trans (congrArg some (by kernel_rfl))⟩
 f23:=⟨Tryz.f276.name,by decide,Tryz.func276.trans (congrArg some (by kernel_rfl))⟩
 f24:=⟨Tryz.f277.name,by decide,Tryz.func277.trans (congrArg some (by kernel_rfl))⟩
 f25:=⟨Tryz.f278.name,by decide,Tryz.func278.trans (congrArg some (by kernel_rfl))⟩
 f26:=⟨Tryz.f279.name,by decide,Tryz.func279.trans (congrArg some (by kernel_rfl))⟩
 f27:=⟨Tryz.f280.name,by decide,Tryz.func280.trans (congrArg some (by kernel_rfl))⟩
 f28:=Tryz.func263.trans (congrArg some (by kernel_rfl))
 f29:=Tryz.func264.trans (congrArg some (by kernel_rfl))
 f46:=⟨Tryz.f290.name,by decide,Tryz.func290.trans (congrArg some (by kernel_rfl))⟩
 f47:=Tryz.func282.trans (congrArg some (by kernel_rfl))
 f48:=Tryz.func283.trans (congrArg some (by kernel_rfl))
 f49:=⟨Tryz.f291.name,by decide,Tryz.func291.trans (congrArg some (by kernel_rfl))⟩
 f50:=⟨Tryz.f292.name,by decide,Tryz.func292.trans (congrArg some (by kernel_rfl))⟩
 f57:=⟨Tryz.f295.name,by decide,Tryz.func295.trans (congrArg some (by kernel_rfl))⟩
 t0:=Tryz.underlying0
 a0:=Tryz.isAgg0
 z0:=Tryz.sizeOf0
 v0:=Tryz.zeroValue0
 t3:=Tryz.underlying3
 a3:=Tryz.isAgg3
 z3:=Tryz.sizeOf3
 v3:=Tryz.zeroValue3
 t4:=Tryz.underlying4
 a4:=Tryz.isAgg4
 z4:=Tryz.sizeOf4
 v4:=Tryz.zeroValue4
 t5:=Tryz.underlying5
 a5:=Tryz.isAgg5
 z5:=Tryz.sizeOf5
 v5:=Tryz.zeroValue5
 t9:=Tryz.underlying9
 a9:=Tryz.isAgg9
 z9:=Tryz.sizeOf9
 v9:=Tryz.zeroValue9
 t22:=Tryz.underlying24
 a22:=Tryz.isAgg24
 z22:=Tryz.sizeOf24
 v22:=Tryz.zeroValue24
 t25:=Tryz.underlying189
 a25:=Tryz.isAgg189
 z25:=Tryz.sizeOf189
 v25:=Tryz.zeroValue189
 t39:=Tryz.underlying194
 a39:=Tryz.isAgg194
 z39:=Tryz.sizeOf194
 v39:=Tryz.zeroValue194
 t45:=Tryz.underlying255
 a45:=Tryz.isAgg255
 z45:=Tryz.sizeOf255
 v45:=Tryz.zeroValue255
 t46:=Tryz.underlying256
 a46:=Tryz.isAgg256
 z46:=Tryz.sizeOf256
 v46:=Tryz.zeroValue256
 t50:=Tryz.underlying158
 a50:=Tryz.isAgg158
 z50:=Tryz.sizeOf158
 v50:=Tryz.zeroValue158
 t53:=Tryz.underlying262
 a53:=Tryz.isAgg262
 z53:=Tryz.sizeOf262
 v53:=Tryz.zeroValue262
 t55:=Tryz.underlying115
 a55:=Tryz.isAgg115
 z55:=Tryz.sizeOf115
 v55:=Tryz.zeroValue115
 t66:=Tryz.underlying274
 a66:=Tryz.isAgg274
 z66:=Tryz.sizeOf274
 v66:=Tryz.zeroValue274
 t70:=Tryz.underlying278
 a70:=Tryz.isAgg278
 z70:=Tryz.sizeOf278
 v70:=Tryz.zeroValue278
 t76:=Tryz.underlying284
 a76:=Tryz.isAgg284
 z76:=Tryz.sizeOf284
 v76:=Tryz.zeroValue284
 t77:=Tryz.underlying285
 a77:=Tryz.isAgg285
 z77:=Tryz.sizeOf285
 v77:=Tryz.zeroValue285 }
end
end Go.Proofs.YtgdmldelijeaoaaGreatDoor
namespace Go.Proofs.YtgdmldelijeaoaaGreatDoor
open Go.Vsi
section
open Go.Shelf Go.RowKit Go.Sort Go.Lib
theorem swoB:SWO (ltOf cmpB):=by
 have ha:∀ x y,cmpB y x=- cmpB x y:=fun x y=>(ordB x).anti y
 refine ⟨fun x=>?_,fun x y z h1 h2=>?_,fun x y z h1 h2=>?_⟩
 ·unfold ltOf
  rw [(ordB x).refl]
  rfl
 ·unfold ltOf at *
  simp only [decide_eq_true_eq] at *
  obtain ⟨q1,q2⟩:=(ordB x).tr y z (by omega) (by omega)
  have:cmpB x z≠0:=fun e=>by have:=(q2 e).1;omega
  omega
 ·unfold ltOf at *
  simp only [decide_eq_false_iff_not] at *
  have h3:=ha x y
  have h4:=ha y z
  obtain ⟨q1,-⟩:=(ordB z).tr y x (by omega) (by omega)
  have h5:=ha x z
  omega
theorem totB (x y:ByteArray) (h1:ltOf cmpB x y=false) (h2:ltOf cmpB y x=false):x=y:=by
 unfold ltOf at h1 h2
 simp only [decide_eq_false_iff_not] at h1 h2
 have:=(ordB x).anti y
 exact (ordB x).eq y (by omega)
def sortB (l:List ByteArray):List ByteArray:=l.mergeSort fun x y=>!(ltOf cmpB) y x
theorem sortB_perm (l:List ByteArray):(sortB l).Perm l:=List.mergeSort_perm l _
theorem sortB_len (l:List ByteArray):(sortB l).length=l.length:=(sortB_perm l).length_eq
theorem encS_len (l:List ByteArray):(l.flatMap encS).length=l.length:=by
 induction l with
 | nil=>rfl
 | cons x l ih=>rw [List.flatMap_cons,List.length_append,ih,List.length_cons];simp only [encS,List.length_cons,List.length_nil];omega
theorem str_rel (g:G) (w:World):∀ l:List ByteArray,LRel g w (l.flatMap encS) (l.map Value.string)
 | []=>by simp [LRel]
 | x::l=>by
   rw [List.flatMap_cons]
   show LRel g w (AV.str x::l.flatMap encS) (Value.string x::l.map Value.string)
   simp only [LRel,VRel]
   exact ⟨_,_,rfl,rfl,str_rel g w l⟩
theorem str_of {g:G} {w:World}:∀ {l:List ByteArray} {cs:List Value},LRel g w (l.flatMap encS) cs→cs=l.map Value.string
 | [],cs,h=>by simpa [LRel] using h
 | x::l,cs,h=>by
   rw [List.flatMap_cons] at h
   simp only [encS,List.cons_append,List.nil_append,LRel,VRel] at h
   obtain ⟨c,r,rfl,rfl,h⟩:=h
   rw [str_of h,List.map_cons]
theorem putS (d:Array ByteArray) (cs:Array Value):putCells Value.string 0 d cs=putCells id 0 (d.map Value.string) cs:=by
 unfold putCells
 apply Array.ext_getElem?
 intro k
 simp only [Array.getElem?_mapIdx,Array.size_map]
 cases cs[k]? with
 | none=>rfl
 | some v =>
   simp only [Option.map_some,Nat.zero_le,true_and,Nat.zero_add,Nat.sub_zero,id]
   by_cases h:k<d.size
   ·rw [if_pos h,if_pos h,getElem!_pos _ k h,getElem!_pos _ k (by simpa using h)]
    simp
   ·rw [if_neg h,if_neg h]
theorem size_sW (w:World) (b q:Nat) (d:Array ByteArray) (os:Array Obj):w.heap.size≤(sortWorld Value.string w b 0 q d os).heap.size:=by
 unfold sortWorld putRow mapBlock grow Sort.ahead
 simp
theorem clo151_lays (blk off size:Nat) (w:World):CmpLays1 Tryz.prog 151 #[] Value.string cmpB blk off size w :=
 fun m os dk _ x y=>(cmp31_k x y _).mono fun _ _ ⟨he,hw⟩=>⟨he,0,#[],by rw [hw,grow_empty];rfl⟩
theorem sort242_c (H:Heap) (i:Nat) (l:List ByteArray) (hl:l.length≤1000000000000) (hi:H[i]? = some (.vec 9 1 (l.flatMap encS))) :
  VCall Tryz.prog 242 [.vs i l.length,.clo (.func 151) [] []] H (fun r H'=>r=.tup []∧H'=H.set i (.vec 9 1 ((sortB l).flatMap encS))):=by
 refine ⟨⟨_,Tryz.func242,by kernel_rfl,rfl⟩,fun g w xs hH hL=>?_⟩
 simp only [LRel,VRel,fnG] at hL
 obtain ⟨c,r,has,⟨hok,hle,A,cap,rfl,hncap,hcur⟩,c2,r2,rfl,⟨-,f',c',rfl,hf',hc'⟩,rfl⟩:=hL
 have hf':f'=#[]:=by simpa using congrArg List.toArray hf'
 have hc':c'=#[]:=by simpa using congrArg List.toArray hc'
 have has:xs=#[.slice A l.length cap,.func (.func 151) f' c']:=by simpa using congrArg List.toArray has
 subst has hf' hc'
 have hat:Vsi.At (Hp.of H) i (.vec 9 1 (l.flatMap encS)):=by
  show (Hp.of H).all[i]? = _
  simpa [Hp.all,Hp.of] using hi
 obtain ⟨b1,b2,b3⟩:=hH.rel i _ hat
 obtain ⟨hA,hcap⟩:=hcur (by rw [b1,b2,encS_len,Nat.mul_one])
 have hput:Put (Hp.of H) i (.vec 9 1 ((sortB l).flatMap encS)) (Hp.of (H.set i (.vec 9 1 ((sortB l).flatMap encS)))):=⟨by simp [Hp.all,Hp.of],by simp [Hp.of],rfl,rfl⟩
 rcases b3 with ⟨-,hl0,-⟩|⟨b,cs,hbase,hheap,hsize,hcm,hlen,hrel,hown⟩
 ·have hz:l=[]:=by
   have:=encS_len l
   rw [hl0] at this
   exact List.eq_nil_of_length_eq_zero (by simp at this;omega)
  subst hz
  have hc:=AnyF.slices_SortFunc_none Tryz.sortfS0 A cap (.func (.func 151) #[] #[]) w
  change Calls Tryz.prog 242 _ _ _ at hc
  refine hc.mono ?_
  rintro e w' ⟨rfl,rfl⟩
  have hset:H.set i (.vec 9 1 ((sortB []).flatMap encS))=H:=by
   apply List.ext_getElem?
   intro j
   rw [List.getElem?_set]
   by_cases hij:i=j
   ·subst hij
    have:=(List.getElem?_eq_some_iff.1 hi).1
    have hs0:sortB []=[]:=by unfold sortB;simp
    simp only [if_true,this]
    rw [hi,hs0]
   ·rw [if_neg hij]
  exact ⟨_,_,g,_,rfl,⟨rfl,rfl⟩,by rw [hset];exact hH,by simp [VRel,LRel],Ext.refl _ _⟩
 ·rw [hbase] at hA
  simp only [Option.map_some] at hA
  subst hA
  have hpre:=str_of hrel
  have hlen2:(l.flatMap encS).length=l.length:=encS_len l
  have hH2:Holds Value.string w b 0 l.toArray:=by
   intro j hj
   have hj2:j<l.length:=by simpa using hj
   have hjc:j<cs.size:=by omega
   have hg:cs[j]? = some (Value.string l.toArray[j]!):=by
    have h1:(cs.toList.take (l.flatMap encS).length)[j]? = (l.map Value.string)[j]? := by rw [hpre]
    rw [List.getElem?_take,if_pos (by omega)] at h1
    have h2:(l.map Value.string)[j]? = some (Value.string l.toArray[j]!):=by
     rw [getElem!_pos _ j hj]
     simp [hj2]
    rw [h2] at h1
    simpa using h1
   refine ⟨cell_iff.2 ⟨cs,9,(0,0),hheap,by simpa using hg⟩,?_⟩
   simp [World.frozen?,hheap]
  have hc:=Any.slices_SortFunc_total Tryz.sortfS Value.string (fun _=>rfl) cmpB swoB 151 #[] b 0 cap l.toArray w (enters_of Tryz.func151 (by kernel_rfl) rfl) (clo151_lays b 0 _ w) hH2 (za5 hheap) (by simp;omega) totB
  change Calls Tryz.prog 242 _ _ _ at hc
  simp only [List.size_toArray] at hc
  refine hc.mono ?_
  rintro e w' ⟨rfl,q,os,rfl⟩
  have hsl:l.mergeSort (fun x y=>!(ltOf cmpB) y x)=sortB l:=rfl
  rw [hsl]
  have hF:((sortB l).toArray.map Value.string)=((sortB l).map Value.string).toArray:=by simp
  have hFs:((sortB l).map Value.string).toArray.size≤cs.size:=by
   rw [List.size_toArray,List.length_map,sortB_len,← hlen2]
   exact hlen
  obtain ⟨p1,p2⟩:=put_take ((sortB l).map Value.string).toArray cs hFs
  have hw:∀ k,(sortWorld Value.string w b 0 q (sortB l).toArray os).heap[k]? = if k<w.heap.size then (w.heap.modify b (onCells (putCells id 0 ((sortB l).map Value.string).toArray)))[k]? else (os[k-w.heap.size]?):=by
   intro k
   unfold sortWorld putRow mapBlock grow Sort.ahead
   have hpf:(putCells Value.string 0 (sortB l).toArray)=putCells id 0 ((sortB l).map Value.string).toArray:=by
    funext c
    rw [putS,hF]
   rw [hpf]
   simp only [Array.getElem?_append,Array.size_modify]
  obtain ⟨hH3,hX⟩:=hH.setVec (w':=sortWorld Value.string w b 0 q (sortB l).toArray os) (cs':=putCells id 0 ((sortB l).map Value.string).toArray cs) hat hbase hheap (by
    rw [hw,if_pos (za5 hheap),Array.getElem?_modify,if_pos rfl,hheap]
    rfl) p2 (fun k hk hkb=>by
    rw [hw,if_pos hk,Array.getElem?_modify,if_neg (Ne.symm hkb)]) (size_sW w b q _ os) rfl rfl rfl (Nat.le_add_right w.drawn q) (by
    have e1:((sortB l).flatMap encS).length=((sortB l).map Value.string).toArray.size:=by rw [List.size_toArray,List.length_map,encS_len]
    rw [e1,p1]
    exact str_rel g w (sortB l)) (by rw [encS_len,encS_len,sortB_len]) hput
  exact ⟨_,_,g,_,rfl,⟨rfl,rfl⟩,hH3,by simp [VRel,LRel],hX⟩
end
section
attribute [local irreducible] VW VCall VO bits
theorem sortB_eq {l m:List ByteArray} (h:l.Perm m):sortB l=sortB m:=by
 have hA:∀ x y,cmpB y x=- cmpB x y:=fun x y=>(ordB x).anti y
 have hle:∀ x y:ByteArray,(!(Go.Proofs.ltOf cmpB) y x)=decide (cmpB x y≤0):=fun x y=>by
  unfold Go.Proofs.ltOf
  rw [hA]
  by_cases h:cmpB x y≤0
  ·simp [h]
  ·simp [h];omega
 have srt:∀ l:List ByteArray,(sortB l).Pairwise fun x y=>cmpB x y≤0:=fun l=>by
  have:=List.pairwise_mergeSort (le:=fun x y=>!(Go.Proofs.ltOf cmpB) y x) (fun a b c h1 h2=>by
   rw [hle] at h1 h2 ⊢
   simp only [decide_eq_true_eq] at *
   exact ((ordB a).tr b c h1 h2).1) (fun a b=>by
   rw [hle,hle,hA a b]
   simp
   omega) l
  refine this.imp fun {a b} h=>?_
  rw [hle] at h
  simpa using h
 exact (((sortB_perm l).trans h).trans (sortB_perm m).symm).eq_of_pairwise (fun a b _ _ h1 h2=>(ordB a).eq b (by have:=(ordB a).anti b;omega)) (srt l) (srt m)
structure VisS {S:Type} (F:Fn) (hp:S→Heap) (N:Nat) (ks:List ByteArray) (R:Nat→S→Prop) (step:S→ByteArray→S):Prop where
 len:∀ n s,R n s→(hp s).length=N
 low:∀ n s,R n s→∀ B∈hp s,B.below N
 pres:∀ n s x,n<ks.length→R n s→x∈ks→R (n+1) (step s x)
 call:∀ n s x Y,n<ks.length→R n s→x∈ks→VFn Tryz.prog F [.str x] (hp s++Y) (fun r H'=>r=.bool true∧H'=hp (step s x)++Y)
theorem keysItS_c {S:Type} {F:Fn} {hp:S→Heap} {N:Nat} {R:Nat→S→Prop} {step:S→ByteArray→S} {ks:List ByteArray} (hv:VisS F hp N ks R step)
  (s0:S) (hs0:R 0 s0) (p i:Nat) (hp1:∀ n s,R n s→(hp s)[p]? = some (.box 183 [.mp i])) (hi1:∀ n s,R n s→(hp s)[i]? = some (mpG ks)) :
  VCall Tryz.prog 234 [.clo F [] [],.ptr p 0] (hp s0) (fun _ H'=>∃ ord:List ByteArray,ord.Perm ks∧R ord.length (ord.foldl step s0)∧H'=hp (ord.foldl step s0)):=by
 have hpp:=hp1 0 s0 hs0
 have hii:=hi1 0 s0 hs0
 have hii2:(hp s0)[i]? = some (.mp (ks.map fun x=>.str x) (ks.map fun _=>.bool true)):=hii
 have hlen:∀ n s,R n s→(hp s).length=(hp s0).length:=fun n s hs=>by rw [hv.len n s hs,hv.len 0 s0 hs0]
 have hcl2:∀ n s,R n s→Closed (hp s):=fun n s hs j B hj=>by
  rw [hv.len n s hs]
  exact hv.low n s hs B (List.mem_of_getElem? hj)
 refine za8 Tryz.E0 Tryz.mx Tryz.func234 (by kernel_rfl) rfl (Nat.le_of_ble_eq_true rfl) rfl fun hcl hbl=>?_
 (repeat' ((conv=>whnf);(first|refine PtrN.base _ (by (repeat' (first|assumption|exact zau _ rfl|exact zar rfl|refine zaw (B':=?_) ?_|refine zan ?_|fail))) ?_|refine DrawN.mk' [] ?_|fail)));all_goals (conv=>whnf)
 refine loop_B Tryz.E0 Tryz.mx (σ:=List Nat×S) (fun q=>q.1.Nodup∧(∀ e∈q.1,e<ks.length)∧R q.1.length q.2∧q.2=(q.1.map fun i=>ks.getD i .empty).foldl step s0) (fun q=>ks.length-q.1.length) (fun _=>[]) (fun q=>hp q.2) (fun q=>[.it (.mp i) (ks.map fun x=>AV.str x).length q.1]) _ ([],s0) (fun q h=>hlen _ _ h.2.2.1) (fun q h=>hcl2 _ _ h.2.2.1) [0,5] rfl ⟨List.nodup_nil,(fun e h=>absurd h (List.not_mem_nil)),hs0,rfl⟩ trivial rfl rfl (fun _ _=>rfl) ?_
 rintro ⟨seen,s⟩ ⟨hnd,hlt,hs,hfold⟩
 simp only at hnd hlt hs hfold
 have hii3:(hp s)[i]? = some (.mp (ks.map fun x=>.str x) (ks.map fun _=>.bool true)):=hi1 _ s hs
 clear hbl
 (repeat' ((conv=>whnf);(first|(refine SideN.mk ?_ ?_;· first|kernel_rfl|omega|exact List.cons_ne_nil _ _|(simp;done)|(simp;omega)|exact trivial|assumption|fail)|refine PtrN.base _ (by (repeat' (first|assumption|exact zau _ rfl|exact zar rfl|refine zaw (B':=?_) ?_|refine zan ?_|fail))) ?_|refine DrawN.mk' [] ?_|fail)));all_goals (conv=>whnf)
 rintro B v (⟨rfl,rfl,hall⟩|⟨e,kv,x,he,hn,hk,hx,rfl,rfl⟩)
 ·have hall:∀ e,e<ks.length→e∈seen:=fun e he=>hall e (by simpa using he)
  (repeat' ((conv=>whnf);(first|refine IfN.ff rfl ?_|refine DrawN.mk' [] ?_|fail)));all_goals (conv=>whnf)
  refine .cut (hlen _ _ hs) (fun j B hB=>.inr ?_) ⟨_,_,.refl _,Wk.refl _,by simp [below,zaa],seen.map fun i=>ks.getD i .empty,seen_perm .empty hnd hlt hall,by rw [← hfold,List.length_map];exact hs,by rw [← hfold]⟩
  rw [← hlen _ _ hs]
  exact hcl2 _ _ hs j B hB
 ·have he:e<ks.length:=by simpa using he
  have hn:e ∉ seen:=hn
  have hke:ks[e]? = some (ks.getD e .empty):=by simp [he]
  have hxm:ks.getD e .empty∈ks:=List.mem_of_getElem? hke
  have hk2:kv=.str (ks.getD e .empty):=by
   rw [List.getElem?_map,hke] at hk
   simpa using hk.symm
  have hx2:x=.bool true:=by
   rw [List.getElem?_map,hke] at hx
   simpa using hx.symm
  subst hk2 hx2
  have hlt2:seen.length<ks.length:=by
   have:=nodup_lt (nodup_snoc hnd hn) (n:=ks.length) (fun a ha=>by
    rcases List.mem_append.1 ha with h|h
    ·exact hlt a h
    ·simp at h;exact h▸he)
   simp at this
   omega
  have hc:=fun Y=>hv.call _ s (ks.getD e .empty) Y hlt2 hs hxm
  have hR1:=hv.pres _ s (ks.getD e .empty) hlt2 hs hxm
  have hf2:step s (ks.getD e .empty)=((seen++[e]).map fun i=>ks.getD i .empty).foldl step s0:=by
   rw [List.map_append,List.foldl_append,← hfold]
   rfl
  generalize step s (ks.getD e .empty)=s1 at *
  generalize hkx:ks.getD e .empty=kx at *
  have hil:i<(hp s0).length+1:=by
   have:=(List.getElem?_eq_some_iff.1 hii).1
   omega
  have hg1:((seen++[e],s1):List Nat×S).fst.length=seen.length+1:=by simp
  have hg2:((seen,s):List Nat×S).fst.length=seen.length:=rfl
  (repeat' ((conv=>whnf);(first|(refine IfN.id ?_;first|refine IfN.not ?_|refine IfN.tt rfl ?_|fail)|refine RelN.mk [_,_] [] ⟨by simp,rfl,seen,e,_,_,rfl,hk,hx,rfl⟩ ?_|refine CallN.fix _ _ _ _ (hc _) (hlen _ _ hR1) rfl ?_|refine PtrN.base _ (by (repeat' (first|assumption|exact zau _ rfl|exact zar rfl|refine zaw (B':=?_) ?_|refine zan ?_|fail))) ?_|refine DrawN.mk' [] ?_|fail)));all_goals (conv=>whnf)
  (refine ⟨⟨(seen++[e],s1),⟨nodup_snoc hnd hn,fun a ha=>by
    rcases List.mem_append.1 ha with h|h
    ·exact hlt a h
    ·simp at h;exact h▸he,by rw [hg1];exact hR1,hf2⟩,by omega,?_,.inl ⟨rfl,rfl⟩,rfl,_,rfl,?_⟩⟩;rotate_left 1;(first|exact .inl rfl|exact .inr ⟨by simp [zal,below,zaa,tr,mpG_below,zae,hil],by simp [zap,Blk.below,zaa,below,mpG_below,zae,hil]⟩|fail);(repeat' (first|exact trivial|refine ⟨⟨_,rfl,?_⟩,?_⟩|fail));all_goals try (first|exact Wk.refl _|exact Wk.of_eq (congrArg (AV.int _) (by omega))|fail))
theorem range_keysS {S:Type} {N:FN} {n0:Nat} {ps:Array Tmp} {assign body:Code} {Q:QR} {top bot:RE} {base:Heap} {k:Nat} {loc:Heap}
  (hbase:base.length=n0) (hcl:Closed base) (hN:N.r=none) (ts:List Nat) (bk:RE) (hbk:pickO ts top bot=some bk)
  (hps:∀ p∈ps.toList,p<N.n) (hps1:ps.size=1) (bbk:zal n0 (n0+(k+1)) bk) (ks:List ByteArray)
  (ls:S→Heap) (R:Nat→S→Prop) (step:S→ByteArray→S) (s0:S) (hs0:R 0 s0) (h0:loc=ls s0) (p i:Nat) (hp1:base[p]? = some (.box 183 [.mp i])) (hi1:base[i]? = some (mpG ks))
  (lens:∀ n s,R n s→(ls s).length=k) (bls:∀ n s,R n s→∀ B∈ls s,B.below (n0+(k+1)))
  (pres:∀ n s x,n<ks.length→R n s→x∈ks→R (n+1) (step s x))
  (hy:∀ n s x Y,n<ks.length→R n s→x∈ks→rndW n0 k bk N ps assign body ((base++(ls s++[lpB n0 bk N ps assign body .ready none]))++Y) [.str x] (fun r H'=>r=.bool true∧H'=(base++(ls (step s x)++[lpB n0 bk N ps assign body .ready none]))++Y))
  (hQ:∀ ord:List ByteArray,ord.Perm ks→R ord.length (ord.foldl step s0)→jumpN Q top bot base (k+1) (ls (ord.foldl step s0)++[.dead]) none) :
  RangeN Tryz.prog N n0 234 [] [.ptr p 0] ps assign body Q top bot base k loc:=by
 subst hbase h0
 let hp:S→Heap:=fun s=>base++(ls s++[lpB base.length bk N ps assign body .ready none])
 have hloopb:(lpB base.length bk N ps assign body .ready none).below (base.length+(k+1)):=get_below bbk
 have hk0:(ls s0).length=k:=lens 0 s0 hs0
 have hv:VisS (.yield (base.length+k)) hp (base.length+(k+1)) ks R step:=by
  refine ⟨fun n s h=>by simp [hp,lens _ _ h],fun n s h B hB=>?_,pres,fun n s x Y hn h hx=>?_⟩
  ·rcases List.mem_append.1 hB with hB|hB
   ·obtain ⟨j,hj⟩:=List.getElem?_of_mem hB
    exact Blk.below_mono (by omega) (hcl j B hj)
   ·rcases List.mem_append.1 hB with hB|hB
    ·exact bls _ _ h B hB
    ·simp only [List.mem_singleton] at hB
     subst hB
     exact hloopb
  ·have h3:=hy n s x Y hn h hx
   have hi:((base++(ls s++[lpB base.length bk N ps assign body .ready none]))++Y)[base.length+k]? = some (lpB base.length bk N ps assign body .ready none):=by
    refine zau Y ?_
    rw [za0,List.getElem?_append_right (by rw [lens n s h];exact Nat.le_refl _),lens n s h,Nat.sub_self]
    rfl
   exact round_R Tryz.E0 Tryz.mx hi hps (by simp [hps1]) h3
 have hit:=keysItS_c hv s0 hs0 p i (fun n s _=>zan hp1) (fun n s _=>zan hi1)
 refine .mk ⟨(fun i hi=>by rw [hN] at hi;cases hi),ts,bk,(fun _ H'=>∃ ord:List ByteArray,ord.Perm ks∧R ord.length (ord.foldl step s0)∧H'=hp (ord.foldl step s0)),hbk,?_,?_⟩
 ·rw [List.append_assoc]
  exact hit
 ·rintro r H' ⟨ord,ho,hR,rfl⟩
  have hl2:=lens _ _ hR
  refine ⟨base,k+1,ls (ord.foldl step s0)++[lpB base.length bk N ps assign body .ready none],.ready,none,ls (ord.foldl step s0)++[.dead],rfl,by simp [hl2],rfl,?_,by simp,?_,hQ ord ho hR⟩
  ·rw [za0,List.getElem?_append_right (by omega),hl2,Nat.sub_self];rfl
  ·rw [lset_some (by simp [hl2])]
   rw [List.set_append_right _ _ (by omega),hl2,Nat.sub_self]
   rfl
theorem keys194_c (H:Heap) (i:Nat):VCall Tryz.prog 194 [.mp i] H (fun r H'=>r=.clo (.func 234) [] [.ptr (H.length+0) 0]∧H'=H++[.box 183 [.mp i]]):=by
 refine za8 Tryz.E0 Tryz.mx Tryz.func194 (by kernel_rfl) rfl (Nat.le_of_ble_eq_true rfl) rfl fun hcl hbl=>?_
 (repeat' ((conv=>whnf);(first|refine DrawN.mk' [] ?_|fail)));all_goals (conv=>whnf)
 exact EndN.keep _ (Wk.refl _) ⟨rfl,rfl⟩
def lsS (n0:Nat) (n:Nat) (c:List AV):Heap:=[.box 24 [.vs (n0+1) n],.vec 9 1 c]
theorem app247_c (H:Heap) (i p:Nat) (ks:List ByteArray) (hl:ks.length≤1000000000000) (hi:H[i]? = some (mpG ks)) (hp:H[p]? = some (.box 183 [.mp i])) :
  VCall Tryz.prog 247 [.nils,.clo (.func 234) [] [.ptr p 0]] H (fun r H'=>∃ ord:List ByteArray,ord.Perm ks∧r=.vs (H.length+1) ord.length∧H'=H++[.box 24 [.vs (H.length+1) ord.length],.vec 9 1 (ord.flatMap encS),.dead]):=by
 refine za8 Tryz.E0 Tryz.mx Tryz.func247 (by kernel_rfl) rfl (Nat.le_of_ble_eq_true rfl) rfl fun hcl hbl=>?_
 (repeat' ((conv=>whnf);(first|refine DrawN.mk' [] ?_|fail)));all_goals (conv=>whnf)
 refine RangeN.vecB 0 0 9 1 rfl rfl rfl rfl rfl ?_
 refine range_keysS rfl hcl rfl [2] _ rfl (by decide) rfl (by simp [zal,below,tr]) ks
  (fun acc:List ByteArray=>lsS H.length acc.length (acc.flatMap encS)) (fun n acc=>acc.length=n) (fun acc x=>acc++[x]) [] rfl rfl p i hp hi (fun _ _ _=>rfl) ?_ (fun n acc x _ h _=>by simp [h]) ?_ ?_
 ·intro n acc _ B hB
  simp only [lsS,List.mem_cons,List.not_mem_nil,or_false] at hB
  rcases hB with rfl|rfl
  ·simp [Blk.below,zaa,below]
  ·exact zae _ acc
 ·intro n acc x Y hn hacc _
  have hl1:(acc++[x]).length=acc.length+1:=by simp
  have hf1:(acc++[x]).flatMap encS=acc.flatMap encS++[.str x]:=by simp [encS]
  have hb2:∀ B∈lsS H.length (acc++[x]).length ((acc++[x]).flatMap encS),B.below (H.length+3):=by
   intro B hB
   simp only [lsS,List.mem_cons,List.not_mem_nil,or_false] at hB
   rcases hB with rfl|rfl
   ·simp [Blk.below,zaa,below]
   ·exact zae _ _
  have hbk:zal H.length (H.length+3) [(2,.lp 0 0)]:=by simp [zal,below,tr]
  rw [hl1,hf1] at hb2 ⊢
  have hcl:=(encS_len acc).trans (Nat.mul_one _).symm
  have hmx:acc.length+1≤maxLen:=Nat.le_trans (show acc.length+1≤1000000000001 by omega) (by decide)
  have hside:AppV acc.length 1 1 16 (acc.flatMap encS) [.str x]:=⟨hcl,rfl,rfl,by omega,hmx⟩
  generalize acc.flatMap encS=pc at *
  unfold lsS at hb2 ⊢
  (repeat' ((conv=>whnf);(first|refine DrawN.mk' [] ?_|fail)));all_goals (conv=>whnf)
  refine ⟨none,_,zau Y rfl,set_loc3 rfl,?_⟩
  generalize hB:Blk.loop LoopState.busy none _ _=B
  (repeat' ((conv=>whnf);(first|refine SetN.mk _ (set_loc3 rfl) ?_|(refine SideN.mk ?_ ?_;· first|kernel_rfl|omega|exact List.cons_ne_nil _ _|(simp;done)|(simp;omega)|exact trivial|assumption|fail)|refine PtrN.base _ (by (repeat' (first|assumption|exact zau _ rfl|exact zar rfl|refine zaw (B':=?_) ?_|refine zan ?_|fail))) ?_|refine DrawN.mk' [] ?_|fail)));all_goals (conv=>whnf)
  subst hB
  exact rnd_end (l':=[_,_]) .normal rfl rfl hb2 hbk
 ·intro ord hperm hlen
  have hf:ord.foldl (fun acc x=>acc++[x]) []=ord:=by
   have:∀ (l a:List ByteArray),l.foldl (fun acc x=>acc++[x]) a=a++l:=by
    intro l
    induction l with
    | nil=>intro a;simp
    | cons x l ih=>intro a;rw [List.foldl_cons,ih];simp
   rw [this]
   rfl
  rw [hf]
  unfold lsS
  (repeat' ((conv=>whnf);(first|refine DrawN.mk' [] ?_|fail)));all_goals (conv=>whnf)
  exact EndN.keep _ (Wk.refl _) ⟨ord,hperm,rfl,rfl⟩
theorem coll232_c (H:Heap) (i p:Nat) (ks:List ByteArray) (hl:ks.length≤1000000000000) (hi:H[i]? = some (mpG ks)) (hp:H[p]? = some (.box 183 [.mp i])) :
  VCall Tryz.prog 232 [.clo (.func 234) [] [.ptr p 0]] H (fun r H'=>∃ ord:List ByteArray,ord.Perm ks∧r=.vs (H.length+1) ord.length∧H'=H++[.box 24 [.vs (H.length+1) ord.length],.vec 9 1 (ord.flatMap encS),.dead]):=by
 have h:=app247_c H i p ks hl hi hp
 refine za8 Tryz.E0 Tryz.mx Tryz.func232 (by kernel_rfl) rfl (Nat.le_of_ble_eq_true rfl) rfl fun hcl hbl=>?_
 (repeat' ((conv=>whnf);(first|refine DrawN.mk' [] ?_|fail)));all_goals (conv=>whnf)
 rw [← List.append_nil H] at h
 refine CallN.gen _ h ?_
 rw [List.append_nil]
 rintro r H' ⟨ord,hperm,rfl,rfl⟩
 refine ⟨H,3,_,rfl,rfl,rfl,?_⟩
 (repeat' ((conv=>whnf);(first|refine DrawN.mk' [] ?_|fail)));all_goals (conv=>whnf)
 exact EndN.keep _ (Wk.refl _) ⟨ord,hperm,rfl,rfl⟩
theorem sf211_c (H:Heap) (i p:Nat) (ks:List ByteArray) (hl:ks.length≤1000000000000) (hi:H[i]? = some (mpG ks)) (hp:H[p]? = some (.box 183 [.mp i])) :
  VDet Tryz.prog 211 [.clo (.func 234) [] [.ptr p 0],.clo (.func 151) [] []] H (.sl none ks.length ((sortB ks).flatMap encS)):=by
 have h:=coll232_c H i p ks hl hi hp
 refine zak Tryz.E0 Tryz.mx Tryz.func211 (by kernel_rfl) rfl (Nat.le_of_ble_eq_true rfl) rfl fun hcl hbl=>?_
 (repeat' ((conv=>whnf);(first|refine DrawN.mk' [] ?_|fail)));all_goals (conv=>whnf)
 rw [← List.append_nil H] at h
 refine CallN.gen _ h ?_
 rw [List.append_nil]
 rintro r H' ⟨ord,hperm,rfl,rfl⟩
 have hlen:=hperm.length_eq
 have hs:=sortB_eq hperm
 have h2:=sort242_c (H++[.box 24 [.vs (H.length+1) ord.length],.vec 9 1 (ord.flatMap encS),.dead]) (H.length+1) ord (by omega) (by simp)
 rw [set_loc'] at h2
 have h2:VCall Tryz.prog 242 [.vs (H.length+1) ord.length,.clo (.func 151) [] []] (H++[.box 24 [.vs (H.length+1) ord.length],.vec 9 1 (ord.flatMap encS),.dead]) (fun r H'=>r=.tup []∧H'=H++[.box 24 [.vs (H.length+1) ord.length],.vec 9 1 ((sortB ord).flatMap encS),.dead]):=h2
 refine ⟨H,3,_,rfl,rfl,rfl,?_⟩
 (repeat' ((conv=>whnf);(first|refine CallN.fix _ _ _ 3 h2 rfl rfl ?_|refine DrawN.mk' [] ?_|fail)));all_goals (conv=>whnf)
 refine EndN.detF (u':=.sl none ord.length ((sortB ord).flatMap encS)) (by simp [below,zae]) (Frz.vs rfl (by rw [encS_len,sortB_len,Nat.mul_one]) (FrzL.refl _)) ?_
 rw [hlen,hs]
 exact Wk.refl _
theorem keys150_c (H:Heap) (i:Nat) (ks:List ByteArray) (hl:ks.length≤1000000000000) (hi:H[i]? = some (mpG ks)):VDet Tryz.prog 150 [.mp i,.clo (.func 151) [] []] H (.sl none ks.length ((sortB ks).flatMap encS)):=by
 have h1:VCall Tryz.prog 194 [.mp i] (H++[]) (fun r H'=>r=.clo (.func 234) [] [.ptr (H.length+0) 0]∧H'=(H++[])++[.box 183 [.mp i]]):=by
  rw [List.append_nil]
  exact keys194_c H i
 have h2:=sf211_c (H++[.box 183 [.mp i]]) i (H.length+0) ks hl (zan hi) (by simp)
 refine zak Tryz.E0 Tryz.mx Tryz.func150 (by kernel_rfl) rfl (Nat.le_of_ble_eq_true rfl) rfl fun hcl hbl=>?_
 (repeat' ((conv=>whnf);(first|refine CallN.det _ (h2) ?_|refine CallN.grow _ _ _ 1 h1 rfl rfl rfl ?_|refine DrawN.mk' [] ?_|fail)));all_goals (conv=>whnf)
 refine EndN.det ?_ (Wk.refl _)
 exact ⟨fun _ e=>(nomatch e),zae _ _⟩
end
section
attribute [local irreducible] VW VCall VO bits
theorem takeK_below (n k:Nat) (l:List Sym):zaa n (List.take k (l.map fun x=>AV.agg (symC x))):=by
 rw [← List.map_take]
 exact mpY_belowK n _
theorem takeV_below (n k:Nat) (l:List Sym):zaa n (List.take k (l.map fun _=>AV.bool true)):=by
 rw [← List.map_take]
 exact mpY_belowV n _
def toI (x:Sym):SymI:=(x.1,(x.2:Int))
def freeF (f:Fo):List ByteArray:=frF (fun _=>0) [] f
def sigF (f:Fo):Sig:=⟨(sortY (predY f)).map toI,(sortY (funY f)).map toI,sortB (freeF f)⟩
theorem toI_flat (l:List Sym):(l.map toI).flatMap symI=l.flatMap symC:=by
 rw [List.flatMap_map]
 rfl
theorem sortY_nd {l:List Sym} (h:l.Nodup):(sortY l).Nodup:=(sortY_perm l).symm.nodup h
theorem sortY_idem (l:List Sym):sortY (sortY l)=sortY l:=sortY_eq (sortY_perm l)
theorem insY_snoc {l:List Sym} (h:l.Nodup) {k:Nat} (hk:k<l.length):insY (l.take k) (l.getD k sym0)=l.take (k+1):=by
 rw [take_snocD l sym0 k hk]
 unfold insY
 rw [if_neg]
 intro hm
 rw [memY_iff] at hm
 have e:l.getD k sym0=l[k]:=by simp [List.getElem?_eq_getElem hk]
 rw [e] at hm
 obtain ⟨i,hi,he⟩:=List.getElem_of_mem hm
 rw [List.length_take] at hi
 rw [List.getElem_take] at he
 have:=(List.getElem_inj h).1 he
 omega
theorem symC_ex (x:Sym):∃ u v,x=(u,v)∧symC x=[.str u,.int .i64 (v:Nat)]:=⟨x.1,x.2,rfl,rfl⟩
theorem symC_size (x:Sym):(symC x).length=2:=rfl
theorem symbols_c (f:Fo) (hg:f.good) (hp:(predY f).length≤1000000) (hu:(funY f).length≤1000000) (hv:(freeF f).length≤1000000) (hqd:qdF f≤1000000) (H:Heap):VDet Tryz.prog 74 [.sl none 1 f.cells] H (.agg (sigF f).cells):=by
 have hpc:=fun H=>pred_c f hg (by omega) H
 have huc:=fun H=>func_c f hg (by omega) H
 have hfc:=ff_c f hg
 unfold FfP at hfc
 have hfr:frF (fun _=>0) [] f=freeF f:=rfl
 obtain ⟨w1,w2,w3,w4,w5,w6,hw,hb⟩:=fo_ex4 f
 rw [hw] at hpc huc hfc ⊢
 refine zak Tryz.E0 Tryz.mx Tryz.func74 (by kernel_rfl) rfl (Nat.le_of_ble_eq_true rfl) rfl fun hcl hbl=>?_
 (repeat' ((conv=>whnf);(first|refine DrawN.mk' [] ?_|fail)));all_goals (conv=>whnf)
 refine LoopN.rounds Tryz.E0 Tryz.mx 2 rfl ?_
 (repeat' ((conv=>whnf);(first|refine IfN.tt rfl ?_|(refine SideN.mk ?_ ?_;· first|kernel_rfl|omega|exact List.cons_ne_nil _ _|(simp;done)|(simp;omega)|exact trivial|assumption|fail)|refine CallN.det _ (hpc _) ?_|refine SegN.mk _ (seg_rfl rfl) ?_|refine DrawN.mk' [] ?_|fail)));all_goals (conv=>whnf)
 have hnd1:(sortY (predY f)).Nodup:=sortY_nd (predY_nd f)
 have hnd2:(sortY (funY f)).Nodup:=sortY_nd (funY_nd f)
 have hl1:(predY f).length=(sortY (predY f)).length:=(sortY_len _).symm
 have hl2:(funY f).length=(sortY (funY f)).length:=(sortY_len _).symm
 have hse:sigF f=⟨(sortY (predY f)).map toI,(sortY (funY f)).map toI,sortB (freeF f)⟩:=rfl
 have hk1:=fun H i hi=>keys148_c H i (sortY (predY f)) (by omega) hi
 have hk2:=fun H i hi=>keys148_c H i (sortY (funY f)) (by omega) hi
 rw [sortY_idem] at hk1 hk2
 rw [hl1,hse]
 rw [hl1] at hpc
 rw [hl2] at huc
 generalize sortY (predY f)=lp at *
 generalize sortY (funY f)=lu at *
 refine za3 Tryz.E0 Tryz.mx (σ:=Nat) (fun k=>k≤lp.length) (fun k=>lp.length-k) (fun k=>[(24,.v (.int .i64 k))]) (fun k=>[.box 58 [.nils,.nils,.nils],mpY (lp.take k),mpY [],mpG [],.box 29 [.int .u8 (w1:Nat),.str w2,.sl none w3 w4,.sl none w5 w6]]) _ 0 rfl hcl [2,3,4,5,7,15,16,17,22,23] rfl (Nat.zero_le _) ⟨⟨_,rfl,Wk.refl _⟩,trivial⟩ rfl (fun _ _=>rfl) ?_
 intro k hk
 rcases Nat.lt_or_ge k lp.length with hlt|hge
 ·have hins:=insY_snoc hnd1 hlt
  have hput:=putY (lp.getD k sym0) (lp.take k)
  rw [hins] at hput
  obtain ⟨u,v,hx,e1⟩:=symC_ex (lp.getD k sym0)
  rw [e1] at hput
  (repeat' ((conv=>whnf);(first|refine IfN.dT (by omega) ?_|(refine EqN.addN _ _ Cst.h Cst.h ?_ ?_;· omega)|(refine SideN.mk ?_ ?_;· first|kernel_rfl|omega|exact List.cons_ne_nil _ _|(simp;done)|(simp;omega)|exact trivial|assumption|fail)|refine SegN.nthE sym0 k rfl (by omega) symC_size e1 ?_|refine RelN.mk _ _ ⟨⟨_,rfl⟩,hput⟩ ?_|refine PtrN.loc _ rfl ?_|refine DrawN.mk' [] ?_|fail)));all_goals (conv=>whnf)
  (refine ⟨⟨k+1,by show k+1≤_;omega,by omega,?_,.inl ⟨rfl,rfl⟩,rfl,_,rfl,?_⟩⟩;rotate_left 1;(first|exact .inl rfl|exact .inr ⟨by simp [zal,below,zaa,tr,zag,zaf,zah,zad,zai,zaj,zac,zae,syms_below,mpY,mpY_belowK,mpY_belowV,mpG,takeK_below,takeV_below,hb],by simp [zap,Blk.below,zaa,below,zag,zaf,zah,zad,zai,zaj,zac,zae,syms_below,mpY,mpY_belowK,mpY_belowV,mpG,takeK_below,takeV_below,hb]⟩|fail);(repeat' (first|exact trivial|refine ⟨⟨_,rfl,?_⟩,?_⟩|fail));all_goals try (first|exact Wk.refl _|exact Wk.of_eq (congrArg (AV.int _) (by omega))|fail))
 ·have hke:k=lp.length:=by omega
  subst hke
  rw [List.take_length]
  (repeat' ((conv=>whnf);(first|refine IfN.dF (by omega) ?_|refine CallN.det _ (huc _) ?_|refine DrawN.mk' [] ?_|fail)));all_goals (conv=>whnf)
  refine za3 Tryz.E0 Tryz.mx (σ:=Nat) (fun k=>k≤lu.length) (fun k=>lu.length-k) (fun k=>[(34,.v (.int .i64 k))]) (fun k=>[.box 58 [.nils,.nils,.nils],mpY lp,mpY (lu.take k),mpG [],.box 29 [.int .u8 (w1:Nat),.str w2,.sl none w3 w4,.sl none w5 w6]]) _ 0 rfl hcl [2,3,4,5,7,15,16,17,32,33] rfl (Nat.zero_le _) ⟨⟨_,rfl,Wk.refl _⟩,trivial⟩ rfl (fun _ _=>rfl) ?_
  intro k hk
  rcases Nat.lt_or_ge k lu.length with hlt|hge
  ·have hins:=insY_snoc hnd2 hlt
   have hput:=putY (lu.getD k sym0) (lu.take k)
   rw [hins] at hput
   obtain ⟨u,v,hx,e1⟩:=symC_ex (lu.getD k sym0)
   rw [e1] at hput
   (repeat' ((conv=>whnf);(first|refine IfN.dT (by omega) ?_|(refine EqN.addN _ _ Cst.h Cst.h ?_ ?_;· omega)|(refine SideN.mk ?_ ?_;· first|kernel_rfl|omega|exact List.cons_ne_nil _ _|(simp;done)|(simp;omega)|exact trivial|assumption|fail)|refine SegN.nthE sym0 k rfl (by omega) symC_size e1 ?_|refine RelN.mk _ _ ⟨⟨_,rfl⟩,hput⟩ ?_|refine PtrN.loc _ rfl ?_|refine DrawN.mk' [] ?_|fail)));all_goals (conv=>whnf)
   (refine ⟨⟨k+1,by show k+1≤_;omega,by omega,?_,.inl ⟨rfl,rfl⟩,rfl,_,rfl,?_⟩⟩;rotate_left 1;(first|exact .inl rfl|exact .inr ⟨by simp [zal,below,zaa,tr,zag,zaf,zah,zad,zai,zaj,zac,zae,syms_below,mpY,mpY_belowK,mpY_belowV,mpG,takeK_below,takeV_below,hb],by simp [zap,Blk.below,zaa,below,zag,zaf,zah,zad,zai,zaj,zac,zae,syms_below,mpY,mpY_belowK,mpY_belowV,mpG,takeK_below,takeV_below,hb]⟩|fail);(repeat' (first|exact trivial|refine ⟨⟨_,rfl,?_⟩,?_⟩|fail));all_goals try (first|exact Wk.refl _|exact Wk.of_eq (congrArg (AV.int _) (by omega))|fail))
  ·have hke:k=lu.length:=by omega
   subst hke
   rw [List.take_length]
   (repeat' ((conv=>whnf);(first|refine IfN.dF (by omega) ?_|refine DrawN.mk' [] ?_|fail)));all_goals (conv=>whnf)
   have hx:=hfc (H++[.box 58 [.nils,.nils,.nils],mpY lp,mpY lu,mpG [],.box 29 [.int .u8 (w1:Nat),.str w2,.sl none w3 w4,.sl none w5 w6],.mp [] []]) (H.length+5) (H.length+3) [] (fun _=>0) [] (by omega) List.nodup_nil (fun _ _=>rfl) (fun s=>⟨Int.le_refl _,by show (0:Int)+_≤_;omega⟩) (zar rfl) (zar rfl)
   rw [set_loc',set_loc',hfr] at hx
   have hx:VCall Tryz.prog 147 [.agg [.int .u8 (w1:Nat),.str w2,.sl none w3 w4,.sl none w5 w6],.mp (H.length+5),.mp (H.length+3)] (H++[.box 58 [.nils,.nils,.nils],mpY lp,mpY lu,mpG [],.box 29 [.int .u8 (w1:Nat),.str w2,.sl none w3 w4,.sl none w5 w6],.mp [] []]) (fun r H'=>r=.tup []∧H'=H++[.box 58 [.nils,.nils,.nils],mpY lp,mpY lu,mpG (freeF f),.box 29 [.int .u8 (w1:Nat),.str w2,.sl none w3 w4,.sl none w5 w6],bdG (bkF [] f) (fun _=>0)]):=hx
   have c1:=hk1 (H++[.box 58 [.nils,.nils,.nils],mpY lp,mpY lu,mpG (freeF f),.box 29 [.int .u8 (w1:Nat),.str w2,.sl none w3 w4,.sl none w5 w6],bdG (bkF [] f) (fun _=>0)]) (H.length+1) (zar rfl)
   have c2:=hk2 (H++[.box 58 [.nils,.nils,.nils],mpY lp,mpY lu,mpG (freeF f),.box 29 [.int .u8 (w1:Nat),.str w2,.sl none w3 w4,.sl none w5 w6],bdG (bkF [] f) (fun _=>0)]) (H.length+2) (zar rfl)
   have c3:=keys150_c (H++[.box 58 [.nils,.nils,.nils],mpY lp,mpY lu,mpG (freeF f),.box 29 [.int .u8 (w1:Nat),.str w2,.sl none w3 w4,.sl none w5 w6],bdG (bkF [] f) (fun _=>0)]) (H.length+3) (freeF f) (by omega) (zar rfl)
   (repeat' ((conv=>whnf);(first|refine IfN.ff rfl ?_|(refine EqN.addN _ _ Cst.h Cst.h ?_ ?_;· omega)|(refine CallN.id ?_;first|refine CallN.det _ (c1) ?_|refine CallN.det _ (c2) ?_|refine CallN.det _ (c3) ?_|fail)|refine CallN.fix _ _ _ 6 hx rfl rfl ?_|refine DrawN.mk' [] ?_|fail)));all_goals (conv=>whnf)
   refine EndN.det (by simp [below,zaa,Sig.cells,zac,zae]) ?_
   unfold Sig.cells
   simp only [toI_flat,List.length_map,sortB_len]
   exact Wk.refl _
end
section
attribute [local irreducible] VW VCall VO bits
def hasB (m:Mdl) (s:Sig):Bool:=s.preds.all (fun p=>(m.facts.find? (factP p.1 p.2)).isSome)&&(s.funcs.all (fun p=>(m.funcs.find? (funcP p.1 p.2)).isSome)&&s.vars.all (fun x=>(m.binds.find? (bindP x)).isSome))
theorem symI_ex (x:SymI):∃ u v,x=(u,v)∧symI x=[.str u,.int .i64 v]:=⟨x.1,x.2,rfl,rfl⟩
theorem encS_ex (x:ByteArray):∃ u,x=u∧encS x=[.str u]:=⟨x,rfl,rfl⟩
theorem has_c (m:Mdl) (hm:m.Sm) (s:Sig) (h1:s.preds.length≤1000000) (h2:s.funcs.length≤1000000) (h3:s.vars.length≤1000000) (H:Heap):VDet Tryz.prog 73 [.agg m.cells,.agg s.cells] H (.bool (hasB m s)):=by
 have hf1:=fun u v H=>find139_c m.facts (by have:=hm.facts;omega) u v H
 have hf2:=fun u v H=>find141_c m.funcs (by have:=hm.funcs;omega) u v H
 have hf3:=fun u H=>find143_c m.binds (by have:=hm.binds;omega) u H
 have hmc:m.cells=[.int .u8 m.kind,.int .i64 m.size,.sl none m.rel.length (m.rel.flatMap enc64),.int .i64 m.loop,.sl none m.facts.length (m.facts.flatMap Fct.cells),.sl none m.funcs.length (m.funcs.flatMap Fnc.cells),.sl none m.binds.length (m.binds.flatMap Bnd.cells)]:=rfl
 rw [hmc]
 unfold Sig.cells hasB
 refine zak Tryz.E0 Tryz.mx Tryz.func73 (by kernel_rfl) rfl (Nat.le_of_ble_eq_true rfl) rfl fun hcl hbl=>?_
 (repeat' ((conv=>whnf);(first|refine DrawN.mk' [] ?_|fail)));all_goals (conv=>whnf)
 refine za3 Tryz.E0 Tryz.mx (σ:=Nat) (fun k=>k≤s.preds.length∧∀ y∈s.preds.take k,(fun p=>(m.facts.find? (factP p.1 p.2)).isSome) y=true) (fun k=>s.preds.length-k) (fun k=>[(20,.v (.int .i64 k))]) (fun _=>_) _ 0 rfl hcl [2,3,18,19] rfl ⟨Nat.zero_le _,fun y hy=>(by cases hy)⟩ ⟨⟨_,rfl,Wk.refl _⟩,trivial⟩ rfl (fun _ _=>rfl) ?_
 rintro k ⟨hk,hinv⟩
 rcases Nat.lt_or_ge k s.preds.length with hlt|hge
 ·obtain ⟨u,v,hx,e1⟩:=symI_ex (s.preds.getD k symI0)
  have hfc:=hf1 u v
  have hbv:(fun p=>(m.facts.find? (factP p.1 p.2)).isSome) (s.preds.getD k symI0)=(m.facts.find? (factP u v)).isSome:=by rw [hx]
  obtain ⟨x1,x2,x3,hxx,hxc⟩:=fct_ex (f:=(m.facts.find? (factP u v)).getD fct0) rfl
  rw [hxc] at hfc
  cases hb:(m.facts.find? (factP u v)).isSome <;> rw [hb] at hfc hbv
  ·rw [all_no symI0 hlt hbv,Bool.false_and]
   (repeat' ((conv=>whnf);(first|(refine IfN.id ?_;first|refine IfN.not ?_|refine IfN.ff rfl ?_|refine IfN.dT (by omega) ?_|fail)|(refine SideN.mk ?_ ?_;· first|kernel_rfl|omega|exact List.cons_ne_nil _ _|(simp;done)|(simp;omega)|exact trivial|assumption|fail)|refine CallN.det _ (hfc _) ?_|refine SegN.nthE symI0 k rfl (by omega) symI_size e1 ?_|refine DrawN.mk' [] ?_|fail)));all_goals (conv=>whnf)
   exact EndN.det trivial (Wk.refl _)
  ·(repeat' ((conv=>whnf);(first|(refine IfN.id ?_;first|refine IfN.not ?_|refine IfN.tt rfl ?_|refine IfN.dT (by omega) ?_|fail)|(refine EqN.addN _ _ Cst.h Cst.h ?_ ?_;· omega)|(refine SideN.mk ?_ ?_;· first|kernel_rfl|omega|exact List.cons_ne_nil _ _|(simp;done)|(simp;omega)|exact trivial|assumption|fail)|refine CallN.det _ (hfc _) ?_|refine SegN.nthE symI0 k rfl (by omega) symI_size e1 ?_|refine DrawN.mk' [] ?_|fail)));all_goals (conv=>whnf)
   (refine ⟨⟨k+1,⟨by omega,all_take symI0 hlt hinv hbv⟩,by omega,?_,.inl ⟨rfl,rfl⟩,rfl,_,rfl,?_⟩⟩;rotate_left 1;(first|exact .inl rfl|exact .inr ⟨by simp [zal,below,zaa,tr,zag,zaf,zah,zad,zai,zaj,zac,zae],by simp [zap,Blk.below,zaa,below,zag,zaf,zah,zad,zai,zaj,zac,zae]⟩|fail);(repeat' (first|exact trivial|refine ⟨⟨_,rfl,?_⟩,?_⟩|fail));all_goals try (first|exact Wk.refl _|exact Wk.of_eq (congrArg (AV.int _) (by omega))|fail))
 ·have hke:k=s.preds.length:=by omega
  subst hke
  rw [List.take_length] at hinv
  rw [List.all_eq_true.2 hinv,Bool.true_and]
  (repeat' ((conv=>whnf);(first|refine IfN.dF (by omega) ?_|refine DrawN.mk' [] ?_|fail)));all_goals (conv=>whnf)
  refine za3 Tryz.E0 Tryz.mx (σ:=Nat) (fun k=>k≤s.funcs.length∧∀ y∈s.funcs.take k,(fun p=>(m.funcs.find? (funcP p.1 p.2)).isSome) y=true) (fun k=>s.funcs.length-k) (fun k=>[(37,.v (.int .i64 k))]) (fun _=>_) _ 0 rfl hcl [2,3,35,36] rfl ⟨Nat.zero_le _,fun y hy=>(by cases hy)⟩ ⟨⟨_,rfl,Wk.refl _⟩,trivial⟩ rfl (fun _ _=>rfl) ?_
  rintro k ⟨hk,hinv⟩
  rcases Nat.lt_or_ge k s.funcs.length with hlt|hge
  ·obtain ⟨u,v,hx,e1⟩:=symI_ex (s.funcs.getD k symI0)
   have hfc:=hf2 u v
   have hbv:(fun p=>(m.funcs.find? (funcP p.1 p.2)).isSome) (s.funcs.getD k symI0)=(m.funcs.find? (funcP u v)).isSome:=by rw [hx]
   obtain ⟨x1,x2,x3,hxx,hxc⟩:=fnc_ex (f:=(m.funcs.find? (funcP u v)).getD fnc0) rfl
   rw [hxc] at hfc
   cases hb:(m.funcs.find? (funcP u v)).isSome <;> rw [hb] at hfc hbv
   ·rw [all_no symI0 hlt hbv,Bool.false_and]
    (repeat' ((conv=>whnf);(first|(refine IfN.id ?_;first|refine IfN.not ?_|refine IfN.ff rfl ?_|refine IfN.dT (by omega) ?_|fail)|(refine SideN.mk ?_ ?_;· first|kernel_rfl|omega|exact List.cons_ne_nil _ _|(simp;done)|(simp;omega)|exact trivial|assumption|fail)|refine CallN.det _ (hfc _) ?_|refine SegN.nthE symI0 k rfl (by omega) symI_size e1 ?_|refine DrawN.mk' [] ?_|fail)));all_goals (conv=>whnf)
    exact EndN.det trivial (Wk.refl _)
   ·(repeat' ((conv=>whnf);(first|(refine IfN.id ?_;first|refine IfN.not ?_|refine IfN.tt rfl ?_|refine IfN.dT (by omega) ?_|fail)|(refine EqN.addN _ _ Cst.h Cst.h ?_ ?_;· omega)|(refine SideN.mk ?_ ?_;· first|kernel_rfl|omega|exact List.cons_ne_nil _ _|(simp;done)|(simp;omega)|exact trivial|assumption|fail)|refine CallN.det _ (hfc _) ?_|refine SegN.nthE symI0 k rfl (by omega) symI_size e1 ?_|refine DrawN.mk' [] ?_|fail)));all_goals (conv=>whnf)
    (refine ⟨⟨k+1,⟨by omega,all_take symI0 hlt hinv hbv⟩,by omega,?_,.inl ⟨rfl,rfl⟩,rfl,_,rfl,?_⟩⟩;rotate_left 1;(first|exact .inl rfl|exact .inr ⟨by simp [zal,below,zaa,tr,zag,zaf,zah,zad,zai,zaj,zac,zae],by simp [zap,Blk.below,zaa,below,zag,zaf,zah,zad,zai,zaj,zac,zae]⟩|fail);(repeat' (first|exact trivial|refine ⟨⟨_,rfl,?_⟩,?_⟩|fail));all_goals try (first|exact Wk.refl _|exact Wk.of_eq (congrArg (AV.int _) (by omega))|fail))
  ·have hke:k=s.funcs.length:=by omega
   subst hke
   rw [List.take_length] at hinv
   rw [List.all_eq_true.2 hinv,Bool.true_and]
   (repeat' ((conv=>whnf);(first|refine IfN.dF (by omega) ?_|refine DrawN.mk' [] ?_|fail)));all_goals (conv=>whnf)
   refine za3 Tryz.E0 Tryz.mx (σ:=Nat) (fun k=>k≤s.vars.length∧∀ y∈s.vars.take k,(fun x=>(m.binds.find? (bindP x)).isSome) y=true) (fun k=>s.vars.length-k) (fun k=>[(54,.v (.int .i64 k))]) (fun _=>_) _ 0 rfl hcl [2,52,53] rfl ⟨Nat.zero_le _,fun y hy=>(by cases hy)⟩ ⟨⟨_,rfl,Wk.refl _⟩,trivial⟩ rfl (fun _ _=>rfl) ?_
   rintro k ⟨hk,hinv⟩
   rcases Nat.lt_or_ge k s.vars.length with hlt|hge
   ·obtain ⟨u,hx,e1⟩:=encS_ex (s.vars.getD k ByteArray.empty)
    have hfc:=hf3 u
    have hbv:(fun x=>(m.binds.find? (bindP x)).isSome) (s.vars.getD k ByteArray.empty)=(m.binds.find? (bindP u)).isSome:=by rw [hx]
    obtain ⟨x1,x2,hxx,hxc⟩:=bnd_ex (f:=(m.binds.find? (bindP u)).getD bnd0) rfl
    rw [hxc] at hfc
    cases hb:(m.binds.find? (bindP u)).isSome <;> rw [hb] at hfc hbv
    ·rw [all_no ByteArray.empty hlt hbv]
     (repeat' ((conv=>whnf);(first|(refine IfN.id ?_;first|refine IfN.not ?_|refine IfN.ff rfl ?_|refine IfN.dT (by omega) ?_|fail)|(refine SideN.mk ?_ ?_;· first|kernel_rfl|omega|exact List.cons_ne_nil _ _|(simp;done)|(simp;omega)|exact trivial|assumption|fail)|refine CallN.det _ (hfc _) ?_|refine SegN.nthE ByteArray.empty k rfl (by omega) encS_size e1 ?_|refine DrawN.mk' [] ?_|fail)));all_goals (conv=>whnf)
     exact EndN.det trivial (Wk.refl _)
    ·(repeat' ((conv=>whnf);(first|(refine IfN.id ?_;first|refine IfN.not ?_|refine IfN.tt rfl ?_|refine IfN.dT (by omega) ?_|fail)|(refine EqN.addN _ _ Cst.h Cst.h ?_ ?_;· omega)|(refine SideN.mk ?_ ?_;· first|kernel_rfl|omega|exact List.cons_ne_nil _ _|(simp;done)|(simp;omega)|exact trivial|assumption|fail)|refine CallN.det _ (hfc _) ?_|refine SegN.nthE ByteArray.empty k rfl (by omega) encS_size e1 ?_|refine DrawN.mk' [] ?_|fail)));all_goals (conv=>whnf)
     (refine ⟨⟨k+1,⟨by omega,all_take ByteArray.empty hlt hinv hbv⟩,by omega,?_,.inl ⟨rfl,rfl⟩,rfl,_,rfl,?_⟩⟩;rotate_left 1;(first|exact .inl rfl|exact .inr ⟨by simp [zal,below,zaa,tr,zag,zaf,zah,zad,zai,zaj,zac,zae],by simp [zap,Blk.below,zaa,below,zag,zaf,zah,zad,zai,zaj,zac,zae]⟩|fail);(repeat' (first|exact trivial|refine ⟨⟨_,rfl,?_⟩,?_⟩|fail));all_goals try (first|exact Wk.refl _|exact Wk.of_eq (congrArg (AV.int _) (by omega))|fail))
   ·have hke:k=s.vars.length:=by omega
    subst hke
    rw [List.take_length] at hinv
    rw [List.all_eq_true.2 hinv]
    (repeat' ((conv=>whnf);(first|refine IfN.dF (by omega) ?_|refine DrawN.mk' [] ?_|fail)));all_goals (conv=>whnf)
    exact EndN.det trivial (Wk.refl _)
end
section
attribute [local irreducible] VW VCall VO bits
theorem frT_mem (c:ByteArray→Int) (x:ByteArray):∀ (t:Tq) (ns:List ByteArray),x∈frT c ns t.tm↔x∈ns∨(t.hasV x∧c x=0)
 | .vr s,ns=>by
   show x∈frT c ns (.mk true s [])↔x∈ns∨(s=x∧c x=0)
   rw [frT_mk,frTs_nil]
   by_cases h:c s=0
   ·rw [if_pos ⟨rfl,h⟩,mem_insG]
    constructor
    ·rintro (h2|rfl)
     ·exact .inl h2
     ·exact .inr ⟨rfl,h⟩
    ·rintro (h2|⟨rfl,-⟩)
     ·exact .inl h2
     ·exact .inr rfl
   ·rw [if_neg (fun q=>h q.2)]
    exact ⟨.inl,fun q=>q.elim id fun q=>absurd (q.1▸q.2) h⟩
 | .cn s,ns=>by
   show x∈frT c ns (.mk false s [])↔x∈ns∨(False∧c x=0)
   rw [frT_mk,frTs_nil,if_neg (fun q=>by cases q.1)]
   simp
 | .ap s t,ns=>by
   show x∈frT c ns (.mk false s [t.tm])↔x∈ns∨(t.hasV x∧c x=0)
   rw [frT_mk,frTs_cons,frTs_nil,if_neg (fun q=>by cases q.1)]
   exact frT_mem c x t ns
theorem frTs_mem (c:ByteArray→Int) (x:ByteArray):∀ (l:List Tq) (ns:List ByteArray),x∈frTs c ns (l.map Tq.tm)↔x∈ns∨((∃ t∈l,t.hasV x)∧c x=0)
 | [],ns=>by rw [List.map_nil,frTs_nil];simp
 | t::l,ns=>by
   rw [List.map_cons,frTs_cons,frTs_mem c x l,frT_mem,ex_cons]
   constructor
   ·rintro ((h|⟨h1,h2⟩)|⟨h1,h2⟩)
    ·exact .inl h
    ·exact .inr ⟨.inl h1,h2⟩
    ·exact .inr ⟨.inr h1,h2⟩
   ·rintro (h|⟨h1|h1,h2⟩)
    ·exact .inl (.inl h)
    ·exact .inl (.inr ⟨h1,h2⟩)
    ·exact .inr ⟨h1,h2⟩
theorem frF_mem (x:ByteArray):∀ (p:Fq) (c:ByteArray→Int) (ns:List ByteArray),p.Ok→(∀ y,0≤c y)→(x∈frF c ns p.fo↔x∈ns∨(p.free x∧c x=0))
 | .at_ s l,c,ns,_,_=>by
   show x∈frF c ns (.mk 1 s (l.map Tq.tm) [])↔x∈ns∨((∃ t∈l,t.hasV x)∧c x=0)
   rw [frF_mk,frFs_nil,frTs_mem]
 | .fa,c,ns,_,_=>by
   show x∈frF c ns (.mk 2 .empty [] [])↔x∈ns∨(False∧c x=0)
   rw [frF_mk,frFs_nil,frTs_nil]
   simp
 | .f1 a,c,ns,h,hc=>by
   show x∈frF c ns (.mk 3 .empty [] [a.fo])↔x∈ns∨(a.free x∧c x=0)
   rw [frF_mk,frFs_cons,frFs_nil,frTs_nil]
   exact frF_mem x a c ns h hc
 | .f2 k a b,c,ns,h,hc=>by
   have hq:isQ k=false:=by rcases h.1 with rfl|rfl|rfl|rfl <;> rfl
   show x∈frF c ns (.mk k .empty [] [a.fo,b.fo])↔x∈ns∨((a.free x∨b.free x)∧c x=0)
   rw [frF_mk,frFs_cons,frFs_cons,frFs_nil,frTs_nil,hq]
   simp only [Bool.false_eq_true,if_false]
   rw [frF_mem x b c _ h.2.2 hc,frF_mem x a c _ h.2.1 hc]
   constructor
   ·rintro ((h|⟨h1,h2⟩)|⟨h1,h2⟩)
    ·exact .inl h
    ·exact .inr ⟨.inl h1,h2⟩
    ·exact .inr ⟨.inr h1,h2⟩
   ·rintro (h|⟨h1|h1,h2⟩)
    ·exact .inl (.inl h)
    ·exact .inl (.inr ⟨h1,h2⟩)
    ·exact .inr ⟨h1,h2⟩
 | .qn k y a,c,ns,h,hc=>by
   have hq:isQ k=true:=by rcases h.1 with rfl|rfl <;> rfl
   show x∈frF c ns (.mk k y [] [a.fo])↔x∈ns∨((a.free x∧x≠y)∧c x=0)
   rw [frF_mk,frFs_cons,frFs_nil,frTs_nil,hq]
   simp only [if_true]
   rw [frF_mem x a _ _ h.2 (fun z=>by
    unfold updC
    split
    ·have:=hc y;omega
    ·exact hc z)]
   have hcy:=hc y
   unfold updC
   by_cases hxy:x=y
   ·subst hxy
    rw [if_pos rfl]
    constructor
    ·rintro (h|⟨-,h2⟩)
     ·exact .inl h
     ·omega
    ·rintro (h|⟨⟨-,h1⟩,-⟩)
     ·exact .inl h
     ·exact absurd rfl h1
   ·rw [if_neg hxy]
    exact ⟨fun q=>q.elim .inl fun q=>.inr ⟨⟨q.1,hxy⟩,q.2⟩,fun q=>q.elim .inl fun q=>.inr ⟨q.1.1,q.2⟩⟩
theorem mem_freeF {p:Fq} (h:p.Ok) (x:ByteArray):x∈freeF p.fo↔p.free x:=by
 unfold freeF
 rw [frF_mem x p _ _ h (fun _=>Int.le_refl _)]
 simp
theorem vm_of {m:Mdl} (h:validM m=true):VM m m.size.toNat∧m.kind=2∧m.rel.length=0∧m.loop=0:=by
 unfold validM at h
 rw [Bool.and_eq_true,Bool.and_eq_true,Bool.and_eq_true,Bool.and_eq_true,decide_eq_true_eq] at h
 obtain ⟨⟨q1,q2,q3,q4,q5⟩,hs,h1,h2,h3⟩:=h
 unfold sigR at hs
 rw [Bool.and_eq_true,Bool.and_eq_true] at hs
 rw [List.all_eq_true] at h1 h2 h3
 refine ⟨⟨by omega,by omega,by omega,fun f hf=>?_,fun f hf=>?_,fun b hb=>?_⟩,q1,q4,q5⟩
 ·have hp:=inc_p hs.1 (f.nm,f.ar) (List.mem_map.2 ⟨f,hf,rfl⟩)
  unfold predO at hp
  simp only [Bool.and_eq_true,decide_eq_true_eq] at hp
  have ho:=h1 f hf
  unfold okFct at ho
  simp only [Bool.and_eq_true,decide_eq_true_eq] at ho
  exact ⟨by omega,ho.1,by have:=ho.2;omega⟩
 ·have hp:=inc_p hs.2.1 (f.nm,f.ar) (List.mem_map.2 ⟨f,hf,rfl⟩)
  unfold funcO at hp
  simp only [Bool.and_eq_true,decide_eq_true_eq] at hp
  have ho:=h2 f hf
  unfold okFnc at ho
  rw [Bool.and_eq_true,decide_eq_true_eq,List.all_eq_true] at ho
  refine ⟨by omega,ho.1,fun v hv=>?_⟩
  have he:=ho.2 v hv
  unfold elB at he
  simp only [Bool.and_eq_true,decide_eq_true_eq] at he
  omega
 ·have he:=h3 b hb
  unfold okBnd elB at he
  simp only [Bool.and_eq_true,decide_eq_true_eq] at he
  omega
theorem has_of {m:Mdl} {p:Fq} (hok:p.Ok) (h:hasB m (sigF p.fo)=true):(∀ s a,p.hasP s a→hasFct m s a)∧(∀ s a,p.hasC s a→hasFnc m s a)∧∀ x,p.free x→hasBnd m x:=by
 unfold hasB at h
 rw [Bool.and_eq_true,Bool.and_eq_true,List.all_eq_true,List.all_eq_true,List.all_eq_true] at h
 have nn:∀ (q:Fq) (s:ByteArray) (a:Int),q.hasP s a→0≤a:=by
  intro q
  induction q with
  | at_ c l=>intro s a h;have:=h.2;omega
  | fa=>intro s a h;exact h.elim
  | f1 q ih=>exact fun s a h=>ih s a h
  | f2 k q r ih1 ih2=>exact fun s a h=>h.elim (ih1 s a) (ih2 s a)
  | qn k x q ih=>exact fun s a h=>ih s a h
 have nt:∀ (t:Tq) (s:ByteArray) (a:Int),t.hasC s a→0≤a:=by
  intro t
  induction t with
  | vr c=>intro s a h;exact h.elim
  | cn c=>intro s a h;have:=h.2;omega
  | ap c t ih=>exact fun s a h=>h.elim (fun h=>by have:=h.2;omega) (ih s a)
 have nc:∀ (q:Fq) (s:ByteArray) (a:Int),q.hasC s a→0≤a:=by
  intro q
  induction q with
  | at_ c l=>exact fun s a ⟨t,_,h⟩=>nt t s a h
  | fa=>intro s a h;exact h.elim
  | f1 q ih=>exact fun s a h=>ih s a h
  | f2 k q r ih1 ih2=>exact fun s a h=>h.elim (ih1 s a) (ih2 s a)
  | qn k x q ih=>exact fun s a h=>ih s a h
 refine ⟨fun s a hp=>?_,fun s a hp=>?_,fun x hp=>?_⟩
 ·obtain ⟨n,rfl⟩:∃ n:Nat,a=n:=⟨a.toNat,by have:=nn p s a hp;omega⟩
  exact h.1 (s,(n:Int)) (List.mem_map.2 ⟨(s,n),(sortY_perm _).mem_iff.2 ((mem_predY hok (s,n)).2 hp),rfl⟩)
 ·obtain ⟨n,rfl⟩:∃ n:Nat,a=n:=⟨a.toNat,by have:=nc p s a hp;omega⟩
  exact h.2.1 (s,(n:Int)) (List.mem_map.2 ⟨(s,n),(sortY_perm _).mem_iff.2 ((mem_funY hok (s,n)).2 hp),rfl⟩)
 ·exact h.2.2 x ((sortB_perm _).mem_iff.2 ((mem_freeF hok x).2 hp))
theorem qd_rank:∀ p:Fq,p.Ok→qdF p.fo=rankF p
 | .at_ s l,_=>by show qdF (.mk 1 s (l.map Tq.tm) [])=0;rw [qdF_mk];rw [qdFs.eq_def];rfl
 | .fa,_=>by show qdF (.mk 2 .empty [] [])=0;rw [qdF_mk,qdFs.eq_def];rfl
 | .f1 a,h=>by
   show qdF (.mk 3 .empty [] [a.fo])=rankF a
   rw [qdF_mk,qdFs_cons,qdFs.eq_def,qd_rank a h]
   show 0+max (rankF a) 0=rankF a
   omega
 | .f2 k a b,h=>by
   have hq:isQ k=false:=by rcases h.1 with rfl|rfl|rfl|rfl <;> rfl
   show qdF (.mk k .empty [] [a.fo,b.fo])=max (rankF a) (rankF b)
   rw [qdF_mk,qdFs_cons,qdFs_cons,qdFs.eq_def,qd_rank a h.2.1,qd_rank b h.2.2,hq]
   show 0+max (rankF a) (max (rankF b) 0)=_
   omega
 | .qn k x a,h=>by
   have hq:isQ k=true:=by rcases h.1 with rfl|rfl <;> rfl
   show qdF (.mk k x [] [a.fo])=rankF a+1
   rw [qdF_mk,qdFs_cons,qdFs.eq_def,qd_rank a h.2,hq]
   show 1+max (rankF a) 0=_
   omega
structure FqSm (p:Fq):Prop where
 good:p.fo.good
 ok:p.Ok
 lp:(predY p.fo).length≤1000000
 lu:(funY p.fo).length≤1000000
 lv:(freeF p.fo).length≤1000000
theorem eval_c (m:Mdl) (hm:m.Sm) (hn:m.Nm) (p:Fq) (hp:FqSm p) (hva:validM m=true) (hr:rightF p.fo=true) (H:Heap):VDet Tryz.prog 18 [.agg m.cells,.agg p.fo.cells] H (if 6<rankF p then .tup [.bool false,.int .i64 3] else if hasB m (sigF p.fo) then .tup [.bool (hv m p (bindF m)),.int .i64 0] else .tup [.bool false,.int .i64 6]):=by
 obtain ⟨hg,hok,l1,l2,l3⟩:=hp
 have hrk:rankF p≤40:=by
  have hh:(jF 1 p.fo 400).2=true:=by
   unfold rightF at hr
   rw [Bool.and_eq_true] at hr
   exact hr.1
  have:=rank_bd p 1 400 hok hh
  omega
 have g1:=fun H=>valid_c m hm hn H
 have g2:=fun H=>rightQ_c p.fo hg H
 have g3:=rank_c p hok (by omega)
 have g4:=fun H=>symbols_c p.fo hg l1 l2 l3 (by rw [qd_rank p hok];omega) H
 have g5:=fun H=>has_c m hm (sigF p.fo) (by show ((sortY _).map _).length≤_;rw [List.length_map,(sortY_perm _).length_eq];exact l1) (by show ((sortY _).map _).length≤_;rw [List.length_map,(sortY_perm _).length_eq];exact l2) (by show (sortB _).length≤_;rw [(sortB_perm _).length_eq];exact l3) H
 obtain ⟨vm,-,-,-⟩:=vm_of hva
 have g6:=fun H=>valuesOf_c m H
 have g7:hasB m (sigF p.fo)=true→∀ H,VDet Tryz.prog 75 [.agg m.cells,.agg p.fo.cells,.clo (.func 155) [] [.rptr m.cells]] H (.bool (hv m p (bindF m))):=fun hh H=>by
  obtain ⟨q1,q2,q3⟩:=has_of hok hh
  exact holds_c m hm _ vm p hok (values_c m hm) (fun x hx=>by
   obtain ⟨b,hb,-,he⟩:=bind_in (q3 x hx)
   rw [he]
   exact vm.binds b hb) q2 q1 H
 rw [hva] at g1
 rw [hr] at g2
 obtain ⟨sp,sc,sfu,sfc,sv,svc,hsc,hsb⟩:∃ a b c d e f,(sigF p.fo).cells=[.sl none a b,.sl none c d,.sl none e f]∧∀ n,zaa n b∧zaa n d∧zaa n f:=⟨_,_,_,_,_,_,rfl,fun n=>⟨zac n _,zac n _,zae n _⟩⟩
 obtain ⟨e1,e2,e3,e4,e5,e6,e7,e8,e9,e10,e11,hmc,hb⟩:=mdl_ex m
 obtain ⟨w1,w2,w3,w4,w5,w6,hw,hwb⟩:=fo_ex4 p.fo
 generalize hv m p (bindF m)=hV at g7 ⊢
 generalize hasB m (sigF p.fo)=hB at g5 g7 ⊢
 rw [hmc] at g1 g5 g6 g7 ⊢
 rw [hw] at g2 g3 g4 g7 ⊢
 rw [hsc] at g4 g5
 have g4:∀ H,VDet Tryz.prog 74 [.sx 1 [.int .u8 (w1:Nat),.str w2,.sl none w3 w4,.sl none w5 w6]] H (.agg [.sl none sp sc,.sl none sfu sfc,.sl none sv svc]):=fun H=>VDet.wk (g4 H) ⟨wk_sx _ _,trivial⟩
 by_cases hc:6<rankF p
 ·rw [if_pos hc]
  refine zak Tryz.E0 Tryz.mx Tryz.func18 (by kernel_rfl) rfl (Nat.le_of_ble_eq_true rfl) rfl fun hcl hbl=>?_
  (repeat' ((conv=>whnf);(first|(refine IfN.id ?_;first|refine IfN.not ?_|refine IfN.tt rfl ?_|refine IfN.dT (by omega) ?_|fail)|(refine CallN.id ?_;first|refine CallN.det _ (g1 _) ?_|refine CallN.det _ (g2 _) ?_|refine CallN.det _ (g3 _) ?_|fail)|refine DrawN.mk' [] ?_|fail)));all_goals (conv=>whnf)
  exact EndN.det (by simp [below,zaa]) (Wk.refl _)
 ·rw [if_neg hc]
  cases hB
  ·refine zak Tryz.E0 Tryz.mx Tryz.func18 (by kernel_rfl) rfl (Nat.le_of_ble_eq_true rfl) rfl fun hcl hbl=>?_
   (repeat' ((conv=>whnf);(first|(refine IfN.id ?_;first|refine IfN.not ?_|refine IfN.tt rfl ?_|refine IfN.ff rfl ?_|refine IfN.dF (by omega) ?_|fail)|(refine SideN.mk ?_ ?_;· first|kernel_rfl|omega|exact List.cons_ne_nil _ _|(simp;done)|(simp;omega)|exact trivial|assumption|fail)|(refine CallN.id ?_;first|refine CallN.det _ (g1 _) ?_|refine CallN.det _ (g2 _) ?_|refine CallN.det _ (g3 _) ?_|fail)|(refine CallD.id ?_;first|refine CallD.det _ (fun _ hq X=>g4 _) ?_|refine CallD.det _ (fun _ hq X=>g5 _) ?_|fail)|refine DrawN.mk' [] ?_|fail)));all_goals (conv=>whnf)
   exact EndN.det (by simp [below,zaa]) (Wk.refl _)
  ·have g8:=g7 rfl
   refine zak Tryz.E0 Tryz.mx Tryz.func18 (by kernel_rfl) rfl (Nat.le_of_ble_eq_true rfl) rfl fun hcl hbl=>?_
   (repeat' ((conv=>whnf);(first|(refine IfN.id ?_;first|refine IfN.not ?_|refine IfN.tt rfl ?_|refine IfN.dF (by omega) ?_|fail)|(refine SideN.mk ?_ ?_;· first|kernel_rfl|omega|exact List.cons_ne_nil _ _|(simp;done)|(simp;omega)|exact trivial|assumption|fail)|(refine CallN.id ?_;first|refine CallN.det _ (g1 _) ?_|refine CallN.det _ (g2 _) ?_|refine CallN.det _ (g3 _) ?_|fail)|(refine CallD.id ?_;first|refine CallD.det _ (fun _ hq X=>g4 _) ?_|refine CallD.det _ (fun _ hq X=>g5 _) ?_|refine CallD.det _ (fun _ hq X=>g6 _) ?_|refine CallD.det _ (fun _ hq X=>g8 _) ?_|fail)|refine DrawN.mk' [] ?_|fail)));all_goals (conv=>whnf)
   exact EndN.det (by simp [below,zaa]) (Wk.refl _)
end
section
attribute [local irreducible] VW VCall VO bits
theorem join133_c (k n:Nat) (l:List AV) (hb:∀ m,zaa m l) (H:Heap):VDet Tryz.prog 133 [.int .u8 k,.sl none n l] H (.agg [.int .u8 k,.str .empty,.sl none 0 [],.sl none n l]):=by
 refine zak Tryz.E0 Tryz.mx Tryz.func133 (by kernel_rfl) rfl (Nat.le_of_ble_eq_true rfl) rfl fun hcl hbl=>?_
 (repeat' ((conv=>whnf);(first|refine DrawN.mk' [] ?_|fail)));all_goals (conv=>whnf)
 refine EndN.det (by simp [below,zaa,hb]) ?_
 (repeat' (first|exact trivial|refine And.intro ?_ ?_|exact Wk.refl _|exact wk_sl _ _ _|exact wk_sx _ _|exact wk_nils|refine wk_agg ?_|refine wk_tup ?_|fail));done
theorem atom132_c (s:ByteArray) (n:Nat) (l:List AV) (hb:∀ m,zaa m l) (H:Heap):VDet Tryz.prog 132 [.str s,.sl none n l] H (.agg [.int .u8 1,.str s,.sl none n l,.sl none 0 []]):=by
 refine zak Tryz.E0 Tryz.mx Tryz.func132 (by kernel_rfl) rfl (Nat.le_of_ble_eq_true rfl) rfl fun hcl hbl=>?_
 (repeat' ((conv=>whnf);(first|refine DrawN.mk' [] ?_|fail)));all_goals (conv=>whnf)
 refine EndN.det (by simp [below,zaa,hb]) ?_
 (repeat' (first|exact trivial|refine And.intro ?_ ?_|exact Wk.refl _|exact wk_sl _ _ _|exact wk_sx _ _|exact wk_nils|refine wk_agg ?_|refine wk_tup ?_|fail));done
theorem atom14_c (s:ByteArray) (n:Nat) (l:List AV) (hb:∀ m,zaa m l) (H:Heap):VDet Tryz.prog 14 [.str s,.sl none n l] H (.agg [.int .u8 1,.str s,.sl none n l,.sl none 0 []]):=by
 refine zak Tryz.E0 Tryz.mx Tryz.func14 (by kernel_rfl) rfl (Nat.le_of_ble_eq_true rfl) rfl fun hcl hbl=>?_
 (repeat' ((conv=>whnf);(first|refine DrawN.mk' [] ?_|fail)));all_goals (conv=>whnf)
 refine EndN.det (by simp [below,zaa,hb]) ?_
 (repeat' (first|exact trivial|refine And.intro ?_ ?_|exact Wk.refl _|exact wk_sl _ _ _|exact wk_sx _ _|exact wk_nils|refine wk_agg ?_|refine wk_tup ?_|fail));done
theorem v186_c (s:ByteArray) (H:Heap):VDet Tryz.prog 186 [.str s] H (.agg [.bool true,.str s,.sl none 0 []]):=by
 refine zak Tryz.E0 Tryz.mx Tryz.func186 (by kernel_rfl) rfl (Nat.le_of_ble_eq_true rfl) rfl fun hcl hbl=>?_
 (repeat' ((conv=>whnf);(first|refine DrawN.mk' [] ?_|fail)));all_goals (conv=>whnf)
 refine EndN.det (by simp [below,zaa]) ?_
 (repeat' (first|exact trivial|refine And.intro ?_ ?_|exact Wk.refl _|exact wk_sl _ _ _|exact wk_sx _ _|exact wk_nils|refine wk_agg ?_|refine wk_tup ?_|fail));done
theorem v22_c (s:ByteArray) (H:Heap):VDet Tryz.prog 22 [.str s] H (.agg [.bool true,.str s,.sl none 0 []]):=by
 refine zak Tryz.E0 Tryz.mx Tryz.func22 (by kernel_rfl) rfl (Nat.le_of_ble_eq_true rfl) rfl fun hcl hbl=>?_
 (repeat' ((conv=>whnf);(first|refine DrawN.mk' [] ?_|fail)));all_goals (conv=>whnf)
 refine EndN.det (by simp [below,zaa]) ?_
 (repeat' (first|exact trivial|refine And.intro ?_ ?_|exact Wk.refl _|exact wk_sl _ _ _|exact wk_sx _ _|exact wk_nils|refine wk_agg ?_|refine wk_tup ?_|fail));done
theorem fn187_c (s:ByteArray) (n:Nat) (l:List AV) (hb:∀ m,zaa m l) (H:Heap):VDet Tryz.prog 187 [.str s,.sl none n l] H (.agg [.bool false,.str s,.sl none n l]):=by
 refine zak Tryz.E0 Tryz.mx Tryz.func187 (by kernel_rfl) rfl (Nat.le_of_ble_eq_true rfl) rfl fun hcl hbl=>?_
 (repeat' ((conv=>whnf);(first|refine DrawN.mk' [] ?_|fail)));all_goals (conv=>whnf)
 refine EndN.det (by simp [below,zaa,hb]) ?_
 (repeat' (first|exact trivial|refine And.intro ?_ ?_|exact Wk.refl _|exact wk_sl _ _ _|exact wk_sx _ _|exact wk_nils|refine wk_agg ?_|refine wk_tup ?_|fail));done
theorem fn68_c (s:ByteArray) (n:Nat) (l:List AV) (hb:∀ m,zaa m l) (H:Heap):VDet Tryz.prog 68 [.str s,.sl none n l] H (.agg [.bool false,.str s,.sl none n l]):=by
 refine zak Tryz.E0 Tryz.mx Tryz.func68 (by kernel_rfl) rfl (Nat.le_of_ble_eq_true rfl) rfl fun hcl hbl=>?_
 (repeat' ((conv=>whnf);(first|refine DrawN.mk' [] ?_|fail)));all_goals (conv=>whnf)
 refine EndN.det (by simp [below,zaa,hb]) ?_
 (repeat' (first|exact trivial|refine And.intro ?_ ?_|exact Wk.refl _|exact wk_sl _ _ _|exact wk_sx _ _|exact wk_nils|refine wk_agg ?_|refine wk_tup ?_|fail));done
theorem bound_c (k:Nat) (x:ByteArray) (f:Fo) (H:Heap):VDet Tryz.prog 24 [.int .u8 k,.str x,.agg f.cells] H (.agg [.int .u8 k,.str x,.sl none 0 [],.sl none 1 f.cells]):=by
 obtain ⟨w1,w2,w3,w4,w5,w6,hw,hb⟩:=fo_ex4 f
 rw [hw]
 refine zak Tryz.E0 Tryz.mx Tryz.func24 (by kernel_rfl) rfl (Nat.le_of_ble_eq_true rfl) rfl fun hcl hbl=>?_
 (repeat' ((conv=>whnf);(first|refine DrawN.mk' [] ?_|fail)));all_goals (conv=>whnf)
 refine EndN.det (by simp [below,zaa,hb]) ?_
 (repeat' (first|exact trivial|refine And.intro ?_ ?_|exact Wk.refl _|exact wk_sl _ _ _|exact wk_sx _ _|exact wk_nils|refine wk_agg ?_|refine wk_tup ?_|fail));done
def nX:ByteArray:=⟨#[120]⟩
def nY:ByteArray:=⟨#[121]⟩
def nZ:ByteArray:=⟨#[122]⟩
def nA:ByteArray:=⟨#[97]⟩
def nF:ByteArray:=⟨#[102]⟩
def nP:ByteArray:=⟨#[80]⟩
def nQ:ByteArray:=⟨#[81]⟩
def nR:ByteArray:=⟨#[82]⟩
def bts:List Tq:=[.vr nX,.vr nY,.vr nZ,.cn nA]
def bTmI (k:Nat):Nat→Tq
 | 0=>bts.getD (k % 4) (.vr nX)
 | i+1=>.ap nF (bTmI k i)
def bTm (k:Nat):Tq:=bTmI k (k / 4 % 3)
def tqc (t:Tq):List AV:=t.tm.cells
theorem tqc_size (t:Tq):(tqc t).length=3:=tm_size _
def tqb:Tq→Bool
 | .vr _=>true
 | _=>false
def tqs:Tq→ByteArray
 | .vr s=>s
 | .cn s=>s
 | .ap s _=>s
def tqn:Tq→Nat
 | .ap _ _=>1
 | _=>0
def tql:Tq→List AV
 | .ap _ t=>t.tm.cells
 | _=>[]
theorem tqc_eq (t:Tq):tqc t=[.bool (tqb t),.str (tqs t),.sl none (tqn t) (tql t)]:=by
 cases t with
 | vr s=>rfl
 | cn s=>rfl
 | ap s t =>
   show (Tm.mk false s [t.tm]).cells=_
   rw [Tm.cells_mk]
   show [AV.bool false,AV.str s,AV.sl none 1 ([t.tm].flatMap Tm.cells)]=_
   rw [List.flatMap_cons,List.flatMap_nil,List.append_nil]
   rfl
theorem tql_below (n:Nat) (t:Tq):zaa n (tql t):=by
 cases t with
 | vr s=>trivial
 | cn s=>trivial
 | ap s t =>
   have:=zai n [t.tm]
   rwa [List.flatMap_cons,List.flatMap_nil,List.append_nil] at this
theorem bTm_c (k:Nat) (hk:k≤255) (H:Heap):VDet Tryz.prog 131 [.int .u8 k] H (.agg (tqc (bTm k))):=by
 have h1:=fun H=>v186_c nX H
 have h2:=fun H=>v186_c nY H
 have h3:=fun H=>v186_c nZ H
 have h4:∀ H,VDet Tryz.prog 187 [.str nA,.nils] H (.agg [.bool false,.str nA,.sl none 0 []]):=fun H=>VDet.wk (fn187_c nA 0 [] (fun _=>trivial) H) ⟨Wk.refl _,wk_nils,trivial⟩
 have hq:(((k:Nat):Int) % 4)=((k % 4:Nat):Int):=by omega
 have hlt:k % 4<bts.length:=Nat.mod_lt _ (by decide)
 have e1:tqc (bts.getD (k % 4) (.vr nX))=_:=tqc_eq (bTmI k 0)
 have hw:(IntKind.i64.wrap ((k / 4 % (2 ^ IntKind.u8.bits:Int).natAbs:Nat):Int)).tmod 3=((k / 4 % 3:Nat):Int):=by
  have h8:((2 ^ IntKind.u8.bits:Int)).natAbs=256:=by decide
  rw [h8]
  have h9:IntKind.i64.wrap ((k / 4 % 256:Nat):Int)=((k / 4 % 256:Nat):Int):=wrap_small _ (by omega) (by omega)
  rw [h9,Int.tmod_eq_emod_of_nonneg (by omega)]
  omega
 refine zak Tryz.E0 Tryz.mx Tryz.func131 (by kernel_rfl) rfl (Nat.le_of_ble_eq_true rfl) rfl fun hcl hbl=>?_
 (repeat' ((conv=>whnf);(first|refine EqN.remN _ _ Cst.h Cst.h ?_|(refine SideN.mk ?_ ?_;· first|kernel_rfl|omega|exact List.cons_ne_nil _ _|(simp;done)|(simp;omega)|exact trivial|assumption|fail)|(refine CallN.id ?_;first|refine CallN.det _ (h1 _) ?_|refine CallN.det _ (h2 _) ?_|refine CallN.det _ (h3 _) ?_|refine CallN.det _ (h4 _) ?_|fail)|refine SegN.nthE (f:=tqc) (l:=bts) (.vr nX) (k % 4) hq hlt tqc_size e1 ?_|refine DrawN.mk' [] ?_|fail)));all_goals (conv=>whnf)
 refine za3 Tryz.E0 Tryz.mx (σ:=Nat) (fun i=>i≤k / 4 % 3) (fun i=>3-i) (fun i=>[(4,.v (.int .i64 i))]) (fun i=>[.box 51 [.bool false,.str .empty,.nils],.box 51 [.bool (tqb (bTmI k i)),.str (tqs (bTmI k i)),.sl none (tqn (bTmI k i)) (tql (bTmI k i))]]) _ 0 rfl hcl [0,2,3] rfl (Nat.zero_le _) ⟨⟨_,rfl,Wk.refl _⟩,trivial⟩ rfl (fun _ _=>rfl) ?_
 intro i hi
 have h5:∀ H,VDet Tryz.prog 187 [.str nF,.sx 1 [.bool (tqb (bTmI k i)),.str (tqs (bTmI k i)),.sl none (tqn (bTmI k i)) (tql (bTmI k i))]] H (.agg [.bool (tqb (bTmI k (i+1))),.str (tqs (bTmI k (i+1))),.sl none (tqn (bTmI k (i+1))) (tql (bTmI k (i+1)))]):=fun H=>by
  rw [show tql (bTmI k (i+1))=[.bool (tqb (bTmI k i)),.str (tqs (bTmI k i)),.sl none (tqn (bTmI k i)) (tql (bTmI k i))] from tqc_eq (bTmI k i)]
  exact VDet.wk (fn187_c nF 1 _ (fun m=>by simp [below,zaa,tql_below]) H) ⟨Wk.refl _,wk_sx _ _,trivial⟩
 (repeat' ((conv=>whnf);(first|refine IfN.dec (fun _=>?_) (fun _=>?_)|(refine EqN.id ?_;first|(refine EqN.addN _ _ Cst.h Cst.h ?_ ?_;· omega)|refine EqN.remN _ _ Cst.h Cst.h ?_|refine EqN.mk _ rfl ?_|fail)|(refine SideN.mk ?_ ?_;· first|kernel_rfl|omega|exact List.cons_ne_nil _ _|(simp;done)|(simp;omega)|exact trivial|assumption|fail)|refine CallN.det _ (h5 _) ?_|refine DrawN.mk' [] ?_|fail)));all_goals (conv=>whnf)
 ·rename_i hl2
  have hl2:(i:Int)<((k / 4 % 3:Nat):Int):=Int.lt_of_lt_of_le hl2 (Int.le_of_eq hw)
  (refine ⟨⟨i+1,by omega,by omega,?_,.inl ⟨rfl,rfl⟩,rfl,_,rfl,?_⟩⟩;rotate_left 1;(first|exact .inl rfl|exact .inr ⟨by simp [zal,below,zaa,tr,zai,zaj,hb],by simp [zap,Blk.below,zaa,below,zai,zaj,hb]⟩|fail);(repeat' (first|exact trivial|refine ⟨⟨_,rfl,?_⟩,?_⟩|fail));all_goals try (first|exact Wk.refl _|exact Wk.of_eq (congrArg (AV.int _) (by omega))|fail))
 ·rename_i hl2
  have hl2:¬ (i:Int)<((k / 4 % 3:Nat):Int):=fun h=>hl2 (Int.lt_of_lt_of_le h (Int.le_of_eq hw.symm))
  have hie:i=k / 4 % 3:=by omega
  refine EndN.det (by simp [below,zaa,tql_below,tqc_eq]) ?_
  unfold bTm
  rw [tqc_eq,hie]
  exact Wk.refl _
end
section
attribute [local irreducible] VW VCall VO bits
def fop:Fq→Nat
 | .at_ _ _=>1
 | .fa=>2
 | .f1 _=>3
 | .f2 k _ _=>k
 | .qn k _ _=>k
def fnm:Fq→ByteArray
 | .at_ s _=>s
 | .qn _ x _=>x
 | _=>.empty
def ftn:Fq→Nat
 | .at_ _ l=>l.length
 | _=>0
def ftl:Fq→List AV
 | .at_ _ l=>(l.map Tq.tm).flatMap Tm.cells
 | _=>[]
def fsn:Fq→Nat
 | .f1 _=>1
 | .f2 _ _ _=>2
 | .qn _ _ _=>1
 | _=>0
def fsl:Fq→List AV
 | .f1 a=>a.fo.cells
 | .f2 _ a b=>a.fo.cells++b.fo.cells
 | .qn _ _ a=>a.fo.cells
 | _=>[]
def fqx (p:Fq):List AV:=[.int .u8 (fop p:Nat),.str (fnm p),.sl none (ftn p) (ftl p),.sl none (fsn p) (fsl p)]
theorem fqx_eq (p:Fq):p.fo.cells=fqx p:=by
 cases p with
 | at_ s l=>show (Fo.mk 1 s (l.map Tq.tm) []).cells=_;rw [Fo.cells_mk,List.length_map];rfl
 | fa=>show (Fo.mk 2 .empty [] []).cells=_;rw [Fo.cells_mk];rfl
 | f1 a=>show (Fo.mk 3 .empty [] [a.fo]).cells=_;rw [Fo.cells_mk];simp only [List.flatMap_cons,List.flatMap_nil,List.append_nil];rfl
 | f2 k a b=>show (Fo.mk k .empty [] [a.fo,b.fo]).cells=_;rw [Fo.cells_mk];simp only [List.flatMap_cons,List.flatMap_nil,List.append_nil];rfl
 | qn k x a=>show (Fo.mk k x [] [a.fo]).cells=_;rw [Fo.cells_mk];simp only [List.flatMap_cons,List.flatMap_nil,List.append_nil];rfl
theorem fob (n:Nat) (p:Fo):zaa n p.cells:=by
 have:=zaj n [p]
 rwa [List.flatMap_cons,List.flatMap_nil,List.append_nil] at this
theorem ftl_below (n:Nat) (p:Fq):zaa n (ftl p):=by
 cases p with
 | at_ s l=>exact zai n _
 | _=>trivial
theorem fsl_below (n:Nat) (p:Fq):zaa n (fsl p):=by
 cases p with
 | at_ s l=>trivial
 | fa=>trivial
 | f1 a=>exact fob n _
 | f2 k a b=>exact (zav _ _).2 ⟨fob n _,fob n _⟩
 | qn k x a=>exact fob n _
theorem fqx_below (n:Nat) (p:Fq):zaa n (fqx p):=fqx_eq p▸fob n _
theorem zbb (n:Nat) (l:List Fq):zaa n (l.flatMap fqx):=belowL_flat _ fun x=>fqx_below n x
def encB (x:Nat):List AV:=[.int .u8 x]
theorem encB_below (n:Nat) (l:List Nat):zaa n (l.flatMap encB):=belowL_flat _ fun x=>by simp [encB,zaa,below]
def gF (S:List Fq) (i:Nat):Fq:=S.getD i .fa
def xyz:List ByteArray:=[nX,nY,nZ]
def ltr (k:Nat):ByteArray:=xyz.getD (k % 3) .empty
abbrev BS:=List Fq×Nat
def stpC (S:List Fq) (q k c:Nat):BS:=match c with
 | 0=>(S++[.at_ nP [bTm k]],q)
 | 1=>(S++[.at_ nP [bTm k]],q)
 | 2=>(S++[.at_ nQ []],q)
 | 3=>(S++[.at_ nR [bTm (k % 4),bTm (k / 4)]],q)
 | 4=>(S++[.at_ nR [bTm (k % 4),bTm (k / 4)]],q)
 | 5=>if 1≤S.length then (S.take (S.length-1)++[.f1 (gF S (S.length-1))],q) else (S,q)
 | 6=>if 2≤S.length then (S.take (S.length-2)++[.f2 4 (gF S (S.length-2)) (gF S (S.length-1))],q) else (S,q)
 | 7=>if 2≤S.length then (S.take (S.length-2)++[.f2 5 (gF S (S.length-2)) (gF S (S.length-1))],q) else (S,q)
 | 8=>if 2≤S.length then (S.take (S.length-2)++[.f2 6 (gF S (S.length-2)) (gF S (S.length-1))],q) else (S,q)
 | 9=>if 2≤S.length then (S.take (S.length-2)++[.f2 7 (gF S (S.length-2)) (gF S (S.length-1))],q) else (S,q)
 | 10=>if 1≤S.length∧q<4 then (S.take (S.length-1)++[.qn 8 (ltr k) (gF S (S.length-1))],q+1) else (S,q)
 | 11=>if 1≤S.length∧q<4 then (S.take (S.length-1)++[.qn 9 (ltr k) (gF S (S.length-1))],q+1) else (S,q)
 | _=>(S,q)
def stp (s:BS) (b:Nat):BS:=stpC s.1 s.2 (b / 12) (b % 12)
def bst (l:List Nat):BS:=l.foldl stp ([],0)
theorem stp_len (S:List Fq) (q k c:Nat) (hq:q≤4):(stpC S q k c).1.length≤S.length+1∧(stpC S q k c).2≤4:=by
 unfold stpC
 split
 all_goals try split
 all_goals try simp only [List.length_append,List.length_take,List.length_cons,List.length_nil]
 all_goals omega
theorem foldl_takeB {σ β:Type} (f:σ→β→σ) (d:β) (b:σ) (l:List β) (k:Nat) (h:k<l.length):(l.take (k+1)).foldl f b=f ((l.take k).foldl f b) (l.getD k d):=by
 rw [List.take_add_one,List.getElem?_eq_getElem h,List.foldl_append]
 simp [List.getD_eq_getElem?_getD,List.getElem?_eq_getElem h]
theorem bst_succ (l:List Nat) (k:Nat) (h:k<l.length):bst (l.take (k+1))=stp (bst (l.take k)) (l.getD k 0):=foldl_takeB _ 0 _ _ k h
theorem bst_len (l:List Nat):∀ k,(bst (l.take k)).1.length≤k∧(bst (l.take k)).2≤4
 | 0=>by simp [bst]
 | k+1=>by
   have h0:=bst_len l k
   by_cases h:k<l.length
   ·rw [bst_succ l k h]
    have:=stp_len (bst (l.take k)).1 (bst (l.take k)).2 (l.getD k 0 / 12) (l.getD k 0 % 12) h0.2
    unfold stp
    omega
   ·rw [List.take_of_length_le (by omega)] at h0 ⊢
    omega
def andN (S:List Fq):Nat→Fq
 | 0=>gF S 0
 | j+1=>.f2 5 (andN S j) (gF S (j+1))
def finF (S:List Fq):Fq:=if S.length=0 then .fa else andN S (S.length-1)
def bltF (l:List Nat):Fq:=finF (bst (l.take 24)).1
theorem jn1 (a:Fq) (H:Heap):VDet Tryz.prog 133 [.int .u8 3,.sx 1 (fqx a)] H (.agg (fqx (.f1 a))):=by
 have h:VDet Tryz.prog 133 [.int .u8 3,.sx 1 (fqx a)] H (.agg [.int .u8 (3:Nat),.str .empty,.sl none 0 [],.sl none 1 (fqx a)]):=VDet.wk (join133_c 3 1 (fqx a) (fun m=>fqx_below m a) H) ⟨Wk.refl _,wk_sx _ _,trivial⟩
 show VDet _ _ _ _ (.agg [.int .u8 (3:Nat),.str .empty,.sl none 0 [],.sl none 1 a.fo.cells])
 rw [fqx_eq a]
 exact h
theorem jn2 (k:Nat) (a b:Fq) (H:Heap):VDet Tryz.prog 133 [.int .u8 k,.sx 2 (fqx a++fqx b)] H (.agg (fqx (.f2 k a b))):=by
 have h:VDet Tryz.prog 133 [.int .u8 k,.sx 2 (fqx a++fqx b)] H (.agg [.int .u8 (k:Nat),.str .empty,.sl none 0 [],.sl none 2 (fqx a++fqx b)]):=VDet.wk (join133_c k 2 (fqx a++fqx b) (fun m=>(zav _ _).2 ⟨fqx_below m a,fqx_below m b⟩) H) ⟨Wk.refl _,wk_sx _ _,trivial⟩
 show VDet _ _ _ _ (.agg [.int .u8 (k:Nat),.str .empty,.sl none 0 [],.sl none 2 (a.fo.cells++b.fo.cells)])
 rw [fqx_eq a,fqx_eq b]
 exact h
theorem fqx_qn (k:Nat) (x:ByteArray) (a:Fq):fqx (.qn k x a)=[.int .u8 (k:Nat),.str x,.sl none 0 [],.sl none 1 (fqx a)]:=by
 rw [← fqx_eq a]
 rfl
theorem wkL_of_eq {l l':List AV} (h:l=l'):WkL l l':=h▸WkL.id l
theorem qn_wk (n m k:Nat) (x:ByteArray) (S:List Fq) (hn:n=S.length-1):WkL (List.flatMap fqx (List.take n (List.drop 0 S))++[.int .u8 (k:Nat),.str x,.nils,.sx 1 (fqx (S.getD (S.length-1) .fa))]) (List.flatMap fqx (S.take (S.length-1)++[.qn k x (gF S (S.length-1))])):=by
 subst hn
 rw [List.flatMap_append,List.flatMap_cons,List.flatMap_nil,List.append_nil,fqx_qn,List.drop_zero]
 exact WkL.app (WkL.id _) ⟨Wk.refl _,Wk.refl _,wk_nils,wk_sx _ _,trivial⟩
def tqx (t:Tq):List AV:=[.bool (tqb t),.str (tqs t),.sl none (tqn t) (tql t)]
theorem atP (t:Tq) (H:Heap):VDet Tryz.prog 132 [.str nP,.sx 1 (tqx t)] H (.agg (fqx (.at_ nP [t]))):=by
 have h:VDet Tryz.prog 132 [.str nP,.sx 1 (tqx t)] H (.agg [.int .u8 (1:Nat),.str nP,.sl none 1 (tqx t),.sl none 0 []]):=VDet.wk (atom132_c nP 1 (tqx t) (fun m=>by simp [tqx,below,zaa,tql_below,zav]) H) ⟨Wk.refl _,wk_sx _ _,trivial⟩
 show VDet _ _ _ _ (.agg [.int .u8 (1:Nat),.str nP,.sl none 1 (([t].map Tq.tm).flatMap Tm.cells),.sl none 0 []])
 rw [List.map_cons,List.map_nil,List.flatMap_cons,List.flatMap_nil,List.append_nil,show t.tm.cells=tqx t from tqc_eq t]
 exact h
theorem atR (t u:Tq) (H:Heap):VDet Tryz.prog 132 [.str nR,.sx 2 (tqx t++tqx u)] H (.agg (fqx (.at_ nR [t,u]))):=by
 have h:VDet Tryz.prog 132 [.str nR,.sx 2 (tqx t++tqx u)] H (.agg [.int .u8 (1:Nat),.str nR,.sl none 2 (tqx t++tqx u),.sl none 0 []]):=VDet.wk (atom132_c nR 2 (tqx t++tqx u) (fun m=>by simp [tqx,below,zaa,tql_below,zav]) H) ⟨Wk.refl _,wk_sx _ _,trivial⟩
 show VDet _ _ _ _ (.agg [.int .u8 (1:Nat),.str nR,.sl none 2 (([t,u].map Tq.tm).flatMap Tm.cells),.sl none 0 []])
 rw [List.map_cons,List.map_cons,List.map_nil,List.flatMap_cons,List.flatMap_cons,List.flatMap_nil,List.append_nil,show t.tm.cells=tqx t from tqc_eq t,show u.tm.cells=tqx u from tqc_eq u]
 exact h
theorem atQ (H:Heap):VDet Tryz.prog 132 [.str nQ,.nils] H (.agg (fqx (.at_ nQ []))):=VDet.wk (atom132_c nQ 0 [] (fun _=>trivial) H) ⟨Wk.refl _,wk_nils,trivial⟩
theorem jn0 (H:Heap):VDet Tryz.prog 133 [.int .u8 2,.nils] H (.agg (fqx .fa)):=VDet.wk (join133_c 2 0 [] (fun _=>trivial) H) ⟨Wk.refl _,wk_nils,trivial⟩
theorem bTx (k:Nat) (hk:k≤255) (H:Heap):VDet Tryz.prog 131 [.int .u8 k] H (.agg (tqx (bTm k))):=by
 have:=bTm_c k hk H
 rwa [tqc_eq] at this
theorem built69_c (l:List Nat) (hl:l.length≤9223372036854775807) (hb:∀ i,i<l.length→l.getD i 0≤255) (H:Heap):VDet Tryz.prog 69 [.sl none l.length (l.flatMap encB)] H (.agg (fqx (bltF l))):=by
 refine zak Tryz.E0 Tryz.mx Tryz.func69 (by kernel_rfl) rfl (Nat.le_of_ble_eq_true rfl) rfl fun hcl hbl=>?_
 (repeat' ((conv=>whnf);(first|refine DrawN.mk' [] ?_|fail)));all_goals (conv=>whnf)
 refine loop_TW Tryz.E0 Tryz.mx (σ:=Nat) (fun i=>i≤l.length∧i≤24) (fun i=>24-i) (fun i=>[(5,.v (.int .i64 i)),(4,.v (.int .i64 (bst (l.take i)).2))]) (fun _=>_) _ 0 3 29 4 (fun i=>(bst (l.take i)).1.length) (fun i=>(bst (l.take i)).1.flatMap fqx) rfl hcl [0,2] rfl ⟨Nat.zero_le _,Nat.zero_le _⟩ ⟨⟨_,rfl,Wk.refl _⟩,⟨_,rfl,Wk.refl _⟩,trivial⟩ rfl (fun _ _=>rfl) rfl rfl rfl ?_
 rintro i ⟨hi,hi20⟩
 clear hbl
 obtain ⟨hn,hq4⟩:=bst_len l i
 by_cases hlt:i<l.length∧i<24
 ·obtain ⟨hil,hi2⟩:=hlt
  have hop:=hb i hil
  have hS:=bst_succ l i hil
  generalize bst (l.take i)=SQ at hn hq4 hS ⊢
  obtain ⟨S,q⟩:=SQ
  dsimp only at hn hq4 hS ⊢
  obtain ⟨c,hc,hc12⟩:∃ c,l.getD i 0 % 12=c∧c<12:=⟨_,rfl,Nat.mod_lt _ (by decide)⟩
  unfold stp at hS
  rw [hc] at hS
  have hk3:l.getD i 0 / 12 % 3<xyz.length:=Nat.mod_lt _ (by decide)
  have hq:((l.getD i 0 / 12 % (2 ^ IntKind.u8.bits:Int).natAbs:Nat):Int) % 3=((l.getD i 0 / 12 % 3:Nat):Int):=by
   show ((l.getD i 0 / 12 % 256:Nat):Int) % 3=_
   omega
  have hkk:l.getD i 0 / 12 % (2 ^ IntKind.u8.bits:Int).natAbs=l.getD i 0 / 12:=by
   show l.getD i 0 / 12 % 256=_
   omega
  have hkb:l.getD i 0 / 12 % (2 ^ IntKind.u8.bits:Int).natAbs≤255:=by rw [hkk];omega
  have hk4:l.getD i 0 / 12 % (2 ^ IntKind.u8.bits:Int).natAbs / 4 % (2 ^ IntKind.u8.bits:Int).natAbs=l.getD i 0 / 12 / 4:=by
   rw [hkk]
   show l.getD i 0 / 12 / 4 % 256=_
   omega
  have hkb1:l.getD i 0 / 12 % (2 ^ IntKind.u8.bits:Int).natAbs / 4 % (2 ^ IntKind.u8.bits:Int).natAbs≤255:=by rw [hk4];omega
  have hkb2:l.getD i 0 / 12 % (2 ^ IntKind.u8.bits:Int).natAbs % 4≤255:=by omega
  have hT:∀ H,VDet Tryz.prog 131 [.int .u8 ((l.getD i 0 / 12 % (2 ^ IntKind.u8.bits:Int).natAbs:Nat):Int)] H (.agg (tqx (bTm (l.getD i 0 / 12)))):=fun H=>by
   rw [show bTm (l.getD i 0 / 12)=bTm _ from congrArg bTm hkk.symm]
   exact bTx _ hkb H
  have hT1:∀ H,VDet Tryz.prog 131 [.int .u8 ((l.getD i 0 / 12 % (2 ^ IntKind.u8.bits:Int).natAbs / 4 % (2 ^ IntKind.u8.bits:Int).natAbs:Nat):Int)] H (.agg (tqx (bTm (l.getD i 0 / 12 / 4)))):=fun H=>by
   rw [show bTm (l.getD i 0 / 12 / 4)=bTm _ from congrArg bTm hk4.symm]
   exact bTx _ hkb1 H
  have hT2:∀ H,VDet Tryz.prog 131 [.int .u8 ((l.getD i 0 / 12 % (2 ^ IntKind.u8.bits:Int).natAbs % 4:Nat):Int)] H (.agg (tqx (bTm (l.getD i 0 / 12 % 4)))):=fun H=>by
   rw [show bTm (l.getD i 0 / 12 % 4)=bTm (l.getD i 0 / 12 % (2 ^ IntKind.u8.bits:Int).natAbs % 4) from congrArg bTm (by rw [hkk])]
   exact bTx _ hkb2 H
  have:c=0∨c=1∨c=2∨c=3∨c=4∨c=5∨c=6∨c=7∨c=8∨c=9∨c=10∨c=11:=by omega
  rcases this with rfl|rfl|rfl|rfl|rfl|rfl|rfl|rfl|rfl|rfl|rfl|rfl
  ·(repeat' ((conv=>whnf);(first|(refine IfN.id ?_;first|refine IfN.tt rfl ?_|refine IfN.dT (by omega) ?_|fail)|(refine EqN.id ?_;first|refine EqN.remC _ rfl rfl hc ?_|(refine EqN.addN _ _ Cst.h Cst.h ?_ ?_;· omega)|refine EqN.remN _ _ (by first|with_reducible rfl|exact Cst.h) (by first|with_reducible rfl|exact Cst.h) ?_|fail)|(refine SideN.mk ?_ ?_;· first|kernel_rfl|omega|exact List.cons_ne_nil _ _|(simp;done)|(simp;omega)|exact trivial|assumption|fail)|(refine CallN.id ?_;first|refine CallN.det _ (hT _) ?_|refine CallN.det _ (atP _ _) ?_|fail)|refine SegN.nth 0 i rfl (by omega) (fun _=>rfl) ?_|refine SideN.mk ⟨rfl,rfl,rfl,by dsimp only;omega,by simp only [maxLen];omega⟩ ?_|refine PtrN.loc _ rfl ?_|refine DrawN.mk' [] ?_|fail)));all_goals (conv=>whnf)
   refine ⟨⟨i+1,1,_,_,_,⟨by omega,by omega⟩,by omega,⟨⟨_,rfl,?_⟩,⟨_,rfl,?_⟩,trivial⟩,⟨⟨_,rfl,Wk.refl _⟩,⟨_,rfl,Wk.refl _⟩,trivial⟩,rfl,rfl,?_,?_,by omega,rfl,rfl,⟨_,rfl⟩,by simp [zal,below,tr],by simp [zap,Blk.below,zaa,below],zbb _ _⟩⟩
   ·exact Wk.refl _
   ·rw [hS];simp [stpC];try exact Wk.refl _
   ·rw [hS];simp [stpC];try omega
   ·refine wkL_of_eq ?_;rw [hS];simp [stpC,gF,fqx]
  ·(repeat' ((conv=>whnf);(first|(refine IfN.id ?_;first|refine IfN.tt rfl ?_|refine IfN.dT (by omega) ?_|fail)|(refine EqN.id ?_;first|refine EqN.remC _ rfl rfl hc ?_|(refine EqN.addN _ _ Cst.h Cst.h ?_ ?_;· omega)|refine EqN.remN _ _ (by first|with_reducible rfl|exact Cst.h) (by first|with_reducible rfl|exact Cst.h) ?_|fail)|(refine SideN.mk ?_ ?_;· first|kernel_rfl|omega|exact List.cons_ne_nil _ _|(simp;done)|(simp;omega)|exact trivial|assumption|fail)|(refine CallN.id ?_;first|refine CallN.det _ (hT _) ?_|refine CallN.det _ (atP _ _) ?_|fail)|refine SegN.nth 0 i rfl (by omega) (fun _=>rfl) ?_|refine SideN.mk ⟨rfl,rfl,rfl,by dsimp only;omega,by simp only [maxLen];omega⟩ ?_|refine PtrN.loc _ rfl ?_|refine DrawN.mk' [] ?_|fail)));all_goals (conv=>whnf)
   refine ⟨⟨i+1,1,_,_,_,⟨by omega,by omega⟩,by omega,⟨⟨_,rfl,?_⟩,⟨_,rfl,?_⟩,trivial⟩,⟨⟨_,rfl,Wk.refl _⟩,⟨_,rfl,Wk.refl _⟩,trivial⟩,rfl,rfl,?_,?_,by omega,rfl,rfl,⟨_,rfl⟩,by simp [zal,below,tr],by simp [zap,Blk.below,zaa,below],zbb _ _⟩⟩
   ·exact Wk.refl _
   ·rw [hS];simp [stpC];try exact Wk.refl _
   ·rw [hS];simp [stpC];try omega
   ·refine wkL_of_eq ?_;rw [hS];simp [stpC,gF,fqx]
  ·(repeat' ((conv=>whnf);(first|(refine IfN.id ?_;first|refine IfN.tt rfl ?_|refine IfN.ff rfl ?_|refine IfN.dT (by omega) ?_|fail)|(refine EqN.id ?_;first|refine EqN.remC _ rfl rfl hc ?_|(refine EqN.addN _ _ Cst.h Cst.h ?_ ?_;· omega)|refine EqN.remN _ _ (by first|with_reducible rfl|exact Cst.h) (by first|with_reducible rfl|exact Cst.h) ?_|fail)|(refine SideN.mk ?_ ?_;· first|kernel_rfl|omega|exact List.cons_ne_nil _ _|(simp;done)|(simp;omega)|exact trivial|assumption|fail)|refine CallN.det _ (atQ _) ?_|refine SegN.nth 0 i rfl (by omega) (fun _=>rfl) ?_|refine SideN.mk ⟨rfl,rfl,rfl,by dsimp only;omega,by simp only [maxLen];omega⟩ ?_|refine PtrN.loc _ rfl ?_|refine DrawN.mk' [] ?_|fail)));all_goals (conv=>whnf)
   refine ⟨⟨i+1,1,_,_,_,⟨by omega,by omega⟩,by omega,⟨⟨_,rfl,?_⟩,⟨_,rfl,?_⟩,trivial⟩,⟨⟨_,rfl,Wk.refl _⟩,⟨_,rfl,Wk.refl _⟩,trivial⟩,rfl,rfl,?_,?_,by omega,rfl,rfl,⟨_,rfl⟩,by simp [zal,below,tr],by simp [zap,Blk.below,zaa,below],zbb _ _⟩⟩
   ·exact Wk.refl _
   ·rw [hS];simp [stpC];try exact Wk.refl _
   ·rw [hS];simp [stpC];try omega
   ·refine wkL_of_eq ?_;rw [hS];simp [stpC,gF,fqx]
  ·(repeat' ((conv=>whnf);(first|(refine IfN.id ?_;first|refine IfN.tt rfl ?_|refine IfN.ff rfl ?_|refine IfN.dT (by omega) ?_|fail)|(refine EqN.id ?_;first|refine EqN.remC _ rfl rfl hc ?_|(refine EqN.addN _ _ Cst.h Cst.h ?_ ?_;· omega)|refine EqN.remN _ _ (by first|with_reducible rfl|exact Cst.h) (by first|with_reducible rfl|exact Cst.h) ?_|fail)|(refine SideN.mk ?_ ?_;· first|kernel_rfl|omega|exact List.cons_ne_nil _ _|(simp;done)|(simp;omega)|exact trivial|assumption|fail)|(refine CallN.id ?_;first|refine CallN.det _ (hT1 _) ?_|refine CallN.det _ (hT2 _) ?_|refine CallN.det _ (atR _ _ _) ?_|fail)|refine SegN.nth 0 i rfl (by omega) (fun _=>rfl) ?_|refine SideN.mk ⟨rfl,rfl,rfl,by dsimp only;omega,by simp only [maxLen];omega⟩ ?_|refine PtrN.loc _ rfl ?_|refine DrawN.mk' [] ?_|fail)));all_goals (conv=>whnf)
   refine ⟨⟨i+1,1,_,_,_,⟨by omega,by omega⟩,by omega,⟨⟨_,rfl,?_⟩,⟨_,rfl,?_⟩,trivial⟩,⟨⟨_,rfl,Wk.refl _⟩,⟨_,rfl,Wk.refl _⟩,trivial⟩,rfl,rfl,?_,?_,by omega,rfl,rfl,⟨_,rfl⟩,by simp [zal,below,tr],by simp [zap,Blk.below,zaa,below],zbb _ _⟩⟩
   ·exact Wk.refl _
   ·rw [hS];simp [stpC];try exact Wk.refl _
   ·rw [hS];simp [stpC];try omega
   ·refine wkL_of_eq ?_;rw [hS];simp [stpC,gF,fqx]
  ·(repeat' ((conv=>whnf);(first|(refine IfN.id ?_;first|refine IfN.tt rfl ?_|refine IfN.ff rfl ?_|refine IfN.dT (by omega) ?_|fail)|(refine EqN.id ?_;first|refine EqN.remC _ rfl rfl hc ?_|(refine EqN.addN _ _ Cst.h Cst.h ?_ ?_;· omega)|refine EqN.remN _ _ (by first|with_reducible rfl|exact Cst.h) (by first|with_reducible rfl|exact Cst.h) ?_|fail)|(refine SideN.mk ?_ ?_;· first|kernel_rfl|omega|exact List.cons_ne_nil _ _|(simp;done)|(simp;omega)|exact trivial|assumption|fail)|(refine CallN.id ?_;first|refine CallN.det _ (hT1 _) ?_|refine CallN.det _ (hT2 _) ?_|refine CallN.det _ (atR _ _ _) ?_|fail)|refine SegN.nth 0 i rfl (by omega) (fun _=>rfl) ?_|refine SideN.mk ⟨rfl,rfl,rfl,by dsimp only;omega,by simp only [maxLen];omega⟩ ?_|refine PtrN.loc _ rfl ?_|refine DrawN.mk' [] ?_|fail)));all_goals (conv=>whnf)
   refine ⟨⟨i+1,1,_,_,_,⟨by omega,by omega⟩,by omega,⟨⟨_,rfl,?_⟩,⟨_,rfl,?_⟩,trivial⟩,⟨⟨_,rfl,Wk.refl _⟩,⟨_,rfl,Wk.refl _⟩,trivial⟩,rfl,rfl,?_,?_,by omega,rfl,rfl,⟨_,rfl⟩,by simp [zal,below,tr],by simp [zap,Blk.below,zaa,below],zbb _ _⟩⟩
   ·exact Wk.refl _
   ·rw [hS];simp [stpC];try exact Wk.refl _
   ·rw [hS];simp [stpC];try omega
   ·refine wkL_of_eq ?_;rw [hS];simp [stpC,gF,fqx]
  ·(repeat' ((conv=>whnf);(first|(refine IfN.id ?_;first|refine IfN.tt rfl ?_|refine IfN.ff rfl ?_|refine IfN.dT (by omega) ?_|refine IfN.dec (fun _=>?_) (fun _=>?_)|fail)|(refine EqN.id ?_;first|refine EqN.remC _ rfl rfl hc ?_|(refine EqN.addN _ _ Cst.h Cst.h ?_ ?_;· omega)|(refine EqN.subN _ _ Cst.h Cst.h ?_ ?_;· omega)|refine EqN.remN _ _ (by first|with_reducible rfl|exact Cst.h) (by first|with_reducible rfl|exact Cst.h) ?_|fail)|(refine SideN.mk ?_ ?_;· first|kernel_rfl|omega|exact List.cons_ne_nil _ _|(simp;done)|(simp;omega)|exact trivial|assumption|fail)|refine NatN.mk _ rfl ?_|refine CallD.det _ (fun _ hq X=>jn1 (gF S (S.length-1)) _) ?_|refine SegN.nth 0 i rfl (by omega) (fun _=>rfl) ?_|refine SegN.nth (f:=fqx) Fq.fa (S.length-1) (by omega) (by omega) (fun _=>rfl) ?_|refine SubN.flat (lo:=0) (n:=S.length-1-0) (fun _=>rfl) (by omega) ?_|refine OrN.l ?_|refine SideN.mk ⟨Nat.le_of_ble_eq_true rfl,by rw [zaq (sz:=4) (fun _=>rfl)];simp;done,rfl,by dsimp only;omega,by simp only [maxLen];omega⟩ ?_|refine DrawN.mk' [] ?_|fail)));all_goals (conv=>whnf)
   ·refine ⟨⟨i+1,2,_,_,_,⟨by omega,by omega⟩,by omega,⟨⟨_,rfl,?_⟩,⟨_,rfl,?_⟩,trivial⟩,⟨⟨_,rfl,Wk.refl _⟩,⟨_,rfl,Wk.refl _⟩,trivial⟩,rfl,rfl,?_,?_,by omega,rfl,rfl,⟨_,rfl⟩,by simp [zal,below,tr],by simp [zap,Blk.below,zaa,below],zbb _ _⟩⟩
    ·exact Wk.refl _
    ·rw [hS];simp [stpC,show 1≤S.length by omega];try exact Wk.refl _
    ·rw [hS];simp [stpC,show 1≤S.length by omega];try omega
    ·refine wkL_of_eq ?_;rw [hS];simp [stpC,gF,fqx,show 1≤S.length by omega]
   ·refine ⟨⟨i+1,1,_,_,_,⟨by omega,by omega⟩,by omega,⟨⟨_,rfl,?_⟩,⟨_,rfl,?_⟩,trivial⟩,⟨⟨_,rfl,Wk.refl _⟩,⟨_,rfl,Wk.refl _⟩,trivial⟩,rfl,rfl,?_,?_,by omega,rfl,rfl,⟨_,rfl⟩,by simp [zal,below,tr],by simp [zap,Blk.below,zaa,below],zbb _ _⟩⟩
    ·exact Wk.refl _
    ·rw [hS];simp [stpC,show ¬ 1≤S.length by omega];try exact Wk.refl _
    ·rw [hS];simp [stpC,show ¬ 1≤S.length by omega];try omega
    ·refine wkL_of_eq ?_;rw [hS];simp [stpC,gF,fqx,show ¬ 1≤S.length by omega]
  ·(repeat' ((conv=>whnf);(first|(refine IfN.id ?_;first|refine IfN.tt rfl ?_|refine IfN.ff rfl ?_|refine IfN.dT (by omega) ?_|refine IfN.dec (fun _=>?_) (fun _=>?_)|fail)|(refine EqN.id ?_;first|refine EqN.remC _ rfl rfl hc ?_|(refine EqN.addN _ _ Cst.h Cst.h ?_ ?_;· omega)|(refine EqN.subN _ _ Cst.h Cst.h ?_ ?_;· omega)|refine EqN.remN _ _ (by first|with_reducible rfl|exact Cst.h) (by first|with_reducible rfl|exact Cst.h) ?_|fail)|(refine SideN.mk ?_ ?_;· first|kernel_rfl|omega|exact List.cons_ne_nil _ _|(simp;done)|(simp;omega)|exact trivial|assumption|fail)|refine NatN.mk _ rfl ?_|refine CallD.det _ (fun _ hq X=>jn2 4 (gF S (S.length-2)) (gF S (S.length-1)) _) ?_|refine SegN.nth 0 i rfl (by omega) (fun _=>rfl) ?_|refine SegN.nth (f:=fqx) Fq.fa (S.length-2) (by omega) (by omega) (fun _=>rfl) ?_|refine SegN.nth (f:=fqx) Fq.fa (S.length-1) (by omega) (by omega) (fun _=>rfl) ?_|refine SubN.flat (lo:=0) (n:=S.length-2-0) (fun _=>rfl) (by omega) ?_|refine OrN.l ?_|refine SideN.mk ⟨Nat.le_of_ble_eq_true rfl,by rw [zaq (sz:=4) (fun _=>rfl)];simp;done,rfl,by dsimp only;omega,by simp only [maxLen];omega⟩ ?_|refine DrawN.mk' [] ?_|fail)));all_goals (conv=>whnf)
   ·refine ⟨⟨i+1,2,_,_,_,⟨by omega,by omega⟩,by omega,⟨⟨_,rfl,?_⟩,⟨_,rfl,?_⟩,trivial⟩,⟨⟨_,rfl,Wk.refl _⟩,⟨_,rfl,Wk.refl _⟩,trivial⟩,rfl,rfl,?_,?_,by omega,rfl,rfl,⟨_,rfl⟩,by simp [zal,below,tr],by simp [zap,Blk.below,zaa,below],zbb _ _⟩⟩
    ·exact Wk.refl _
    ·rw [hS];simp [stpC,show 2≤S.length by omega];try exact Wk.refl _
    ·rw [hS];simp [stpC,show 2≤S.length by omega];try omega
    ·refine wkL_of_eq ?_;rw [hS];simp [stpC,gF,fqx,show 2≤S.length by omega]
   ·refine ⟨⟨i+1,1,_,_,_,⟨by omega,by omega⟩,by omega,⟨⟨_,rfl,?_⟩,⟨_,rfl,?_⟩,trivial⟩,⟨⟨_,rfl,Wk.refl _⟩,⟨_,rfl,Wk.refl _⟩,trivial⟩,rfl,rfl,?_,?_,by omega,rfl,rfl,⟨_,rfl⟩,by simp [zal,below,tr],by simp [zap,Blk.below,zaa,below],zbb _ _⟩⟩
    ·exact Wk.refl _
    ·rw [hS];simp [stpC,show ¬ 2≤S.length by omega];try exact Wk.refl _
    ·rw [hS];simp [stpC,show ¬ 2≤S.length by omega];try omega
    ·refine wkL_of_eq ?_;rw [hS];simp [stpC,gF,fqx,show ¬ 2≤S.length by omega]
  ·(repeat' ((conv=>whnf);(first|(refine IfN.id ?_;first|refine IfN.tt rfl ?_|refine IfN.ff rfl ?_|refine IfN.dT (by omega) ?_|refine IfN.dec (fun _=>?_) (fun _=>?_)|fail)|(refine EqN.id ?_;first|refine EqN.remC _ rfl rfl hc ?_|(refine EqN.addN _ _ Cst.h Cst.h ?_ ?_;· omega)|(refine EqN.subN _ _ Cst.h Cst.h ?_ ?_;· omega)|refine EqN.remN _ _ (by first|with_reducible rfl|exact Cst.h) (by first|with_reducible rfl|exact Cst.h) ?_|fail)|(refine SideN.mk ?_ ?_;· first|kernel_rfl|omega|exact List.cons_ne_nil _ _|(simp;done)|(simp;omega)|exact trivial|assumption|fail)|refine NatN.mk _ rfl ?_|refine CallD.det _ (fun _ hq X=>jn2 5 (gF S (S.length-2)) (gF S (S.length-1)) _) ?_|refine SegN.nth 0 i rfl (by omega) (fun _=>rfl) ?_|refine SegN.nth (f:=fqx) Fq.fa (S.length-2) (by omega) (by omega) (fun _=>rfl) ?_|refine SegN.nth (f:=fqx) Fq.fa (S.length-1) (by omega) (by omega) (fun _=>rfl) ?_|refine SubN.flat (lo:=0) (n:=S.length-2-0) (fun _=>rfl) (by omega) ?_|refine OrN.l ?_|refine SideN.mk ⟨Nat.le_of_ble_eq_true rfl,by rw [zaq (sz:=4) (fun _=>rfl)];simp;done,rfl,by dsimp only;omega,by simp only [maxLen];omega⟩ ?_|refine DrawN.mk' [] ?_|fail)));all_goals (conv=>whnf)
   ·refine ⟨⟨i+1,2,_,_,_,⟨by omega,by omega⟩,by omega,⟨⟨_,rfl,?_⟩,⟨_,rfl,?_⟩,trivial⟩,⟨⟨_,rfl,Wk.refl _⟩,⟨_,rfl,Wk.refl _⟩,trivial⟩,rfl,rfl,?_,?_,by omega,rfl,rfl,⟨_,rfl⟩,by simp [zal,below,tr],by simp [zap,Blk.below,zaa,below],zbb _ _⟩⟩
    ·exact Wk.refl _
    ·rw [hS];simp [stpC,show 2≤S.length by omega];try exact Wk.refl _
    ·rw [hS];simp [stpC,show 2≤S.length by omega];try omega
    ·refine wkL_of_eq ?_;rw [hS];simp [stpC,gF,fqx,show 2≤S.length by omega]
   ·refine ⟨⟨i+1,1,_,_,_,⟨by omega,by omega⟩,by omega,⟨⟨_,rfl,?_⟩,⟨_,rfl,?_⟩,trivial⟩,⟨⟨_,rfl,Wk.refl _⟩,⟨_,rfl,Wk.refl _⟩,trivial⟩,rfl,rfl,?_,?_,by omega,rfl,rfl,⟨_,rfl⟩,by simp [zal,below,tr],by simp [zap,Blk.below,zaa,below],zbb _ _⟩⟩
    ·exact Wk.refl _
    ·rw [hS];simp [stpC,show ¬ 2≤S.length by omega];try exact Wk.refl _
    ·rw [hS];simp [stpC,show ¬ 2≤S.length by omega];try omega
    ·refine wkL_of_eq ?_;rw [hS];simp [stpC,gF,fqx,show ¬ 2≤S.length by omega]
  ·(repeat' ((conv=>whnf);(first|(refine IfN.id ?_;first|refine IfN.tt rfl ?_|refine IfN.ff rfl ?_|refine IfN.dT (by omega) ?_|refine IfN.dec (fun _=>?_) (fun _=>?_)|fail)|(refine EqN.id ?_;first|refine EqN.remC _ rfl rfl hc ?_|(refine EqN.addN _ _ Cst.h Cst.h ?_ ?_;· omega)|(refine EqN.subN _ _ Cst.h Cst.h ?_ ?_;· omega)|refine EqN.remN _ _ (by first|with_reducible rfl|exact Cst.h) (by first|with_reducible rfl|exact Cst.h) ?_|fail)|(refine SideN.mk ?_ ?_;· first|kernel_rfl|omega|exact List.cons_ne_nil _ _|(simp;done)|(simp;omega)|exact trivial|assumption|fail)|refine NatN.mk _ rfl ?_|refine CallD.det _ (fun _ hq X=>jn2 6 (gF S (S.length-2)) (gF S (S.length-1)) _) ?_|refine SegN.nth 0 i rfl (by omega) (fun _=>rfl) ?_|refine SegN.nth (f:=fqx) Fq.fa (S.length-2) (by omega) (by omega) (fun _=>rfl) ?_|refine SegN.nth (f:=fqx) Fq.fa (S.length-1) (by omega) (by omega) (fun _=>rfl) ?_|refine SubN.flat (lo:=0) (n:=S.length-2-0) (fun _=>rfl) (by omega) ?_|refine OrN.l ?_|refine SideN.mk ⟨Nat.le_of_ble_eq_true rfl,by rw [zaq (sz:=4) (fun _=>rfl)];simp;done,rfl,by dsimp only;omega,by simp only [maxLen];omega⟩ ?_|refine DrawN.mk' [] ?_|fail)));all_goals (conv=>whnf)
   ·refine ⟨⟨i+1,2,_,_,_,⟨by omega,by omega⟩,by omega,⟨⟨_,rfl,?_⟩,⟨_,rfl,?_⟩,trivial⟩,⟨⟨_,rfl,Wk.refl _⟩,⟨_,rfl,Wk.refl _⟩,trivial⟩,rfl,rfl,?_,?_,by omega,rfl,rfl,⟨_,rfl⟩,by simp [zal,below,tr],by simp [zap,Blk.below,zaa,below],zbb _ _⟩⟩
    ·exact Wk.refl _
    ·rw [hS];simp [stpC,show 2≤S.length by omega];try exact Wk.refl _
    ·rw [hS];simp [stpC,show 2≤S.length by omega];try omega
    ·refine wkL_of_eq ?_;rw [hS];simp [stpC,gF,fqx,show 2≤S.length by omega]
   ·refine ⟨⟨i+1,1,_,_,_,⟨by omega,by omega⟩,by omega,⟨⟨_,rfl,?_⟩,⟨_,rfl,?_⟩,trivial⟩,⟨⟨_,rfl,Wk.refl _⟩,⟨_,rfl,Wk.refl _⟩,trivial⟩,rfl,rfl,?_,?_,by omega,rfl,rfl,⟨_,rfl⟩,by simp [zal,below,tr],by simp [zap,Blk.below,zaa,below],zbb _ _⟩⟩
    ·exact Wk.refl _
    ·rw [hS];simp [stpC,show ¬ 2≤S.length by omega];try exact Wk.refl _
    ·rw [hS];simp [stpC,show ¬ 2≤S.length by omega];try omega
    ·refine wkL_of_eq ?_;rw [hS];simp [stpC,gF,fqx,show ¬ 2≤S.length by omega]
  ·(repeat' ((conv=>whnf);(first|(refine IfN.id ?_;first|refine IfN.tt rfl ?_|refine IfN.ff rfl ?_|refine IfN.dT (by omega) ?_|refine IfN.dec (fun _=>?_) (fun _=>?_)|fail)|(refine EqN.id ?_;first|refine EqN.remC _ rfl rfl hc ?_|(refine EqN.addN _ _ Cst.h Cst.h ?_ ?_;· omega)|(refine EqN.subN _ _ Cst.h Cst.h ?_ ?_;· omega)|refine EqN.remN _ _ (by first|with_reducible rfl|exact Cst.h) (by first|with_reducible rfl|exact Cst.h) ?_|fail)|(refine SideN.mk ?_ ?_;· first|kernel_rfl|omega|exact List.cons_ne_nil _ _|(simp;done)|(simp;omega)|exact trivial|assumption|fail)|refine NatN.mk _ rfl ?_|refine CallD.det _ (fun _ hq X=>jn2 7 (gF S (S.length-2)) (gF S (S.length-1)) _) ?_|refine SegN.nth 0 i rfl (by omega) (fun _=>rfl) ?_|refine SegN.nth (f:=fqx) Fq.fa (S.length-2) (by omega) (by omega) (fun _=>rfl) ?_|refine SegN.nth (f:=fqx) Fq.fa (S.length-1) (by omega) (by omega) (fun _=>rfl) ?_|refine SubN.flat (lo:=0) (n:=S.length-2-0) (fun _=>rfl) (by omega) ?_|refine OrN.l ?_|refine SideN.mk ⟨Nat.le_of_ble_eq_true rfl,by rw [zaq (sz:=4) (fun _=>rfl)];simp;done,rfl,by dsimp only;omega,by simp only [maxLen];omega⟩ ?_|refine DrawN.mk' [] ?_|fail)));all_goals (conv=>whnf)
   ·refine ⟨⟨i+1,2,_,_,_,⟨by omega,by omega⟩,by omega,⟨⟨_,rfl,?_⟩,⟨_,rfl,?_⟩,trivial⟩,⟨⟨_,rfl,Wk.refl _⟩,⟨_,rfl,Wk.refl _⟩,trivial⟩,rfl,rfl,?_,?_,by omega,rfl,rfl,⟨_,rfl⟩,by simp [zal,below,tr],by simp [zap,Blk.below,zaa,below],zbb _ _⟩⟩
    ·exact Wk.refl _
    ·rw [hS];simp [stpC,show 2≤S.length by omega];try exact Wk.refl _
    ·rw [hS];simp [stpC,show 2≤S.length by omega];try omega
    ·refine wkL_of_eq ?_;rw [hS];simp [stpC,gF,fqx,show 2≤S.length by omega]
   ·refine ⟨⟨i+1,1,_,_,_,⟨by omega,by omega⟩,by omega,⟨⟨_,rfl,?_⟩,⟨_,rfl,?_⟩,trivial⟩,⟨⟨_,rfl,Wk.refl _⟩,⟨_,rfl,Wk.refl _⟩,trivial⟩,rfl,rfl,?_,?_,by omega,rfl,rfl,⟨_,rfl⟩,by simp [zal,below,tr],by simp [zap,Blk.below,zaa,below],zbb _ _⟩⟩
    ·exact Wk.refl _
    ·rw [hS];simp [stpC,show ¬ 2≤S.length by omega];try exact Wk.refl _
    ·rw [hS];simp [stpC,show ¬ 2≤S.length by omega];try omega
    ·refine wkL_of_eq ?_;rw [hS];simp [stpC,gF,fqx,show ¬ 2≤S.length by omega]
  ·(repeat' ((conv=>whnf);(first|(refine IfN.id ?_;first|refine IfN.tt rfl ?_|refine IfN.ff rfl ?_|refine IfN.dT (by omega) ?_|refine IfN.dec (fun _=>?_) (fun _=>?_)|fail)|(refine EqN.id ?_;first|refine EqN.remC _ rfl rfl hc ?_|(refine EqN.addN _ _ Cst.h Cst.h ?_ ?_;· omega)|(refine EqN.subN _ _ Cst.h Cst.h ?_ ?_;· omega)|refine EqN.remN _ _ (by first|with_reducible rfl|exact Cst.h) (by first|with_reducible rfl|exact Cst.h) ?_|fail)|(refine SideN.mk ?_ ?_;· first|kernel_rfl|omega|exact List.cons_ne_nil _ _|(simp;done)|(simp;omega)|exact trivial|assumption|fail)|refine NatN.mk _ rfl ?_|refine SegN.nth 0 i rfl (by omega) (fun _=>rfl) ?_|refine SegN.nth (f:=encS) (l:=xyz) .empty (l.getD i 0 / 12 % 3) hq hk3 (fun _=>rfl) ?_|refine SegN.nth (f:=fqx) Fq.fa (S.length-1) (by omega) (by omega) (fun _=>rfl) ?_|refine SubN.flat (lo:=0) (n:=S.length-1-0) (fun _=>rfl) (by omega) ?_|refine OrN.l ?_|refine SideN.mk ⟨Nat.le_of_ble_eq_true rfl,by rw [zaq (sz:=4) (fun _=>rfl)];simp;done,rfl,by dsimp only;omega,by simp only [maxLen];omega⟩ ?_|refine DrawN.mk' [] ?_|fail)));all_goals (conv=>whnf)
   ·refine ⟨⟨i+1,2,_,_,_,⟨by omega,by omega⟩,by omega,⟨⟨_,rfl,?_⟩,⟨_,rfl,?_⟩,trivial⟩,⟨⟨_,rfl,Wk.refl _⟩,⟨_,rfl,Wk.refl _⟩,trivial⟩,rfl,rfl,?_,?_,by omega,rfl,rfl,⟨_,rfl⟩,by simp [zal,below,tr],by simp [zap,Blk.below,zaa,below],zbb _ _⟩⟩
    ·exact Wk.refl _
    ·rw [hS];simp [stpC,show 1≤S.length by omega,show q<4 by omega];try exact Wk.refl _
    ·rw [hS];simp [stpC,show 1≤S.length by omega,show q<4 by omega];try omega
    ·rw [hS,show stpC S q _ 10=(S.take (S.length-1)++[.qn 8 (ltr (l.getD i 0 / 12)) (gF S (S.length-1))],q+1) from by simp [stpC,show 1≤S.length by omega,show q<4 by omega]];exact qn_wk _ 0 8 _ S (by omega)
   all_goals
    refine ⟨⟨i+1,1,_,_,_,⟨by omega,by omega⟩,by omega,⟨⟨_,rfl,?_⟩,⟨_,rfl,?_⟩,trivial⟩,⟨⟨_,rfl,Wk.refl _⟩,⟨_,rfl,Wk.refl _⟩,trivial⟩,rfl,rfl,?_,?_,by omega,rfl,rfl,⟨_,rfl⟩,by simp [zal,below,tr],by simp [zap,Blk.below,zaa,below],zbb _ _⟩⟩
    ·exact Wk.refl _
    ·rw [hS];simp [stpC,show ¬ (1≤S.length∧q<4) by omega];try exact Wk.refl _
    ·rw [hS];simp [stpC,show ¬ (1≤S.length∧q<4) by omega];try omega
    ·refine wkL_of_eq ?_;rw [hS];simp [stpC,gF,fqx,show ¬ (1≤S.length∧q<4) by omega]
  ·(repeat' ((conv=>whnf);(first|(refine IfN.id ?_;first|refine IfN.tt rfl ?_|refine IfN.ff rfl ?_|refine IfN.dT (by omega) ?_|refine IfN.dec (fun _=>?_) (fun _=>?_)|fail)|(refine EqN.id ?_;first|refine EqN.remC _ rfl rfl hc ?_|(refine EqN.addN _ _ Cst.h Cst.h ?_ ?_;· omega)|(refine EqN.subN _ _ Cst.h Cst.h ?_ ?_;· omega)|refine EqN.remN _ _ (by first|with_reducible rfl|exact Cst.h) (by first|with_reducible rfl|exact Cst.h) ?_|fail)|(refine SideN.mk ?_ ?_;· first|kernel_rfl|omega|exact List.cons_ne_nil _ _|(simp;done)|(simp;omega)|exact trivial|assumption|fail)|refine NatN.mk _ rfl ?_|refine SegN.nth 0 i rfl (by omega) (fun _=>rfl) ?_|refine SegN.nth (f:=encS) (l:=xyz) .empty (l.getD i 0 / 12 % 3) hq hk3 (fun _=>rfl) ?_|refine SegN.nth (f:=fqx) Fq.fa (S.length-1) (by omega) (by omega) (fun _=>rfl) ?_|refine SubN.flat (lo:=0) (n:=S.length-1-0) (fun _=>rfl) (by omega) ?_|refine OrN.l ?_|refine SideN.mk ⟨Nat.le_of_ble_eq_true rfl,by rw [zaq (sz:=4) (fun _=>rfl)];simp;done,rfl,by dsimp only;omega,by simp only [maxLen];omega⟩ ?_|refine DrawN.mk' [] ?_|fail)));all_goals (conv=>whnf)
   ·refine ⟨⟨i+1,2,_,_,_,⟨by omega,by omega⟩,by omega,⟨⟨_,rfl,?_⟩,⟨_,rfl,?_⟩,trivial⟩,⟨⟨_,rfl,Wk.refl _⟩,⟨_,rfl,Wk.refl _⟩,trivial⟩,rfl,rfl,?_,?_,by omega,rfl,rfl,⟨_,rfl⟩,by simp [zal,below,tr],by simp [zap,Blk.below,zaa,below],zbb _ _⟩⟩
    ·exact Wk.refl _
    ·rw [hS];simp [stpC,show 1≤S.length by omega,show q<4 by omega];try exact Wk.refl _
    ·rw [hS];simp [stpC,show 1≤S.length by omega,show q<4 by omega];try omega
    ·rw [hS,show stpC S q _ 11=(S.take (S.length-1)++[.qn 9 (ltr (l.getD i 0 / 12)) (gF S (S.length-1))],q+1) from by simp [stpC,show 1≤S.length by omega,show q<4 by omega]];exact qn_wk _ 0 9 _ S (by omega)
   all_goals
    refine ⟨⟨i+1,1,_,_,_,⟨by omega,by omega⟩,by omega,⟨⟨_,rfl,?_⟩,⟨_,rfl,?_⟩,trivial⟩,⟨⟨_,rfl,Wk.refl _⟩,⟨_,rfl,Wk.refl _⟩,trivial⟩,rfl,rfl,?_,?_,by omega,rfl,rfl,⟨_,rfl⟩,by simp [zal,below,tr],by simp [zap,Blk.below,zaa,below],zbb _ _⟩⟩
    ·exact Wk.refl _
    ·rw [hS];simp [stpC,show ¬ (1≤S.length∧q<4) by omega];try exact Wk.refl _
    ·rw [hS];simp [stpC,show ¬ (1≤S.length∧q<4) by omega];try omega
    ·refine wkL_of_eq ?_;rw [hS];simp [stpC,gF,fqx,show ¬ (1≤S.length∧q<4) by omega]
 ·have hfin:bst (l.take i)=bst (l.take 24):=by
   by_cases h:l.length≤24
   ·rw [List.take_of_length_le h,List.take_of_length_le (show l.length≤i by omega)]
   ·rw [show i=24 by omega]
  unfold bltF
  rw [← hfin]
  generalize bst (l.take i)=SQ at hn hq4 ⊢
  obtain ⟨S,q⟩:=SQ
  dsimp only at hn hq4 ⊢
  by_cases hS:S.length=0
  ·have hfe:finF S=.fa:=by unfold finF;rw [if_pos hS]
   rw [hfe]
   (repeat' ((conv=>whnf);(first|(refine IfN.id ?_;first|refine IfN.dT (by omega) ?_|refine IfN.dF (by omega) ?_|refine IfN.dec (fun _=>?_) (fun _=>?_)|fail)|refine CallN.det _ (jn0 _) ?_|refine DrawN.mk' [] ?_|fail)));all_goals (conv=>whnf)
   all_goals exact EndN.det (fqx_below _ _) (Wk.refl _)
  ·have hfe:finF S=andN S (S.length-1):=by unfold finF;rw [if_neg hS]
   rw [hfe]
   (repeat' ((conv=>whnf);(first|(refine IfN.id ?_;first|refine IfN.dF (by omega) ?_|refine IfN.dec (fun _=>?_) (fun _=>?_)|fail)|(refine SideN.mk ?_ ?_;· first|kernel_rfl|omega|exact List.cons_ne_nil _ _|(simp;done)|(simp;omega)|exact trivial|assumption|fail)|refine SegN.nth (f:=fqx) Fq.fa 0 rfl (by omega) (fun _=>rfl) ?_|refine DrawN.mk' [] ?_|fail)));all_goals (conv=>whnf)
   all_goals
    refine za3 Tryz.E0 Tryz.mx (σ:=Nat) (fun j=>j+1≤S.length) (fun j=>S.length-j) (fun j=>[(10,.v (.int .i64 (j+1:Nat)))]) (fun j=>[.box 29 [.int .u8 0,.str .empty,.nils,.nils],.tok 29 4 (S.flatMap fqx).length,.box 29 (fqx (andN S j))]) _ 0 rfl hcl [2,3,9] rfl (by omega) ⟨⟨_,rfl,Wk.refl _⟩,trivial⟩ rfl (fun _ _=>rfl) ?_
    intro j hj
    (repeat' ((conv=>whnf);(first|refine IfN.dec (fun _=>?_) (fun _=>?_)|(refine EqN.addN _ _ Cst.h Cst.h ?_ ?_;· omega)|(refine SideN.mk ?_ ?_;· first|kernel_rfl|omega|exact List.cons_ne_nil _ _|(simp;done)|(simp;omega)|exact trivial|assumption|fail)|refine CallD.det _ (fun _ hq X=>jn2 5 (andN S j) (gF S (j+1)) _) ?_|refine SegN.nth (f:=fqx) Fq.fa (j+1) rfl (by omega) (fun _=>rfl) ?_|refine DrawN.mk' [] ?_|fail)));all_goals (conv=>whnf)
    ·(refine ⟨⟨j+1,by omega,by omega,?_,.inl ⟨rfl,rfl⟩,rfl,_,rfl,?_⟩⟩;rotate_left 1;(first|exact .inl rfl|exact .inr ⟨by simp [zal,below,zaa,tr,encB_below,zbb,fqx_below,ftl_below,fsl_below,tql_below,encS_below],by simp [zap,Blk.below,zaa,below,encB_below,zbb,fqx_below,ftl_below,fsl_below,tql_below,encS_below]⟩|fail);(repeat' (first|exact trivial|refine ⟨⟨_,rfl,?_⟩,?_⟩|fail));all_goals try (first|exact Wk.refl _|exact Wk.of_eq (congrArg (AV.int _) (by omega))|fail))
    ·have hje:S.length-1=j:=by omega
     rw [hje]
     exact EndN.det (fqx_below _ _) (Wk.refl _)
end
section
attribute [local irreducible] VW VCall VO bits
theorem wk_sxL {n:Nat} {l l':List AV} (h:WkL l l'):Wk (.sx n l) (.sl none n l'):=Wk.trans (wk_sx n l) (wk_slL h)
end
end Go.Proofs.YtgdmldelijeaoaaGreatDoor
