/- A text of the proof: the parts HB10y, IA10y, JA10y, KA10y, LA10y, MA10y, TB10y, TA10y, TC10y, TD10y, TE10y, TF10y, DZ10y. -/
import Derived.ProofKit
import Derived.LaidMore
import Derived.OpenShut
import Derived.Test.YtekhodpmpjehaaaGreatDoorK9
set_option linter.unusedSimpArgs false
set_option linter.unusedVariables false
set_option maxHeartbeats 8000000
namespace Go.Proofs.YtekhodpmpjehaaaGreatDoor
open Go.Vsi
section
attribute [local irreducible] VW VCall VO bits
theorem ixP_at (c:ByteArray):∀ (l:List ByteArray) (j:Nat),j<l.length→l.getD j eN=c→(∀ i,i<j→l.getD i eN≠c)→ixP l c=j
 | [],j,h,_,_=>absurd h (by simp)
 | d::l,0,_,h,_=>by
   have h:d=c:=h
   unfold ixP
   rw [List.findIdx_cons,h,decide_eq_true rfl]
   rfl
 | d::l,j+1,h,h1,h2=>by
   have hd:d≠c:=h2 0 (by omega)
   have ih:=ixP_at c l j (by simpa using h) h1 fun i hi=>h2 (i+1) (by omega)
   unfold ixP at ih ⊢
   rw [List.findIdx_cons,decide_eq_false (fun e=>hd e.symm),ih]
   rfl
def plI (l:List ByteArray) (c:ByteArray):Int:=if memG c l=true then (ixP l c:Nat) else -1
theorem place_c (l:List ByteArray) (c:ByteArray) (hlen:l.length≤1000) (H:Heap):VDet Tryz.prog 63 [.sl none l.length (l.flatMap encSG),.str c] H (.int .i64 (plI l c)):=by
 refine fdD Tryz.func63 ⟨rfl,rfl,rfl⟩ fun hcl hbl=>?_
 conv=>whnf
 refine zau Tryz.E0 zak (σ:=Nat) (fun j=>j≤l.length∧∀ i,i<j→l.getD i eN≠c) (fun j=>l.length-j) (fun j=>[(5,.v (.int .i64 j))]) (fun j=>[]) _ 0 rfl hcl [0,1] rfl ⟨Nat.zero_le _,fun i hi=>absurd hi (by omega)⟩ ⟨⟨_,rfl,Wk.refl _⟩,trivial⟩ rfl (fun _ _=>rfl) ?_
 intro j hj
 clear hbl
 (repeat' ((conv=>whnf);(first|(refine IfN.id ?_;first|refine za9 (fun _=>?_) (fun _=>?_)|(refine IfN.mk ?_ ?_ <;> intro _)|fail)|(refine zad _ _ Cst.h Cst.h ?_ ?_;· omega)|(refine SideN.mk ?_ ?_;· first|omega|exact List.cons_ne_nil _ _|fail)|refine zba (f:=encSG) (l:=l) eN j rfl (by omega) (fun _=>rfl) ?_|fail)));all_goals (conv=>whnf)
 ·rename_i h1 h2
  rw [zfb,decide_eq_true_eq] at h2
  have hm:memG c l=true:=(zdj c l).2 (h2▸zam l j eN (by omega))
  refine EndN.det trivial (zab (congrArg (AV.int _) ?_))
  unfold plI
  rw [if_pos hm,ixP_at c l j (by omega) h2 hj.2]
 ·rename_i h1 h2
  rw [zfb,decide_eq_false_iff_not] at h2
  (refine ⟨⟨j+1,⟨by omega,fun i hi=>by
   rcases Nat.lt_or_ge i j with h|h
   ·exact hj.2 i h
   ·obtain rfl:i=j:=by omega
    exact h2⟩,by omega,?_,.inl ⟨rfl,rfl⟩,rfl,_,rfl,?_⟩⟩;rotate_left 1;exact .inl rfl;exact ⟨⟨_,rfl,Wk.refl _⟩,trivial⟩)
 ·have hm:¬ memG c l=true:=fun hm=>by
   obtain ⟨i,hi,e⟩:=List.getElem_of_mem ((zdj c l).1 hm)
   exact hj.2 i (by omega) (by simp [List.getD_eq_getElem?_getD,hi,e])
  refine EndN.det trivial (zab (congrArg (AV.int _) ?_))
  unfold plI
  rw [if_neg hm]
theorem tb_int (v k:Nat):(((v >>> k % 2:Nat):Int)==1)=v.testBit k:=by
 rw [Nat.testBit_eq_decide_div_mod_eq,Nat.shiftRight_eq_div_pow]
 apply Bool.eq_iff_iff.2
 rw [beq_iff_eq,decide_eq_true_eq]
 omega
def ValP (l:List ByteArray) (v:Nat) (p:Fp):Prop:=∀ H,VDet Tryz.prog 50 [.agg p.fo.cells,.sl none l.length (l.flatMap encSG),.int .i64 (v:Nat)] H (.bool (p.ev (vbG l v)))
theorem val_at (l:List ByteArray) (h12:l.length≤12) (v:Nat) (hv:v≤4096) (c:ByteArray) (hc:c∈l):ValP l v (.at c):=by
 intro H
 obtain ⟨h1,-⟩:=ixP_find c l hc
 have hp:=place_c l c (by omega)
 rw [show plI l c=(ixP l c:Nat) by unfold plI;rw [if_pos ((zdj c l).2 hc)]] at hp
 rw [show (Fp.at c).fo.cells=[.int .u8 (1:Nat),.str c,.sl none 0 [],.sl none 0 []] by simp [Fp.fo,zaf]]
 rw [show (Fp.at c).ev (vbG l v)=v.testBit (l.length-1-ixP l c) from rfl]
 have hlb:=fun n=>zag n l
 generalize l.flatMap encSG=lc at *
 generalize ixP l c=x at *
 generalize l.length=n at *
 refine fdD Tryz.func50 ⟨rfl,rfl,rfl⟩ fun hcl hbl=>?_
 (repeat' ((conv=>whnf);(first|refine IfN.tt rfl ?_|(refine EqN.id ?_;first|(refine ze7 _ _ Cst.h Cst.h rfl ?_ ?_;· (repeat' (first|omega|refine And.intro ?_ ?_|exact zan (by omega)|exact zbd (by omega)|refine zb9 ?_ ?_|refine zbc ?_ ?_|refine zbj ?_ ?_|refine za2 ?_ ?_|refine zbk ?_|refine zbl ?_ ?_|refine zbm ?_|refine zan ?_|fail)))|(refine zcu _ _ Cst.h Cst.h ?_ ?_;· omega)|refine zhc _ _ Cst.h Cst.h ?_|fail)|refine SideN.mk (by omega) ?_|refine CallN.det _ (hp _) ?_|fail)));conv=>whnf
 exact EndN.det trivial (zab (congrArg AV.bool (tb_int v (n-1-x))))
theorem val_fa (l:List ByteArray) (v:Nat):ValP l v .fa:=by
 intro H
 rw [show Fp.fa.fo.cells=[.int .u8 (2:Nat),.str .empty,.sl none 0 [],.sl none 0 []] by simp [Fp.fo,zaf]]
 rw [show Fp.fa.ev (vbG l v)=false from rfl]
 have hlb:=fun n=>zag n l
 generalize l.flatMap encSG=lc at *
 refine fdD Tryz.func50 ⟨rfl,rfl,rfl⟩ fun hcl hbl=>?_
 (repeat' ((conv=>whnf);(first|refine IfN.ff rfl ?_|fail)));conv=>whnf
 exact eT trivial
theorem val_f1 (l:List ByteArray) (v:Nat) (a:Fp) (ih:ValP l v a):ValP l v (.f1 a):=by
 intro H
 unfold ValP at ih
 obtain ⟨ao,an,asn,asc,hac⟩:=zbi a
 rw [show (Fp.f1 a).fo.cells=[.int .u8 (3:Nat),.str .empty,.sl none 0 [],.sl none 1 a.fo.cells] by simp [Fp.fo,zaf]]
 rw [show (Fp.f1 a).ev (vbG l v)=!a.ev (vbG l v) from rfl]
 rw [hac] at ih ⊢
 have hlb:=fun n=>zag n l
 generalize l.flatMap encSG=lc at *
 generalize a.ev (vbG l v)=x at *
 refine fdD Tryz.func50 ⟨rfl,rfl,rfl⟩ fun hcl hbl=>?_
 (repeat' ((conv=>whnf);(first|(refine IfN.id ?_;first|refine IfN.tt rfl ?_|refine IfN.ff rfl ?_|fail)|(refine SideN.mk ?_ ?_;· first|omega|exact List.cons_ne_nil _ _|fail)|refine CallN.det _ (ih _) ?_|refine SegN.mk _ (zb8 rfl) ?_|fail)));conv=>whnf
 exact eT trivial
theorem val_f2_4 (l:List ByteArray) (v:Nat) (a b:Fp) (iha:ValP l v a) (ihb:ValP l v b):ValP l v (.f2 4 a b):=by
 intro H
 unfold ValP at iha ihb
 obtain ⟨ao,an,asn,asc,hac⟩:=zbi a
 obtain ⟨bo,bn,bsn,bsc,hbc⟩:=zbi b
 rw [show (Fp.f2 4 a b).fo.cells=[.int .u8 (4:Nat),.str .empty,.sl none 0 [],.sl none 2 (a.fo.cells++b.fo.cells)] by simp [Fp.fo,zaf]]
 rw [show (Fp.f2 4 a b).ev (vbG l v)=(a.ev (vbG l v)&&b.ev (vbG l v)) from rfl]
 rw [hac] at iha ⊢
 rw [hbc] at ihb ⊢
 have hlb:=fun n=>zag n l
 generalize l.flatMap encSG=lc at *
 generalize a.ev (vbG l v)=x at *
 generalize b.ev (vbG l v)=y at *
 simp only [List.cons_append,List.nil_append]
 cases x with
 | true =>
   refine fdD Tryz.func50 ⟨rfl,rfl,rfl⟩ fun hcl hbl=>?_
   (repeat' ((conv=>whnf);(first|(refine IfN.id ?_;first|refine IfN.tt rfl ?_|refine IfN.ff rfl ?_|fail)|(refine SideN.mk ?_ ?_;· first|omega|exact List.cons_ne_nil _ _|fail)|(refine CallN.id ?_;first|refine CallN.det _ (iha _) ?_|refine CallN.det _ (ihb _) ?_|fail)|refine SegN.mk _ (zb8 rfl) ?_|fail)));conv=>whnf
   exact eT trivial
 | false =>
   refine fdD Tryz.func50 ⟨rfl,rfl,rfl⟩ fun hcl hbl=>?_
   (repeat' ((conv=>whnf);(first|(refine IfN.id ?_;first|refine IfN.tt rfl ?_|refine IfN.ff rfl ?_|fail)|(refine SideN.mk ?_ ?_;· first|omega|exact List.cons_ne_nil _ _|fail)|refine CallN.det _ (iha _) ?_|refine SegN.mk _ (zb8 rfl) ?_|fail)));conv=>whnf
   exact eT trivial
theorem val_f2_5 (l:List ByteArray) (v:Nat) (a b:Fp) (iha:ValP l v a) (ihb:ValP l v b):ValP l v (.f2 5 a b):=by
 intro H
 unfold ValP at iha ihb
 obtain ⟨ao,an,asn,asc,hac⟩:=zbi a
 obtain ⟨bo,bn,bsn,bsc,hbc⟩:=zbi b
 rw [show (Fp.f2 5 a b).fo.cells=[.int .u8 (5:Nat),.str .empty,.sl none 0 [],.sl none 2 (a.fo.cells++b.fo.cells)] by simp [Fp.fo,zaf]]
 rw [show (Fp.f2 5 a b).ev (vbG l v)=(a.ev (vbG l v) || b.ev (vbG l v)) from rfl]
 rw [hac] at iha ⊢
 rw [hbc] at ihb ⊢
 have hlb:=fun n=>zag n l
 generalize l.flatMap encSG=lc at *
 generalize a.ev (vbG l v)=x at *
 generalize b.ev (vbG l v)=y at *
 simp only [List.cons_append,List.nil_append]
 cases x with
 | true =>
   refine fdD Tryz.func50 ⟨rfl,rfl,rfl⟩ fun hcl hbl=>?_
   (repeat' ((conv=>whnf);(first|(refine IfN.id ?_;first|refine IfN.tt rfl ?_|refine IfN.ff rfl ?_|fail)|(refine SideN.mk ?_ ?_;· first|omega|exact List.cons_ne_nil _ _|fail)|refine CallN.det _ (iha _) ?_|refine SegN.mk _ (zb8 rfl) ?_|fail)));conv=>whnf
   exact eT trivial
 | false =>
   refine fdD Tryz.func50 ⟨rfl,rfl,rfl⟩ fun hcl hbl=>?_
   (repeat' ((conv=>whnf);(first|(refine IfN.id ?_;first|refine IfN.tt rfl ?_|refine IfN.ff rfl ?_|fail)|(refine SideN.mk ?_ ?_;· first|omega|exact List.cons_ne_nil _ _|fail)|(refine CallN.id ?_;first|refine CallN.det _ (iha _) ?_|refine CallN.det _ (ihb _) ?_|fail)|refine SegN.mk _ (zb8 rfl) ?_|fail)));conv=>whnf
   exact eT trivial
theorem val_f2_6 (l:List ByteArray) (v:Nat) (a b:Fp) (iha:ValP l v a) (ihb:ValP l v b):ValP l v (.f2 6 a b):=by
 intro H
 unfold ValP at iha ihb
 obtain ⟨ao,an,asn,asc,hac⟩:=zbi a
 obtain ⟨bo,bn,bsn,bsc,hbc⟩:=zbi b
 rw [show (Fp.f2 6 a b).fo.cells=[.int .u8 (6:Nat),.str .empty,.sl none 0 [],.sl none 2 (a.fo.cells++b.fo.cells)] by simp [Fp.fo,zaf]]
 rw [show (Fp.f2 6 a b).ev (vbG l v)=(!a.ev (vbG l v) || b.ev (vbG l v)) from rfl]
 rw [hac] at iha ⊢
 rw [hbc] at ihb ⊢
 have hlb:=fun n=>zag n l
 generalize l.flatMap encSG=lc at *
 generalize a.ev (vbG l v)=x at *
 generalize b.ev (vbG l v)=y at *
 simp only [List.cons_append,List.nil_append]
 cases x with
 | true =>
   refine fdD Tryz.func50 ⟨rfl,rfl,rfl⟩ fun hcl hbl=>?_
   (repeat' ((conv=>whnf);(first|(refine IfN.id ?_;first|refine IfN.not ?_|refine IfN.tt rfl ?_|refine IfN.ff rfl ?_|fail)|(refine SideN.mk ?_ ?_;· first|omega|exact List.cons_ne_nil _ _|fail)|(refine CallN.id ?_;first|refine CallN.det _ (iha _) ?_|refine CallN.det _ (ihb _) ?_|fail)|refine SegN.mk _ (zb8 rfl) ?_|fail)));conv=>whnf
   exact eT trivial
 | false =>
   refine fdD Tryz.func50 ⟨rfl,rfl,rfl⟩ fun hcl hbl=>?_
   (repeat' ((conv=>whnf);(first|(refine IfN.id ?_;first|refine IfN.not ?_|refine IfN.tt rfl ?_|refine IfN.ff rfl ?_|fail)|(refine SideN.mk ?_ ?_;· first|omega|exact List.cons_ne_nil _ _|fail)|refine CallN.det _ (iha _) ?_|refine SegN.mk _ (zb8 rfl) ?_|fail)));conv=>whnf
   exact eT trivial
theorem val_f2_7 (l:List ByteArray) (v:Nat) (a b:Fp) (iha:ValP l v a) (ihb:ValP l v b):ValP l v (.f2 7 a b):=by
 intro H
 unfold ValP at iha ihb
 obtain ⟨ao,an,asn,asc,hac⟩:=zbi a
 obtain ⟨bo,bn,bsn,bsc,hbc⟩:=zbi b
 rw [show (Fp.f2 7 a b).fo.cells=[.int .u8 (7:Nat),.str .empty,.sl none 0 [],.sl none 2 (a.fo.cells++b.fo.cells)] by simp [Fp.fo,zaf]]
 rw [show (Fp.f2 7 a b).ev (vbG l v)=(a.ev (vbG l v)==b.ev (vbG l v)) from rfl]
 rw [hac] at iha ⊢
 rw [hbc] at ihb ⊢
 have hlb:=fun n=>zag n l
 generalize l.flatMap encSG=lc at *
 generalize a.ev (vbG l v)=x at *
 generalize b.ev (vbG l v)=y at *
 simp only [List.cons_append,List.nil_append]
 refine fdD Tryz.func50 ⟨rfl,rfl,rfl⟩ fun hcl hbl=>?_
 (repeat' ((conv=>whnf);(first|(refine IfN.id ?_;first|refine IfN.tt rfl ?_|refine IfN.ff rfl ?_|fail)|(refine SideN.mk ?_ ?_;· first|kernel_rfl|omega|exact List.cons_ne_nil _ _|fail)|(refine CallD.id ?_;first|refine CallD.det _ (fun _ hq X=>iha _) ?_|refine CallD.det _ (fun _ hq X=>ihb _) ?_|fail)|refine SegN.mk _ (zb8 rfl) ?_|refine zap [] ?_|fail)));conv=>whnf
 exact eT trivial
theorem val_c (l:List ByteArray) (h12:l.length≤12) (v:Nat) (hv:v≤4096):∀ f:Fp,f.Ok→f.In l→ValP l v f
 | .at c,_,h=>val_at l h12 v hv c h
 | .fa,_,_=>val_fa l v
 | .f1 a,ho,h=>val_f1 l v a (val_c l h12 v hv a ho h)
 | .f2 k a b,ho,h=>by
   have iha:=val_c l h12 v hv a ho.2.1 h.1
   have ihb:=val_c l h12 v hv b ho.2.2 h.2
   have hk:=ho.1
   rcases (show k=4∨k=5∨k=6∨k=7 by omega) with rfl|rfl|rfl|rfl
   ·exact val_f2_4 l v a b iha ihb
   ·exact val_f2_5 l v a b iha ihb
   ·exact val_f2_6 l v a b iha ihb
   ·exact val_f2_7 l v a b iha ihb
theorem value_g (f:Fo) (hr:zbe f=true) (l:List ByteArray) (h12:l.length≤12) (hin:∀ p:Fp,p.Ok→p.fo=f→p.In l) (v:Nat) (hv:v≤4096) (H:Heap):VDet Tryz.prog 50 [.agg f.cells,.sl none l.length (l.flatMap encSG),.int .i64 (v:Nat)] H (.bool (evF (vbG l v) f)):=by
 obtain ⟨p,hp,rfl⟩:=zez hr
 rw [zg6 _ p hp]
 exact val_c l h12 v hv p hp (hin p hp rfl) H
theorem insS_len (c:ByteArray):∀ l:List ByteArray,(insS c l).length≤l.length+1
 | []=>by unfold insS;simp
 | d::l=>by
   have:=insS_len c l
   unfold insS
   split
   ·simp only [List.length_cons];omega
   ·split <;> simp only [List.length_cons] <;> omega
def GaP (x:Fo):Prop:=∀ (ks:List ByteArray),ks.length+szzF x≤100000→∀ H,VDet Tryz.prog 51 [.sl none ks.length (ks.flatMap encSG),.agg x.cells] H (.sl none (gaF ks x).length ((gaF ks x).flatMap encSG))
theorem encSG_len (l:List ByteArray):(l.flatMap encSG).length=l.length * 1:=zb5 (f:=encSG) (sz:=1) (fun _=>rfl) l
theorem encSG_one:∀ l:List ByteArray,zbt (l.flatMap encSG)=true
 | []=>rfl
 | c::l=>by
   rw [List.flatMap_cons]
   exact encSG_one l
mutual
theorem gaF_len:∀ (f:Fo) (ks:List ByteArray),(gaF ks f).length≤ks.length+szzF f
 | .mk op s l m,ks=>by
   rw [gaF_mk]
   have h:=zc2 m (if op=1 then insS s ks else ks)
   have h2:=insS_len s ks
   have h3:szzF (.mk op s l m)=1+szzTs l+szzFs m:=by unfold szzF;rfl
   by_cases e:op=1
   ·simp only [if_pos e] at h ⊢
    omega
   ·simp only [if_neg e] at h ⊢
    omega
theorem zc2:∀ (l:List Fo) (ks:List ByteArray),(gaFs ks l).length≤ks.length+szzFs l
 | [],ks=>by rw [zc1];omega
 | x::l,ks=>by
   rw [zg0]
   have h:=zc2 l (gaF ks x)
   have h2:=gaF_len x ks
   have h3:szzFs (x::l)=szzF x+szzFs l:=by rw [szzFs.eq_def]
   omega
end
theorem zgz (s:ByteArray) (ks:List ByteArray) (j:Nat) (h:j≤ks.length) (h2:insS s ks=ks.take j++s::ks.drop j) {n:Nat} {c:List AV} (hn:n=ks.length+1) (hc:c=(ks.take j).flatMap encSG++([.str s]++(ks.drop j).flatMap encSG)):AV.sl none n c=.sl none (insS s ks).length ((insS s ks).flatMap encSG):=by
 rw [h2,hn,hc,List.flatMap_append,List.flatMap_cons]
 congr 1
 rw [List.length_append,List.length_cons,List.length_take,List.length_drop]
 omega
theorem ga_step (op:Nat) (s:ByteArray) (l:List Tm) (m:List Fo) (hop:op≤255) (hll:l.length≤9223372036854775807) (hml:m.length≤9223372036854775807) (hm:∀ x∈m,GaP x):GaP (.mk op s l m):=by
 intro ks hks H
 have hsz:szzF (.mk op s l m)=1+szzTs l+szzFs m:=by unfold szzF;rfl
 rw [zaf,gaF_mk]
 by_cases h1:op=1
 ·subst h1
  rw [if_pos rfl]
  have hil:=insS_len s ks
  refine fdD Tryz.func51 ⟨rfl,rfl,rfl⟩ fun hcl hbl=>?_
  (repeat' ((conv=>whnf);(first|refine IfN.tt rfl ?_|fail)));conv=>whnf
  refine zau Tryz.E0 zak (σ:=Nat) (fun j=>j≤ks.length∧∀ i,i<j→lessB (ks.getD i eN) s=true) (fun j=>ks.length-j) (fun j=>[(5,.v (.int .i64 j))]) (fun j=>_) _ 0 rfl hcl [0,3] rfl ⟨Nat.zero_le _,fun i hi=>absurd hi (by omega)⟩ ⟨⟨_,rfl,Wk.refl _⟩,trivial⟩ rfl (fun _ _=>rfl) ?_
  intro j hj
  clear hbl
  rcases Nat.eq_zero_or_pos j with h0|h0
  ·subst h0
   (repeat' ((conv=>whnf);(first|(refine IfN.id ?_;first|refine IfN.not ?_|refine IfN.dT (by omega) ?_|refine zaj (by omega) ?_|refine za9 (fun _=>?_) (fun _=>?_)|(refine IfN.mk ?_ ?_ <;> intro _)|fail)|(refine zad _ _ Cst.h Cst.h ?_ ?_;· omega)|(refine SideN.mk ?_ ?_;· first|kernel_rfl|omega|exact List.cons_ne_nil _ _|fail)|refine NatN.mk _ rfl ?_|refine zba (f:=encSG) (l:=ks) eN 0 rfl (by omega) (fun _=>rfl) ?_|refine zhb (f:=encSG) (lo:=0) (n:=0-0) (fun _=>rfl) (by omega) ?_|refine zhb (f:=encSG) (lo:=0) (n:=ks.length-0) (fun _=>rfl) (by omega) ?_|(refine OrN.r ?_;refine OrN.l ?_;refine SideN.mk (show 0-0=0 from rfl) ?_)|(refine OrN.l ?_;refine SideN.mk (show AppX _ _ _ _ _ _ from ⟨by decide,rfl,rfl,by decide,by decide⟩) ?_)|refine SideN.mk (show AppT _ _ _ _ _ _ _ from ⟨rfl,encSG_one _,by rw [encSG_len,List.length_take,List.length_drop,Nat.min_self],by dsimp only;omega,by unfold maxLen;omega⟩) ?_|refine PtrN.loc _ rfl ?_|refine zap [] ?_|fail)));all_goals (conv=>whnf)
   ·rename_i h2 h3
    (refine ⟨⟨0+1,⟨by omega,fun i hi=>by
     rcases Nat.lt_or_ge i 0 with h|h
     ·exact hj.2 i h
     ·obtain rfl:i=0:=by omega
      exact h3⟩,by omega,?_,.inl ⟨rfl,rfl⟩,rfl,_,rfl,?_⟩⟩;rotate_left 1;exact .inl rfl;exact ⟨⟨_,rfl,Wk.refl _⟩,trivial⟩)
   ·rename_i h2 h3 h4
    rw [zfb,decide_eq_true_eq] at h4
    have hins:insS s ks=ks:=by
     rw [zgh s ks 0 hj.1 hj.2 (fun _=>h3),if_neg]
     rintro (h|h)
     ·omega
     ·exact h h4
    refine zau Tryz.E0 zak (σ:=Nat) (fun j=>j≤m.length) (fun j=>m.length-j) (fun j=>[(0,.v (.sl none (gaFs (insS s ks) (m.take j)).length ((gaFs (insS s ks) (m.take j)).flatMap encSG))),(6,.v (.int .i64 j))]) (fun j=>_) _ 0 rfl hcl [3] rfl (Nat.zero_le _) ⟨⟨_,rfl,zab (by rw [List.take_zero,zc1,hins])⟩,⟨_,rfl,Wk.refl _⟩,trivial⟩ rfl (fun _ _=>rfl) ?_
    intro i hi
    rcases Nat.lt_or_ge i m.length with hlt|hge
    ·have hmem:=zam m i fo0 hlt
     have hx:=hm _ hmem
     unfold GaP at hx
     obtain ⟨w1,w2,w3,w4,w5,w6,hw,hb⟩:=zby (m.getD i fo0)
     have hs:=zde m fo0 (insS s ks) i hlt
     have hz:=zc2 (m.take i) (insS s ks)
     have hz2:szzFs (m.take i)+szzF (m.getD i fo0)≤szzFs m:=by
      rw [zbf,zbf,← zb3 szzF fo0 m i hlt]
      exact zdc szzF m (i+1)
     have hx:=hx (gaFs (insS s ks) (m.take i)) (by omega)
     rw [hs,hw] at hx
     have hlb:=fun n=>zag n (gaFs (insS s ks) (m.take i))
     have hlb2:=fun n=>zag n (gaFs (insS s ks) (m.take (i+1)))
     (repeat' ((conv=>whnf);(first|refine IfN.dT (by omega) ?_|(refine zad _ _ Cst.h Cst.h ?_ ?_;· omega)|(refine SideN.mk ?_ ?_;· first|omega|exact List.cons_ne_nil _ _|fail)|refine CallN.det _ (hx _) ?_|refine zah fo0 i rfl hlt za1 hw ?_|fail)));conv=>whnf
     (refine ⟨⟨i+1,by show i+1≤_;omega,by omega,?_,.inl ⟨rfl,rfl⟩,rfl,_,rfl,?_⟩⟩;rotate_left 1;exact .inl rfl;exact ⟨⟨_,rfl,Wk.refl _⟩,⟨_,rfl,Wk.refl _⟩,trivial⟩)
    ·obtain rfl:i=m.length:=by omega
     rw [List.take_length]
     (repeat' ((conv=>whnf);(first|refine zaj (by omega) ?_|fail)));conv=>whnf
     exact EndN.det ⟨fun _ e=>(nomatch e),zag _ _⟩ (Wk.refl _)
   ·rename_i h2 h3 h4
    rw [zfb,decide_eq_false_iff_not] at h4
    have hins:insS s ks=ks.take 0++s::ks.drop 0:=by
     rw [zgh s ks 0 hj.1 hj.2 (fun _=>h3),if_pos (.inr h4)]
    refine zau Tryz.E0 zak (σ:=Nat) (fun j=>j≤m.length) (fun j=>m.length-j) (fun j=>[(0,.v (.sl none (gaFs (insS s ks) (m.take j)).length ((gaFs (insS s ks) (m.take j)).flatMap encSG))),(6,.v (.int .i64 j))]) (fun j=>_) _ 0 rfl hcl [3] rfl (Nat.zero_le _) ⟨⟨_,rfl,Wk.trans (wk_sl _ _ _) (zab (by rw [List.take_zero,zc1];exact zgz s ks 0 hj.1 hins (by omega) (by simp [encSG])))⟩,⟨_,rfl,Wk.refl _⟩,trivial⟩ rfl (fun _ _=>rfl) ?_
    intro i hi
    rcases Nat.lt_or_ge i m.length with hlt|hge
    ·have hmem:=zam m i fo0 hlt
     have hx:=hm _ hmem
     unfold GaP at hx
     obtain ⟨w1,w2,w3,w4,w5,w6,hw,hb⟩:=zby (m.getD i fo0)
     have hs:=zde m fo0 (insS s ks) i hlt
     have hz:=zc2 (m.take i) (insS s ks)
     have hz2:szzFs (m.take i)+szzF (m.getD i fo0)≤szzFs m:=by
      rw [zbf,zbf,← zb3 szzF fo0 m i hlt]
      exact zdc szzF m (i+1)
     have hx:=hx (gaFs (insS s ks) (m.take i)) (by omega)
     rw [hs,hw] at hx
     have hlb:=fun n=>zag n (gaFs (insS s ks) (m.take i))
     have hlb2:=fun n=>zag n (gaFs (insS s ks) (m.take (i+1)))
     (repeat' ((conv=>whnf);(first|refine IfN.dT (by omega) ?_|(refine zad _ _ Cst.h Cst.h ?_ ?_;· omega)|(refine SideN.mk ?_ ?_;· first|omega|exact List.cons_ne_nil _ _|fail)|refine CallN.det _ (hx _) ?_|refine zah fo0 i rfl hlt za1 hw ?_|fail)));conv=>whnf
     (refine ⟨⟨i+1,by show i+1≤_;omega,by omega,?_,.inl ⟨rfl,rfl⟩,rfl,_,rfl,?_⟩⟩;rotate_left 1;exact .inl rfl;exact ⟨⟨_,rfl,Wk.refl _⟩,⟨_,rfl,Wk.refl _⟩,trivial⟩)
    ·obtain rfl:i=m.length:=by omega
     rw [List.take_length]
     (repeat' ((conv=>whnf);(first|refine zaj (by omega) ?_|fail)));conv=>whnf
     exact EndN.det ⟨fun _ e=>(nomatch e),zag _ _⟩ (Wk.refl _)
   ·rename_i h2
    have hins:insS s ks=ks.take 0++s::ks.drop 0:=by
     rw [zgh s ks 0 hj.1 hj.2 (fun h=>absurd h (by omega)),if_pos (.inl (by omega))]
    refine zau Tryz.E0 zak (σ:=Nat) (fun j=>j≤m.length) (fun j=>m.length-j) (fun j=>[(0,.v (.sl none (gaFs (insS s ks) (m.take j)).length ((gaFs (insS s ks) (m.take j)).flatMap encSG))),(6,.v (.int .i64 j))]) (fun j=>_) _ 0 rfl hcl [3] rfl (Nat.zero_le _) ⟨⟨_,rfl,Wk.trans (wk_sl _ _ _) (zab (by rw [List.take_zero,zc1];exact zgz s ks 0 hj.1 hins (by omega) (by simp [encSG])))⟩,⟨_,rfl,Wk.refl _⟩,trivial⟩ rfl (fun _ _=>rfl) ?_
    intro i hi
    rcases Nat.lt_or_ge i m.length with hlt|hge
    ·have hmem:=zam m i fo0 hlt
     have hx:=hm _ hmem
     unfold GaP at hx
     obtain ⟨w1,w2,w3,w4,w5,w6,hw,hb⟩:=zby (m.getD i fo0)
     have hs:=zde m fo0 (insS s ks) i hlt
     have hz:=zc2 (m.take i) (insS s ks)
     have hz2:szzFs (m.take i)+szzF (m.getD i fo0)≤szzFs m:=by
      rw [zbf,zbf,← zb3 szzF fo0 m i hlt]
      exact zdc szzF m (i+1)
     have hx:=hx (gaFs (insS s ks) (m.take i)) (by omega)
     rw [hs,hw] at hx
     have hlb:=fun n=>zag n (gaFs (insS s ks) (m.take i))
     have hlb2:=fun n=>zag n (gaFs (insS s ks) (m.take (i+1)))
     (repeat' ((conv=>whnf);(first|refine IfN.dT (by omega) ?_|(refine zad _ _ Cst.h Cst.h ?_ ?_;· omega)|(refine SideN.mk ?_ ?_;· first|omega|exact List.cons_ne_nil _ _|fail)|refine CallN.det _ (hx _) ?_|refine zah fo0 i rfl hlt za1 hw ?_|fail)));conv=>whnf
     (refine ⟨⟨i+1,by show i+1≤_;omega,by omega,?_,.inl ⟨rfl,rfl⟩,rfl,_,rfl,?_⟩⟩;rotate_left 1;exact .inl rfl;exact ⟨⟨_,rfl,Wk.refl _⟩,⟨_,rfl,Wk.refl _⟩,trivial⟩)
    ·obtain rfl:i=m.length:=by omega
     rw [List.take_length]
     (repeat' ((conv=>whnf);(first|refine zaj (by omega) ?_|fail)));conv=>whnf
     exact EndN.det ⟨fun _ e=>(nomatch e),zag _ _⟩ (Wk.refl _)
  ·have hj1:=hj.1
   (repeat' ((conv=>whnf);(first|(refine IfN.id ?_;first|refine IfN.not ?_|refine IfN.dT (by omega) ?_|refine zaj (by omega) ?_|refine za9 (fun _=>?_) (fun _=>?_)|(refine IfN.mk ?_ ?_ <;> intro _)|fail)|(refine zad _ _ Cst.h Cst.h ?_ ?_;· omega)|(refine SideN.mk ?_ ?_;· first|kernel_rfl|omega|exact List.cons_ne_nil _ _|fail)|refine NatN.mk _ rfl ?_|refine zba (f:=encSG) (l:=ks) eN j rfl (by omega) (fun _=>rfl) ?_|refine zhb (f:=encSG) (lo:=0) (n:=j-0) (fun _=>rfl) (by omega) ?_|refine zhb (f:=encSG) (lo:=j) (n:=ks.length-j) (fun _=>rfl) (by omega) ?_|(refine OrN.l ?_;refine SideN.mk (show AppX _ _ _ _ _ _ from ⟨by omega,rfl,by rw [encSG_len,List.length_take,List.length_drop];show min (j-0) (ks.length-0) * 1=(j-0) * 1;omega,by dsimp only;omega,by unfold maxLen;omega⟩) ?_)|refine SideN.mk (show AppT _ _ _ _ _ _ _ from ⟨rfl,rfl,rfl,by dsimp only;omega,by unfold maxLen;omega⟩) ?_|refine SideN.mk (show AppT _ _ _ _ _ _ _ from ⟨rfl,encSG_one _,by rw [encSG_len,List.length_take,List.length_drop,Nat.min_self],by dsimp only;omega,by unfold maxLen;omega⟩) ?_|refine PtrN.loc _ rfl ?_|refine zap [] ?_|fail)));all_goals (conv=>whnf)
   ·rename_i h2 h3
    (refine ⟨⟨j+1,⟨by omega,fun i hi=>by
     rcases Nat.lt_or_ge i j with h|h
     ·exact hj.2 i h
     ·obtain rfl:i=j:=by omega
      exact h3⟩,by omega,?_,.inl ⟨rfl,rfl⟩,rfl,_,rfl,?_⟩⟩;rotate_left 1;exact .inl rfl;exact ⟨⟨_,rfl,Wk.refl _⟩,trivial⟩)
   ·rename_i h2 h3 h4
    rw [zfb,decide_eq_true_eq] at h4
    have hins:insS s ks=ks:=by
     rw [zgh s ks j hj.1 hj.2 (fun _=>h3),if_neg]
     rintro (h|h)
     ·omega
     ·exact h h4
    refine zau Tryz.E0 zak (σ:=Nat) (fun j=>j≤m.length) (fun j=>m.length-j) (fun j=>[(0,.v (.sl none (gaFs (insS s ks) (m.take j)).length ((gaFs (insS s ks) (m.take j)).flatMap encSG))),(6,.v (.int .i64 j))]) (fun j=>_) _ 0 rfl hcl [3] rfl (Nat.zero_le _) ⟨⟨_,rfl,zab (by rw [List.take_zero,zc1,hins])⟩,⟨_,rfl,Wk.refl _⟩,trivial⟩ rfl (fun _ _=>rfl) ?_
    intro i hi
    rcases Nat.lt_or_ge i m.length with hlt|hge
    ·have hmem:=zam m i fo0 hlt
     have hx:=hm _ hmem
     unfold GaP at hx
     obtain ⟨w1,w2,w3,w4,w5,w6,hw,hb⟩:=zby (m.getD i fo0)
     have hs:=zde m fo0 (insS s ks) i hlt
     have hz:=zc2 (m.take i) (insS s ks)
     have hz2:szzFs (m.take i)+szzF (m.getD i fo0)≤szzFs m:=by
      rw [zbf,zbf,← zb3 szzF fo0 m i hlt]
      exact zdc szzF m (i+1)
     have hx:=hx (gaFs (insS s ks) (m.take i)) (by omega)
     rw [hs,hw] at hx
     have hlb:=fun n=>zag n (gaFs (insS s ks) (m.take i))
     have hlb2:=fun n=>zag n (gaFs (insS s ks) (m.take (i+1)))
     (repeat' ((conv=>whnf);(first|refine IfN.dT (by omega) ?_|(refine zad _ _ Cst.h Cst.h ?_ ?_;· omega)|(refine SideN.mk ?_ ?_;· first|omega|exact List.cons_ne_nil _ _|fail)|refine CallN.det _ (hx _) ?_|refine zah fo0 i rfl hlt za1 hw ?_|fail)));conv=>whnf
     (refine ⟨⟨i+1,by show i+1≤_;omega,by omega,?_,.inl ⟨rfl,rfl⟩,rfl,_,rfl,?_⟩⟩;rotate_left 1;exact .inl rfl;exact ⟨⟨_,rfl,Wk.refl _⟩,⟨_,rfl,Wk.refl _⟩,trivial⟩)
    ·obtain rfl:i=m.length:=by omega
     rw [List.take_length]
     (repeat' ((conv=>whnf);(first|refine zaj (by omega) ?_|fail)));conv=>whnf
     exact EndN.det ⟨fun _ e=>(nomatch e),zag _ _⟩ (Wk.refl _)
   ·rename_i h2 h3 h4
    rw [zfb,decide_eq_false_iff_not] at h4
    have hins:insS s ks=ks.take j++s::ks.drop j:=by
     rw [zgh s ks j hj.1 hj.2 (fun _=>h3),if_pos (.inr h4)]
    refine zau Tryz.E0 zak (σ:=Nat) (fun j=>j≤m.length) (fun j=>m.length-j) (fun j=>[(0,.v (.sl none (gaFs (insS s ks) (m.take j)).length ((gaFs (insS s ks) (m.take j)).flatMap encSG))),(6,.v (.int .i64 j))]) (fun j=>_) _ 0 rfl hcl [3] rfl (Nat.zero_le _) ⟨⟨_,rfl,Wk.trans (wk_sl _ _ _) (zab (by rw [List.take_zero,zc1];exact zgz s ks j hj.1 hins (by omega) (by rw [List.nil_append,Nat.sub_zero,List.drop_zero,List.append_assoc,show (ks.drop j).take (ks.length-j)=ks.drop j from List.take_of_length_le (by rw [List.length_drop];exact Nat.le_refl _)])))⟩,⟨_,rfl,Wk.refl _⟩,trivial⟩ rfl (fun _ _=>rfl) ?_
    intro i hi
    rcases Nat.lt_or_ge i m.length with hlt|hge
    ·have hmem:=zam m i fo0 hlt
     have hx:=hm _ hmem
     unfold GaP at hx
     obtain ⟨w1,w2,w3,w4,w5,w6,hw,hb⟩:=zby (m.getD i fo0)
     have hs:=zde m fo0 (insS s ks) i hlt
     have hz:=zc2 (m.take i) (insS s ks)
     have hz2:szzFs (m.take i)+szzF (m.getD i fo0)≤szzFs m:=by
      rw [zbf,zbf,← zb3 szzF fo0 m i hlt]
      exact zdc szzF m (i+1)
     have hx:=hx (gaFs (insS s ks) (m.take i)) (by omega)
     rw [hs,hw] at hx
     have hlb:=fun n=>zag n (gaFs (insS s ks) (m.take i))
     have hlb2:=fun n=>zag n (gaFs (insS s ks) (m.take (i+1)))
     (repeat' ((conv=>whnf);(first|refine IfN.dT (by omega) ?_|(refine zad _ _ Cst.h Cst.h ?_ ?_;· omega)|(refine SideN.mk ?_ ?_;· first|omega|exact List.cons_ne_nil _ _|fail)|refine CallN.det _ (hx _) ?_|refine zah fo0 i rfl hlt za1 hw ?_|fail)));conv=>whnf
     (refine ⟨⟨i+1,by show i+1≤_;omega,by omega,?_,.inl ⟨rfl,rfl⟩,rfl,_,rfl,?_⟩⟩;rotate_left 1;exact .inl rfl;exact ⟨⟨_,rfl,Wk.refl _⟩,⟨_,rfl,Wk.refl _⟩,trivial⟩)
    ·obtain rfl:i=m.length:=by omega
     rw [List.take_length]
     (repeat' ((conv=>whnf);(first|refine zaj (by omega) ?_|fail)));conv=>whnf
     exact EndN.det ⟨fun _ e=>(nomatch e),zag _ _⟩ (Wk.refl _)
   ·rename_i h2
    have hins:insS s ks=ks.take j++s::ks.drop j:=by
     rw [zgh s ks j hj.1 hj.2 (fun h=>absurd h (by omega)),if_pos (.inl (by omega))]
    refine zau Tryz.E0 zak (σ:=Nat) (fun j=>j≤m.length) (fun j=>m.length-j) (fun j=>[(0,.v (.sl none (gaFs (insS s ks) (m.take j)).length ((gaFs (insS s ks) (m.take j)).flatMap encSG))),(6,.v (.int .i64 j))]) (fun j=>_) _ 0 rfl hcl [3] rfl (Nat.zero_le _) ⟨⟨_,rfl,Wk.trans (wk_sl _ _ _) (zab (by rw [List.take_zero,zc1];exact zgz s ks j hj.1 hins (by omega) (by rw [List.nil_append,Nat.sub_zero,List.drop_zero,List.append_assoc,show (ks.drop j).take (ks.length-j)=ks.drop j from List.take_of_length_le (by rw [List.length_drop];exact Nat.le_refl _)])))⟩,⟨_,rfl,Wk.refl _⟩,trivial⟩ rfl (fun _ _=>rfl) ?_
    intro i hi
    rcases Nat.lt_or_ge i m.length with hlt|hge
    ·have hmem:=zam m i fo0 hlt
     have hx:=hm _ hmem
     unfold GaP at hx
     obtain ⟨w1,w2,w3,w4,w5,w6,hw,hb⟩:=zby (m.getD i fo0)
     have hs:=zde m fo0 (insS s ks) i hlt
     have hz:=zc2 (m.take i) (insS s ks)
     have hz2:szzFs (m.take i)+szzF (m.getD i fo0)≤szzFs m:=by
      rw [zbf,zbf,← zb3 szzF fo0 m i hlt]
      exact zdc szzF m (i+1)
     have hx:=hx (gaFs (insS s ks) (m.take i)) (by omega)
     rw [hs,hw] at hx
     have hlb:=fun n=>zag n (gaFs (insS s ks) (m.take i))
     have hlb2:=fun n=>zag n (gaFs (insS s ks) (m.take (i+1)))
     (repeat' ((conv=>whnf);(first|refine IfN.dT (by omega) ?_|(refine zad _ _ Cst.h Cst.h ?_ ?_;· omega)|(refine SideN.mk ?_ ?_;· first|omega|exact List.cons_ne_nil _ _|fail)|refine CallN.det _ (hx _) ?_|refine zah fo0 i rfl hlt za1 hw ?_|fail)));conv=>whnf
     (refine ⟨⟨i+1,by show i+1≤_;omega,by omega,?_,.inl ⟨rfl,rfl⟩,rfl,_,rfl,?_⟩⟩;rotate_left 1;exact .inl rfl;exact ⟨⟨_,rfl,Wk.refl _⟩,⟨_,rfl,Wk.refl _⟩,trivial⟩)
    ·obtain rfl:i=m.length:=by omega
     rw [List.take_length]
     (repeat' ((conv=>whnf);(first|refine zaj (by omega) ?_|fail)));conv=>whnf
     exact EndN.det ⟨fun _ e=>(nomatch e),zag _ _⟩ (Wk.refl _)
 ·rw [if_neg h1]
  refine fdD Tryz.func51 ⟨rfl,rfl,rfl⟩ fun hcl hbl=>?_
  (repeat' ((conv=>whnf);(first|refine zaj (by omega) ?_|fail)));conv=>whnf
  refine zau Tryz.E0 zak (σ:=Nat) (fun j=>j≤m.length) (fun j=>m.length-j) (fun j=>[(0,.v (.sl none (gaFs ks (m.take j)).length ((gaFs ks (m.take j)).flatMap encSG))),(6,.v (.int .i64 j))]) (fun j=>_) _ 0 rfl hcl [3] rfl (Nat.zero_le _) ⟨⟨_,rfl,zab (by rw [List.take_zero,zc1])⟩,⟨_,rfl,Wk.refl _⟩,trivial⟩ rfl (fun _ _=>rfl) ?_
  intro i hi
  rcases Nat.lt_or_ge i m.length with hlt|hge
  ·have hmem:=zam m i fo0 hlt
   have hx:=hm _ hmem
   unfold GaP at hx
   obtain ⟨w1,w2,w3,w4,w5,w6,hw,hb⟩:=zby (m.getD i fo0)
   have hs:=zde m fo0 ks i hlt
   have hz:=zc2 (m.take i) ks
   have hz2:szzFs (m.take i)+szzF (m.getD i fo0)≤szzFs m:=by
    rw [zbf,zbf,← zb3 szzF fo0 m i hlt]
    exact zdc szzF m (i+1)
   have hx:=hx (gaFs ks (m.take i)) (by omega)
   rw [hs,hw] at hx
   have hlb:=fun n=>zag n (gaFs ks (m.take i))
   have hlb2:=fun n=>zag n (gaFs ks (m.take (i+1)))
   (repeat' ((conv=>whnf);(first|refine IfN.dT (by omega) ?_|(refine zad _ _ Cst.h Cst.h ?_ ?_;· omega)|(refine SideN.mk ?_ ?_;· first|omega|exact List.cons_ne_nil _ _|fail)|refine CallN.det _ (hx _) ?_|refine zah fo0 i rfl hlt za1 hw ?_|fail)));conv=>whnf
   (refine ⟨⟨i+1,by show i+1≤_;omega,by omega,?_,.inl ⟨rfl,rfl⟩,rfl,_,rfl,?_⟩⟩;rotate_left 1;exact .inl rfl;exact ⟨⟨_,rfl,Wk.refl _⟩,⟨_,rfl,Wk.refl _⟩,trivial⟩)
  ·obtain rfl:i=m.length:=by omega
   rw [List.take_length]
   (repeat' ((conv=>whnf);(first|refine zaj (by omega) ?_|fail)));conv=>whnf
   exact EndN.det ⟨fun _ e=>(nomatch e),zag _ _⟩ (Wk.refl _)
mutual
theorem ga_g:∀ x:Fo,x.good→GaP x
 | .mk op s l m,h=>ga_step op s l m h.1 (za4 h.2.2.1) (za4 h.2.2.2.2.1) (gas_g m h.2.2.2.2.2)
theorem gas_g:∀ l:List Fo,Fo.goodL l→∀ x∈l,GaP x
 | [],_,x,h=>by cases h
 | y::l,hg,x,h=>by
   have h1:=ga_g y hg.1
   have h2:=gas_g l hg.2
   rcases List.mem_cons.1 h with e|h
   ·exact e▸h1
   ·exact h2 x h
end
theorem refAtoms_c (l:List Fo) (hg:Fo.goodL l) (hlen:l.length≤9223372036854775807) (hn:szzFs l≤100000) (H:Heap):VDet Tryz.prog 14 [.sl none l.length (l.flatMap Fo.cells)] H (.sl none (zao l).length ((zao l).flatMap encSG)):=by
 rw [zc6]
 have hm:=gas_g l hg
 refine fdD Tryz.func14 ⟨rfl,rfl,rfl⟩ fun hcl hbl=>?_
 conv=>whnf
 refine zau Tryz.E0 zak (σ:=Nat) (fun j=>j≤l.length) (fun j=>l.length-j) (fun j=>[(3,.v (.sl none (gaFs [] (l.take j)).length ((gaFs [] (l.take j)).flatMap encSG))),(4,.v (.int .i64 j))]) (fun j=>_) _ 0 rfl hcl [0] rfl (Nat.zero_le _) ⟨⟨_,rfl,Wk.trans zdo (zab (by rw [List.take_zero,zc1];rfl))⟩,⟨_,rfl,Wk.refl _⟩,trivial⟩ rfl (fun _ _=>rfl) ?_
 intro i hi
 rcases Nat.lt_or_ge i l.length with hlt|hge
 ·have hmem:=zam l i fo0 hlt
  have hx:=hm _ hmem
  unfold GaP at hx
  obtain ⟨w1,w2,w3,w4,w5,w6,hw,hb⟩:=zby (l.getD i fo0)
  have hs:=zde l fo0 [] i hlt
  have hz:=zc2 (l.take i) []
  rw [List.length_nil,Nat.zero_add] at hz
  have hz2:szzFs (l.take i)+szzF (l.getD i fo0)≤szzFs l:=by
   rw [zbf,zbf,← zb3 szzF fo0 l i hlt]
   exact zdc szzF l (i+1)
  have hx:=hx (gaFs [] (l.take i)) (by omega)
  rw [hs,hw] at hx
  have hlb:=fun n=>zag n (gaFs [] (l.take i))
  have hlb2:=fun n=>zag n (gaFs [] (l.take (i+1)))
  (repeat' ((conv=>whnf);(first|refine IfN.dT (by omega) ?_|(refine zad _ _ Cst.h Cst.h ?_ ?_;· omega)|(refine SideN.mk ?_ ?_;· first|omega|exact List.cons_ne_nil _ _|fail)|refine CallN.det _ (hx _) ?_|refine zah fo0 i rfl hlt za1 hw ?_|fail)));conv=>whnf
  (refine ⟨⟨i+1,by show i+1≤_;omega,by omega,?_,.inl ⟨rfl,rfl⟩,rfl,_,rfl,?_⟩⟩;rotate_left 1;exact .inl rfl;exact ⟨⟨_,rfl,Wk.refl _⟩,⟨_,rfl,Wk.refl _⟩,trivial⟩)
 ·obtain rfl:i=l.length:=by omega
  rw [List.take_length]
  (repeat' ((conv=>whnf);(first|refine zaj (by omega) ?_|fail)));conv=>whnf
  exact EndN.det ⟨fun _ e=>(nomatch e),zag _ _⟩ (Wk.refl _)
theorem sameTexts_c (l:List ByteArray) (hlen:l.length≤1000000) (H:Heap):VDet Tryz.prog 13 [.sl none l.length (l.flatMap encSG),.sl none l.length (l.flatMap encSG)] H (.bool true):=by
 refine fdD Tryz.func13 ⟨rfl,rfl,rfl⟩ fun hcl hbl=>?_
 (repeat' ((conv=>whnf);(first|(refine IfN.id ?_;first|refine IfN.not ?_|refine IfN.dT (by omega) ?_|fail)|fail)));conv=>whnf
 refine zau Tryz.E0 zak (σ:=Nat) (fun j=>j≤l.length) (fun j=>l.length-j) (fun j=>[(5,.v (.int .i64 j))]) (fun j=>_) _ 0 rfl hcl [0,1] rfl (Nat.zero_le _) ⟨⟨_,rfl,Wk.refl _⟩,trivial⟩ rfl (fun _ _=>rfl) ?_
 intro j hj
 rcases Nat.lt_or_ge j l.length with hlt|hge
 ·(repeat' ((conv=>whnf);(first|(refine IfN.id ?_;first|refine IfN.ff (show (!((l.getD j eN).toList==(l.getD j eN).toList))=false by simp) ?_|refine IfN.dT (by omega) ?_|fail)|(refine zad _ _ Cst.h Cst.h ?_ ?_;· omega)|(refine SideN.mk ?_ ?_;· first|kernel_rfl|omega|exact List.cons_ne_nil _ _|fail)|refine zba (f:=encSG) (l:=l) eN j rfl (by omega) (fun _=>rfl) ?_|refine zap [] ?_|fail)));conv=>whnf
  (refine ⟨⟨j+1,by show j+1≤_;omega,by omega,?_,.inl ⟨rfl,rfl⟩,rfl,_,rfl,?_⟩⟩;rotate_left 1;exact .inl rfl;exact ⟨⟨_,rfl,Wk.refl _⟩,trivial⟩)
 ·(repeat' ((conv=>whnf);(first|refine zaj (by omega) ?_|fail)));conv=>whnf
  exact eT trivial
theorem szzF_mem {l:List Fo} {x:Fo} (h:x∈l):szzF x≤szzFs l:=by
 induction l with
 | nil=>cases h
 | cons y l ih =>
   have e:szzFs (y::l)=szzF y+szzFs l:=by rw [szzFs.eq_def]
   rcases List.mem_cons.1 h with rfl|h
   ·omega
   ·have:=ih h
    omega
theorem goodL_mem {l:List Fo} {x:Fo} (h:x∈l) (hg:Fo.goodL l):x.good:=by
 induction l with
 | nil=>cases h
 | cons y l ih =>
   rcases List.mem_cons.1 h with rfl|h
   ·exact hg.1
   ·exact ih h hg.2
theorem few5_c (l:List Fo) (hl:l.length≤9223372036854775807) (hg:Fo.goodL l) (H:Heap):VDet Tryz.prog 5 [.sl none l.length (l.flatMap Fo.cells)] H (.bool (fewF l)):=by
 have h:=fewForms_c l hl hg
 have hlb:=fun n=>zar n l
 generalize fewF l=b at *
 generalize l.flatMap Fo.cells=lc at *
 generalize l.length=n at *
 refine fdD Tryz.func5 ⟨rfl,rfl,rfl⟩ fun hcl hbl=>?_
 (repeat' ((conv=>whnf);(first|refine CallN.det _ (h _) ?_|fail)));conv=>whnf
 exact eT trivial
def bP:ByteArray:=⟨#[80]⟩
def bQ:ByteArray:=⟨#[81]⟩
def oP:Fo:=.mk 1 bP [] []
def oQ:Fo:=.mk 1 bQ [] []
def oN:Fo:=.mk 3 .empty [] [oP]
def oImp:Fo:=.mk 6 .empty [] [oP,oQ]
def oOr:Fo:=.mk 5 .empty [] [oP,oQ]
theorem aw_t2:tblA oImp [bP,bQ]=.tup [.sl none 4 [.bool true,.bool true,.bool false,.bool true],.int .i64 0]:=by
 simp only [tblA,errN,inAll,zc6]
 kernel_rfl
theorem aw_t3:tblA oImp [⟨#[65]⟩,bP,bQ]=.tup [.sl none 8 [.bool true,.bool true,.bool false,.bool true,.bool true,.bool true,.bool false,.bool true],.int .i64 0]:=by
 simp only [tblA,errN,inAll,zc6]
 kernel_rfl
theorem aw_t4:evalA oP [bP,bQ] 2=.tup [.bool true,.int .i64 0]:=by kernel_rfl
theorem aw_t5:evalA oP [bQ] 0=.tup [.bool false,.int .i64 6]:=by kernel_rfl
theorem aw_t6:cntA oImp=.tup [.int .i64 3,.int .i64 4,.int .i64 0]:=by
 simp only [cntA,zc6]
 kernel_rfl
theorem aw_t7:folA [oOr,oN] [oQ]=.tup [.bool true,.int .i64 0]:=by
 unfold folA falVG falBG
 simp only [zc6]
 kernel_rfl
theorem aw_t8:flsA [oOr] [oP]=.tup [.int .i64 1,.bool true,.int .i64 0]:=by
 unfold flsA falVG falBG
 simp only [zc6]
 kernel_rfl
theorem aw_t9:flsA [] []=.tup [.int .i64 0,.bool true,.int .i64 0]:=by kernel_rfl
theorem atom_c (s:ByteArray) (H:Heap):VDet Tryz.prog 35 [.str s] H (.agg [.int .u8 (1:Nat),.str s,.sl none 0 [],.sl none 0 []]):=by
 refine fdD Tryz.func35 ⟨rfl,rfl,rfl⟩ fun hcl hbl=>?_
 conv=>whnf
 exact EndN.det (by simp [below,zae]) (by (repeat' (first|exact trivial|refine And.intro ?_ ?_|exact Wk.refl _|exact zdo|refine zdh ?_|fail));done)
theorem join_c (op n:Nat) (c:List AV) (H:Heap) (hc:zae H.length c):VDet Tryz.prog 36 [.int .u8 (op:Nat),.sl none n c] H (.agg [.int .u8 (op:Nat),.str .empty,.sl none 0 [],.sl none n c]):=by
 refine fdD Tryz.func36 ⟨rfl,rfl,rfl⟩ fun hcl hbl=>?_
 conv=>whnf
 exact EndN.det (by simp [below,zae,hc]) (by (repeat' (first|exact trivial|refine And.intro ?_ ?_|exact Wk.refl _|exact zdo|refine zdh ?_|fail));done)
theorem good_aw:oP.good∧oQ.good∧oN.good∧oImp.good∧oOr.good:=by
 simp [oP,oQ,oN,oImp,oOr,Fo.good,Fo.goodL,Tm.goodL,bP,bQ,maxLen]
 decide
theorem oP_c:oP.cells=[.int .u8 (1:Nat),.str ⟨#[80]⟩,.sl none 0 [],.sl none 0 []]:=zaf ..
theorem oQ_c:oQ.cells=[.int .u8 (1:Nat),.str ⟨#[81]⟩,.sl none 0 [],.sl none 0 []]:=zaf ..
theorem oN_c:oN.cells=[.int .u8 (3:Nat),.str .empty,.sl none 0 [],.sl none 1 [.int .u8 (1:Nat),.str ⟨#[80]⟩,.sl none 0 [],.sl none 0 []]]:=by
 unfold oN
 rw [zaf,List.flatMap_cons,oP_c]
 rfl
theorem o2_c (op:Nat):(Fo.mk op .empty [] [oP,oQ]).cells=[.int .u8 (op:Nat),.str .empty,.sl none 0 [],.sl none 2 [.int .u8 (1:Nat),.str ⟨#[80]⟩,.sl none 0 [],.sl none 0 [],.int .u8 (1:Nat),.str ⟨#[81]⟩,.sl none 0 [],.sl none 0 []]]:=by
 rw [zaf,List.flatMap_cons,List.flatMap_cons,oP_c,oQ_c]
 rfl
theorem zct (l:List Fo):(addGs [] l).length≤szzFs l:=by
 rw [← zdn,zc6]
 have:=zc2 l []
 simpa using this
theorem awake_c (H:Heap):VDet Tryz.prog 6 [] H (.bool true):=by
 obtain ⟨gP,gQ,gN,gI,gO⟩:=good_aw
 have sz:szzFs [oImp]≤100∧szzFs [oP]≤100∧szzFs [oOr,oN,oQ]≤100∧szzFs [oOr,oP]≤100:=by decide
 have t2:=fun H=>table_g oImp gI (Nat.le_trans (zct _) (by omega)) [bP,bQ] (by decide) (by decide) H
 rw [aw_t2] at t2
 have t3:=fun H=>table_g oImp gI (Nat.le_trans (zct _) (by omega)) [⟨#[65]⟩,bP,bQ] (by decide) (by decide) H
 rw [aw_t3] at t3
 have e2:=fun H=>eval_g oP gP (Nat.le_trans (zct _) (by omega)) [bP,bQ] (by decide) (by decide) 2 H
 rw [aw_t4] at e2
 have e1:=fun H=>eval_g oP gP (Nat.le_trans (zct _) (by omega)) [bQ] (by decide) (by decide) 0 H
 rw [aw_t5] at e1
 have ci:=fun H=>count_g oImp gI (Nat.le_trans (zct _) (by omega)) H
 rw [aw_t6] at ci
 have fo:=fun H=>follows_g [oOr,oN] [oQ] ⟨gO,gN,trivial⟩ ⟨gQ,trivial⟩ ⟨gO,gN,gQ,trivial⟩ (Nat.le_trans (zct [oOr,oN,oQ]) (by omega)) (by decide) H
 rw [aw_t7] at fo
 have fa:=fun H=>falsify_g [oOr] [oP] ⟨gO,trivial⟩ ⟨gP,trivial⟩ ⟨gO,gP,trivial⟩ (Nat.le_trans (zct [oOr,oP]) (by omega)) (by decide) H
 rw [aw_t8] at fa
 have fn:=fun H=>falsify_g [] [] trivial trivial trivial (by decide) (by decide) H
 rw [aw_t9] at fn
 have hI:oImp.cells=_:=o2_c 6
 have hO:oOr.cells=_:=o2_c 5
 simp only [List.flatMap_cons,List.flatMap_nil,List.append_nil,hI,hO,oP_c,oQ_c,oN_c,encSG,bP,bQ,List.length_cons,List.length_nil,List.cons_append,List.nil_append] at t2 t3 e2 e1 ci fo fa fn
 clear hI hO sz gP gQ gN gI gO
 have aP:=atom_c ⟨#[80]⟩
 have aQ:=atom_c ⟨#[81]⟩
 have t2:∀ H,VDet Tryz.prog 20 [.agg [.int .u8 (6:Nat),.str .empty,.sl none 0 [],.sl none 2 [.int .u8 (1:Nat),.str ⟨#[80]⟩,.sl none 0 [],.sl none 0 [],.int .u8 (1:Nat),.str ⟨#[81]⟩,.sl none 0 [],.sl none 0 []]],.sx 2 [.str ⟨#[80]⟩,.str ⟨#[81]⟩]] H _:=fun H=>zbg (t2 H) ⟨Wk.refl _,wk_sx _ _,trivial⟩
 have t3:∀ H,VDet Tryz.prog 20 [.agg [.int .u8 (6:Nat),.str .empty,.sl none 0 [],.sl none 2 [.int .u8 (1:Nat),.str ⟨#[80]⟩,.sl none 0 [],.sl none 0 [],.int .u8 (1:Nat),.str ⟨#[81]⟩,.sl none 0 [],.sl none 0 []]],.sx 3 [.str ⟨#[65]⟩,.str ⟨#[80]⟩,.str ⟨#[81]⟩]] H _:=fun H=>zbg (t3 H) ⟨Wk.refl _,wk_sx _ _,trivial⟩
 have e2:∀ H,VDet Tryz.prog 19 [.agg [.int .u8 (1:Nat),.str ⟨#[80]⟩,.sl none 0 [],.sl none 0 []],.sx 2 [.str ⟨#[80]⟩,.str ⟨#[81]⟩],.int .i64 2] H _:=fun H=>zbg (e2 H) ⟨Wk.refl _,wk_sx _ _,Wk.refl _,trivial⟩
 have e1:∀ H,VDet Tryz.prog 19 [.agg [.int .u8 (1:Nat),.str ⟨#[80]⟩,.sl none 0 [],.sl none 0 []],.sx 1 [.str ⟨#[81]⟩],.int .i64 0] H _:=fun H=>zbg (e1 H) ⟨Wk.refl _,wk_sx _ _,Wk.refl _,trivial⟩
 have fo:∀ H,VDet Tryz.prog 9 [.agg [.sx 2 [.int .u8 (5:Nat),.str .empty,.sl none 0 [],.sl none 2 [.int .u8 (1:Nat),.str ⟨#[80]⟩,.sl none 0 [],.sl none 0 [],.int .u8 (1:Nat),.str ⟨#[81]⟩,.sl none 0 [],.sl none 0 []],.int .u8 (3:Nat),.str .empty,.sl none 0 [],.sl none 1 [.int .u8 (1:Nat),.str ⟨#[80]⟩,.sl none 0 [],.sl none 0 []]],.sx 1 [.int .u8 (1:Nat),.str ⟨#[81]⟩,.sl none 0 [],.sl none 0 []]]] H _:=fun H=>zbg (fo H) ⟨zdh ⟨wk_sx _ _,wk_sx _ _,trivial⟩,trivial⟩
 have fa:∀ H,VDet Tryz.prog 8 [.agg [.sx 1 [.int .u8 (5:Nat),.str .empty,.sl none 0 [],.sl none 2 [.int .u8 (1:Nat),.str ⟨#[80]⟩,.sl none 0 [],.sl none 0 [],.int .u8 (1:Nat),.str ⟨#[81]⟩,.sl none 0 [],.sl none 0 []]],.sx 1 [.int .u8 (1:Nat),.str ⟨#[80]⟩,.sl none 0 [],.sl none 0 []]]] H _:=fun H=>zbg (fa H) ⟨zdh ⟨wk_sx _ _,wk_sx _ _,trivial⟩,trivial⟩
 have fn:∀ H,VDet Tryz.prog 8 [.agg [.nils,.nils]] H _:=fun H=>zbg (fn H) ⟨zdh ⟨zdo,zdo,trivial⟩,trivial⟩
 have j1:∀ H,VDet Tryz.prog 36 [.int .u8 (6:Nat),.sx 2 [.int .u8 (1:Nat),.str ⟨#[80]⟩,.sl none 0 [],.sl none 0 [],.int .u8 (1:Nat),.str ⟨#[81]⟩,.sl none 0 [],.sl none 0 []]] H (.agg [.int .u8 (6:Nat),.str .empty,.sl none 0 [],.sl none 2 [.int .u8 (1:Nat),.str ⟨#[80]⟩,.sl none 0 [],.sl none 0 [],.int .u8 (1:Nat),.str ⟨#[81]⟩,.sl none 0 [],.sl none 0 []]]):=fun H=>zbg (join_c 6 2 _ H (by simp [zae,below])) ⟨Wk.refl _,wk_sx _ _,trivial⟩
 have j2:∀ H,VDet Tryz.prog 36 [.int .u8 (5:Nat),.sx 2 [.int .u8 (1:Nat),.str ⟨#[80]⟩,.sl none 0 [],.sl none 0 [],.int .u8 (1:Nat),.str ⟨#[81]⟩,.sl none 0 [],.sl none 0 []]] H (.agg [.int .u8 (5:Nat),.str .empty,.sl none 0 [],.sl none 2 [.int .u8 (1:Nat),.str ⟨#[80]⟩,.sl none 0 [],.sl none 0 [],.int .u8 (1:Nat),.str ⟨#[81]⟩,.sl none 0 [],.sl none 0 []]]):=fun H=>zbg (join_c 5 2 _ H (by simp [zae,below])) ⟨Wk.refl _,wk_sx _ _,trivial⟩
 have j3:∀ H,VDet Tryz.prog 36 [.int .u8 (3:Nat),.sx 1 [.int .u8 (1:Nat),.str ⟨#[80]⟩,.sl none 0 [],.sl none 0 []]] H (.agg [.int .u8 (3:Nat),.str .empty,.sl none 0 [],.sl none 1 [.int .u8 (1:Nat),.str ⟨#[80]⟩,.sl none 0 [],.sl none 0 []]]):=fun H=>zbg (join_c 3 1 _ H (by simp [zae,below])) ⟨Wk.refl _,wk_sx _ _,trivial⟩
 refine fdD Tryz.func6 ⟨rfl,rfl,rfl⟩ fun hcl hbl=>?_
 (repeat' ((conv=>whnf);(first|(refine IfN.id ?_;first|refine IfN.not ?_|refine IfN.tt rfl ?_|fail)|(refine zad _ _ Cst.h Cst.h ?_ ?_;· omega)|(refine CallN.id ?_;first|refine CallN.det _ (aP _) ?_|refine CallN.det _ (aQ _) ?_|refine CallN.det _ (j1 _) ?_|refine CallN.det _ (t2 _) ?_|refine CallN.det _ (t3 _) ?_|fail)|fail)));conv=>whnf
 refine LoopN.rounds Tryz.E0 zak 5 rfl ?_
 (repeat' ((conv=>whnf);(first|(refine IfN.id ?_;first|refine IfN.not ?_|refine IfN.tt rfl ?_|refine IfN.ff rfl ?_|fail)|(refine zad _ _ Cst.h Cst.h ?_ ?_;· omega)|(refine SideN.mk ?_ ?_;· first|kernel_rfl|omega|exact List.cons_ne_nil _ _|fail)|(refine CallN.id ?_;first|refine CallN.det _ (j2 _) ?_|refine CallN.det _ (e2 _) ?_|refine CallN.det _ (e1 _) ?_|refine CallN.det _ (ci _) ?_|refine CallN.det _ (fa _) ?_|refine CallN.det _ (fn _) ?_|fail)|(refine CallD.id ?_;first|refine CallD.det _ (fun _ hq X=>j3 _) ?_|refine CallD.det _ (fun _ hq X=>fo _) ?_|fail)|refine SegN.mk _ (zb8 rfl) ?_|refine zap [] ?_|fail)));conv=>whnf
 exact EndN.det trivial (zab (by kernel_rfl))
theorem refNames_c (l:List ByteArray) (hlen:l.length≤9223372036854775807) (hsz:∀ c∈l,c.size≤maxLen) (H:Heap):VDet Tryz.prog 87 [.sl none l.length (l.flatMap encSG)] H (.bool (isNmG l)):=by
 refine fdD Tryz.func87 ⟨rfl,rfl,rfl⟩ fun hcl hbl=>?_
 conv=>whnf
 refine zau Tryz.E0 zak (σ:=Nat) (fun k=>k≤l.length∧∀ i,i<k→nmAt l i=true) (fun k=>l.length-k) (fun k=>[(3,.v (.int .i64 k))]) (fun _=>[]) _ 0 rfl hcl [0] rfl ⟨Nat.zero_le _,fun i hi=>by omega⟩ ⟨⟨_,rfl,Wk.refl _⟩,trivial⟩ rfl (fun _ _=>rfl) ?_
 rintro k ⟨hk,hall⟩
 clear hbl
 by_cases hlt:k<l.length
 ·have hp:=refPred_c (l.getD k eN) (za4 (hsz _ (zam l k eN hlt)))
  have hfalse:nmAt l k=false→isNmG l=false:=fun h=>by
   apply Bool.eq_false_iff.2
   intro hA
   rw [List.all_eq_true.1 hA k (List.mem_range.2 hlt)] at h
   cases h
  have hdef:nmAt l k=(zd1 (l.getD k eN)&&(decide (k=0) || lessB (l.getD (k-1) eN) (l.getD k eN))):=rfl
  have hlb:Op.bytesLess (l.getD (k-1) eN).toList (l.getD k eN).toList=lessB (l.getD (k-1) eN) (l.getD k eN):=rfl
  cases hpb:zd1 (l.getD k eN) with
  | false =>
    rw [hpb] at hp hdef
    rw [hfalse (by rw [hdef];rfl)]
    (repeat' ((conv=>whnf);(first|(refine IfN.id ?_;first|refine IfN.not ?_|refine IfN.ff rfl ?_|refine IfN.dT (by omega) ?_|fail)|(refine SideN.mk ?_ ?_;· first|kernel_rfl|omega|exact List.cons_ne_nil _ _|fail)|refine CallD.det _ (fun _ hq X=>hp _) ?_|refine zba (f:=encSG) (l:=l) eN k rfl hlt (fun _=>rfl) ?_|refine zap [] ?_|fail)));conv=>whnf
    exact eT trivial
  | true =>
    rw [hpb] at hp hdef
    cases hlb2:lessB (l.getD (k-1) eN) (l.getD k eN) with
    | true =>
      rw [hlb2] at hlb hdef
      have hok:nmAt l k=true:=by rw [hdef];simp
      (repeat' ((conv=>whnf);(first|(refine IfN.id ?_;first|refine IfN.tt hlb ?_|refine IfN.not ?_|refine IfN.tt rfl ?_|refine IfN.dT (by omega) ?_|refine za9 (fun _=>?_) (fun _=>?_)|fail)|(refine EqN.id ?_;first|(refine zad _ _ Cst.h Cst.h ?_ ?_;· omega)|(refine zcu _ _ Cst.h Cst.h ?_ ?_;· omega)|fail)|(refine SideN.mk ?_ ?_;· first|kernel_rfl|omega|exact List.cons_ne_nil _ _|fail)|refine CallD.det _ (fun _ hq X=>hp _) ?_|refine zba (f:=encSG) (l:=l) eN k rfl hlt (fun _=>rfl) ?_|refine zba (f:=encSG) (l:=l) eN (k-1) (by omega) (by omega) (fun _=>rfl) ?_|refine zap [] ?_|fail)));all_goals (conv=>whnf)
      all_goals (refine ⟨⟨k+1,⟨by omega,fun i hi=>by
       by_cases e:i=k
       ·rw [e];exact hok
       ·exact hall i (by omega)⟩,by omega,?_,.inl ⟨rfl,rfl⟩,rfl,_,rfl,?_⟩⟩;rotate_left 1;exact .inl rfl;exact ⟨⟨_,rfl,Wk.refl _⟩,trivial⟩)
    | false =>
      rw [hlb2] at hlb hdef
      by_cases h0:k=0
      ·have hok:nmAt l k=true:=by rw [hdef];simp [h0]
       (repeat' ((conv=>whnf);(first|(refine IfN.id ?_;first|refine IfN.not ?_|refine IfN.tt rfl ?_|refine IfN.dT (by omega) ?_|refine zaj (by omega) ?_|fail)|(refine zad _ _ Cst.h Cst.h ?_ ?_;· omega)|(refine SideN.mk ?_ ?_;· first|kernel_rfl|omega|exact List.cons_ne_nil _ _|fail)|refine CallD.det _ (fun _ hq X=>hp _) ?_|refine zba (f:=encSG) (l:=l) eN k rfl hlt (fun _=>rfl) ?_|refine zap [] ?_|fail)));conv=>whnf
       all_goals (refine ⟨⟨k+1,⟨by omega,fun i hi=>by
        by_cases e:i=k
        ·rw [e];exact hok
        ·exact hall i (by omega)⟩,by omega,?_,.inl ⟨rfl,rfl⟩,rfl,_,rfl,?_⟩⟩;rotate_left 1;exact .inl rfl;exact ⟨⟨_,rfl,Wk.refl _⟩,trivial⟩)
      ·rw [hfalse (by rw [hdef];simp [h0])]
       (repeat' ((conv=>whnf);(first|(refine IfN.id ?_;first|refine IfN.ff hlb ?_|refine IfN.not ?_|refine IfN.tt rfl ?_|refine IfN.dT (by omega) ?_|fail)|(refine zcu _ _ Cst.h Cst.h ?_ ?_;· omega)|(refine SideN.mk ?_ ?_;· first|kernel_rfl|omega|exact List.cons_ne_nil _ _|fail)|refine CallD.det _ (fun _ hq X=>hp _) ?_|refine zba (f:=encSG) (l:=l) eN k rfl hlt (fun _=>rfl) ?_|refine zba (f:=encSG) (l:=l) eN (k-1) (by omega) (by omega) (fun _=>rfl) ?_|refine zap [] ?_|fail)));conv=>whnf
       all_goals exact eT trivial
 ·have:isNmG l=true:=List.all_eq_true.2 fun i hi=>hall i (by have:=List.mem_range.1 hi;omega)
  rw [this]
  (repeat' ((conv=>whnf);(first|refine zaj (by omega) ?_|fail)));conv=>whnf
  exact eT trivial
def chkN (l:List ByteArray) (v:Int):Int:=if 12<l.length then 5 else if isNmG l=false then 2 else if v<0∨((2 ^ l.length:Nat):Int)≤v then 2 else 0
theorem check_c (l:List ByteArray) (hlen:l.length≤9223372036854775807) (hsz:∀ c∈l,c.size≤maxLen) (v:Int) (H:Heap):VDet Tryz.prog 62 [.sl none l.length (l.flatMap encSG),.int .i64 v] H (.int .i64 (chkN l v)):=by
 have h1:=refNames_c l hlen hsz
 unfold chkN
 have hnb:=fun n=>zag n l
 generalize l.flatMap encSG=lc at *
 generalize isNmG l=b at *
 generalize l.length=n at *
 by_cases h12:12<n
 ·rw [if_pos h12]
  refine fdD Tryz.func62 ⟨rfl,rfl,rfl⟩ fun hcl hbl=>?_
  (repeat' ((conv=>whnf);(first|refine IfN.dT (by omega) ?_|fail)));conv=>whnf
  exact eT trivial
 ·rw [if_neg h12]
  have h2l:=zco n (by omega)
  have hsl:1 <<< n=2 ^ n:=Nat.one_shiftLeft n
  generalize 2 ^ n=S at *
  cases b with
  | false =>
    rw [if_pos rfl]
    refine fdD Tryz.func62 ⟨rfl,rfl,rfl⟩ fun hcl hbl=>?_
    (repeat' ((conv=>whnf);(first|(refine IfN.id ?_;first|refine IfN.not ?_|refine IfN.ff rfl ?_|refine zaj (by omega) ?_|fail)|refine CallN.det _ (h1 _) ?_|fail)));conv=>whnf
    exact eT trivial
  | true =>
    rw [if_neg Bool.noConfusion]
    refine fdD Tryz.func62 ⟨rfl,rfl,rfl⟩ fun hcl hbl=>?_
    (repeat' ((conv=>whnf);(first|(refine IfN.id ?_;first|refine IfN.not ?_|refine IfN.tt rfl ?_|refine zaj (by omega) ?_|refine za9 (fun _=>?_) (fun _=>?_)|fail)|(refine zdl _ _ Cst.h Cst.h rfl ?_ ?_ ?_;(· (repeat' (first|omega|refine And.intro ?_ ?_|exact zan (by omega)|exact zbd (by omega)|refine zb9 ?_ ?_|refine zbc ?_ ?_|refine zbj ?_ ?_|refine za2 ?_ ?_|refine zbk ?_|refine zbl ?_ ?_|refine zbm ?_|refine zan ?_|fail)));(· (repeat' (first|omega|refine And.intro ?_ ?_|exact zan (by omega)|exact zbd (by omega)|refine zb9 ?_ ?_|refine zbc ?_ ?_|refine zbj ?_ ?_|refine za2 ?_ ?_|refine zbk ?_|refine zbl ?_ ?_|refine zbm ?_|refine zan ?_|fail))))|refine SideN.mk (by omega) ?_|refine CallN.det _ (h1 _) ?_|fail)));all_goals (conv=>whnf)
    all_goals refine EndN.det trivial (zab (congrArg (AV.int .i64) ?_))
    all_goals rw [hsl] at *
    all_goals split <;> omega
theorem errN_chk (f:Fo) (l:List ByteArray) (v:Int):errN f l v=if chkN l v=0 then (if zbe f=false then 2 else if inAll f l=false then 6 else 0) else chkN l v:=by
 unfold errN chkN
 by_cases h:12<l.length
 ·simp [h]
 ·rw [if_neg h,if_neg h]
  cases hn:isNmG l with
  | false=>simp
  | true =>
    by_cases hv:v<0∨((2 ^ l.length:Nat):Int)≤v
    ·rw [if_pos (show ¬ (zbe f=true∧true=true∧0≤v∧v<((2 ^ l.length:Nat):Int)) from fun q=>by omega),if_neg (show ¬ (true=false) from Bool.noConfusion),if_pos hv,if_neg (show ¬ ((2:Int)=0) by decide)]
    ·rw [if_neg (show ¬ (true=false) from Bool.noConfusion),if_neg hv,if_pos (show (0:Int)=0 from rfl)]
     cases hr:zbe f with
     | false=>simp
     | true =>
       rw [if_neg (show ¬ ¬ (true=true∧true=true∧0≤v∧v<((2 ^ l.length:Nat):Int)) from fun q=>q ⟨rfl,rfl,by omega,by omega⟩),if_neg (show ¬ (true=false) from Bool.noConfusion)]
theorem refEval_c (f:Fo) (hg:f.good) (hn:szzF f≤100000) (l:List ByteArray) (hlen:l.length≤1000) (hsz:∀ c∈l,c.size≤maxLen) (v:Int) (H:Heap):VDet Tryz.prog 27 [.agg f.cells,.sl none l.length (l.flatMap encSG),.int .i64 v] H (evalA f l v):=by
 have hc:=check_c l (by omega) hsz v
 have hR:=ref10_c f hg hn
 have hA:=refAtoms_c [f] ⟨hg,trivial⟩ (by simp) (by unfold szzFs szzFs;omega)
 have hP:=fun c=>place_c l c hlen
 have hV:zbe f=true→l.length≤12→inAll f l=true→∀ n:Nat,n≤4096→∀ H,VDet Tryz.prog 50 [.agg f.cells,.sl none l.length (l.flatMap encSG),.int .i64 (n:Nat)] H (.bool (evF (vbG l n) f)):=fun hr h12 hi n hn=>value_g f hr l h12 (fun p hp e=>zfl hp (e▸hi)) n hn
 have hlb:=fun n=>zag n l
 have hnb:=fun n=>zag n (zao [f])
 have hna:∀ c∈zao [f],inAll f l=true→memG c l=true:=fun c h1 h2=>List.all_eq_true.1 h2 c h1
 have hnf:∀ c∈zao [f],memG c l=false→inAll f l=false:=fun c h1 h2=>by
  apply Bool.eq_false_iff.2
  intro hA
  rw [List.all_eq_true.1 hA c h1] at h2
  cases h2
 have hnt:(∀ i,i<(zao [f]).length→memG ((zao [f]).getD i eN) l=true)→inAll f l=true:=fun h=>List.all_eq_true.2 fun c hc=>by
  obtain ⟨i,hi,rfl⟩:=List.getElem_of_mem hc
  have:=h i hi
  rwa [show (zao [f]).getD i eN=(zao [f])[i] by simp [List.getD_eq_getElem?_getD,hi]] at this
 have hgd:=fun j (hj:j<(zao [f]).length)=>zam (zao [f]) j eN hj
 have hml:(zao [f]).length≤9223372036854775807:=by
  rw [zdn]
  exact Nat.le_trans (zct _) (by unfold szzFs szzFs;omega)
 unfold evalA
 rw [errN_chk]
 rw [show [f].flatMap Fo.cells=f.cells by simp] at hA
 have hvn:chkN l v=0→(v.toNat:Int)=v∧v.toNat≤4096∧l.length≤12:=fun h=>by
  unfold chkN at h
  split at h
  ·cases h
  ·split at h
   ·cases h
   ·split at h
    ·cases h
    ·have:=zco l.length (by omega)
     omega
 have h3:chkN l v=0∨chkN l v=2∨chkN l v=5:=by
  unfold chkN
  split
  ·exact .inr (.inr rfl)
  ·split
   ·exact .inr (.inl rfl)
   ·split
    ·exact .inr (.inl rfl)
    ·exact .inl rfl
 generalize chkN l v=e at *
 obtain ⟨fo,fn,fan,fac,fsn,fsc,hw,hfb⟩:=zby f
 rw [hw] at hR hA hV ⊢
 have hA:∀ H,VDet Tryz.prog 14 [.sx 1 [.int .u8 (fo:Nat),.str fn,.sl none fan fac,.sl none fsn fsc]] H (.sl none (zao [f]).length ((zao [f]).flatMap encSG)):=fun H=>zbg (hA H) ⟨wk_sx _ _,trivial⟩
 generalize zao [f]=ns at *
 by_cases he:e=0
 ·rw [if_pos he]
  subst he
  obtain ⟨hv1,hv2,hl12⟩:=hvn rfl
  by_cases hr:zbe f=false
  ·rw [if_pos hr]
   rw [hr] at hR
   generalize l.flatMap encSG=lc at *
   refine fdD Tryz.func27 ⟨rfl,rfl,rfl⟩ fun hcl hbl=>?_
   (repeat' ((conv=>whnf);(first|(refine IfN.id ?_;first|refine IfN.not ?_|refine IfN.tt rfl ?_|refine IfN.ff rfl ?_|fail)|(refine CallN.id ?_;first|refine CallN.det _ (hc _) ?_|refine CallN.det _ (hR _) ?_|fail)|fail)));conv=>whnf
   exact EndN.det ⟨trivial,trivial,trivial⟩ (zab rfl)
  ·rw [if_neg hr]
   rw [Bool.not_eq_false] at hr
   rw [hr] at hR
   have hV:=hV hr hl12
   generalize l.flatMap encSG=lc at *
   refine fdD Tryz.func27 ⟨rfl,rfl,rfl⟩ fun hcl hbl=>?_
   (repeat' ((conv=>whnf);(first|(refine IfN.id ?_;first|refine IfN.not ?_|refine IfN.tt rfl ?_|refine IfN.ff rfl ?_|fail)|(refine CallN.id ?_;first|refine CallN.det _ (hc _) ?_|refine CallN.det _ (hR _) ?_|refine CallN.det _ (hA _) ?_|fail)|fail)));conv=>whnf
   refine zau Tryz.E0 zak (σ:=Nat) (fun j=>j≤ns.length∧∀ i,i<j→memG (ns.getD i eN) l=true) (fun j=>ns.length-j) (fun j=>[(10,.v (.int .i64 j))]) (fun j=>_) _ 0 rfl hcl [1,2,3,9] rfl ⟨Nat.zero_le _,fun i hi=>absurd hi (by omega)⟩ ⟨⟨_,rfl,Wk.refl _⟩,trivial⟩ rfl (fun _ _=>rfl) ?_
   rintro j ⟨hj,hall⟩
   rcases Nat.lt_or_ge j ns.length with hlt|hge
   ·have hp:=hP (ns.getD j eN)
    cases hm:memG (ns.getD j eN) l with
    | true =>
      have h0:0≤plI l (ns.getD j eN):=by
       unfold plI
       rw [if_pos hm]
       omega
      generalize plI l (ns.getD j eN)=pl at *
      (repeat' ((conv=>whnf);(first|(refine IfN.id ?_;first|refine IfN.dT (by omega) ?_|refine zaj (by omega) ?_|fail)|(refine zad _ _ Cst.h Cst.h ?_ ?_;· omega)|(refine SideN.mk ?_ ?_;· first|omega|exact List.cons_ne_nil _ _|fail)|refine CallN.det _ (hp _) ?_|refine zba (f:=encSG) (l:=ns) eN j rfl hlt (fun _=>rfl) ?_|fail)));conv=>whnf
      (refine ⟨⟨j+1,⟨by omega,fun i hi=>by
       by_cases e:i=j
       ·rw [e];exact hm
       ·exact hall i (by omega)⟩,by omega,?_,.inl ⟨rfl,rfl⟩,rfl,_,rfl,?_⟩⟩;rotate_left 1;exact .inl rfl;exact ⟨⟨_,rfl,Wk.refl _⟩,trivial⟩)
    | false =>
      have h0:plI l (ns.getD j eN)=-1:=by
       unfold plI
       rw [hm]
       rfl
      rw [if_pos (hnf _ (hgd j hlt) hm)]
      rw [h0] at hp
      (repeat' ((conv=>whnf);(first|(refine IfN.id ?_;first|refine IfN.tt rfl ?_|refine IfN.dT (by omega) ?_|fail)|(refine SideN.mk ?_ ?_;· first|omega|exact List.cons_ne_nil _ _|fail)|refine CallN.det _ (hp _) ?_|refine zba (f:=encSG) (l:=ns) eN j rfl hlt (fun _=>rfl) ?_|fail)));conv=>whnf
      exact EndN.det ⟨trivial,trivial,trivial⟩ (zab rfl)
   ·have hi:=hnt fun i hi=>hall i (by omega)
    rw [if_neg (by rw [hi];decide)]
    have hv:=hV hi v.toNat hv2
    rw [hv1] at hv
    generalize evF (vbG l v.toNat) f=x at *
    (repeat' ((conv=>whnf);(first|refine zaj (by omega) ?_|refine CallN.det _ (hv _) ?_|fail)));conv=>whnf
    exact EndN.det ⟨trivial,trivial,trivial⟩ (zab (by cases x <;> rfl))
 ·rw [if_neg he]
  generalize l.flatMap encSG=lc at *
  rw [decide_eq_false he,Bool.false_and]
  rcases h3 with rfl|rfl|rfl
  ·exact absurd rfl he
  ·refine fdD Tryz.func27 ⟨rfl,rfl,rfl⟩ fun hcl hbl=>?_
   (repeat' ((conv=>whnf);(first|(refine IfN.id ?_;first|refine IfN.not ?_|refine IfN.ff rfl ?_|fail)|refine CallN.det _ (hc _) ?_|fail)));conv=>whnf
   exact EndN.det ⟨trivial,trivial,trivial⟩ (zab rfl)
  ·refine fdD Tryz.func27 ⟨rfl,rfl,rfl⟩ fun hcl hbl=>?_
   (repeat' ((conv=>whnf);(first|refine IfN.tt rfl ?_|refine CallN.det _ (hc _) ?_|fail)));conv=>whnf
   exact EndN.det ⟨trivial,trivial,trivial⟩ (zab rfl)
theorem tblA_of (f:Fo) (l:List ByteArray) (e:Int) (h:errN f l 0=e) (h0:e≠0):tblA f l=.tup [.sl none 0 [],.int .i64 e]:=by
 unfold tblA
 rw [if_neg (by rw [h];exact h0),h]
def tabL (f:Fo) (l:List ByteArray) (S:Nat):List AV:=(List.range S).map fun v=>.bool (evF (vbG l v) f)
theorem tabL_succ (f:Fo) (l:List ByteArray) (S:Nat):tabL f l (S+1)=tabL f l S++[.bool (evF (vbG l S) f)]:=by
 unfold tabL
 rw [List.range_succ,List.map_append]
 rfl
theorem tabL_len (f:Fo) (l:List ByteArray) (S:Nat):(tabL f l S).length=S:=by simp [tabL]
theorem tabL_below (n:Nat) (f:Fo) (l:List ByteArray):∀ S,zae n (tabL f l S)
 | 0=>trivial
 | S+1=>by rw [tabL_succ];exact (zaq _ _).2 ⟨tabL_below n f l S,trivial,trivial⟩
theorem refTable_c (f:Fo) (hg:f.good) (hn:szzF f≤100000) (l:List ByteArray) (hlen:l.length≤1000) (hsz:∀ c∈l,c.size≤maxLen) (H:Heap):VDet Tryz.prog 28 [.agg f.cells,.sl none l.length (l.flatMap encSG)] H (tblA f l):=by
 have hE:=refEval_c f hg hn l hlen hsz 0
 have hV:zbe f=true→l.length≤12→inAll f l=true→∀ n:Nat,n≤4096→∀ H,VDet Tryz.prog 50 [.agg f.cells,.sl none l.length (l.flatMap encSG),.int .i64 (n:Nat)] H (.bool (evF (vbG l n) f)):=fun hr h12 hi n hn=>value_g f hr l h12 (fun p hp e=>zfl hp (e▸hi)) n hn
 have hlb:=fun n=>zag n l
 have hts:=tabL_succ f l
 have htl:=tabL_len f l
 have htb:=fun n=>tabL_below n f l
 unfold evalA at hE
 by_cases he:errN f l 0=0
 ·obtain ⟨h12,hr,hnm,-,hin⟩:=zfm he
  have hV:=hV hr h12 hin
  have h2l:=zco l.length h12
  have hsl:1 <<< l.length=2 ^ l.length:=Nat.one_shiftLeft _
  rw [he,decide_eq_true rfl,Bool.true_and] at hE
  unfold tblA
  rw [if_pos he]
  rw [show (List.range (2 ^ l.length)).map (fun v=>AV.bool (evF (vbG l v) f))=tabL f l (2 ^ l.length) from rfl]
  generalize hS:2 ^ l.length=S at *
  obtain ⟨fo,fn,fan,fac,fsn,fsc,hw,hfb⟩:=zby f
  rw [hw] at hE hV ⊢
  generalize hev:(fun v=>evF (vbG l v) f)=ev at *
  have hev':∀ v,evF (vbG l v) f=ev v:=fun v=>congrFun hev v
  simp only [hev'] at hts hV hE
  generalize tabL f l=tb at *
  generalize l.flatMap encSG=lc at *
  generalize l.length=n at *
  refine fdD Tryz.func28 ⟨rfl,rfl,rfl⟩ fun hcl hbl=>?_
  (repeat' ((conv=>whnf);(first|(refine IfN.id ?_;first|refine IfN.not ?_|refine IfN.tt rfl ?_|fail)|refine CallN.det _ (hE _) ?_|fail)));conv=>whnf
  refine LoopN.tok 8 4 1 rfl rfl rfl ?_
  refine zau Tryz.E0 zak (σ:=Nat) (fun v=>v≤S) (fun v=>S-v) (fun v=>[(8,.v (.sl (some (H.length+1)) v (tb v))),(9,.v (.int .i64 v))]) (fun v=>[.box 40 [.int .u8 (fo:Nat),.str fn,.sl none fan fac,.sl none fsn fsc],.tok 4 1 (tb v).length]) _ 0 rfl hcl [1,2] rfl (Nat.zero_le _) ⟨⟨_,rfl,zab (by rw [List.eq_nil_of_length_eq_zero (htl 0)])⟩,⟨_,rfl,Wk.refl _⟩,trivial⟩ (by rw [htl 0]) (fun _ _=>rfl) ?_
  intro v hv
  have h1:=htl v
  rcases Nat.lt_or_ge v S with hlt|hge
  ·have hx:=hV v (by omega)
   have h2:=hts v
   generalize ev v=y at *
   generalize hA2:tb (v+1)=A2 at *
   (repeat' ((conv=>whnf);(first|refine IfN.dT (by rw [hsl];omega) ?_|(refine EqN.id ?_;first|(refine zdl _ _ Cst.h Cst.h rfl ?_ ?_ ?_;(· (repeat' (first|omega|refine And.intro ?_ ?_|exact zan (by omega)|exact zbd (by omega)|refine zb9 ?_ ?_|refine zbc ?_ ?_|refine zbj ?_ ?_|refine za2 ?_ ?_|refine zbk ?_|refine zbl ?_ ?_|refine zbm ?_|refine zan ?_|fail)));(· (repeat' (first|omega|refine And.intro ?_ ?_|exact zan (by omega)|exact zbd (by omega)|refine zb9 ?_ ?_|refine zbc ?_ ?_|refine zbj ?_ ?_|refine za2 ?_ ?_|refine zbk ?_|refine zbl ?_ ?_|refine zbm ?_|refine zan ?_|fail))))|(refine zad _ _ Cst.h Cst.h ?_ ?_;· omega)|fail)|refine SideN.mk (by omega) ?_|refine CallN.det _ (hx _) ?_|refine SideN.mk ⟨rfl,rfl,rfl,by dsimp only;omega,by simp only [maxLen];omega⟩ ?_|refine PtrN.loc _ rfl ?_|fail)));conv=>whnf
   rw [<- h2]
   subst hA2
   (refine ⟨⟨v+1,by show v+1≤_;omega,by omega,?_,.inl ⟨rfl,rfl⟩,rfl,_,rfl,?_⟩⟩;rotate_left 1;exact .inl rfl;exact ⟨⟨_,rfl,Wk.refl _⟩,⟨_,rfl,Wk.refl _⟩,trivial⟩)
  ·obtain rfl:v=S:=by omega
   (repeat' ((conv=>whnf);(first|refine zaj (by rw [hsl];omega) ?_|(refine zdl _ _ Cst.h Cst.h rfl ?_ ?_ ?_;(· (repeat' (first|omega|refine And.intro ?_ ?_|exact zan (by omega)|exact zbd (by omega)|refine zb9 ?_ ?_|refine zbc ?_ ?_|refine zbj ?_ ?_|refine za2 ?_ ?_|refine zbk ?_|refine zbl ?_ ?_|refine zbm ?_|refine zan ?_|fail)));(· (repeat' (first|omega|refine And.intro ?_ ?_|exact zan (by omega)|exact zbd (by omega)|refine zb9 ?_ ?_|refine zbc ?_ ?_|refine zbj ?_ ?_|refine za2 ?_ ?_|refine zbk ?_|refine zbl ?_ ?_|refine zbm ?_|refine zan ?_|fail))))|refine SideN.mk (by omega) ?_|fail)));conv=>whnf
   exact EndN.det ⟨⟨fun _ e=>(nomatch e),htb _ _⟩,trivial,trivial⟩ (by (repeat' (first|exact trivial|refine And.intro ?_ ?_|exact Wk.refl _|exact wk_sl _ _ _|refine wk_tup ?_|fail));done)
 ·generalize hee:errN f l 0=e at *
  rw [tblA_of f l e hee he]
  rw [decide_eq_false he,Bool.false_and] at hE
  obtain ⟨fo,fn,fan,fac,fsn,fsc,hw,hfb⟩:=zby f
  rw [hw] at hE ⊢
  generalize l.flatMap encSG=lc at *
  refine fdD Tryz.func28 ⟨rfl,rfl,rfl⟩ fun hcl hbl=>?_
  (repeat' ((conv=>whnf);(first|(refine IfN.id ?_;first|refine IfN.not ?_|refine zaj (by omega) ?_|fail)|refine CallN.det _ (hE _) ?_|fail)));conv=>whnf
  exact EndN.det (by simp [below,zae]) (by (repeat' (first|exact trivial|refine And.intro ?_ ?_|exact Wk.refl _|exact zdo|refine wk_tup ?_|fail));done)
theorem refCount_c (f:Fo) (hg:f.good) (hn:szzF f≤100000) (H:Heap):VDet Tryz.prog 29 [.agg f.cells] H (cntA f):=by
 have hR:=ref10_c f hg hn
 have hA:=refAtoms_c [f] ⟨hg,trivial⟩ (by simp) (by unfold szzFs szzFs;omega)
 have hV:zbe f=true→(zao [f]).length≤12→∀ n:Nat,n≤4096→∀ H,VDet Tryz.prog 50 [.agg f.cells,.sl none (zao [f]).length ((zao [f]).flatMap encSG),.int .i64 (n:Nat)] H (.bool (evF (vbG (zao [f]) n) f)):=fun hr h12 n hn=>value_g f hr _ h12 (fun p hp e=>fp_names hp (by simp [e]) (fun x hx=>by simp only [List.mem_singleton] at hx;exact hx▸hr)) n hn
 have hnb:=fun n=>zag n (zao [f])
 have hml:(zao [f]).length≤9223372036854775807:=by
  rw [zdn]
  exact Nat.le_trans (zct _) (by unfold szzFs szzFs;omega)
 rw [show [f].flatMap Fo.cells=f.cells by simp] at hA
 unfold cntA
 generalize zao [f]=ns at *
 generalize hev:(fun v=>evF (vbG ns v) f)=ev at *
 have hev':∀ v,evF (vbG ns v) f=ev v:=fun v=>congrFun hev v
 simp only [hev'] at hV
 generalize zbe f=b at *
 obtain ⟨fo,fn,fan,fac,fsn,fsc,hw,hfb⟩:=zby f
 rw [hw] at hR hA hV ⊢
 have hA:∀ H,VDet Tryz.prog 14 [.sx 1 [.int .u8 (fo:Nat),.str fn,.sl none fan fac,.sl none fsn fsc]] H (.sl none ns.length (ns.flatMap encSG)):=fun H=>zbg (hA H) ⟨wk_sx _ _,trivial⟩
 generalize ns.flatMap encSG=nc at *
 generalize ns.length=n at *
 cases b with
 | false =>
   rw [if_pos rfl]
   refine fdD Tryz.func29 ⟨rfl,rfl,rfl⟩ fun hcl hbl=>?_
   (repeat' ((conv=>whnf);(first|(refine IfN.id ?_;first|refine IfN.not ?_|refine IfN.ff rfl ?_|fail)|refine CallN.det _ (hR _) ?_|fail)));conv=>whnf
   exact eT ⟨trivial,trivial,trivial,trivial⟩
 | true =>
   rw [if_neg Bool.noConfusion]
   by_cases h12:12<n
   ·rw [if_pos h12]
    refine fdD Tryz.func29 ⟨rfl,rfl,rfl⟩ fun hcl hbl=>?_
    (repeat' ((conv=>whnf);(first|(refine IfN.id ?_;first|refine IfN.not ?_|refine IfN.tt rfl ?_|refine IfN.dT (by omega) ?_|fail)|(refine CallN.id ?_;first|refine CallN.det _ (hR _) ?_|refine CallN.det _ (hA _) ?_|fail)|fail)));conv=>whnf
    exact eT ⟨trivial,trivial,trivial,trivial⟩
   ·rw [if_neg h12]
    have hV:=hV rfl (by omega)
    have h2l:=zco n (by omega)
    have hsl:1 <<< n=2 ^ n:=Nat.one_shiftLeft _
    generalize 2 ^ n=S at *
    refine fdD Tryz.func29 ⟨rfl,rfl,rfl⟩ fun hcl hbl=>?_
    (repeat' ((conv=>whnf);(first|(refine IfN.id ?_;first|refine IfN.not ?_|refine IfN.tt rfl ?_|refine zaj (by omega) ?_|fail)|(refine CallN.id ?_;first|refine CallN.det _ (hR _) ?_|refine CallN.det _ (hA _) ?_|fail)|fail)));conv=>whnf
    refine zau Tryz.E0 zak (σ:=Nat) (fun v=>v≤S) (fun v=>S-v) (fun v=>[(6,.v (.int .i64 (cntS v ev:Nat))),(7,.v (.int .i64 v))]) (fun v=>_) _ 0 rfl hcl [1,5] rfl (Nat.zero_le _) ⟨⟨_,rfl,zab (by rw [cntS_nil];rfl)⟩,⟨_,rfl,Wk.refl _⟩,trivial⟩ rfl (fun _ _=>rfl) ?_
    intro v hv
    have hc1:cntS v ev≤v:=cntS_le _ _
    rcases Nat.lt_or_ge v S with hlt|hge
    ·have hx:=hV v (by omega)
     have hc2:cntS (v+1) ev=cntS v ev+(ev v).toNat:=by
      rw [cntS_add]
      show _+cntS 1 (fun i=>ev (v+i))=_
      unfold cntS
      cases h:ev v <;> simp [List.range_one,h]
     cases hy:ev v with
     | false =>
       rw [hy] at hx hc2
       (repeat' ((conv=>whnf);(first|(refine IfN.id ?_;first|refine IfN.dT (by rw [hsl];omega) ?_|refine IfN.ff rfl ?_|fail)|(refine EqN.id ?_;first|(refine zdl _ _ Cst.h Cst.h rfl ?_ ?_ ?_;(· (repeat' (first|omega|refine And.intro ?_ ?_|exact zan (by omega)|exact zbd (by omega)|refine zb9 ?_ ?_|refine zbc ?_ ?_|refine zbj ?_ ?_|refine za2 ?_ ?_|refine zbk ?_|refine zbl ?_ ?_|refine zbm ?_|refine zan ?_|fail)));(· (repeat' (first|omega|refine And.intro ?_ ?_|exact zan (by omega)|exact zbd (by omega)|refine zb9 ?_ ?_|refine zbc ?_ ?_|refine zbj ?_ ?_|refine za2 ?_ ?_|refine zbk ?_|refine zbl ?_ ?_|refine zbm ?_|refine zan ?_|fail))))|(refine zad _ _ Cst.h Cst.h ?_ ?_;· omega)|fail)|refine SideN.mk (by omega) ?_|refine CallN.det _ (hx _) ?_|fail)));conv=>whnf
       rw [show cntS v ev=cntS (v+1) ev from hc2.symm]
       (refine ⟨⟨v+1,by show v+1≤_;omega,by omega,?_,.inl ⟨rfl,rfl⟩,rfl,_,rfl,?_⟩⟩;rotate_left 1;exact .inl rfl;exact ⟨⟨_,rfl,Wk.refl _⟩,⟨_,rfl,Wk.refl _⟩,trivial⟩)
     | true =>
       rw [hy] at hx hc2
       (repeat' ((conv=>whnf);(first|(refine IfN.id ?_;first|refine IfN.dT (by rw [hsl];omega) ?_|refine IfN.tt rfl ?_|fail)|(refine EqN.id ?_;first|(refine zdl _ _ Cst.h Cst.h rfl ?_ ?_ ?_;(· (repeat' (first|omega|refine And.intro ?_ ?_|exact zan (by omega)|exact zbd (by omega)|refine zb9 ?_ ?_|refine zbc ?_ ?_|refine zbj ?_ ?_|refine za2 ?_ ?_|refine zbk ?_|refine zbl ?_ ?_|refine zbm ?_|refine zan ?_|fail)));(· (repeat' (first|omega|refine And.intro ?_ ?_|exact zan (by omega)|exact zbd (by omega)|refine zb9 ?_ ?_|refine zbc ?_ ?_|refine zbj ?_ ?_|refine za2 ?_ ?_|refine zbk ?_|refine zbl ?_ ?_|refine zbm ?_|refine zan ?_|fail))))|(refine zad _ _ Cst.h Cst.h ?_ ?_;· omega)|fail)|refine SideN.mk (by omega) ?_|refine CallN.det _ (hx _) ?_|fail)));conv=>whnf
       rw [show cntS v ev+1=cntS (v+1) ev by rw [hc2];rfl]
       (refine ⟨⟨v+1,by show v+1≤_;omega,by omega,?_,.inl ⟨rfl,rfl⟩,rfl,_,rfl,?_⟩⟩;rotate_left 1;exact .inl rfl;exact ⟨⟨_,rfl,Wk.refl _⟩,⟨_,rfl,Wk.refl _⟩,trivial⟩)
    ·obtain rfl:v=S:=by omega
     (repeat' ((conv=>whnf);(first|refine zaj (by rw [hsl];omega) ?_|(refine zdl _ _ Cst.h Cst.h rfl ?_ ?_ ?_;(· (repeat' (first|omega|refine And.intro ?_ ?_|exact zan (by omega)|exact zbd (by omega)|refine zb9 ?_ ?_|refine zbc ?_ ?_|refine zbj ?_ ?_|refine za2 ?_ ?_|refine zbk ?_|refine zbl ?_ ?_|refine zbm ?_|refine zan ?_|fail)));(· (repeat' (first|omega|refine And.intro ?_ ?_|exact zan (by omega)|exact zbd (by omega)|refine zb9 ?_ ?_|refine zbc ?_ ?_|refine zbj ?_ ?_|refine za2 ?_ ?_|refine zbk ?_|refine zbl ?_ ?_|refine zbm ?_|refine zan ?_|fail))))|(refine SideN.mk ?_ ?_;· first|kernel_rfl|omega|fail)|refine zap [] ?_|fail)));conv=>whnf
     rw [hsl]
     exact eT ⟨trivial,trivial,trivial,trivial⟩
def mkO (i:Nat):ByteArray:=strOfB [35,2,0,0,47,(i:Nat),0,0]
theorem fdiv0 (i k:Nat) (h:i<2 ^ k):((i:Nat):Int).fdiv (2 ^ k)=0:=by
 rw [Int.fdiv_eq_ediv_of_nonneg _ (Int.le_of_lt (Int.pow_pos (by decide)))]
 exact Int.ediv_eq_zero_of_lt (by omega) (by exact_mod_cast h)
theorem markText2_c (i:Nat) (hi:i<200) (H:Heap):VDet Tryz.prog 53 [.int .i64 2,.int .i64 (i:Nat)] H (.str (mkO i)):=by
 have f1:((i:Nat):Int).fdiv (2 ^ min (8:Int).toNat IntKind.i64.bits)=0:=fdiv0 i 8 (by omega)
 have f2:((i:Nat):Int).fdiv (2 ^ min (16:Int).toNat IntKind.i64.bits)=0:=fdiv0 i 16 (by omega)
 unfold mkO
 refine fdD Tryz.func53 ⟨rfl,rfl,rfl⟩ fun hcl hbl=>?_
 (repeat' ((conv=>whnf);(first|(refine EqN.id ?_;first|refine EqN.mk 0 f1 ?_|refine EqN.mk 0 f2 ?_|(refine ze7 _ _ Cst.h Cst.h rfl ?_ ?_;· (repeat' (first|omega|refine And.intro ?_ ?_|exact zan (by omega)|exact zbd (by omega)|refine zb9 ?_ ?_|refine zbc ?_ ?_|refine zbj ?_ ?_|refine za2 ?_ ?_|refine zbk ?_|refine zbl ?_ ?_|refine zbm ?_|refine zan ?_|fail)))|refine zhc _ _ (by first|with_reducible rfl|exact Cst.h) (by first|with_reducible rfl|exact Cst.h) ?_|refine EqN.mk _ rfl ?_|fail)|refine SideN.mk (by omega) ?_|fail)));conv=>whnf
 exact EndN.det trivial (zab (by
  have e:i % ((2:Int) ^ IntKind.u8.bits).natAbs=i:=Nat.mod_eq_of_lt (by show i<256;omega)
  rw [e]
  rfl))
def mksB (i:Nat):List ByteArray:=(List.range i).map mkB
theorem mksB_len (i:Nat):(mksB i).length=i:=by simp [mksB]
theorem appC_S (C:List AV):∀ j,appC (fun i=>[.str (mkB i)]) C j=C++(mksB j).flatMap encSG
 | 0=>by simp [appC,mksB]
 | j+1=>by
   rw [appC,appC_S C j]
   unfold mksB
   rw [List.range_succ,List.map_append,List.flatMap_append]
   simp [encSG]
theorem strs_one:∀ l:List ByteArray,zbt (l.flatMap encSG)=true
 | []=>rfl
 | c::l=>by
   rw [List.flatMap_cons]
   exact strs_one l
theorem lentTexts_c (l:List ByteArray) (hl:l.length≤1000) (H:Heap):VCall Tryz.prog 18 [.sl none l.length (l.flatMap encSG)] H fun r H'=>r=.vk H.length l.length (l.length+12)∧H'=H++[.vec 9 1 ((l++mksB 12).flatMap encSG)]:=by
 have hml:(l.flatMap encSG).length=l.length * 1:=zb5 (f:=encSG) (sz:=1) (fun _=>rfl) l
 have hone:=strs_one l
 have hCb:=fun n=>zag n l
 rw [List.flatMap_append,← appC_S]
 generalize l.flatMap encSG=C at *
 have hal:∀ j,(appC (fun i=>[.str (mkB i)]) C j).length=(l.length+j) * 1:=appC_len (m:=fun i=>[.str (mkB i)]) (fun _=>rfl) hml
 refine fdG Tryz.func18 ⟨rfl,rfl,rfl⟩ fun hcl hbl=>?_
 (repeat' ((conv=>whnf);(first|(refine OrN.natR ?_;refine NatN.mk (l.length+12) (by omega) ?_;refine SideN.mk ⟨rfl,by omega,by dsimp only;omega⟩ (OrN.r ?_))|refine EqN.i64 (by omega) ?_|refine SideN.mk ⟨rfl,hone,hml,by dsimp only;omega,by simp only [maxLen];omega⟩ ?_|refine PtrN.loc _ rfl ?_|fail)));conv=>whnf
 refine zau Tryz.E0 zak (σ:=Nat) (fun j=>j≤12) (fun j=>12-j) (fun j=>[(3,.v (.vs (H.length+0) (l.length+j))),(4,.v (.int .i64 j))]) (fun j=>[.vec 9 1 (appC (fun i=>[.str (mkB i)]) C j)]) _ 0 rfl hcl [0] rfl (Nat.zero_le _) ⟨⟨_,rfl,zab (by rw [Nat.zero_add];rfl)⟩,⟨_,rfl,Wk.refl _⟩,trivial⟩ rfl (fun _ _=>rfl) ?_
 intro j hj
 rcases Nat.lt_or_ge j 12 with hlt|hge
 ·have hm:=fun H=>zfx j hlt H
  (repeat' ((conv=>whnf);(first|refine IfN.dT (by omega) ?_|(refine zad _ _ Cst.h Cst.h ?_ ?_;· omega)|refine CallN.det _ (hm _) ?_|refine SideN.mk ⟨hal j,rfl,rfl,by dsimp only;omega,by simp only [maxLen];omega⟩ ?_|refine PtrN.loc _ rfl ?_|fail)));conv=>whnf
  (refine ⟨⟨j+1,by show j+1≤_;omega,by omega,?_,.inl ⟨rfl,rfl⟩,rfl,_,rfl,?_⟩⟩;rotate_left 1;exact .inl rfl;exact ⟨⟨_,rfl,Wk.refl _⟩,⟨_,rfl,Wk.refl _⟩,trivial⟩)
 ·obtain rfl:j=12:=by omega
  (repeat' ((conv=>whnf);(first|refine IfN.ff rfl ?_|refine SideN.mk (by omega) ?_|refine NatN.mk _ rfl ?_|fail)));conv=>whnf
  refine EndN.keep _ (Wk.refl _) ⟨rfl,rfl⟩
theorem zei (c:ByteArray):(encSG c).length=1:=rfl
theorem keptTexts_c (l:List ByteArray) (hl:l.length≤1000) (H:Heap):VDet Tryz.prog 25 [.sk l.length (l.length+12) ((l++mksB 12).flatMap encSG),.sl none l.length (l.flatMap encSG)] H (.bool true):=by
 have hlen:(l++mksB 12).length=l.length+12:=by rw [List.length_append,mksB_len]
 have hb1:=fun n=>zag n l
 have hb2:=fun n=>zag n (l++mksB 12)
 have e1:∀ j,j<l.length→(l++mksB 12).getD j eN=l.getD j eN:=fun j h=>by
  simp [List.getD,List.getElem?_append_left h]
 have e2:∀ i,i<12→(l++mksB 12).getD (l.length+i) eN=mkB i:=fun i h=>by
  simp [List.getD,List.getElem?_append_right,mksB,h]
 generalize l++mksB 12=A at *
 refine fdD Tryz.func25 ⟨rfl,rfl,rfl⟩ fun hcl hbl=>?_
 (repeat' ((conv=>whnf);(first|(refine OrN.r ?_;(conv=>whnf);refine NatN.mk (l.length+12) (by omega) ?_;(conv=>whnf);refine SideN.mk (by omega) ?_)|(refine IfN.id ?_;first|refine IfN.not ?_|refine IfN.dT (by omega) ?_|fail)|refine EqN.i64 (by omega) ?_|fail)));conv=>whnf
 refine zau Tryz.E0 zak (σ:=Nat) (fun j=>j≤l.length+12) (fun j=>l.length+12-j) (fun j=>[(6,.v (.int .i64 j))]) (fun _=>_) _ 0 rfl hcl [1,5] rfl (Nat.zero_le _) ⟨⟨_,rfl,Wk.refl _⟩,trivial⟩ rfl (fun _ _=>rfl) ?_
 intro j hj
 rcases Nat.lt_or_ge j (l.length+12) with hlt|hge
 ·rcases Nat.lt_or_ge j l.length with h1|h1
  ·obtain ⟨s,hs⟩:∃ s,s=l.getD j eN:=⟨_,rfl⟩
   have qA:encSG (A.getD j eN)=[.str s]:=by rw [e1 j h1,hs];rfl
   have ql:encSG (l.getD j eN)=[.str s]:=by rw [hs];rfl
   (repeat' ((conv=>whnf);(first|(refine IfN.id ?_;first|refine IfN.tt (beq_self_eq_true _) ?_|refine IfN.not ?_|refine IfN.dT (by omega) ?_|refine zaj (by omega) ?_|fail)|(refine zad _ _ Cst.h Cst.h ?_ ?_;· omega)|(refine SideN.mk ?_ ?_;· first|kernel_rfl|omega|exact List.cons_ne_nil _ _|fail)|refine zah eN j rfl (by omega) zei qA ?_|refine zah eN j rfl (by omega) zei ql ?_|refine zap [] ?_|fail)));conv=>whnf
   (refine ⟨⟨j+1,by show j+1≤_;omega,by omega,?_,.inl ⟨rfl,rfl⟩,rfl,_,rfl,?_⟩⟩;rotate_left 1;exact .inl rfl;exact ⟨⟨_,rfl,Wk.refl _⟩,trivial⟩)
  ·obtain ⟨i,rfl⟩:∃ i,j=l.length+i:=⟨j-l.length,by omega⟩
   have hi:i<12:=by omega
   have hm:=fun H=>zfx i hi H
   have qA:encSG (A.getD (l.length+i) eN)=[.str (mkB i)]:=by rw [e2 i hi];rfl
   generalize mkB i=s at *
   (repeat' ((conv=>whnf);(first|(refine IfN.id ?_;first|refine IfN.tt (beq_self_eq_true _) ?_|refine IfN.not ?_|refine IfN.dT (by omega) ?_|refine zaj (by omega) ?_|fail)|(refine EqN.id ?_;first|refine EqN.subL (by omega) ?_|(refine zad _ _ Cst.h Cst.h ?_ ?_;· omega)|fail)|(refine SideN.mk ?_ ?_;· first|kernel_rfl|omega|exact List.cons_ne_nil _ _|fail)|refine CallD.det _ (fun _ hq X=>hm _) ?_|refine zah eN (l.length+i) rfl (by omega) zei qA ?_|refine zap [] ?_|fail)));conv=>whnf
   (refine ⟨⟨l.length+i+1,by show l.length+i+1≤_;omega,by omega,?_,.inl ⟨rfl,rfl⟩,rfl,_,rfl,?_⟩⟩;rotate_left 1;exact .inl rfl;exact ⟨⟨_,rfl,Wk.refl _⟩,trivial⟩)
 ·have hje:j=l.length+12:=by omega
  subst hje
  (repeat' ((conv=>whnf);(first|refine zaj (by omega) ?_|fail)));conv=>whnf
  exact eT trivial
def ovr (l:List AV) (j:Nat):List AV:=(List.range j).map (fun i=>AV.str (mkO i))++l.drop j
theorem ovr_len (l:List AV) (j:Nat) (h:j≤l.length):(ovr l j).length=l.length:=by
 simp [ovr]
 omega
theorem ovr_set (l:List AV) (j:Nat) (h:j<l.length):setL (ovr l j) j [.str (mkO j)]=ovr l (j+1):=by
 unfold setL ovr
 have e1:((List.range j).map (fun i=>AV.str (mkO i))).length=j:=by simp
 rw [List.take_append_of_le_length (by omega),List.take_of_length_le (by omega),List.drop_append,List.range_succ,List.map_append]
 rw [List.drop_eq_nil_of_le (by simp)]
 simp
theorem ovr_below (n:Nat) (l:List AV) (j:Nat) (h:zae n l):zae n (ovr l j):=by
 unfold ovr
 refine (zaq _ _).2 ⟨?_,?_⟩
 ·induction j with
  | zero=>trivial
  | succ j ih =>
    rw [List.range_succ,List.map_append]
    exact (zaq _ _).2 ⟨ih,by simp [below,zae]⟩
 ·exact ((zaq (l.take j) (l.drop j)).1 (by rw [List.take_append_drop];exact h)).2
theorem overTexts_c (n i:Nat) (l:List AV) (hn:n≤150) (hl:l.length=n+12) (hb:∀ k,zae k l) (H:Heap) (hi:H[i]? = some (.vec 9 1 l)):VCall Tryz.prog 26 [.vk i n (n+12)] H (setR H i (.vec 9 1 (ovr l (n+12))) (.tup [])):=by
 have hlt0:=(List.getElem?_eq_some_iff.1 hi).1
 have hol:=fun j (h:j≤n+12)=>ovr_len l j (by omega)
 refine fdG Tryz.func26 ⟨rfl,rfl,rfl⟩ fun hcl hbl=>?_
 (repeat' ((conv=>whnf);(first|refine EqN.i64 (by omega) ?_|refine AnyVN.mk (fun v hv=>?_)|fail)));conv=>whnf
 obtain ⟨c,rfl,hc⟩:=hv
 (repeat' ((conv=>whnf);(first|refine SideN.mk (show min (c:Int) ((n:Int)+12)=((n+12:Nat):Int) by omega) ?_|fail)));conv=>whnf
 refine loop_B Tryz.E0 zak (σ:=Nat) (fun p=>p≤n+12) (fun p=>n+12-p) (fun p=>[(3,.v (.int .i64 p))]) (fun p=>H.set i (.vec 9 1 (ovr l p))) (fun _=>[]) _ 0 (fun p _=>by simp) (fun p _=>zek hcl i _ (ovr_below _ _ _ (hb _))) [2] rfl (Nat.zero_le _) ⟨⟨_,rfl,Wk.refl _⟩,trivial⟩ (set_self (by rw [hi];rfl)).symm rfl (fun _ _=>rfl) ?_
 intro j hj
 clear hbl
 rcases Nat.lt_or_ge j (n+12) with hlt|hge
 ·have hm:=fun H=>markText2_c j (by omega) H
  have hs:=ovr_set l j (by omega)
  have h1:=hol j (by omega)
  have hg:(H.set i (.vec 9 1 (ovr l j)))[i]? = some (.vec 9 1 (ovr l j)):=by simp [hlt0]
  have hne:ovr l j≠[]:=fun e=>by rw [e] at h1;simp at h1;omega
  have hset:(H.set i (.vec 9 1 (ovr l j))).set i (.vec 9 1 (ovr l (j+1)))=H.set i (.vec 9 1 (ovr l (j+1))):=List.set_set ..
  have h2:=hol (j+1) (by omega)
  generalize hA:ovr l j=A at *
  generalize hA2:ovr l (j+1)=A2 at *
  generalize mkO j=s at *
  (repeat' ((conv=>whnf);(first|refine SetN.mk _ hset ?_|refine IfN.dT (by omega) ?_|(refine zad _ _ Cst.h Cst.h ?_ ?_;· omega)|refine SideN.mk (by simp;omega) ?_|refine CallN.det _ (hm _) ?_|refine SideN.mk ⟨⟨by omega,hne⟩,by omega,by omega⟩ ?_|refine RelN.mk A2 [] (by rw [Int.toNat_natCast,Nat.mul_one];exact hs.symm) ?_|refine PtrN.base _ (by (repeat' (first|assumption|exact zgk _ rfl|exact zdf rfl|refine zcq (B':=?_) ?_|refine zca ?_|fail))) ?_|fail)));conv=>whnf
  subst hA2
  (refine ⟨⟨j+1,by show j+1≤_;omega,by omega,?_,.inl ⟨rfl,rfl⟩,rfl,_,rfl,?_⟩⟩;rotate_left 1;exact .inl rfl;exact ⟨⟨_,rfl,Wk.refl _⟩,trivial⟩)
 ·obtain rfl:j=n+12:=by omega
  (repeat' ((conv=>whnf);(first|refine zaj (by omega) ?_|fail)));conv=>whnf
  exact za6 (ovr_below _ _ _ (hb _)) trivial (Wk.refl _)
end
section
attribute [local irreducible] VW VCall VO bits zal
theorem KpL.low {n0:Nat} {loc:Heap} {j:Nat}:∀ {l:List AV},zae n0 l→KpL n0 loc j l l
 | [],_=>.nil
 | v::_,h=>.cons (.low v h.1) (KpL.low h.2)
theorem tableK_c (f:Fo) (hg:f.good) (hn:(addGs [] [f]).length≤100000) (l:List ByteArray) (hlen:l.length≤9223372036854775807) (hsz:∀ c∈l,c.size≤maxLen) (he:errN f l 0=0) (H:Heap):VCall Tryz.prog 20 [.agg f.cells,.sl none l.length (l.flatMap encSG)] H fun r H'=>∃ s:Nat,r=.tup [.ms H.length 0 (2 ^ l.length),.int .i64 0]∧H'=H++[.box 4 (tabL f l (2 ^ l.length)++List.replicate s .junk)]:=by
 have h1:=zgt f hg hn l hlen hsz 0
 rw [zgu] at h1
 rw [if_pos he] at h1
 obtain ⟨h12,hr,hnm,-,hin⟩:=zfm he
 obtain ⟨p,hp,rfl⟩:=zez hr
 have h2l:=zco l.length h12
 have h2:=fun n (hn:n≤1000000)=>zd3 l (by omega) n hn p hp (zfl hp hin)
 have hs:=size_g l h12
 have hbk:=blocks_g l h12
 have hres:(List.range (2 ^ l.length)).map (fun v=>AV.bool (evF (vbG l v) p.fo))=tabB (fun v=>p.ev (vbG l v)) (2 ^ l.length) (2 ^ l.length):=by
  unfold tabB
  exact List.map_congr_left fun v hv=>by simp [List.mem_range.1 hv,zg6 _ p hp]
 unfold tabL
 rw [hres]
 unfold blkG U at h2
 generalize hh:(fun v=>p.ev (vbG l v))=h at *
 have h2:∀ n:Nat,n≤1000000→∀ H,VDet Tryz.prog 42 [tblG l,.agg p.fo.cells,.int .i64 n] H (.int .u64 (zal 64 fun i=>h (64 * n+i):Nat)):=fun n hn H=>by
  subst hh
  exact h2 n hn H
 clear hres hh hg hn hsz hlen hr hnm hin he
 generalize hS:2 ^ l.length=S at *
 have htb:=zch l
 generalize tblG l=t at *
 obtain ⟨fo,fn,fan,fac,fsn,fsc,hw,hfb⟩:=zby p.fo
 rw [hw] at h1 h2 ⊢
 generalize l.flatMap encSG=lc at *
 generalize l.length=ll at *
 refine VCall.mono (VCall.one (ι:=Unit) (u:=fun _=>.tup [.ms (H.length+1) 0 S,.int .i64 0]) (u':=fun _=>.tup [.ms H.length 0 S,.int .i64 0]) (loc:=fun _=>[.box 40 [.int .u8 (fo:Nat),.str fn,.sl none fan fac,.sl none fsn fsc],.box 4 (tabB h S S)]) (j:=1) (t:=4) (l':=fun _=>tabB h S S) ?_ (fun _=>.tup (.cons (.ms rfl) (.cons (.low _ trivial) .nil))) fun _=>.box rfl (KpL.low (tabB_below _ _ _ _))) fun r H' ⟨_,s,h1,h2⟩=>⟨s,h1,h2⟩
 refine fdG Tryz.func20 ⟨rfl,rfl,rfl⟩ fun hcl hbl=>?_
 (repeat' ((conv=>whnf);(first|(refine OrN.l ?_;refine NatN.mk _ rfl ?_;refine SideN.mk ⟨rfl,by omega,by dsimp only;omega⟩ ?_;refine OrN.r ?_)|(refine IfN.id ?_;first|refine IfN.not ?_|refine IfN.tt rfl ?_|fail)|(refine CallN.id ?_;first|refine CallN.det _ (h1 _) ?_|refine CallN.det _ (hs _) ?_|refine CallN.det _ (hbk _) ?_|fail)|fail)));conv=>whnf
 refine zau Tryz.E0 zak (σ:=Nat) (fun n=>n≤(S+63) / 64) (fun n=>(S+63) / 64-n) (fun n=>[(26,.v (.int .i64 n))]) (fun n=>[.box 40 [.int .u8 (fo:Nat),.str fn,.sl none fan fac,.sl none fsn fsc],.box 4 (tabB h S (min (64 * n) S))]) _ 0 rfl hcl [2,6,8,25] rfl (Nat.zero_le _) ⟨⟨_,rfl,Wk.refl _⟩,trivial⟩ (by rw [rep_tab h S,show min (64 * 0) S=0 by omega]) (fun _ _=>rfl) ?_
 intro n hn
 clear hbl
 obtain ⟨gg,hgg,hbit⟩:∃ gg:Nat,(n<(S+63) / 64→∀ H,VDet Tryz.prog 42 [t,.agg [.int .u8 (fo:Nat),.str fn,.sl none fan fac,.sl none fsn fsc],.int .i64 n] H (.int .u64 (gg:Nat)))∧(∀ i:Nat,64 * n≤i→i<64 * n+64→(bits .and .u64 (((gg:Nat):Int).fdiv (2 ^ min (((i % 64:Nat):Nat):Int).toNat IntKind.u64.bits)) 1==1)=h i) :=
  ⟨zal 64 fun i=>h (64 * n+i),fun hlt H=>h2 n (by omega) H,fun i h3 h4=>by
   rw [zdk _ (i % 64) (by omega),bit_one _ (i % 64) (by omega)]
   congr 1
   omega⟩
 (repeat' ((conv=>whnf);(first|refine za9 (fun _=>?_) (fun _=>?_)|refine EqN.i64 (by omega) ?_|refine CallN.det _ (hgg (by omega) _) ?_|fail)));all_goals (conv=>whnf)
 ·refine zau Tryz.E0 zak (σ:=Nat) (fun i=>64 * n≤i∧i≤64 * n+64∧i≤S) (fun i=>S-i) (fun i=>[(11,.v (.int .i64 i))]) (fun i=>[.box 40 [.int .u8 (fo:Nat),.str fn,.sl none fan fac,.sl none fsn fsc],.box 4 (tabB h S i)]) _ (64 * n) rfl hcl [2,6,8,9,10,25,26] rfl ⟨by omega,by omega,by omega⟩ ⟨⟨_,rfl,Wk.refl _⟩,trivial⟩ (by rw [show min (64 * n) S=64 * n by omega]) (fun _ _=>rfl) ?_
  rintro i ⟨hi1,hi2,hi3⟩
  (repeat' ((conv=>whnf);(first|refine za9 (fun _=>?_) (fun _=>?_)|(refine EqN.id ?_;first|(refine zad _ _ Cst.h Cst.h ?_ ?_;· omega)|refine EqN.i64 (by omega) ?_|refine EqN.rem (by omega) ?_|refine EqN.mk _ rfl ?_|fail)|refine SideN.mk (by omega) ?_|refine PtrN.loc _ rfl ?_|refine OfsN.at_ (by omega) ?_|fail)));all_goals (conv=>whnf)
  ·have hv:=hbit i hi1 (by omega)
   have key:setC (tabB h S i) (0+(i:Int).toNat * 1) [.bool (bits .and .u64 (((gg:Nat):Int).fdiv (2 ^ min ((i:Int) % 64).toNat IntKind.u64.bits)) 1==1)]=some (tabB h S (i+1)):=by
    have:=set_tab h S i (by omega)
    rw [← hv] at this
    rw [Int.toNat_natCast,Nat.zero_add,Nat.mul_one]
    exact this
   have hst:storeS Tryz.T 4 [.box 40 [.int .u8 (fo:Nat),.str fn,.sl none fan fac,.sl none fsn fsc],.box 4 (tabB h S i)] (some (.lp (0+1) (0+(i:Int).toNat * 1))) (some (.bool (bits .and .u64 (((gg:Nat):Int).fdiv (2 ^ min ((i:Int) % 64).toNat IntKind.u64.bits)) 1==1)))=.upd (0+1) (.box 4 (tabB h S (i+1))) none:=storeS_box rfl rfl rfl rfl key
   refine Eq.mpr (congrArg (@SR.rec (fun _=>Prop) _ _ _ _ _ _ _ _ _ _ _ _ _ _ _ _ _ _ _ _ _) hst) ?_
   (repeat' ((conv=>whnf);(first|(refine zad _ _ Cst.h Cst.h ?_ ?_;· omega)|fail)));conv=>whnf
   (refine ⟨⟨i+1,⟨by omega,by omega,by omega⟩,by omega,?_,.inl ⟨rfl,rfl⟩,rfl,_,rfl,?_⟩⟩;rotate_left 1;exact .inl rfl;exact ⟨⟨_,rfl,Wk.refl _⟩,trivial⟩)
  ·obtain rfl:i=min (64 * (n+1)) S:=by omega
   (refine ⟨⟨n+1,by omega,by omega,?_,.inr ?_,rfl,_,rfl,?_⟩⟩;rotate_left 2;exact .inl rfl;all_goals (repeat' (first|exact trivial|refine ⟨⟨_,rfl,?_⟩,?_⟩|fail));all_goals exact Wk.refl _)
  ·obtain rfl:i=min (64 * (n+1)) S:=by omega
   (refine ⟨⟨n+1,by omega,by omega,?_,.inr ?_,rfl,_,rfl,?_⟩⟩;rotate_left 2;exact .inl rfl;all_goals (repeat' (first|exact trivial|refine ⟨⟨_,rfl,?_⟩,?_⟩|fail));all_goals exact Wk.refl _)
 ·refine EndN.keep _ (Wk.refl _) ⟨(),rfl,?_⟩
  rw [show min (64 * n) S=S by omega]
theorem tableE_c (f:Fo) (hg:f.good) (hn:(addGs [] [f]).length≤100000) (l:List ByteArray) (hlen:l.length≤9223372036854775807) (hsz:∀ c∈l,c.size≤maxLen) (he:errN f l 0≠0) (H:Heap):VDet Tryz.prog 20 [.agg f.cells,.sl none l.length (l.flatMap encSG)] H (.tup [.nils,.int .i64 (errN f l 0)]):=by
 have h1:=zgt f hg hn l hlen hsz 0
 rw [zgu,if_neg he] at h1
 clear hg hn hsz hlen
 generalize errN f l 0=e at *
 obtain ⟨fo,fn,fan,fac,fsn,fsc,hw,hfb⟩:=zby f
 rw [hw] at h1 ⊢
 generalize l.flatMap encSG=lc at *
 generalize l.length=ll at *
 refine fdD Tryz.func20 ⟨rfl,rfl,rfl⟩ fun hcl hbl=>?_
 (repeat' ((conv=>whnf);(first|(refine IfN.id ?_;first|refine IfN.not ?_|refine zaj (by omega) ?_|fail)|refine CallN.det _ (h1 _) ?_|fail)));conv=>whnf
 exact EndN.det (by simp [below,zae]) (by exact Wk.refl _)
def fcC (l:List ByteArray) (v i:Nat):List AV:=[.str (l.getD i eN),.int .i64 0,.int .i64 (((v >>> (l.length-1-i)) % 2:Nat):Int)]
def fcs (l:List ByteArray) (v j:Nat):List AV:=(List.range j).flatMap (fcC l v)
theorem zg4 (l:List ByteArray) (v j:Nat):fcs l v (j+1)=fcs l v j++fcC l v j:=by
 unfold fcs
 rw [List.range_succ,List.flatMap_append]
 simp
theorem fcs_len (l:List ByteArray) (v:Nat):∀ j,(fcs l v j).length=j * 3
 | 0=>rfl
 | j+1=>by
   rw [zg4,List.length_append,fcs_len l v j,show (fcC l v j).length=3 from rfl]
   omega
theorem zeh (n:Nat) (l:List ByteArray) (v:Nat):∀ j,zae n (fcs l v j)
 | 0=>trivial
 | j+1=>by rw [zg4];exact (zaq _ _).2 ⟨zeh n l v j,trivial,trivial,trivial,trivial⟩
theorem zg2 {N:Nat}:∀ {l m:List AV},freeL N l→freeL N m→freeL N (l++m)
 | [],_,_,h=>h
 | _::_,_,h,k=>⟨h.1,zg2 h.2 k⟩
theorem fcs_free (n:Nat) (l:List ByteArray) (v:Nat):∀ j,freeL n (fcs l v j)
 | 0=>trivial
 | j+1=>by rw [zg4];exact zg2 (fcs_free n l v j) ⟨trivial,trivial,trivial,trivial⟩
theorem tabL_free (n:Nat) (f:Fo) (l:List ByteArray):∀ S,freeL n (tabL f l S)
 | 0=>trivial
 | S+1=>by rw [tabL_succ];exact zg2 (tabL_free n f l S) ⟨trivial,trivial⟩
theorem junk_free (n:Nat):∀ s,freeL n (List.replicate s .junk)
 | 0=>trivial
 | s+1=>⟨trivial,junk_free n s⟩
abbrev mdA (k s:Int) (fs:AV):AV:=.agg [.int .u8 k,.int .i64 s,.nils,.int .i64 0,fs,.nils,.nils]
theorem modelE_c (l:List ByteArray) (hlen:l.length≤9223372036854775807) (hsz:∀ c∈l,c.size≤maxLen) (v:Int) (he:chkN l v≠0) (H:Heap):VDet Tryz.prog 22 [.sl none l.length (l.flatMap encSG),.int .i64 v] H (.tup [mdA 0 0 .nils,.int .i64 (chkN l v)]):=by
 have h1:=zgy l hlen hsz
 have hnb:=fun n=>zag n l
 unfold chkN at he ⊢
 generalize l.flatMap encSG=lc at *
 generalize isNmG l=b at *
 generalize l.length=n at *
 by_cases h12:12<n
 ·rw [if_pos h12]
  refine fdD Tryz.func22 ⟨rfl,rfl,rfl⟩ fun hcl hbl=>?_
  (repeat' ((conv=>whnf);(first|refine IfN.dT (by omega) ?_|fail)));conv=>whnf
  exact eT (by simp [below,zae])
 ·rw [if_neg h12] at he ⊢
  have h2l:=zco n (by omega)
  have hsl:1 <<< n=2 ^ n:=Nat.one_shiftLeft n
  generalize 2 ^ n=S at *
  cases b with
  | false =>
    rw [if_pos rfl]
    refine fdD Tryz.func22 ⟨rfl,rfl,rfl⟩ fun hcl hbl=>?_
    (repeat' ((conv=>whnf);(first|(refine IfN.id ?_;first|refine IfN.not ?_|refine IfN.ff rfl ?_|refine zaj (by omega) ?_|fail)|refine CallN.det _ (h1 _) ?_|fail)));conv=>whnf
    exact eT (by simp [below,zae])
  | true =>
    rw [if_neg Bool.noConfusion] at he ⊢
    have hv:v<0∨(S:Int)≤v:=by
     by_cases h:v<0∨(S:Int)≤v
     ·exact h
     ·rw [if_neg h] at he;exact absurd rfl he
    rw [if_pos hv]
    have hv2:v<0∨((1 <<< n:Nat):Int)≤v:=by rw [hsl];exact hv
    refine fdD Tryz.func22 ⟨rfl,rfl,rfl⟩ fun hcl hbl=>?_
    (repeat' ((conv=>whnf);(first|(refine IfN.id ?_;first|refine IfN.dT (by rw [hsl];omega) ?_|refine IfN.not ?_|refine IfN.tt rfl ?_|refine zaj (by omega) ?_|refine za9 (fun _=>?_) (fun _=>?_)|fail)|(refine zdl _ _ Cst.h Cst.h rfl ?_ ?_ ?_;(· (repeat' (first|omega|refine And.intro ?_ ?_|exact zan (by omega)|exact zbd (by omega)|refine zb9 ?_ ?_|refine zbc ?_ ?_|refine zbj ?_ ?_|refine za2 ?_ ?_|refine zbk ?_|refine zbl ?_ ?_|refine zbm ?_|refine zan ?_|fail)));(· (repeat' (first|omega|refine And.intro ?_ ?_|exact zan (by omega)|exact zbd (by omega)|refine zb9 ?_ ?_|refine zbc ?_ ?_|refine zbj ?_ ?_|refine za2 ?_ ?_|refine zbk ?_|refine zbl ?_ ?_|refine zbm ?_|refine zan ?_|fail))))|refine SideN.mk (by omega) ?_|refine CallN.det _ (h1 _) ?_|fail)));all_goals (conv=>whnf)
    all_goals exact eT (by simp [below,zae])
theorem model0_c (v:Int) (he:chkN [] v=0) (H:Heap):VDet Tryz.prog 22 [.sl none 0 [],.int .i64 v] H (.tup [mdA 1 1 .nils,.int .i64 0]):=by
 have h1:=zgy [] (by decide) (by simp)
 have hv:v=0:=by
  unfold chkN at he
  simp only [List.length_nil] at he
  split at he
  ·cases he
  ·split at he
   ·cases he
   ·split at he
    ·cases he
    ·omega
 subst hv
 have hb:isNmG []=true:=rfl
 rw [hb] at h1
 have h1:∀ H,VDet Tryz.prog 57 [.sl none 0 []] H (.bool true):=h1
 refine fdD Tryz.func22 ⟨rfl,rfl,rfl⟩ fun hcl hbl=>?_
 (repeat' ((conv=>whnf);(first|(refine IfN.id ?_;first|refine IfN.not ?_|refine IfN.tt rfl ?_|refine IfN.ff rfl ?_|fail)|(refine zdl _ _ Cst.h Cst.h rfl ?_ ?_ ?_;(· (repeat' (first|omega|refine And.intro ?_ ?_|exact zan (by omega)|exact zbd (by omega)|refine zb9 ?_ ?_|refine zbc ?_ ?_|refine zbj ?_ ?_|refine za2 ?_ ?_|refine zbk ?_|refine zbl ?_ ?_|refine zbm ?_|refine zan ?_|fail)));(· (repeat' (first|omega|refine And.intro ?_ ?_|exact zan (by omega)|exact zbd (by omega)|refine zb9 ?_ ?_|refine zbc ?_ ?_|refine zbj ?_ ?_|refine za2 ?_ ?_|refine zbk ?_|refine zbl ?_ ?_|refine zbm ?_|refine zan ?_|fail))))|refine SideN.mk (by omega) ?_|refine CallN.det _ (h1 _) ?_|fail)));conv=>whnf
 refine zau Tryz.E0 zak (σ:=Unit) (fun _=>True) (fun _=>0) (fun _=>[(31,.v (.int .i64 0))]) (fun _=>_) _ () rfl hcl [0,1,4,6,29,30] rfl trivial ⟨⟨_,rfl,Wk.refl _⟩,trivial⟩ rfl (fun _ _=>rfl) ?_
 intro _ _
 (repeat' ((conv=>whnf);(first|refine IfN.ff rfl ?_|fail)));conv=>whnf
 exact eT (by simp [below,zae])
theorem modelK_c (l:List ByteArray) (hlen:l.length≤9223372036854775807) (hsz:∀ c∈l,c.size≤maxLen) (v:Nat) (he:chkN l (v:Nat)=0) (h0:0<l.length) (H:Heap):VCall Tryz.prog 22 [.sl none l.length (l.flatMap encSG),.int .i64 (v:Nat)] H fun r H'=>r=.tup [mdA 1 1 (.vs H.length l.length),.int .i64 0]∧H'=H++[.vec 90 3 (fcs l v l.length)]:=by
 have h1:=zgy l hlen hsz
 have hnb:=fun n=>zag n l
 have hfb2:=fun n j=>zeh n l v j
 obtain ⟨h12,hb,hv⟩:l.length≤12∧isNmG l=true∧v<2 ^ l.length:=by
  unfold chkN at he
  split at he
  ·cases he
  ·split at he
   ·cases he
   ·rename_i h3 h4
    split at he
    ·cases he
    ·refine ⟨by omega,by simpa using h4,?_⟩
     omega
 rw [hb] at h1
 have h2l:=zco l.length h12
 have hsl:1 <<< l.length=2 ^ l.length:=Nat.one_shiftLeft _
 have hfl:=fcs_len l v
 have hfs:=fun j=>zg4 l v j
 refine VCall.oneV (u:=.tup [mdA 1 1 (.vs (H.length+2) l.length),.int .i64 0]) (u':=.tup [mdA 1 1 (.vs H.length l.length),.int .i64 0]) (loc:=[.box 55 [.int .u8 1,.int .i64 1,.nils,.int .i64 0,.vs (H.length+2) l.length,.nils,.nils],.box 55 [.int .u8 1,.int .i64 1,.nils,.int .i64 0,.vs (H.length+2) l.length,.nils,.nils],.vec 90 3 (fcs l v l.length)]) (j:=2) (t:=90) (sz:=3) (l:=fcs l v l.length) ?_ (.tup (.cons (.agg (.cons (.low _ trivial) (.cons (.low _ trivial) (.cons (.low _ trivial) (.cons (.low _ trivial) (.cons (.vv rfl (hfl _)) (.cons (.low _ trivial) (.cons (.low _ trivial) .nil)))))))) (.cons (.low _ trivial) .nil))) rfl (by rw [hfl];omega) (KpL.low (zeh _ _ _ _))
 refine fdG Tryz.func22 ⟨rfl,rfl,rfl⟩ fun hcl hbl=>?_
 (repeat' ((conv=>whnf);(first|(refine IfN.id ?_;first|refine zaj (by rw [hsl];omega) ?_|refine IfN.not ?_|refine IfN.tt rfl ?_|refine IfN.ff rfl ?_|refine zaj (by omega) ?_|fail)|(refine zdl _ _ Cst.h Cst.h rfl ?_ ?_ ?_;(· (repeat' (first|omega|refine And.intro ?_ ?_|exact zan (by omega)|exact zbd (by omega)|refine zb9 ?_ ?_|refine zbc ?_ ?_|refine zbj ?_ ?_|refine za2 ?_ ?_|refine zbk ?_|refine zbl ?_ ?_|refine zbm ?_|refine zan ?_|fail)));(· (repeat' (first|omega|refine And.intro ?_ ?_|exact zan (by omega)|exact zbd (by omega)|refine zb9 ?_ ?_|refine zbc ?_ ?_|refine zbj ?_ ?_|refine za2 ?_ ?_|refine zbk ?_|refine zbl ?_ ?_|refine zbm ?_|refine zan ?_|fail))))|refine SideN.mk (by omega) ?_|refine CallN.det _ (h1 _) ?_|fail)));conv=>whnf
 refine LoopN.vecB 1 4 90 3 rfl rfl rfl rfl rfl rfl ?_
 refine zau Tryz.E0 zak (σ:=Nat) (fun j=>j≤l.length) (fun j=>l.length-j) (fun j=>[(31,.v (.int .i64 j))]) (fun j=>[.box 55 [.int .u8 0,.int .i64 0,.nils,.int .i64 0,.nils,.nils,.nils],.box 55 [.int .u8 1,.int .i64 1,.nils,.int .i64 0,.vs (H.length+2) j,.nils,.nils],.vec 90 3 (fcs l v j)]) _ 0 rfl hcl [0,1,4,6,29,30] rfl (Nat.zero_le _) ⟨⟨_,rfl,Wk.refl _⟩,trivial⟩ rfl (fun _ _=>rfl) ?_
 intro j hj
 clear hbl
 rcases Nat.lt_or_ge j l.length with hlt|hge
 ·have h2:=hfs j
  have h3:=hfl j
  unfold fcC at h2
  rw [← Nat.and_one_is_mod] at h2
  generalize hs:l.getD j eN=s at h2
  have e1:encSG (l.getD j eN)=[.str s]:=by rw [hs];rfl
  generalize hA:fcs l v j=A at *
  generalize hA2:fcs l v (j+1)=A2 at *
  (repeat' ((conv=>whnf);(first|refine zap [2] ?_|refine IfN.dT (by omega) ?_|(refine EqN.id ?_;first|refine ze7 v (l.length-1-j) rfl (by omega) (by decide) (by omega) ?_|(refine EqN.and _ _ Cst.h Cst.h ?_ ?_;· (repeat' (first|omega|refine And.intro ?_ ?_|exact zan (by omega)|exact zbd (by omega)|refine zb9 ?_ ?_|refine zbc ?_ ?_|refine zbj ?_ ?_|refine za2 ?_ ?_|refine zbk ?_|refine zbl ?_ ?_|refine zbm ?_|refine zan ?_|fail)))|(refine zad _ _ Cst.h Cst.h ?_ ?_;· omega)|(refine zcu _ _ Cst.h Cst.h ?_ ?_;· omega)|fail)|(refine SideN.mk ?_ ?_;· first|kernel_rfl|omega|exact List.cons_ne_nil _ _|fail)|refine zah (f:=encSG) (l:=l) eN j rfl hlt zei e1 ?_|refine SideN.mk ⟨h3,rfl,rfl,by dsimp only;omega,by simp only [maxLen];omega⟩ ?_|refine PtrN.loc _ rfl ?_|fail)));conv=>whnf
  rw [← h2]
  subst hA2
  (refine ⟨⟨j+1,by show j+1≤_;omega,by omega,?_,.inl ⟨rfl,rfl⟩,rfl,_,rfl,?_⟩⟩;rotate_left 1;exact .inl rfl;exact ⟨⟨_,rfl,Wk.refl _⟩,trivial⟩)
 ·obtain rfl:j=l.length:=by omega
  (repeat' ((conv=>whnf);(first|refine zaj (by omega) ?_|fail)));conv=>whnf
  exact EndN.keep _ (Wk.refl _) ⟨rfl,rfl⟩
def refM (l:List ByteArray) (v:Int):AV:=if chkN l v=0 then .tup [mdA 1 1 (.sl none l.length (fcs l v.toNat l.length)),.int .i64 0] else .tup [mdA 0 0 (.sl none 0 []),.int .i64 (chkN l v)]
theorem refModel_c (l:List ByteArray) (hlen:l.length≤9223372036854775807) (hsz:∀ c∈l,c.size≤maxLen) (v:Int) (H:Heap):VDet Tryz.prog 30 [.sl none l.length (l.flatMap encSG),.int .i64 v] H (refM l v):=by
 have h1:=check_c l hlen hsz v
 have hnb:=fun n=>zag n l
 unfold refM
 by_cases he:chkN l v=0
 ·rw [if_pos he]
  obtain ⟨h12,hv0,hv1⟩:l.length≤12∧0≤v∧v<((2 ^ l.length:Nat):Int):=by
   unfold chkN at he
   split at he
   ·cases he
   ·split at he
    ·cases he
    ·split at he
     ·cases he
     ·omega
  rw [he] at h1
  obtain ⟨n,rfl⟩:∃ n:Nat,v=n:=⟨v.toNat,by omega⟩
  rw [Int.toNat_natCast]
  have h2l:=zco l.length h12
  have hfl:=fcs_len l n
  have hfb2:=fun k j=>zeh k l n j
  have hfs:=fun j=>zg4 l n j
  refine fdD Tryz.func30 ⟨rfl,rfl,rfl⟩ fun hcl hbl=>?_
  (repeat' ((conv=>whnf);(first|(refine IfN.id ?_;first|refine IfN.not ?_|refine IfN.tt rfl ?_|fail)|refine CallN.det _ (h1 _) ?_|fail)));conv=>whnf
  refine LoopN.tokB 1 4 90 3 rfl rfl rfl rfl rfl rfl ?_
  refine zau Tryz.E0 zak (σ:=Nat) (fun j=>j≤l.length) (fun j=>l.length-j) (fun j=>[(8,.v (.int .i64 j))]) (fun j=>[.box 55 [.int .u8 0,.int .i64 0,.nils,.int .i64 0,.nils,.nils,.nils],.box 55 [.int .u8 1,.int .i64 1,.nils,.int .i64 0,.sl (some (H.length+2)) j (fcs l n j),.nils,.nils],.tok 90 3 (fcs l n j).length]) _ 0 rfl hcl [0,1,4,7] rfl (Nat.zero_le _) ⟨⟨_,rfl,Wk.refl _⟩,trivial⟩ rfl (fun _ _=>rfl) ?_
  intro j hj
  clear hbl
  rcases Nat.lt_or_ge j l.length with hlt|hge
  ·have h2:=hfs j
   have h3:=hfl j
   unfold fcC at h2
   generalize hs:l.getD j eN=s at h2
   have e1:encSG (l.getD j eN)=[.str s]:=by rw [hs];rfl
   generalize hA:fcs l n j=A at *
   generalize hA2:fcs l n (j+1)=A2 at *
   (repeat' ((conv=>whnf);(first|refine IfN.dT (by omega) ?_|(refine EqN.id ?_;first|refine ze7 n (l.length-1-j) rfl (by omega) (by decide) (by omega) ?_|refine zhc (n >>> (l.length-1-j)) 2 rfl rfl ?_|(refine zad _ _ Cst.h Cst.h ?_ ?_;· omega)|(refine zcu _ _ Cst.h Cst.h ?_ ?_;· omega)|fail)|(refine SideN.mk ?_ ?_;· first|kernel_rfl|omega|exact List.cons_ne_nil _ _|fail)|refine zah (f:=encSG) (l:=l) eN j rfl hlt zei e1 ?_|refine SideN.mk ⟨rfl,rfl,rfl,by dsimp only;omega,by simp only [maxLen];omega⟩ ?_|refine PtrN.loc _ rfl ?_|refine zap [] ?_|fail)));conv=>whnf
   rw [← h2]
   subst hA2
   (refine ⟨⟨j+1,by show j+1≤_;omega,by omega,?_,.inl ⟨rfl,rfl⟩,rfl,_,rfl,?_⟩⟩;rotate_left 1;exact .inl rfl;exact ⟨⟨_,rfl,Wk.refl _⟩,trivial⟩)
  ·obtain rfl:j=l.length:=by omega
   (repeat' ((conv=>whnf);(first|refine zaj (by omega) ?_|fail)));conv=>whnf
   exact EndN.det (by simp [below,zae,hfb2]) (by (repeat' (first|exact trivial|refine And.intro ?_ ?_|exact Wk.refl _|exact wk_sl _ _ _|refine zdh ?_|refine wk_tup ?_|fail));done)
 ·rw [if_neg he]
  generalize chkN l v=e at *
  generalize l.flatMap encSG=lc at *
  refine fdD Tryz.func30 ⟨rfl,rfl,rfl⟩ fun hcl hbl=>?_
  (repeat' ((conv=>whnf);(first|(refine IfN.id ?_;first|refine IfN.not ?_|refine zaj (by omega) ?_|fail)|refine CallN.det _ (h1 _) ?_|fail)));conv=>whnf
  exact EndN.det (by simp [below,zae]) (by (repeat' (first|exact trivial|refine And.intro ?_ ?_|exact Wk.refl _|exact zdo|refine zdh ?_|refine wk_tup ?_|fail));done)
end
section
attribute [local irreducible] VW VCall VO bits
theorem sameB_c (f:Fo) (l:List ByteArray) (S:Nat) (hS:S≤4096) (H:Heap):VDet Tryz.prog 32 [.sl none S (tabL f l S),.sl none S (tabL f l S)] H (.bool true):=by
 have hTb:=fun n=>tabL_below n f l S
 have ht:tabL f l S=(List.range S).flatMap fun v=>[AV.bool (evF (vbG l v) f)]:=by
  unfold tabL
  generalize List.range S=r
  induction r with
  | nil=>rfl
  | cons x r ih=>simp [ih]
 rw [ht] at hTb ⊢
 have hl:(List.range S).length=S:=List.length_range
 generalize List.range S=r at *
 refine fdD Tryz.func32 ⟨rfl,rfl,rfl⟩ fun hcl hbl=>?_
 (repeat' ((conv=>whnf);(first|(refine IfN.id ?_;first|refine IfN.not ?_|refine IfN.dT (by omega) ?_|fail)|fail)));conv=>whnf
 refine zau Tryz.E0 zak (σ:=Nat) (fun j=>j≤S) (fun j=>S-j) (fun j=>[(13,.v (.int .i64 j))]) (fun j=>_) _ 0 rfl hcl [0,1,12] rfl (Nat.zero_le _) ⟨⟨_,rfl,Wk.refl _⟩,trivial⟩ rfl (fun _ _=>rfl) ?_
 intro j hj
 rcases Nat.lt_or_ge j S with hlt|hge
 ·have e1:(fun v=>[AV.bool (evF (vbG l v) f)]) (r.getD j 0)=[.bool (evF (vbG l (r.getD j 0)) f)]:=rfl
  generalize evF (vbG l (r.getD j 0)) f=x at e1
  (repeat' ((conv=>whnf);(first|(refine IfN.id ?_;first|refine IfN.ff (bne_self_eq_false x) ?_|refine IfN.dT (by omega) ?_|fail)|(refine zad _ _ Cst.h Cst.h ?_ ?_;· omega)|(refine SideN.mk ?_ ?_;· first|kernel_rfl|omega|exact List.cons_ne_nil _ _|fail)|refine zah (f:=fun v=>[AV.bool (evF (vbG l v) f)]) 0 j rfl (by omega) (fun _=>rfl) e1 ?_|refine zap [] ?_|fail)));conv=>whnf
  (refine ⟨⟨j+1,by show j+1≤_;omega,by omega,?_,.inl ⟨rfl,rfl⟩,rfl,_,rfl,?_⟩⟩;rotate_left 1;exact .inl rfl;exact ⟨⟨_,rfl,Wk.refl _⟩,trivial⟩)
 ·obtain rfl:j=S:=by omega
  (repeat' ((conv=>whnf);(first|refine zaj (by omega) ?_|fail)));conv=>whnf
  exact eT trivial
theorem sameFacts_c (l:List ByteArray) (v n:Nat) (hn:n≤1000000) (H:Heap):VDet Tryz.prog 67 [.sl none n (fcs l v n),.sl none n (fcs l v n)] H (.bool true):=by
 have hFb:=fun k=>zeh k l v n
 unfold fcs at hFb ⊢
 have hl:(List.range n).length=n:=List.length_range
 generalize List.range n=r at *
 refine fdD Tryz.func67 ⟨rfl,rfl,rfl⟩ fun hcl hbl=>?_
 (repeat' ((conv=>whnf);(first|(refine IfN.id ?_;first|refine IfN.not ?_|refine IfN.dT (by omega) ?_|fail)|fail)));conv=>whnf
 refine zau Tryz.E0 zak (σ:=Nat) (fun j=>j≤n) (fun j=>n-j) (fun j=>[(5,.v (.int .i64 j))]) (fun j=>_) _ 0 rfl hcl [0,1] rfl (Nat.zero_le _) ⟨⟨_,rfl,Wk.refl _⟩,trivial⟩ rfl (fun _ _=>rfl) ?_
 intro j hj
 rcases Nat.lt_or_ge j n with hlt|hge
 ·obtain ⟨s,x,e1⟩:∃ s x,fcC l v (r.getD j 0)=[.str s,.int .i64 0,.int .i64 x]:=⟨_,_,rfl⟩
  (repeat' ((conv=>whnf);(first|(refine IfN.id ?_;first|refine IfN.tt (sb3 _ _ _) ?_|refine IfN.not ?_|refine IfN.dT (by omega) ?_|fail)|(refine zad _ _ Cst.h Cst.h ?_ ?_;· omega)|(refine SideN.mk ?_ ?_;· first|kernel_rfl|omega|exact List.cons_ne_nil _ _|fail)|refine zah (f:=fcC l v) 0 j rfl (by omega) (fun _=>rfl) e1 ?_|refine zap [] ?_|fail)));conv=>whnf
  (refine ⟨⟨j+1,by show j+1≤_;omega,by omega,?_,.inl ⟨rfl,rfl⟩,rfl,_,rfl,?_⟩⟩;rotate_left 1;exact .inl rfl;exact ⟨⟨_,rfl,Wk.refl _⟩,trivial⟩)
 ·obtain rfl:j=n:=by omega
  (repeat' ((conv=>whnf);(first|refine zaj (by omega) ?_|fail)));conv=>whnf
  exact eT trivial
theorem sameNil66 (H:Heap):VDet Tryz.prog 66 [.nils,.nils] H (.bool true):=by
 refine fdD Tryz.func66 ⟨rfl,rfl,rfl⟩ fun hcl hbl=>?_
 (repeat' ((conv=>whnf);(first|(refine IfN.id ?_;first|refine IfN.not ?_|refine IfN.tt rfl ?_|fail)|fail)));conv=>whnf
 refine zau Tryz.E0 zak (σ:=Unit) (fun _=>True) (fun _=>0) (fun _=>[(5,.v (.int .i64 0))]) (fun _=>_) _ () rfl hcl [0,1] rfl trivial ⟨⟨_,rfl,Wk.refl _⟩,trivial⟩ rfl (fun _ _=>rfl) ?_
 intro _ _
 (repeat' ((conv=>whnf);(first|refine IfN.ff rfl ?_|fail)));conv=>whnf
 exact eT trivial
theorem sameNil68 (H:Heap):VDet Tryz.prog 68 [.nils,.nils] H (.bool true):=by
 refine fdD Tryz.func68 ⟨rfl,rfl,rfl⟩ fun hcl hbl=>?_
 (repeat' ((conv=>whnf);(first|(refine IfN.id ?_;first|refine IfN.not ?_|refine IfN.tt rfl ?_|fail)|fail)));conv=>whnf
 refine zau Tryz.E0 zak (σ:=Unit) (fun _=>True) (fun _=>0) (fun _=>[(5,.v (.int .i64 0))]) (fun _=>_) _ () rfl hcl [0,1] rfl trivial ⟨⟨_,rfl,Wk.refl _⟩,trivial⟩ rfl (fun _ _=>rfl) ?_
 intro _ _
 (repeat' ((conv=>whnf);(first|refine IfN.ff rfl ?_|fail)));conv=>whnf
 exact eT trivial
theorem sameNil69 (H:Heap):VDet Tryz.prog 69 [.nils,.nils] H (.bool true):=by
 refine fdD Tryz.func69 ⟨rfl,rfl,rfl⟩ fun hcl hbl=>?_
 (repeat' ((conv=>whnf);(first|(refine IfN.id ?_;first|refine IfN.not ?_|refine IfN.tt rfl ?_|fail)|fail)));conv=>whnf
 refine zau Tryz.E0 zak (σ:=Unit) (fun _=>True) (fun _=>0) (fun _=>[(5,.v (.int .i64 0))]) (fun _=>_) _ () rfl hcl [0,1] rfl trivial ⟨⟨_,rfl,Wk.refl _⟩,trivial⟩ rfl (fun _ _=>rfl) ?_
 intro _ _
 (repeat' ((conv=>whnf);(first|refine IfN.ff rfl ?_|fail)));conv=>whnf
 exact eT trivial
theorem sameMdl_c (k s:Int) (l:List ByteArray) (v n:Nat) (hn:n≤1000000) (H:Heap):VDet Tryz.prog 33 [mdA k s (.sl none n (fcs l v n)),mdA k s (.sl none n (fcs l v n))] H (.bool true):=by
 have h1:=sameFacts_c l v n hn
 have hFb:=fun k=>zeh k l v n
 generalize fcs l v n=C at *
 refine fdD Tryz.func33 ⟨rfl,rfl,rfl⟩ fun hcl hbl=>?_
 (repeat' ((conv=>whnf);(first|(refine IfN.id ?_;first|refine IfN.tt (beq_self_eq_true _) ?_|refine IfN.tt rfl ?_|fail)|(refine CallN.id ?_;first|refine CallN.det _ (sameNil66 _) ?_|refine CallN.det _ (h1 _) ?_|refine CallN.det _ (sameNil68 _) ?_|refine CallN.det _ (sameNil69 _) ?_|fail)|fail)));conv=>whnf
 exact eT trivial
theorem tells_walk (H:Heap) (fo:Int) (fn:ByteArray) (fan:Nat) (fac:List AV) (fsn:Nat) (fsc:List AV) (go:Int) (gn:ByteArray) (gan gam:Nat) (gac:List AV) (gsn gsm:Nat) (gsc:List AV) (n:Nat) (lc W W2:List AV) (v:Int)
  (x:Bool) (a b c1 c2 c3 d k s:Int) (rb:Bool) (nf:Nat) (FC:List AV) (m:Nat) (T:List AV) (rt:Nat→AV) (Bt:Nat→Blk) (na:Nat) (nc:List AV) (hn:n≤20)
  (h5:∀ H,VDet Tryz.prog 5 [.sx 1 [.int .u8 fo,.str fn,.sl none fan fac,.sl none fsn fsc]] H (.bool true))
  (h17:∀ H,VDet Tryz.prog 17 [.agg [.int .u8 fo,.str fn,.sl none fan fac,.sl none fsn fsc]] H (.agg [.int .u8 go,.str gn,.sk gan gam gac,.sk gsn gsm gsc]))
  (h18:∀ B1,VCall Tryz.prog 18 [.sl none n lc] (H++[B1]) fun r H'=>r=.vk (H.length+1) n (n+12)∧H'=(H++[B1])++[.vec 9 1 W])
  (h19:∀ H i,H[i]? = some (.vec 9 1 W)→VDet Tryz.prog 19 [.agg [.int .u8 go,.str gn,.sk gan gam gac,.sk gsn gsm gsc],.vk i n (n+12),.int .i64 v] H (.tup [.bool x,.int .i64 a]))
  (h20:∀ B1 B3,VCall Tryz.prog 20 [.agg [.int .u8 go,.str gn,.sk gan gam gac,.sk gsn gsm gsc],.vk (H.length+1) n (n+12)] (H++[B1,.vec 9 1 W,B3]) fun r H'=>∃ s,r=.tup [rt (H.length+3),.int .i64 b]∧H'=(H++[B1,.vec 9 1 W,B3])++[Bt s])
  (h21:∀ H,VDet Tryz.prog 21 [.agg [.int .u8 go,.str gn,.sk gan gam gac,.sk gsn gsm gsc]] H (.tup [.int .i64 c1,.int .i64 c2,.int .i64 c3]))
  (h22:∀ B1 B3 B4,VCall Tryz.prog 22 [.vk (H.length+1) n (n+12),.int .i64 v] (H++[B1,.vec 9 1 W,B3,B4]) fun r H'=>r=.tup [mdA k s (.vs (H.length+4) nf),.int .i64 d]∧H'=(H++[B1,.vec 9 1 W,B3,B4])++[.vec 90 3 FC])
  (h23:∀ H,VDet Tryz.prog 23 [.agg [.int .u8 go,.str gn,.sk gan gam gac,.sk gsn gsm gsc]] H (.bool rb))
  (h10:∀ H,VDet Tryz.prog 10 [.sx 2 [.int .u8 go,.str gn,.sk gan gam gac,.sk gsn gsm gsc,.int .u8 go,.str gn,.sk gan gam gac,.sk gsn gsm gsc]] H (.sl none na nc))
  (h24:∀ H,VDet Tryz.prog 24 [.agg [.int .u8 go,.str gn,.sk gan gam gac,.sk gsn gsm gsc],.agg [.int .u8 fo,.str fn,.sl none fan fac,.sl none fsn fsc]] H (.bool true))
  (h25:∀ H i,H[i]? = some (.vec 9 1 W)→VDet Tryz.prog 25 [.vk i n (n+12),.sl none n lc] H (.bool true))
  (h26:∀ H i,H[i]? = some (.vec 9 1 W)→VCall Tryz.prog 26 [.vk i n (n+12)] H (setR H i (.vec 9 1 W2) (.tup [])))
  (h27:∀ H,VDet Tryz.prog 27 [.agg [.int .u8 fo,.str fn,.sl none fan fac,.sl none fsn fsc],.sl none n lc,.int .i64 v] H (.tup [.bool x,.int .i64 a]))
  (h28:∀ H,VDet Tryz.prog 28 [.agg [.int .u8 fo,.str fn,.sl none fan fac,.sl none fsn fsc],.sl none n lc] H (.tup [.sl none m T,.int .i64 b]))
  (h29:∀ H,VDet Tryz.prog 29 [.agg [.int .u8 fo,.str fn,.sl none fan fac,.sl none fsn fsc]] H (.tup [.int .i64 c1,.int .i64 c2,.int .i64 c3]))
  (h30:∀ H,VDet Tryz.prog 30 [.sl none n lc,.int .i64 v] H (.tup [mdA k s (.sl none nf FC),.int .i64 d]))
  (h31:∀ H,VDet Tryz.prog 31 [.agg [.int .u8 fo,.str fn,.sl none fan fac,.sl none fsn fsc]] H (.bool rb))
  (h32:∀ H i s,H[i]? = some (Bt s)→VDet Tryz.prog 32 [rt i,.sl none m T] H (.bool true))
  (h33:∀ H i,H[i]? = some (.vec 90 3 FC)→VDet Tryz.prog 33 [mdA k s (.vs i nf),mdA k s (.sl none nf FC)] H (.bool true))
  (h14:∀ H,VDet Tryz.prog 14 [.sx 2 [.int .u8 fo,.str fn,.sl none fan fac,.sl none fsn fsc,.int .u8 fo,.str fn,.sl none fan fac,.sl none fsn fsc]] H (.sl none na nc))
  (h13:∀ H,VDet Tryz.prog 13 [.sl none na nc,.sl none na nc] H (.bool true))
  (h6:∀ H,VDet Tryz.prog 6 [] H (.bool true)) :
  VDet Tryz.prog 4 [.agg [.int .u8 fo,.str fn,.sl none fan fac,.sl none fsn fsc],.sl none n lc,.int .i64 v] H (.bool true):=by
 refine fdD Tryz.func4 ⟨rfl,rfl,rfl⟩ fun hcl hbl=>?_
 (repeat' ((conv=>whnf);(first|(refine IfN.id ?_;first|refine IfN.ff (bne_self_eq_false _) ?_|refine IfN.not ?_|refine IfN.tt rfl ?_|refine zaj (by omega) ?_|fail)|refine SideN.mk (by kernel_rfl) ?_|(refine CallN.id ?_;first|refine CallN.det _ (h5 _) ?_|refine CallN.det _ (h17 _) ?_|refine CallN.det _ (h19 _ _ (zdf rfl)) ?_|refine CallN.det _ (h21 _) ?_|refine CallN.det _ (h24 _) ?_|refine CallN.det _ (h25 _ _ (zdf rfl)) ?_|refine CallN.det _ (h27 _) ?_|refine CallN.det _ (h28 _) ?_|refine CallN.det _ (h29 _) ?_|refine CallN.det _ (h30 _) ?_|refine CallN.det _ (h31 _) ?_|refine CallN.det _ (h32 _ _ _ (zdf rfl)) ?_|refine CallN.det _ (h33 _ _ (zdf rfl)) ?_|refine CallN.det _ (h14 _) ?_|refine CallN.det _ (h13 _) ?_|refine CallN.det _ (h6 _) ?_|fail)|(refine CallD.id ?_;first|refine CallD.det _ (fun _ hq X=>h23 _) ?_|refine CallD.det _ (fun _ hq X=>h10 _) ?_|fail)|refine zf5 _ _ _ 2 (h18 _) rfl rfl rfl ?_|refine CallN.more _ _ (h20 _ _) rfl _ (fun _=>rfl) 4 (fun _=>rfl) fun s9=>?_|refine zf5 _ _ _ 5 (h22 _ _ _) rfl rfl rfl ?_|refine CallN.setL 1 _ _ _ rfl rfl (h26 _ (H.length+1) (zdf rfl)) rfl ?_|refine zap [] ?_|fail)));conv=>whnf
 exact eT trivial
end
section
def lnW (l:List ByteArray):List AV:=(l++mksB 12).flatMap encSG
theorem lnW_len (l:List ByteArray):(lnW l).length=(l.length+12) * 1:=by
 unfold lnW
 rw [zb5 (f:=encSG) (sz:=1) (fun _=>rfl),List.length_append,mksB_len]
theorem wk_lnW (l:List ByteArray):Wk (.sk l.length (l.length+12) (lnW l)) (.sl none l.length (l.flatMap encSG)):=by
 unfold lnW
 rw [List.flatMap_append]
 exact wk_sk _ _ _ _
theorem zex {H:Heap} {i:Nat} (l:List ByteArray) (h:H[i]? = some (.vec 9 1 (lnW l))):Lend H (.vk i l.length (l.length+12)) (.sk l.length (l.length+12) (lnW l)):=.vk h (lnW_len l) (LendL.refl _)
theorem tab_ex (f:Fo) (hg:f.good) (hn:szzF f≤100000) (l:List ByteArray) (hlen:l.length≤1000) (hsz:∀ c∈l,c.size≤maxLen):∃ (b:Int) (m:Nat) (T:List AV) (rt:Nat→AV) (Bt:Nat→Blk),
  (∀ (H:Heap) (i:Nat),H[i]? = some (.vec 9 1 (lnW l))→VCall Tryz.prog 20 [.agg (lnF f),.vk i l.length (l.length+12)] H fun r H'=>∃ s,r=.tup [rt H.length,.int .i64 b]∧H'=H++[Bt s]) ∧
  (∀ H,VDet Tryz.prog 28 [.agg f.cells,.sl none l.length (l.flatMap encSG)] H (.tup [.sl none m T,.int .i64 b])) ∧
  (∀ (H:Heap) (i s:Nat),H[i]? = some (Bt s)→VDet Tryz.prog 32 [rt i,.sl none m T] H (.bool true)):=by
 have hr:=refTable_c f hg hn l hlen hsz
 have hn2:(addGs [] [f]).length≤100000:=Nat.le_trans (zct _) (by unfold szzFs szzFs;omega)
 by_cases he:errN f l 0=0
 ·have h12:=(zfm he).1
  have h2l:=zco l.length h12
  refine ⟨0,2 ^ l.length,tabL f l (2 ^ l.length),fun N=>.ms N 0 (2 ^ l.length),fun s=>.box 4 (tabL f l (2 ^ l.length)++List.replicate s .junk),fun H i hi=>?_,fun H=>?_,fun H i s hi=>?_⟩
  ·refine VCall.lend (v:=fun _=>.tup [.ms H.length 0 (2 ^ l.length),.int .i64 0]) (X:=fun s=>[.box 4 (tabL f l (2 ^ l.length)++List.replicate s .junk)]) (fun H' hl=>?_) (.cons (.refl _) (.cons (zex l hi) .nil)) (fun s=>⟨Nat.le_refl _,trivial,trivial⟩) (fun s=>⟨zg2 (tabL_free _ _ _ _) (junk_free _ _),trivial⟩)
   rw [← hl]
   exact VCall.wkA (tableK_c f hg hn2 l (by omega) hsz he H') ⟨zdh (zgx f),wk_lnW l,trivial⟩
  ·have:=hr H
   unfold tblA at this
   rw [if_pos he] at this
   exact this
  ·exact zem (.cons (.ms hi rfl (LendL.refl _)) (.cons (.refl _) .nil)) (fun H=>sameB_c f l _ h2l.1 H) ⟨wk_pre _ _ _,Wk.refl _,trivial⟩ rfl
 ·refine ⟨errN f l 0,0,[],fun N=>.vs N 0,fun _=>.vec 4 1 [],fun H i hi=>?_,fun H=>?_,fun H i s hi=>?_⟩
  ·have h1:VDet Tryz.prog 20 [.agg (lnF f),.vk i l.length (l.length+12)] H (.tup [.nils,.int .i64 (errN f l 0)]):=zem (.cons (.refl _) (.cons (zex l hi) .nil)) (fun H=>tableE_c f hg hn2 l (by omega) hsz he H) ⟨zdh (zgx f),wk_lnW l,trivial⟩ rfl
   exact VCall.mono (VDet.nilVec h1 4 1 (.tup (.cons .nil (.cons (.refl _) .nil)))) fun r H' h=>⟨0,h⟩
  ·have:=hr H
   rw [tblA_of f l _ rfl he] at this
   exact this
  ·exact zfs (fun H=>sameB_c f l 0 (by omega) H) (.cons (.vs hi rfl .nil) (.cons (.refl _) .nil)) rfl
theorem lend_md {H:Heap} {i nf:Nat} {FC:List AV} (k s:Int) (h:H[i]? = some (.vec 90 3 FC)) (hl:FC.length=nf * 3):Lend H (mdA k s (.vs i nf)) (mdA k s (.sl none nf FC)) :=
 .agg (.cons (.refl _) (.cons (.refl _) (.cons (.refl _) (.cons (.refl _) (.cons (.vs h hl (LendL.refl _)) (.cons (.refl _) (.cons (.refl _) .nil)))))))
theorem mdl_ex (l:List ByteArray) (hlen:l.length≤1000) (hsz:∀ c∈l,c.size≤maxLen) (v:Int):∃ (d k s:Int) (nf:Nat) (FC:List AV),
  (∀ (H:Heap) (i:Nat),H[i]? = some (.vec 9 1 (lnW l))→VCall Tryz.prog 22 [.vk i l.length (l.length+12),.int .i64 v] H fun r H'=>r=.tup [mdA k s (.vs H.length nf),.int .i64 d]∧H'=H++[.vec 90 3 FC]) ∧
  (∀ H,VDet Tryz.prog 30 [.sl none l.length (l.flatMap encSG),.int .i64 v] H (.tup [mdA k s (.sl none nf FC),.int .i64 d])) ∧
  (∀ (H:Heap) (i:Nat),H[i]? = some (.vec 90 3 FC)→VDet Tryz.prog 33 [mdA k s (.vs i nf),mdA k s (.sl none nf FC)] H (.bool true)):=by
 have hr:=refModel_c l (by omega) hsz v
 unfold refM at hr
 by_cases he:chkN l v=0
 ·rw [if_pos he] at hr
  obtain ⟨n,rfl⟩:∃ n:Nat,v=n:=⟨v.toNat,by
   unfold chkN at he
   split at he
   ·cases he
   ·split at he
    ·cases he
    ·split at he
     ·cases he
     ·omega⟩
  rw [Int.toNat_natCast] at hr
  refine ⟨0,1,1,l.length,fcs l n l.length,fun H i hi=>?_,hr,fun H i hi=>?_⟩
  ·rcases Nat.eq_zero_or_pos l.length with h0|h0
   ·have hnil:=List.length_eq_zero_iff.1 h0
    subst hnil
    have h1:VDet Tryz.prog 22 [.vk i 0 12,.int .i64 (n:Nat)] H (.tup [mdA 1 1 .nils,.int .i64 0]):=zem (.cons (zex [] hi) (.cons (.refl _) .nil)) (fun H=>model0_c n he H) ⟨wk_lnW [],Wk.refl _,trivial⟩ rfl
    exact VDet.nilVec h1 90 3 (.tup (.cons (.agg (.cons (.refl _) (.cons (.refl _) (.cons (.refl _) (.cons (.refl _) (.cons .nil (.cons (.refl _) (.cons (.refl _) .nil)))))))) (.cons (.refl _) .nil)))
   ·refine VCall.mono (VCall.lend (ι:=Unit) (v:=fun _=>.tup [mdA 1 1 (.vs H.length l.length),.int .i64 0]) (X:=fun _=>[.vec 90 3 (fcs l n l.length)]) (fun H' hl=>?_) (.cons (zex l hi) (.cons (.refl _) .nil)) (fun s=>⟨⟨trivial,trivial,trivial,trivial,Nat.le_refl _,trivial,trivial,trivial⟩,trivial,trivial⟩) (fun s=>⟨fcs_free _ _ _ _,trivial⟩)) fun r H' ⟨_,h⟩=>h
    rw [← hl]
    exact VCall.mono (VCall.wkA (modelK_c l (by omega) hsz n he h0 H') ⟨wk_lnW l,Wk.refl _,trivial⟩) fun r H2 h=>⟨(),h⟩
  ·exact zfs (fun H=>sameMdl_c 1 1 l n l.length (by omega) H) (.cons (lend_md 1 1 hi (fcs_len l n _)) (.cons (.refl _) .nil)) rfl
 ·rw [if_neg he] at hr
  refine ⟨chkN l v,0,0,0,[],fun H i hi=>?_,hr,fun H i hi=>?_⟩
  ·have h1:VDet Tryz.prog 22 [.vk i l.length (l.length+12),.int .i64 v] H (.tup [mdA 0 0 .nils,.int .i64 (chkN l v)]):=zem (.cons (zex l hi) (.cons (.refl _) .nil)) (fun H=>modelE_c l (by omega) hsz v he H) ⟨wk_lnW l,Wk.refl _,trivial⟩ rfl
   exact VDet.nilVec h1 90 3 (.tup (.cons (.agg (.cons (.refl _) (.cons (.refl _) (.cons (.refl _) (.cons (.refl _) (.cons .nil (.cons (.refl _) (.cons (.refl _) .nil)))))))) (.cons (.refl _) .nil)))
  ·exact zfs (fun H=>sameMdl_c 0 0 [] 0 0 (by omega) H) (.cons (lend_md 0 0 hi rfl) (.cons (.refl _) .nil)) rfl
theorem cnt_ex (f:Fo):∃ c1 c2 c3:Int,cntA f=.tup [.int .i64 c1,.int .i64 c2,.int .i64 c3]:=by
 unfold cntA
 split
 ·exact ⟨_,_,_,rfl⟩
 ·split <;> exact ⟨_,_,_,rfl⟩
attribute [local irreducible] VW VCall VO bits
theorem tells_no (fo:Int) (fn:ByteArray) (fan:Nat) (fac:List AV) (fsn:Nat) (fsc:List AV) (n:Nat) (lc:List AV) (v:Int) (b:Bool) (hn:b=false∨20<n)
  (h5:∀ H,VDet Tryz.prog 5 [.sx 1 [.int .u8 fo,.str fn,.sl none fan fac,.sl none fsn fsc]] H (.bool b)) (h6:∀ H,VDet Tryz.prog 6 [] H (.bool true)) (H:Heap) :
  VDet Tryz.prog 4 [.agg [.int .u8 fo,.str fn,.sl none fan fac,.sl none fsn fsc],.sl none n lc,.int .i64 v] H (.bool true):=by
 cases b with
 | false =>
   refine fdD Tryz.func4 ⟨rfl,rfl,rfl⟩ fun hcl hbl=>?_
   (repeat' ((conv=>whnf);(first|(refine IfN.id ?_;first|refine IfN.not ?_|refine IfN.ff rfl ?_|fail)|(refine CallN.id ?_;first|refine CallN.det _ (h5 _) ?_|refine CallN.det _ (h6 _) ?_|fail)|fail)));conv=>whnf
   exact eT trivial
 | true =>
   have h20:20<n:=hn.resolve_left Bool.noConfusion
   refine fdD Tryz.func4 ⟨rfl,rfl,rfl⟩ fun hcl hbl=>?_
   (repeat' ((conv=>whnf);(first|(refine IfN.id ?_;first|refine IfN.not ?_|refine IfN.tt rfl ?_|refine IfN.dT (by omega) ?_|fail)|(refine CallN.id ?_;first|refine CallN.det _ (h5 _) ?_|refine CallN.det _ (h6 _) ?_|fail)|fail)));conv=>whnf
   exact eT trivial
theorem tells_c (f:Fo) (hg:f.good) (l:List ByteArray) (hsz:∀ c∈l,c.size≤maxLen) (v:Int) (H:Heap):VDet Tryz.prog 4 [.agg f.cells,.sl none l.length (l.flatMap encSG),.int .i64 v] H (.bool true):=by
 have h6:=awake_c
 have h5:=few5_c [f] (by simp) ⟨hg,trivial⟩
 rw [show [f].flatMap Fo.cells=f.cells by simp] at h5
 by_cases hbig:fewF [f]=false∨20<l.length
 ·obtain ⟨o,s,ar,sb,hw,-⟩:=lnFo_ex f
  rw [hw] at h5 ⊢
  exact tells_no _ _ _ _ _ _ _ _ v (fewF [f]) hbig (fun H=>zbg (h5 H) ⟨wk_sx _ _,trivial⟩) h6 H
 ·have h20:l.length≤20:=by omega
  have hfw:fewF [f]=true:=by
   cases h:fewF [f] with
   | true=>rfl
   | false=>exact absurd (.inl h) hbig
  rw [hfw] at h5
  have hz:szzFs [f]≤600:=by
   rw [zbf]
   exact of_decide_eq_true hfw
  have hzf:szzF f≤600:=Nat.le_trans (szzF_mem (List.mem_singleton.2 rfl)) hz
  have hz2:szzFs [f,f]≤1200:=by simp only [szzFs];omega
  have hs:=smF_of f hg (by omega)
  have hn2:(addGs [] [f]).length≤100000:=Nat.le_trans (zct _) (by omega)
  have hnf:(addGs [] [f,f]).length≤100000:=Nat.le_trans (zct _) (by omega)
  obtain ⟨b,m,T,rt,Bt,t1,t2,t3⟩:=tab_ex f hg (by omega) l (by omega) hsz
  obtain ⟨d,k,s',nf,FC,m1,m2,m3⟩:=mdl_ex l (by omega) hsz v
  obtain ⟨c1,c2,c3,hc⟩:=cnt_ex f
  have h17:=lentF_g f hs
  have h18:=lentTexts_c l (by omega)
  have h19:∀ (H:Heap) (i:Nat),H[i]? = some (.vec 9 1 (lnW l))→VDet Tryz.prog 19 [.agg (lnF f),.vk i l.length (l.length+12),.int .i64 v] H (evalA f l v):=fun H i hi=>zem (.cons (.refl _) (.cons (zex l hi) (.cons (.refl _) .nil))) (fun H=>eval_g f hg hn2 l (by omega) hsz v H) ⟨zdh (zgx f),wk_lnW l,Wk.refl _,trivial⟩ rfl
  have h21:∀ H,VDet Tryz.prog 21 [.agg (lnF f)] H (cntA f):=fun H=>zbg (count_g f hg hn2 H) ⟨zdh (zgx f),trivial⟩
  have h23:∀ H,VDet Tryz.prog 23 [.agg (lnF f)] H (.bool (zbe f)):=fun H=>zbg (right_g' f hg H) ⟨zdh (zgx f),trivial⟩
  have h10:∀ H,VDet Tryz.prog 10 [.sx 2 (lnF f++lnF f)] H (.sl none (zao [f,f]).length ((zao [f,f]).flatMap encSG)):=fun H=>zbg (atoms_g [f,f] ⟨hg,hg,trivial⟩ (by simp) hnf H) ⟨Wk.trans (wk_sx _ _) (wk_slL (by simpa using (zgx f).app (zgx f))),trivial⟩
  have h24:=keptF_g f hs
  have h25:∀ (H:Heap) (i:Nat),H[i]? = some (.vec 9 1 (lnW l))→VDet Tryz.prog 25 [.vk i l.length (l.length+12),.sl none l.length (l.flatMap encSG)] H (.bool true):=fun H i hi=>zfs (fun H=>keptTexts_c l (by omega) H) (.cons (zex l hi) (.cons (.refl _) .nil)) rfl
  have h26:∀ (H:Heap) (i:Nat),H[i]? = some (.vec 9 1 (lnW l))→VCall Tryz.prog 26 [.vk i l.length (l.length+12)] H (setR H i (.vec 9 1 (ovr (lnW l) (l.length+12))) (.tup [])):=fun H i hi=>overTexts_c l.length i (lnW l) (by omega) (by rw [lnW_len];omega) (fun k=>zag k _) H hi
  have h27:=refEval_c f hg (by omega) l (by omega) hsz v
  have h29:=refCount_c f hg (by omega)
  have h31:=ref10_c f hg (by omega)
  have h14:∀ H,VDet Tryz.prog 14 [.sx 2 (f.cells++f.cells)] H (.sl none (zao [f,f]).length ((zao [f,f]).flatMap encSG)):=fun H=>zbg (refAtoms_c [f,f] ⟨hg,hg,trivial⟩ (by simp) (by omega) H) ⟨Wk.trans (wk_sx _ _) (zab (by simp)),trivial⟩
  have h13:=sameTexts_c (zao [f,f]) (by rw [zdn];omega)
  unfold LnFP at h17
  unfold KpFP at h24
  unfold evalA at h19 h27
  rw [hc] at h21 h29
  obtain ⟨o,s,ar,sb,hw,hw2⟩:=lnFo_ex f
  rw [hw] at h5 h17 t2 h24 h27 h29 h31 h14 ⊢
  rw [hw2] at h17 h19 t1 h21 h23 h10 h24
  have e18:∀ B1,VCall Tryz.prog 18 [.sl none l.length (l.flatMap encSG)] (H++[B1]) fun r H'=>r=.vk (H.length+1) l.length (l.length+12)∧H'=(H++[B1])++[.vec 9 1 (lnW l)]:=fun B1=>by simpa [lnW] using h18 (H++[B1])
  have e20:∀ B1 B3,VCall Tryz.prog 20 _ (H++[B1,.vec 9 1 (lnW l),B3]) fun r H'=>∃ s,r=.tup [rt (H.length+3),.int .i64 b]∧H'=(H++[B1,.vec 9 1 (lnW l),B3])++[Bt s]:=fun B1 B3=>by
   have:=t1 (H++[B1,.vec 9 1 (lnW l),B3]) (H.length+1) (by simp)
   rwa [show (H++[B1,.vec 9 1 (lnW l),B3]).length=H.length+3 by simp] at this
  have e22:∀ B1 B3 B4,VCall Tryz.prog 22 [.vk (H.length+1) l.length (l.length+12),.int .i64 v] (H++[B1,.vec 9 1 (lnW l),B3,B4]) fun r H'=>r=.tup [mdA k s' (.vs (H.length+4) nf),.int .i64 d]∧H'=(H++[B1,.vec 9 1 (lnW l),B3,B4])++[.vec 90 3 FC]:=fun B1 B3 B4=>by
   have:=m1 (H++[B1,.vec 9 1 (lnW l),B3,B4]) (H.length+1) (by simp)
   rwa [show (H++[B1,.vec 9 1 (lnW l),B3,B4]).length=H.length+4 by simp] at this
  exact tells_walk H _ _ _ _ _ _ _ _ _ _ _ _ _ _ l.length (l.flatMap encSG) (lnW l) _ v _ _ b c1 c2 c3 d k s' _ nf FC m T rt Bt _ _ h20 (fun H=>zbg (h5 H) ⟨wk_sx _ _,trivial⟩) h17 e18 h19 e20 h21 e22 h23 h10 h24 h25 h26 h27 t2 h29 m2 h31 t3 m3 h14 h13 h6
end
end Go.Proofs.YtekhodpmpjehaaaGreatDoor
namespace Go.Proofs.YtekhodpmpjehaaaGreatDoor
section
open Go.ChangeShapes Go.WideShapes Go.ChangeAt Go.RowKit Go.Vsi
theorem mrel_of {g:G} {W:World} {b:Nat} (hg:∀ b o,¬ g.own b o):∀ (l:List AV) (cs:List Value) (o:Nat),LRel g W l cs→(∀ (i:Nat) c,cs[i]? = some c→W.cell? ⟨b,o+i,.none⟩=some c)→MRel g W l b o
 | [],_,_,_,_=>trivial
 | v::l,cs,o,h,hc=>by
   simp only [LRel] at h
   obtain ⟨c,r,rfl,h1,h2⟩:=h
   refine ⟨⟨c,by simpa using hc 0 c rfl,h1,hg _ _⟩,?_⟩
   exact mrel_of hg l r (o+1) h2 fun i c' hi=>by
    have:=hc (i+1) c' (by simpa using hi)
    rwa [show o+(i+1)=o+1+i by omega] at this
theorem mone {W:World} {n:String} {gi:Nat} {ty:TypeId} {T:Ty} {D:DataW Unit} {cells:List AV} {g0:Nat} {t0:TypeId} {cs0:Array Value} {f0:Nat} {p0:List MemPlace}
  (hg:Tryz.prog.globalNamed n=some gi) (ht:(Tryz.prog.globals[gi]?).map (·.type)=some ty) (hty:TyOk Tryz.prog ty T) (hpl:PlTy T) (hD:∃ l',DatOf (H:=Unit) D l'∧l'=cells)
  (hg0:Tryz.prog.globalNamed n=some g0) (ht0:(Tryz.prog.globals[g0]?).map (·.type)=some t0) (hv0:W.var? Tryz.prog n=some cs0) (hd0:DataW.trod (fun _=>()) Tryz.prog W 0 (fun _=>true) false f0 t0 cs0.toList=some (D,p0)):MRel G.none W cells gi 0:=by
 obtain rfl:=Option.some.inj (hg.symm.trans hg0)
 obtain rfl:=Option.some.inj (ht.symm.trans ht0)
 obtain ⟨l,h1,h2⟩:=trod_dat (g:=G.none) _ hpl hty hd0
 obtain ⟨l',hl1,hl2⟩:=hD
 have hll:l=cells:=(DatOf.det h1 hl1).trans hl2
 rw [← hll]
 refine mrel_of (fun _ _ h=>h) l cs0.toList 0 h2 fun i c hi=>?_
 have:=World.var?_cell hg0 hv0 i
 rw [Nat.zero_add,this]
 simpa using hi
theorem gl_of_laid {W:World} (h:laidMetH Tryz.prog [("math/bits.deBruijn64tab",Rows.laid_math_bits_deBruijn64tab),("lyceum/syntax.rows",Rows.laid_lyceum_syntax_rows),("lyceum/truth.patterns",Rows.laid_lyceum_truth_patterns)] W):∀ p∈Glob.gl,MRel G.none W p.2 p.1 0:=by
 rw [MakeChecks.laidMetH_plain _ _ _ (by kernel_rfl)] at h
 obtain ⟨ps,⟨g0,t0,cs0,f0,p0,q0,hg0,ht0,hv0,hd0,⟨g1,t1,cs1,f1,p1,q1,hg1,ht1,hv1,hd1,⟨g2,t2,cs2,f2,p2,q2,hg2,ht2,hv2,hd2,_⟩,_⟩,_⟩,_⟩:=h
 have m0:MRel G.none W (Tryz.gl[1]).2 1 0:=mone (T:=repTy 64 (.int .u8)) (ty:=111) (by kernel_rfl) (by kernel_rfl) (zeq zdy 12 111 _ (by kernel_rfl)) (by simp [repTy,PlTy]) ⟨_,by unfold Rows.laid_math_bits_deBruijn64tab;repeat constructor,by kernel_rfl⟩ hg0 ht0 hv0 hd0
 have m1:MRel G.none W (Tryz.gl[2]).2 2 0:=mone (T:=repTy 17 (.pair .bool (.pair .bool (.pair (.int .u8) (.pair (.int .i64) (.pair (.int .i64) .unit)))))) (ty:=141) (by kernel_rfl) (by kernel_rfl) (zeq zdy 12 141 _ (by kernel_rfl)) (by simp [repTy,PlTy]) ⟨_,by unfold Rows.laid_lyceum_syntax_rows;repeat constructor,by kernel_rfl⟩ hg1 ht1 hv1 hd1
 have m2:MRel G.none W (Tryz.gl[0]).2 0 0:=mone (T:=repTy 6 (.int .u64)) (ty:=108) (by kernel_rfl) (by kernel_rfl) (zeq zdy 12 108 _ (by kernel_rfl)) (by simp [repTy,PlTy]) ⟨_,by unfold Rows.laid_lyceum_truth_patterns;repeat constructor,by kernel_rfl⟩ hg2 ht2 hv2 hd2
 intro p hp
 have hp0:p=Tryz.gl[0]∨p=Tryz.gl[1]∨p=Tryz.gl[2]:=by
  have:p∈Tryz.gl:=hp
  simpa [Tryz.gl] using this
 rcases hp0 with rfl|rfl|rfl
 ·exact m2
 ·exact m0
 ·exact m1
end
end Go.Proofs.YtekhodpmpjehaaaGreatDoor
