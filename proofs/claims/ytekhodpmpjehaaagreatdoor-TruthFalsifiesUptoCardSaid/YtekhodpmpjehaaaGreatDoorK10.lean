/- A text of the proof: the parts HB10y, IA10y, JA10y, KA10y, LA10y, MA10y, NA10y, OA10y, DZ10y. -/
import Derived.ProofKit
import Derived.LaidMore
import Derived.OpenShut
import Derived.Test.YtekhodpmpjehaaaGreatDoorK9
set_option linter.unusedSimpArgs false
set_option linter.unusedVariables false
set_option maxHeartbeats 8000000
namespace Go.Proofs.YtekhodpmpjehaaaGreatDoor
open Go.Vsi
section
attribute [local irreducible] VW VCall VO bits
theorem ixP_at (c:ByteArray):∀ (l:List ByteArray) (j:Nat),j<l.length→l.getD j eN=c→(∀ i,i<j→l.getD i eN≠c)→ixP l c=j
 | [],j,h,_,_=>absurd h (by simp)
 | d::l,0,_,h,_=>by
   have h:d=c:=h
   unfold ixP
   rw [List.findIdx_cons,h,decide_eq_true rfl]
   rfl
 | d::l,j+1,h,h1,h2=>by
   have hd:d≠c:=h2 0 (by omega)
   have ih:=ixP_at c l j (by simpa using h) h1 fun i hi=>h2 (i+1) (by omega)
   unfold ixP at ih ⊢
   rw [List.findIdx_cons,decide_eq_false (fun e=>hd e.symm),ih]
   rfl
def plI (l:List ByteArray) (c:ByteArray):Int:=if memG c l=true then (ixP l c:Nat) else -1
theorem place_c (l:List ByteArray) (c:ByteArray) (hlen:l.length≤1000) (H:Heap):VDet Tryz.prog 63 [.sl none l.length (l.flatMap encSG),.str c] H (.int .i64 (plI l c)):=by
 refine fdD Tryz.func63 ⟨rfl,rfl,rfl⟩ fun hcl hbl=>?_
 conv=>whnf
 refine zax Tryz.E0 zao (σ:=Nat) (fun j=>j≤l.length∧∀ i,i<j→l.getD i eN≠c) (fun j=>l.length-j) (fun j=>[(5,.v (.int .i64 j))]) (fun j=>[]) _ 0 rfl hcl [0,1] rfl ⟨Nat.zero_le _,fun i hi=>absurd hi (by omega)⟩ ⟨⟨_,rfl,Wk.refl _⟩,trivial⟩ rfl (fun _ _=>rfl) ?_
 intro j hj
 clear hbl
 (repeat' ((conv=>whnf);(first|(refine IfN.id ?_;first|refine za2 (fun _=>?_) (fun _=>?_)|(refine IfN.mk ?_ ?_ <;> intro _)|fail)|(refine zae _ _ Cst.h Cst.h ?_ ?_;· omega)|(refine SideN.mk ?_ ?_;· first|omega|exact List.cons_ne_nil _ _|fail)|refine zbn (f:=encSG) (l:=l) eN j rfl (by omega) (fun _=>rfl) ?_|fail)));all_goals (conv=>whnf)
 ·rename_i h1 h2
  rw [ze5,decide_eq_true_eq] at h2
  have hm:memG c l=true:=(zdi c l).2 (h2▸zan l j eN (by omega))
  refine EndN.det trivial (zab (congrArg (AV.int _) ?_))
  unfold plI
  rw [if_pos hm,ixP_at c l j (by omega) h2 hj.2]
 ·rename_i h1 h2
  rw [ze5,decide_eq_false_iff_not] at h2
  (refine ⟨⟨j+1,⟨by omega,fun i hi=>by
   rcases Nat.lt_or_ge i j with h|h
   ·exact hj.2 i h
   ·obtain rfl:i=j:=by omega
    exact h2⟩,by omega,?_,.inl ⟨rfl,rfl⟩,rfl,_,rfl,?_⟩⟩;rotate_left 1;exact .inl rfl;exact ⟨⟨_,rfl,Wk.refl _⟩,trivial⟩)
 ·have hm:¬ memG c l=true:=fun hm=>by
   obtain ⟨i,hi,e⟩:=List.getElem_of_mem ((zdi c l).1 hm)
   exact hj.2 i (by omega) (by simp [List.getD_eq_getElem?_getD,hi,e])
  refine EndN.det trivial (zab (congrArg (AV.int _) ?_))
  unfold plI
  rw [if_neg hm]
theorem tb_int (v k:Nat):(((v >>> k % 2:Nat):Int)==1)=v.testBit k:=by
 rw [Nat.testBit_eq_decide_div_mod_eq,Nat.shiftRight_eq_div_pow]
 apply Bool.eq_iff_iff.2
 rw [beq_iff_eq,decide_eq_true_eq]
 omega
def ValP (l:List ByteArray) (v:Nat) (p:Fp):Prop:=∀ H,VDet Tryz.prog 50 [.agg p.fo.cells,.sl none l.length (l.flatMap encSG),.int .i64 (v:Nat)] H (.bool (p.ev (vbG l v)))
theorem val_at (l:List ByteArray) (h12:l.length≤12) (v:Nat) (hv:v≤4096) (c:ByteArray) (hc:c∈l):ValP l v (.at c):=by
 intro H
 obtain ⟨h1,-⟩:=ixP_find c l hc
 have hp:=place_c l c (by omega)
 rw [show plI l c=(ixP l c:Nat) by unfold plI;rw [if_pos ((zdi c l).2 hc)]] at hp
 rw [show (Fp.at c).fo.cells=[.int .u8 (1:Nat),.str c,.sl none 0 [],.sl none 0 []] by simp [Fp.fo,zad]]
 rw [show (Fp.at c).ev (vbG l v)=v.testBit (l.length-1-ixP l c) from rfl]
 have hlb:=fun n=>zah n l
 generalize l.flatMap encSG=lc at *
 generalize ixP l c=x at *
 generalize l.length=n at *
 refine fdD Tryz.func50 ⟨rfl,rfl,rfl⟩ fun hcl hbl=>?_
 (repeat' ((conv=>whnf);(first|refine IfN.tt rfl ?_|(refine EqN.id ?_;first|(refine EqN.shrN _ _ Cst.h Cst.h rfl ?_ ?_;· (repeat' (first|omega|refine And.intro ?_ ?_|exact zay (by omega)|exact zbq (by omega)|refine zdf ?_ ?_|refine zbp ?_ ?_|refine zch ?_ ?_|refine zbg ?_ ?_|refine zci ?_|refine zcj ?_ ?_|refine zck ?_|refine zay ?_|fail)))|(refine zd2 _ _ Cst.h Cst.h ?_ ?_;· omega)|refine EqN.remN _ _ Cst.h Cst.h ?_|fail)|refine SideN.mk (by omega) ?_|refine CallN.det _ (hp _) ?_|fail)));conv=>whnf
 exact EndN.det trivial (zab (congrArg AV.bool (tb_int v (n-1-x))))
theorem val_fa (l:List ByteArray) (v:Nat):ValP l v .fa:=by
 intro H
 rw [show Fp.fa.fo.cells=[.int .u8 (2:Nat),.str .empty,.sl none 0 [],.sl none 0 []] by simp [Fp.fo,zad]]
 rw [show Fp.fa.ev (vbG l v)=false from rfl]
 have hlb:=fun n=>zah n l
 generalize l.flatMap encSG=lc at *
 refine fdD Tryz.func50 ⟨rfl,rfl,rfl⟩ fun hcl hbl=>?_
 (repeat' ((conv=>whnf);(first|refine IfN.ff rfl ?_|fail)));conv=>whnf
 exact eT trivial
theorem val_f1 (l:List ByteArray) (v:Nat) (a:Fp) (ih:ValP l v a):ValP l v (.f1 a):=by
 intro H
 unfold ValP at ih
 obtain ⟨ao,an,asn,asc,hac⟩:=zbh a
 rw [show (Fp.f1 a).fo.cells=[.int .u8 (3:Nat),.str .empty,.sl none 0 [],.sl none 1 a.fo.cells] by simp [Fp.fo,zad]]
 rw [show (Fp.f1 a).ev (vbG l v)=!a.ev (vbG l v) from rfl]
 rw [hac] at ih ⊢
 have hlb:=fun n=>zah n l
 generalize l.flatMap encSG=lc at *
 generalize a.ev (vbG l v)=x at *
 refine fdD Tryz.func50 ⟨rfl,rfl,rfl⟩ fun hcl hbl=>?_
 (repeat' ((conv=>whnf);(first|(refine IfN.id ?_;first|refine IfN.tt rfl ?_|refine IfN.ff rfl ?_|fail)|(refine SideN.mk ?_ ?_;· first|omega|exact List.cons_ne_nil _ _|fail)|refine CallN.det _ (ih _) ?_|refine SegN.mk _ (zb3 rfl) ?_|fail)));conv=>whnf
 exact eT trivial
theorem val_f2_4 (l:List ByteArray) (v:Nat) (a b:Fp) (iha:ValP l v a) (ihb:ValP l v b):ValP l v (.f2 4 a b):=by
 intro H
 unfold ValP at iha ihb
 obtain ⟨ao,an,asn,asc,hac⟩:=zbh a
 obtain ⟨bo,bn,bsn,bsc,hbc⟩:=zbh b
 rw [show (Fp.f2 4 a b).fo.cells=[.int .u8 (4:Nat),.str .empty,.sl none 0 [],.sl none 2 (a.fo.cells++b.fo.cells)] by simp [Fp.fo,zad]]
 rw [show (Fp.f2 4 a b).ev (vbG l v)=(a.ev (vbG l v)&&b.ev (vbG l v)) from rfl]
 rw [hac] at iha ⊢
 rw [hbc] at ihb ⊢
 have hlb:=fun n=>zah n l
 generalize l.flatMap encSG=lc at *
 generalize a.ev (vbG l v)=x at *
 generalize b.ev (vbG l v)=y at *
 simp only [List.cons_append,List.nil_append]
 cases x with
 | true =>
   refine fdD Tryz.func50 ⟨rfl,rfl,rfl⟩ fun hcl hbl=>?_
   (repeat' ((conv=>whnf);(first|(refine IfN.id ?_;first|refine IfN.tt rfl ?_|refine IfN.ff rfl ?_|fail)|(refine SideN.mk ?_ ?_;· first|omega|exact List.cons_ne_nil _ _|fail)|(refine CallN.id ?_;first|refine CallN.det _ (iha _) ?_|refine CallN.det _ (ihb _) ?_|fail)|refine SegN.mk _ (zb3 rfl) ?_|fail)));conv=>whnf
   exact eT trivial
 | false =>
   refine fdD Tryz.func50 ⟨rfl,rfl,rfl⟩ fun hcl hbl=>?_
   (repeat' ((conv=>whnf);(first|(refine IfN.id ?_;first|refine IfN.tt rfl ?_|refine IfN.ff rfl ?_|fail)|(refine SideN.mk ?_ ?_;· first|omega|exact List.cons_ne_nil _ _|fail)|refine CallN.det _ (iha _) ?_|refine SegN.mk _ (zb3 rfl) ?_|fail)));conv=>whnf
   exact eT trivial
theorem val_f2_5 (l:List ByteArray) (v:Nat) (a b:Fp) (iha:ValP l v a) (ihb:ValP l v b):ValP l v (.f2 5 a b):=by
 intro H
 unfold ValP at iha ihb
 obtain ⟨ao,an,asn,asc,hac⟩:=zbh a
 obtain ⟨bo,bn,bsn,bsc,hbc⟩:=zbh b
 rw [show (Fp.f2 5 a b).fo.cells=[.int .u8 (5:Nat),.str .empty,.sl none 0 [],.sl none 2 (a.fo.cells++b.fo.cells)] by simp [Fp.fo,zad]]
 rw [show (Fp.f2 5 a b).ev (vbG l v)=(a.ev (vbG l v) || b.ev (vbG l v)) from rfl]
 rw [hac] at iha ⊢
 rw [hbc] at ihb ⊢
 have hlb:=fun n=>zah n l
 generalize l.flatMap encSG=lc at *
 generalize a.ev (vbG l v)=x at *
 generalize b.ev (vbG l v)=y at *
 simp only [List.cons_append,List.nil_append]
 cases x with
 | true =>
   refine fdD Tryz.func50 ⟨rfl,rfl,rfl⟩ fun hcl hbl=>?_
   (repeat' ((conv=>whnf);(first|(refine IfN.id ?_;first|refine IfN.tt rfl ?_|refine IfN.ff rfl ?_|fail)|(refine SideN.mk ?_ ?_;· first|omega|exact List.cons_ne_nil _ _|fail)|refine CallN.det _ (iha _) ?_|refine SegN.mk _ (zb3 rfl) ?_|fail)));conv=>whnf
   exact eT trivial
 | false =>
   refine fdD Tryz.func50 ⟨rfl,rfl,rfl⟩ fun hcl hbl=>?_
   (repeat' ((conv=>whnf);(first|(refine IfN.id ?_;first|refine IfN.tt rfl ?_|refine IfN.ff rfl ?_|fail)|(refine SideN.mk ?_ ?_;· first|omega|exact List.cons_ne_nil _ _|fail)|(refine CallN.id ?_;first|refine CallN.det _ (iha _) ?_|refine CallN.det _ (ihb _) ?_|fail)|refine SegN.mk _ (zb3 rfl) ?_|fail)));conv=>whnf
   exact eT trivial
theorem val_f2_6 (l:List ByteArray) (v:Nat) (a b:Fp) (iha:ValP l v a) (ihb:ValP l v b):ValP l v (.f2 6 a b):=by
 intro H
 unfold ValP at iha ihb
 obtain ⟨ao,an,asn,asc,hac⟩:=zbh a
 obtain ⟨bo,bn,bsn,bsc,hbc⟩:=zbh b
 rw [show (Fp.f2 6 a b).fo.cells=[.int .u8 (6:Nat),.str .empty,.sl none 0 [],.sl none 2 (a.fo.cells++b.fo.cells)] by simp [Fp.fo,zad]]
 rw [show (Fp.f2 6 a b).ev (vbG l v)=(!a.ev (vbG l v) || b.ev (vbG l v)) from rfl]
 rw [hac] at iha ⊢
 rw [hbc] at ihb ⊢
 have hlb:=fun n=>zah n l
 generalize l.flatMap encSG=lc at *
 generalize a.ev (vbG l v)=x at *
 generalize b.ev (vbG l v)=y at *
 simp only [List.cons_append,List.nil_append]
 cases x with
 | true =>
   refine fdD Tryz.func50 ⟨rfl,rfl,rfl⟩ fun hcl hbl=>?_
   (repeat' ((conv=>whnf);(first|(refine IfN.id ?_;first|refine IfN.not ?_|refine IfN.tt rfl ?_|refine IfN.ff rfl ?_|fail)|(refine SideN.mk ?_ ?_;· first|omega|exact List.cons_ne_nil _ _|fail)|(refine CallN.id ?_;first|refine CallN.det _ (iha _) ?_|refine CallN.det _ (ihb _) ?_|fail)|refine SegN.mk _ (zb3 rfl) ?_|fail)));conv=>whnf
   exact eT trivial
 | false =>
   refine fdD Tryz.func50 ⟨rfl,rfl,rfl⟩ fun hcl hbl=>?_
   (repeat' ((conv=>whnf);(first|(refine IfN.id ?_;first|refine IfN.not ?_|refine IfN.tt rfl ?_|refine IfN.ff rfl ?_|fail)|(refine SideN.mk ?_ ?_;· first|omega|exact List.cons_ne_nil _ _|fail)|refine CallN.det _ (iha _) ?_|refine SegN.mk _ (zb3 rfl) ?_|fail)));conv=>whnf
   exact eT trivial
theorem val_f2_7 (l:List ByteArray) (v:Nat) (a b:Fp) (iha:ValP l v a) (ihb:ValP l v b):ValP l v (.f2 7 a b):=by
 intro H
 unfold ValP at iha ihb
 obtain ⟨ao,an,asn,asc,hac⟩:=zbh a
 obtain ⟨bo,bn,bsn,bsc,hbc⟩:=zbh b
 rw [show (Fp.f2 7 a b).fo.cells=[.int .u8 (7:Nat),.str .empty,.sl none 0 [],.sl none 2 (a.fo.cells++b.fo.cells)] by simp [Fp.fo,zad]]
 rw [show (Fp.f2 7 a b).ev (vbG l v)=(a.ev (vbG l v)==b.ev (vbG l v)) from rfl]
 rw [hac] at iha ⊢
 rw [hbc] at ihb ⊢
 have hlb:=fun n=>zah n l
 generalize l.flatMap encSG=lc at *
 generalize a.ev (vbG l v)=x at *
 generalize b.ev (vbG l v)=y at *
 simp only [List.cons_append,List.nil_append]
 refine fdD Tryz.func50 ⟨rfl,rfl,rfl⟩ fun hcl hbl=>?_
 (repeat' ((conv=>whnf);(first|(refine IfN.id ?_;first|refine IfN.tt rfl ?_|refine IfN.ff rfl ?_|fail)|(refine SideN.mk ?_ ?_;· first|kernel_rfl|omega|exact List.cons_ne_nil _ _|fail)|(refine CallD.id ?_;first|refine CallD.det _ (fun _ hq X=>iha _) ?_|refine CallD.det _ (fun _ hq X=>ihb _) ?_|fail)|refine SegN.mk _ (zb3 rfl) ?_|refine zap [] ?_|fail)));conv=>whnf
 exact eT trivial
theorem val_c (l:List ByteArray) (h12:l.length≤12) (v:Nat) (hv:v≤4096):∀ f:Fp,f.Ok→f.In l→ValP l v f
 | .at c,_,h=>val_at l h12 v hv c h
 | .fa,_,_=>val_fa l v
 | .f1 a,ho,h=>val_f1 l v a (val_c l h12 v hv a ho h)
 | .f2 k a b,ho,h=>by
   have iha:=val_c l h12 v hv a ho.2.1 h.1
   have ihb:=val_c l h12 v hv b ho.2.2 h.2
   have hk:=ho.1
   rcases (show k=4∨k=5∨k=6∨k=7 by omega) with rfl|rfl|rfl|rfl
   ·exact val_f2_4 l v a b iha ihb
   ·exact val_f2_5 l v a b iha ihb
   ·exact val_f2_6 l v a b iha ihb
   ·exact val_f2_7 l v a b iha ihb
theorem value_g (f:Fo) (hr:za1 f=true) (l:List ByteArray) (h12:l.length≤12) (hin:∀ p:Fp,p.Ok→p.fo=f→p.In l) (v:Nat) (hv:v≤4096) (H:Heap):VDet Tryz.prog 50 [.agg f.cells,.sl none l.length (l.flatMap encSG),.int .i64 (v:Nat)] H (.bool (evF (vbG l v) f)):=by
 obtain ⟨p,hp,rfl⟩:=zdy hr
 rw [ze3 _ p hp]
 exact val_c l h12 v hv p hp (hin p hp rfl) H
theorem insS_len (c:ByteArray):∀ l:List ByteArray,(insS c l).length≤l.length+1
 | []=>by unfold insS;simp
 | d::l=>by
   have:=insS_len c l
   unfold insS
   split
   ·simp only [List.length_cons];omega
   ·split <;> simp only [List.length_cons] <;> omega
def GaP (x:Fo):Prop:=∀ (ks:List ByteArray),ks.length+szzF x≤100000→∀ H,VDet Tryz.prog 51 [.sl none ks.length (ks.flatMap encSG),.agg x.cells] H (.sl none (gaF ks x).length ((gaF ks x).flatMap encSG))
theorem encSG_len (l:List ByteArray):(l.flatMap encSG).length=l.length * 1:=zco (f:=encSG) (sz:=1) (fun _=>rfl) l
theorem encSG_one:∀ l:List ByteArray,zbv (l.flatMap encSG)=true
 | []=>rfl
 | c::l=>by
   rw [List.flatMap_cons]
   exact encSG_one l
mutual
theorem gaF_len:∀ (f:Fo) (ks:List ByteArray),(gaF ks f).length≤ks.length+szzF f
 | .mk op s l m,ks=>by
   rw [gaF_mk]
   have h:=zcy m (if op=1 then insS s ks else ks)
   have h2:=insS_len s ks
   have h3:szzF (.mk op s l m)=1+szzTs l+szzFs m:=by unfold szzF;rfl
   by_cases e:op=1
   ·simp only [if_pos e] at h ⊢
    omega
   ·simp only [if_neg e] at h ⊢
    omega
theorem zcy:∀ (l:List Fo) (ks:List ByteArray),(gaFs ks l).length≤ks.length+szzFs l
 | [],ks=>by rw [zcx];omega
 | x::l,ks=>by
   rw [zgt]
   have h:=zcy l (gaF ks x)
   have h2:=gaF_len x ks
   have h3:szzFs (x::l)=szzF x+szzFs l:=by rw [szzFs.eq_def]
   omega
end
theorem szzFs_take (l:List Fo) (k:Nat):szzFs (l.take k)≤szzFs l:=by
 rw [zbc,zbc]
 exact zc2 szzF l k
theorem zgs (s:ByteArray) (ks:List ByteArray) (j:Nat) (h:j≤ks.length) (h2:insS s ks=ks.take j++s::ks.drop j) {n:Nat} {c:List AV} (hn:n=ks.length+1) (hc:c=(ks.take j).flatMap encSG++([.str s]++(ks.drop j).flatMap encSG)):AV.sl none n c=.sl none (insS s ks).length ((insS s ks).flatMap encSG):=by
 rw [h2,hn,hc,List.flatMap_append,List.flatMap_cons]
 congr 1
 rw [List.length_append,List.length_cons,List.length_take,List.length_drop]
 omega
theorem ga_step (op:Nat) (s:ByteArray) (l:List Tm) (m:List Fo) (hop:op≤255) (hll:l.length≤9223372036854775807) (hml:m.length≤9223372036854775807) (hm:∀ x∈m,GaP x):GaP (.mk op s l m):=by
 intro ks hks H
 have hsz:szzF (.mk op s l m)=1+szzTs l+szzFs m:=by unfold szzF;rfl
 rw [zad,gaF_mk]
 by_cases h1:op=1
 ·subst h1
  rw [if_pos rfl]
  have hil:=insS_len s ks
  refine fdD Tryz.func51 ⟨rfl,rfl,rfl⟩ fun hcl hbl=>?_
  (repeat' ((conv=>whnf);(first|refine IfN.tt rfl ?_|fail)));conv=>whnf
  refine zax Tryz.E0 zao (σ:=Nat) (fun j=>j≤ks.length∧∀ i,i<j→lessB (ks.getD i eN) s=true) (fun j=>ks.length-j) (fun j=>[(5,.v (.int .i64 j))]) (fun j=>_) _ 0 rfl hcl [0,3] rfl ⟨Nat.zero_le _,fun i hi=>absurd hi (by omega)⟩ ⟨⟨_,rfl,Wk.refl _⟩,trivial⟩ rfl (fun _ _=>rfl) ?_
  intro j hj
  clear hbl
  rcases Nat.eq_zero_or_pos j with h0|h0
  ·subst h0
   (repeat' ((conv=>whnf);(first|(refine IfN.id ?_;first|refine IfN.not ?_|refine IfN.dT (by omega) ?_|refine zak (by omega) ?_|refine za2 (fun _=>?_) (fun _=>?_)|(refine IfN.mk ?_ ?_ <;> intro _)|fail)|(refine zae _ _ Cst.h Cst.h ?_ ?_;· omega)|(refine SideN.mk ?_ ?_;· first|kernel_rfl|omega|exact List.cons_ne_nil _ _|fail)|refine NatN.mk _ rfl ?_|refine zbn (f:=encSG) (l:=ks) eN 0 rfl (by omega) (fun _=>rfl) ?_|refine zg2 (f:=encSG) (lo:=0) (n:=0-0) (fun _=>rfl) (by omega) ?_|refine zg2 (f:=encSG) (lo:=0) (n:=ks.length-0) (fun _=>rfl) (by omega) ?_|(refine OrN.r ?_;refine OrN.l ?_;refine SideN.mk (show 0-0=0 from rfl) ?_)|(refine OrN.l ?_;refine SideN.mk (show AppX _ _ _ _ _ _ from ⟨by decide,rfl,rfl,by decide,by decide⟩) ?_)|refine SideN.mk (show AppT _ _ _ _ _ _ _ from ⟨rfl,encSG_one _,by rw [encSG_len,List.length_take,List.length_drop,Nat.min_self],by dsimp only;omega,by unfold maxLen;omega⟩) ?_|refine PtrN.loc _ rfl ?_|refine zap [] ?_|fail)));all_goals (conv=>whnf)
   ·rename_i h2 h3
    (refine ⟨⟨0+1,⟨by omega,fun i hi=>by
     rcases Nat.lt_or_ge i 0 with h|h
     ·exact hj.2 i h
     ·obtain rfl:i=0:=by omega
      exact h3⟩,by omega,?_,.inl ⟨rfl,rfl⟩,rfl,_,rfl,?_⟩⟩;rotate_left 1;exact .inl rfl;exact ⟨⟨_,rfl,Wk.refl _⟩,trivial⟩)
   ·rename_i h2 h3 h4
    rw [ze5,decide_eq_true_eq] at h4
    have hins:insS s ks=ks:=by
     rw [zgf s ks 0 hj.1 hj.2 (fun _=>h3),if_neg]
     rintro (h|h)
     ·omega
     ·exact h h4
    refine zax Tryz.E0 zao (σ:=Nat) (fun j=>j≤m.length) (fun j=>m.length-j) (fun j=>[(0,.v (.sl none (gaFs (insS s ks) (m.take j)).length ((gaFs (insS s ks) (m.take j)).flatMap encSG))),(6,.v (.int .i64 j))]) (fun j=>_) _ 0 rfl hcl [3] rfl (Nat.zero_le _) ⟨⟨_,rfl,zab (by rw [List.take_zero,zcx,hins])⟩,⟨_,rfl,Wk.refl _⟩,trivial⟩ rfl (fun _ _=>rfl) ?_
    intro i hi
    rcases Nat.lt_or_ge i m.length with hlt|hge
    ·have hmem:=zan m i fo0 hlt
     have hx:=hm _ hmem
     unfold GaP at hx
     obtain ⟨w1,w2,w3,w4,w5,w6,hw,hb⟩:=zbe (m.getD i fo0)
     have hs:=zdd m fo0 (insS s ks) i hlt
     have hz:=zcy (m.take i) (insS s ks)
     have hz2:szzFs (m.take i)+szzF (m.getD i fo0)≤szzFs m:=by
      rw [zbc,zbc,← zby szzF fo0 m i hlt]
      exact zc2 szzF m (i+1)
     have hx:=hx (gaFs (insS s ks) (m.take i)) (by omega)
     rw [hs,hw] at hx
     have hlb:=fun n=>zah n (gaFs (insS s ks) (m.take i))
     have hlb2:=fun n=>zah n (gaFs (insS s ks) (m.take (i+1)))
     (repeat' ((conv=>whnf);(first|refine IfN.dT (by omega) ?_|(refine zae _ _ Cst.h Cst.h ?_ ?_;· omega)|(refine SideN.mk ?_ ?_;· first|omega|exact List.cons_ne_nil _ _|fail)|refine CallN.det _ (hx _) ?_|refine zag fo0 i rfl hlt zat hw ?_|fail)));conv=>whnf
     (refine ⟨⟨i+1,by show i+1≤_;omega,by omega,?_,.inl ⟨rfl,rfl⟩,rfl,_,rfl,?_⟩⟩;rotate_left 1;exact .inl rfl;exact ⟨⟨_,rfl,Wk.refl _⟩,⟨_,rfl,Wk.refl _⟩,trivial⟩)
    ·obtain rfl:i=m.length:=by omega
     rw [List.take_length]
     (repeat' ((conv=>whnf);(first|refine zak (by omega) ?_|fail)));conv=>whnf
     exact EndN.det ⟨fun _ e=>(nomatch e),zah _ _⟩ (Wk.refl _)
   ·rename_i h2 h3 h4
    rw [ze5,decide_eq_false_iff_not] at h4
    have hins:insS s ks=ks.take 0++s::ks.drop 0:=by
     rw [zgf s ks 0 hj.1 hj.2 (fun _=>h3),if_pos (.inr h4)]
    refine zax Tryz.E0 zao (σ:=Nat) (fun j=>j≤m.length) (fun j=>m.length-j) (fun j=>[(0,.v (.sl none (gaFs (insS s ks) (m.take j)).length ((gaFs (insS s ks) (m.take j)).flatMap encSG))),(6,.v (.int .i64 j))]) (fun j=>_) _ 0 rfl hcl [3] rfl (Nat.zero_le _) ⟨⟨_,rfl,Wk.trans (wk_sl _ _ _) (zab (by rw [List.take_zero,zcx];exact zgs s ks 0 hj.1 hins (by omega) (by simp [encSG])))⟩,⟨_,rfl,Wk.refl _⟩,trivial⟩ rfl (fun _ _=>rfl) ?_
    intro i hi
    rcases Nat.lt_or_ge i m.length with hlt|hge
    ·have hmem:=zan m i fo0 hlt
     have hx:=hm _ hmem
     unfold GaP at hx
     obtain ⟨w1,w2,w3,w4,w5,w6,hw,hb⟩:=zbe (m.getD i fo0)
     have hs:=zdd m fo0 (insS s ks) i hlt
     have hz:=zcy (m.take i) (insS s ks)
     have hz2:szzFs (m.take i)+szzF (m.getD i fo0)≤szzFs m:=by
      rw [zbc,zbc,← zby szzF fo0 m i hlt]
      exact zc2 szzF m (i+1)
     have hx:=hx (gaFs (insS s ks) (m.take i)) (by omega)
     rw [hs,hw] at hx
     have hlb:=fun n=>zah n (gaFs (insS s ks) (m.take i))
     have hlb2:=fun n=>zah n (gaFs (insS s ks) (m.take (i+1)))
     (repeat' ((conv=>whnf);(first|refine IfN.dT (by omega) ?_|(refine zae _ _ Cst.h Cst.h ?_ ?_;· omega)|(refine SideN.mk ?_ ?_;· first|omega|exact List.cons_ne_nil _ _|fail)|refine CallN.det _ (hx _) ?_|refine zag fo0 i rfl hlt zat hw ?_|fail)));conv=>whnf
     (refine ⟨⟨i+1,by show i+1≤_;omega,by omega,?_,.inl ⟨rfl,rfl⟩,rfl,_,rfl,?_⟩⟩;rotate_left 1;exact .inl rfl;exact ⟨⟨_,rfl,Wk.refl _⟩,⟨_,rfl,Wk.refl _⟩,trivial⟩)
    ·obtain rfl:i=m.length:=by omega
     rw [List.take_length]
     (repeat' ((conv=>whnf);(first|refine zak (by omega) ?_|fail)));conv=>whnf
     exact EndN.det ⟨fun _ e=>(nomatch e),zah _ _⟩ (Wk.refl _)
   ·rename_i h2
    have hins:insS s ks=ks.take 0++s::ks.drop 0:=by
     rw [zgf s ks 0 hj.1 hj.2 (fun h=>absurd h (by omega)),if_pos (.inl (by omega))]
    refine zax Tryz.E0 zao (σ:=Nat) (fun j=>j≤m.length) (fun j=>m.length-j) (fun j=>[(0,.v (.sl none (gaFs (insS s ks) (m.take j)).length ((gaFs (insS s ks) (m.take j)).flatMap encSG))),(6,.v (.int .i64 j))]) (fun j=>_) _ 0 rfl hcl [3] rfl (Nat.zero_le _) ⟨⟨_,rfl,Wk.trans (wk_sl _ _ _) (zab (by rw [List.take_zero,zcx];exact zgs s ks 0 hj.1 hins (by omega) (by simp [encSG])))⟩,⟨_,rfl,Wk.refl _⟩,trivial⟩ rfl (fun _ _=>rfl) ?_
    intro i hi
    rcases Nat.lt_or_ge i m.length with hlt|hge
    ·have hmem:=zan m i fo0 hlt
     have hx:=hm _ hmem
     unfold GaP at hx
     obtain ⟨w1,w2,w3,w4,w5,w6,hw,hb⟩:=zbe (m.getD i fo0)
     have hs:=zdd m fo0 (insS s ks) i hlt
     have hz:=zcy (m.take i) (insS s ks)
     have hz2:szzFs (m.take i)+szzF (m.getD i fo0)≤szzFs m:=by
      rw [zbc,zbc,← zby szzF fo0 m i hlt]
      exact zc2 szzF m (i+1)
     have hx:=hx (gaFs (insS s ks) (m.take i)) (by omega)
     rw [hs,hw] at hx
     have hlb:=fun n=>zah n (gaFs (insS s ks) (m.take i))
     have hlb2:=fun n=>zah n (gaFs (insS s ks) (m.take (i+1)))
     (repeat' ((conv=>whnf);(first|refine IfN.dT (by omega) ?_|(refine zae _ _ Cst.h Cst.h ?_ ?_;· omega)|(refine SideN.mk ?_ ?_;· first|omega|exact List.cons_ne_nil _ _|fail)|refine CallN.det _ (hx _) ?_|refine zag fo0 i rfl hlt zat hw ?_|fail)));conv=>whnf
     (refine ⟨⟨i+1,by show i+1≤_;omega,by omega,?_,.inl ⟨rfl,rfl⟩,rfl,_,rfl,?_⟩⟩;rotate_left 1;exact .inl rfl;exact ⟨⟨_,rfl,Wk.refl _⟩,⟨_,rfl,Wk.refl _⟩,trivial⟩)
    ·obtain rfl:i=m.length:=by omega
     rw [List.take_length]
     (repeat' ((conv=>whnf);(first|refine zak (by omega) ?_|fail)));conv=>whnf
     exact EndN.det ⟨fun _ e=>(nomatch e),zah _ _⟩ (Wk.refl _)
  ·have hj1:=hj.1
   (repeat' ((conv=>whnf);(first|(refine IfN.id ?_;first|refine IfN.not ?_|refine IfN.dT (by omega) ?_|refine zak (by omega) ?_|refine za2 (fun _=>?_) (fun _=>?_)|(refine IfN.mk ?_ ?_ <;> intro _)|fail)|(refine zae _ _ Cst.h Cst.h ?_ ?_;· omega)|(refine SideN.mk ?_ ?_;· first|kernel_rfl|omega|exact List.cons_ne_nil _ _|fail)|refine NatN.mk _ rfl ?_|refine zbn (f:=encSG) (l:=ks) eN j rfl (by omega) (fun _=>rfl) ?_|refine zg2 (f:=encSG) (lo:=0) (n:=j-0) (fun _=>rfl) (by omega) ?_|refine zg2 (f:=encSG) (lo:=j) (n:=ks.length-j) (fun _=>rfl) (by omega) ?_|(refine OrN.l ?_;refine SideN.mk (show AppX _ _ _ _ _ _ from ⟨by omega,rfl,by rw [encSG_len,List.length_take,List.length_drop];show min (j-0) (ks.length-0) * 1=(j-0) * 1;omega,by dsimp only;omega,by unfold maxLen;omega⟩) ?_)|refine SideN.mk (show AppT _ _ _ _ _ _ _ from ⟨rfl,rfl,rfl,by dsimp only;omega,by unfold maxLen;omega⟩) ?_|refine SideN.mk (show AppT _ _ _ _ _ _ _ from ⟨rfl,encSG_one _,by rw [encSG_len,List.length_take,List.length_drop,Nat.min_self],by dsimp only;omega,by unfold maxLen;omega⟩) ?_|refine PtrN.loc _ rfl ?_|refine zap [] ?_|fail)));all_goals (conv=>whnf)
   ·rename_i h2 h3
    (refine ⟨⟨j+1,⟨by omega,fun i hi=>by
     rcases Nat.lt_or_ge i j with h|h
     ·exact hj.2 i h
     ·obtain rfl:i=j:=by omega
      exact h3⟩,by omega,?_,.inl ⟨rfl,rfl⟩,rfl,_,rfl,?_⟩⟩;rotate_left 1;exact .inl rfl;exact ⟨⟨_,rfl,Wk.refl _⟩,trivial⟩)
   ·rename_i h2 h3 h4
    rw [ze5,decide_eq_true_eq] at h4
    have hins:insS s ks=ks:=by
     rw [zgf s ks j hj.1 hj.2 (fun _=>h3),if_neg]
     rintro (h|h)
     ·omega
     ·exact h h4
    refine zax Tryz.E0 zao (σ:=Nat) (fun j=>j≤m.length) (fun j=>m.length-j) (fun j=>[(0,.v (.sl none (gaFs (insS s ks) (m.take j)).length ((gaFs (insS s ks) (m.take j)).flatMap encSG))),(6,.v (.int .i64 j))]) (fun j=>_) _ 0 rfl hcl [3] rfl (Nat.zero_le _) ⟨⟨_,rfl,zab (by rw [List.take_zero,zcx,hins])⟩,⟨_,rfl,Wk.refl _⟩,trivial⟩ rfl (fun _ _=>rfl) ?_
    intro i hi
    rcases Nat.lt_or_ge i m.length with hlt|hge
    ·have hmem:=zan m i fo0 hlt
     have hx:=hm _ hmem
     unfold GaP at hx
     obtain ⟨w1,w2,w3,w4,w5,w6,hw,hb⟩:=zbe (m.getD i fo0)
     have hs:=zdd m fo0 (insS s ks) i hlt
     have hz:=zcy (m.take i) (insS s ks)
     have hz2:szzFs (m.take i)+szzF (m.getD i fo0)≤szzFs m:=by
      rw [zbc,zbc,← zby szzF fo0 m i hlt]
      exact zc2 szzF m (i+1)
     have hx:=hx (gaFs (insS s ks) (m.take i)) (by omega)
     rw [hs,hw] at hx
     have hlb:=fun n=>zah n (gaFs (insS s ks) (m.take i))
     have hlb2:=fun n=>zah n (gaFs (insS s ks) (m.take (i+1)))
     (repeat' ((conv=>whnf);(first|refine IfN.dT (by omega) ?_|(refine zae _ _ Cst.h Cst.h ?_ ?_;· omega)|(refine SideN.mk ?_ ?_;· first|omega|exact List.cons_ne_nil _ _|fail)|refine CallN.det _ (hx _) ?_|refine zag fo0 i rfl hlt zat hw ?_|fail)));conv=>whnf
     (refine ⟨⟨i+1,by show i+1≤_;omega,by omega,?_,.inl ⟨rfl,rfl⟩,rfl,_,rfl,?_⟩⟩;rotate_left 1;exact .inl rfl;exact ⟨⟨_,rfl,Wk.refl _⟩,⟨_,rfl,Wk.refl _⟩,trivial⟩)
    ·obtain rfl:i=m.length:=by omega
     rw [List.take_length]
     (repeat' ((conv=>whnf);(first|refine zak (by omega) ?_|fail)));conv=>whnf
     exact EndN.det ⟨fun _ e=>(nomatch e),zah _ _⟩ (Wk.refl _)
   ·rename_i h2 h3 h4
    rw [ze5,decide_eq_false_iff_not] at h4
    have hins:insS s ks=ks.take j++s::ks.drop j:=by
     rw [zgf s ks j hj.1 hj.2 (fun _=>h3),if_pos (.inr h4)]
    refine zax Tryz.E0 zao (σ:=Nat) (fun j=>j≤m.length) (fun j=>m.length-j) (fun j=>[(0,.v (.sl none (gaFs (insS s ks) (m.take j)).length ((gaFs (insS s ks) (m.take j)).flatMap encSG))),(6,.v (.int .i64 j))]) (fun j=>_) _ 0 rfl hcl [3] rfl (Nat.zero_le _) ⟨⟨_,rfl,Wk.trans (wk_sl _ _ _) (zab (by rw [List.take_zero,zcx];exact zgs s ks j hj.1 hins (by omega) (by rw [List.nil_append,Nat.sub_zero,List.drop_zero,List.append_assoc,show (ks.drop j).take (ks.length-j)=ks.drop j from List.take_of_length_le (by rw [List.length_drop];exact Nat.le_refl _)])))⟩,⟨_,rfl,Wk.refl _⟩,trivial⟩ rfl (fun _ _=>rfl) ?_
    intro i hi
    rcases Nat.lt_or_ge i m.length with hlt|hge
    ·have hmem:=zan m i fo0 hlt
     have hx:=hm _ hmem
     unfold GaP at hx
     obtain ⟨w1,w2,w3,w4,w5,w6,hw,hb⟩:=zbe (m.getD i fo0)
     have hs:=zdd m fo0 (insS s ks) i hlt
     have hz:=zcy (m.take i) (insS s ks)
     have hz2:szzFs (m.take i)+szzF (m.getD i fo0)≤szzFs m:=by
      rw [zbc,zbc,← zby szzF fo0 m i hlt]
      exact zc2 szzF m (i+1)
     have hx:=hx (gaFs (insS s ks) (m.take i)) (by omega)
     rw [hs,hw] at hx
     have hlb:=fun n=>zah n (gaFs (insS s ks) (m.take i))
     have hlb2:=fun n=>zah n (gaFs (insS s ks) (m.take (i+1)))
     (repeat' ((conv=>whnf);(first|refine IfN.dT (by omega) ?_|(refine zae _ _ Cst.h Cst.h ?_ ?_;· omega)|(refine SideN.mk ?_ ?_;· first|omega|exact List.cons_ne_nil _ _|fail)|refine CallN.det _ (hx _) ?_|refine zag fo0 i rfl hlt zat hw ?_|fail)));conv=>whnf
     (refine ⟨⟨i+1,by show i+1≤_;omega,by omega,?_,.inl ⟨rfl,rfl⟩,rfl,_,rfl,?_⟩⟩;rotate_left 1;exact .inl rfl;exact ⟨⟨_,rfl,Wk.refl _⟩,⟨_,rfl,Wk.refl _⟩,trivial⟩)
    ·obtain rfl:i=m.length:=by omega
     rw [List.take_length]
     (repeat' ((conv=>whnf);(first|refine zak (by omega) ?_|fail)));conv=>whnf
     exact EndN.det ⟨fun _ e=>(nomatch e),zah _ _⟩ (Wk.refl _)
   ·rename_i h2
    have hins:insS s ks=ks.take j++s::ks.drop j:=by
     rw [zgf s ks j hj.1 hj.2 (fun h=>absurd h (by omega)),if_pos (.inl (by omega))]
    refine zax Tryz.E0 zao (σ:=Nat) (fun j=>j≤m.length) (fun j=>m.length-j) (fun j=>[(0,.v (.sl none (gaFs (insS s ks) (m.take j)).length ((gaFs (insS s ks) (m.take j)).flatMap encSG))),(6,.v (.int .i64 j))]) (fun j=>_) _ 0 rfl hcl [3] rfl (Nat.zero_le _) ⟨⟨_,rfl,Wk.trans (wk_sl _ _ _) (zab (by rw [List.take_zero,zcx];exact zgs s ks j hj.1 hins (by omega) (by rw [List.nil_append,Nat.sub_zero,List.drop_zero,List.append_assoc,show (ks.drop j).take (ks.length-j)=ks.drop j from List.take_of_length_le (by rw [List.length_drop];exact Nat.le_refl _)])))⟩,⟨_,rfl,Wk.refl _⟩,trivial⟩ rfl (fun _ _=>rfl) ?_
    intro i hi
    rcases Nat.lt_or_ge i m.length with hlt|hge
    ·have hmem:=zan m i fo0 hlt
     have hx:=hm _ hmem
     unfold GaP at hx
     obtain ⟨w1,w2,w3,w4,w5,w6,hw,hb⟩:=zbe (m.getD i fo0)
     have hs:=zdd m fo0 (insS s ks) i hlt
     have hz:=zcy (m.take i) (insS s ks)
     have hz2:szzFs (m.take i)+szzF (m.getD i fo0)≤szzFs m:=by
      rw [zbc,zbc,← zby szzF fo0 m i hlt]
      exact zc2 szzF m (i+1)
     have hx:=hx (gaFs (insS s ks) (m.take i)) (by omega)
     rw [hs,hw] at hx
     have hlb:=fun n=>zah n (gaFs (insS s ks) (m.take i))
     have hlb2:=fun n=>zah n (gaFs (insS s ks) (m.take (i+1)))
     (repeat' ((conv=>whnf);(first|refine IfN.dT (by omega) ?_|(refine zae _ _ Cst.h Cst.h ?_ ?_;· omega)|(refine SideN.mk ?_ ?_;· first|omega|exact List.cons_ne_nil _ _|fail)|refine CallN.det _ (hx _) ?_|refine zag fo0 i rfl hlt zat hw ?_|fail)));conv=>whnf
     (refine ⟨⟨i+1,by show i+1≤_;omega,by omega,?_,.inl ⟨rfl,rfl⟩,rfl,_,rfl,?_⟩⟩;rotate_left 1;exact .inl rfl;exact ⟨⟨_,rfl,Wk.refl _⟩,⟨_,rfl,Wk.refl _⟩,trivial⟩)
    ·obtain rfl:i=m.length:=by omega
     rw [List.take_length]
     (repeat' ((conv=>whnf);(first|refine zak (by omega) ?_|fail)));conv=>whnf
     exact EndN.det ⟨fun _ e=>(nomatch e),zah _ _⟩ (Wk.refl _)
 ·rw [if_neg h1]
  refine fdD Tryz.func51 ⟨rfl,rfl,rfl⟩ fun hcl hbl=>?_
  (repeat' ((conv=>whnf);(first|refine zak (by omega) ?_|fail)));conv=>whnf
  refine zax Tryz.E0 zao (σ:=Nat) (fun j=>j≤m.length) (fun j=>m.length-j) (fun j=>[(0,.v (.sl none (gaFs ks (m.take j)).length ((gaFs ks (m.take j)).flatMap encSG))),(6,.v (.int .i64 j))]) (fun j=>_) _ 0 rfl hcl [3] rfl (Nat.zero_le _) ⟨⟨_,rfl,zab (by rw [List.take_zero,zcx])⟩,⟨_,rfl,Wk.refl _⟩,trivial⟩ rfl (fun _ _=>rfl) ?_
  intro i hi
  rcases Nat.lt_or_ge i m.length with hlt|hge
  ·have hmem:=zan m i fo0 hlt
   have hx:=hm _ hmem
   unfold GaP at hx
   obtain ⟨w1,w2,w3,w4,w5,w6,hw,hb⟩:=zbe (m.getD i fo0)
   have hs:=zdd m fo0 ks i hlt
   have hz:=zcy (m.take i) ks
   have hz2:szzFs (m.take i)+szzF (m.getD i fo0)≤szzFs m:=by
    rw [zbc,zbc,← zby szzF fo0 m i hlt]
    exact zc2 szzF m (i+1)
   have hx:=hx (gaFs ks (m.take i)) (by omega)
   rw [hs,hw] at hx
   have hlb:=fun n=>zah n (gaFs ks (m.take i))
   have hlb2:=fun n=>zah n (gaFs ks (m.take (i+1)))
   (repeat' ((conv=>whnf);(first|refine IfN.dT (by omega) ?_|(refine zae _ _ Cst.h Cst.h ?_ ?_;· omega)|(refine SideN.mk ?_ ?_;· first|omega|exact List.cons_ne_nil _ _|fail)|refine CallN.det _ (hx _) ?_|refine zag fo0 i rfl hlt zat hw ?_|fail)));conv=>whnf
   (refine ⟨⟨i+1,by show i+1≤_;omega,by omega,?_,.inl ⟨rfl,rfl⟩,rfl,_,rfl,?_⟩⟩;rotate_left 1;exact .inl rfl;exact ⟨⟨_,rfl,Wk.refl _⟩,⟨_,rfl,Wk.refl _⟩,trivial⟩)
  ·obtain rfl:i=m.length:=by omega
   rw [List.take_length]
   (repeat' ((conv=>whnf);(first|refine zak (by omega) ?_|fail)));conv=>whnf
   exact EndN.det ⟨fun _ e=>(nomatch e),zah _ _⟩ (Wk.refl _)
mutual
theorem ga_g:∀ x:Fo,x.good→GaP x
 | .mk op s l m,h=>ga_step op s l m h.1 (za6 h.2.2.1) (za6 h.2.2.2.2.1) (gas_g m h.2.2.2.2.2)
theorem gas_g:∀ l:List Fo,Fo.goodL l→∀ x∈l,GaP x
 | [],_,x,h=>by cases h
 | y::l,hg,x,h=>by
   have h1:=ga_g y hg.1
   have h2:=gas_g l hg.2
   rcases List.mem_cons.1 h with e|h
   ·exact e▸h1
   ·exact h2 x h
end
theorem zd8 (l:List Fo) (hg:Fo.goodL l) (hlen:l.length≤9223372036854775807) (hn:szzFs l≤100000) (H:Heap):VDet Tryz.prog 14 [.sl none l.length (l.flatMap Fo.cells)] H (.sl none (zal l).length ((zal l).flatMap encSG)):=by
 rw [zc6]
 have hm:=gas_g l hg
 refine fdD Tryz.func14 ⟨rfl,rfl,rfl⟩ fun hcl hbl=>?_
 conv=>whnf
 refine zax Tryz.E0 zao (σ:=Nat) (fun j=>j≤l.length) (fun j=>l.length-j) (fun j=>[(3,.v (.sl none (gaFs [] (l.take j)).length ((gaFs [] (l.take j)).flatMap encSG))),(4,.v (.int .i64 j))]) (fun j=>_) _ 0 rfl hcl [0] rfl (Nat.zero_le _) ⟨⟨_,rfl,Wk.trans zei (zab (by rw [List.take_zero,zcx];rfl))⟩,⟨_,rfl,Wk.refl _⟩,trivial⟩ rfl (fun _ _=>rfl) ?_
 intro i hi
 rcases Nat.lt_or_ge i l.length with hlt|hge
 ·have hmem:=zan l i fo0 hlt
  have hx:=hm _ hmem
  unfold GaP at hx
  obtain ⟨w1,w2,w3,w4,w5,w6,hw,hb⟩:=zbe (l.getD i fo0)
  have hs:=zdd l fo0 [] i hlt
  have hz:=zcy (l.take i) []
  rw [List.length_nil,Nat.zero_add] at hz
  have hz2:szzFs (l.take i)+szzF (l.getD i fo0)≤szzFs l:=by
   rw [zbc,zbc,← zby szzF fo0 l i hlt]
   exact zc2 szzF l (i+1)
  have hx:=hx (gaFs [] (l.take i)) (by omega)
  rw [hs,hw] at hx
  have hlb:=fun n=>zah n (gaFs [] (l.take i))
  have hlb2:=fun n=>zah n (gaFs [] (l.take (i+1)))
  (repeat' ((conv=>whnf);(first|refine IfN.dT (by omega) ?_|(refine zae _ _ Cst.h Cst.h ?_ ?_;· omega)|(refine SideN.mk ?_ ?_;· first|omega|exact List.cons_ne_nil _ _|fail)|refine CallN.det _ (hx _) ?_|refine zag fo0 i rfl hlt zat hw ?_|fail)));conv=>whnf
  (refine ⟨⟨i+1,by show i+1≤_;omega,by omega,?_,.inl ⟨rfl,rfl⟩,rfl,_,rfl,?_⟩⟩;rotate_left 1;exact .inl rfl;exact ⟨⟨_,rfl,Wk.refl _⟩,⟨_,rfl,Wk.refl _⟩,trivial⟩)
 ·obtain rfl:i=l.length:=by omega
  rw [List.take_length]
  (repeat' ((conv=>whnf);(first|refine zak (by omega) ?_|fail)));conv=>whnf
  exact EndN.det ⟨fun _ e=>(nomatch e),zah _ _⟩ (Wk.refl _)
theorem both_c (L R:List Fo) (hl:L.length+R.length≤1000) (H:Heap):VDet Tryz.prog 49 [.agg [.sl none L.length (L.flatMap Fo.cells),.sl none R.length (R.flatMap Fo.cells)]] H (.sl none (L++R).length ((L++R).flatMap Fo.cells)):=by
 rw [List.flatMap_append,List.length_append]
 have l1:=zfg L
 have l2:=zfg R
 have o2:=fo_one R
 have b1:=zam H.length L
 have b2:=zam H.length R
 have e1:L.length=0→L.flatMap Fo.cells=[]:=fun h=>by rw [List.length_eq_zero_iff.1 h];rfl
 have e2:R.length=0→R.flatMap Fo.cells=[]:=fun h=>by rw [List.length_eq_zero_iff.1 h];rfl
 generalize L.flatMap Fo.cells=cl at *
 generalize R.flatMap Fo.cells=cr at *
 generalize L.length=nl at *
 generalize R.length=nr at *
 rcases Nat.eq_zero_or_pos nl with h0|h0
 ·subst h0
  obtain rfl:=e1 rfl
  rcases Nat.eq_zero_or_pos nr with h2|h2
  ·subst h2
   obtain rfl:=e2 rfl
   refine fdD Tryz.func49 ⟨rfl,rfl,rfl⟩ fun hcl hbl=>?_
   (repeat' ((conv=>whnf);(first|refine SideN.mk (by kernel_rfl) ?_|(refine OrN.r ?_;refine OrN.l ?_;refine SideN.mk (show (0:Nat)=0 from rfl) ?_)|refine zap [] ?_|fail)));conv=>whnf
   exact EndN.det ⟨fun _ e=>(nomatch e),trivial⟩ (wk_sx _ _)
  ·refine fdD Tryz.func49 ⟨rfl,rfl,rfl⟩ fun hcl hbl=>?_
   (repeat' ((conv=>whnf);(first|refine SideN.mk (by kernel_rfl) ?_|(refine OrN.r ?_;refine OrN.l ?_;refine SideN.mk (show (0:Nat)=0 from rfl) ?_)|(refine OrN.r ?_;refine OrN.r ?_;refine OrN.r ?_;refine SideN.mk (show AppX 0 nr 4 72 [] cr from ⟨h2,rfl,l2,by omega,by unfold maxLen;omega⟩) ?_)|refine zap [] ?_|fail)));conv=>whnf
   exact EndN.det ⟨fun _ e=>(nomatch e),b2⟩ (zab (by simp))
 ·refine fdD Tryz.func49 ⟨rfl,rfl,rfl⟩ fun hcl hbl=>?_
  (repeat' ((conv=>whnf);(first|refine SideN.mk (by kernel_rfl) ?_|(refine OrN.l ?_;refine SideN.mk (show AppX 0 nl 4 72 [] cl from ⟨h0,rfl,l1,by omega,by unfold maxLen;omega⟩) ?_)|refine SideN.mk (show AppT ([]++cl).length (0+nl) nr 4 72 ([]++cl) cr from ⟨rfl,o2,l2,by omega,by unfold maxLen;omega⟩) ?_|refine PtrN.loc _ rfl ?_|refine zap [] ?_|fail)));conv=>whnf
  exact EndN.detF (u':=.sl none (0+nl+nr) ([]++cl++cr)) ⟨fun _ e=>(nomatch e),(zar _ _).2 ⟨b1,b2⟩⟩ (Frz.sl (FrzL.refl _)) (zab (by simp))
def seqC (L R:List Fo):List AV:=[.sl none L.length (L.flatMap Fo.cells),.sl none R.length (R.flatMap Fo.cells)]
def lnS (L R:List Fo):List AV:=[.sk L.length (L.length+12) (lnFs L++mksF 12),.sk R.length (R.length+12) (lnFs R++mksF 12)]
theorem lentSeq_c (L R:List Fo) (hl:L.length≤1000) (hr:R.length≤1000) (hL:∀ x∈L,smF x) (hR:∀ x∈R,smF x) (H:Heap):VDet Tryz.prog 7 [.agg (seqC L R)] H (.agg (lnS L R)):=by
 have h1:=zgd L hl fun x hx=>lentF_g x (hL x hx)
 have h2:=zgd R hr fun x hx=>lentF_g x (hR x hx)
 have b1:=fun n=>zam n L
 have b2:=fun n=>zam n R
 have b3:=fun n=>zbd n L
 have b4:=fun n=>zbd n R
 have b5:=fun n=>zbj n 12
 unfold seqC lnS
 generalize L.flatMap Fo.cells=cl at *
 generalize R.flatMap Fo.cells=cr at *
 generalize lnFs L=dl at *
 generalize lnFs R=dr at *
 generalize mksF 12=mk at *
 generalize L.length=nl at *
 generalize R.length=nr at *
 refine fdD Tryz.func7 ⟨rfl,rfl,rfl⟩ fun hcl hbl=>?_
 (repeat' ((conv=>whnf);(first|(refine CallN.id ?_;first|refine CallN.det _ (h1 _) ?_|refine CallN.det _ (h2 _) ?_|fail)|fail)));conv=>whnf
 exact eT (by simp [below,zaf,zar,b3,b4,b5])
theorem zf8 (l:List ByteArray) (hlen:l.length≤1000000) (H:Heap):VDet Tryz.prog 13 [.sl none l.length (l.flatMap encSG),.sl none l.length (l.flatMap encSG)] H (.bool true):=by
 refine fdD Tryz.func13 ⟨rfl,rfl,rfl⟩ fun hcl hbl=>?_
 (repeat' ((conv=>whnf);(first|(refine IfN.id ?_;first|refine IfN.not ?_|refine IfN.dT (by omega) ?_|fail)|fail)));conv=>whnf
 refine zax Tryz.E0 zao (σ:=Nat) (fun j=>j≤l.length) (fun j=>l.length-j) (fun j=>[(5,.v (.int .i64 j))]) (fun j=>_) _ 0 rfl hcl [0,1] rfl (Nat.zero_le _) ⟨⟨_,rfl,Wk.refl _⟩,trivial⟩ rfl (fun _ _=>rfl) ?_
 intro j hj
 rcases Nat.lt_or_ge j l.length with hlt|hge
 ·(repeat' ((conv=>whnf);(first|(refine IfN.id ?_;first|refine IfN.ff (show (!((l.getD j eN).toList==(l.getD j eN).toList))=false by simp) ?_|refine IfN.dT (by omega) ?_|fail)|(refine zae _ _ Cst.h Cst.h ?_ ?_;· omega)|(refine SideN.mk ?_ ?_;· first|kernel_rfl|omega|exact List.cons_ne_nil _ _|fail)|refine zbn (f:=encSG) (l:=l) eN j rfl (by omega) (fun _=>rfl) ?_|refine zap [] ?_|fail)));conv=>whnf
  (refine ⟨⟨j+1,by show j+1≤_;omega,by omega,?_,.inl ⟨rfl,rfl⟩,rfl,_,rfl,?_⟩⟩;rotate_left 1;exact .inl rfl;exact ⟨⟨_,rfl,Wk.refl _⟩,trivial⟩)
 ·(repeat' ((conv=>whnf);(first|refine zak (by omega) ?_|fail)));conv=>whnf
  exact eT trivial
theorem keptSeq_c (L R:List Fo) (hl:L.length≤1000) (hr:R.length≤1000) (hL:∀ x∈L,smF x) (hR:∀ x∈R,smF x) (H:Heap):VDet Tryz.prog 11 [.agg (lnS L R),.agg (seqC L R)] H (.bool true):=by
 have h1:=zge L (by omega) fun x hx=>keptF_g x (hL x hx)
 have h2:=zge R (by omega) fun x hx=>keptF_g x (hR x hx)
 have h3:=zf9 L (by omega) fun x hx=>sameF_g x (hL x hx)
 have h4:=zf9 R (by omega) fun x hx=>sameF_g x (hR x hx)
 have h3:∀ H,VDet Tryz.prog 78 [.sk L.length (L.length+12) (lnFs L++mksF 12),.sl none L.length (L.flatMap Fo.cells)] H (.bool true):=fun H=>za4 (h3 H) ⟨zcp (zbz L),Wk.refl _,trivial⟩
 have h4:∀ H,VDet Tryz.prog 78 [.sk R.length (R.length+12) (lnFs R++mksF 12),.sl none R.length (R.flatMap Fo.cells)] H (.bool true):=fun H=>za4 (h4 H) ⟨zcp (zbz R),Wk.refl _,trivial⟩
 have b1:=fun n=>zam n L
 have b2:=fun n=>zam n R
 have b3:=fun n=>zbd n L
 have b4:=fun n=>zbd n R
 have b5:=fun n=>zbj n 12
 unfold seqC lnS
 generalize L.flatMap Fo.cells=cl at *
 generalize R.flatMap Fo.cells=cr at *
 generalize lnFs L=dl at *
 generalize lnFs R=dr at *
 generalize mksF 12=mk at *
 generalize L.length=nl at *
 generalize R.length=nr at *
 have h5:∀ H,VDet Tryz.prog 47 [.agg [.sk nl (nl+12) (dl++mk),.sk nr (nr+12) (dr++mk)],.agg [.sl none nl cl,.sl none nr cr]] H (.bool true):=by
  intro H
  refine fdD Tryz.func47 ⟨rfl,rfl,rfl⟩ fun hcl hbl=>?_
  (repeat' ((conv=>whnf);(first|refine IfN.tt rfl ?_|(refine CallN.id ?_;first|refine CallN.det _ (h3 _) ?_|refine CallN.det _ (h4 _) ?_|fail)|fail)));conv=>whnf
  exact eT trivial
 refine fdD Tryz.func11 ⟨rfl,rfl,rfl⟩ fun hcl hbl=>?_
 (repeat' ((conv=>whnf);(first|refine IfN.tt rfl ?_|(refine CallN.id ?_;first|refine CallN.det _ (h5 _) ?_|refine CallN.det _ (h1 _) ?_|refine CallN.det _ (h2 _) ?_|fail)|fail)));conv=>whnf
 exact eT trivial
def dsB (L R:List Fo) (v j:Nat):Bool:=(List.range j).all fun i=>evF (vbG (zal (L++R)) v) ((L++R).getD i fo0)==decide (i<L.length)
theorem dsB_succ (L R:List Fo) (v j:Nat):dsB L R v (j+1)=(dsB L R v j&&(evF (vbG (zal (L++R)) v) ((L++R).getD j fo0)==decide (j<L.length))):=by
 unfold dsB
 rw [List.range_succ,List.all_append,List.all_cons,List.all_nil,Bool.and_true]
theorem dsB_fal (L R:List Fo) (v:Nat):dsB L R v (L++R).length=falBG L R v:=by
 unfold dsB falBG
 generalize vbG (zal (L++R)) v=r
 apply Bool.eq_iff_iff.2
 simp only [List.all_eq_true,List.mem_range,Bool.and_eq_true,beq_iff_eq,Bool.not_eq_true']
 constructor
 ·intro h
  constructor
  ·intro f hf
   obtain ⟨i,hi,rfl⟩:=List.getElem_of_mem hf
   have:=h i (by rw [List.length_append];omega)
   rw [decide_eq_true hi] at this
   rwa [show (L++R).getD i fo0=L[i] by simp [List.getD_eq_getElem?_getD,List.getElem?_append_left hi,hi]] at this
  ·intro f hf
   obtain ⟨i,hi,rfl⟩:=List.getElem_of_mem hf
   have:=h (L.length+i) (by rw [List.length_append];omega)
   rw [decide_eq_false (by omega)] at this
   rwa [show (L++R).getD (L.length+i) fo0=R[i] by simp [List.getD_eq_getElem?_getD,List.getElem?_append_right,hi]] at this
 ·rintro ⟨h1,h2⟩ i hi
  rw [List.length_append] at hi
  rcases Nat.lt_or_ge i L.length with h|h
  ·rw [decide_eq_true h,show (L++R).getD i fo0=L[i] by simp [List.getD_eq_getElem?_getD,List.getElem?_append_left h,h]]
   exact h1 _ (List.getElem_mem h)
  ·rw [decide_eq_false (by omega),show (L++R).getD i fo0=R[i-L.length] by simp [List.getD_eq_getElem?_getD,List.getElem?_append_right h,show i-L.length<R.length by omega]]
   exact h2 _ (List.getElem_mem _)
theorem zcu {l:List Fo} {x:Fo} (h:x∈l):szzF x≤szzFs l:=by
 induction l with
 | nil=>cases h
 | cons y l ih =>
   have e:szzFs (y::l)=szzF y+szzFs l:=by rw [szzFs.eq_def]
   rcases List.mem_cons.1 h with rfl|h
   ·omega
   ·have:=ih h
    omega
theorem goodL_mem {l:List Fo} {x:Fo} (h:x∈l) (hg:Fo.goodL l):x.good:=by
 induction l with
 | nil=>cases h
 | cons y l ih =>
   rcases List.mem_cons.1 h with rfl|h
   ·exact hg.1
   ·exact ih h hg.2
theorem shl1 (n:Nat) (h:n≤12):IntKind.i64.wrap (1 * 2 ^ n)=((2 ^ n:Nat):Int):=by
 have:n=0∨n=1∨n=2∨n=3∨n=4∨n=5∨n=6∨n=7∨n=8∨n=9∨n=10∨n=11∨n=12:=by omega
 rcases this with rfl|rfl|rfl|rfl|rfl|rfl|rfl|rfl|rfl|rfl|rfl|rfl|rfl <;> rfl
theorem refFals_c (L R:List Fo) (hg:Fo.goodL (L++R)) (hn:szzFs (L++R)≤100000) (hl:L.length+R.length≤1000) (H:Heap):VDet Tryz.prog 12 [.agg (seqC L R)] H (flsA L R):=by
 have h0:=both_c L R hl
 have hlen:(L++R).length≤1000:=by rw [List.length_append];exact hl
 have hA:=zd8 (L++R) hg (by omega) hn
 have hR:∀ x∈L++R,∀ H,VDet Tryz.prog 31 [.agg x.cells] H (.bool (za1 x)):=fun x hx=>ref10_c x (goodL_mem hx hg) (Nat.le_trans (zcu hx) hn)
 have hV:(∀ x∈L++R,za1 x=true)→(zal (L++R)).length≤12→∀ x∈L++R,∀ v:Nat,v≤4096→∀ H,VDet Tryz.prog 50 [.agg x.cells,.sl none (zal (L++R)).length ((zal (L++R)).flatMap encSG),.int .i64 (v:Nat)] H (.bool (evF (vbG (zal (L++R)) v) x)):=fun hr h12 x hx v hv=>value_g x (hr x hx) _ h12 (fun p hp e=>zfs hp (e▸hx) hr) v hv
 have hlb:=fun n=>zam n (L++R)
 have b1:=fun n=>zam n L
 have b2:=fun n=>zam n R
 have hnb:=fun n=>zah n (zal (L++R))
 have hds:=fun v j=>dsB_succ L R v j
 have hdf:=fun v=>dsB_fal L R v
 have hd0:∀ v,dsB L R v 0=true:=fun v=>rfl
 have hgd:=fun j (hj:j<(L++R).length)=>zan (L++R) j fo0 hj
 unfold flsA falVG
 unfold seqC
 unfold seqC at *
 generalize hlr:L++R=lr at *
 have hlL:L.length≤lr.length:=by rw [← hlr,List.length_append];omega
 generalize L.flatMap Fo.cells=cl at *
 generalize R.flatMap Fo.cells=cr at *
 generalize L.length=nl at *
 generalize R.length=nr at *
 generalize zal lr=ns at *
 refine fdD Tryz.func12 ⟨rfl,rfl,rfl⟩ fun hcl hbl=>?_
 (repeat' ((conv=>whnf);(first|refine CallN.det _ (h0 _) ?_|fail)));conv=>whnf
 refine zax Tryz.E0 zao (σ:=Nat) (fun j=>j≤lr.length∧∀ i,i<j→za1 (lr.getD i fo0)=true) (fun j=>lr.length-j) (fun j=>[(6,.v (.int .i64 j))]) (fun j=>_) _ 0 rfl hcl [1,5] rfl ⟨Nat.zero_le _,fun i hi=>absurd hi (by omega)⟩ ⟨⟨_,rfl,Wk.refl _⟩,trivial⟩ rfl (fun _ _=>rfl) ?_
 rintro j ⟨hj,hall⟩
 rcases Nat.lt_or_ge j lr.length with hlt|hge
 ·have hx:=hR _ (hgd j hlt)
  obtain ⟨w1,w2,w3,w4,w5,w6,hw,hb⟩:=zbe (lr.getD j fo0)
  rw [hw] at hx
  cases hr:za1 (lr.getD j fo0) with
  | true =>
    rw [hr] at hx
    (repeat' ((conv=>whnf);(first|(refine IfN.id ?_;first|refine IfN.not ?_|refine IfN.tt rfl ?_|refine IfN.dT (by omega) ?_|fail)|(refine zae _ _ Cst.h Cst.h ?_ ?_;· omega)|(refine SideN.mk ?_ ?_;· first|omega|exact List.cons_ne_nil _ _|fail)|refine CallN.det _ (hx _) ?_|refine zag fo0 j rfl hlt zat hw ?_|fail)));conv=>whnf
    (refine ⟨⟨j+1,⟨by omega,fun i hi=>by
     by_cases e:i=j
     ·rw [e];exact hr
     ·exact hall i (by omega)⟩,by omega,?_,.inl ⟨rfl,rfl⟩,rfl,_,rfl,?_⟩⟩;rotate_left 1;exact .inl rfl;exact ⟨⟨_,rfl,Wk.refl _⟩,trivial⟩)
  | false =>
    rw [hr] at hx
    have hno:lr.all za1=false:=by
     apply Bool.eq_false_iff.2
     intro hA2
     rw [List.all_eq_true.1 hA2 _ (hgd j hlt)] at hr
     cases hr
    rw [if_pos hno]
    (repeat' ((conv=>whnf);(first|(refine IfN.id ?_;first|refine IfN.not ?_|refine IfN.ff rfl ?_|refine IfN.dT (by omega) ?_|fail)|(refine SideN.mk ?_ ?_;· first|omega|exact List.cons_ne_nil _ _|fail)|refine CallN.det _ (hx _) ?_|refine zag fo0 j rfl hlt zat hw ?_|fail)));conv=>whnf
    exact eT ⟨trivial,trivial,trivial,trivial⟩
 ·have hright:∀ x∈lr,za1 x=true:=fun x hx=>by
   obtain ⟨i,hi,rfl⟩:=List.getElem_of_mem hx
   have:=hall i (by omega)
   rwa [show lr.getD i fo0=lr[i] by simp [List.getD_eq_getElem?_getD,hi]] at this
  have hyes:¬ lr.all za1=false:=by rw [List.all_eq_true.2 hright];exact Bool.noConfusion
  rw [if_neg hyes]
  by_cases h12:12<ns.length
  ·rw [if_pos h12]
   (repeat' ((conv=>whnf);(first|(refine IfN.id ?_;first|refine IfN.dT (by omega) ?_|refine zak (by omega) ?_|fail)|refine CallN.det _ (hA _) ?_|fail)));conv=>whnf
   exact eT ⟨trivial,trivial,trivial,trivial⟩
  ·rw [if_neg h12]
   have h2l:=zd3 ns.length (by omega)
   have hsh:=shl1 ns.length (by omega)
   have hV:=hV hright (by omega)
   generalize hSd:2 ^ ns.length=S at *
   have h2S:(2:Nat) ^ ns.length=S:=hSd
   have hsl:1 <<< ns.length=S:=by rw [Nat.one_shiftLeft];exact hSd
   have hsh2:IntKind.i64.wrap (1 * 2 ^ ns.length)=(S:Int):=by rw [← hSd] ;exact shl1 ns.length (by omega)
   (repeat' ((conv=>whnf);(first|refine zak (by omega) ?_|refine CallN.det _ (hA _) ?_|fail)));conv=>whnf
   refine zax Tryz.E0 zao (σ:=Nat) (fun v=>v≤S∧∀ u,u<v→falBG L R u=false) (fun v=>S-v) (fun v=>[(8,.v (.int .i64 v))]) (fun j=>_) _ 0 rfl hcl [1,5,7] rfl ⟨Nat.zero_le _,fun i hi=>absurd hi (by omega)⟩ ⟨⟨_,rfl,Wk.refl _⟩,trivial⟩ rfl (fun _ _=>rfl) ?_
   rintro v ⟨hv,hno⟩
   (repeat' ((conv=>whnf);(first|refine za2 (fun _=>?_) (fun _=>?_)|(refine zfy _ _ Cst.h Cst.h rfl ?_ ?_ ?_;(· (repeat' (first|omega|refine And.intro ?_ ?_|exact zay (by omega)|exact zbq (by omega)|refine zdf ?_ ?_|refine zbp ?_ ?_|refine zch ?_ ?_|refine zbg ?_ ?_|refine zci ?_|refine zcj ?_ ?_|refine zck ?_|refine zay ?_|fail)));(· (repeat' (first|omega|refine And.intro ?_ ?_|exact zay (by omega)|exact zbq (by omega)|refine zdf ?_ ?_|refine zbp ?_ ?_|refine zch ?_ ?_|refine zbg ?_ ?_|refine zci ?_|refine zcj ?_ ?_|refine zck ?_|refine zay ?_|fail))))|refine SideN.mk (by omega) ?_|fail)));all_goals (conv=>whnf)
   ·rename_i h5
    rw [hsl] at h5
    refine zax Tryz.E0 zao (σ:=Nat) (fun j=>j≤lr.length) (fun j=>lr.length-j) (fun j=>[(9,.v (.bool (dsB L R v j))),(10,.v (.int .i64 j))]) (fun j=>_) _ 0 rfl hcl [1,5,7,8] rfl (Nat.zero_le _) ⟨⟨_,rfl,zab (congrArg AV.bool (hd0 v).symm)⟩,⟨_,rfl,Wk.refl _⟩,trivial⟩ rfl (fun _ _=>rfl) ?_
    intro i hi
    rcases Nat.lt_or_ge i lr.length with hlt|hge
    ·have hx:=hV _ (hgd i hlt) v (by omega)
     have hs:=hds v i
     obtain ⟨w1,w2,w3,w4,w5,w6,hw,hb⟩:=zbe (lr.getD i fo0)
     rw [hw] at hx
     generalize evF (vbG ns v) (lr.getD i fo0)=y at *
     generalize dsB L R v i=x at *
     cases x with
     | false =>
       rw [Bool.false_and] at hs
       (repeat' ((conv=>whnf);(first|(refine IfN.id ?_;first|refine IfN.ff rfl ?_|refine IfN.dT (by omega) ?_|fail)|(refine zae _ _ Cst.h Cst.h ?_ ?_;· omega)|refine SideN.mk (by kernel_rfl) ?_|refine zap [] ?_|fail)));conv=>whnf
       (refine ⟨⟨i+1,by show i+1≤_;omega,by omega,?_,.inr ?_,rfl,_,rfl,?_⟩⟩;rotate_left 2;exact .inl rfl;all_goals (repeat' (first|exact trivial|refine ⟨⟨_,rfl,?_⟩,?_⟩|fail));all_goals try exact Wk.refl _)
       exact zab (congrArg AV.bool hs.symm)
     | true =>
       rw [Bool.true_and] at hs
       rcases Nat.lt_or_ge i nl with h6|h6
       ·rw [decide_eq_true h6] at hs
        have hlt6:decide ((i:Int)<(nl:Int))=true:=decide_eq_true (by omega)
        (repeat' ((conv=>whnf);(first|(refine IfN.id ?_;first|refine IfN.tt rfl ?_|refine IfN.dT (by omega) ?_|fail)|(refine zae _ _ Cst.h Cst.h ?_ ?_;· omega)|(refine SideN.mk ?_ ?_;· first|kernel_rfl|omega|exact List.cons_ne_nil _ _|fail)|refine CallD.det _ (fun _ hq X=>hx _) ?_|refine zag fo0 i rfl hlt zat hw ?_|refine zap [] ?_|fail)));conv=>whnf
        (refine ⟨⟨i+1,by show i+1≤_;omega,by omega,?_,.inr ?_,rfl,_,rfl,?_⟩⟩;rotate_left 2;exact .inl rfl;all_goals (repeat' (first|exact trivial|refine ⟨⟨_,rfl,?_⟩,?_⟩|fail));all_goals try exact Wk.refl _)
        exact zab (congrArg AV.bool (by rw [hs,hlt6]))
       ·rw [decide_eq_false (by omega)] at hs
        have hlt6:decide ((i:Int)<(nl:Int))=false:=decide_eq_false (by omega)
        (repeat' ((conv=>whnf);(first|(refine IfN.id ?_;first|refine IfN.tt rfl ?_|refine IfN.dT (by omega) ?_|fail)|(refine zae _ _ Cst.h Cst.h ?_ ?_;· omega)|(refine SideN.mk ?_ ?_;· first|kernel_rfl|omega|exact List.cons_ne_nil _ _|fail)|refine CallD.det _ (fun _ hq X=>hx _) ?_|refine zag fo0 i rfl hlt zat hw ?_|refine zap [] ?_|fail)));conv=>whnf
        (refine ⟨⟨i+1,by show i+1≤_;omega,by omega,?_,.inr ?_,rfl,_,rfl,?_⟩⟩;rotate_left 2;exact .inl rfl;all_goals (repeat' (first|exact trivial|refine ⟨⟨_,rfl,?_⟩,?_⟩|fail));all_goals try exact Wk.refl _)
        exact zab (congrArg AV.bool (by rw [hs,hlt6]))
    ·obtain rfl:i=lr.length:=by omega
     rw [hdf v]
     cases hf:falBG L R v with
     | false =>
       (repeat' ((conv=>whnf);(first|(refine IfN.id ?_;first|refine IfN.ff rfl ?_|refine zak (by omega) ?_|fail)|(refine zae _ _ Cst.h Cst.h ?_ ?_;· omega)|fail)));conv=>whnf
       (refine ⟨⟨v+1,⟨by omega,fun u hu=>by
        by_cases e:u=v
        ·rw [e];exact hf
        ·exact hno u (by omega)⟩,by omega,?_,.inr ?_,rfl,_,rfl,?_⟩⟩;rotate_left 2;exact .inl rfl;all_goals (repeat' (first|exact trivial|refine ⟨⟨_,rfl,?_⟩,?_⟩|fail));all_goals exact Wk.refl _)
     | true =>
       have hfind:(List.range S).find? (falBG L R)=some v:=List.find?_range_eq_some.2 ⟨hf,List.mem_range.2 (by omega),fun u hu=>by rw [hno u hu];rfl⟩
       rw [hfind]
       (repeat' ((conv=>whnf);(first|(refine IfN.id ?_;first|refine IfN.tt rfl ?_|refine zak (by omega) ?_|fail)|fail)));conv=>whnf
       exact eT ⟨trivial,trivial,trivial,trivial⟩
   ·have hfind:(List.range S).find? (falBG L R)=none:=List.find?_range_eq_none.2 fun u hu=>by rw [hno u (by omega)];rfl
    rw [hfind]
    exact eT ⟨trivial,trivial,trivial,trivial⟩
theorem refEqual_c (f g:Fo) (hf:f.good) (hg:g.good) (hn:szzF f+szzF g≤100000) (H:Heap):VDet Tryz.prog 16 [.agg f.cells,.agg g.cells] H (eqlA f g):=by
 have hz:szzFs [f,g]=szzF f+szzF g:=by simp [szzFs]
 have hA:=zd8 [f,g] ⟨hf,hg,trivial⟩ (by simp) (by omega)
 rw [show [f,g].flatMap Fo.cells=f.cells++g.cells by simp] at hA
 have hRf:=ref10_c f hf (by omega)
 have hRg:=ref10_c g hg (by omega)
 have hV:(∀ x∈[f,g],za1 x=true)→(zal [f,g]).length≤12→∀ x∈[f,g],∀ v:Nat,v≤4096→∀ H,VDet Tryz.prog 50 [.agg x.cells,.sl none (zal [f,g]).length ((zal [f,g]).flatMap encSG),.int .i64 (v:Nat)] H (.bool (evF (vbG (zal [f,g]) v) x)):=fun hr h12 x hx v hv=>value_g x (hr x hx) _ h12 (fun p hp e=>zfs hp (e▸hx) hr) v hv
 have hnb:=fun n=>zah n (zal [f,g])
 have hVf:=fun hr h12=>hV hr h12 f (by simp)
 have hVg:=fun hr h12=>hV hr h12 g (by simp)
 have hrr:za1 f=true→za1 g=true→∀ x∈[f,g],za1 x=true:=fun h1 h2 x hx=>by
  simp only [List.mem_cons,List.not_mem_nil,or_false] at hx
  rcases hx with rfl|rfl <;> assumption
 unfold eqlA eqAllG
 clear hV
 generalize hns:zal [f,g]=ns at *
 obtain ⟨a1,a2,a3,a4,a5,a6,hw,hfb⟩:=zbe f
 obtain ⟨b1,b2,b3,b4,b5,b6,hw2,hgb⟩:=zbe g
 rw [hw,hw2] at hA ⊢
 rw [hw] at hRf hVf
 rw [hw2] at hRg hVg
 have hA:∀ H,VDet Tryz.prog 14 [.sx 2 [.int .u8 (a1:Nat),.str a2,.sl none a3 a4,.sl none a5 a6,.int .u8 (b1:Nat),.str b2,.sl none b3 b4,.sl none b5 b6]] H (.sl none ns.length (ns.flatMap encSG)):=fun H=>za4 (hA H) ⟨wk_sx _ _,trivial⟩
 cases hr1:za1 f with
 | false =>
   rw [hr1] at hRf
   rw [Bool.false_and,if_pos rfl]
   refine fdD Tryz.func16 ⟨rfl,rfl,rfl⟩ fun hcl hbl=>?_
   (repeat' ((conv=>whnf);(first|(refine IfN.id ?_;first|refine IfN.not ?_|refine IfN.ff rfl ?_|fail)|(refine CallN.id ?_;first|refine CallN.det _ (hA _) ?_|refine CallN.det _ (hRf _) ?_|fail)|fail)));conv=>whnf
   exact eT ⟨trivial,trivial,trivial⟩
 | true =>
   rw [hr1] at hRf
   rw [Bool.true_and]
   cases hr2:za1 g with
   | false =>
     rw [hr2] at hRg
     rw [if_pos rfl]
     refine fdD Tryz.func16 ⟨rfl,rfl,rfl⟩ fun hcl hbl=>?_
     (repeat' ((conv=>whnf);(first|(refine IfN.id ?_;first|refine IfN.not ?_|refine IfN.tt rfl ?_|refine IfN.ff rfl ?_|fail)|(refine CallN.id ?_;first|refine CallN.det _ (hA _) ?_|refine CallN.det _ (hRf _) ?_|refine CallN.det _ (hRg _) ?_|fail)|fail)));conv=>whnf
     exact eT ⟨trivial,trivial,trivial⟩
   | true =>
     rw [hr2] at hRg
     rw [if_neg (by decide)]
     have hVf:=hVf (hrr hr1 hr2)
     have hVg:=hVg (hrr hr1 hr2)
     by_cases h12:12<ns.length
     ·rw [if_pos h12]
      refine fdD Tryz.func16 ⟨rfl,rfl,rfl⟩ fun hcl hbl=>?_
      (repeat' ((conv=>whnf);(first|(refine IfN.id ?_;first|refine IfN.not ?_|refine IfN.tt rfl ?_|refine IfN.dT (by omega) ?_|fail)|(refine CallN.id ?_;first|refine CallN.det _ (hA _) ?_|refine CallN.det _ (hRf _) ?_|refine CallN.det _ (hRg _) ?_|fail)|fail)));conv=>whnf
      exact eT ⟨trivial,trivial,trivial⟩
     ·rw [if_neg h12]
      have h2l:=zd3 ns.length (by omega)
      have hVf:=hVf (by omega)
      have hVg:=hVg (by omega)
      generalize hSd:2 ^ ns.length=S at *
      have hsl:1 <<< ns.length=S:=by rw [Nat.one_shiftLeft];exact hSd
      generalize hF:(fun v=>evF (vbG ns v) f)=F at *
      generalize hG:(fun v=>evF (vbG ns v) g)=G at *
      have hVf:∀ v:Nat,v≤4096→∀ H,VDet Tryz.prog 50 [.agg [.int .u8 (a1:Nat),.str a2,.sl none a3 a4,.sl none a5 a6],.sl none ns.length (ns.flatMap encSG),.int .i64 (v:Nat)] H (.bool (F v)):=fun v hv H=>by subst hF;exact hVf v hv H
      have hVg:∀ v:Nat,v≤4096→∀ H,VDet Tryz.prog 50 [.agg [.int .u8 (b1:Nat),.str b2,.sl none b3 b4,.sl none b5 b6],.sl none ns.length (ns.flatMap encSG),.int .i64 (v:Nat)] H (.bool (G v)):=fun v hv H=>by subst hG;exact hVg v hv H
      have hres:((List.range S).all fun v=>evF (vbG ns v) f==evF (vbG ns v) g)=(List.range S).all fun v=>F v==G v:=by subst hF hG;rfl
      rw [hres]
      clear hF hG hres
      refine fdD Tryz.func16 ⟨rfl,rfl,rfl⟩ fun hcl hbl=>?_
      (repeat' ((conv=>whnf);(first|(refine IfN.id ?_;first|refine IfN.not ?_|refine IfN.tt rfl ?_|refine zak (by omega) ?_|fail)|(refine CallN.id ?_;first|refine CallN.det _ (hA _) ?_|refine CallN.det _ (hRf _) ?_|refine CallN.det _ (hRg _) ?_|fail)|fail)));conv=>whnf
      refine zax Tryz.E0 zao (σ:=Nat) (fun v=>v≤S∧∀ u,u<v→F u=G u) (fun v=>S-v) (fun v=>[(7,.v (.int .i64 v))]) (fun j=>_) _ 0 rfl hcl [2,3,6] rfl ⟨Nat.zero_le _,fun i hi=>absurd hi (by omega)⟩ ⟨⟨_,rfl,Wk.refl _⟩,trivial⟩ rfl (fun _ _=>rfl) ?_
      rintro v ⟨hv,hno⟩
      rcases Nat.lt_or_ge v S with hlt|hge
      ·have hq:(v:Int)<((1 <<< ns.length:Nat):Int):=by rw [hsl];omega
       have hx:=hVf v (by omega)
       have hy:=hVg v (by omega)
       cases hfv:F v <;> cases hgv:G v <;> rw [hfv] at hx <;> rw [hgv] at hy
       ·(repeat' ((conv=>whnf);(first|(refine IfN.id ?_;first|refine IfN.tt (decide_eq_true hq) ?_|refine IfN.not ?_|refine IfN.tt rfl ?_|fail)|(refine EqN.id ?_;first|(refine zfy _ _ Cst.h Cst.h rfl ?_ ?_ ?_;(· (repeat' (first|omega|refine And.intro ?_ ?_|exact zay (by omega)|exact zbq (by omega)|refine zdf ?_ ?_|refine zbp ?_ ?_|refine zch ?_ ?_|refine zbg ?_ ?_|refine zci ?_|refine zcj ?_ ?_|refine zck ?_|refine zay ?_|fail)));(· (repeat' (first|omega|refine And.intro ?_ ?_|exact zay (by omega)|exact zbq (by omega)|refine zdf ?_ ?_|refine zbp ?_ ?_|refine zch ?_ ?_|refine zbg ?_ ?_|refine zci ?_|refine zcj ?_ ?_|refine zck ?_|refine zay ?_|fail))))|(refine zae _ _ Cst.h Cst.h ?_ ?_;· omega)|fail)|(refine SideN.mk ?_ ?_;· first|kernel_rfl|omega|fail)|(refine CallD.id ?_;first|refine CallD.det _ (fun _ hq X=>hx _) ?_|refine CallD.det _ (fun _ hq X=>hy _) ?_|fail)|refine zap [] ?_|fail)));conv=>whnf
        (refine ⟨⟨v+1,⟨by omega,fun u hu=>by
         by_cases e:u=v
         ·rw [e,hfv,hgv]
         ·exact hno u (by omega)⟩,by omega,?_,.inl ⟨rfl,rfl⟩,rfl,_,rfl,?_⟩⟩;rotate_left 1;exact .inl rfl;exact ⟨⟨_,rfl,Wk.refl _⟩,trivial⟩)
       ·(repeat' ((conv=>whnf);(first|(refine IfN.id ?_;first|refine IfN.tt (decide_eq_true hq) ?_|refine IfN.not ?_|refine IfN.ff rfl ?_|fail)|(refine zfy _ _ Cst.h Cst.h rfl ?_ ?_ ?_;(· (repeat' (first|omega|refine And.intro ?_ ?_|exact zay (by omega)|exact zbq (by omega)|refine zdf ?_ ?_|refine zbp ?_ ?_|refine zch ?_ ?_|refine zbg ?_ ?_|refine zci ?_|refine zcj ?_ ?_|refine zck ?_|refine zay ?_|fail)));(· (repeat' (first|omega|refine And.intro ?_ ?_|exact zay (by omega)|exact zbq (by omega)|refine zdf ?_ ?_|refine zbp ?_ ?_|refine zch ?_ ?_|refine zbg ?_ ?_|refine zci ?_|refine zcj ?_ ?_|refine zck ?_|refine zay ?_|fail))))|(refine SideN.mk ?_ ?_;· first|kernel_rfl|omega|fail)|(refine CallD.id ?_;first|refine CallD.det _ (fun _ hq X=>hx _) ?_|refine CallD.det _ (fun _ hq X=>hy _) ?_|fail)|refine zap [] ?_|fail)));conv=>whnf
        refine EndN.det ⟨trivial,trivial,trivial⟩ (zab ?_)
        rw [show ((List.range S).all fun v=>F v==G v)=false from Bool.eq_false_iff.2 fun hA=>by
         have:=List.all_eq_true.1 hA v (List.mem_range.2 hlt)
         rw [hfv,hgv] at this
         cases this]
       ·(repeat' ((conv=>whnf);(first|(refine IfN.id ?_;first|refine IfN.tt (decide_eq_true hq) ?_|refine IfN.not ?_|refine IfN.ff rfl ?_|fail)|(refine zfy _ _ Cst.h Cst.h rfl ?_ ?_ ?_;(· (repeat' (first|omega|refine And.intro ?_ ?_|exact zay (by omega)|exact zbq (by omega)|refine zdf ?_ ?_|refine zbp ?_ ?_|refine zch ?_ ?_|refine zbg ?_ ?_|refine zci ?_|refine zcj ?_ ?_|refine zck ?_|refine zay ?_|fail)));(· (repeat' (first|omega|refine And.intro ?_ ?_|exact zay (by omega)|exact zbq (by omega)|refine zdf ?_ ?_|refine zbp ?_ ?_|refine zch ?_ ?_|refine zbg ?_ ?_|refine zci ?_|refine zcj ?_ ?_|refine zck ?_|refine zay ?_|fail))))|(refine SideN.mk ?_ ?_;· first|kernel_rfl|omega|fail)|(refine CallD.id ?_;first|refine CallD.det _ (fun _ hq X=>hx _) ?_|refine CallD.det _ (fun _ hq X=>hy _) ?_|fail)|refine zap [] ?_|fail)));conv=>whnf
        refine EndN.det ⟨trivial,trivial,trivial⟩ (zab ?_)
        rw [show ((List.range S).all fun v=>F v==G v)=false from Bool.eq_false_iff.2 fun hA=>by
         have:=List.all_eq_true.1 hA v (List.mem_range.2 hlt)
         rw [hfv,hgv] at this
         cases this]
       ·(repeat' ((conv=>whnf);(first|(refine IfN.id ?_;first|refine IfN.tt (decide_eq_true hq) ?_|refine IfN.not ?_|refine IfN.tt rfl ?_|fail)|(refine EqN.id ?_;first|(refine zfy _ _ Cst.h Cst.h rfl ?_ ?_ ?_;(· (repeat' (first|omega|refine And.intro ?_ ?_|exact zay (by omega)|exact zbq (by omega)|refine zdf ?_ ?_|refine zbp ?_ ?_|refine zch ?_ ?_|refine zbg ?_ ?_|refine zci ?_|refine zcj ?_ ?_|refine zck ?_|refine zay ?_|fail)));(· (repeat' (first|omega|refine And.intro ?_ ?_|exact zay (by omega)|exact zbq (by omega)|refine zdf ?_ ?_|refine zbp ?_ ?_|refine zch ?_ ?_|refine zbg ?_ ?_|refine zci ?_|refine zcj ?_ ?_|refine zck ?_|refine zay ?_|fail))))|(refine zae _ _ Cst.h Cst.h ?_ ?_;· omega)|fail)|(refine SideN.mk ?_ ?_;· first|kernel_rfl|omega|fail)|(refine CallD.id ?_;first|refine CallD.det _ (fun _ hq X=>hx _) ?_|refine CallD.det _ (fun _ hq X=>hy _) ?_|fail)|refine zap [] ?_|fail)));conv=>whnf
        (refine ⟨⟨v+1,⟨by omega,fun u hu=>by
         by_cases e:u=v
         ·rw [e,hfv,hgv]
         ·exact hno u (by omega)⟩,by omega,?_,.inl ⟨rfl,rfl⟩,rfl,_,rfl,?_⟩⟩;rotate_left 1;exact .inl rfl;exact ⟨⟨_,rfl,Wk.refl _⟩,trivial⟩)
      ·have hq:¬ (v:Int)<((1 <<< ns.length:Nat):Int):=by rw [hsl];omega
       (repeat' ((conv=>whnf);(first|refine IfN.ff (decide_eq_false hq) ?_|(refine zfy _ _ Cst.h Cst.h rfl ?_ ?_ ?_;(· (repeat' (first|omega|refine And.intro ?_ ?_|exact zay (by omega)|exact zbq (by omega)|refine zdf ?_ ?_|refine zbp ?_ ?_|refine zch ?_ ?_|refine zbg ?_ ?_|refine zci ?_|refine zcj ?_ ?_|refine zck ?_|refine zay ?_|fail)));(· (repeat' (first|omega|refine And.intro ?_ ?_|exact zay (by omega)|exact zbq (by omega)|refine zdf ?_ ?_|refine zbp ?_ ?_|refine zch ?_ ?_|refine zbg ?_ ?_|refine zci ?_|refine zcj ?_ ?_|refine zck ?_|refine zay ?_|fail))))|refine SideN.mk (by omega) ?_|fail)));conv=>whnf
       refine EndN.det ⟨trivial,trivial,trivial⟩ (zab ?_)
       rw [show ((List.range S).all fun v=>F v==G v)=true from List.all_eq_true.2 fun u hu=>by
        rw [hno u (by have:=List.mem_range.1 hu;omega)]
        simp]
theorem few5_c (l:List Fo) (hl:l.length≤9223372036854775807) (hg:Fo.goodL l) (H:Heap):VDet Tryz.prog 5 [.sl none l.length (l.flatMap Fo.cells)] H (.bool (fewF l)):=by
 have h:=fewForms_c l hl hg
 have hlb:=fun n=>zam n l
 generalize fewF l=b at *
 generalize l.flatMap Fo.cells=lc at *
 generalize l.length=n at *
 refine fdD Tryz.func5 ⟨rfl,rfl,rfl⟩ fun hcl hbl=>?_
 (repeat' ((conv=>whnf);(first|refine CallN.det _ (h _) ?_|fail)));conv=>whnf
 exact eT trivial
def bP:ByteArray:=⟨#[80]⟩
def bQ:ByteArray:=⟨#[81]⟩
def oP:Fo:=.mk 1 bP [] []
def oQ:Fo:=.mk 1 bQ [] []
def oN:Fo:=.mk 3 .empty [] [oP]
def oImp:Fo:=.mk 6 .empty [] [oP,oQ]
def oOr:Fo:=.mk 5 .empty [] [oP,oQ]
theorem aw_t2:tblA oImp [bP,bQ]=.tup [.sl none 4 [.bool true,.bool true,.bool false,.bool true],.int .i64 0]:=by
 simp only [tblA,errN,inAll,zc6]
 kernel_rfl
theorem aw_t3:tblA oImp [⟨#[65]⟩,bP,bQ]=.tup [.sl none 8 [.bool true,.bool true,.bool false,.bool true,.bool true,.bool true,.bool false,.bool true],.int .i64 0]:=by
 simp only [tblA,errN,inAll,zc6]
 kernel_rfl
theorem aw_t4:evalA oP [bP,bQ] 2=.tup [.bool true,.int .i64 0]:=by kernel_rfl
theorem aw_t5:evalA oP [bQ] 0=.tup [.bool false,.int .i64 6]:=by kernel_rfl
theorem aw_t6:cntA oImp=.tup [.int .i64 3,.int .i64 4,.int .i64 0]:=by
 simp only [cntA,zc6]
 kernel_rfl
theorem aw_t7:folA [oOr,oN] [oQ]=.tup [.bool true,.int .i64 0]:=by
 unfold folA falVG falBG
 simp only [zc6]
 kernel_rfl
theorem aw_t8:flsA [oOr] [oP]=.tup [.int .i64 1,.bool true,.int .i64 0]:=by
 unfold flsA falVG falBG
 simp only [zc6]
 kernel_rfl
theorem aw_t9:flsA [] []=.tup [.int .i64 0,.bool true,.int .i64 0]:=by kernel_rfl
theorem atom_c (s:ByteArray) (H:Heap):VDet Tryz.prog 35 [.str s] H (.agg [.int .u8 (1:Nat),.str s,.sl none 0 [],.sl none 0 []]):=by
 refine fdD Tryz.func35 ⟨rfl,rfl,rfl⟩ fun hcl hbl=>?_
 conv=>whnf
 exact EndN.det (by simp [below,zaf]) (by (repeat' (first|exact trivial|refine And.intro ?_ ?_|exact Wk.refl _|exact zei|refine zdm ?_|fail));done)
theorem join_c (op n:Nat) (c:List AV) (H:Heap) (hc:zaf H.length c):VDet Tryz.prog 36 [.int .u8 (op:Nat),.sl none n c] H (.agg [.int .u8 (op:Nat),.str .empty,.sl none 0 [],.sl none n c]):=by
 refine fdD Tryz.func36 ⟨rfl,rfl,rfl⟩ fun hcl hbl=>?_
 conv=>whnf
 exact EndN.det (by simp [below,zaf,hc]) (by (repeat' (first|exact trivial|refine And.intro ?_ ?_|exact Wk.refl _|exact zei|refine zdm ?_|fail));done)
theorem good_aw:oP.good∧oQ.good∧oN.good∧oImp.good∧oOr.good:=by
 simp [oP,oQ,oN,oImp,oOr,Fo.good,Fo.goodL,Tm.goodL,bP,bQ,maxLen]
 decide
theorem oP_c:oP.cells=[.int .u8 (1:Nat),.str ⟨#[80]⟩,.sl none 0 [],.sl none 0 []]:=zad ..
theorem oQ_c:oQ.cells=[.int .u8 (1:Nat),.str ⟨#[81]⟩,.sl none 0 [],.sl none 0 []]:=zad ..
theorem oN_c:oN.cells=[.int .u8 (3:Nat),.str .empty,.sl none 0 [],.sl none 1 [.int .u8 (1:Nat),.str ⟨#[80]⟩,.sl none 0 [],.sl none 0 []]]:=by
 unfold oN
 rw [zad,List.flatMap_cons,oP_c]
 rfl
theorem o2_c (op:Nat):(Fo.mk op .empty [] [oP,oQ]).cells=[.int .u8 (op:Nat),.str .empty,.sl none 0 [],.sl none 2 [.int .u8 (1:Nat),.str ⟨#[80]⟩,.sl none 0 [],.sl none 0 [],.int .u8 (1:Nat),.str ⟨#[81]⟩,.sl none 0 [],.sl none 0 []]]:=by
 rw [zad,List.flatMap_cons,List.flatMap_cons,oP_c,oQ_c]
 rfl
theorem zcg (l:List Fo):(addGs [] l).length≤szzFs l:=by
 rw [← zdl,zc6]
 have:=zcy l []
 simpa using this
theorem awake_c (H:Heap):VDet Tryz.prog 6 [] H (.bool true):=by
 obtain ⟨gP,gQ,gN,gI,gO⟩:=good_aw
 have sz:szzFs [oImp]≤100∧szzFs [oP]≤100∧szzFs [oOr,oN,oQ]≤100∧szzFs [oOr,oP]≤100:=by decide
 have t2:=fun H=>table_g oImp gI (Nat.le_trans (zcg _) (by omega)) [bP,bQ] (by decide) (by decide) H
 rw [aw_t2] at t2
 have t3:=fun H=>table_g oImp gI (Nat.le_trans (zcg _) (by omega)) [⟨#[65]⟩,bP,bQ] (by decide) (by decide) H
 rw [aw_t3] at t3
 have e2:=fun H=>eval_g oP gP (Nat.le_trans (zcg _) (by omega)) [bP,bQ] (by decide) (by decide) 2 H
 rw [aw_t4] at e2
 have e1:=fun H=>eval_g oP gP (Nat.le_trans (zcg _) (by omega)) [bQ] (by decide) (by decide) 0 H
 rw [aw_t5] at e1
 have ci:=fun H=>count_g oImp gI (Nat.le_trans (zcg _) (by omega)) H
 rw [aw_t6] at ci
 have fo:=fun H=>zgu [oOr,oN] [oQ] ⟨gO,gN,trivial⟩ ⟨gQ,trivial⟩ ⟨gO,gN,gQ,trivial⟩ (Nat.le_trans (zcg [oOr,oN,oQ]) (by omega)) (by decide) H
 rw [aw_t7] at fo
 have fa:=fun H=>zee [oOr] [oP] ⟨gO,trivial⟩ ⟨gP,trivial⟩ ⟨gO,gP,trivial⟩ (Nat.le_trans (zcg [oOr,oP]) (by omega)) (by decide) H
 rw [aw_t8] at fa
 have fn:=fun H=>zee [] [] trivial trivial trivial (by decide) (by decide) H
 rw [aw_t9] at fn
 have hI:oImp.cells=_:=o2_c 6
 have hO:oOr.cells=_:=o2_c 5
 simp only [List.flatMap_cons,List.flatMap_nil,List.append_nil,hI,hO,oP_c,oQ_c,oN_c,encSG,bP,bQ,List.length_cons,List.length_nil,List.cons_append,List.nil_append] at t2 t3 e2 e1 ci fo fa fn
 clear hI hO sz gP gQ gN gI gO
 have aP:=atom_c ⟨#[80]⟩
 have aQ:=atom_c ⟨#[81]⟩
 have t2:∀ H,VDet Tryz.prog 20 [.agg [.int .u8 (6:Nat),.str .empty,.sl none 0 [],.sl none 2 [.int .u8 (1:Nat),.str ⟨#[80]⟩,.sl none 0 [],.sl none 0 [],.int .u8 (1:Nat),.str ⟨#[81]⟩,.sl none 0 [],.sl none 0 []]],.sx 2 [.str ⟨#[80]⟩,.str ⟨#[81]⟩]] H _:=fun H=>za4 (t2 H) ⟨Wk.refl _,wk_sx _ _,trivial⟩
 have t3:∀ H,VDet Tryz.prog 20 [.agg [.int .u8 (6:Nat),.str .empty,.sl none 0 [],.sl none 2 [.int .u8 (1:Nat),.str ⟨#[80]⟩,.sl none 0 [],.sl none 0 [],.int .u8 (1:Nat),.str ⟨#[81]⟩,.sl none 0 [],.sl none 0 []]],.sx 3 [.str ⟨#[65]⟩,.str ⟨#[80]⟩,.str ⟨#[81]⟩]] H _:=fun H=>za4 (t3 H) ⟨Wk.refl _,wk_sx _ _,trivial⟩
 have e2:∀ H,VDet Tryz.prog 19 [.agg [.int .u8 (1:Nat),.str ⟨#[80]⟩,.sl none 0 [],.sl none 0 []],.sx 2 [.str ⟨#[80]⟩,.str ⟨#[81]⟩],.int .i64 2] H _:=fun H=>za4 (e2 H) ⟨Wk.refl _,wk_sx _ _,Wk.refl _,trivial⟩
 have e1:∀ H,VDet Tryz.prog 19 [.agg [.int .u8 (1:Nat),.str ⟨#[80]⟩,.sl none 0 [],.sl none 0 []],.sx 1 [.str ⟨#[81]⟩],.int .i64 0] H _:=fun H=>za4 (e1 H) ⟨Wk.refl _,wk_sx _ _,Wk.refl _,trivial⟩
 have fo:∀ H,VDet Tryz.prog 9 [.agg [.sx 2 [.int .u8 (5:Nat),.str .empty,.sl none 0 [],.sl none 2 [.int .u8 (1:Nat),.str ⟨#[80]⟩,.sl none 0 [],.sl none 0 [],.int .u8 (1:Nat),.str ⟨#[81]⟩,.sl none 0 [],.sl none 0 []],.int .u8 (3:Nat),.str .empty,.sl none 0 [],.sl none 1 [.int .u8 (1:Nat),.str ⟨#[80]⟩,.sl none 0 [],.sl none 0 []]],.sx 1 [.int .u8 (1:Nat),.str ⟨#[81]⟩,.sl none 0 [],.sl none 0 []]]] H _:=fun H=>za4 (fo H) ⟨zdm ⟨wk_sx _ _,wk_sx _ _,trivial⟩,trivial⟩
 have fa:∀ H,VDet Tryz.prog 8 [.agg [.sx 1 [.int .u8 (5:Nat),.str .empty,.sl none 0 [],.sl none 2 [.int .u8 (1:Nat),.str ⟨#[80]⟩,.sl none 0 [],.sl none 0 [],.int .u8 (1:Nat),.str ⟨#[81]⟩,.sl none 0 [],.sl none 0 []]],.sx 1 [.int .u8 (1:Nat),.str ⟨#[80]⟩,.sl none 0 [],.sl none 0 []]]] H _:=fun H=>za4 (fa H) ⟨zdm ⟨wk_sx _ _,wk_sx _ _,trivial⟩,trivial⟩
 have fn:∀ H,VDet Tryz.prog 8 [.agg [.nils,.nils]] H _:=fun H=>za4 (fn H) ⟨zdm ⟨zei,zei,trivial⟩,trivial⟩
 have j1:∀ H,VDet Tryz.prog 36 [.int .u8 (6:Nat),.sx 2 [.int .u8 (1:Nat),.str ⟨#[80]⟩,.sl none 0 [],.sl none 0 [],.int .u8 (1:Nat),.str ⟨#[81]⟩,.sl none 0 [],.sl none 0 []]] H (.agg [.int .u8 (6:Nat),.str .empty,.sl none 0 [],.sl none 2 [.int .u8 (1:Nat),.str ⟨#[80]⟩,.sl none 0 [],.sl none 0 [],.int .u8 (1:Nat),.str ⟨#[81]⟩,.sl none 0 [],.sl none 0 []]]):=fun H=>za4 (join_c 6 2 _ H (by simp [zaf,below])) ⟨Wk.refl _,wk_sx _ _,trivial⟩
 have j2:∀ H,VDet Tryz.prog 36 [.int .u8 (5:Nat),.sx 2 [.int .u8 (1:Nat),.str ⟨#[80]⟩,.sl none 0 [],.sl none 0 [],.int .u8 (1:Nat),.str ⟨#[81]⟩,.sl none 0 [],.sl none 0 []]] H (.agg [.int .u8 (5:Nat),.str .empty,.sl none 0 [],.sl none 2 [.int .u8 (1:Nat),.str ⟨#[80]⟩,.sl none 0 [],.sl none 0 [],.int .u8 (1:Nat),.str ⟨#[81]⟩,.sl none 0 [],.sl none 0 []]]):=fun H=>za4 (join_c 5 2 _ H (by simp [zaf,below])) ⟨Wk.refl _,wk_sx _ _,trivial⟩
 have j3:∀ H,VDet Tryz.prog 36 [.int .u8 (3:Nat),.sx 1 [.int .u8 (1:Nat),.str ⟨#[80]⟩,.sl none 0 [],.sl none 0 []]] H (.agg [.int .u8 (3:Nat),.str .empty,.sl none 0 [],.sl none 1 [.int .u8 (1:Nat),.str ⟨#[80]⟩,.sl none 0 [],.sl none 0 []]]):=fun H=>za4 (join_c 3 1 _ H (by simp [zaf,below])) ⟨Wk.refl _,wk_sx _ _,trivial⟩
 refine fdD Tryz.func6 ⟨rfl,rfl,rfl⟩ fun hcl hbl=>?_
 (repeat' ((conv=>whnf);(first|(refine IfN.id ?_;first|refine IfN.not ?_|refine IfN.tt rfl ?_|fail)|(refine zae _ _ Cst.h Cst.h ?_ ?_;· omega)|(refine CallN.id ?_;first|refine CallN.det _ (aP _) ?_|refine CallN.det _ (aQ _) ?_|refine CallN.det _ (j1 _) ?_|refine CallN.det _ (t2 _) ?_|refine CallN.det _ (t3 _) ?_|fail)|fail)));conv=>whnf
 refine LoopN.rounds Tryz.E0 zao 5 rfl ?_
 (repeat' ((conv=>whnf);(first|(refine IfN.id ?_;first|refine IfN.not ?_|refine IfN.tt rfl ?_|refine IfN.ff rfl ?_|fail)|(refine zae _ _ Cst.h Cst.h ?_ ?_;· omega)|(refine SideN.mk ?_ ?_;· first|kernel_rfl|omega|exact List.cons_ne_nil _ _|fail)|(refine CallN.id ?_;first|refine CallN.det _ (j2 _) ?_|refine CallN.det _ (e2 _) ?_|refine CallN.det _ (e1 _) ?_|refine CallN.det _ (ci _) ?_|refine CallN.det _ (fa _) ?_|refine CallN.det _ (fn _) ?_|fail)|(refine CallD.id ?_;first|refine CallD.det _ (fun _ hq X=>j3 _) ?_|refine CallD.det _ (fun _ hq X=>fo _) ?_|fail)|refine SegN.mk _ (zb3 rfl) ?_|refine zap [] ?_|fail)));conv=>whnf
 exact EndN.det trivial (zab (by kernel_rfl))
theorem fls_ex (L R:List Fo):∃ (v:Int) (b:Bool) (e:Int),flsA L R=.tup [.int .i64 v,.bool b,.int .i64 e]∧folA L R=.tup [.bool (e==0&&!b),.int .i64 e]:=by
 unfold flsA folA
 split
 ·exact ⟨0,false,2,rfl,rfl⟩
 ·split
  ·exact ⟨0,false,5,rfl,rfl⟩
  ·cases falVG L R with
   | none=>exact ⟨0,false,0,rfl,rfl⟩
   | some v=>exact ⟨v,true,0,rfl,rfl⟩
theorem eql_ex (f g:Fo):∃ (b:Bool) (e:Int),eqlA f g=.tup [.bool b,.int .i64 e]:=by
 unfold eqlA
 split
 ·exact ⟨_,_,rfl⟩
 ·split <;> exact ⟨_,_,rfl⟩
theorem SegN.eqC {l l2:List AV} {o:Nat} {k:List AV→Prop} (e:l=l2) (h:SegN l2 o k):SegN l o k:=e▸h
theorem falsifies_A (L R:List Fo) (hL:Fo.goodL L) (hR:Fo.goodL R) (hlr:L.length+R.length≤1048576) (h0:0<L.length) (H:Heap):VDet Tryz.prog 3 [.agg (seqC L R)] H (.bool true):=by
 have hg:Fo.goodL (L++R):=zda _ fun x hx=>by
  rcases List.mem_append.1 hx with h|h
  ·exact goodL_mem h hL
  ·exact goodL_mem h hR
 have h6:=awake_c
 have h5:∀ (t:Nat) H,VDet Tryz.prog 5 [.sl (some t) (L++R).length ((L++R).flatMap Fo.cells)] H (.bool (fewF (L++R))):=fun t H=>za4 (few5_c (L++R) (by rw [List.length_append];omega) hg H) ⟨wk_sl _ _ _,trivial⟩
 have l1:=zfg L
 have l2:=zfg R
 have o2:=fo_one R
 have b1:=fun n=>zam n L
 have b2:=fun n=>zam n R
 rw [List.flatMap_append,List.length_append] at h5
 by_cases hbig:10<L.length+R.length∨fewF (L++R)=false
 ·unfold seqC
  generalize L.flatMap Fo.cells=cl at *
  generalize R.flatMap Fo.cells=cr at *
  generalize hbf:fewF (L++R)=bf at *
  generalize L.length=nl at *
  generalize R.length=nr at *
  have h5:∀ t H,VDet Tryz.prog 5 [.sl (some t) (0+nl+nr) ([]++cl++cr)] H (.bool bf):=fun t H=>by rw [Nat.zero_add,List.nil_append];exact h5 t H
  rcases Nat.lt_or_ge 10 (nl+nr) with h10|h10
  ·refine fdD Tryz.func3 ⟨rfl,rfl,rfl⟩ fun hcl hbl=>?_
   (repeat' ((conv=>whnf);(first|refine IfN.dT (by omega) ?_|refine SideN.mk (by kernel_rfl) ?_|refine CallN.det _ (h6 _) ?_|(refine OrN.l ?_;refine SideN.mk (show AppX 0 nl 4 72 [] cl from ⟨h0,rfl,l1,by omega,by unfold maxLen;omega⟩) ?_)|refine SideN.mk (show AppT ([]++cl).length (0+nl) nr 4 72 ([]++cl) cr from ⟨rfl,o2,l2,by omega,by unfold maxLen;omega⟩) ?_|refine PtrN.loc _ rfl ?_|refine zap [] ?_|fail)));conv=>whnf
   exact eT trivial
  ·obtain rfl:bf=false:=hbig.resolve_left (by omega)
   refine fdD Tryz.func3 ⟨rfl,rfl,rfl⟩ fun hcl hbl=>?_
   (repeat' ((conv=>whnf);(first|(refine IfN.id ?_;first|refine IfN.not ?_|refine IfN.ff rfl ?_|refine zak (by omega) ?_|fail)|refine SideN.mk (by kernel_rfl) ?_|(refine CallN.id ?_;first|refine CallN.det _ (h6 _) ?_|refine CallN.det _ (h5 _ _) ?_|fail)|(refine OrN.l ?_;refine SideN.mk (show AppX 0 nl 4 72 [] cl from ⟨h0,rfl,l1,by omega,by unfold maxLen;omega⟩) ?_)|refine SideN.mk (show AppT ([]++cl).length (0+nl) nr 4 72 ([]++cl) cr from ⟨rfl,o2,l2,by omega,by unfold maxLen;omega⟩) ?_|refine PtrN.loc _ rfl ?_|refine zap [] ?_|fail)));conv=>whnf
   exact eT trivial
 ·have h10:L.length+R.length≤10:=by omega
  have hfw:fewF (L++R)=true:=by
   cases h:fewF (L++R) with
   | true=>rfl
   | false=>exact absurd (.inr h) hbig
  rw [hfw] at h5
  have hsz:szzFs (L++R)≤600:=by
   rw [zbc]
   exact of_decide_eq_true hfw
  have hsmx:∀ x∈L++R,smF x:=fun x hx=>smF_of x (goodL_mem hx hg) (Nat.le_trans (zcu hx) (by omega))
  have hsL:=fun x hx=>hsmx x (List.mem_append_left _ hx)
  have hsR:=fun x hx=>hsmx x (List.mem_append_right _ hx)
  have hnm:(addGs [] (L++R)).length≤100000:=Nat.le_trans (zcg _) (by omega)
  have hzL:szzFs L≤600:=by
   have:=szzFs_take (L++R) L.length
   rw [List.take_left] at this
   omega
  have hnL:(addGs [] L).length≤100000:=Nat.le_trans (zcg _) (by omega)
  have h7:=lentSeq_c L R (by omega) (by omega) hsL hsR
  have h8:∀ H,VDet Tryz.prog 8 [.agg (lnS L R)] H (flsA L R):=fun H=>za4 (zee L R hL hR hg hnm (by omega) H) ⟨zdm ⟨zcp (zbz L),zcp (zbz R),trivial⟩,trivial⟩
  have h9:∀ H,VDet Tryz.prog 9 [.agg (lnS L R)] H (folA L R):=fun H=>za4 (zgu L R hL hR hg hnm (by omega) H) ⟨zdm ⟨zcp (zbz L),zcp (zbz R),trivial⟩,trivial⟩
  have hat:∀ H,VDet Tryz.prog 10 [.sk L.length (L.length+12) (lnFs L++mksF 12)] H (.sl none (zal L).length ((zal L).flatMap encSG)):=fun H=>za4 (atoms_g L hL (by omega) hnL H) ⟨zcp (zbz L),trivial⟩
  have hk:=keptSeq_c L R (by omega) (by omega) hsL hsR
  have h12:=refFals_c L R hg (by omega) (by omega)
  have h14:=zd8 L hL (by omega) (by omega)
  have hnl:(zal L).length≤1000000:=by rw [zdl];omega
  have h13:=zf8 (zal L) hnl
  have hnb:=fun n=>zah n (zal L)
  obtain ⟨v,b,e,hfl,hfo⟩:=fls_ex L R
  rw [hfl] at h8 h12
  rw [hfo] at h9
  have b3:=fun n=>zbd n L
  have b4:=fun n=>zbd n R
  have b5:=fun n=>zbj n 12
  have h5:∀ t H,VDet Tryz.prog 5 [.sl (some t) (0+L.length+R.length) ([]++L.flatMap Fo.cells++R.flatMap Fo.cells)] H (.bool true):=fun t H=>by rw [Nat.zero_add,List.nil_append];exact h5 t H
  generalize (zal L).flatMap encSG=na at *
  generalize (zal L).length=nn at *
  unfold seqC at h7 hk h12 ⊢
  unfold lnS at h7 h8 h9 hk
  rcases Nat.lt_or_ge 1 (L.length+R.length) with h2|h2
  ·have h2l:1<(L++R).length:=by rw [List.length_append];exact h2
   have m0:=zan (L++R) 0 fo0 (by omega)
   have m1:=zan (L++R) 1 fo0 h2l
   have hz2:szzFs [(L++R).getD 0 fo0,(L++R).getD 1 fo0]≤10000:=by
    have q0:=zcu m0
    have q1:=zcu m1
    simp only [szzFs]
    omega
   have h15:=equal_g _ _ (goodL_mem m0 hg) (goodL_mem m1 hg) (Nat.le_trans (zcg [(L++R).getD 0 fo0,(L++R).getD 1 fo0]) (by omega))
   have h16:=refEqual_c _ _ (goodL_mem m0 hg) (goodL_mem m1 hg) (by
    have q0:=zcu m0
    have q1:=zcu m1
    omega)
   obtain ⟨u,w,hel⟩:=eql_ex ((L++R).getD 0 fo0) ((L++R).getD 1 fo0)
   rw [hel] at h15 h16
   obtain ⟨c1,c2,c3,c4,c5,c6,hw,hfb⟩:=zbe ((L++R).getD 0 fo0)
   obtain ⟨d1,d2,d3,d4,d5,d6,hw2,hgb⟩:=zbe ((L++R).getD 1 fo0)
   rw [hw,hw2] at h15 h16
   have hcc:[]++L.flatMap Fo.cells++R.flatMap Fo.cells=(L++R).flatMap Fo.cells:=by rw [List.nil_append,List.flatMap_append]
   clear hsmx hsL hsR hg hL hR hnm hzL hnL hfl hfo hfw hbig hel m0 m1 hz2
   generalize L++R=lr at *
   generalize L.flatMap Fo.cells=cl at *
   generalize R.flatMap Fo.cells=cr at *
   generalize lnFs L=dl at *
   generalize lnFs R=dr at *
   generalize mksF 12=mk at *
   generalize L.length=nl at *
   generalize R.length=nr at *
   refine fdD Tryz.func3 ⟨rfl,rfl,rfl⟩ fun hcl hbl=>?_
   (repeat' ((conv=>whnf);(first|(refine IfN.id ?_;first|refine IfN.not ?_|refine IfN.tt rfl ?_|refine IfN.dT (by omega) ?_|refine zak (by omega) ?_|refine za2 (fun _=>?_) (fun _=>?_)|fail)|(refine SideN.mk ?_ ?_;· first|kernel_rfl|omega|exact List.cons_ne_nil _ _|fail)|(refine CallN.id ?_;first|refine CallN.det _ (h6 _) ?_|refine CallN.det _ (h5 _ _) ?_|refine CallN.det _ (h7 _) ?_|refine CallN.det _ (h8 _) ?_|refine CallN.det _ (h9 _) ?_|refine CallN.det _ (hat _) ?_|refine CallN.det _ (hk _) ?_|refine CallN.det _ (h12 _) ?_|refine CallN.det _ (h13 _) ?_|refine CallN.det _ (h14 _) ?_|fail)|(refine CallD.id ?_;first|refine CallD.det _ (fun _ hq X=>h15 _) ?_|refine CallD.det _ (fun _ hq X=>h16 _) ?_|fail)|refine SegN.eqC hcc (zag fo0 0 rfl (by omega) zat hw ?_)|refine SegN.eqC hcc (zag fo0 1 rfl h2l zat hw2 ?_)|(refine OrN.l ?_;refine SideN.mk (show AppX 0 nl 4 72 [] cl from ⟨h0,rfl,l1,by omega,by unfold maxLen;omega⟩) ?_)|refine SideN.mk (show AppT ([]++cl).length (0+nl) nr 4 72 ([]++cl) cr from ⟨rfl,o2,l2,by omega,by unfold maxLen;omega⟩) ?_|refine PtrN.loc _ rfl ?_|refine zap [] ?_|fail)));all_goals (conv=>whnf)
   all_goals first|exact eT trivial|(exfalso;simp_all;done)|trace_state
  ·generalize L.flatMap Fo.cells=cl at *
   generalize R.flatMap Fo.cells=cr at *
   generalize lnFs L=dl at *
   generalize lnFs R=dr at *
   generalize mksF 12=mk at *
   generalize L.length=nl at *
   generalize R.length=nr at *
   clear hsmx hsL hsR hg hL hR hnm hzL hnL hfl hfo hfw hbig
   refine fdD Tryz.func3 ⟨rfl,rfl,rfl⟩ fun hcl hbl=>?_
   (repeat' ((conv=>whnf);(first|(refine IfN.id ?_;first|refine IfN.tt (beq_self_eq_true e) ?_|refine IfN.tt (beq_self_eq_true v) ?_|refine IfN.tt (beq_self_eq_true b) ?_|refine IfN.not ?_|refine IfN.tt rfl ?_|refine IfN.dT (by omega) ?_|refine zak (by omega) ?_|refine za2 (fun _=>?_) (fun _=>?_)|fail)|refine SideN.mk (by kernel_rfl) ?_|(refine CallN.id ?_;first|refine CallN.det _ (h6 _) ?_|refine CallN.det _ (h5 _ _) ?_|refine CallN.det _ (h7 _) ?_|refine CallN.det _ (h8 _) ?_|refine CallN.det _ (h9 _) ?_|refine CallN.det _ (hat _) ?_|refine CallN.det _ (hk _) ?_|refine CallN.det _ (h12 _) ?_|refine CallN.det _ (h13 _) ?_|refine CallN.det _ (h14 _) ?_|fail)|(refine OrN.l ?_;refine SideN.mk (show AppX 0 nl 4 72 [] cl from ⟨h0,rfl,l1,by omega,by unfold maxLen;omega⟩) ?_)|refine SideN.mk (show AppT ([]++cl).length (0+nl) nr 4 72 ([]++cl) cr from ⟨rfl,o2,l2,by omega,by unfold maxLen;omega⟩) ?_|refine PtrN.loc _ rfl ?_|refine zap [] ?_|fail)));all_goals (conv=>whnf)
   all_goals first|exact eT trivial|(exfalso;simp_all;done)|fail
theorem falsifies_B (L R:List Fo) (hL:Fo.goodL L) (hR:Fo.goodL R) (hlr:L.length+R.length≤1048576) (h0:L.length=0) (h1:0<R.length) (H:Heap):VDet Tryz.prog 3 [.agg (seqC L R)] H (.bool true):=by
 have hg:Fo.goodL (L++R):=zda _ fun x hx=>by
  rcases List.mem_append.1 hx with h|h
  ·exact goodL_mem h hL
  ·exact goodL_mem h hR
 have h6:=awake_c
 have h5:=few5_c (L++R) (by rw [List.length_append];omega) hg
 have e1:L.flatMap Fo.cells=[]:=by rw [List.length_eq_zero_iff.1 h0];rfl
 have l1:=zfg L
 have l2:=zfg R
 have o2:=fo_one R
 have b1:=fun n=>zam n L
 have b2:=fun n=>zam n R
 rw [List.flatMap_append,List.length_append] at h5
 by_cases hbig:10<L.length+R.length∨fewF (L++R)=false
 ·unfold seqC
  generalize L.flatMap Fo.cells=cl at *
  generalize R.flatMap Fo.cells=cr at *
  generalize hbf:fewF (L++R)=bf at *
  generalize L.length=nl at *
  generalize R.length=nr at *
  subst h0 e1
  rcases Nat.lt_or_ge 10 (0+nr) with h10|h10
  ·refine fdD Tryz.func3 ⟨rfl,rfl,rfl⟩ fun hcl hbl=>?_
   (repeat' ((conv=>whnf);(first|refine IfN.dT (by omega) ?_|refine SideN.mk (by kernel_rfl) ?_|refine CallN.det _ (h6 _) ?_|(refine OrN.r ?_;refine OrN.l ?_;refine SideN.mk (show (0:Nat)=0 from rfl) ?_)|(refine OrN.r ?_;refine OrN.r ?_;refine OrN.r ?_;refine SideN.mk (show AppX 0 nr 4 72 [] cr from ⟨h1,rfl,l2,by omega,by unfold maxLen;omega⟩) ?_)|refine zap [] ?_|fail)));conv=>whnf
   exact eT trivial
  ·obtain rfl:bf=false:=hbig.resolve_left (by omega)
   refine fdD Tryz.func3 ⟨rfl,rfl,rfl⟩ fun hcl hbl=>?_
   (repeat' ((conv=>whnf);(first|(refine IfN.id ?_;first|refine IfN.not ?_|refine IfN.ff rfl ?_|refine zak (by omega) ?_|fail)|refine SideN.mk (by kernel_rfl) ?_|(refine CallN.id ?_;first|refine CallN.det _ (h6 _) ?_|refine CallN.det _ (h5 _) ?_|fail)|(refine OrN.r ?_;refine OrN.l ?_;refine SideN.mk (show (0:Nat)=0 from rfl) ?_)|(refine OrN.r ?_;refine OrN.r ?_;refine OrN.r ?_;refine SideN.mk (show AppX 0 nr 4 72 [] cr from ⟨h1,rfl,l2,by omega,by unfold maxLen;omega⟩) ?_)|refine zap [] ?_|fail)));conv=>whnf
   exact eT trivial
 ·have h10:L.length+R.length≤10:=by omega
  have hfw:fewF (L++R)=true:=by
   cases h:fewF (L++R) with
   | true=>rfl
   | false=>exact absurd (.inr h) hbig
  rw [hfw] at h5
  have hsz:szzFs (L++R)≤600:=by
   rw [zbc]
   exact of_decide_eq_true hfw
  have hsmx:∀ x∈L++R,smF x:=fun x hx=>smF_of x (goodL_mem hx hg) (Nat.le_trans (zcu hx) (by omega))
  have hsL:=fun x hx=>hsmx x (List.mem_append_left _ hx)
  have hsR:=fun x hx=>hsmx x (List.mem_append_right _ hx)
  have hnm:(addGs [] (L++R)).length≤100000:=Nat.le_trans (zcg _) (by omega)
  have hzL:szzFs L≤600:=by
   have:=szzFs_take (L++R) L.length
   rw [List.take_left] at this
   omega
  have hnL:(addGs [] L).length≤100000:=Nat.le_trans (zcg _) (by omega)
  have h7:=lentSeq_c L R (by omega) (by omega) hsL hsR
  have h8:∀ H,VDet Tryz.prog 8 [.agg (lnS L R)] H (flsA L R):=fun H=>za4 (zee L R hL hR hg hnm (by omega) H) ⟨zdm ⟨zcp (zbz L),zcp (zbz R),trivial⟩,trivial⟩
  have h9:∀ H,VDet Tryz.prog 9 [.agg (lnS L R)] H (folA L R):=fun H=>za4 (zgu L R hL hR hg hnm (by omega) H) ⟨zdm ⟨zcp (zbz L),zcp (zbz R),trivial⟩,trivial⟩
  have hat:∀ H,VDet Tryz.prog 10 [.sk L.length (L.length+12) (lnFs L++mksF 12)] H (.sl none (zal L).length ((zal L).flatMap encSG)):=fun H=>za4 (atoms_g L hL (by omega) hnL H) ⟨zcp (zbz L),trivial⟩
  have hk:=keptSeq_c L R (by omega) (by omega) hsL hsR
  have h12:=refFals_c L R hg (by omega) (by omega)
  have h14:=zd8 L hL (by omega) (by omega)
  have hnl:(zal L).length≤1000000:=by rw [zdl];omega
  have h13:=zf8 (zal L) hnl
  have hnb:=fun n=>zah n (zal L)
  obtain ⟨v,b,e,hfl,hfo⟩:=fls_ex L R
  rw [hfl] at h8 h12
  rw [hfo] at h9
  have b3:=fun n=>zbd n L
  have b4:=fun n=>zbd n R
  have b5:=fun n=>zbj n 12
  generalize (zal L).flatMap encSG=na at *
  generalize (zal L).length=nn at *
  unfold seqC at h7 hk h12 ⊢
  unfold lnS at h7 h8 h9 hk
  rcases Nat.lt_or_ge 1 (L.length+R.length) with h2|h2
  ·have h2l:1<(L++R).length:=by rw [List.length_append];exact h2
   have m0:=zan (L++R) 0 fo0 (by omega)
   have m1:=zan (L++R) 1 fo0 h2l
   have hz2:szzFs [(L++R).getD 0 fo0,(L++R).getD 1 fo0]≤10000:=by
    have q0:=zcu m0
    have q1:=zcu m1
    simp only [szzFs]
    omega
   have h15:=equal_g _ _ (goodL_mem m0 hg) (goodL_mem m1 hg) (Nat.le_trans (zcg [(L++R).getD 0 fo0,(L++R).getD 1 fo0]) (by omega))
   have h16:=refEqual_c _ _ (goodL_mem m0 hg) (goodL_mem m1 hg) (by
    have q0:=zcu m0
    have q1:=zcu m1
    omega)
   obtain ⟨u,w,hel⟩:=eql_ex ((L++R).getD 0 fo0) ((L++R).getD 1 fo0)
   rw [hel] at h15 h16
   obtain ⟨c1,c2,c3,c4,c5,c6,hw,hfb⟩:=zbe ((L++R).getD 0 fo0)
   obtain ⟨d1,d2,d3,d4,d5,d6,hw2,hgb⟩:=zbe ((L++R).getD 1 fo0)
   rw [hw,hw2] at h15 h16
   have hcc:L.flatMap Fo.cells++R.flatMap Fo.cells=(L++R).flatMap Fo.cells:=by rw [List.flatMap_append]
   clear hsmx hsL hsR hg hL hR hnm hzL hnL hfl hfo hfw hbig hel m0 m1 hz2
   generalize L++R=lr at *
   generalize L.flatMap Fo.cells=cl at *
   generalize R.flatMap Fo.cells=cr at *
   generalize lnFs L=dl at *
   generalize lnFs R=dr at *
   generalize mksF 12=mk at *
   generalize L.length=nl at *
   generalize R.length=nr at *
   subst h0 e1
   refine fdD Tryz.func3 ⟨rfl,rfl,rfl⟩ fun hcl hbl=>?_
   (repeat' ((conv=>whnf);(first|(refine IfN.id ?_;first|refine IfN.not ?_|refine IfN.tt rfl ?_|refine IfN.dT (by omega) ?_|refine zak (by omega) ?_|refine za2 (fun _=>?_) (fun _=>?_)|fail)|(refine SideN.mk ?_ ?_;· first|kernel_rfl|omega|exact List.cons_ne_nil _ _|fail)|(refine CallN.id ?_;first|refine CallN.det _ (h6 _) ?_|refine CallN.det _ (h5 _) ?_|refine CallN.det _ (h7 _) ?_|refine CallN.det _ (h8 _) ?_|refine CallN.det _ (h9 _) ?_|refine CallN.det _ (hat _) ?_|refine CallN.det _ (hk _) ?_|refine CallN.det _ (h12 _) ?_|refine CallN.det _ (h13 _) ?_|refine CallN.det _ (h14 _) ?_|fail)|(refine CallD.id ?_;first|refine CallD.det _ (fun _ hq X=>h15 _) ?_|refine CallD.det _ (fun _ hq X=>h16 _) ?_|fail)|refine SegN.eqC hcc (zag fo0 0 rfl (by omega) zat hw ?_)|refine SegN.eqC hcc (zag fo0 1 rfl h2l zat hw2 ?_)|(refine OrN.r ?_;refine OrN.l ?_;refine SideN.mk (show (0:Nat)=0 from rfl) ?_)|(refine OrN.r ?_;refine OrN.r ?_;refine OrN.r ?_;refine SideN.mk (show AppX 0 nr 4 72 [] cr from ⟨h1,rfl,l2,by omega,by unfold maxLen;omega⟩) ?_)|refine zap [] ?_|fail)));all_goals (conv=>whnf)
   all_goals first|exact eT trivial|(exfalso;simp_all;done)|trace_state
  ·generalize L.flatMap Fo.cells=cl at *
   generalize R.flatMap Fo.cells=cr at *
   generalize lnFs L=dl at *
   generalize lnFs R=dr at *
   generalize mksF 12=mk at *
   generalize L.length=nl at *
   generalize R.length=nr at *
   clear hsmx hsL hsR hg hL hR hnm hzL hnL hfl hfo hfw hbig
   subst h0 e1
   refine fdD Tryz.func3 ⟨rfl,rfl,rfl⟩ fun hcl hbl=>?_
   (repeat' ((conv=>whnf);(first|(refine IfN.id ?_;first|refine IfN.tt (beq_self_eq_true e) ?_|refine IfN.tt (beq_self_eq_true v) ?_|refine IfN.tt (beq_self_eq_true b) ?_|refine IfN.not ?_|refine IfN.tt rfl ?_|refine IfN.dT (by omega) ?_|refine zak (by omega) ?_|refine za2 (fun _=>?_) (fun _=>?_)|fail)|refine SideN.mk (by kernel_rfl) ?_|(refine CallN.id ?_;first|refine CallN.det _ (h6 _) ?_|refine CallN.det _ (h5 _) ?_|refine CallN.det _ (h7 _) ?_|refine CallN.det _ (h8 _) ?_|refine CallN.det _ (h9 _) ?_|refine CallN.det _ (hat _) ?_|refine CallN.det _ (hk _) ?_|refine CallN.det _ (h12 _) ?_|refine CallN.det _ (h13 _) ?_|refine CallN.det _ (h14 _) ?_|fail)|(refine OrN.r ?_;refine OrN.l ?_;refine SideN.mk (show (0:Nat)=0 from rfl) ?_)|(refine OrN.r ?_;refine OrN.r ?_;refine OrN.r ?_;refine SideN.mk (show AppX 0 nr 4 72 [] cr from ⟨h1,rfl,l2,by omega,by unfold maxLen;omega⟩) ?_)|refine zap [] ?_|fail)));all_goals (conv=>whnf)
   all_goals first|exact eT trivial|(exfalso;simp_all;done)|fail
theorem falsifies_C (H:Heap):VDet Tryz.prog 3 [.agg (seqC [] [])] H (.bool true):=by
 have h6:=awake_c
 have h5:∀ H,VDet Tryz.prog 5 [.sx 0 []] H (.bool true):=fun H=>za4 (few5_c [] (by decide) trivial H) ⟨wk_sx _ _,trivial⟩
 have h7:=lentSeq_c [] [] (by decide) (by decide) (fun _ h=>(nomatch h)) (fun _ h=>(nomatch h))
 have h8:∀ H,VDet Tryz.prog 8 [.agg (lnS [] [])] H (flsA [] []):=fun H=>za4 (zee [] [] trivial trivial trivial (by decide) (by decide) H) ⟨zdm ⟨zcp (zbz []),zcp (zbz []),trivial⟩,trivial⟩
 have h9:∀ H,VDet Tryz.prog 9 [.agg (lnS [] [])] H (folA [] []):=fun H=>za4 (zgu [] [] trivial trivial trivial (by decide) (by decide) H) ⟨zdm ⟨zcp (zbz []),zcp (zbz []),trivial⟩,trivial⟩
 have hat:∀ H,VDet Tryz.prog 10 [.sk ([]:List Fo).length (([]:List Fo).length+12) (lnFs []++mksF 12)] H (.sl none (zal []).length ((zal []).flatMap encSG)):=fun H=>za4 (atoms_g [] trivial (by decide) (by decide) H) ⟨zcp (zbz []),trivial⟩
 have hk:=keptSeq_c [] [] (by decide) (by decide) (fun _ h=>(nomatch h)) (fun _ h=>(nomatch h))
 have h12:=refFals_c [] [] trivial (by decide) (by decide)
 have h14:=zd8 [] trivial (by decide) (by decide)
 have hnl:(zal []).length≤1000000:=by rw [zdl];decide
 have h13:=zf8 (zal []) hnl
 have hnb:=fun n=>zah n (zal [])
 obtain ⟨v,b,e,hfl,hfo⟩:=fls_ex [] []
 rw [hfl] at h8 h12
 rw [hfo] at h9
 have b3:=fun n=>zbd n []
 have b5:=fun n=>zbj n 12
 generalize (zal []).flatMap encSG=na at *
 generalize (zal []).length=nn at *
 unfold seqC at h7 hk h12 ⊢
 unfold lnS at h7 h8 h9 hk
 generalize lnFs []=dl at *
 generalize mksF 12=mk at *
 clear hfl hfo
 simp only [List.length_nil,List.flatMap_nil] at *
 refine fdD Tryz.func3 ⟨rfl,rfl,rfl⟩ fun hcl hbl=>?_
 (repeat' ((conv=>whnf);(first|(refine IfN.id ?_;first|refine IfN.tt (beq_self_eq_true e) ?_|refine IfN.tt (beq_self_eq_true v) ?_|refine IfN.tt (beq_self_eq_true b) ?_|refine IfN.not ?_|refine IfN.tt rfl ?_|refine IfN.ff rfl ?_|refine za2 (fun _=>?_) (fun _=>?_)|fail)|refine SideN.mk (by kernel_rfl) ?_|(refine CallN.id ?_;first|refine CallN.det _ (h6 _) ?_|refine CallN.det _ (h5 _) ?_|refine CallN.det _ (h7 _) ?_|refine CallN.det _ (h8 _) ?_|refine CallN.det _ (h9 _) ?_|refine CallN.det _ (hat _) ?_|refine CallN.det _ (hk _) ?_|refine CallN.det _ (h12 _) ?_|refine CallN.det _ (h13 _) ?_|refine CallN.det _ (h14 _) ?_|fail)|(refine OrN.r ?_;refine OrN.l ?_;refine SideN.mk (show (0:Nat)=0 from rfl) ?_)|refine zap [] ?_|fail)));all_goals (conv=>whnf)
 all_goals first|exact eT trivial|(exfalso;simp_all;done)|fail
theorem falsifies_c (L R:List Fo) (hL:Fo.goodL L) (hR:Fo.goodL R) (hlr:L.length+R.length≤1048576) (H:Heap):VDet Tryz.prog 3 [.agg (seqC L R)] H (.bool true):=by
 rcases Nat.eq_zero_or_pos L.length with h0|h0
 ·rcases Nat.eq_zero_or_pos R.length with h1|h1
  ·rw [List.length_eq_zero_iff.1 h0,List.length_eq_zero_iff.1 h1]
   exact falsifies_C H
  ·exact falsifies_B L R hL hR hlr h0 h1 H
 ·exact falsifies_A L R hL hR hlr h0 H
end
end Go.Proofs.YtekhodpmpjehaaaGreatDoor
namespace Go.Proofs.YtekhodpmpjehaaaGreatDoor
section
open Go.ChangeShapes Go.WideShapes Go.ChangeAt Go.RowKit Go.Vsi
theorem mrel_of {g:G} {W:World} {b:Nat} (hg:∀ b o,¬ g.own b o):∀ (l:List AV) (cs:List Value) (o:Nat),LRel g W l cs→(∀ (i:Nat) c,cs[i]? = some c→W.cell? ⟨b,o+i,.none⟩=some c)→MRel g W l b o
 | [],_,_,_,_=>trivial
 | v::l,cs,o,h,hc=>by
   simp only [LRel] at h
   obtain ⟨c,r,rfl,h1,h2⟩:=h
   refine ⟨⟨c,by simpa using hc 0 c rfl,h1,hg _ _⟩,?_⟩
   exact mrel_of hg l r (o+1) h2 fun i c' hi=>by
    have:=hc (i+1) c' (by simpa using hi)
    rwa [show o+(i+1)=o+1+i by omega] at this
theorem mone {W:World} {n:String} {gi:Nat} {ty:TypeId} {T:Ty} {D:DataW Unit} {cells:List AV} {g0:Nat} {t0:TypeId} {cs0:Array Value} {f0:Nat} {p0:List MemPlace}
  (hg:Tryz.prog.globalNamed n=some gi) (ht:(Tryz.prog.globals[gi]?).map (·.type)=some ty) (hty:TyOk Tryz.prog ty T) (hpl:PlTy T) (hD:∃ l',DatOf (H:=Unit) D l'∧l'=cells)
  (hg0:Tryz.prog.globalNamed n=some g0) (ht0:(Tryz.prog.globals[g0]?).map (·.type)=some t0) (hv0:W.var? Tryz.prog n=some cs0) (hd0:DataW.trod (fun _=>()) Tryz.prog W 0 (fun _=>true) false f0 t0 cs0.toList=some (D,p0)):MRel G.none W cells gi 0:=by
 obtain rfl:=Option.some.inj (hg.symm.trans hg0)
 obtain rfl:=Option.some.inj (ht.symm.trans ht0)
 obtain ⟨l,h1,h2⟩:=trod_dat (g:=G.none) _ hpl hty hd0
 obtain ⟨l',hl1,hl2⟩:=hD
 have hll:l=cells:=(DatOf.det h1 hl1).trans hl2
 rw [← hll]
 refine mrel_of (fun _ _ h=>h) l cs0.toList 0 h2 fun i c hi=>?_
 have:=World.var?_cell hg0 hv0 i
 rw [Nat.zero_add,this]
 simpa using hi
theorem gl_of_laid {W:World} (h:laidMetH Tryz.prog [("math/bits.deBruijn64tab",Rows.laid_math_bits_deBruijn64tab),("lyceum/syntax.rows",Rows.laid_lyceum_syntax_rows),("lyceum/truth.patterns",Rows.laid_lyceum_truth_patterns)] W):∀ p∈Glob.gl,MRel G.none W p.2 p.1 0:=by
 rw [MakeChecks.laidMetH_plain _ _ _ (by kernel_rfl)] at h
 obtain ⟨ps,⟨g0,t0,cs0,f0,p0,q0,hg0,ht0,hv0,hd0,⟨g1,t1,cs1,f1,p1,q1,hg1,ht1,hv1,hd1,⟨g2,t2,cs2,f2,p2,q2,hg2,ht2,hv2,hd2,_⟩,_⟩,_⟩,_⟩:=h
 have m0:MRel G.none W (Tryz.gl[1]).2 1 0:=mone (T:=repTy 64 (.int .u8)) (ty:=111) (by kernel_rfl) (by kernel_rfl) (zf4 zfm 12 111 _ (by kernel_rfl)) (by simp [repTy,PlTy]) ⟨_,by unfold Rows.laid_math_bits_deBruijn64tab;repeat constructor,by kernel_rfl⟩ hg0 ht0 hv0 hd0
 have m1:MRel G.none W (Tryz.gl[2]).2 2 0:=mone (T:=repTy 17 (.pair .bool (.pair .bool (.pair (.int .u8) (.pair (.int .i64) (.pair (.int .i64) .unit)))))) (ty:=141) (by kernel_rfl) (by kernel_rfl) (zf4 zfm 12 141 _ (by kernel_rfl)) (by simp [repTy,PlTy]) ⟨_,by unfold Rows.laid_lyceum_syntax_rows;repeat constructor,by kernel_rfl⟩ hg1 ht1 hv1 hd1
 have m2:MRel G.none W (Tryz.gl[0]).2 0 0:=mone (T:=repTy 6 (.int .u64)) (ty:=108) (by kernel_rfl) (by kernel_rfl) (zf4 zfm 12 108 _ (by kernel_rfl)) (by simp [repTy,PlTy]) ⟨_,by unfold Rows.laid_lyceum_truth_patterns;repeat constructor,by kernel_rfl⟩ hg2 ht2 hv2 hd2
 intro p hp
 have hp0:p=Tryz.gl[0]∨p=Tryz.gl[1]∨p=Tryz.gl[2]:=by
  have:p∈Tryz.gl:=hp
  simpa [Tryz.gl] using this
 rcases hp0 with rfl|rfl|rfl
 ·exact m2
 ·exact m0
 ·exact m1
end
end Go.Proofs.YtekhodpmpjehaaaGreatDoor
