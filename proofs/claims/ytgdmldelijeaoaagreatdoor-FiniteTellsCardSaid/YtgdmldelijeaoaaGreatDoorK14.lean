/- A text of the proof: the parts VD41, VE41, VU41, BW41, VV41, VY41, PX41, BL41, BN41, PQ41, PR41, PS41, PT41, BQ41, PZ41, PY41, DZ41. -/
import Derived.ProofKit
import Derived.LaidMore
import Derived.OpenShut
import Derived.Test.YtgdmldelijeaoaaGreatDoorK13
set_option linter.unusedSimpArgs false
set_option linter.unusedVariables false
set_option maxHeartbeats 8000000
namespace Go.Proofs.YtgdmldelijeaoaaGreatDoor
open Go.Vsi
section
attribute [local irreducible] VW VCall VO bits
theorem sb3 (u:ByteArray) (v z:Int):(u.toList==u.toList&&(v==v&&(z==z&&true)))=true:=by simp
theorem sb2 (u:ByteArray) (v:Int):(u.toList==u.toList&&(v==v&&true))=true:=by simp
theorem sameInts_c (l:List Int) (hl:l.length≤1000000) (H:Heap):VDet Tryz.prog 95 [.sl none l.length (l.flatMap enc64),.sl none l.length (l.flatMap enc64)] H (.bool true):=by
 refine fdD Tryz.func95 ⟨rfl,rfl,rfl⟩ fun hcl hbl=>?_
 (repeat' ((conv=>whnf);(first|(refine yai ?_;first|refine yas ?_|refine yar (by omega) ?_|fail)|fail)));conv=>whnf
 refine zax Tryz.E0 zag (σ:=Nat) (fun j=>j≤l.length) (fun j=>l.length-j) (fun j=>[(5,.v (.int .i64 j))]) (fun _=>_) _ 0 rfl hcl [0,1] rfl (yah _) ⟨⟨_,rfl,yae _⟩,trivial⟩ rfl (fun _ _=>rfl) ?_
 intro j hj
 rcases yag j l.length with hlt|hge
 ·obtain ⟨u,q1⟩:∃ u,enc64 (l.getD j 0)=[.int .i64 u]:=⟨_,rfl⟩
  (repeat' ((conv=>whnf);(first|(refine yai ?_;first|refine yaq (beq_self_eq_true _) ?_|refine yas ?_|refine yar (by omega) ?_|fail)|(refine zad _ _ Cst.h Cst.h ?_ ?_;· omega)|(refine yaf ?_ ?_;· first|kernel_rfl|omega|exact yaa _ _|fail)|refine zaa 0 j rfl (by omega) zcu q1 ?_|refine zae [] ?_|fail)));conv=>whnf
  (refine ⟨⟨j+1,by show j+1≤_;omega,by omega,?_,.inl ⟨rfl,rfl⟩,rfl,_,rfl,?_⟩⟩;rotate_left 1;exact .inl rfl;exact ⟨⟨_,rfl,yae _⟩,trivial⟩)
 ·have hje:j=l.length:=by omega
  subst hje
  (repeat' ((conv=>whnf);(first|refine ya1 (by omega) ?_|fail)));conv=>whnf
  exact eT trivial
theorem sameFacts_c (l:List Fct) (hl:l.length≤1000000) (H:Heap):VDet Tryz.prog 96 [.sl none l.length (l.flatMap Fct.cells),.sl none l.length (l.flatMap Fct.cells)] H (.bool true):=by
 refine fdD Tryz.func96 ⟨rfl,rfl,rfl⟩ fun hcl hbl=>?_
 (repeat' ((conv=>whnf);(first|(refine yai ?_;first|refine yas ?_|refine yar (by omega) ?_|fail)|fail)));conv=>whnf
 refine zax Tryz.E0 zag (σ:=Nat) (fun j=>j≤l.length) (fun j=>l.length-j) (fun j=>[(5,.v (.int .i64 j))]) (fun _=>_) _ 0 rfl hcl [0,1] rfl (yah _) ⟨⟨_,rfl,yae _⟩,trivial⟩ rfl (fun _ _=>rfl) ?_
 intro j hj
 rcases yag j l.length with hlt|hge
 ·obtain ⟨u,v,z,-,q1⟩:=zhc (f:=l.getD j fct0) rfl
  (repeat' ((conv=>whnf);(first|(refine yai ?_;first|refine yaq (sb3 _ _ _) ?_|refine yas ?_|refine yar (by omega) ?_|fail)|(refine zad _ _ Cst.h Cst.h ?_ ?_;· omega)|(refine yaf ?_ ?_;· first|kernel_rfl|omega|exact yaa _ _|fail)|refine zaa fct0 j rfl (by omega) zbr q1 ?_|refine zae [] ?_|fail)));conv=>whnf
  (refine ⟨⟨j+1,by show j+1≤_;omega,by omega,?_,.inl ⟨rfl,rfl⟩,rfl,_,rfl,?_⟩⟩;rotate_left 1;exact .inl rfl;exact ⟨⟨_,rfl,yae _⟩,trivial⟩)
 ·have hje:j=l.length:=by omega
  subst hje
  (repeat' ((conv=>whnf);(first|refine ya1 (by omega) ?_|fail)));conv=>whnf
  exact eT trivial
theorem sameBinds_c (l:List Bnd) (hl:l.length≤1000000) (H:Heap):VDet Tryz.prog 98 [.sl none l.length (l.flatMap Bnd.cells),.sl none l.length (l.flatMap Bnd.cells)] H (.bool true):=by
 refine fdD Tryz.func98 ⟨rfl,rfl,rfl⟩ fun hcl hbl=>?_
 (repeat' ((conv=>whnf);(first|(refine yai ?_;first|refine yas ?_|refine yar (by omega) ?_|fail)|fail)));conv=>whnf
 refine zax Tryz.E0 zag (σ:=Nat) (fun j=>j≤l.length) (fun j=>l.length-j) (fun j=>[(5,.v (.int .i64 j))]) (fun _=>_) _ 0 rfl hcl [0,1] rfl (yah _) ⟨⟨_,rfl,yae _⟩,trivial⟩ rfl (fun _ _=>rfl) ?_
 intro j hj
 rcases yag j l.length with hlt|hge
 ·obtain ⟨u,v,-,q1⟩:=zf4 (f:=l.getD j bnd0) rfl
  (repeat' ((conv=>whnf);(first|(refine yai ?_;first|refine yaq (sb2 _ _) ?_|refine yas ?_|refine yar (by omega) ?_|fail)|(refine zad _ _ Cst.h Cst.h ?_ ?_;· omega)|(refine yaf ?_ ?_;· first|kernel_rfl|omega|exact yaa _ _|fail)|refine zaa bnd0 j rfl (by omega) zbs q1 ?_|refine zae [] ?_|fail)));conv=>whnf
  (refine ⟨⟨j+1,by show j+1≤_;omega,by omega,?_,.inl ⟨rfl,rfl⟩,rfl,_,rfl,?_⟩⟩;rotate_left 1;exact .inl rfl;exact ⟨⟨_,rfl,yae _⟩,trivial⟩)
 ·have hje:j=l.length:=by omega
  subst hje
  (repeat' ((conv=>whnf);(first|refine ya1 (by omega) ?_|fail)));conv=>whnf
  exact eT trivial
theorem sameFunc_c (x:Fnc) (hx:x.vl.length≤1000000) (H:Heap):VDet Tryz.prog 171 [.agg x.cells,.agg x.cells] H (.bool true):=by
 have h1:=fun H=>sameInts_c x.vl hx H
 obtain ⟨u,v,z⟩:=x
 unfold Fnc.cells
 simp only at h1 ⊢
 generalize z.flatMap enc64=c at *
 refine fdD Tryz.func171 ⟨rfl,rfl,rfl⟩ fun hcl hbl=>?_
 (repeat' ((conv=>whnf);(first|refine yaq (beq_self_eq_true _) ?_|refine yab _ (h1 _) ?_|fail)));conv=>whnf
 exact eT trivial
theorem sameFuncs_c (l:List Fnc) (hl:l.length≤1000000) (h:∀ x∈l,x.vl.length≤1000000) (H:Heap):VDet Tryz.prog 97 [.sl none l.length (l.flatMap Fnc.cells),.sl none l.length (l.flatMap Fnc.cells)] H (.bool true):=by
 refine fdD Tryz.func97 ⟨rfl,rfl,rfl⟩ fun hcl hbl=>?_
 (repeat' ((conv=>whnf);(first|(refine yai ?_;first|refine yas ?_|refine yar (by omega) ?_|fail)|fail)));conv=>whnf
 refine zax Tryz.E0 zag (σ:=Nat) (fun j=>j≤l.length) (fun j=>l.length-j) (fun j=>[(5,.v (.int .i64 j))]) (fun _=>_) _ 0 rfl hcl [0,1] rfl (yah _) ⟨⟨_,rfl,yae _⟩,trivial⟩ rfl (fun _ _=>rfl) ?_
 intro j hj
 rcases yag j l.length with hlt|hge
 ·have hx:=fun H=>sameFunc_c (l.getD j fnc0) (h _ (zar l j fnc0 hlt)) H
  obtain ⟨u,v,z,-,q1⟩:=zha (f:=l.getD j fnc0) rfl
  rw [q1] at hx
  (repeat' ((conv=>whnf);(first|(refine yai ?_;first|refine yas ?_|refine yaq rfl ?_|refine yar (by omega) ?_|fail)|(refine zad _ _ Cst.h Cst.h ?_ ?_;· omega)|(refine yaf ?_ ?_;· first|kernel_rfl|omega|exact yaa _ _|fail)|refine yan _ (fun _ hq X=>hx _) ?_|refine zaa fnc0 j rfl (by omega) zbw q1 ?_|refine zae [] ?_|fail)));conv=>whnf
  (refine ⟨⟨j+1,by show j+1≤_;omega,by omega,?_,.inl ⟨rfl,rfl⟩,rfl,_,rfl,?_⟩⟩;rotate_left 1;exact .inl rfl;exact ⟨⟨_,rfl,yae _⟩,trivial⟩)
 ·have hje:j=l.length:=by omega
  subst hje
  (repeat' ((conv=>whnf);(first|refine ya1 (by omega) ?_|fail)));conv=>whnf
  exact eT trivial
theorem sameModel_c (m:Mdl) (hm:m.Few) (H:Heap):VDet Tryz.prog 42 [.agg m.cells,.agg m.cells] H (.bool true):=by
 have h1:=fun H=>sameInts_c m.rel hm.rel H
 have h2:=fun H=>sameFacts_c m.facts hm.facts H
 have h3:=fun H=>sameFuncs_c m.funcs hm.funcs hm.vals H
 have h4:=fun H=>sameBinds_c m.binds hm.binds H
 unfold Mdl.cells
 generalize m.rel.flatMap enc64=c1 at *
 generalize m.facts.flatMap Fct.cells=c2 at *
 generalize m.funcs.flatMap Fnc.cells=c3 at *
 generalize m.binds.flatMap Bnd.cells=c4 at *
 refine fdD Tryz.func42 ⟨rfl,rfl,rfl⟩ fun hcl hbl=>?_
 (repeat' ((conv=>whnf);(first|(refine yai ?_;first|refine yaq (beq_self_eq_true _) ?_|refine yaq rfl ?_|fail)|(refine ybm ?_;first|refine yab _ (h1 _) ?_|refine yab _ (h2 _) ?_|refine yab _ (h3 _) ?_|refine yab _ (h4 _) ?_|fail)|fail)));conv=>whnf
 exact eT trivial
def SmTP (x:Tm):Prop:=∀ H,VDet Tryz.prog 123 [.agg x.cells,.agg x.cells] H (.bool true)
def SmFP (x:Fo):Prop:=∀ H,VDet Tryz.prog 81 [.agg x.cells,.agg x.cells] H (.bool true)
theorem sameTerms_c (l:List Tm) (hl:l.length≤1000000) (h:∀ x∈l,SmTP x) (H:Heap):VDet Tryz.prog 157 [.sl none l.length (l.flatMap Tm.cells),.sl none l.length (l.flatMap Tm.cells)] H (.bool true):=by
 refine fdD Tryz.func157 ⟨rfl,rfl,rfl⟩ fun hcl hbl=>?_
 (repeat' ((conv=>whnf);(first|(refine yai ?_;first|refine yas ?_|refine yar (by omega) ?_|fail)|fail)));conv=>whnf
 refine zax Tryz.E0 zag (σ:=Nat) (fun j=>j≤l.length) (fun j=>l.length-j) (fun j=>[(5,.v (.int .i64 j))]) (fun _=>_) _ 0 rfl hcl [0,1] rfl (yah _) ⟨⟨_,rfl,yae _⟩,trivial⟩ rfl (fun _ _=>rfl) ?_
 intro j hj
 rcases yag j l.length with hlt|hge
 ·have hx:=h _ (zar l j tm0 hlt)
  obtain ⟨v,s,a,q1,-⟩:=lnTm_ex (l.getD j tm0)
  unfold SmTP at hx
  rw [q1] at hx
  (repeat' ((conv=>whnf);(first|(refine yai ?_;first|refine yas ?_|refine yaq rfl ?_|refine yar (by omega) ?_|fail)|(refine zad _ _ Cst.h Cst.h ?_ ?_;· omega)|(refine yaf ?_ ?_;· first|kernel_rfl|omega|exact yaa _ _|fail)|refine yan _ (fun _ hq X=>hx _) ?_|refine zaa tm0 j rfl (by omega) zba q1 ?_|refine zae [] ?_|fail)));conv=>whnf
  (refine ⟨⟨j+1,by show j+1≤_;omega,by omega,?_,.inl ⟨rfl,rfl⟩,rfl,_,rfl,?_⟩⟩;rotate_left 1;exact .inl rfl;exact ⟨⟨_,rfl,yae _⟩,trivial⟩)
 ·have hje:j=l.length:=by omega
  subst hje
  (repeat' ((conv=>whnf);(first|refine ya1 (by omega) ?_|fail)));conv=>whnf
  exact eT trivial
theorem sameT_step (v:Bool) (s:ByteArray) (l:List Tm) (hl:l.length≤1000) (h:∀ x∈l,SmTP x):SmTP (.mk v s l):=by
 intro H
 have h1:=fun H=>sameTerms_c l (by omega) h H
 rw [zav]
 generalize l.flatMap Tm.cells=c at *
 refine fdD Tryz.func123 ⟨rfl,rfl,rfl⟩ fun hcl hbl=>?_
 (repeat' ((conv=>whnf);(first|refine yaq (beq_self_eq_true _) ?_|refine yab _ (h1 _) ?_|fail)));conv=>whnf
 exact eT trivial
mutual
theorem sameT_g:∀ x:Tm,smT x→SmTP x
 | .mk v s l,h=>by
   unfold smT at h
   exact sameT_step v s l h.1 (sameTs_g l h.2)
theorem sameTs_g:∀ l:List Tm,smTs l→∀ x∈l,SmTP x
 | [],_,x,hx=>by cases hx
 | y::l,h,x,hx=>by
   unfold smTs at h
   rcases yay.1 hx with e|hx
   ·rw [e]
    exact sameT_g y h.1
   ·exact sameTs_g l h.2 x hx
end
theorem sameForms_c (l:List Fo) (hl:l.length≤1000000) (h:∀ x∈l,SmFP x) (H:Heap):VDet Tryz.prog 158 [.sl none l.length (l.flatMap Fo.cells),.sl none l.length (l.flatMap Fo.cells)] H (.bool true):=by
 refine fdD Tryz.func158 ⟨rfl,rfl,rfl⟩ fun hcl hbl=>?_
 (repeat' ((conv=>whnf);(first|(refine yai ?_;first|refine yas ?_|refine yar (by omega) ?_|fail)|fail)));conv=>whnf
 refine zax Tryz.E0 zag (σ:=Nat) (fun j=>j≤l.length) (fun j=>l.length-j) (fun j=>[(5,.v (.int .i64 j))]) (fun _=>_) _ 0 rfl hcl [0,1] rfl (yah _) ⟨⟨_,rfl,yae _⟩,trivial⟩ rfl (fun _ _=>rfl) ?_
 intro j hj
 rcases yag j l.length with hlt|hge
 ·have hx:=h _ (zar l j fo0 hlt)
  obtain ⟨o,s,a,b,q1,-⟩:=lnFo_ex (l.getD j fo0)
  unfold SmFP at hx
  rw [q1] at hx
  (repeat' ((conv=>whnf);(first|(refine yai ?_;first|refine yas ?_|refine yaq rfl ?_|refine yar (by omega) ?_|fail)|(refine zad _ _ Cst.h Cst.h ?_ ?_;· omega)|(refine yaf ?_ ?_;· first|kernel_rfl|omega|exact yaa _ _|fail)|refine yan _ (fun _ hq X=>hx _) ?_|refine zaa fo0 j rfl (by omega) za4 q1 ?_|refine zae [] ?_|fail)));conv=>whnf
  (refine ⟨⟨j+1,by show j+1≤_;omega,by omega,?_,.inl ⟨rfl,rfl⟩,rfl,_,rfl,?_⟩⟩;rotate_left 1;exact .inl rfl;exact ⟨⟨_,rfl,yae _⟩,trivial⟩)
 ·have hje:j=l.length:=by omega
  subst hje
  (repeat' ((conv=>whnf);(first|refine ya1 (by omega) ?_|fail)));conv=>whnf
  exact eT trivial
theorem sameF_step (op:Nat) (s:ByteArray) (l:List Tm) (m:List Fo) (hl:l.length≤1000) (hlt:∀ x∈l,SmTP x) (hm:m.length≤1000) (h:∀ x∈m,SmFP x):SmFP (.mk op s l m):=by
 intro H
 have h1:=fun H=>sameTerms_c l (by omega) hlt H
 have h2:=fun H=>sameForms_c m (by omega) h H
 rw [zaq]
 generalize l.flatMap Tm.cells=c at *
 generalize m.flatMap Fo.cells=d at *
 refine fdD Tryz.func81 ⟨rfl,rfl,rfl⟩ fun hcl hbl=>?_
 (repeat' ((conv=>whnf);(first|(refine yai ?_;first|refine yaq (beq_self_eq_true _) ?_|refine yaq rfl ?_|fail)|(refine ybm ?_;first|refine yab _ (h1 _) ?_|refine yab _ (h2 _) ?_|fail)|fail)));conv=>whnf
 exact eT trivial
mutual
theorem sameF_g:∀ x:Fo,smF x→SmFP x
 | .mk op s l m,h=>by
   unfold smF at h
   exact sameF_step op s l m h.2.1.1 (sameTs_g l h.2.1.2) h.2.2.1 (sameFs_g m h.2.2.2)
theorem sameFs_g:∀ l:List Fo,smFs l→∀ x∈l,SmFP x
 | [],_,x,hx=>by cases hx
 | y::l,h,x,hx=>by
   unfold smFs at h
   rcases yay.1 hx with e|hx
   ·rw [e]
    exact sameF_g y h.1
   ·exact sameFs_g l h.2 x hx
end
theorem smT_mk0 (i:Nat):smT (mkTm i):=by
 unfold mkTm smT smTs
 exact ⟨yah _,trivial⟩
theorem smF_mk0 (i:Nat):smF (mkFo i):=by
 unfold mkFo smF smTs smFs
 exact ⟨yah _,⟨yah _,trivial⟩,⟨yah _,trivial⟩⟩
theorem all_flat {α:Type} (f:α→List AV) (m:Nat→α) (l:List α):l.flatMap f++mks f m 12=(l++(List.range 12).map m).flatMap f:=by
 rw [yb0]
 congr 1
theorem zg6 {k:Int→Prop} {n i:Nat} (h:i≤12) (a:k i):EqN (IntKind.i64.wrap (((n+i:Nat):Int)-(n:Int))) k:=by
 refine yco (by omega) ?_
 rw [show ((n+i:Nat):Int)-(n:Int)=i by omega]
 exact a
theorem all_g1 {α:Type} (m:Nat→α) (d:α) (l:List α) (j:Nat) (h:j<l.length):(l++(List.range 12).map m).getD j d=l.getD j d:=by
 rw [ybr,yaj h,← ybr]
theorem all_g2 {α:Type} (m:Nat→α) (d:α) (l:List α) (i:Nat) (h:i<12):(l++(List.range 12).map m).getD (l.length+i) d=m i:=by
 rw [ybr,yam (by omega),ybq,ya8,ydn h]
 rfl
theorem all_len {α:Type} (m:Nat→α) (l:List α):(l++(List.range 12).map m).length=l.length+12:=by simp
theorem keptInts_c (l:List Int) (hl:l.length≤1000000) (H:Heap):VDet Tryz.prog 48 [.sk l.length (l.length+12) (l.flatMap enc64++mks enc64 mkI 12),.sl none l.length (l.flatMap enc64)] H (.bool true):=by
 rw [all_flat]
 have g1:=fun j h=>all_g1 mkI (0:Int) l j h
 have g2:=fun i h=>all_g2 mkI (0:Int) l i h
 have gl:=all_len mkI l
 generalize l++(List.range 12).map mkI=A at *
 refine fdD Tryz.func48 ⟨rfl,rfl,rfl⟩ fun hcl hbl=>?_
 (repeat' ((conv=>whnf);(first|(refine OrN.r ?_;(conv=>whnf);refine ydh (l.length+12) (by omega) ?_;(conv=>whnf);refine yaf (by omega) ?_)|(refine yai ?_;first|refine yas ?_|refine yar (by omega) ?_|fail)|refine yco (by omega) ?_|fail)));conv=>whnf
 refine zax Tryz.E0 zag (σ:=Nat) (fun j=>j≤l.length+12) (fun j=>l.length+12-j) (fun j=>[(6,.v (.int .i64 j))]) (fun _=>_) _ 0 rfl hcl [1,5] rfl (yah _) ⟨⟨_,rfl,yae _⟩,trivial⟩ rfl (fun _ _=>rfl) ?_
 intro j hj
 rcases yag j (l.length+12) with hlt|hge
 ·rcases yag j l.length with h1|h1
  ·have e1:=g1 j h1
   obtain ⟨u,q1⟩:∃ u,enc64 (l.getD j 0)=[.int .i64 u]:=⟨_,rfl⟩
   have qA:=q1
   rw [← e1] at qA
   (repeat' ((conv=>whnf);(first|(refine yai ?_;first|refine yaq (beq_self_eq_true _) ?_|refine yas ?_|refine yar (by omega) ?_|refine ya1 (by omega) ?_|fail)|(refine zad _ _ Cst.h Cst.h ?_ ?_;· omega)|(refine yaf ?_ ?_;· first|kernel_rfl|omega|exact yaa _ _|fail)|refine zaa 0 j rfl (by omega) zcu qA ?_|refine zaa 0 j rfl (by omega) zcu q1 ?_|refine zae [] ?_|fail)));conv=>whnf
   (refine ⟨⟨j+1,by show j+1≤_;omega,by omega,?_,.inl ⟨rfl,rfl⟩,rfl,_,rfl,?_⟩⟩;rotate_left 1;exact .inl rfl;exact ⟨⟨_,rfl,yae _⟩,trivial⟩)
  ·obtain ⟨i,rfl⟩:∃ i,j=l.length+i:=⟨j-l.length,by omega⟩
   have hi:i<12:=by omega
   have e1:=g2 i hi
   have hm:=fun H=>markInt_c i hi H
   have qA:enc64 (A.getD (l.length+i) 0)=[.int .i64 (mkI i)]:=by rw [e1];rfl
   generalize mkI i=mi at qA hm
   (repeat' ((conv=>whnf);(first|(refine yai ?_;first|refine yaq (beq_self_eq_true _) ?_|refine yas ?_|refine yar (by omega) ?_|refine ya1 (by omega) ?_|fail)|(refine yc0 ?_;first|refine zg6 (by omega) ?_|(refine zad _ _ Cst.h Cst.h ?_ ?_;· omega)|fail)|(refine yaf ?_ ?_;· first|kernel_rfl|omega|exact yaa _ _|fail)|refine yan _ (fun _ hq X=>hm _) ?_|refine zaa 0 (l.length+i) rfl (by omega) zcu qA ?_|refine zae [] ?_|fail)));conv=>whnf
   (refine ⟨⟨l.length+i+1,by show l.length+i+1≤_;omega,by omega,?_,.inl ⟨rfl,rfl⟩,rfl,_,rfl,?_⟩⟩;rotate_left 1;exact .inl rfl;exact ⟨⟨_,rfl,yae _⟩,trivial⟩)
 ·have hje:j=l.length+12:=by omega
  subst hje
  (repeat' ((conv=>whnf);(first|refine ya1 (by omega) ?_|fail)));conv=>whnf
  exact eT trivial
theorem keptFacts_c (l:List Fct) (hl:l.length≤1000000) (H:Heap):VDet Tryz.prog 107 [.sk l.length (l.length+12) (l.flatMap Fct.cells++mks Fct.cells mkFc 12),.sl none l.length (l.flatMap Fct.cells)] H (.bool true):=by
 rw [all_flat]
 have g1:=fun j h=>all_g1 mkFc (fct0:Fct) l j h
 have g2:=fun i h=>all_g2 mkFc (fct0:Fct) l i h
 have gl:=all_len mkFc l
 generalize l++(List.range 12).map mkFc=A at *
 refine fdD Tryz.func107 ⟨rfl,rfl,rfl⟩ fun hcl hbl=>?_
 (repeat' ((conv=>whnf);(first|(refine OrN.r ?_;(conv=>whnf);refine ydh (l.length+12) (by omega) ?_;(conv=>whnf);refine yaf (by omega) ?_)|(refine yai ?_;first|refine yas ?_|refine yar (by omega) ?_|fail)|refine yco (by omega) ?_|fail)));conv=>whnf
 refine zax Tryz.E0 zag (σ:=Nat) (fun j=>j≤l.length+12) (fun j=>l.length+12-j) (fun j=>[(6,.v (.int .i64 j))]) (fun _=>_) _ 0 rfl hcl [1,5] rfl (yah _) ⟨⟨_,rfl,yae _⟩,trivial⟩ rfl (fun _ _=>rfl) ?_
 intro j hj
 rcases yag j (l.length+12) with hlt|hge
 ·rcases yag j l.length with h1|h1
  ·have e1:=g1 j h1
   obtain ⟨u,v,z,-,q1⟩:=zhc (f:=l.getD j fct0) rfl
   have qA:=q1
   rw [← e1] at qA
   (repeat' ((conv=>whnf);(first|(refine yai ?_;first|refine yaq (sb3 _ _ _) ?_|refine yas ?_|refine yar (by omega) ?_|refine ya1 (by omega) ?_|fail)|(refine zad _ _ Cst.h Cst.h ?_ ?_;· omega)|(refine yaf ?_ ?_;· first|kernel_rfl|omega|exact yaa _ _|fail)|refine zaa fct0 j rfl (by omega) zbr qA ?_|refine zaa fct0 j rfl (by omega) zbr q1 ?_|refine zae [] ?_|fail)));conv=>whnf
   (refine ⟨⟨j+1,by show j+1≤_;omega,by omega,?_,.inl ⟨rfl,rfl⟩,rfl,_,rfl,?_⟩⟩;rotate_left 1;exact .inl rfl;exact ⟨⟨_,rfl,yae _⟩,trivial⟩)
  ·obtain ⟨i,rfl⟩:∃ i,j=l.length+i:=⟨j-l.length,by omega⟩
   have hi:i<12:=by omega
   have e1:=g2 i hi
   have hm:∀ H,VDet Tryz.prog 172 [.int .i64 1,.int .i64 (i:Nat)] H (.agg [.str (mkB i),.int .i64 0,.int .i64 0]):=fun H=>markFact_c i hi H
   have qA:(mkFc i).cells=[.str (mkB i),.int .i64 0,.int .i64 0]:=rfl
   rw [← e1] at qA
   generalize mkB i=sj at *
   (repeat' ((conv=>whnf);(first|(refine yai ?_;first|refine yaq (sb3 _ _ _) ?_|refine yas ?_|refine yar (by omega) ?_|refine ya1 (by omega) ?_|fail)|(refine yc0 ?_;first|refine zg6 (by omega) ?_|(refine zad _ _ Cst.h Cst.h ?_ ?_;· omega)|fail)|(refine yaf ?_ ?_;· first|kernel_rfl|omega|exact yaa _ _|fail)|refine yan _ (fun _ hq X=>hm _) ?_|refine zaa fct0 (l.length+i) rfl (by omega) zbr qA ?_|refine zae [] ?_|fail)));conv=>whnf
   (refine ⟨⟨l.length+i+1,by show l.length+i+1≤_;omega,by omega,?_,.inl ⟨rfl,rfl⟩,rfl,_,rfl,?_⟩⟩;rotate_left 1;exact .inl rfl;exact ⟨⟨_,rfl,yae _⟩,trivial⟩)
 ·have hje:j=l.length+12:=by omega
  subst hje
  (repeat' ((conv=>whnf);(first|refine ya1 (by omega) ?_|fail)));conv=>whnf
  exact eT trivial
theorem keptBinds_c (l:List Bnd) (hl:l.length≤1000000) (H:Heap):VDet Tryz.prog 109 [.sk l.length (l.length+12) (l.flatMap Bnd.cells++mks Bnd.cells mkBd 12),.sl none l.length (l.flatMap Bnd.cells)] H (.bool true):=by
 rw [all_flat]
 have g1:=fun j h=>all_g1 mkBd (bnd0:Bnd) l j h
 have g2:=fun i h=>all_g2 mkBd (bnd0:Bnd) l i h
 have gl:=all_len mkBd l
 generalize l++(List.range 12).map mkBd=A at *
 refine fdD Tryz.func109 ⟨rfl,rfl,rfl⟩ fun hcl hbl=>?_
 (repeat' ((conv=>whnf);(first|(refine OrN.r ?_;(conv=>whnf);refine ydh (l.length+12) (by omega) ?_;(conv=>whnf);refine yaf (by omega) ?_)|(refine yai ?_;first|refine yas ?_|refine yar (by omega) ?_|fail)|refine yco (by omega) ?_|fail)));conv=>whnf
 refine zax Tryz.E0 zag (σ:=Nat) (fun j=>j≤l.length+12) (fun j=>l.length+12-j) (fun j=>[(6,.v (.int .i64 j))]) (fun _=>_) _ 0 rfl hcl [1,5] rfl (yah _) ⟨⟨_,rfl,yae _⟩,trivial⟩ rfl (fun _ _=>rfl) ?_
 intro j hj
 rcases yag j (l.length+12) with hlt|hge
 ·rcases yag j l.length with h1|h1
  ·have e1:=g1 j h1
   obtain ⟨u,v,-,q1⟩:=zf4 (f:=l.getD j bnd0) rfl
   have qA:=q1
   rw [← e1] at qA
   (repeat' ((conv=>whnf);(first|(refine yai ?_;first|refine yaq (sb2 _ _) ?_|refine yas ?_|refine yar (by omega) ?_|refine ya1 (by omega) ?_|fail)|(refine zad _ _ Cst.h Cst.h ?_ ?_;· omega)|(refine yaf ?_ ?_;· first|kernel_rfl|omega|exact yaa _ _|fail)|refine zaa bnd0 j rfl (by omega) zbs qA ?_|refine zaa bnd0 j rfl (by omega) zbs q1 ?_|refine zae [] ?_|fail)));conv=>whnf
   (refine ⟨⟨j+1,by show j+1≤_;omega,by omega,?_,.inl ⟨rfl,rfl⟩,rfl,_,rfl,?_⟩⟩;rotate_left 1;exact .inl rfl;exact ⟨⟨_,rfl,yae _⟩,trivial⟩)
  ·obtain ⟨i,rfl⟩:∃ i,j=l.length+i:=⟨j-l.length,by omega⟩
   have hi:i<12:=by omega
   have e1:=g2 i hi
   have hm:∀ H,VDet Tryz.prog 175 [.int .i64 1,.int .i64 (i:Nat)] H (.agg [.str (mkB i),.int .i64 0]):=fun H=>markBind_c i hi H
   have qA:(mkBd i).cells=[.str (mkB i),.int .i64 0]:=rfl
   rw [← e1] at qA
   generalize mkB i=sj at *
   (repeat' ((conv=>whnf);(first|(refine yai ?_;first|refine yaq (sb2 _ _) ?_|refine yas ?_|refine yar (by omega) ?_|refine ya1 (by omega) ?_|fail)|(refine yc0 ?_;first|refine zg6 (by omega) ?_|(refine zad _ _ Cst.h Cst.h ?_ ?_;· omega)|fail)|(refine yaf ?_ ?_;· first|kernel_rfl|omega|exact yaa _ _|fail)|refine yan _ (fun _ hq X=>hm _) ?_|refine zaa bnd0 (l.length+i) rfl (by omega) zbs qA ?_|refine zae [] ?_|fail)));conv=>whnf
   (refine ⟨⟨l.length+i+1,by show l.length+i+1≤_;omega,by omega,?_,.inl ⟨rfl,rfl⟩,rfl,_,rfl,?_⟩⟩;rotate_left 1;exact .inl rfl;exact ⟨⟨_,rfl,yae _⟩,trivial⟩)
 ·have hje:j=l.length+12:=by omega
  subst hje
  (repeat' ((conv=>whnf);(first|refine ya1 (by omega) ?_|fail)));conv=>whnf
  exact eT trivial
def lnA {α:Type} (f:α→List AV) (g:Nat→List AV):α ⊕ Nat→List AV
 | .inl x=>f x
 | .inr i=>g i
def lnAl {α:Type} (l:List α):List (α ⊕ Nat):=l.map .inl++(List.range 12).map .inr
theorem lnA_flat {α:Type} (f:α→List AV) (g:Nat→List AV) (l:List α):l.flatMap f++(List.range 12).flatMap g=(lnAl l).flatMap (lnA f g):=by
 unfold lnAl
 rw [yb0,List.flatMap_map,List.flatMap_map]
 rfl
theorem lnA_g1 {α:Type} (d:α ⊕ Nat) (d0:α) (l:List α) (j:Nat) (h:j<l.length):(lnAl l).getD j d=.inl (l.getD j d0):=by
 unfold lnAl
 rw [ybr,yaj (by rw [yav];exact h),ya8,ybr,yal h]
 rfl
theorem lnA_g2 {α:Type} (d:α ⊕ Nat) (l:List α) (i:Nat) (h:i<12):(lnAl l).getD (l.length+i) d=.inr i:=by
 unfold lnAl
 rw [ybr,yam (by rw [yav];omega),yav,ybq,ya8,ydn h]
 rfl
theorem lnA_len {α:Type} (l:List α):(lnAl l).length=l.length+12:=by simp [lnAl]
theorem lnA_size {α:Type} {f:α→List AV} {g:Nat→List AV} {sz:Nat} (hf:∀ x,(f x).length=sz) (hg:∀ i,(g i).length=sz):∀ x,(lnA f g x).length=sz
 | .inl x=>hf x
 | .inr i=>hg i
theorem keptFunc_c (f:Fnc) (hf:f.vl.length≤1000000) (H:Heap):VDet Tryz.prog 176 [.agg (lnU f),.agg f.cells] H (.bool true):=by
 have h1:∀ H,VDet Tryz.prog 171 [.agg (lnU f),.agg f.cells] H (.bool true):=fun H=>zbq (sameFunc_c f hf H) ⟨zb9 (lnU_wk f),yae _,trivial⟩
 have h2:=fun H=>keptInts_c f.vl hf H
 obtain ⟨u,v,z⟩:=f
 unfold lnU Fnc.cells at *
 simp only at h1 h2 ⊢
 generalize z.flatMap enc64++mks enc64 mkI 12=C at *
 generalize z.flatMap enc64=c at *
 refine fdD Tryz.func176 ⟨rfl,rfl,rfl⟩ fun hcl hbl=>?_
 (repeat' ((conv=>whnf);(first|refine yaq rfl ?_|(refine ybm ?_;first|refine yab _ (h1 _) ?_|refine yab _ (h2 _) ?_|fail)|fail)));conv=>whnf
 exact eT trivial
theorem keptFuncs_c (l:List Fnc) (hl:l.length≤1000000) (h:∀ x∈l,x.vl.length≤1000000) (H:Heap):VDet Tryz.prog 108 [.sk l.length (l.length+12) (l.flatMap lnU++mks Fnc.cells mkFn 12),.sl none l.length (l.flatMap Fnc.cells)] H (.bool true):=by
 rw [show mks Fnc.cells mkFn 12=(List.range 12).flatMap (fun i=>Fnc.cells (mkFn i)) from rfl,lnA_flat]
 have g1:=fun j h=>lnA_g1 (.inr 0) (fnc0:Fnc) l j h
 have g2:=fun i h=>lnA_g2 (.inr 0) l i h
 have gl:=lnA_len l
 have hsz:=lnA_size (f:=lnU) (g:=(fun i=>Fnc.cells (mkFn i))) (lnU_size) (fun i=>zbw _)
 have hl1:∀ x,lnA lnU (fun i=>Fnc.cells (mkFn i)) (.inl x)=lnU x:=fun _=>rfl
 have hl2:∀ i,lnA lnU (fun i=>Fnc.cells (mkFn i)) (.inr i)=(fun i=>Fnc.cells (mkFn i)) i:=fun _=>rfl
 generalize lnAl l=A at *
 generalize lnA lnU (fun i=>Fnc.cells (mkFn i))=LF at *
 refine fdD Tryz.func108 ⟨rfl,rfl,rfl⟩ fun hcl hbl=>?_
 (repeat' ((conv=>whnf);(first|(refine OrN.r ?_;(conv=>whnf);refine ydh (l.length+12) (by omega) ?_;(conv=>whnf);refine yaf (by omega) ?_)|(refine yai ?_;first|refine yas ?_|refine yar (by omega) ?_|fail)|refine yco (by omega) ?_|fail)));conv=>whnf
 refine zax Tryz.E0 zag (σ:=Nat) (fun j=>j≤l.length+12) (fun j=>l.length+12-j) (fun j=>[(6,.v (.int .i64 j))]) (fun _=>_) _ 0 rfl hcl [1,5] rfl (yah _) ⟨⟨_,rfl,yae _⟩,trivial⟩ rfl (fun _ _=>rfl) ?_
 intro j hj
 rcases yag j (l.length+12) with hlt|hge
 ·rcases yag j l.length with h1|h1
  ·have e1:=g1 j h1
   have hx:=fun H=>keptFunc_c (l.getD j fnc0) (h _ (zar l j fnc0 h1)) H
   obtain ⟨v,s,z,q1,q2⟩:=lnFnc_ex (l.getD j fnc0)
   have qA:=(hl1 (l.getD j fnc0)).trans q2
   rw [q1,q2] at hx
   rw [← e1] at qA
   (repeat' ((conv=>whnf);(first|(refine yai ?_;first|refine yas ?_|refine yaq rfl ?_|refine yar (by omega) ?_|refine ya1 (by omega) ?_|fail)|(refine zad _ _ Cst.h Cst.h ?_ ?_;· omega)|(refine yaf ?_ ?_;· first|kernel_rfl|omega|exact yaa _ _|fail)|refine yan _ (fun _ hq X=>hx _) ?_|refine zaa (.inr 0) j rfl (by omega) hsz qA ?_|refine zaa fnc0 j rfl (by omega) zbw q1 ?_|refine zae [] ?_|fail)));conv=>whnf
   (refine ⟨⟨j+1,by show j+1≤_;omega,by omega,?_,.inl ⟨rfl,rfl⟩,rfl,_,rfl,?_⟩⟩;rotate_left 1;exact .inl rfl;exact ⟨⟨_,rfl,yae _⟩,trivial⟩)
  ·obtain ⟨i,rfl⟩:∃ i,j=l.length+i:=⟨j-l.length,by omega⟩
   have hi:i<12:=by omega
   have e1:=g2 i hi
   have hm:∀ H,VDet Tryz.prog 174 [.int .i64 1,.int .i64 (i:Nat)] H (.agg [.str (mkB i),.int .i64 0,.sl none 0 []]):=fun H=>markFunc_c i hi H
   have hs:∀ H,VDet Tryz.prog 171 [.agg [.str (mkB i),.int .i64 0,.sl none 0 []],.agg [.str (mkB i),.int .i64 0,.sl none 0 []]] H (.bool true):=fun H=>sameFunc_c (mkFn i) (yah _) H
   have qA:LF (.inr i)=[.str (mkB i),.int .i64 0,.sl none 0 []]:=hl2 i
   rw [← e1] at qA
   generalize mkB i=sj at *
   (repeat' ((conv=>whnf);(first|(refine yai ?_;first|refine yas ?_|refine yaq rfl ?_|refine yar (by omega) ?_|refine ya1 (by omega) ?_|fail)|(refine yc0 ?_;first|refine zg6 (by omega) ?_|(refine zad _ _ Cst.h Cst.h ?_ ?_;· omega)|fail)|(refine yaf ?_ ?_;· first|kernel_rfl|omega|exact yaa _ _|fail)|(refine yck ?_;first|refine yan _ (fun _ hq X=>hm _) ?_|refine yan _ (fun _ hq X=>hs _) ?_|fail)|refine zaa (.inr 0) (l.length+i) rfl (by omega) hsz qA ?_|refine zae [] ?_|fail)));conv=>whnf
   (refine ⟨⟨l.length+i+1,by show l.length+i+1≤_;omega,by omega,?_,.inl ⟨rfl,rfl⟩,rfl,_,rfl,?_⟩⟩;rotate_left 1;exact .inl rfl;exact ⟨⟨_,rfl,yae _⟩,trivial⟩)
 ·have hje:j=l.length+12:=by omega
  subst hje
  (repeat' ((conv=>whnf);(first|refine ya1 (by omega) ?_|fail)));conv=>whnf
  exact eT trivial
theorem keptModel_c (m:Mdl) (hm:m.Few) (H:Heap):VDet Tryz.prog 47 [.agg (lnM m),.agg m.cells] H (.bool true):=by
 have h0:∀ H,VDet Tryz.prog 42 [.agg (lnM m),.agg m.cells] H (.bool true):=fun H=>zbq (sameModel_c m hm H) ⟨zb9 (lnM_wk m),yae _,trivial⟩
 have h1:=fun H=>keptInts_c m.rel hm.rel H
 have h2:=fun H=>keptFacts_c m.facts hm.facts H
 have h3:=fun H=>keptFuncs_c m.funcs hm.funcs hm.vals H
 have h4:=fun H=>keptBinds_c m.binds hm.binds H
 unfold lnM Mdl.cells at *
 generalize m.rel.flatMap enc64++mks enc64 mkI 12=C1 at *
 generalize m.facts.flatMap Fct.cells++mks Fct.cells mkFc 12=C2 at *
 generalize m.funcs.flatMap lnU++mks Fnc.cells mkFn 12=C3 at *
 generalize m.binds.flatMap Bnd.cells++mks Bnd.cells mkBd 12=C4 at *
 generalize m.rel.flatMap enc64=c1 at *
 generalize m.facts.flatMap Fct.cells=c2 at *
 generalize m.funcs.flatMap Fnc.cells=c3 at *
 generalize m.binds.flatMap Bnd.cells=c4 at *
 refine fdD Tryz.func47 ⟨rfl,rfl,rfl⟩ fun hcl hbl=>?_
 (repeat' ((conv=>whnf);(first|refine yaq rfl ?_|(refine ybm ?_;first|refine yab _ (h0 _) ?_|refine yab _ (h1 _) ?_|refine yab _ (h2 _) ?_|refine yab _ (h3 _) ?_|refine yab _ (h4 _) ?_|fail)|fail)));conv=>whnf
 exact eT trivial
def KpTP (x:Tm):Prop:=∀ H,VDet Tryz.prog 61 [.agg (lnT x),.agg x.cells] H (.bool true)
def KpFP (x:Fo):Prop:=∀ H,VDet Tryz.prog 60 [.agg (lnF x),.agg x.cells] H (.bool true)
theorem keptTerms_c (l:List Tm) (hl:l.length≤1000000) (h:∀ x∈l,KpTP x) (H:Heap):VDet Tryz.prog 122 [.sk l.length (l.length+12) (lnTs l++mksT 12),.sl none l.length (l.flatMap Tm.cells)] H (.bool true):=by
 rw [lnTs_flat,show mksT 12=(List.range 12).flatMap (fun i=>(mkTm i).cells) from rfl,lnA_flat]
 have g1:=fun j h=>lnA_g1 (.inr 0) (tm0:Tm) l j h
 have g2:=fun i h=>lnA_g2 (.inr 0) l i h
 have gl:=lnA_len l
 have hsz:=lnA_size (f:=lnT) (g:=(fun i=>(mkTm i).cells)) (lnT_len) (fun i=>zba _)
 have hl1:∀ x,lnA lnT (fun i=>(mkTm i).cells) (.inl x)=lnT x:=fun _=>rfl
 have hl2:∀ i,lnA lnT (fun i=>(mkTm i).cells) (.inr i)=(fun i=>(mkTm i).cells) i:=fun _=>rfl
 generalize lnAl l=A at *
 generalize lnA lnT (fun i=>(mkTm i).cells)=LF at *
 refine fdD Tryz.func122 ⟨rfl,rfl,rfl⟩ fun hcl hbl=>?_
 (repeat' ((conv=>whnf);(first|(refine OrN.r ?_;(conv=>whnf);refine ydh (l.length+12) (by omega) ?_;(conv=>whnf);refine yaf (by omega) ?_)|(refine yai ?_;first|refine yas ?_|refine yar (by omega) ?_|fail)|refine yco (by omega) ?_|fail)));conv=>whnf
 refine zax Tryz.E0 zag (σ:=Nat) (fun j=>j≤l.length+12) (fun j=>l.length+12-j) (fun j=>[(6,.v (.int .i64 j))]) (fun _=>_) _ 0 rfl hcl [1,5] rfl (yah _) ⟨⟨_,rfl,yae _⟩,trivial⟩ rfl (fun _ _=>rfl) ?_
 intro j hj
 rcases yag j (l.length+12) with hlt|hge
 ·rcases yag j l.length with h1|h1
  ·have e1:=g1 j h1
   have hx:=h _ (zar l j tm0 h1)
   obtain ⟨v,s,a,q1,q2⟩:=lnTm_ex (l.getD j tm0)
   have qA:=(hl1 (l.getD j tm0)).trans q2
   unfold KpTP at hx
   rw [q1,q2] at hx
   rw [← e1] at qA
   (repeat' ((conv=>whnf);(first|(refine yai ?_;first|refine yas ?_|refine yaq rfl ?_|refine yar (by omega) ?_|refine ya1 (by omega) ?_|fail)|(refine zad _ _ Cst.h Cst.h ?_ ?_;· omega)|(refine yaf ?_ ?_;· first|kernel_rfl|omega|exact yaa _ _|fail)|refine yan _ (fun _ hq X=>hx _) ?_|refine zaa (.inr 0) j rfl (by omega) hsz qA ?_|refine zaa tm0 j rfl (by omega) zba q1 ?_|refine zae [] ?_|fail)));conv=>whnf
   (refine ⟨⟨j+1,by show j+1≤_;omega,by omega,?_,.inl ⟨rfl,rfl⟩,rfl,_,rfl,?_⟩⟩;rotate_left 1;exact .inl rfl;exact ⟨⟨_,rfl,yae _⟩,trivial⟩)
  ·obtain ⟨i,rfl⟩:∃ i,j=l.length+i:=⟨j-l.length,by omega⟩
   have hi:i<12:=by omega
   have e1:=g2 i hi
   have hm:=fun H=>markTerm_c i hi H
   have hs:=sameT_g (mkTm i) (smT_mk0 i)
   have qA:=hl2 i
   simp only at qA
   unfold SmTP at hs
   rw [ze2] at hm hs qA
   rw [← e1] at qA
   generalize mkB i=sj at *
   (repeat' ((conv=>whnf);(first|(refine yai ?_;first|refine yas ?_|refine yaq rfl ?_|refine yar (by omega) ?_|refine ya1 (by omega) ?_|fail)|(refine yc0 ?_;first|refine zg6 (by omega) ?_|(refine zad _ _ Cst.h Cst.h ?_ ?_;· omega)|fail)|(refine yaf ?_ ?_;· first|kernel_rfl|omega|exact yaa _ _|fail)|(refine yck ?_;first|refine yan _ (fun _ hq X=>hm _) ?_|refine yan _ (fun _ hq X=>hs _) ?_|fail)|refine zaa (.inr 0) (l.length+i) rfl (by omega) hsz qA ?_|refine zae [] ?_|fail)));conv=>whnf
   (refine ⟨⟨l.length+i+1,by show l.length+i+1≤_;omega,by omega,?_,.inl ⟨rfl,rfl⟩,rfl,_,rfl,?_⟩⟩;rotate_left 1;exact .inl rfl;exact ⟨⟨_,rfl,yae _⟩,trivial⟩)
 ·have hje:j=l.length+12:=by omega
  subst hje
  (repeat' ((conv=>whnf);(first|refine ya1 (by omega) ?_|fail)));conv=>whnf
  exact eT trivial
theorem keptT_step (v:Bool) (s:ByteArray) (l:List Tm) (hl:l.length≤1000) (hs:smT (.mk v s l)) (h:∀ x∈l,KpTP x):KpTP (.mk v s l):=by
 intro H
 have h0:∀ H,VDet Tryz.prog 123 [.agg (lnT (.mk v s l)),.agg (Tm.mk v s l).cells] H (.bool true):=fun H=>zbq (sameT_g _ hs H) ⟨zb9 (lnT_wk _),yae _,trivial⟩
 have h1:=fun H=>keptTerms_c l (by omega) h H
 rw [zav,lnT_mk] at *
 generalize lnTs l++mksT 12=C at *
 generalize l.flatMap Tm.cells=c at *
 refine fdD Tryz.func61 ⟨rfl,rfl,rfl⟩ fun hcl hbl=>?_
 (repeat' ((conv=>whnf);(first|refine yaq rfl ?_|(refine ybm ?_;first|refine yab _ (h0 _) ?_|refine yab _ (h1 _) ?_|fail)|fail)));conv=>whnf
 exact eT trivial
mutual
theorem keptT_g:∀ x:Tm,smT x→KpTP x
 | .mk v s l,h=>by
   have h':=h
   unfold smT at h
   exact keptT_step v s l h.1 h' (keptTs_g l h.2)
theorem keptTs_g:∀ l:List Tm,smTs l→∀ x∈l,KpTP x
 | [],_,x,hx=>by cases hx
 | y::l,h,x,hx=>by
   unfold smTs at h
   rcases yay.1 hx with e|hx
   ·rw [e]
    exact keptT_g y h.1
   ·exact keptTs_g l h.2 x hx
end
theorem keptForms_c (l:List Fo) (hl:l.length≤1000000) (h:∀ x∈l,KpFP x) (H:Heap):VDet Tryz.prog 30 [.sk l.length (l.length+12) (lnFs l++mksF 12),.sl none l.length (l.flatMap Fo.cells)] H (.bool true):=by
 rw [lnFs_flat,show mksF 12=(List.range 12).flatMap (fun i=>(mkFo i).cells) from rfl,lnA_flat]
 have g1:=fun j h=>lnA_g1 (.inr 0) (fo0:Fo) l j h
 have g2:=fun i h=>lnA_g2 (.inr 0) l i h
 have gl:=lnA_len l
 have hsz:=lnA_size (f:=lnF) (g:=(fun i=>(mkFo i).cells)) (lnF_len) (fun i=>za4 _)
 have hl1:∀ x,lnA lnF (fun i=>(mkFo i).cells) (.inl x)=lnF x:=fun _=>rfl
 have hl2:∀ i,lnA lnF (fun i=>(mkFo i).cells) (.inr i)=(fun i=>(mkFo i).cells) i:=fun _=>rfl
 generalize lnAl l=A at *
 generalize lnA lnF (fun i=>(mkFo i).cells)=LF at *
 refine fdD Tryz.func30 ⟨rfl,rfl,rfl⟩ fun hcl hbl=>?_
 (repeat' ((conv=>whnf);(first|(refine OrN.r ?_;(conv=>whnf);refine ydh (l.length+12) (by omega) ?_;(conv=>whnf);refine yaf (by omega) ?_)|(refine yai ?_;first|refine yas ?_|refine yar (by omega) ?_|fail)|refine yco (by omega) ?_|fail)));conv=>whnf
 refine zax Tryz.E0 zag (σ:=Nat) (fun j=>j≤l.length+12) (fun j=>l.length+12-j) (fun j=>[(6,.v (.int .i64 j))]) (fun _=>_) _ 0 rfl hcl [1,5] rfl (yah _) ⟨⟨_,rfl,yae _⟩,trivial⟩ rfl (fun _ _=>rfl) ?_
 intro j hj
 rcases yag j (l.length+12) with hlt|hge
 ·rcases yag j l.length with h1|h1
  ·have e1:=g1 j h1
   have hx:=h _ (zar l j fo0 h1)
   obtain ⟨o,s,a,b,q1,q2⟩:=lnFo_ex (l.getD j fo0)
   have qA:=(hl1 (l.getD j fo0)).trans q2
   unfold KpFP at hx
   rw [q1,q2] at hx
   rw [← e1] at qA
   (repeat' ((conv=>whnf);(first|(refine yai ?_;first|refine yas ?_|refine yaq rfl ?_|refine yar (by omega) ?_|refine ya1 (by omega) ?_|fail)|(refine zad _ _ Cst.h Cst.h ?_ ?_;· omega)|(refine yaf ?_ ?_;· first|kernel_rfl|omega|exact yaa _ _|fail)|refine yan _ (fun _ hq X=>hx _) ?_|refine zaa (.inr 0) j rfl (by omega) hsz qA ?_|refine zaa fo0 j rfl (by omega) za4 q1 ?_|refine zae [] ?_|fail)));conv=>whnf
   (refine ⟨⟨j+1,by show j+1≤_;omega,by omega,?_,.inl ⟨rfl,rfl⟩,rfl,_,rfl,?_⟩⟩;rotate_left 1;exact .inl rfl;exact ⟨⟨_,rfl,yae _⟩,trivial⟩)
  ·obtain ⟨i,rfl⟩:∃ i,j=l.length+i:=⟨j-l.length,by omega⟩
   have hi:i<12:=by omega
   have e1:=g2 i hi
   have hm:=fun H=>markForm_c i hi H
   have hs:=sameF_g (mkFo i) (smF_mk0 i)
   have qA:=hl2 i
   simp only at qA
   unfold SmFP at hs
   rw [ze3] at hm hs qA
   rw [← e1] at qA
   generalize mkB i=sj at *
   (repeat' ((conv=>whnf);(first|(refine yai ?_;first|refine yas ?_|refine yaq rfl ?_|refine yar (by omega) ?_|refine ya1 (by omega) ?_|fail)|(refine yc0 ?_;first|refine zg6 (by omega) ?_|(refine zad _ _ Cst.h Cst.h ?_ ?_;· omega)|fail)|(refine yaf ?_ ?_;· first|kernel_rfl|omega|exact yaa _ _|fail)|(refine yck ?_;first|refine yan _ (fun _ hq X=>hm _) ?_|refine yan _ (fun _ hq X=>hs _) ?_|fail)|refine zaa (.inr 0) (l.length+i) rfl (by omega) hsz qA ?_|refine zae [] ?_|fail)));conv=>whnf
   (refine ⟨⟨l.length+i+1,by show l.length+i+1≤_;omega,by omega,?_,.inl ⟨rfl,rfl⟩,rfl,_,rfl,?_⟩⟩;rotate_left 1;exact .inl rfl;exact ⟨⟨_,rfl,yae _⟩,trivial⟩)
 ·have hje:j=l.length+12:=by omega
  subst hje
  (repeat' ((conv=>whnf);(first|refine ya1 (by omega) ?_|fail)));conv=>whnf
  exact eT trivial
theorem keptF_step (op:Nat) (s:ByteArray) (l:List Tm) (m:List Fo) (hs:smF (.mk op s l m)) (hl:l.length≤1000) (hlt:∀ x∈l,KpTP x) (hm:m.length≤1000) (h:∀ x∈m,KpFP x):KpFP (.mk op s l m):=by
 intro H
 have h0:∀ H,VDet Tryz.prog 81 [.agg (lnF (.mk op s l m)),.agg (Fo.mk op s l m).cells] H (.bool true):=fun H=>zbq (sameF_g _ hs H) ⟨zb9 (lnF_wk _),yae _,trivial⟩
 have h1:=fun H=>keptTerms_c l (by omega) hlt H
 have h2:=fun H=>keptForms_c m (by omega) h H
 rw [zaq,lnF_mk] at *
 generalize lnTs l++mksT 12=C at *
 generalize lnFs m++mksF 12=D at *
 generalize l.flatMap Tm.cells=c at *
 generalize m.flatMap Fo.cells=d at *
 refine fdD Tryz.func60 ⟨rfl,rfl,rfl⟩ fun hcl hbl=>?_
 (repeat' ((conv=>whnf);(first|refine yaq rfl ?_|(refine ybm ?_;first|refine yab _ (h0 _) ?_|refine yab _ (h1 _) ?_|refine yab _ (h2 _) ?_|fail)|fail)));conv=>whnf
 exact eT trivial
mutual
theorem keptF_g:∀ x:Fo,smF x→KpFP x
 | .mk op s l m,h=>by
   have h':=h
   unfold smF at h
   exact keptF_step op s l m h' h.2.1.1 (keptTs_g l h.2.1.2) h.2.2.1 (keptFs_g m h.2.2.2)
theorem keptFs_g:∀ l:List Fo,smFs l→∀ x∈l,KpFP x
 | [],_,x,hx=>by cases hx
 | y::l,h,x,hx=>by
   unfold smFs at h
   rcases yay.1 hx with e|hx
   ·rw [e]
    exact keptF_g y h.1
   ·exact keptFs_g l h.2 x hx
end
def vl20 (f:Fnc):Bool:=decide (f.vl.length≤20)
def fewM (m:Mdl):Bool:=(m.funcs.take 13).all vl20&&(decide (m.facts.length≤12)&&(decide (m.funcs.length≤12)&&(decide (m.binds.length≤12)&&decide (m.rel.length≤20))))
theorem few27_c (m:Mdl) (hfl:m.facts.length≤9223372036854775807) (hul:m.funcs.length≤9223372036854775807) (hbl2:m.binds.length≤9223372036854775807) (hrl:m.rel.length≤9223372036854775807) (hvl:∀ f∈m.funcs,f.vl.length≤9223372036854775807) (H:Heap):VDet Tryz.prog 27 [.agg m.cells] H (.bool (fewM m)):=by
 have hmc:m.cells=[.int .u8 m.kind,.int .i64 m.size,.sl none m.rel.length (m.rel.flatMap enc64),.int .i64 m.loop,.sl none m.facts.length (m.facts.flatMap Fct.cells),.sl none m.funcs.length (m.funcs.flatMap Fnc.cells),.sl none m.binds.length (m.binds.flatMap Bnd.cells)]:=rfl
 rw [hmc]
 unfold fewM
 refine fdD Tryz.func27 ⟨rfl,rfl,rfl⟩ fun hcl hbl=>?_
 conv=>whnf
 refine zax Tryz.E0 zag (σ:=Nat) (fun k=>k≤m.funcs.length∧k≤13∧∀ y∈m.funcs.take k,vl20 y=true) (fun k=>m.funcs.length-k) (fun k=>[(3,.v (.int .i64 k))]) (fun _=>_) _ 0 rfl hcl [1] rfl ⟨yah _,yah _,fun y hy=>(by cases hy)⟩ ⟨⟨_,rfl,yae _⟩,trivial⟩ rfl (fun _ _=>rfl) ?_
 rintro k ⟨hk,hk13,hinv⟩
 by_cases hlt:k<m.funcs.length∧k<13
 ·obtain ⟨hlt,hlt2⟩:=hlt
  have hz2:=hvl _ (zar m.funcs k fnc0 hlt)
  obtain ⟨u,v,z,hx,e1⟩:=zha (f:=m.funcs.getD k fnc0) rfl
  rw [hx] at hz2
  simp only at hz2
  have hb:vl20 (m.funcs.getD k fnc0)=decide (z.length≤20):=by rw [hx];rfl
  by_cases hz:z.length≤20
  ·rw [decide_eq_true hz] at hb
   (repeat' ((conv=>whnf);(first|(refine yai ?_;first|refine yar (by omega) ?_|refine ya1 (by omega) ?_|fail)|(refine zad _ _ Cst.h Cst.h ?_ ?_;· omega)|(refine yaf ?_ ?_;· first|omega|exact yaa _ _|fail)|refine zaa fnc0 k rfl (by omega) zbw e1 ?_|fail)));conv=>whnf
   (refine ⟨⟨k+1,⟨by omega,by omega,zbt fnc0 hlt hinv hb⟩,by omega,?_,.inl ⟨rfl,rfl⟩,rfl,_,rfl,?_⟩⟩;rotate_left 1;exact .inl rfl;exact ⟨⟨_,rfl,yae _⟩,trivial⟩)
  ·rw [decide_eq_false hz] at hb
   have hno:(m.funcs.take 13).all vl20=false:=by
    rw [ybj]
    intro h
    rw [yao] at h
    have hmem:m.funcs.getD k fnc0∈m.funcs.take 13:=by
     have h2:=zbm m.funcs fnc0 k hlt
     have h3:m.funcs.getD k fnc0∈m.funcs.take (k+1):=by rw [h2];exact ybl.2 (.inr (yaz.2 rfl))
     have h4:m.funcs.take (k+1)=(m.funcs.take 13).take (k+1):=by rw [yeo,ycl (by omega)]
     rw [h4] at h3
     exact yei h3
    rw [h _ hmem] at hb
    cases hb
   rw [hno,ya0]
   (repeat' ((conv=>whnf);(first|refine yar (by omega) ?_|(refine yaf ?_ ?_;· first|omega|exact yaa _ _|fail)|refine zaa fnc0 k rfl (by omega) zbw e1 ?_|fail)));conv=>whnf
   exact eT trivial
 ·have hyes:(m.funcs.take 13).all vl20=true:=by
   rw [yao]
   intro y hy
   rcases yag k m.funcs.length with h|h
   ·have:k=13:=by omega
    subst this
    exact hinv y hy
   ·rw [yca h] at hinv
    exact hinv y (yei hy)
  rw [hyes,ya9]
  have hor:¬ k<m.funcs.length∨(k<m.funcs.length∧¬ k<13):=by omega
  by_cases c1:m.facts.length≤12
  ·by_cases c2:m.funcs.length≤12
   ·by_cases c3:m.binds.length≤12
    ·by_cases c4:m.rel.length≤20
     ·rw [decide_eq_true c1,decide_eq_true c2,decide_eq_true c3,decide_eq_true c4]
      rcases hor with h|h <;> first|(exfalso;omega)|(((repeat' ((conv=>whnf);(first|(refine yai ?_;first|refine yar (by omega) ?_|refine ya1 (by omega) ?_|fail)|fail)));conv=>whnf);exact ya2 trivial (zaf (congrArg AV.bool (decide_eq_true (by omega)))))
     ·rw [decide_eq_true c1,decide_eq_true c2,decide_eq_true c3,decide_eq_false c4]
      rcases hor with h|h <;> first|(exfalso;omega)|(((repeat' ((conv=>whnf);(first|(refine yai ?_;first|refine yar (by omega) ?_|refine ya1 (by omega) ?_|fail)|fail)));conv=>whnf);exact ya2 trivial (zaf (congrArg AV.bool (decide_eq_false (by omega)))))
    ·rw [decide_eq_true c1,decide_eq_true c2,decide_eq_false c3]
     rcases hor with h|h <;> first|(exfalso;omega)|(((repeat' ((conv=>whnf);(first|(refine yai ?_;first|refine yar (by omega) ?_|refine ya1 (by omega) ?_|fail)|fail)));conv=>whnf);exact eT trivial)
   ·rw [decide_eq_true c1,decide_eq_false c2]
    rcases hor with h|h <;> first|(exfalso;omega)|(((repeat' ((conv=>whnf);(first|(refine yai ?_;first|refine yar (by omega) ?_|refine ya1 (by omega) ?_|fail)|fail)));all_goals (conv=>whnf));exact eT trivial)
  ·rw [decide_eq_false c1]
   rcases hor with h|h <;> first|(exfalso;omega)|(((repeat' ((conv=>whnf);(first|(refine yai ?_;first|refine yar (by omega) ?_|refine ya1 (by omega) ?_|fail)|fail)));all_goals (conv=>whnf));exact eT trivial)
theorem few_few {m:Mdl} (h:fewM m=true):m.Few:=by
 unfold fewM at h
 simp only [yak,decide_eq_true_eq] at h
 obtain ⟨h0,h1,h2,h3,h4⟩:=h
 rw [yca (by omega),yao] at h0
 exact ⟨by omega,by omega,by omega,by omega,fun f hf=>by have:=of_decide_eq_true (h0 f hf);omega⟩
mutual
theorem smT_of:∀ x:Tm,szzT x≤1000→smT x
 | .mk v s l,h=>by
   have hl:=nTs_len l
   unfold szzT at h
   unfold smT
   exact ⟨by omega,smTs_of l (by omega)⟩
theorem smTs_of:∀ l:List Tm,szzTs l≤1000→smTs l
 | [],_=>by unfold smTs;trivial
 | x::l,h=>by
   unfold szzTs at h
   unfold smTs
   exact ⟨smT_of x (by omega),smTs_of l (by omega)⟩
end
mutual
theorem smF_of:∀ x:Fo,x.good→szzF x≤1000→smF x
 | .mk op s l m,hg,h=>by
   have hl:=nTs_len l
   have hm:=nFs_len m
   unfold szzF at h
   unfold smF
   exact ⟨hg.1,⟨by omega,smTs_of l (by omega)⟩,by omega,smFs_of m hg.2.2.2.2.2 (by omega)⟩
theorem smFs_of:∀ l:List Fo,Fo.goodL l→szzFs l≤1000→smFs l
 | [],_,_=>by unfold smFs;trivial
 | x::l,hg,h=>by
   unfold szzFs at h
   unfold smFs
   exact ⟨smF_of x hg.1 (by omega),smFs_of l hg.2 (by omega)⟩
end
def i6 (n:Int):AV:=.int .i64 n
def sAwC:List AV:=[.sl none 1 [.str nP,.int .i64 1],.sl none 1 [.str nA,.int .i64 0],.sl none 0 []]
theorem w93 (e:Nat) (he:e≤1) (H:Heap):VDet Tryz.prog 93 [.int .i64 2,.int .i64 (e:Nat)] H (.int .i64 ((2 ^ e:Nat):Int)):=powN_c 2 e (by omega) (by omega) H
theorem w86 (H:Heap):VDet Tryz.prog 86 [.sl none 2 [.int .i64 4,.int .i64 2]] H (.int .i64 8):=by
 refine fdD Tryz.func86 ⟨rfl,rfl,rfl⟩ fun hcl hbl=>?_
 conv=>whnf
 refine ybe Tryz.E0 zag 3 rfl ?_
 (repeat' ((conv=>whnf);(first|(refine yai ?_;first|refine yaq rfl ?_|refine yau rfl ?_|fail)|(refine yc0 ?_;first|refine EqN.mk _ (show _=(16384:Int) from rfl) ?_|refine EqN.mk _ (show _=(4096:Int) from rfl) ?_|refine EqN.mk _ (show _=(4:Int) from rfl) ?_|refine EqN.mk _ (show _=(8:Int) from rfl) ?_|(refine zad _ _ Cst.h Cst.h ?_ ?_;· omega)|fail)|(refine yaf ?_ ?_;· first|omega|exact yaa _ _|fail)|refine ydq _ (zcm rfl) ?_|fail)));conv=>whnf
 exact eT trivial
theorem w87 (H:Heap):VDet Tryz.prog 87 [.agg sAwC,.int .i64 2] H (.sl none 2 [.int .i64 4,.int .i64 2]):=by
 have h1:=w93 1 (by omega)
 have h0:=w93 0 (by omega)
 have h1:∀ H,VDet Tryz.prog 93 [.int .i64 2,.int .i64 1] H (.int .i64 2):=h1
 have h0:∀ H,VDet Tryz.prog 93 [.int .i64 2,.int .i64 0] H (.int .i64 1):=h0
 unfold sAwC
 refine fdD Tryz.func87 ⟨rfl,rfl,rfl⟩ fun hcl hbl=>?_
 conv=>whnf
 refine LoopN.tok 5 3 1 rfl rfl rfl ?_
 refine ybe Tryz.E0 zag 2 rfl ?_
 (repeat' ((conv=>whnf);(first|(refine yai ?_;first|refine yaq rfl ?_|refine yau rfl ?_|fail)|(refine yc0 ?_;first|(refine zf0 _ _ Cst.h Cst.h rfl ?_ ?_ ?_;(· (repeat' (first|omega|refine yb6 ?_ ?_|exact za1 (by omega)|exact zby (by omega)|refine zdc ?_ ?_|refine zbx ?_ ?_|refine zcf ?_ ?_|refine zbj ?_ ?_|refine zcg ?_|refine zch ?_ ?_|refine zci ?_|refine za1 ?_|fail)));(· (repeat' (first|omega|refine yb6 ?_ ?_|exact za1 (by omega)|exact zby (by omega)|refine zdc ?_ ?_|refine zbx ?_ ?_|refine zcf ?_ ?_|refine zbj ?_ ?_|refine zcg ?_|refine zch ?_ ?_|refine zci ?_|refine za1 ?_|fail))))|(refine zad _ _ Cst.h Cst.h ?_ ?_;· omega)|fail)|(refine yaf ?_ ?_;· first|omega|exact yaa _ _|fail)|refine yab _ (h1 _) ?_|refine yaf ⟨rfl,rfl,rfl,by decide,by decide⟩ ?_|refine yce _ rfl ?_|refine ydq _ (zcm rfl) ?_|fail)));conv=>whnf
 refine ybe Tryz.E0 zag 2 rfl ?_
 (repeat' ((conv=>whnf);(first|(refine yai ?_;first|refine yaq rfl ?_|refine yau rfl ?_|fail)|(refine zad _ _ Cst.h Cst.h ?_ ?_;· omega)|(refine yaf ?_ ?_;· first|omega|exact yaa _ _|fail)|(refine ybm ?_;first|refine yab _ (h1 _) ?_|refine yab _ (h0 _) ?_|fail)|refine yaf ⟨rfl,rfl,rfl,by decide,by decide⟩ ?_|refine yce _ rfl ?_|refine ydq _ (zcm rfl) ?_|fail)));conv=>whnf
 refine ybe Tryz.E0 zag 1 rfl ?_
 (repeat' ((conv=>whnf);(first|refine yau rfl ?_|fail)));conv=>whnf
 exact ydy (u':=.sl none 2 [.int .i64 4,.int .i64 2]) (by simp [below,zab]) (Frz.sl (ydu _)) (yae _)
theorem w87w (H:Heap) (i:Nat) (hi:H.length+1=i):VCall Tryz.prog 87 [.agg sAwC,.int .i64 2] H (fun r H'=>r=.vs i 2∧H'=H++[.box 58 sAwC,.vec 3 1 [.int .i64 4,.int .i64 2],.box 92 [.str nP,.int .i64 1],.box 92 [.str nA,.int .i64 0]]):=by
 subst hi
 have h1:=w93 1 (by omega)
 have h0:=w93 0 (by omega)
 have h1:∀ H,VDet Tryz.prog 93 [.int .i64 2,.int .i64 1] H (.int .i64 2):=h1
 have h0:∀ H,VDet Tryz.prog 93 [.int .i64 2,.int .i64 0] H (.int .i64 1):=h0
 unfold sAwC
 refine fdG Tryz.func87 ⟨rfl,rfl,rfl⟩ fun hcl hbl=>?_
 conv=>whnf
 refine LoopN.tok 5 3 1 rfl rfl rfl ?_
 refine LoopN.tokVec 5 1 3 1 rfl rfl rfl ?_
 refine ybe Tryz.E0 zag 2 rfl ?_
 (repeat' ((conv=>whnf);(first|(refine yai ?_;first|refine yaq rfl ?_|refine yau rfl ?_|fail)|(refine yc0 ?_;first|(refine zf0 _ _ Cst.h Cst.h rfl ?_ ?_ ?_;(· (repeat' (first|omega|refine yb6 ?_ ?_|exact za1 (by omega)|exact zby (by omega)|refine zdc ?_ ?_|refine zbx ?_ ?_|refine zcf ?_ ?_|refine zbj ?_ ?_|refine zcg ?_|refine zch ?_ ?_|refine zci ?_|refine za1 ?_|fail)));(· (repeat' (first|omega|refine yb6 ?_ ?_|exact za1 (by omega)|exact zby (by omega)|refine zdc ?_ ?_|refine zbx ?_ ?_|refine zcf ?_ ?_|refine zbj ?_ ?_|refine zcg ?_|refine zch ?_ ?_|refine zci ?_|refine za1 ?_|fail))))|(refine zad _ _ Cst.h Cst.h ?_ ?_;· omega)|fail)|(refine yaf ?_ ?_;· first|omega|exact yaa _ _|fail)|refine yab _ (h1 _) ?_|refine yaf ⟨rfl,rfl,rfl,by decide,by decide⟩ ?_|refine yce _ rfl ?_|refine ydq _ (zcm rfl) ?_|fail)));conv=>whnf
 refine ybe Tryz.E0 zag 2 rfl ?_
 (repeat' ((conv=>whnf);(first|(refine yai ?_;first|refine yaq rfl ?_|refine yau rfl ?_|fail)|(refine zad _ _ Cst.h Cst.h ?_ ?_;· omega)|(refine yaf ?_ ?_;· first|omega|exact yaa _ _|fail)|(refine ybm ?_;first|refine yab _ (h1 _) ?_|refine yab _ (h0 _) ?_|fail)|refine yaf ⟨rfl,rfl,rfl,by decide,by decide⟩ ?_|refine yce _ rfl ?_|refine ydq _ (zcm rfl) ?_|fail)));conv=>whnf
 refine ybe Tryz.E0 zag 1 rfl ?_
 (repeat' ((conv=>whnf);(first|refine yau rfl ?_|fail)));conv=>whnf
 exact yem _ (yae _) ⟨rfl,rfl⟩
theorem w35 (H:Heap):VDet Tryz.prog 35 [.agg sAwC,.int .i64 2] H (.tup [.int .i64 8,.int .i64 0]):=by
 have g1:=fun H=>sigR_c sAw sAw_sm H
 rw [sAw_r] at g1
 have g1:∀ H,VDet Tryz.prog 85 [.agg sAwC] H (.bool true):=g1
 have g2:=w87
 have g3:=w86
 unfold sAwC at *
 refine fdD Tryz.func35 ⟨rfl,rfl,rfl⟩ fun hcl hbl=>?_
 (repeat' ((conv=>whnf);(first|(refine yai ?_;first|refine yas ?_|refine yaq rfl ?_|refine yau rfl ?_|fail)|(refine ybm ?_;first|refine yab _ (g1 _) ?_|refine yab _ (g2 _) ?_|refine yab _ (g3 _) ?_|fail)|fail)));conv=>whnf
 exact eT (by simp [below,zab])
theorem w92 (n k:Nat) (hk:k≤1) (hn:n≤1) (H:Heap) (i:Nat) (hi:H.length=i):VCall Tryz.prog 92 [.int .i64 (n:Nat),.int .i64 2,.int .i64 (k:Nat)] H (fun r H'=>r=.ms i 0 k∧H'=H++[.box 3 (List.replicate k (.int .i64 (n:Nat)))]):=by
 have h:=digits_w n 2 k (by omega) (by omega) (by omega) H i hi
 have c1:k=0∨k=1:=by omega
 have c2:n=0∨n=1:=by omega
 rcases c1 with rfl|rfl <;> rcases c2 with rfl|rfl <;> exact h
theorem w104 (n k:Nat) (hk:k≤1) (H:Heap) (hn:n≤1) (i:Nat) (hi:H[i]? = some (.box 3 (List.replicate k (.int .i64 (n:Nat))))):VDet Tryz.prog 104 [.ms i 0 k,.int .i64 2] H (.int .i64 (k * n:Nat)):=by
 have:k=0∨k=1:=by omega
 rcases this with rfl|rfl
 all_goals
  refine fdD Tryz.func104 ⟨rfl,rfl,rfl⟩ fun hcl hbl=>?_
  all_goals (conv=>whnf)
  refine ybe Tryz.E0 zag 2 rfl ?_
  (repeat' ((conv=>whnf);(first|(refine yai ?_;first|refine yaq rfl ?_|refine yau rfl ?_|fail)|(refine yc0 ?_;first|(refine zad _ _ Cst.h Cst.h ?_ ?_;· omega)|(refine EqN.mulN _ _ Cst.h Cst.h ?_ ?_;· omega)|fail)|refine ych _ (by (repeat' (first|assumption|exact zbc _ rfl|exact za2 rfl|refine za9 (B':=?_) ?_|refine zat ?_|fail))) ?_|refine OfsN.at_ (by omega) ?_|fail)));all_goals (conv=>whnf)
  exact ya2 trivial (zaf (by simp))
theorem w106 (t k r:Nat) (h:t=0∧k=1∧r=1∨t=1∧k=1∧r=0∨t=0∧k=0∧r=0) (H:Heap):VDet Tryz.prog 106 [.int .i64 (t:Nat),.int .i64 2,.int .i64 (k:Nat),.sl none 2 [.int .i64 1,.int .i64 0]] H (.int .i64 (r:Nat)):=by
 have hd:=fun H i hi=>w92 t k (by omega) (by omega) H i hi
 have hnu:=fun H i hi=>w104 r k (by omega) H (by omega) i hi
 rcases h with ⟨rfl,rfl,rfl⟩|⟨rfl,rfl,rfl⟩|⟨rfl,rfl,rfl⟩
 all_goals
  refine fdD Tryz.func106 ⟨rfl,rfl,rfl⟩ fun hcl hbl=>?_
  (repeat' ((conv=>whnf);(first|refine yek _ _ _ 1 (hd _ (H.length+0) (by simp)) rfl rfl rfl ?_|fail)));all_goals (conv=>whnf)
  refine ybe Tryz.E0 zag 2 rfl ?_
  (repeat' ((conv=>whnf);(first|(refine yai ?_;first|refine yaq rfl ?_|refine yau rfl ?_|fail)|(refine zad _ _ Cst.h Cst.h ?_ ?_;· omega)|(refine yaf ?_ ?_;· first|omega|exact yaa _ _|fail)|refine yab _ (hnu _ _ (za2 rfl)) ?_|refine yce _ rfl ?_|refine ydq _ (zcm rfl) ?_|refine OfsN.at_ (by omega) ?_|fail)));all_goals (conv=>whnf)
  exact eT trivial
theorem w105 (H:Heap):VDet Tryz.prog 105 [.sl none 2 [.int .i64 1,.int .i64 0],.int .i64 2] H (.bool true):=by
 refine fdD Tryz.func105 ⟨rfl,rfl,rfl⟩ fun hcl hbl=>?_
 (repeat' ((conv=>whnf);(first|refine OrN.natL ?_|(refine yai ?_;first|refine yas ?_|refine yaq rfl ?_|fail)|refine yaf (by simp;done) ?_|refine ydh _ rfl ?_|refine OrN.r ?_|fail)));conv=>whnf
 refine ybe Tryz.E0 zag 3 rfl ?_
 (repeat' ((conv=>whnf);(first|(refine yai ?_;first|refine yaq rfl ?_|refine yau rfl ?_|fail)|(refine zad _ _ Cst.h Cst.h ?_ ?_;· omega)|(refine yaf ?_ ?_;· first|omega|exact yaa _ _|fail)|refine OfsN.at_ (by decide) ?_|refine yce _ rfl ?_|refine ydq _ (zcm rfl) ?_|fail)));conv=>whnf
 exact eT trivial
theorem w91 (q n:Nat) (c:Int) (cs:List AV) (hc:cs.length=n) (hcs:∀ m,zab m cs) (H:Heap) (hq:H[q]? = some (.box 32 [.sl none (n+1) (.int .i64 c::cs)])):VCall Tryz.prog 91 [.ptr q 0] H (setR H q (.box 32 [.sl none n cs]) (.int .i64 c)):=next_c q n c cs hc hcs H hq
theorem w38 (H:Heap):VDet Tryz.prog 38 [.agg sAwC,.int .i64 2,.int .i64 5] H (.tup [.agg [.int .u8 2,.int .i64 2,.sl none 0 [],.int .i64 0,.sl none 1 [.str nP,.int .i64 1,.int .i64 2],.sl none 1 [.str nA,.int .i64 0,.sl none 1 [.int .i64 1]],.sl none 0 []],.int .i64 0]):=by
 have g1:=w35
 have g2:=fun H i hi=>w87w H i hi
 have h0:∀ H,VDet Tryz.prog 93 [.int .i64 2,.int .i64 0] H (.int .i64 1):=w93 0 (by omega)
 have hd:∀ H,VDet Tryz.prog 92 [.int .i64 1,.int .i64 2,.int .i64 1] H (.sl none 1 [.int .i64 1]):=fun H=>digits_c 1 2 1 (by omega) (by omega) (by omega) H
 have n1:=fun H q hq=>w91 q 1 2 [.int .i64 1] rfl (fun _=>⟨trivial,trivial⟩) H hq
 have n2:=fun H q hq=>w91 q 0 1 [] rfl (fun _=>trivial) H hq
 unfold sAwC at *
 refine fdD Tryz.func38 ⟨rfl,rfl,rfl⟩ fun hcl hbl=>?_
 (repeat' ((conv=>whnf);(first|(refine yai ?_;first|refine yas ?_|refine yaq rfl ?_|refine yau rfl ?_|fail)|(refine zb5 _ _ Cst.h Cst.h ?_ ?_;· omega)|refine yab _ (g1 _) ?_|refine yek _ _ _ 6 (g2 _ (H.length+3) (by simp)) rfl rfl rfl ?_|fail)));conv=>whnf
 refine ybe Tryz.E0 zag 3 rfl ?_
 (repeat' ((conv=>whnf);(first|refine yaf ⟨⟨rfl,yaa _ _⟩,by decide,by decide⟩ ?_|refine yaf ⟨rfl,by decide,by decide⟩ ?_|(refine yai ?_;first|refine yaq rfl ?_|refine yau rfl ?_|fail)|(refine yc0 ?_;first|refine EqN.mk _ (show _=(1:Int) from rfl) ?_|refine EqN.mk _ (show _=(2:Int) from rfl) ?_|refine EqN.mk _ (show _=(0:Int) from rfl) ?_|refine yco (by omega) ?_|fail)|(refine yaf ?_ ?_;· first|kernel_rfl|omega|exact yaa _ _|fail)|refine ydt [.int .i64 4,.int .i64 1] [] rfl ?_|refine ydt [.int .i64 2,.int .i64 1] [] rfl ?_|refine yce _ rfl ?_|refine ydq _ (zcm rfl) ?_|refine zae [] ?_|fail)));conv=>whnf
 refine LoopN.frzVec 6 3 0 2 3 0 [.int .i64 2,.int .i64 1] rfl rfl rfl rfl rfl rfl rfl rfl ?_
 refine ydv 7 4 95 3 rfl rfl rfl rfl rfl rfl ?_
 refine ybe Tryz.E0 zag 2 rfl ?_
 (repeat' ((conv=>whnf);(first|refine zae [6] ?_|(refine yai ?_;first|refine yaq rfl ?_|refine yau rfl ?_|fail)|(refine zad _ _ Cst.h Cst.h ?_ ?_;· omega)|(refine yaf ?_ ?_;· first|kernel_rfl|omega|exact yaa _ _|fail)|refine CallD.setWL 6 _ _ _ rfl rfl rfl (n1 _ _ (za2 rfl)) ?_|refine yaf ⟨rfl,rfl,rfl,by decide,by decide⟩ ?_|refine yce _ rfl ?_|refine ydq _ (zcm rfl) ?_|fail)));conv=>whnf
 refine ydv 7 5 97 3 rfl rfl rfl rfl rfl rfl ?_
 refine ybe Tryz.E0 zag 2 rfl ?_
 (repeat' ((conv=>whnf);(first|refine zae [6] ?_|(refine yai ?_;first|refine yaq rfl ?_|refine yau rfl ?_|fail)|(refine zad _ _ Cst.h Cst.h ?_ ?_;· omega)|(refine yaf ?_ ?_;· first|kernel_rfl|omega|exact yaa _ _|fail)|(refine yck ?_;first|refine yan _ (fun _ hq X=>h0 _) ?_|refine yan _ (fun _ hq X=>hd _) ?_|fail)|refine CallD.setWL 6 _ _ _ rfl rfl rfl (n2 _ _ (za2 rfl)) ?_|refine yaf ⟨rfl,rfl,rfl,by decide,by decide⟩ ?_|refine yce _ rfl ?_|refine ydq _ (zcm rfl) ?_|fail)));conv=>whnf
 refine ybe Tryz.E0 zag 1 rfl ?_
 (repeat' ((conv=>whnf);(first|refine yau rfl ?_|fail)));conv=>whnf
 exact ya2 (by simp [below,zab]) (by (repeat' (first|exact trivial|refine yb6 ?_ ?_|exact yae _|exact wk_sl _ _ _|exact zc0|refine zb9 ?_|refine wk_tup ?_|fail));done)
def mC (a b:Int):List AV:=[.int .u8 2,.int .i64 2,.sl none 0 [],.int .i64 0,.sl none 1 [.str nP,.int .i64 1,.int .i64 a],.sl none 1 [.str nA,.int .i64 0,.sl none 1 [.int .i64 b]],.sl none 0 []]
theorem w46 (H:Heap):VDet Tryz.prog 46 [.agg (mC 2 1),.sl none 2 [.int .i64 1,.int .i64 0]] H (.tup [.agg (mC 1 0),.int .i64 0]):=by
 have g1:=fun H=>zf5 fiveM five_sm five_nm H
 rw [five_v] at g1
 have g1:∀ H,VDet Tryz.prog 53 [.agg (mC 2 1)] H (.bool true):=g1
 have g2:=w105
 have h1:∀ H,VDet Tryz.prog 93 [.int .i64 2,.int .i64 1] H (.int .i64 2):=w93 1 (by omega)
 have m1:∀ H,VDet Tryz.prog 106 [.int .i64 0,.int .i64 2,.int .i64 1,.sl none 2 [.int .i64 1,.int .i64 0]] H (.int .i64 1):=fun H=>w106 0 1 1 (by omega) H
 have m2:∀ H,VDet Tryz.prog 106 [.int .i64 1,.int .i64 2,.int .i64 1,.sl none 2 [.int .i64 1,.int .i64 0]] H (.int .i64 0):=fun H=>w106 1 1 0 (by omega) H
 have m3:∀ H,VDet Tryz.prog 106 [.int .i64 0,.int .i64 2,.int .i64 0,.sl none 2 [.int .i64 1,.int .i64 0]] H (.int .i64 0):=fun H=>w106 0 0 0 (by omega) H
 unfold mC at *
 refine fdD Tryz.func46 ⟨rfl,rfl,rfl⟩ fun hcl hbl=>?_
 (repeat' ((conv=>whnf);(first|(refine yai ?_;first|refine yas ?_|refine yaq rfl ?_|fail)|(refine ybm ?_;first|refine yab _ (g1 _) ?_|refine yab _ (g2 _) ?_|fail)|fail)));conv=>whnf
 refine ydv 2 4 95 3 rfl rfl rfl rfl rfl rfl ?_
 refine ybe Tryz.E0 zag 2 rfl ?_
 (repeat' ((conv=>whnf);(first|refine yaq rfl ?_|(refine yaf ?_ ?_;· first|omega|exact yaa _ _|fail)|refine yab _ (h1 _) ?_|refine ydq _ (zcm rfl) ?_|fail)));conv=>whnf
 refine ybe Tryz.E0 zag 3 rfl ?_
 (repeat' ((conv=>whnf);(first|(refine yai ?_;first|refine yaq rfl ?_|refine yau rfl ?_|fail)|(refine yc0 ?_;first|(refine EqN.and _ _ Cst.h Cst.h ?_ ?_;· (repeat' (first|omega|refine yb6 ?_ ?_|exact za1 (by omega)|exact zby (by omega)|refine zdc ?_ ?_|refine zbx ?_ ?_|refine zcf ?_ ?_|refine zbj ?_ ?_|refine zcg ?_|refine zch ?_ ?_|refine zci ?_|refine za1 ?_|fail)))|(refine EqN.or _ _ Cst.h Cst.h ?_ ?_;· (repeat' (first|omega|refine yb6 ?_ ?_|exact za1 (by omega)|exact zby (by omega)|refine zdc ?_ ?_|refine zbx ?_ ?_|refine zcf ?_ ?_|refine zbj ?_ ?_|refine zcg ?_|refine zch ?_ ?_|refine zci ?_|refine za1 ?_|fail)))|(refine EqN.shrN _ _ Cst.h Cst.h rfl ?_ ?_;· (repeat' (first|omega|refine yb6 ?_ ?_|exact za1 (by omega)|exact zby (by omega)|refine zdc ?_ ?_|refine zbx ?_ ?_|refine zcf ?_ ?_|refine zbj ?_ ?_|refine zcg ?_|refine zch ?_ ?_|refine zci ?_|refine za1 ?_|fail)))|(refine zf0 _ _ Cst.h Cst.h rfl ?_ ?_ ?_;(· (repeat' (first|omega|refine yb6 ?_ ?_|exact za1 (by omega)|exact zby (by omega)|refine zdc ?_ ?_|refine zbx ?_ ?_|refine zcf ?_ ?_|refine zbj ?_ ?_|refine zcg ?_|refine zch ?_ ?_|refine zci ?_|refine za1 ?_|fail)));(· (repeat' (first|omega|refine yb6 ?_ ?_|exact za1 (by omega)|exact zby (by omega)|refine zdc ?_ ?_|refine zbx ?_ ?_|refine zcf ?_ ?_|refine zbj ?_ ?_|refine zcg ?_|refine zch ?_ ?_|refine zci ?_|refine za1 ?_|fail))))|(refine zad _ _ Cst.h Cst.h ?_ ?_;· omega)|fail)|(refine yaf ?_ ?_;· first|kernel_rfl|omega|fail)|(refine yck ?_;first|refine yan _ (fun _ hq X=>m1 _) ?_|refine yan _ (fun _ hq X=>m2 _) ?_|fail)|refine yaf ⟨rfl,rfl,rfl,by decide,by decide⟩ ?_|refine yce _ rfl ?_|refine zae [] ?_|fail)));conv=>whnf
 refine ydv 2 5 97 3 rfl rfl rfl rfl rfl rfl ?_
 refine ybe Tryz.E0 zag 2 rfl ?_
 (repeat' ((conv=>whnf);(first|refine OrN.natL ?_|refine yaq rfl ?_|(refine yaf ?_ ?_;· first|kernel_rfl|omega|exact yaa _ _|(simp;done)|fail)|refine ydh _ rfl ?_|refine OrN.r ?_|refine ydq _ (zcm rfl) ?_|refine zae [] ?_|fail)));conv=>whnf
 refine ybe Tryz.E0 zag 2 rfl ?_
 (repeat' ((conv=>whnf);(first|(refine yai ?_;first|refine yaq rfl ?_|refine yau rfl ?_|fail)|(refine zad _ _ Cst.h Cst.h ?_ ?_;· omega)|(refine yaf ?_ ?_;· first|kernel_rfl|omega|exact yaa _ _|fail)|refine yan _ (fun _ hq X=>m3 _) ?_|refine OfsN.at_ (by decide) ?_|refine yaf ⟨rfl,rfl,rfl,by decide,by decide⟩ ?_|refine yce _ rfl ?_|refine ydq _ (zcm rfl) ?_|refine zae [] ?_|fail)));conv=>whnf
 refine ybe Tryz.E0 zag 1 rfl ?_
 (repeat' ((conv=>whnf);(first|refine yau rfl ?_|fail)));conv=>whnf
 refine ydy (by simp [below,zab]) (Frz.tup (.cons (Frz.agg (.cons (.refl _) (.cons (.refl _) (.cons (.refl _) (.cons (.refl _) (.cons (.refl _) (.cons (Frz.sl (.cons (.refl _) (.cons (.refl _) (.cons (Frz.ms (by exact rfl) (by exact rfl) (ydu _)) .nil)))) (.cons (.refl _) .nil)))))))) (.cons (.refl _) .nil))) ?_
 exact wk_tup ⟨zb9 ⟨yae _,yae _,zc0,yae _,wk_sl _ _ _,yae _,zc0,trivial⟩,yae _,trivial⟩
theorem w103 (H:Heap):VDet Tryz.prog 103 [.agg (mC 1 0)] H (.agg sAwC):=sigM_c twoM two_sm H
theorem w104s (H:Heap):VDet Tryz.prog 104 [.sl none 1 [.int .i64 0],.int .i64 2] H (.int .i64 0):=by
 refine fdD Tryz.func104 ⟨rfl,rfl,rfl⟩ fun hcl hbl=>?_
 conv=>whnf
 refine ybe Tryz.E0 zag 2 rfl ?_
 (repeat' ((conv=>whnf);(first|(refine yai ?_;first|refine yaq rfl ?_|refine yau rfl ?_|fail)|(refine yc0 ?_;first|(refine zad _ _ Cst.h Cst.h ?_ ?_;· omega)|(refine EqN.mulN _ _ Cst.h Cst.h ?_ ?_;· omega)|fail)|(refine yaf ?_ ?_;· first|omega|exact yaa _ _|fail)|refine ydq _ (zcm rfl) ?_|fail)));conv=>whnf
 exact ya2 trivial (zaf (by simp))
theorem w45 (H:Heap):VDet Tryz.prog 45 [.agg (mC 1 0)] H (.tup [.int .i64 2,.int .i64 0]):=by
 have g1:=fun H=>zf5 twoM two_sm two_nm H
 rw [two_v] at g1
 have g1:∀ H,VDet Tryz.prog 53 [.agg (mC 1 0)] H (.bool true):=g1
 have g2:=w103
 have g3:=w35
 have g4:=w87
 have g5:=w104s
 unfold sAwC mC at *
 refine fdD Tryz.func45 ⟨rfl,rfl,rfl⟩ fun hcl hbl=>?_
 (repeat' ((conv=>whnf);(first|(refine yai ?_;first|refine yas ?_|refine yaq rfl ?_|fail)|(refine ybm ?_;first|refine yab _ (g1 _) ?_|refine yab _ (g2 _) ?_|refine yab _ (g3 _) ?_|fail)|fail)));conv=>whnf
 refine LoopN.tok 7 3 1 rfl rfl rfl ?_
 refine ybe Tryz.E0 zag 2 rfl ?_
 (repeat' ((conv=>whnf);(first|(refine yai ?_;first|refine yaq rfl ?_|refine yau rfl ?_|fail)|(refine zad _ _ Cst.h Cst.h ?_ ?_;· omega)|(refine yaf ?_ ?_;· first|omega|exact yaa _ _|fail)|refine yaf ⟨rfl,rfl,rfl,by decide,by decide⟩ ?_|refine yce _ rfl ?_|refine ydq _ (zcm rfl) ?_|fail)));conv=>whnf
 refine ybe Tryz.E0 zag 2 rfl ?_
 (repeat' ((conv=>whnf);(first|(refine yai ?_;first|refine yaq rfl ?_|refine yau rfl ?_|fail)|(refine zad _ _ Cst.h Cst.h ?_ ?_;· omega)|(refine yaf ?_ ?_;· first|omega|exact yaa _ _|fail)|refine yab _ (g5 _) ?_|refine yaf ⟨rfl,rfl,rfl,by decide,by decide⟩ ?_|refine yce _ rfl ?_|refine ydq _ (zcm rfl) ?_|fail)));conv=>whnf
 refine ybe Tryz.E0 zag 1 rfl ?_
 (repeat' ((conv=>whnf);(first|refine yau rfl ?_|refine yab _ (g4 _) ?_|fail)));conv=>whnf
 refine ybe Tryz.E0 zag 3 rfl ?_
 (repeat' ((conv=>whnf);(first|(refine yai ?_;first|refine yaq rfl ?_|refine yau rfl ?_|fail)|(refine yc0 ?_;first|(refine zad _ _ Cst.h Cst.h ?_ ?_;· omega)|(refine EqN.mulN _ _ Cst.h Cst.h ?_ ?_;· omega)|fail)|(refine yaf ?_ ?_;· first|omega|exact yaa _ _|fail)|refine ydq _ (zcm rfl) ?_|fail)));conv=>whnf
 exact eT (by simp [below,zab])
theorem awake2_c (H:Heap):VDet Tryz.prog 12 [] H (.bool true):=by
 have c1:∀ H,VDet Tryz.prog 35 [.agg [.sx 1 [.str nP,.int .i64 1],.sx 1 [.str nA,.int .i64 0],.nils],.int .i64 2] H (.tup [.int .i64 8,.int .i64 0]):=fun H=>zbq (w35 H) ⟨wkSAW,yae _,trivial⟩
 have c2:∀ H,VDet Tryz.prog 38 [.agg [.sx 1 [.str nP,.int .i64 1],.sx 1 [.str nA,.int .i64 0],.nils],.int .i64 2,.int .i64 5] H (.tup [.agg [.int .u8 2,.int .i64 2,.sl none 0 [],.int .i64 0,.sl none 1 [.str nP,.int .i64 1,.int .i64 2],.sl none 1 [.str nA,.int .i64 0,.sl none 1 [.int .i64 1]],.sl none 0 []],.int .i64 0]):=fun H=>zbq (w38 H) ⟨wkSAW,yae _,yae _,trivial⟩
 have c3:∀ H,VDet Tryz.prog 46 [.agg [.int .u8 2,.int .i64 2,.sl none 0 [],.int .i64 0,.sl none 1 [.str nP,.int .i64 1,.int .i64 2],.sl none 1 [.str nA,.int .i64 0,.sl none 1 [.int .i64 1]],.sl none 0 []],.sx 2 [.int .i64 1,.int .i64 0]] H (.tup [.agg [.int .u8 2,.int .i64 2,.sl none 0 [],.int .i64 0,.sl none 1 [.str nP,.int .i64 1,.int .i64 1],.sl none 1 [.str nA,.int .i64 0,.sl none 1 [.int .i64 0]],.sl none 0 []],.int .i64 0]):=fun H=>zbq (w46 H) ⟨yae _,wk_sx _ _,trivial⟩
 have c4:∀ H,VDet Tryz.prog 45 [.agg [.int .u8 2,.int .i64 2,.sl none 0 [],.int .i64 0,.sl none 1 [.str nP,.int .i64 1,.int .i64 1],.sl none 1 [.str nA,.int .i64 0,.sl none 1 [.int .i64 0]],.sl none 0 []]] H (.tup [.int .i64 2,.int .i64 0]):=fun H=>w45 H
 have v1:=fun H=>v22_c nX H
 have v2:=fun H=>v22_c nY H
 have a1:∀ H,VDet Tryz.prog 14 [.str nR,.sx 2 [.bool true,.str nX,.sl none 0 [],.bool true,.str nY,.sl none 0 []]] H (.agg [.int .u8 1,.str nR,.sl none 2 [.bool true,.str nX,.sl none 0 [],.bool true,.str nY,.sl none 0 []],.sl none 0 []]):=fun H=>zbq (zii nR 2 [.bool true,.str nX,.sl none 0 [],.bool true,.str nY,.sl none 0 []] (fun m=>by simp [below,zab]) H) ⟨yae _,wk_sx _ _,trivial⟩
 have a3:∀ H,VDet Tryz.prog 14 [.str nR,.sx 2 [.bool true,.str nX,.sl none 0 [],.bool false,.str nF,.sl none 1 [.bool true,.str nX,.sl none 0 []]]] H (.agg [.int .u8 1,.str nR,.sl none 2 [.bool true,.str nX,.sl none 0 [],.bool false,.str nF,.sl none 1 [.bool true,.str nX,.sl none 0 []]],.sl none 0 []]):=fun H=>zbq (zii nR 2 [.bool true,.str nX,.sl none 0 [],.bool false,.str nF,.sl none 1 [.bool true,.str nX,.sl none 0 []]] (fun m=>by simp [below,zab]) H) ⟨yae _,wk_sx _ _,trivial⟩
 have a4:∀ H,VDet Tryz.prog 14 [.str nR,.sx 2 [.bool true,.str nX,.sl none 0 [],.bool false,.str nF,.sl none 1 [.bool false,.str nF,.sl none 1 [.bool true,.str nX,.sl none 0 []]]]] H (.agg [.int .u8 1,.str nR,.sl none 2 [.bool true,.str nX,.sl none 0 [],.bool false,.str nF,.sl none 1 [.bool false,.str nF,.sl none 1 [.bool true,.str nX,.sl none 0 []]]],.sl none 0 []]):=fun H=>zbq (zii nR 2 [.bool true,.str nX,.sl none 0 [],.bool false,.str nF,.sl none 1 [.bool false,.str nF,.sl none 1 [.bool true,.str nX,.sl none 0 []]]] (fun m=>by simp [below,zab]) H) ⟨yae _,wk_sx _ _,trivial⟩
 have f1:∀ H,VDet Tryz.prog 68 [.str nF,.sx 1 [.bool true,.str nX,.sl none 0 []]] H (.agg [.bool false,.str nF,.sl none 1 [.bool true,.str nX,.sl none 0 []]]):=fun H=>zbq (fn68_c nF 1 [.bool true,.str nX,.sl none 0 []] (fun m=>by simp [below,zab]) H) ⟨yae _,wk_sx _ _,trivial⟩
 have f2:∀ H,VDet Tryz.prog 68 [.str nF,.sx 1 [.bool false,.str nF,.sl none 1 [.bool true,.str nX,.sl none 0 []]]] H (.agg [.bool false,.str nF,.sl none 1 [.bool false,.str nF,.sl none 1 [.bool true,.str nX,.sl none 0 []]]]):=fun H=>zbq (fn68_c nF 1 [.bool false,.str nF,.sl none 1 [.bool true,.str nX,.sl none 0 []]] (fun m=>by simp [below,zab]) H) ⟨yae _,wk_sx _ _,trivial⟩
 have b1:∀ H,VDet Tryz.prog 24 [.int .u8 9,.str nY,.agg [.int .u8 1,.str nR,.sl none 2 [.bool true,.str nX,.sl none 0 [],.bool true,.str nY,.sl none 0 []],.sl none 0 []]] H (.agg [.int .u8 9,.str nY,.sl none 0 [],.sl none 1 [.int .u8 1,.str nR,.sl none 2 [.bool true,.str nX,.sl none 0 [],.bool true,.str nY,.sl none 0 []],.sl none 0 []]]):=fun H=>bound_c 9 nY (Fq.fo (.at_ nR [.vr nX,.vr nY])) H
 have b2:∀ H,VDet Tryz.prog 24 [.int .u8 8,.str nX,.agg [.int .u8 9,.str nY,.sl none 0 [],.sl none 1 [.int .u8 1,.str nR,.sl none 2 [.bool true,.str nX,.sl none 0 [],.bool true,.str nY,.sl none 0 []],.sl none 0 []]]] H (.agg [.int .u8 8,.str nX,.sl none 0 [],.sl none 1 [.int .u8 9,.str nY,.sl none 0 [],.sl none 1 [.int .u8 1,.str nR,.sl none 2 [.bool true,.str nX,.sl none 0 [],.bool true,.str nY,.sl none 0 []],.sl none 0 []]]]):=fun H=>bound_c 8 nX (Fq.fo (.qn 9 nY (.at_ nR [.vr nX,.vr nY]))) H
 have b3:∀ H,VDet Tryz.prog 24 [.int .u8 8,.str nX,.agg [.int .u8 1,.str nR,.sl none 2 [.bool true,.str nX,.sl none 0 [],.bool true,.str nY,.sl none 0 []],.sl none 0 []]] H (.agg [.int .u8 8,.str nX,.sl none 0 [],.sl none 1 [.int .u8 1,.str nR,.sl none 2 [.bool true,.str nX,.sl none 0 [],.bool true,.str nY,.sl none 0 []],.sl none 0 []]]):=fun H=>bound_c 8 nX (Fq.fo (.at_ nR [.vr nX,.vr nY])) H
 have b4:∀ H,VDet Tryz.prog 24 [.int .u8 9,.str nY,.agg [.int .u8 8,.str nX,.sl none 0 [],.sl none 1 [.int .u8 1,.str nR,.sl none 2 [.bool true,.str nX,.sl none 0 [],.bool true,.str nY,.sl none 0 []],.sl none 0 []]]] H (.agg [.int .u8 9,.str nY,.sl none 0 [],.sl none 1 [.int .u8 8,.str nX,.sl none 0 [],.sl none 1 [.int .u8 1,.str nR,.sl none 2 [.bool true,.str nX,.sl none 0 [],.bool true,.str nY,.sl none 0 []],.sl none 0 []]]]):=fun H=>bound_c 9 nY (Fq.fo (.qn 8 nX (.at_ nR [.vr nX,.vr nY]))) H
 have b5:∀ H,VDet Tryz.prog 24 [.int .u8 8,.str nX,.agg [.int .u8 1,.str nR,.sl none 2 [.bool true,.str nX,.sl none 0 [],.bool false,.str nF,.sl none 1 [.bool true,.str nX,.sl none 0 []]],.sl none 0 []]] H (.agg [.int .u8 8,.str nX,.sl none 0 [],.sl none 1 [.int .u8 1,.str nR,.sl none 2 [.bool true,.str nX,.sl none 0 [],.bool false,.str nF,.sl none 1 [.bool true,.str nX,.sl none 0 []]],.sl none 0 []]]):=fun H=>bound_c 8 nX (Fq.fo (.at_ nR [.vr nX,.ap nF (.vr nX)])) H
 refine fdD Tryz.func12 ⟨rfl,rfl,rfl⟩ fun hcl hbl=>?_
 (repeat' ((conv=>whnf);(first|(refine yai ?_;first|refine yas ?_|refine yaq rfl ?_|refine yau rfl ?_|fail)|(refine zad _ _ Cst.h Cst.h ?_ ?_;· omega)|(refine yaf ?_ ?_;· first|kernel_rfl|omega|exact yaa _ _|fail)|(refine ybm ?_;first|refine yab _ (c1 _) ?_|refine yab _ (c2 _) ?_|refine yab _ (c3 _) ?_|refine yab _ (c4 _) ?_|refine yab _ (v1 _) ?_|refine yab _ (v2 _) ?_|fail)|(refine yck ?_;first|refine yan _ (fun _ hq X=>a1 _) ?_|refine yan _ (fun _ hq X=>a3 _) ?_|refine yan _ (fun _ hq X=>a4 _) ?_|refine yan _ (fun _ hq X=>f1 _) ?_|refine yan _ (fun _ hq X=>f2 _) ?_|refine yan _ (fun _ hq X=>b1 _) ?_|refine yan _ (fun _ hq X=>b2 _) ?_|refine yan _ (fun _ hq X=>b3 _) ?_|refine yan _ (fun _ hq X=>b4 _) ?_|refine yan _ (fun _ hq X=>b5 _) ?_|refine yan _ (fun _ hq X=>aw1_e _) ?_|refine yan _ (fun _ hq X=>aw2_e _) ?_|refine yan _ (fun _ hq X=>aw3_e _) ?_|refine yan _ (fun _ hq X=>aw4_e _) ?_|fail)|refine ydq _ (zcm rfl) ?_|refine zae [] ?_|fail)));conv=>whnf
 exact eT trivial
theorem tells_walk (k sz lo:Int) (a1 a2 a3 a4 b1 b2 b3 b4:Nat) (c1 c2 c3 c4 d1 d2 d3 d4:List AV) (o:Int) (fs:ByteArray) (f1 f2 p1 p2:Nat) (g1 g2 q1 q2:List AV) (tb:Bool) (ts:ByteArray) (t1 r1:Nat) (u1 v1:List AV)
  (hb1:∀ n,zab n c1) (hb2:∀ n,zab n c2) (hb3:∀ n,zab n c3) (hb4:∀ n,zab n c4) (hb5:∀ n,zab n d1) (hb6:∀ n,zab n d2) (hb7:∀ n,zab n d3) (hb8:∀ n,zab n d4) (hb9:∀ n,zab n g1) (hb10:∀ n,zab n g2) (hb11:∀ n,zab n q1) (hb12:∀ n,zab n q2) (hb13:∀ n,zab n u1) (hb14:∀ n,zab n v1)
  (R e2 w1 w2:Int) (e1 bv br:Bool)
  (h27:∀ H,VDet Tryz.prog 27 [.agg [.int .u8 k,.int .i64 sz,.sl none a1 c1,.int .i64 lo,.sl none a2 c2,.sl none a3 c3,.sl none a4 c4]] H (.bool true))
  (h26:∀ H,VDet Tryz.prog 26 [.sx 2 [.int .u8 o,.str fs,.sl none f1 g1,.sl none f2 g2,.int .u8 1,.str (ByteArray.mk #[80]),.sl none 1 [.bool tb,.str ts,.sl none t1 u1],.sl none 0 []]] H (.bool true))
  (h26b:3<R→∀ H,VDet Tryz.prog 26 [.sx 15 [.int .u8 o,.str fs,.sl none f1 g1,.sl none f2 g2,.int .u8 o,.str fs,.sl none f1 g1,.sl none f2 g2,.int .u8 o,.str fs,.sl none f1 g1,.sl none f2 g2,.int .u8 o,.str fs,.sl none f1 g1,.sl none f2 g2,.int .u8 o,.str fs,.sl none f1 g1,.sl none f2 g2,.int .u8 o,.str fs,.sl none f1 g1,.sl none f2 g2,.int .u8 o,.str fs,.sl none f1 g1,.sl none f2 g2,.int .u8 o,.str fs,.sl none f1 g1,.sl none f2 g2,.int .u8 o,.str fs,.sl none f1 g1,.sl none f2 g2,.int .u8 o,.str fs,.sl none f1 g1,.sl none f2 g2,.int .u8 o,.str fs,.sl none f1 g1,.sl none f2 g2,.int .u8 o,.str fs,.sl none f1 g1,.sl none f2 g2,.int .u8 o,.str fs,.sl none f1 g1,.sl none f2 g2,.int .u8 o,.str fs,.sl none f1 g1,.sl none f2 g2,.int .u8 o,.str fs,.sl none f1 g1,.sl none f2 g2]] H (.bool true))
  (h43:∀ H,VDet Tryz.prog 43 [.agg [.int .u8 k,.int .i64 sz,.sl none a1 c1,.int .i64 lo,.sl none a2 c2,.sl none a3 c3,.sl none a4 c4]] H (.agg [.int .u8 k,.int .i64 sz,.sk a1 b1 d1,.int .i64 lo,.sk a2 b2 d2,.sk a3 b3 d3,.sk a4 b4 d4])) (h56:∀ H,VDet Tryz.prog 56 [.agg [.int .u8 o,.str fs,.sl none f1 g1,.sl none f2 g2]] H (.agg [.int .u8 o,.str fs,.sk f1 p1 q1,.sk f2 p2 q2])) (h57:∀ H,VDet Tryz.prog 57 [.agg [.bool tb,.str ts,.sl none t1 u1]] H (.agg [.bool tb,.str ts,.sk t1 r1 v1]))
  (h18:∀ H,VDet Tryz.prog 18 [.agg [.int .u8 k,.int .i64 sz,.sk a1 b1 d1,.int .i64 lo,.sk a2 b2 d2,.sk a3 b3 d3,.sk a4 b4 d4],.agg [.int .u8 o,.str fs,.sk f1 p1 q1,.sk f2 p2 q2]] H (.tup [.bool e1,.int .i64 e2])) (h58:∀ H,VDet Tryz.prog 58 [.agg [.int .u8 k,.int .i64 sz,.sk a1 b1 d1,.int .i64 lo,.sk a2 b2 d2,.sk a3 b3 d3,.sk a4 b4 d4],.agg [.bool tb,.str ts,.sk t1 r1 v1]] H (.tup [.int .i64 w1,.int .i64 w2]))
  (h53:∀ H,VDet Tryz.prog 53 [.agg [.int .u8 k,.int .i64 sz,.sk a1 b1 d1,.int .i64 lo,.sk a2 b2 d2,.sk a3 b3 d3,.sk a4 b4 d4]] H (.bool bv)) (h59:∀ H,VDet Tryz.prog 59 [.agg [.int .u8 o,.str fs,.sk f1 p1 q1,.sk f2 p2 q2]] H (.bool br)) (h19:∀ H,VDet Tryz.prog 19 [.agg [.int .u8 o,.str fs,.sk f1 p1 q1,.sk f2 p2 q2]] H (.int .i64 R))
  (h47:∀ H,VDet Tryz.prog 47 [.agg [.int .u8 k,.int .i64 sz,.sk a1 b1 d1,.int .i64 lo,.sk a2 b2 d2,.sk a3 b3 d3,.sk a4 b4 d4],.agg [.int .u8 k,.int .i64 sz,.sl none a1 c1,.int .i64 lo,.sl none a2 c2,.sl none a3 c3,.sl none a4 c4]] H (.bool true)) (h60:∀ H,VDet Tryz.prog 60 [.agg [.int .u8 o,.str fs,.sk f1 p1 q1,.sk f2 p2 q2],.agg [.int .u8 o,.str fs,.sl none f1 g1,.sl none f2 g2]] H (.bool true)) (h61:∀ H,VDet Tryz.prog 61 [.agg [.bool tb,.str ts,.sk t1 r1 v1],.agg [.bool tb,.str ts,.sl none t1 u1]] H (.bool true))
  (h62:∀ H,VDet Tryz.prog 62 [.agg [.int .u8 k,.int .i64 sz,.sl none a1 c1,.int .i64 lo,.sl none a2 c2,.sl none a3 c3,.sl none a4 c4],.agg [.int .u8 o,.str fs,.sl none f1 g1,.sl none f2 g2]] H (.tup [.bool e1,.int .i64 e2])) (h63:∀ H,VDet Tryz.prog 63 [.agg [.int .u8 k,.int .i64 sz,.sl none a1 c1,.int .i64 lo,.sl none a2 c2,.sl none a3 c3,.sl none a4 c4],.agg [.bool tb,.str ts,.sl none t1 u1]] H (.tup [.int .i64 w1,.int .i64 w2]))
  (h64:∀ H,VDet Tryz.prog 64 [.agg [.int .u8 k,.int .i64 sz,.sl none a1 c1,.int .i64 lo,.sl none a2 c2,.sl none a3 c3,.sl none a4 c4]] H (.bool bv)) (h65:∀ H,VDet Tryz.prog 65 [.agg [.int .u8 o,.str fs,.sl none f1 g1,.sl none f2 g2]] H (.bool br)) (h55:∀ H,VDet Tryz.prog 55 [.agg [.int .u8 o,.str fs,.sl none f1 g1,.sl none f2 g2]] H (.int .i64 R)) (H:Heap):VDet Tryz.prog 9 [.agg [.int .u8 k,.int .i64 sz,.sl none a1 c1,.int .i64 lo,.sl none a2 c2,.sl none a3 c3,.sl none a4 c4],.agg [.int .u8 o,.str fs,.sl none f1 g1,.sl none f2 g2],.agg [.bool tb,.str ts,.sl none t1 u1]] H (.bool true):=by
 have h14:∀ H,VDet Tryz.prog 14 [.str (ByteArray.mk #[80]),.sx 1 [.bool tb,.str ts,.sl none t1 u1]] H (.agg [.int .u8 1,.str (ByteArray.mk #[80]),.sl none 1 [.bool tb,.str ts,.sl none t1 u1],.sl none 0 []]):=fun H=>zbq (zii (ByteArray.mk #[80]) 1 [.bool tb,.str ts,.sl none t1 u1] (fun n=>by simp [zab,below,hb13]) H) ⟨yae _,wk_sx _ _,trivial⟩
 have haw:=awake2_c
 by_cases hR:3<R
 ·have h26b:=h26b hR
  refine fdD Tryz.func9 ⟨rfl,rfl,rfl⟩ fun hcl hbl=>?_
  (repeat' ((conv=>whnf);(first|(refine yai ?_;first|refine yaq (beq_self_eq_true _) ?_|refine yas ?_|refine yaq rfl ?_|refine yar (by omega) ?_|fail)|refine yaf (by kernel_rfl) ?_|(refine ybm ?_;first|refine yab _ (h55 _) ?_|refine yab _ (h18 _) ?_|refine yab _ (h58 _) ?_|refine yab _ (h47 _) ?_|refine yab _ (h60 _) ?_|refine yab _ (h61 _) ?_|refine yab _ (h62 _) ?_|refine yab _ (h63 _) ?_|refine yab _ (h64 _) ?_|refine yab _ (h65 _) ?_|refine yab _ (haw _) ?_|fail)|(refine yck ?_;first|refine yan _ (fun _ hq X=>h27 _) ?_|refine yan _ (fun _ hq X=>h14 _) ?_|refine yan _ (fun _ hq X=>h26 _) ?_|refine yan _ (fun _ hq X=>h55 _) ?_|refine yan _ (fun _ hq X=>h26b _) ?_|refine yan _ (fun _ hq X=>h43 _) ?_|refine yan _ (fun _ hq X=>h56 _) ?_|refine yan _ (fun _ hq X=>h57 _) ?_|refine yan _ (fun _ hq X=>h53 _) ?_|refine yan _ (fun _ hq X=>h59 _) ?_|refine yan _ (fun _ hq X=>h19 _) ?_|fail)|refine zae [] ?_|fail)));conv=>whnf
  exact eT trivial
 ·refine fdD Tryz.func9 ⟨rfl,rfl,rfl⟩ fun hcl hbl=>?_
  (repeat' ((conv=>whnf);(first|(refine yai ?_;first|refine yaq (beq_self_eq_true _) ?_|refine yas ?_|refine yaq rfl ?_|refine ya1 (by omega) ?_|fail)|refine yaf (by kernel_rfl) ?_|(refine ybm ?_;first|refine yab _ (h55 _) ?_|refine yab _ (h18 _) ?_|refine yab _ (h58 _) ?_|refine yab _ (h47 _) ?_|refine yab _ (h60 _) ?_|refine yab _ (h61 _) ?_|refine yab _ (h62 _) ?_|refine yab _ (h63 _) ?_|refine yab _ (h64 _) ?_|refine yab _ (h65 _) ?_|refine yab _ (haw _) ?_|fail)|(refine yck ?_;first|refine yan _ (fun _ hq X=>h27 _) ?_|refine yan _ (fun _ hq X=>h14 _) ?_|refine yan _ (fun _ hq X=>h26 _) ?_|refine yan _ (fun _ hq X=>h55 _) ?_|refine yan _ (fun _ hq X=>h43 _) ?_|refine yan _ (fun _ hq X=>h56 _) ?_|refine yan _ (fun _ hq X=>h57 _) ?_|refine yan _ (fun _ hq X=>h53 _) ?_|refine yan _ (fun _ hq X=>h59 _) ?_|refine yan _ (fun _ hq X=>h19 _) ?_|fail)|refine zae [] ?_|fail)));conv=>whnf
  exact eT trivial
theorem tells_no (k sz lo:Int) (a1 a2 a3 a4:Nat) (c1 c2 c3 c4:List AV) (o:Int) (fs:ByteArray) (f1 f2:Nat) (g1 g2:List AV) (tb:Bool) (ts:ByteArray) (t1:Nat) (u1:List AV)
  (hb1:∀ n,zab n c1) (hb2:∀ n,zab n c2) (hb3:∀ n,zab n c3) (hb4:∀ n,zab n c4) (hb9:∀ n,zab n g1) (hb10:∀ n,zab n g2) (hb13:∀ n,zab n u1)
  (R:Int) (x27 x26 x26b:Bool) (hno:x27=false∨x26=false∨(3<R∧x26b=false))
  (h27:∀ H,VDet Tryz.prog 27 [.agg [.int .u8 k,.int .i64 sz,.sl none a1 c1,.int .i64 lo,.sl none a2 c2,.sl none a3 c3,.sl none a4 c4]] H (.bool x27))
  (h26:x27=true→∀ H,VDet Tryz.prog 26 [.sx 2 [.int .u8 o,.str fs,.sl none f1 g1,.sl none f2 g2,.int .u8 1,.str (ByteArray.mk #[80]),.sl none 1 [.bool tb,.str ts,.sl none t1 u1],.sl none 0 []]] H (.bool x26))
  (h55:x26=true→∀ H,VDet Tryz.prog 55 [.agg [.int .u8 o,.str fs,.sl none f1 g1,.sl none f2 g2]] H (.int .i64 R))
  (h26b:x26=true→∀ H,VDet Tryz.prog 26 [.sx 15 [.int .u8 o,.str fs,.sl none f1 g1,.sl none f2 g2,.int .u8 o,.str fs,.sl none f1 g1,.sl none f2 g2,.int .u8 o,.str fs,.sl none f1 g1,.sl none f2 g2,.int .u8 o,.str fs,.sl none f1 g1,.sl none f2 g2,.int .u8 o,.str fs,.sl none f1 g1,.sl none f2 g2,.int .u8 o,.str fs,.sl none f1 g1,.sl none f2 g2,.int .u8 o,.str fs,.sl none f1 g1,.sl none f2 g2,.int .u8 o,.str fs,.sl none f1 g1,.sl none f2 g2,.int .u8 o,.str fs,.sl none f1 g1,.sl none f2 g2,.int .u8 o,.str fs,.sl none f1 g1,.sl none f2 g2,.int .u8 o,.str fs,.sl none f1 g1,.sl none f2 g2,.int .u8 o,.str fs,.sl none f1 g1,.sl none f2 g2,.int .u8 o,.str fs,.sl none f1 g1,.sl none f2 g2,.int .u8 o,.str fs,.sl none f1 g1,.sl none f2 g2,.int .u8 o,.str fs,.sl none f1 g1,.sl none f2 g2]] H (.bool x26b)) (H:Heap):VDet Tryz.prog 9 [.agg [.int .u8 k,.int .i64 sz,.sl none a1 c1,.int .i64 lo,.sl none a2 c2,.sl none a3 c3,.sl none a4 c4],.agg [.int .u8 o,.str fs,.sl none f1 g1,.sl none f2 g2],.agg [.bool tb,.str ts,.sl none t1 u1]] H (.bool true):=by
 have h14:∀ H,VDet Tryz.prog 14 [.str (ByteArray.mk #[80]),.sx 1 [.bool tb,.str ts,.sl none t1 u1]] H (.agg [.int .u8 1,.str (ByteArray.mk #[80]),.sl none 1 [.bool tb,.str ts,.sl none t1 u1],.sl none 0 []]):=fun H=>zbq (zii (ByteArray.mk #[80]) 1 [.bool tb,.str ts,.sl none t1 u1] (fun n=>by simp [zab,below,hb13]) H) ⟨yae _,wk_sx _ _,trivial⟩
 have haw:=awake2_c
 cases x27 with
 | false =>
   refine fdD Tryz.func9 ⟨rfl,rfl,rfl⟩ fun hcl hbl=>?_
   (repeat' ((conv=>whnf);(first|(refine yai ?_;first|refine yas ?_|refine yau rfl ?_|fail)|refine yaf (by kernel_rfl) ?_|refine yab _ (haw _) ?_|refine yan _ (fun _ hq X=>h27 _) ?_|refine zae [] ?_|fail)));conv=>whnf
   exact eT trivial
 | true =>
   have h26:=h26 rfl
   cases x26 with
   | false =>
     refine fdD Tryz.func9 ⟨rfl,rfl,rfl⟩ fun hcl hbl=>?_
     (repeat' ((conv=>whnf);(first|(refine yai ?_;first|refine yas ?_|refine yaq rfl ?_|refine yau rfl ?_|fail)|refine yaf (by kernel_rfl) ?_|refine yab _ (haw _) ?_|(refine yck ?_;first|refine yan _ (fun _ hq X=>h27 _) ?_|refine yan _ (fun _ hq X=>h14 _) ?_|refine yan _ (fun _ hq X=>h26 _) ?_|fail)|refine zae [] ?_|fail)));conv=>whnf
     exact eT trivial
   | true =>
     have h55:=h55 rfl
     have h26b:=h26b rfl
     have hR:3<R:=by
      rcases hno with h|h|h
      ·cases h
      ·cases h
      ·exact h.1
     have hx:x26b=false:=by
      rcases hno with h|h|h
      ·cases h
      ·cases h
      ·exact h.2
     rw [hx] at h26b
     refine fdD Tryz.func9 ⟨rfl,rfl,rfl⟩ fun hcl hbl=>?_
     (repeat' ((conv=>whnf);(first|(refine yai ?_;first|refine yas ?_|refine yaq rfl ?_|refine yau rfl ?_|refine yar (by omega) ?_|fail)|refine yaf (by kernel_rfl) ?_|refine yab _ (haw _) ?_|(refine yck ?_;first|refine yan _ (fun _ hq X=>h27 _) ?_|refine yan _ (fun _ hq X=>h14 _) ?_|refine yan _ (fun _ hq X=>h26 _) ?_|refine yan _ (fun _ hq X=>h55 _) ?_|refine yan _ (fun _ hq X=>h26b _) ?_|fail)|refine zae [] ?_|fail)));conv=>whnf
     exact eT trivial
end
def fqP:Fq→List Sym
 | .at_ c l=>[(c,l.length)]
 | .fa=>[]
 | .f1 a=>fqP a
 | .f2 _ a b=>fqP a++fqP b
 | .qn _ _ a=>fqP a
def fqC:Fq→List Sym
 | .at_ _ l=>l.flatMap tqC
 | .fa=>[]
 | .f1 a=>fqC a
 | .f2 _ a b=>fqC a++fqC b
 | .qn _ _ a=>fqC a
def fqV:Fq→List ByteArray
 | .at_ _ l=>l.flatMap tqV
 | .fa=>[]
 | .f1 a=>fqV a
 | .f2 _ a b=>fqV a++fqV b
 | .qn _ _ a=>fqV a
theorem fqP_mem:∀ (p:Fq) (x:Sym),p.hasP x.1 x.2→x∈fqP p
 | .at_ c l,(s,n),h=>by
   have h1:c=s:=h.1
   have h2:((n:Nat):Int)=l.length:=h.2
   have h3:n=l.length:=by omega
   rw [h3,← h1]
   exact yaz.2 rfl
 | .fa,_,h=>h.elim
 | .f1 a,x,h=>fqP_mem a x h
 | .f2 _ a b,x,h=>ybl.2 (h.elim (fun h=>.inl (fqP_mem a x h)) fun h=>.inr (fqP_mem b x h))
 | .qn _ _ a,x,h=>fqP_mem a x h
theorem fqC_mem:∀ (p:Fq) (x:Sym),p.hasC x.1 x.2→x∈fqC p
 | .at_ c l,x,h=>by
   obtain ⟨t,ht,hc⟩:=h
   exact List.mem_flatMap.2 ⟨t,ht,tqC_mem t x hc⟩
 | .fa,_,h=>h.elim
 | .f1 a,x,h=>fqC_mem a x h
 | .f2 _ a b,x,h=>ybl.2 (h.elim (fun h=>.inl (fqC_mem a x h)) fun h=>.inr (fqC_mem b x h))
 | .qn _ _ a,x,h=>fqC_mem a x h
theorem fqV_mem:∀ (p:Fq) (x:ByteArray),p.free x→x∈fqV p
 | .at_ c l,x,h=>by
   obtain ⟨t,ht,hc⟩:=h
   exact List.mem_flatMap.2 ⟨t,ht,tqV_mem t x hc⟩
 | .fa,_,h=>h.elim
 | .f1 a,x,h=>fqV_mem a x h
 | .f2 _ a b,x,h=>ybl.2 (h.elim (fun h=>.inl (fqV_mem a x h)) fun h=>.inr (fqV_mem b x h))
 | .qn _ _ a,x,h=>fqV_mem a x h.1
theorem tqs_len:∀ l:List Tq,(l.flatMap tqC).length≤szzTs (l.map Tq.tm)∧(l.flatMap tqV).length≤szzTs (l.map Tq.tm)
 | []=>⟨yah _,yah _⟩
 | t::l=>by
   have h1:=tq_len t
   have h2:=tqs_len l
   have h3:=nT_pos t.tm
   rw [yb4,ya7,ya7,ya6,ya6]
   unfold szzTs
   omega
theorem fq_len:∀ p:Fq,(fqP p).length≤szzF p.fo∧(fqC p).length≤szzF p.fo∧(fqV p).length≤szzF p.fo
 | .at_ c l=>by
   have h:=tqs_len l
   have e:szzF (Fq.at_ c l).fo=1+szzTs (l.map Tq.tm)+szzFs []:=by show szzF (.mk 1 c (l.map Tq.tm) [])=_;rw [szzF.eq_def]
   rw [e]
   refine ⟨by show 1≤_;omega,by show (l.flatMap tqC).length≤_;omega,by show (l.flatMap tqV).length≤_;omega⟩
 | .fa=>⟨yah _,yah _,yah _⟩
 | .f1 a=>by
   have h:=fq_len a
   have e:szzF (Fq.f1 a).fo=1+szzTs []+szzFs [a.fo]:=by show szzF (.mk 3 .empty [] [a.fo])=_;rw [szzF.eq_def]
   have e2:szzFs [a.fo]=szzF a.fo+szzFs []:=by rw [szzFs.eq_def]
   rw [e,e2]
   exact ⟨by show (fqP a).length≤_;omega,by show (fqC a).length≤_;omega,by show (fqV a).length≤_;omega⟩
 | .f2 k a b=>by
   have h:=fq_len a
   have h2:=fq_len b
   have e:szzF (Fq.f2 k a b).fo=1+szzTs []+szzFs [a.fo,b.fo]:=by show szzF (.mk k .empty [] [a.fo,b.fo])=_;rw [szzF.eq_def]
   have e2:szzFs [a.fo,b.fo]=szzF a.fo+szzFs [b.fo]:=by rw [szzFs.eq_def]
   have e3:szzFs [b.fo]=szzF b.fo+szzFs []:=by rw [szzFs.eq_def]
   rw [e,e2,e3]
   exact ⟨by show (fqP a++fqP b).length≤_;rw [ya6];omega,by show (fqC a++fqC b).length≤_;rw [ya6];omega,by show (fqV a++fqV b).length≤_;rw [ya6];omega⟩
 | .qn k x a=>by
   have h:=fq_len a
   have e:szzF (Fq.qn k x a).fo=1+szzTs []+szzFs [a.fo]:=by show szzF (.mk k x [] [a.fo])=_;rw [szzF.eq_def]
   have e2:szzFs [a.fo]=szzF a.fo+szzFs []:=by rw [szzFs.eq_def]
   rw [e,e2]
   exact ⟨by show (fqP a).length≤_;omega,by show (fqC a).length≤_;omega,by show (fqV a).length≤_;omega⟩
theorem fqsm_of {p:Fq} (hok:p.Ok) (hg:p.fo.good) (hs:szzF p.fo≤100000):FqSm p:=by
 have hl:=fq_len p
 have h1:=zfq (fqP p) _ (predY_nd p.fo) fun x hx=>fqP_mem p x ((zh5 hok x).1 hx)
 have h2:=zfq (fqC p) _ (funY_nd p.fo) fun x hx=>fqC_mem p x ((mem_funY hok x).1 hx)
 have h3:=zfq (fqV p) _ (freeF_nd p.fo) fun x hx=>fqV_mem p x ((zh6 hok x).1 hx)
 exact ⟨hg,hok,by omega,by omega,by omega⟩
theorem eval_both (m:Mdl) (hm:m.Sm) (hn:m.Nm) (hb:m.binds.length≤1000) (f:Fo) (hg:f.good) (hs:szzF f≤100000):∃ (e1:Bool) (e2:Int),(∀ H,VDet Tryz.prog 18 [.agg m.cells,.agg f.cells] H (.tup [.bool e1,.int .i64 e2]))∧∀ H,VDet Tryz.prog 62 [.agg m.cells,.agg f.cells] H (.tup [.bool e1,.int .i64 e2]):=by
 by_cases h:zb0 m=true∧zee f=true
 ·obtain ⟨p,hok,rfl⟩:=fq_right h.2
  have h1:=fun H=>eval_c m hm hn p (fqsm_of hok hg hs) h.1 h.2 H
  have h2:=fun H=>reval_c m hm hn hb p hok hg hs h.1 h.2 H
  by_cases q1:6<rankF p
  ·simp only [if_pos q1] at h1 h2
   exact ⟨_,_,h1,h2⟩
  ·simp only [if_neg q1] at h1 h2
   by_cases q2:hasB m (sigF p.fo)=true
   ·simp only [if_pos q2] at h1 h2
    exact ⟨_,_,h1,h2⟩
   ·simp only [if_neg q2] at h1 h2
    exact ⟨_,_,h1,h2⟩
 ·have h':zb0 m=false∨zee f=false:=by
   by_cases h1:zb0 m=true
   ·exact .inr (ybj.2 fun h2=>h ⟨h1,h2⟩)
   ·exact .inl (ybj.2 h1)
  exact ⟨_,_,fun H=>eval_bad m hm hn f hg h' H,fun H=>reval_bad m hm hn f hg hs h' H⟩
section
attribute [local irreducible] VW VCall VO bits
theorem value_bad (m:Mdl) (hm:m.Sm) (hn:m.Nm) (h:zb0 m=false) (v:Bool) (s:ByteArray) (n:Nat) (c:List AV) (H:Heap):VDet Tryz.prog 58 [.agg m.cells,.agg [.bool v,.str s,.sl none n c]] H (.tup [.int .i64 0,.int .i64 2]):=by
 have h1:=fun H=>zf5 m hm hn H
 rw [h] at h1
 obtain ⟨e1,e2,e3,e4,e5,e6,e7,e8,e9,e10,e11,hmc,hb⟩:=zdq m
 rw [hmc] at h1 ⊢
 refine fdD Tryz.func58 ⟨rfl,rfl,rfl⟩ fun hcl hbl=>?_
 (repeat' ((conv=>whnf);(first|(refine yai ?_;first|refine yas ?_|refine yau rfl ?_|fail)|refine yab _ (h1 _) ?_|fail)));conv=>whnf
 exact eT (by simp [below,zab])
end
section
set_option maxRecDepth 8000
attribute [local irreducible] VW VCall VO bits
theorem value_both (m:Mdl) (hm:m.Sm) (hn:m.Nm) (t:Tm) (hg:t.good) (hs:szzT t≤100000):∃ (w1 w2:Int),(∀ H,VDet Tryz.prog 58 [.agg m.cells,.agg t.cells] H (.tup [.int .i64 w1,.int .i64 w2]))∧∀ H,VDet Tryz.prog 63 [.agg m.cells,.agg t.cells] H (.tup [.int .i64 w1,.int .i64 w2]):=by
 by_cases hv:zb0 m=true
 ·by_cases hr:(rT t&&tmR t)=true
  ·have hr2:=ybn.1 hr
   obtain ⟨q,rfl⟩:=tq_ofR t hr2.1 hr2.2
   have h1:=fun H=>value58G_c m hm hn hv q hg hs hr2.1 H
   have h2:=fun H=>rval_c m hm hn q hg hv hr H
   rw [show tqx q=q.tm.cells from (tqc_eq q).symm] at h1
   by_cases ho:(rvB m q).isSome=true
   ·simp only [if_pos ho] at h1 h2
    exact ⟨_,_,h1,h2⟩
   ·simp only [if_neg ho] at h1 h2
    exact ⟨_,_,h1,h2⟩
  ·have hr:=ybj.2 hr
   exact ⟨_,_,fun H=>val58_no m hm hn t hg hs hr H,fun H=>rval_bad m hm hn t hg (.inr hr) H⟩
 ·have hv:=ybj.2 hv
  refine ⟨_,_,fun H=>?_,fun H=>rval_bad m hm hn t hg (.inl hv) H⟩
  obtain ⟨v,s,l⟩:=t
  rw [zav]
  exact value_bad m hm hn hv v s l.length _ H
def atPx (t:Tm):Fo:=.mk 1 (ByteArray.mk #[80]) [t] []
theorem few_sm {m:Mdl} (h:fewM m=true):m.Sm∧m.binds.length≤1000:=by
 unfold fewM at h
 simp only [yak,decide_eq_true_eq] at h
 obtain ⟨h0,h1,h2,h3,h4⟩:=h
 rw [yca (by omega),yao] at h0
 exact ⟨⟨by omega,by omega,by omega,by omega,fun f hf=>by have:=of_decide_eq_true (h0 f hf);omega⟩,by omega⟩
theorem finiteTells_c (m:Mdl) (hfl:m.facts.length≤9223372036854775807) (hul:m.funcs.length≤9223372036854775807) (hbl2:m.binds.length≤9223372036854775807) (hrl:m.rel.length≤9223372036854775807) (hvl:∀ f∈m.funcs,f.vl.length≤9223372036854775807) (hn:m.Nm) (f:Fo) (hf:f.good) (t:Tm) (ht:t.good) (H:Heap):VDet Tryz.prog 9 [.agg m.cells,.agg f.cells,.agg t.cells] H (.bool true):=by
 have h27:=fun H=>few27_c m hfl hul hbl2 hrl hvl H
 have hA:(atPx t).good:=⟨by decide,by decide,by show 1≤maxLen;decide,⟨ht,trivial⟩,yah _,trivial⟩
 have hsA:szzF (atPx t)=1+(szzT t+0)+0:=by
  unfold atPx szzF szzTs szzFs szzTs
  rfl
 have hz:smN szzF [f,atPx t]=szzF f+(szzF (atPx t)+0):=rfl
 have k1:=fun H=>few26_c [f,atPx t] (by show 2≤_;omega) ⟨hf,hA,trivial⟩ H
 have k2:=fun H=>few26_c (List.replicate 15 f) (by rw [List.length_replicate];omega) (zhs _ fun x hx=>(List.eq_of_mem_replicate hx)▸hf) H
 have hfew:fewF [f,atPx t]=true→szzF f≤600∧szzT t≤600:=fun h=>by
  unfold fewF at h
  rw [decide_eq_true_eq,hz,hsA] at h
  omega
 have k3:fewF [f,atPx t]=true→∀ H,VDet Tryz.prog 55 [.agg f.cells] H (.int .i64 (rkF f:Nat)):=fun h=>(msr_c f hf (by have:=hfew h;omega)).2.1
 have hAc:(atPx t).cells=[.int .u8 (1:Nat),.str (ByteArray.mk #[80]),.sl none 1 t.cells,.sl none 0 []]:=by
  unfold atPx
  rw [zaq]
  show [AV.int .u8 (1:Nat),AV.str _,AV.sl none 1 ([t].flatMap Tm.cells),AV.sl none 0 []]=_
  rw [ya7,ybh,yat]
 have hm0:m.cells=[.int .u8 m.kind,.int .i64 m.size,.sl none m.rel.length (m.rel.flatMap enc64),.int .i64 m.loop,.sl none m.facts.length (m.facts.flatMap Fct.cells),.sl none m.funcs.length (m.funcs.flatMap Fnc.cells),.sl none m.binds.length (m.binds.flatMap Bnd.cells)]:=rfl
 obtain ⟨o,fs,fa,fb,qf1,qf2⟩:=lnFo_ex f
 obtain ⟨tb,ts,ta,qt1,qt2⟩:=lnTm_ex t
 have j26:∀ H,VDet Tryz.prog 26 [.sx 2 ([f,atPx t].flatMap Fo.cells)] H (.bool (fewF [f,atPx t])):=fun H=>zbq (k1 H) ⟨wk_sx _ _,trivial⟩
 have j26b:∀ H,VDet Tryz.prog 26 [.sx 15 ((List.replicate 15 f).flatMap Fo.cells)] H (.bool (fewF (List.replicate 15 f))):=fun H=>zbq (k2 H) ⟨wk_sx _ _,trivial⟩
 by_cases hno:fewM m=true∧fewF [f,atPx t]=true∧(3<(rkF f:Int)→fewF (List.replicate 15 f)=true)
 ·obtain ⟨y1,y2,y3⟩:=hno
  obtain ⟨hm,hb1000⟩:=few_sm y1
  have hmf:=few_few y1
  obtain ⟨hsf,hst⟩:=hfew y2
  have k3:=k3 y2
  obtain ⟨e1,e2,h18,h62⟩:=eval_both m hm hn hb1000 f hf (by omega)
  obtain ⟨w1,w2,h58,h63⟩:=value_both m hm hn t ht (by omega)
  have smf:=smF_of f hf (by omega)
  have smt:=smT_of t (by omega)
  have h18':∀ H,VDet Tryz.prog 18 [.agg (lnM m),.agg (lnF f)] H (.tup [.bool e1,.int .i64 e2]):=fun H=>zbq (h18 H) ⟨zb9 (lnM_wk m),zb9 (lnF_wk f),trivial⟩
  have h58':∀ H,VDet Tryz.prog 58 [.agg (lnM m),.agg (lnT t)] H (.tup [.int .i64 w1,.int .i64 w2]):=fun H=>zbq (h58 H) ⟨zb9 (lnM_wk m),zb9 (lnT_wk t),trivial⟩
  have h53':∀ H,VDet Tryz.prog 53 [.agg (lnM m)] H (.bool (zb0 m)):=fun H=>zbq (zf5 m hm hn H) ⟨zb9 (lnM_wk m),trivial⟩
  have h59':∀ H,VDet Tryz.prog 59 [.agg (lnF f)] H (.bool (zee f)):=fun H=>zbq (rightQ_c f hf H) ⟨zb9 (lnF_wk f),trivial⟩
  have h19':∀ H,VDet Tryz.prog 19 [.agg (lnF f)] H (.int .i64 (rkF f:Nat)):=fun H=>zbq ((msr_c f hf (by omega)).2.2 H) ⟨zb9 (lnF_wk f),trivial⟩
  have h43:=fun H=>lentModel_c m hmf H
  have h56:=lentF_g f smf
  have h57:=lentT_g t smt
  have h47:=fun H=>keptModel_c m hmf H
  have h60:=keptF_g f smf
  have h61:=keptT_g t smt
  have h64:=fun H=>zh2 m hm hn H
  have h65:=fun H=>zgb f hf (by omega) H
  rw [ref11R_eq] at h65
  have j1:∀ H,VDet Tryz.prog 26 [.sx 2 (f.cells++((atPx t).cells++[]))] H (.bool true):=fun H=>by
   have:=j26 H
   rw [y2] at this
   exact this
  have j2:3<((rkF f:Nat):Int)→∀ H,VDet Tryz.prog 26 [.sx 15 (f.cells++(f.cells++(f.cells++(f.cells++(f.cells++(f.cells++(f.cells++(f.cells++(f.cells++(f.cells++(f.cells++(f.cells++(f.cells++(f.cells++(f.cells++[])))))))))))))))] H (.bool true):=fun hR H=>by
   have:=j26b H
   rw [y3 hR] at this
   exact this
  have j27:∀ H,VDet Tryz.prog 27 [.agg m.cells] H (.bool true):=fun H=>by
   have:=h27 H
   rw [y1] at this
   exact this
  unfold LnFP at h56
  unfold LnTP at h57
  unfold KpFP at h60
  unfold KpTP at h61
  rw [hAc] at j1
  rw [qf1] at j1 j2 h56 h60 h62 h65 k3 ⊢
  rw [qf2] at h18' h59' h19' h56 h60
  rw [qt1] at j1 h57 h61 h63 ⊢
  rw [qt2] at h58' h57 h61
  refine tells_walk m.kind m.size m.loop m.rel.length m.facts.length m.funcs.length m.binds.length (m.rel.length+12) (m.facts.length+12) (m.funcs.length+12) (m.binds.length+12) (m.rel.flatMap enc64) (m.facts.flatMap Fct.cells) (m.funcs.flatMap Fnc.cells) (m.binds.flatMap Bnd.cells) (m.rel.flatMap enc64++mks enc64 mkI 12) (m.facts.flatMap Fct.cells++mks Fct.cells mkFc 12) (m.funcs.flatMap lnU++mks Fnc.cells mkFn 12) (m.binds.flatMap Bnd.cells++mks Bnd.cells mkBd 12) (o:Nat) fs fa.length fb.length (fa.length+12) (fb.length+12) (fa.flatMap Tm.cells) (fb.flatMap Fo.cells) (lnTs fa++mksT 12) (lnFs fb++mksF 12) tb ts ta.length (ta.length+12) (ta.flatMap Tm.cells) (lnTs ta++mksT 12) (fun n=>zam n _) (fun n=>zah n _) (fun n=>zak n _) (fun n=>zai n _) (fun n=>(zau _ _).2 ⟨zam n _,zc9 n (fun x=>by simp [enc64,below,zab]) 12⟩) (fun n=>(zau _ _).2 ⟨zah n _,zc9 n (fct_below n) 12⟩) (fun n=>(zau _ _).2 ⟨ze5 n _,zc9 n (fnc_below n) 12⟩) (fun n=>(zau _ _).2 ⟨zai n _,zc9 n (bnd_below n) 12⟩) (fun n=>zal n _) (fun n=>zan n _) (fun n=>(zau _ _).2 ⟨zco n _,zcn n 12⟩) (fun n=>(zau _ _).2 ⟨zdk n _,zdj n 12⟩) (fun n=>zal n _) (fun n=>(zau _ _).2 ⟨zco n _,zcn n 12⟩) (rkF f:Nat) e2 w1 w2 e1 (zb0 m) (zee f) j27 j1 j2 h43 h56 h57 h18' h58' h53' h59' h19' h47 h60 h61 h62 h63 h64 h65 k3 H
 ·have hno2:fewM m=false∨fewF [f,atPx t]=false∨(3<((rkF f:Nat):Int)∧fewF (List.replicate 15 f)=false):=by
   cases y1:fewM m with
   | false=>exact .inl rfl
   | true =>
     cases y2:fewF [f,atPx t] with
     | false=>exact .inr (.inl rfl)
     | true =>
       refine .inr (.inr ?_)
       by_cases hR:3<((rkF f:Nat):Int)
       ·refine ⟨hR,?_⟩
        cases y3:fewF (List.replicate 15 f) with
        | false=>rfl
        | true=>exact absurd ⟨y1,y2,fun _=>y3⟩ hno
       ·exact absurd ⟨y1,y2,fun h=>absurd h hR⟩ hno
  have j1:∀ H,VDet Tryz.prog 26 [.sx 2 (f.cells++((atPx t).cells++[]))] H (.bool (fewF [f,atPx t])):=j26
  have j2:∀ H,VDet Tryz.prog 26 [.sx 15 (f.cells++(f.cells++(f.cells++(f.cells++(f.cells++(f.cells++(f.cells++(f.cells++(f.cells++(f.cells++(f.cells++(f.cells++(f.cells++(f.cells++(f.cells++[])))))))))))))))] H (.bool (fewF (List.replicate 15 f))):=j26b
  rw [hAc] at j1
  rw [qf1] at j1 j2 k3 ⊢
  rw [qt1] at j1 ⊢
  exact tells_no m.kind m.size m.loop m.rel.length m.facts.length m.funcs.length m.binds.length (m.rel.flatMap enc64) (m.facts.flatMap Fct.cells) (m.funcs.flatMap Fnc.cells) (m.binds.flatMap Bnd.cells) (o:Nat) fs fa.length fb.length (fa.flatMap Tm.cells) (fb.flatMap Fo.cells) tb ts ta.length (ta.flatMap Tm.cells) (fun n=>zam n _) (fun n=>zah n _) (fun n=>zak n _) (fun n=>zai n _) (fun n=>zal n _) (fun n=>zan n _) (fun n=>zal n _) (rkF f:Nat) _ _ _ hno2 h27 (fun _=>j1) k3 (fun _=>j2) H
end
def tyM:Ty:=(.pair (.int .u8) (.pair (.int .i64) (.pair (.sl (.int .i64)) (.pair (.int .i64) (.pair (.sl (.pair (.str) (.pair (.int .i64) (.pair (.int .i64) .unit)))) (.pair (.sl (.pair (.str) (.pair (.int .i64) (.pair (.sl (.int .i64)) .unit)))) (.pair (.sl (.pair (.str) (.pair (.int .i64) .unit))) .unit)))))))
abbrev FsT:=List (ByteArray×Int×Int×Unit)
abbrev UsT:=List (ByteArray×Int×List Int×Unit)
abbrev BsT:=List (ByteArray×Int×Unit)
def mdlO (k sz:Int) (rel:List Int) (lo:Int) (fs:FsT) (us:UsT) (bs:BsT):Mdl:=⟨k,sz,rel,lo,fs.map fun p=>⟨p.1,p.2.1,p.2.2.1⟩,us.map fun p=>⟨p.1,p.2.1,p.2.2.1⟩,bs.map fun p=>⟨p.1,p.2.1⟩⟩
theorem mdlO_enc (k sz:Int) (rel:List Int) (lo:Int) (fs:FsT) (us:UsT) (bs:BsT):tyM.enc (k,sz,rel,lo,fs,us,bs,())=(mdlO k sz rel lo fs us bs).cells:=by
 unfold Mdl.cells mdlO
 simp only [yav,List.flatMap_map]
 rfl
theorem mdlO_tells (k sz:Int) (rel:List Int) (lo:Int) (fs:FsT) (us:UsT) (bs:BsT) (g:tyM.good (k,sz,rel,lo,fs,us,bs,())) (f:Fo) (hf:f.good) (t:Tm) (ht:t.good) (H:Heap):VDet Tryz.prog 9 [.agg (tyM.enc (k,sz,rel,lo,fs,us,bs,())),.agg f.cells,.agg t.cells] H (.bool true):=by
 obtain ⟨-,-,grel,-,gfs,gus,gbs,-⟩:=g
 rw [mdlO_enc]
 refine finiteTells_c (mdlO k sz rel lo fs us bs) ?_ ?_ ?_ ?_ ?_ ⟨?_,?_,?_⟩ f hf t ht H
 ·show (fs.map _).length≤_
  rw [yav]
  exact zaz gfs.1
 ·show (us.map _).length≤_
  rw [yav]
  exact zaz gus.1
 ·show (bs.map _).length≤_
  rw [yav]
  exact zaz gbs.1
 ·exact zaz grel.1
 ·intro y hy
  obtain ⟨p,hp,rfl⟩:=ybx.1 hy
  exact zaz (gus.2 p hp).2.2.1.1
 ·intro y hy
  obtain ⟨p,hp,rfl⟩:=ybx.1 hy
  exact zaz (gfs.2 p hp).1
 ·intro y hy
  obtain ⟨p,hp,rfl⟩:=ybx.1 hy
  exact zaz (gus.2 p hp).1
 ·intro y hy
  obtain ⟨p,hp,rfl⟩:=ybx.1 hy
  exact zaz (gbs.2 p hp).1
theorem mdl_tells (x:tyM.I) (g:tyM.good x) (f:Fo) (hf:f.good) (t:Tm) (ht:t.good) (H:Heap):VDet Tryz.prog 9 [.agg (tyM.enc x),.agg f.cells,.agg t.cells] H (.bool true) :=
 mdlO_tells x.1 x.2.1 x.2.2.1 x.2.2.2.1 x.2.2.2.2.1 x.2.2.2.2.2.1 x.2.2.2.2.2.2.1 g f hf t ht H
end Go.Proofs.YtgdmldelijeaoaaGreatDoor
namespace Go.Proofs.YtgdmldelijeaoaaGreatDoor
section
open Go.ChangeShapes Go.WideShapes Go.ChangeAt Go.RowKit Go.Vsi
theorem mrel_of {g:G} {W:World} {b:Nat} (hg:∀ b o,¬ g.own b o):∀ (l:List AV) (cs:List Value) (o:Nat),LRel g W l cs→(∀ (i:Nat) c,cs[i]? = some c→W.cell? ⟨b,o+i,.none⟩=some c)→MRel g W l b o
 | [],_,_,_,_=>trivial
 | v::l,cs,o,h,hc=>by
   simp only [LRel] at h
   obtain ⟨c,r,rfl,h1,h2⟩:=h
   refine ⟨⟨c,by simpa using hc 0 c rfl,h1,hg _ _⟩,?_⟩
   exact mrel_of hg l r (o+1) h2 fun i c' hi=>by
    have:=hc (i+1) c' (by simpa using hi)
    rwa [show o+(i+1)=o+1+i by omega] at this
theorem mone {W:World} {n:String} {gi:Nat} {ty:TypeId} {T:Ty} {D:DataW Unit} {cells:List AV} {g0:Nat} {t0:TypeId} {cs0:Array Value} {f0:Nat} {p0:List MemPlace}
  (hg:Tryz.prog.globalNamed n=some gi) (ht:(Tryz.prog.globals[gi]?).map (·.type)=some ty) (hty:TyOk Tryz.prog ty T) (hpl:PlTy T) (hD:∃ l',DatOf (H:=Unit) D l'∧l'=cells)
  (hg0:Tryz.prog.globalNamed n=some g0) (ht0:(Tryz.prog.globals[g0]?).map (·.type)=some t0) (hv0:W.var? Tryz.prog n=some cs0) (hd0:DataW.trod (fun _=>()) Tryz.prog W 0 (fun _=>true) false f0 t0 cs0.toList=some (D,p0)):MRel G.none W cells gi 0:=by
 obtain rfl:=Option.some.inj (hg.symm.trans hg0)
 obtain rfl:=Option.some.inj (ht.symm.trans ht0)
 obtain ⟨l,h1,h2⟩:=trod_dat (g:=G.none) _ hpl hty hd0
 obtain ⟨l',hl1,hl2⟩:=hD
 have hll:l=cells:=(DatOf.det h1 hl1).trans hl2
 rw [← hll]
 refine mrel_of (fun _ _ h=>h) l cs0.toList 0 h2 fun i c hi=>?_
 have:=World.var?_cell hg0 hv0 i
 rw [yby,this]
 simpa using hi
theorem gl_of_laid {W:World} (h:laidMetH Tryz.prog [("lyceum/syntax.rows",Rows.laid_lyceum_syntax_rows)] W):∀ p∈Glob.gl,MRel G.none W p.2 p.1 0:=by
 rw [MakeChecks.laidMetH_plain _ _ _ (by kernel_rfl)] at h
 obtain ⟨ps,⟨g0,t0,cs0,f0,p0,q0,hg0,ht0,hv0,hd0,_⟩,_⟩:=h
 have m0:MRel G.none W (Tryz.gl[0]).2 1 0:=mone (T:=repTy 17 (.pair .bool (.pair .bool (.pair (.int .u8) (.pair (.int .i64) (.pair (.int .i64) .unit)))))) (ty:=239) (by kernel_rfl) (by kernel_rfl) (zhg zgq 12 239 _ (by kernel_rfl)) (by simp [repTy,PlTy]) ⟨_,by unfold Rows.laid_lyceum_syntax_rows;repeat constructor,by kernel_rfl⟩ hg0 ht0 hv0 hd0
 intro p hp
 have hp0:p=Tryz.gl[0]:=by
  have:p∈Tryz.gl:=hp
  simpa [Tryz.gl] using this
 subst hp0
 exact m0
end
end Go.Proofs.YtgdmldelijeaoaaGreatDoor
