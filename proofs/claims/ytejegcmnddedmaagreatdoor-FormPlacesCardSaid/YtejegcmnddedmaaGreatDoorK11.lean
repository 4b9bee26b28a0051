/- A text of the proof: the parts J02z, K02z, L02z, M02z, N02z, O02z, P02z, Q02z, R02dz, R02z, S02z, TA02z, TB02z, TC02z, TD02z, TE02z, TF02z, QA02z, DY02z. -/
import Derived.ProofKit
import Derived.LaidMore
import Derived.OpenShut
import Derived.Test.YtejegcmnddedmaaGreatDoorK10
set_option linter.unusedSimpArgs false
set_option linter.unusedVariables false
set_option maxHeartbeats 8000000
namespace Go.Proofs.YtejegcmnddedmaaGreatDoor
open Go.Vsi
section
mutual
def depT:Tm→Int
 | .mk _ _ l=>wI (depTs l 0+1)
def depTs:List Tm→Int→Int
 | [],d=>d
 | x::l,d=>depTs l (max d (depT x))
end
theorem depTs_cons (x:Tm) (l:List Tm) (d:Int):depTs (x::l) d=depTs l (max d (depT x)):=by rw [depTs.eq_def]
theorem depTs_nil (d:Int):depTs [] d=d:=by rw [depTs.eq_def]
theorem depT_mk (v:Bool) (s:ByteArray) (l:List Tm):depT (.mk v s l)=wI (depTs l 0+1):=by rw [depT.eq_def]
mutual
def depF:Fo→Int
 | .mk _ _ l m=>wI (depFs m (depTs l 0)+1)
def depFs:List Fo→Int→Int
 | [],d=>d
 | x::l,d=>depFs l (max d (depF x))
end
theorem depFs_cons (x:Fo) (l:List Fo) (d:Int):depFs (x::l) d=depFs l (max d (depF x)):=by rw [depFs.eq_def]
theorem depFs_nil (d:Int):depFs [] d=d:=by rw [depFs.eq_def]
theorem depF_mk (op:Nat) (s:ByteArray) (l:List Tm) (m:List Fo):depF (.mk op s l m)=wI (depFs m (depTs l 0)+1):=by rw [depF.eq_def]
attribute [local irreducible] VW VCall VO bits
def DepT (x:Tm):Prop:=∀ (v:Bool) (s:ByteArray) (l:List Tm),x=.mk v s l→∀ H,VDet Tryz.prog 58 [.sl none l.length (l.flatMap Tm.cells)] H (.int .i64 (depTs l 0))
theorem depTs_c (l:List Tm) (hl:l.length≤9223372036854775807) (h:∀ x∈l,DepT x) (H:Heap):VDet Tryz.prog 58 [.sl none l.length (l.flatMap Tm.cells)] H (.int .i64 (depTs l 0)):=by
 refine zah Tryz.E0 zab Tryz.func58 (by kernel_rfl) rfl (ybq rfl) rfl fun hcl hbl=>?_
 conv=>whnf
 refine zcg Tryz.E0 zab (σ:=Nat×Int) (fun p=>p.1≤l.length∧depTs (l.drop p.1) p.2=depTs l 0) (fun p=>l.length-p.1) (fun p=>[(8,.v (.int .i64 p.1)),(3,.v (.int .i64 p.2))]) (fun _=>_) _ (0,0) rfl hcl [6,7] rfl ⟨yah _,rfl⟩ ⟨⟨_,rfl,yae _⟩,⟨_,rfl,yae _⟩,trivial⟩ rfl (fun _ _=>rfl) ?_
 rintro ⟨j,d⟩ ⟨hj,hinv⟩
 simp only at hj hinv
 clear hbl
 by_cases hlt:j<l.length
 ·obtain ⟨v,s,a,e1⟩:=tm_ex (l.getD j tm0)
  have hx:=h _ (zak l j tm0 hlt) v s a e1
  have q1:(l.getD j tm0).cells=[.bool v,.str s,.sl none a.length (a.flatMap Tm.cells)]:=by rw [e1,zai]
  rw [zce l tm0 j hlt,depTs_cons,e1,depT_mk] at hinv
  generalize hr:depTs a 0=r at *
  (repeat' ((conv=>whnf);(first|refine zaq (by omega) ?_|(refine EqN.id ?_;first|refine EqN.mk (wI (r+1)) rfl ?_|(refine zaw _ _ Cst.h Cst.h ?_ ?_;· omega)|fail)|(refine yaf ?_ ?_;· first|omega|exact yaa _ _|fail)|refine yab _ (hx _) ?_|refine zaf tm0 j rfl hlt zbh q1 ?_|fail)));conv=>whnf
  (refine ⟨⟨(j+1,max d (wI (r+1))),⟨by show j+1≤l.length;omega,hinv⟩,by omega,?_,.inl ⟨rfl,rfl⟩,rfl,_,rfl,?_⟩⟩;rotate_left 1;exact .inr ⟨by simp [za4,below,zae,tr,zau,zax],by simp [zdu,Blk.below,zae,below,zau,zax]⟩;exact ⟨⟨_,rfl,yae _⟩,⟨_,rfl,yae _⟩,trivial⟩)
 ·rw [ycp (by omega),depTs_nil] at hinv
  (repeat' ((conv=>whnf);(first|refine zal (by omega) ?_|fail)));conv=>whnf
  exact yaz trivial (Wk.of_eq (by rw [hinv]))
mutual
theorem depT_g:∀ x:Tm,x.good→DepT x
 | .mk v s l,h=>by
   have h1:=depTs_g l h.2.2
   intro v' s' l' e H
   cases e
   exact depTs_c l (zao h.2.1) h1 H
theorem depTs_g:∀ l:List Tm,Tm.goodL l→∀ x∈l,DepT x
 | [],_,x,h=>by cases h
 | y::l,hg,x,h=>by
   have h1:=depT_g y hg.1
   have h2:=depTs_g l hg.2
   rcases yax.1 h with e|h
   ·exact e▸h1
   ·exact h2 x h
end
def DepF (x:Fo):Prop:=∀ H,VDet Tryz.prog 28 [.agg x.cells] H (.int .i64 (depF x))
theorem depF_step (op:Nat) (s:ByteArray) (l:List Tm) (m:List Fo) (hl:l.length≤9223372036854775807) (hm:m.length≤9223372036854775807) (hg:Tm.goodL l) (h:∀ x∈m,DepF x):DepF (.mk op s l m):=by
 intro H
 have h1:=depTs_c l hl (depTs_g l hg)
 rw [depF_mk,zac]
 generalize depTs l 0=d0 at *
 refine zah Tryz.E0 zab Tryz.func28 (by kernel_rfl) rfl (ybq rfl) rfl fun hcl hbl=>?_
 (repeat' ((conv=>whnf);(first|refine yab _ (h1 _) ?_|fail)));conv=>whnf
 refine zcg Tryz.E0 zab (σ:=Nat×Int) (fun p=>p.1≤m.length∧depFs (m.drop p.1) p.2=depFs m d0) (fun p=>m.length-p.1) (fun p=>[(12,.v (.int .i64 p.1)),(3,.v (.int .i64 p.2))]) (fun _=>[.box 25 [.int .u8 op,.str s,.sl none l.length (l.flatMap Tm.cells),.sl none m.length (m.flatMap Fo.cells)]]) _ (0,d0) rfl hcl [10,11] rfl ⟨yah _,rfl⟩ ⟨⟨_,rfl,yae _⟩,⟨_,rfl,yae _⟩,trivial⟩ rfl (fun _ _=>rfl) ?_
 rintro ⟨j,d⟩ ⟨hj,hinv⟩
 simp only at hj hinv
 clear hbl
 by_cases hlt:j<m.length
 ·have hx:=h _ (zak m j fo0 hlt)
  unfold DepF at hx
  obtain ⟨o,t,a,b,e1⟩:=fo_ex (m.getD j fo0)
  have q1:(m.getD j fo0).cells=[.int .u8 o,.str t,.sl none a.length (a.flatMap Tm.cells),.sl none b.length (b.flatMap Fo.cells)]:=by rw [e1,zac]
  rw [zce m fo0 j hlt,depFs_cons] at hinv
  rw [q1] at hx
  generalize hr:depF (m.getD j fo0)=r at *
  (repeat' ((conv=>whnf);(first|refine zaq (by omega) ?_|(refine zaw _ _ Cst.h Cst.h ?_ ?_;· omega)|(refine yaf ?_ ?_;· first|omega|exact yaa _ _|fail)|refine yab _ (hx _) ?_|refine zaf fo0 j rfl hlt zba q1 ?_|fail)));conv=>whnf
  (refine ⟨⟨(j+1,max d r),⟨by show j+1≤m.length;omega,hinv⟩,by omega,?_,.inl ⟨rfl,rfl⟩,rfl,_,rfl,?_⟩⟩;rotate_left 1;exact .inr ⟨by simp [za4,below,zae,tr,zau,zax],by simp [zdu,Blk.below,zae,below,zau,zax]⟩;exact ⟨⟨_,rfl,yae _⟩,⟨_,rfl,yae _⟩,trivial⟩)
 ·rw [ycp (by omega),depFs_nil] at hinv
  (repeat' ((conv=>whnf);(first|refine zal (by omega) ?_|refine EqN.mk (wI (d+1)) rfl ?_|fail)));conv=>whnf
  exact yaz trivial (Wk.of_eq (by rw [hinv]))
mutual
theorem depF_g:∀ x:Fo,x.good→DepF x
 | .mk op s l m,h=>depF_step op s l m (zao h.2.2.1) (zao h.2.2.2.2.1) h.2.2.2.1 (depFs_g m h.2.2.2.2.2)
theorem depFs_g:∀ l:List Fo,Fo.goodL l→∀ x∈l,DepF x
 | [],_,x,h=>by cases h
 | y::l,hg,x,h=>by
   have h1:=depF_g y hg.1
   have h2:=depFs_g l hg.2
   rcases yax.1 h with e|h
   ·exact e▸h1
   ·exact h2 x h
end
end
section
def foldE {S α:Type} (step:S→α→S×Bool):S→List α→S×Bool
 | s,[]=>(s,true)
 | s,x::l=>if (step s x).2 then foldE step (step s x).1 l else ((step s x).1,false)
theorem zch {S α:Type} (step:S→α→S×Bool) (s:S) (x:α) (l:List α):foldE step s (x::l)=if (step s x).2 then foldE step (step s x).1 l else ((step s x).1,false):=rfl
theorem zez {S α:Type} (step:S→α→S×Bool):∀ (l m:List α) (s:S),foldE step s (l++m)=if (foldE step s l).2 then foldE step (foldE step s l).1 m else ((foldE step s l).1,false)
 | [],m,s=>rfl
 | x::l,m,s=>by
   rw [ycc,zch,zch]
   split
   ·exact zez step l m _
   ·rfl
mutual
def tpart:Tm→List Tm
 | .mk v s l=>.mk v s l::tparts l
def tparts:List Tm→List Tm
 | []=>[]
 | x::l=>tpart x++tparts l
end
theorem tparts_cons (x:Tm) (l:List Tm):tparts (x::l)=tpart x++tparts l:=by rw [tparts.eq_def]
theorem tparts_nil:tparts []=[]:=by rw [tparts.eq_def]
theorem tpart_mk (v:Bool) (s:ByteArray) (l:List Tm):tpart (.mk v s l)=.mk v s l::tparts l:=by rw [tpart.eq_def]
mutual
def fpart:Fo→List Fo
 | .mk o s l m=>.mk o s l m::fparts m
def fparts:List Fo→List Fo
 | []=>[]
 | x::l=>fpart x++fparts l
end
theorem zed (x:Fo) (l:List Fo):fparts (x::l)=fpart x++fparts l:=by rw [fparts.eq_def]
theorem fparts_nil:fparts []=[]:=by rw [fparts.eq_def]
theorem zgg (o:Nat) (s:ByteArray) (l:List Tm) (m:List Fo):fpart (.mk o s l m)=.mk o s l m::fparts m:=by rw [fpart.eq_def]
mutual
theorem tpart_good:∀ x:Tm,x.good→∀ y∈tpart x,y.good
 | .mk v s l,h=>by
   have h1:=zfq l h.2.2
   intro y hy
   rw [tpart_mk] at hy
   rcases yax.1 hy with e|hy
   ·exact e▸h
   ·exact h1 y hy
theorem zfq:∀ l:List Tm,Tm.goodL l→∀ y∈tparts l,y.good
 | [],_,y,hy=>by rw [tparts_nil] at hy;cases hy
 | x::l,h,y,hy=>by
   have h1:=tpart_good x h.1
   have h2:=zfq l h.2
   rw [tparts_cons] at hy
   rcases ybd.1 hy with hy|hy
   ·exact h1 y hy
   ·exact h2 y hy
end
structure Vis {S α:Type} (F:Fn) (cs:List AV) (cell:α→List AV) (ok:α→Prop) (hp:S→Heap) (N:Nat) (I R:S→Prop) (step:S→α→S×Bool):Prop where
 ri:∀ s,R s→I s
 len:∀ s,I s→(hp s).length=N
 low:∀ s,I s→∀ B∈hp s,B.below N
 pres:∀ s x,R s→ok x→I (step s x).1∧((step s x).2=true→R (step s x).1)
 call:∀ s x Y,R s→ok x→VFn Tryz.prog F (.agg (cell x)::cs) (hp s++Y) (fun r H'=>r=.bool (step s x).2∧H'=hp (step s x).1++Y)
theorem Vis.fold {S α:Type} {F:Fn} {cs:List AV} {cell:α→List AV} {ok:α→Prop} {hp:S→Heap} {N:Nat} {I R:S→Prop} {step:S→α→S×Bool} (h:Vis F cs cell ok hp N I R step):∀ (l:List α) (s:S),(∀ x∈l,ok x)→R s→I (foldE step s l).1∧((foldE step s l).2=true→R (foldE step s l).1)
 | [],s,_,hs=>⟨h.ri s hs,fun _=>hs⟩
 | x::l,s,hl,hs=>by
   have h1:=h.pres s x hs (hl x (ya9 ..))
   rw [zch]
   split
   ·rename_i hb
    exact Vis.fold h l _ (fun y hy=>hl y (ya2 _ hy)) (h1.2 hb)
   ·exact ⟨h1.1,fun h=>by cases h⟩
theorem Vis.closed {S α:Type} {F:Fn} {cs:List AV} {cell:α→List AV} {ok:α→Prop} {hp:S→Heap} {N:Nat} {I R:S→Prop} {step:S→α→S×Bool} (h:Vis F cs cell ok hp N I R step) {s0:S} (h0:I s0) {X:Heap} (hc:zb5 (hp s0++X)) (s:S) (hs:I s):zb5 (hp s++X):=fun j B hj=>by
 have e:(hp s++X).length=(hp s0++X).length:=by simp [h.len s hs,h.len s0 h0]
 rcases yag j (hp s).length with hlt|hge
 ·rw [yaj hlt] at hj
  exact yc0 (by simp [h.len s hs]) (h.low s hs B (ycd hj))
 ·rw [yam hge] at hj
  rw [e]
  refine hc (N+(j-N)) B ?_
  rw [yam (by rw [h.len s0 h0];omega),h.len s0 h0]
  rw [h.len s hs] at hj
  rw [show N+(j-N)-N=j-N by omega]
  exact hj
attribute [local irreducible] VW VCall VO bits
def VisT {S:Type} (k:FuncId) (cs:List AV) (hp:S→Heap) (R:S→Prop) (step:S→Tm→S×Bool) (x:Tm):Prop:=∀ (v:Bool) (t:ByteArray) (l:List Tm),x=.mk v t l→∀ s X,R s→VCall Tryz.prog 55 [.sl none l.length (l.flatMap Tm.cells),.clo (.func k) [] cs] (hp s++X) (fun r H'=>r=.bool (foldE step s (tparts l)).2∧H'=hp (foldE step s (tparts l)).1++X)
theorem visTs_c {S:Type} {k:FuncId} {cs:List AV} {hp:S→Heap} {N:Nat} {I R:S→Prop} {step:S→Tm→S×Bool} (hv:Vis (.func k) cs Tm.cells Tm.good hp N I R step) (hcs:cs.length≤2) (l:List Tm) (hl:l.length≤9223372036854775807) (hg:Tm.goodL l) (h:∀ x∈l,VisT k cs hp R step x) (s0:S) (X:Heap) (hs0:R s0) :
  VCall Tryz.prog 55 [.sl none l.length (l.flatMap Tm.cells),.clo (.func k) [] cs] (hp s0++X) (fun r H'=>r=.bool (foldE step s0 (tparts l)).2∧H'=hp (foldE step s0 (tparts l)).1++X):=by
 have hI0:=hv.ri s0 hs0
 generalize hr:foldE step s0 (tparts l)=r
 refine za7 Tryz.E0 zab Tryz.func55 (by kernel_rfl) rfl (ybq rfl) rfl fun hcl hbl=>?_
 conv=>whnf
 have hlen:∀ s,I s→(hp s++X).length=(hp s0++X).length:=fun s hs=>by simp [hv.len s hs,hv.len s0 hI0]
 refine zfl Tryz.E0 zab (σ:=Nat×S) (fun p=>p.1≤l.length∧R p.2∧foldE step p.2 (tparts (l.drop p.1))=r) (fun p=>l.length-p.1) (fun p=>[(9,.v (.int .i64 p.1))]) (fun p=>hp p.2++X) (fun _=>[]) _ (0,s0) (fun p hp'=>hlen _ (hv.ri _ hp'.2.1)) (fun p hp'=>hv.closed hI0 hcl _ (hv.ri _ hp'.2.1)) [1,7,8] rfl ⟨yah _,hs0,hr⟩ ⟨⟨_,rfl,yae _⟩,trivial⟩ rfl rfl (fun _ _=>rfl) ?_
 rintro ⟨j,s⟩ ⟨hj,hs,hinv⟩
 simp only at hj hs hinv
 clear hbl
 by_cases hlt:j<l.length
 ·obtain ⟨v,t,a,e1⟩:=tm_ex (l.getD j tm0)
  have hgx:=zdw hg _ (zak l j tm0 hlt)
  have hx:=h _ (zak l j tm0 hlt) v t a e1
  have q1:(l.getD j tm0).cells=[.bool v,.str t,.sl none a.length (a.flatMap Tm.cells)]:=by rw [e1,zai]
  rw [zce l tm0 j hlt,tparts_cons,zez,e1,tpart_mk,zch] at hinv
  rw [e1] at hgx
  have hc:=fun Y=>hv.call s (.mk v t a) Y hs hgx
  have hp1:=hv.pres s (.mk v t a) hs hgx
  rw [zai] at hc
  generalize step s (.mk v t a)=st at *
  obtain ⟨s1,b1⟩:=st
  simp only at hc hp1 hinv
  have hc2:∀ Y,VFn Tryz.prog (.func k) (.agg [.bool v,.str t,.sl none a.length (a.flatMap Tm.cells)]::cs) ((hp s++X)++Y) (fun r H'=>r=.bool b1∧H'=(hp s1++X)++Y):=fun Y=>by
   have:=hc (X++Y)
   simpa only [yba] using this
  cases b1 with
  | false =>
    simp only [ya6,if_false] at hinv
    subst hinv
    (repeat' ((conv=>whnf);(first|(refine yai ?_;first|refine yar ?_|refine yat rfl ?_|refine zaq (by omega) ?_|fail)|(refine yaf ?_ ?_;· first|omega|exact yaa _ _|fail)|refine zaf tm0 j rfl hlt zbh q1 ?_|refine ycf _ _ _ _ (hc2 _) (hlen _ hp1.1) rfl ?_|fail)));conv=>whnf
    refine .cut (hlen _ hp1.1) (fun i B hB=>.inr ?_) ⟨_,_,.refl _,yae _,trivial,rfl,rfl⟩
    rw [← hlen _ hp1.1]
    exact hv.closed hI0 hcl _ hp1.1 i B hB
  | true =>
    simp only [if_true] at hinv
    have hR1:=hp1.2 rfl
    have hfo:=hv.fold (tparts a) s1 (zfq a hgx.2.2) hR1
    have hx2:∀ Y,VCall Tryz.prog 55 [.sl none a.length (a.flatMap Tm.cells),.clo (.func k) [] cs] ((hp s1++X)++Y) (fun r H'=>r=.bool (foldE step s1 (tparts a)).2∧H'=(hp (foldE step s1 (tparts a)).1++X)++Y):=fun Y=>by
     have:=hx s1 (X++Y) hR1
     simpa only [yba] using this
    generalize foldE step s1 (tparts a)=st at *
    obtain ⟨s2,b2⟩:=st
    simp only at hx2 hfo hinv
    cases b2 with
    | false =>
      simp only [ya6,if_false] at hinv
      subst hinv
      (repeat' ((conv=>whnf);(first|(refine yai ?_;first|refine yar ?_|refine yaq rfl ?_|refine yat rfl ?_|refine zaq (by omega) ?_|fail)|(refine yaf ?_ ?_;· first|omega|exact yaa _ _|fail)|refine zaf tm0 j rfl hlt zbh q1 ?_|refine ycf _ _ _ _ (hc2 _) (hlen _ hp1.1) rfl ?_|refine ycf _ _ _ _ (hx2 _) (hlen _ hfo.1) rfl ?_|fail)));conv=>whnf
      refine .cut (hlen _ hfo.1) (fun i B hB=>.inr ?_) ⟨_,_,.refl _,yae _,trivial,rfl,rfl⟩
      rw [← hlen _ hfo.1]
      exact hv.closed hI0 hcl _ hfo.1 i B hB
    | true =>
      simp only [if_true] at hinv
      (repeat' ((conv=>whnf);(first|(refine yai ?_;first|refine yar ?_|refine yaq rfl ?_|refine zaq (by omega) ?_|fail)|(refine zaw _ _ Cst.h Cst.h ?_ ?_;· omega)|(refine yaf ?_ ?_;· first|omega|exact yaa _ _|fail)|refine zaf tm0 j rfl hlt zbh q1 ?_|refine ycf _ _ _ _ (hc2 _) (hlen _ hp1.1) rfl ?_|refine ycf _ _ _ _ (hx2 _) (hlen _ hfo.1) rfl ?_|fail)));conv=>whnf
      (refine ⟨⟨(j+1,s2),⟨by show j+1≤l.length;omega,hfo.2 rfl,hinv⟩,by omega,?_,.inl ⟨rfl,rfl⟩,rfl,_,rfl,?_⟩⟩;rotate_left 1;exact .inr ⟨by simp [za4,below,zae,tr,zau,zax],by simp [zdu,Blk.below,zae,below,zau,zax]⟩;exact ⟨⟨_,rfl,yae _⟩,trivial⟩)
 ·rw [ycp (by omega),tparts_nil] at hinv
  subst hinv
  (repeat' ((conv=>whnf);(first|refine zal (by omega) ?_|fail)));conv=>whnf
  refine .cut (hlen _ (hv.ri _ hs)) (fun i B hB=>.inr ?_) ⟨_,_,.refl _,yae _,trivial,rfl,rfl⟩
  rw [← hlen _ (hv.ri _ hs)]
  exact hv.closed hI0 hcl _ (hv.ri _ hs) i B hB
mutual
theorem visT_g {S:Type} {k:FuncId} {cs:List AV} {hp:S→Heap} {N:Nat} {I R:S→Prop} {step:S→Tm→S×Bool} (hv:Vis (.func k) cs Tm.cells Tm.good hp N I R step) (hcs:cs.length≤2):∀ x:Tm,x.good→VisT k cs hp R step x
 | .mk v s l,h=>by
   have h1:=visTs_g hv hcs l h.2.2
   intro v' s' l' e st X hs
   cases e
   exact visTs_c hv hcs l (zao h.2.1) h.2.2 h1 st X hs
theorem visTs_g {S:Type} {k:FuncId} {cs:List AV} {hp:S→Heap} {N:Nat} {I R:S→Prop} {step:S→Tm→S×Bool} (hv:Vis (.func k) cs Tm.cells Tm.good hp N I R step) (hcs:cs.length≤2):∀ l:List Tm,Tm.goodL l→∀ x∈l,VisT k cs hp R step x
 | [],_,x,h=>by cases h
 | y::l,hg,x,h=>by
   have h1:=visT_g hv hcs y hg.1
   have h2:=visTs_g hv hcs l hg.2
   rcases yax.1 h with e|h
   ·exact e▸h1
   ·exact h2 x h
end
theorem visitTerms_c {S:Type} {k:FuncId} {cs:List AV} {hp:S→Heap} {N:Nat} {I R:S→Prop} {step:S→Tm→S×Bool} (hv:Vis (.func k) cs Tm.cells Tm.good hp N I R step) (hcs:cs.length≤2) (l:List Tm) (hl:l.length≤9223372036854775807) (hg:Tm.goodL l) (s:S) (X:Heap) (hs:R s) :
  VCall Tryz.prog 55 [.sl none l.length (l.flatMap Tm.cells),.clo (.func k) [] cs] (hp s++X) (fun r H'=>r=.bool (foldE step s (tparts l)).2∧H'=hp (foldE step s (tparts l)).1++X) :=
 visTs_c hv hcs l hl hg (visTs_g hv hcs l hg) s X hs
structure Clo (ok:Fo→Prop):Prop where
 good:∀ x,ok x→x.good
 sub:∀ o s l m,ok (.mk o s l m)→∀ y∈m,ok y
mutual
theorem Clo.part {ok:Fo→Prop} (hk:Clo ok):∀ x:Fo,ok x→∀ y∈fpart x,ok y
 | .mk o s l m,h=>by
   have h1:=Clo.parts hk m (hk.sub o s l m h)
   intro y hy
   rw [zgg] at hy
   rcases yax.1 hy with e|hy
   ·exact e▸h
   ·exact h1 y hy
theorem Clo.parts {ok:Fo→Prop} (hk:Clo ok):∀ l:List Fo,(∀ x∈l,ok x)→∀ y∈fparts l,ok y
 | [],_,y,hy=>by rw [fparts_nil] at hy;cases hy
 | x::l,h,y,hy=>by
   have h1:=Clo.part hk x (h x (ya9 ..))
   have h2:=Clo.parts hk l fun z hz=>h z (ya2 _ hz)
   rw [zed] at hy
   rcases ybd.1 hy with hy|hy
   ·exact h1 y hy
   ·exact h2 y hy
end
theorem clo_good:Clo Fo.good:=⟨fun _ h=>h,fun _ _ _ _ h=>zbc h.2.2.2.2.2⟩
def VisF {S:Type} (F:Fn) (hp:S→Heap) (R:S→Prop) (step:S→Fo→S×Bool) (x:Fo):Prop:=∀ s X,R s→VCall Tryz.prog 81 [.agg x.cells,.clo F [] []] (hp s++X) (fun r H'=>r=.bool (foldE step s (fpart x)).2∧H'=hp (foldE step s (fpart x)).1++X)
theorem visF_step {S:Type} {F:Fn} {hp:S→Heap} {N:Nat} {I R:S→Prop} {step:S→Fo→S×Bool} {ok:Fo→Prop} (hk:Clo ok) (hv:Vis F [] Fo.cells ok hp N I R step) (o:Nat) (t:ByteArray) (a:List Tm) (l:List Fo) (hgk:ok (Fo.mk o t a l)) (h:∀ x∈l,VisF F hp R step x):VisF F hp R step (.mk o t a l):=by
 intro s0 X hs0
 have hI0:=hv.ri s0 hs0
 have hg:=hk.good _ hgk
 have hl:=zao hg.2.2.2.2.1
 have hc:=fun Y=>hv.call s0 (.mk o t a l) Y hs0 hgk
 have hp1:=hv.pres s0 (.mk o t a l) hs0 hgk
 rw [zgg,zch]
 rw [zac] at hc ⊢
 generalize step s0 (.mk o t a l)=st at *
 obtain ⟨s1,b1⟩:=st
 simp only at hc hp1 ⊢
 have hlen:∀ s,I s→(hp s++X).length=(hp s0++X).length:=fun s hs=>by simp [hv.len s hs,hv.len s0 hI0]
 have hc2:∀ Y,VFn Tryz.prog F (.agg [.int .u8 o,.str t,.sl none a.length (a.flatMap Tm.cells),.sl none l.length (l.flatMap Fo.cells)]::[]) ((hp s0++X)++Y) (fun r H'=>r=.bool b1∧H'=(hp s1++X)++Y):=fun Y=>by
  have:=hc (X++Y)
  simpa only [yba] using this
 cases b1 with
 | false =>
   rw [if_neg (by simp)]
   simp only
   refine za7 Tryz.E0 zab Tryz.func81 (by kernel_rfl) rfl (ybq rfl) rfl fun hcl hbl=>?_
   (repeat' ((conv=>whnf);(first|(refine yai ?_;first|refine yar ?_|refine yat rfl ?_|fail)|refine ycf _ _ _ _ (hc2 _) (hlen _ hp1.1) rfl ?_|fail)));conv=>whnf
   refine .cut (hlen _ hp1.1) (fun i B hB=>.inr ?_) ⟨_,_,.refl _,yae _,trivial,rfl,rfl⟩
   rw [← hlen _ hp1.1]
   exact hv.closed hI0 hcl _ hp1.1 i B hB
 | true =>
   rw [if_pos rfl]
   have hR1:=hp1.2 rfl
   generalize hr:foldE step s1 (fparts l)=r
   refine za7 Tryz.E0 zab Tryz.func81 (by kernel_rfl) rfl (ybq rfl) rfl fun hcl hbl=>?_
   (repeat' ((conv=>whnf);(first|(refine yai ?_;first|refine yar ?_|refine yaq rfl ?_|fail)|refine ycf _ _ _ _ (hc2 _) (hlen _ hp1.1) rfl ?_|fail)));conv=>whnf
   refine zfl Tryz.E0 zab (σ:=Nat×S) (fun p=>p.1≤l.length∧R p.2∧foldE step p.2 (fparts (l.drop p.1))=r) (fun p=>l.length-p.1) (fun p=>[(14,.v (.int .i64 p.1))]) (fun p=>hp p.2++X) (fun _=>[.box 25 [.int .u8 o,.str t,.sl none a.length (a.flatMap Tm.cells),.sl none l.length (l.flatMap Fo.cells)]]) _ (0,s1) (fun p hp'=>hlen _ (hv.ri _ hp'.2.1)) (fun p hp'=>hv.closed hI0 hcl _ (hv.ri _ hp'.2.1)) [1,12,13] rfl ⟨yah _,hR1,hr⟩ ⟨⟨_,rfl,yae _⟩,trivial⟩ rfl rfl (fun _ _=>rfl) ?_
   rintro ⟨j,s⟩ ⟨hj,hs,hinv⟩
   simp only at hj hs hinv
   clear hbl
   by_cases hlt:j<l.length
   ·obtain ⟨o2,t2,a2,m2,e1⟩:=fo_ex (l.getD j fo0)
    have hgx:=hk.sub _ _ _ _ hgk _ (zak l j fo0 hlt)
    have hx:=h _ (zak l j fo0 hlt)
    have q1:(l.getD j fo0).cells=[.int .u8 o2,.str t2,.sl none a2.length (a2.flatMap Tm.cells),.sl none m2.length (m2.flatMap Fo.cells)]:=by rw [e1,zac]
    rw [zce l fo0 j hlt,zed,zez] at hinv
    have hfo:=hv.fold (fpart (l.getD j fo0)) s (hk.part _ hgx) hs
    have hx2:∀ Y,VCall Tryz.prog 81 [.agg (l.getD j fo0).cells,.clo F [] []] ((hp s++X)++Y) (fun r H'=>r=.bool (foldE step s (fpart (l.getD j fo0))).2∧H'=(hp (foldE step s (fpart (l.getD j fo0))).1++X)++Y):=fun Y=>by
     have:=hx s (X++Y) hs
     simpa only [yba] using this
    rw [q1] at hx2
    generalize foldE step s (fpart (l.getD j fo0))=st at *
    obtain ⟨s2,b2⟩:=st
    simp only at hx2 hfo hinv
    cases b2 with
    | false =>
      simp only [ya6,if_false] at hinv
      subst hinv
      (repeat' ((conv=>whnf);(first|(refine yai ?_;first|refine yar ?_|refine yat rfl ?_|refine zaq (by omega) ?_|fail)|(refine yaf ?_ ?_;· first|omega|exact yaa _ _|fail)|refine zaf fo0 j rfl hlt zba q1 ?_|refine ycf _ _ _ _ (hx2 _) (hlen _ hfo.1) rfl ?_|fail)));conv=>whnf
      refine .cut (hlen _ hfo.1) (fun i B hB=>.inr ?_) ⟨_,_,.refl _,yae _,trivial,rfl,rfl⟩
      rw [← hlen _ hfo.1]
      exact hv.closed hI0 hcl _ hfo.1 i B hB
    | true =>
      simp only [if_true] at hinv
      (repeat' ((conv=>whnf);(first|(refine yai ?_;first|refine yar ?_|refine yaq rfl ?_|refine zaq (by omega) ?_|fail)|(refine zaw _ _ Cst.h Cst.h ?_ ?_;· omega)|(refine yaf ?_ ?_;· first|omega|exact yaa _ _|fail)|refine zaf fo0 j rfl hlt zba q1 ?_|refine ycf _ _ _ _ (hx2 _) (hlen _ hfo.1) rfl ?_|fail)));conv=>whnf
      (refine ⟨⟨(j+1,s2),⟨by show j+1≤l.length;omega,hfo.2 rfl,hinv⟩,by omega,?_,.inl ⟨rfl,rfl⟩,rfl,_,rfl,?_⟩⟩;rotate_left 1;exact .inr ⟨by simp [za4,below,zae,tr,zau,zax],by simp [zdu,Blk.below,zae,below,zau,zax]⟩;exact ⟨⟨_,rfl,yae _⟩,trivial⟩)
   ·rw [ycp (by omega),fparts_nil] at hinv
    subst hinv
    (repeat' ((conv=>whnf);(first|refine zal (by omega) ?_|fail)));conv=>whnf
    refine .cut (hlen _ (hv.ri _ hs)) (fun i B hB=>.inr ?_) ⟨_,_,.refl _,yae _,trivial,rfl,rfl⟩
    rw [← hlen _ (hv.ri _ hs)]
    exact hv.closed hI0 hcl _ (hv.ri _ hs) i B hB
mutual
theorem visF_g {S:Type} {F:Fn} {hp:S→Heap} {N:Nat} {I R:S→Prop} {step:S→Fo→S×Bool} {ok:Fo→Prop} (hk:Clo ok) (hv:Vis F [] Fo.cells ok hp N I R step):∀ x:Fo,ok x→VisF F hp R step x
 | .mk o s l m,h=>visF_step hk hv o s l m h (visFs_g hk hv m (hk.sub _ _ _ _ h))
theorem visFs_g {S:Type} {F:Fn} {hp:S→Heap} {N:Nat} {I R:S→Prop} {step:S→Fo→S×Bool} {ok:Fo→Prop} (hk:Clo ok) (hv:Vis F [] Fo.cells ok hp N I R step):∀ l:List Fo,(∀ x∈l,ok x)→∀ x∈l,VisF F hp R step x
 | [],_,x,h=>by cases h
 | y::l,hg,x,h=>by
   have h1:=visF_g hk hv y (hg y (ya9 ..))
   have h2:=visFs_g hk hv l fun z hz=>hg z (ya2 _ hz)
   rcases yax.1 h with e|h
   ·exact e▸h1
   ·exact h2 x h
end
end
section
def foldB {S α:Type} (step:S→α→S×Option Code):S→List α→S×Option Code
 | s,[]=>(s,none)
 | s,x::l=>if (step s x).2.isNone then foldB step (step s x).1 l else step s x
theorem zde {S α:Type} (step:S→α→S×Option Code) (s:S) (x:α) (l:List α):foldB step s (x::l)=if (step s x).2.isNone then foldB step (step s x).1 l else step s x:=rfl
def stepE {S α:Type} (step:S→α→S×Option Code) (p:S×Option Code) (x:α):(S×Option Code)×Bool:=(step p.1 x,(step p.1 x).2.isNone)
theorem foldE_B {S α:Type} (step:S→α→S×Option Code):∀ (l:List α) (s:S),foldE (stepE step) (s,none) l=(foldB step s l,(foldB step s l).2.isNone)
 | [],s=>rfl
 | x::l,s=>by
   rw [zch,zde]
   show (if (step s x).2.isNone=true then foldE (stepE step) (step s x) l else (step s x,false))=_
   by_cases h:(step s x).2.isNone=true
   ·rw [if_pos h,if_pos h]
    have:step s x=((step s x).1,none):=by
     rw [ydi] at h
     exact Prod.ext rfl h
    rw [this]
    exact foldE_B step l _
   ·rw [if_neg h,if_neg h]
    simp only [Bool.not_eq_true] at h
    rw [h]
theorem zbt {base loc X:Heap} {j:Nat} {B B':Blk} (h:lget loc j=some B'):((base++loc)++X).set (base.length+j) B=(base++loc.set j B)++X:=by
 have hj:j<loc.length:=by
  rw [zat] at h
  exact (yac.1 h).1
 rw [ych _ _ (by simp;omega),zbn]
abbrev lpB (n0:Nat) (bk:RE) (N:FN) (ps:Array Tmp) (assign body:Code) (st:LoopState) (jp:Option Code):Blk:=.loop st jp (trE n0 bk) ⟨N.n,ps,assign,body⟩
def stOf:Option Code→LoopState
 | none=>.ready
 | some _=>.done
abbrev rndW (n0 k:Nat) (bk:RE) (N:FN) (ps:Array Tmp) (assign body:Code) (H:Heap) (vs1:List AV) (R:AV→Heap→Prop):Prop :=
 wpC Tryz.prog Tryz.kn Tryz.T ⟨N.n,some (n0+k)⟩ H.length assign (fun e top bot base k' loc=>match e with
   | .normal=>RndB Tryz.prog Tryz.kn Tryz.T H (n0+k) (trE n0 bk) ⟨N.n,ps,assign,body⟩ R top bot base k' loc
   | _=>False) (parRE ps.toList vs1 (reB n0 bk)) [] H 0 []
theorem get_lo3 {base A Y:Heap} {j:Nat} (h:j<base.length):((base++A)++Y)[j]? = base[j]? := by
 rw [yba,yaj h]
theorem get_hi3 {base A Y:Heap} {j n:Nat} (hn:base.length+A.length=n) (h:n≤j):((base++A)++Y)[j]? = Y[j-n]? := by
 rw [yam (by rw [ya3];omega),ya3,hn]
theorem zeq {base l l' Y:Heap} {k:Nat} {bk:RE} {N:FN} {ps:Array Tmp} {assign body:Code} {e:Exit} {jp:Option Code} {jp':Option Code} {b:Bool} {st:LoopState} (hx:RndEx e jp' b st) (hk:l.length=k) (hk':l'.length=k) (hb:∀ B∈l',B.below (base.length+(k+1))) (bbk:za4 base.length (base.length+(k+1)) bk) :
  RndEnd ((base++(l++[lpB base.length bk N ps assign body .ready none]))++Y) (base.length+k) (trE base.length bk) ⟨N.n,ps,assign,body⟩ (fun r H'=>r=.bool b∧H'=(base++(l'++[lpB base.length bk N ps assign body st jp']))++Y) e ((base++(l'++[lpB base.length bk N ps assign body .busy jp]))++Y):=by
 subst hk
 have hg:lget (l'++[lpB base.length bk N ps assign body .busy jp]) l.length=some (lpB base.length bk N ps assign body .busy jp):=by
  rw [zat,yam (by omega),hk',ycl]
  rfl
 refine ⟨⟨jp,jp',b,st,_,hx,zav Y hg,zbt hg,by simp [hk'],fun j B hj=>?_,rfl,?_⟩⟩
 ·have hs:(l'++[lpB base.length bk N ps assign body .busy jp]).set l.length (lpB base.length bk N ps assign body st jp')=l'++[lpB base.length bk N ps assign body st jp']:=by
   rw [ybv _ _ (by omega),hk',ycl]
   rfl
  rw [hs] at hj
  rcases yag j base.length with h1|h1
  ·left
   exact (get_lo3 h1).trans ((get_lo3 h1).symm.trans hj)
  ·rcases yag j (base.length+(l.length+1)) with h2|h2
   ·right
    rw [yaj (by simp [hk'];omega),yam h1] at hj
    have hm:=ycd hj
    have q:B.below (base.length+(l.length+1)):=by
     rcases ybd.1 hm with h|h
     ·exact hb B h
     ·simp only [yay] at h
      subst h
      exact zd6 bbk
    exact yc0 (by simp only [ya3,List.length_singleton];omega) q
   ·left
    exact (get_hi3 (by simp) h2).trans ((get_hi3 (by simp [hk']) h2).symm.trans hj)
 ·have hs:(l'++[lpB base.length bk N ps assign body .busy jp]).set l.length (lpB base.length bk N ps assign body st jp')=l'++[lpB base.length bk N ps assign body st jp']:=by
   rw [ybv _ _ (by omega),hk',ycl]
   rfl
  rw [hs]
attribute [local irreducible] VW VCall VO bits
theorem walk_c (f:Fo) (H:Heap):VCall Tryz.prog 53 [.agg f.cells] H (fun r H'=>r=.clo (.func 80) [] [.ptr (H.length+0) 0]∧H'=H++[.box 25 f.cells]):=by
 obtain ⟨o,s,l,m,rfl⟩:=fo_ex f
 rw [zac]
 refine za7 Tryz.E0 zab Tryz.func53 (by kernel_rfl) rfl (ybq rfl) rfl fun hcl hbl=>?_
 conv=>whnf
 exact ydh _ (yae _) ⟨rfl,rfl⟩
theorem walk1_c {S:Type} {F:Fn} {hp:S→Heap} {N:Nat} {I R:S→Prop} {step:S→Fo→S×Bool} {ok:Fo→Prop} (hk:Clo ok) (hv:Vis F [] Fo.cells ok hp N I R step) (f:Fo) (hg:ok f) (s:S) (hs:R s) (i:Nat) (hi:(hp s)[i]? = some (.box 25 f.cells)) :
  VCall Tryz.prog 80 [.clo F [] [],.ptr i 0] (hp s) (fun _ H'=>H'=hp (foldE step s (fpart f)).1):=by
 have h:=visF_g hk hv f hg s [] hs
 have hf:=hv.fold (fpart f) s (hk.part f hg) hs
 have hl1:=hv.len s (hv.ri s hs)
 have hl2:=hv.len _ hf.1
 have hc0:=hv.low _ hf.1
 generalize foldE step s (fpart f)=st at *
 obtain ⟨s2,b⟩:=st
 simp only at h hf hl2 hc0 ⊢
 obtain ⟨o,t,a,m,rfl⟩:=fo_ex f
 rw [zac] at h hi
 have hle:(hp s2).length=(hp s).length:=by rw [hl1,hl2]
 refine za7 Tryz.E0 zab Tryz.func80 (by kernel_rfl) rfl (ybq rfl) rfl fun hcl hbl=>?_
 (repeat' ((conv=>whnf);(first|refine ycf _ _ _ _ h hle rfl ?_|refine yb3 _ (by (repeat' (first|assumption|exact zav _ rfl|exact za1 rfl|refine za9 (B':=?_) ?_|refine zas ?_|fail))) ?_|fail)));conv=>whnf
 refine .cut hle (fun j B hB=>.inr ?_) ⟨_,_,.refl _,yae _,by simp [below,zae],rfl⟩
 rw [hl1]
 exact hc0 B (ycd hB)
theorem ze8 {S:Type} {ok:Fo→Prop} (hk:Clo ok) (f:Fo) (hg:ok f) {N:FN} {n0:Nat} {ps:Array Tmp} {assign body:Code} {Q:QR} {top bot:RE} {base:Heap} {k:Nat} {loc:Heap}
  (hbase:base.length=n0) (hcl:zb5 base) (hN:N.r=none) (ts:List Nat) (bk:RE) (hbk:pickO ts top bot=some bk)
  (hps:∀ p∈ps.toList,p<N.n) (hps1:ps.size=1) (bbk:za4 n0 (n0+(k+1)) bk)
  (ls:S→Heap) (I R:S→Prop) (stepB:S→Fo→S×Option Code) (s0:S) (hs0:R s0) (h0:loc=ls s0) (iw:Nat) (hiw:lget (ls s0) iw=some (.box 25 f.cells))
  (ri:∀ s,R s→I s) (lens:∀ s,I s→(ls s).length=k) (bls:∀ s,I s→∀ B∈ls s,B.below (n0+(k+1)))
  (pres:∀ s x,R s→ok x→I (stepB s x).1∧((stepB s x).2=none→R (stepB s x).1))
  (hy:∀ s x Y,R s→ok x→rndW n0 k bk N ps assign body ((base++(ls s++[lpB n0 bk N ps assign body .ready none]))++Y) [.agg x.cells] (fun r H'=>r=.bool (stepB s x).2.isNone∧H'=(base++(ls (stepB s x).1++[lpB n0 bk N ps assign body (stOf (stepB s x).2) (stepB s x).2]))++Y))
  (hQ:jumpN Q top bot base (k+1) (ls (foldB stepB s0 (fpart f)).1++[.dead]) (foldB stepB s0 (fpart f)).2) :
  RangeN Tryz.prog N n0 80 [] [.ptr (n0+iw) 0] ps assign body Q top bot base k loc:=by
 subst hbase h0
 let hp:S×Option Code→Heap:=fun p=>base++(ls p.1++[lpB base.length bk N ps assign body (stOf p.2) p.2])
 have hloopb:∀ st jp,(lpB base.length bk N ps assign body st jp).below (base.length+(k+1)):=fun _ _=>zd6 bbk
 have hk0:(ls s0).length=k:=lens s0 (ri s0 hs0)
 have hv:Vis (.yield (base.length+k)) [] Fo.cells ok hp (base.length+(k+1)) (fun p=>I p.1) (fun p=>R p.1∧p.2=none) (stepE stepB):=by
  refine ⟨fun p h=>ri _ h.1,fun p h=>by simp [hp,lens _ h],fun p h B hB=>?_,fun p x h hx=>?_,fun p x Y h hx=>?_⟩
  ·rcases ybd.1 hB with hB|hB
   ·obtain ⟨j,hj⟩:=yci hB
    exact yc0 (by omega) (hcl j B hj)
   ·rcases ybd.1 hB with hB|hB
    ·exact bls _ h B hB
    ·simp only [yay] at hB
     subst hB
     exact hloopb _ _
  ·have:=pres p.1 x h.1 hx
   refine ⟨this.1,fun hb=>?_⟩
   have hb:(stepB p.1 x).2.isNone=true:=hb
   rw [ydi] at hb
   exact ⟨this.2 hb,hb⟩
  ·obtain ⟨s,jp⟩:=p
   obtain ⟨h1,h2⟩:=h
   simp only at h1 h2
   subst h2
   have h3:=hy s x Y h1 hx
   have hi:((base++(ls s++[lpB base.length bk N ps assign body .ready none]))++Y)[base.length+k]? = some (lpB base.length bk N ps assign body .ready none):=by
    refine zav Y ?_
    rw [zat,yam (by rw [lens s (ri s h1)];exact yaw _),lens s (ri s h1),ycl]
    rfl
   exact round_R Tryz.E0 zab hi hps (by simp [hps1]) h3
 have hit:=walk1_c hk hv f hg (s0,none) ⟨hs0,rfl⟩ (base.length+iw) (by
  show (base++(ls s0++[_]))[base.length+iw]? = _
  refine za1 ?_
  rw [zat] at hiw ⊢
  rw [yaj (yac.1 hiw).1]
  exact hiw)
 rw [foldE_B] at hit
 have hI:=hv.fold (fpart f) (s0,none) (hk.part f hg) ⟨hs0,rfl⟩
 rw [foldE_B] at hI
 generalize foldB stepB s0 (fpart f)=res at *
 obtain ⟨s2,jp2⟩:=res
 simp only at hit hI hQ
 have hl2:=lens s2 hI.1
 refine .mk ⟨(fun i hi=>by rw [hN] at hi;cases hi),ts,bk,(fun _ H'=>H'=hp (s2,jp2)),hbk,?_,?_⟩
 ·rw [yba]
  exact hit
 ·rintro r H' rfl
  refine ⟨base,k+1,ls s2++[lpB base.length bk N ps assign body (stOf jp2) jp2],stOf jp2,jp2,ls s2++[.dead],rfl,by simp [hl2],rfl,?_,by cases jp2 <;> simp [stOf],?_,hQ⟩
  ·rw [zat,yam (by omega),hl2,ycl];rfl
  ·rw [zcc (by simp [hl2])]
   rw [ybv _ _ (by omega),hl2,ycl]
   rfl
end
section
def targs:Fo→List Tm
 | .mk _ _ l _=>l
def stepT (lim:Int) (n:Int) (_:Tm):Int×Bool:=(wI (n+1),decide (wI (n+1)≤lim))
def cntT (lim n:Int) (l:List Tm):Int:=(foldE (stepT lim) (wI (n+1)) (tparts l)).1
def stepC (lim:Int) (n:Int) (x:Fo):Int×Option Code:=(cntT lim n (targs x),if lim<cntT lim n (targs x) then some (.exit 0) else none)
def cntF (lim:Int) (f:Fo):Int:=(foldB (stepC lim) 0 (fpart f)).1
attribute [local irreducible] VW VCall VO bits
theorem count1_c (x:Tm) (n lim:Int) (H:Heap) (i j:Nat) (hi:H[i]? = some (.box 3 [.int .i64 n])) (hj:H[j]? = some (.box 3 [.int .i64 lim])) (hij:i≠j) :
  VCall Tryz.prog 85 [.agg x.cells,.ptr i 0,.ptr j 0] H (setR H i (.box 3 [.int .i64 (wI (n+1))]) (.bool (decide (wI (n+1)≤lim)))):=by
 obtain ⟨v,s,l,rfl⟩:=tm_ex x
 rw [zai]
 have hj2:(H.set i (.box 3 [.int .i64 (wI (n+1))]))[j]? = some (.box 3 [.int .i64 lim]):=by
  rw [yav,if_neg hij];exact hj
 have hi2:(H.set i (.box 3 [.int .i64 (wI (n+1))]))[i]? = some (.box 3 [.int .i64 (wI (n+1))]):=za9 hi
 refine za7 Tryz.E0 zab Tryz.func85 (by kernel_rfl) rfl (ybq rfl) rfl fun hcl hbl=>?_
 (repeat' ((conv=>whnf);(first|refine EqN.mk (wI (n+1)) rfl ?_|refine ydf _ rfl ?_|refine yb3 _ (by (repeat' (first|assumption|exact zav _ rfl|exact za1 rfl|refine za9 (B':=?_) ?_|refine zas ?_|fail))) ?_|fail)));conv=>whnf
 exact za6 (by simp [Blk.below,zae,below]) trivial (yae _)
theorem count_vis (base:Heap) (ls:Int→Heap) (a b N:Nat) (lim:Int) (hN:∀ n,(base++ls n).length=N) (low:∀ n,∀ B∈base++ls n,B.below N) (ha:∀ n,lget (ls n) a=some (.box 3 [.int .i64 n])) (hb:∀ n,lget (ls n) b=some (.box 3 [.int .i64 lim])) (hab:a≠b) (hset:∀ n m,(ls n).set a (.box 3 [.int .i64 m])=ls m) :
  Vis (.func 85) [.ptr (base.length+a) 0,.ptr (base.length+b) 0] Tm.cells Tm.good (fun n=>base++ls n) N (fun _=>True) (fun _=>True) (stepT lim):=by
 refine ⟨fun _ _=>trivial,fun n _=>hN n,fun n _=>low n,fun _ _ _ _=>⟨trivial,fun _=>trivial⟩,fun n x Y _ _=>?_⟩
 have h:=count1_c x n lim ((base++ls n)++Y) (base.length+a) (base.length+b) (zav Y (ha n)) (zav Y (hb n)) (by omega)
 refine VCall.mono h ?_
 rintro r H' ⟨rfl,rfl⟩
 refine ⟨rfl,?_⟩
 rw [zbt (ha n),hset]
 rfl
theorem cntF_jp (lim:Int):∀ (l:List Fo) (n:Int),(foldB (stepC lim) n l).2=none∨(foldB (stepC lim) n l).2=some (.exit 0)
 | [],n=>.inl rfl
 | x::l,n=>by
   rw [zde]
   split
   ·exact cntF_jp lim l _
   ·show (if lim<cntT lim n (targs x) then some (Code.exit 0) else none)=none∨_
    split
    ·right;unfold stepC;simp [*]
    ·left;rfl
theorem count_c (f:Fo) (hg:f.good) (lim:Int) (H:Heap):VDet Tryz.prog 57 [.agg f.cells,.int .i64 lim] H (.int .i64 (cntF lim f)):=by
 have hw:=walk_c f (H++[.box 25 f.cells,.box 3 [.int .i64 lim],.box 3 [.int .i64 0]])
 rw [ya3] at hw
 have hfb:=fun n=>zco n f
 unfold cntF
 obtain ⟨fc,hfc⟩:∃ fc,fc=f.cells:=⟨_,rfl⟩
 have hce:∃ o s ln lc mn mc,f.cells=[.int .u8 (o:Nat),.str s,.sl none ln lc,.sl none mn mc]:=by
  obtain ⟨o,s,l,m,rfl⟩:=fo_ex f
  rw [zac]
  exact ⟨_,_,_,_,_,_,rfl⟩
 obtain ⟨o,s,ln,lc,mn,mc,hce⟩:=hce
 rw [hce] at hw hfb ⊢
 refine zah Tryz.E0 zab Tryz.func57 (by kernel_rfl) rfl (ybq rfl) rfl fun hcl hbl=>?_
 (repeat' ((conv=>whnf);(first|refine ydg _ _ _ 4 hw rfl rfl rfl ?_|fail)));conv=>whnf
 refine ze8 clo_good f hg rfl hcl rfl [3,5] _ rfl (by decide) rfl (by simp [za4,below,tr])
  (fun n:Int=>[.box 25 [.int .u8 o,.str s,.sl none ln lc,.sl none mn mc],.box 3 [.int .i64 lim],.box 3 [.int .i64 n],.box 25 [.int .u8 o,.str s,.sl none ln lc,.sl none mn mc]]) (fun _=>True) (fun _=>True) (stepC lim) 0 trivial rfl 3 (by rw [hce];rfl) (fun _ _=>trivial) (fun _ _=>rfl) ?_ (fun _ _ _ _=>⟨trivial,fun _=>trivial⟩) ?_ ?_
 ·intro n _ B hB
  have:=hfb (H.length+(4+1))
  simp only [yax,ycm,or_false] at hB
  rcases hB with rfl|rfl|rfl|rfl
  ·exact this
  ·simp [Blk.below,zae,below]
  ·simp [Blk.below,zae,below]
  ·exact this
 ·intro n x Y _ hx
  obtain ⟨o2,t2,a2,m2,rfl⟩:=fo_ex x
  rw [zac]
  conv=>whnf
  refine ⟨none,_,zav Y rfl,zbt rfl,?_⟩
  generalize hB:Blk.loop LoopState.busy none _ _=B
  have hBb:B.below (H.length+5):=hB▸zd6 (by simp [za4,below,tr])
  have hv:=count_vis H (fun n=>[.box 25 [.int .u8 o,.str s,.sl none ln lc,.sl none mn mc],.box 3 [.int .i64 lim],.box 3 [.int .i64 n],.box 25 [.int .u8 o,.str s,.sl none ln lc,.sl none mn mc],B]) 2 1 (H.length+5) lim (fun _=>by simp) (fun n C hC=>by
   rcases ybd.1 hC with h|h
   ·obtain ⟨j,hj⟩:=yci h
    exact yc0 (by omega) (hcl j C hj)
   ·have:=hfb (H.length+5)
    simp only [yax,ycm,or_false] at h
    rcases h with rfl|rfl|rfl|rfl|rfl
    ·exact this
    ·simp [Blk.below,zae,below]
    ·simp [Blk.below,zae,below]
    ·exact this
    ·exact hBb) (fun _=>rfl) (fun _=>rfl) (by decide) (fun _ _=>rfl)
  have hvt:=fun X=>visitTerms_c hv (by simp) a2 (zao hx.2.2.1) hx.2.2.2.1 (wI (n+1)) X trivial
  have hstep:stepC lim n (Fo.mk o2 t2 a2 m2)=(cntT lim n a2,if lim<cntT lim n a2 then some (.exit 0) else none):=rfl
  rw [hstep]
  have hn2:(foldE (stepT lim) (wI (n+1)) (tparts a2)).1=cntT lim n a2:=rfl
  rw [hn2] at hvt
  generalize (foldE (stepT lim) (wI (n+1)) (tparts a2)).2=b2 at hvt
  generalize cntT lim n a2=n2 at hvt ⊢
  have hvt2:∀ Z:Heap,VCall Tryz.prog 55 [.sl none a2.length (a2.flatMap Tm.cells),.clo (.func 85) [] [.ptr (H.length+2) 0,.ptr (H.length+1) 0]] (((H++[.box 25 [.int .u8 o,.str s,.sl none ln lc,.sl none mn mc],.box 3 [.int .i64 lim],.box 3 [.int .i64 (wI (n+1))],.box 25 [.int .u8 o,.str s,.sl none ln lc,.sl none mn mc],B])++Y)++Z) (fun r H'=>r=.bool b2∧H'=((H++[.box 25 [.int .u8 o,.str s,.sl none ln lc,.sl none mn mc],.box 3 [.int .i64 lim],.box 3 [.int .i64 n2],.box 25 [.int .u8 o,.str s,.sl none ln lc,.sl none mn mc],B])++Y)++Z):=fun Z=>by
   have:=hvt (Y++Z)
   simpa only [yba] using this
  clear hvt
  have hbl2:∀ C∈([.box 25 [.int .u8 o,.str s,.sl none ln lc,.sl none mn mc],.box 3 [.int .i64 lim],.box 3 [.int .i64 n2],.box 25 [.int .u8 o,.str s,.sl none ln lc,.sl none mn mc]]:Heap),C.below (H.length+(4+1)):=by
   intro C hC
   have:=hfb (H.length+(4+1))
   simp only [yax,ycm,or_false] at hC
   rcases hC with rfl|rfl|rfl|rfl
   ·exact this
   ·simp [Blk.below,zae,below]
   ·simp [Blk.below,zae,below]
   ·exact this
  by_cases hlt:lim<n2
  ·rw [if_pos hlt]
   (repeat' ((conv=>whnf);(first|refine ydf _ (zbt rfl) ?_|refine zaq (by omega) ?_|refine EqN.mk (wI (n+1)) rfl ?_|refine ycf _ _ _ _ (hvt2 _) (by simp) rfl ?_|refine yb3 _ (by (repeat' (first|assumption|exact zav _ rfl|exact za1 rfl|refine za9 (B':=?_) ?_|refine zas ?_|fail))) ?_|fail)));conv=>whnf
   subst hB
   exact zeq (l':=[_,_,_,_]) (.exit 0) rfl rfl hbl2 (by simp [za4,below,tr])
  ·rw [if_neg hlt]
   (repeat' ((conv=>whnf);(first|refine ydf _ (zbt rfl) ?_|refine zal (by omega) ?_|refine EqN.mk (wI (n+1)) rfl ?_|refine ycf _ _ _ _ (hvt2 _) (by simp) rfl ?_|refine yb3 _ (by (repeat' (first|assumption|exact zav _ rfl|exact za1 rfl|refine za9 (B':=?_) ?_|refine zas ?_|fail))) ?_|fail)));conv=>whnf
   subst hB
   exact zeq (l':=[_,_,_,_]) .normal rfl rfl hbl2 (by simp [za4,below,tr])
 ·have hjp:=cntF_jp lim (fpart f) 0
  generalize foldB (stepC lim) 0 (fpart f)=res at *
  obtain ⟨n2,jp⟩:=res
  simp only at hjp ⊢
  rcases hjp with rfl|rfl
  ·conv=>whnf
   exact eT trivial
  ·conv=>whnf
   exact eT trivial
theorem nodes_c (f:Fo) (hg:f.good) (H:Heap):VDet Tryz.prog 27 [.agg f.cells] H (.int .i64 (cntF 9223372036854775807 f)):=by
 have h1:=count_c f hg 9223372036854775807
 generalize cntF 9223372036854775807 f=r at *
 obtain ⟨o,s,l,m,rfl⟩:=fo_ex f
 rw [zac] at *
 refine zah Tryz.E0 zab Tryz.func27 (by kernel_rfl) rfl (ybq rfl) rfl fun hcl hbl=>?_
 (repeat' ((conv=>whnf);(first|refine yab _ (h1 _) ?_|fail)));conv=>whnf
 exact eT trivial
end
section
def idxP (q:Fo→Bool):List Fo→Nat→Int
 | [],_=>-1
 | x::l,j=>if q x then (j:Int) else idxP q l (j+1)
theorem idxP_cons (q:Fo→Bool) (x:Fo) (l:List Fo) (j:Nat):idxP q (x::l) j=if q x then (j:Int) else idxP q l (j+1):=rfl
theorem idxP_any (q:Fo→Bool):∀ (l:List Fo) (j:Nat),decide (0≤idxP q l j)=l.any q
 | [],j=>by simp [idxP]
 | x::l,j=>by
   rw [idxP_cons,List.any_cons]
   cases hq:q x
   ·rw [if_neg (by simp),idxP_any q l (j+1)]
    rfl
   ·rw [if_pos rfl]
    simp
attribute [local irreducible] VW VCall VO bits
abbrev sameB (x y:Fo):Bool:=decide (cF x y=0)
theorem clo44_c (x y:Fo) (hx:x.good) (hy:y.good) (H:Heap) (p:Nat) (hp:H[p]? = some (.box 25 x.cells)):VDet Tryz.prog 60 [.agg y.cells,.ptr p 0] H (.bool (sameB x y)):=by
 have h:=sameS_c x y hx hy
 unfold sameB
 generalize decide (cF x y=0)=r at *
 obtain ⟨o,s,l,m,rfl⟩:=fo_ex x
 obtain ⟨o2,s2,l2,m2,rfl⟩:=fo_ex y
 rw [zac] at *
 rw [zac] at *
 refine zah Tryz.E0 zab Tryz.func60 (by kernel_rfl) rfl (ybq rfl) rfl fun hcl hbl=>?_
 (repeat' ((conv=>whnf);(first|refine yab _ (h _) ?_|refine yb3 _ (by (repeat' (first|assumption|exact zav _ rfl|exact za1 rfl|refine za9 (B':=?_) ?_|refine zas ?_|fail))) ?_|fail)));conv=>whnf
 exact eT trivial
theorem index_c (x:Fo) (hx:x.good) (l:List Fo) (hl:l.length≤9223372036854775807) (hg:Fo.goodL l) (H:Heap) (p:Nat) (hp:H[p]? = some (.box 25 x.cells)):VDet Tryz.prog 86 [.sl none l.length (l.flatMap Fo.cells),.clo (.func 60) [] [.ptr p 0]] H (.int .i64 (idxP (sameB x) l 0)):=by
 generalize hr:idxP (sameB x) l 0=r
 refine zah Tryz.E0 zab Tryz.func86 (by kernel_rfl) rfl (ybq rfl) rfl fun hcl hbl=>?_
 conv=>whnf
 refine zcg Tryz.E0 zab (σ:=Nat) (fun j=>j≤l.length∧idxP (sameB x) (l.drop j) j=r) (fun j=>l.length-j) (fun j=>[(8,.v (.int .i64 j))]) (fun _=>[]) _ 0 rfl hcl [0,1,7] rfl ⟨yah _,hr⟩ ⟨⟨_,rfl,yae _⟩,trivial⟩ rfl (fun _ _=>rfl) ?_
 rintro j ⟨hj,hinv⟩
 clear hbl
 by_cases hlt:j<l.length
 ·have hgy:=zbc hg _ (zak l j fo0 hlt)
  have hc:=fun X=>clo44_c x (l.getD j fo0) hx hgy (H++X) p (zas hp)
  obtain ⟨o2,t2,a2,m2,e1⟩:=fo_ex (l.getD j fo0)
  have q1:(l.getD j fo0).cells=[.int .u8 o2,.str t2,.sl none a2.length (a2.flatMap Tm.cells),.sl none m2.length (m2.flatMap Fo.cells)]:=by rw [e1,zac]
  rw [zce l fo0 j hlt,idxP_cons] at hinv
  rw [q1] at hc
  generalize sameB x (l.getD j fo0)=b at *
  cases b with
  | true =>
    rw [if_pos rfl] at hinv
    subst hinv
    (repeat' ((conv=>whnf);(first|(refine yai ?_;first|refine yaq rfl ?_|refine zaq (by omega) ?_|fail)|(refine yaf ?_ ?_;· first|omega|exact yaa _ _|fail)|refine yab _ (hc _) ?_|refine zaf fo0 j rfl hlt zba q1 ?_|fail)));conv=>whnf
    exact eT trivial
  | false =>
    rw [if_neg (by simp)] at hinv
    (repeat' ((conv=>whnf);(first|(refine yai ?_;first|refine yat rfl ?_|refine zaq (by omega) ?_|fail)|(refine zaw _ _ Cst.h Cst.h ?_ ?_;· omega)|(refine yaf ?_ ?_;· first|omega|exact yaa _ _|fail)|refine yab _ (hc _) ?_|refine zaf fo0 j rfl hlt zba q1 ?_|fail)));conv=>whnf
    (refine ⟨⟨j+1,⟨by omega,hinv⟩,by omega,?_,.inl ⟨rfl,rfl⟩,rfl,_,rfl,?_⟩⟩;rotate_left 1;exact .inl rfl;exact ⟨⟨_,rfl,yae _⟩,trivial⟩)
 ·rw [ycp (by omega)] at hinv
  subst hinv
  (repeat' ((conv=>whnf);(first|refine zal (by omega) ?_|fail)));conv=>whnf
  exact eT trivial
theorem contains_c (x:Fo) (hx:x.good) (l:List Fo) (hl:l.length≤9223372036854775807) (hg:Fo.goodL l) (H:Heap) (p:Nat) (hp:H[p]? = some (.box 25 x.cells)):VDet Tryz.prog 59 [.sl none l.length (l.flatMap Fo.cells),.clo (.func 60) [] [.ptr p 0]] H (.bool (l.any (sameB x))):=by
 have h:=fun X=>index_c x hx l hl hg (H++X) p (zas hp)
 rw [← idxP_any _ l 0]
 generalize idxP (sameB x) l 0=r at *
 refine zah Tryz.E0 zab Tryz.func59 (by kernel_rfl) rfl (ybq rfl) rfl fun hcl hbl=>?_
 (repeat' ((conv=>whnf);(first|refine yab _ (h _) ?_|fail)));conv=>whnf
 exact eT trivial
end
theorem wI_id {n:Int} (h0:0≤n) (h:n≤9223372036854775807):wI n=n:=w64 ⟨by omega,h⟩
theorem stepT_le:∀ (l:List Tm) (n:Int),0≤n→n≤1001→n≤(foldE (stepT 1000) n l).1
 | [],n,_,_=>Int.le_refl _
 | x::l,n,h0,h1=>by
   rw [zch]
   have hw:wI (n+1)=n+1:=wI_id (by omega) (by omega)
   unfold stepT
   simp only [hw]
   split
   ·rename_i hd
    have hd:n+1≤1000:=by simpa using hd
    have:=stepT_le l (n+1) (by omega) (by omega)
    unfold stepT at this
    omega
   ·show n≤n+1
    omega
theorem stepC_le:∀ (l:List Fo) (n:Int),0≤n→n≤1000→(foldB (stepC 1000) n l).1≤1000→n+l.length≤(foldB (stepC 1000) n l).1
 | [],n,_,_,_=>by simp [foldB]
 | x::l,n,h0,h1,h2=>by
   rw [zde] at h2 ⊢
   have hw:wI (n+1)=n+1:=wI_id (by omega) (by omega)
   have hc:n+1≤cntT 1000 n (targs x):=by
    unfold cntT
    rw [hw]
    exact stepT_le _ _ (by omega) (by omega)
   by_cases hb:1000<cntT 1000 n (targs x)
   ·exfalso
    have:(stepC 1000 n x)=(cntT 1000 n (targs x),some (.exit 0)):=by unfold stepC;rw [if_pos hb]
    rw [this] at h2
    simp at h2
    omega
   ·have:(stepC 1000 n x)=(cntT 1000 n (targs x),none):=by unfold stepC;rw [if_neg hb]
    rw [this] at h2 ⊢
    simp only [Option.isNone_none,if_true] at h2 ⊢
    have:=stepC_le l _ (by omega) (by omega) h2
    simp only [List.length_cons]
    omega
theorem cntF_le {f:Fo} (h:cntF 1000 f≤1000):(fpart f).length≤1000:=by
 have:=stepC_le (fpart f) 0 (by omega) (by omega) h
 unfold cntF at h
 omega
theorem nodup_le {α:Type} [DecidableEq α]:∀ {l m:List α},l.Nodup→(∀ x∈l,x∈m)→l.length≤m.length
 | [],m,_,_=>yah _
 | x::l,m,hd,hs=>by
   obtain ⟨a,b,rfl⟩:=List.append_of_mem (hs x (ya9 ..))
   have hd':=List.nodup_cons.1 hd
   have:=nodup_le (m:=a++b) hd'.2 fun y hy=>by
    have:=hs y (ya2 _ hy)
    rcases ybd.1 this with h|h
    ·exact ybd.2 (.inl h)
    ·rcases yax.1 h with e|h
     ·exact absurd hy (e▸hd'.1)
     ·exact ybd.2 (.inr h)
   simp only [ya3,List.length_cons] at this ⊢
   omega
theorem sameB_iff {x y:Fo}:sameB x y=true↔x=y:=by
 unfold sameB
 rw [decide_eq_true_eq]
 exact ⟨fun h=>(ordFo x).eq y h,fun h=>h▸(ordFo x).refl⟩
def stepP (ps:List Fo) (x:Fo):List Fo×Option Code:=(if ps.any (sameB x) then ps else ps++[x],none)
def partsF (f:Fo):List Fo:=if 1000<cntF 1000 f then [] else (foldB stepP [] (fpart f)).1
def okP (f x:Fo):Prop:=x.good∧x.fit∧∀ y∈fpart x,y∈fpart f
theorem mem_fparts:∀ (l:List Fo) (y z:Fo),y∈l→z∈fpart y→z∈fparts l
 | x::l,y,z,h,hz=>by
   rw [zed]
   rcases yax.1 h with e|h
   ·exact ybd.2 (.inl (e▸hz))
   ·exact ybd.2 (.inr (mem_fparts l y z h hz))
theorem fpart_self (x:Fo):x∈fpart x:=by
 obtain ⟨o,s,l,m,rfl⟩:=fo_ex x
 rw [zgg]
 exact ya9 ..
theorem clo_okP (f:Fo):Clo (okP f):=⟨fun _ h=>h.1,fun o s l m h y hy=>⟨zbc h.1.2.2.2.2.2 y hy,zdp h.2.1.2.2.2.2 y hy,fun z hz=>h.2.2 z (by
 rw [zgg]
 exact ya2 _ (mem_fparts m y z hy hz))⟩⟩
structure PInv (f:Fo) (ps:List Fo):Prop where
 good:∀ x∈ps,x.good
 sub:∀ x∈ps,x∈fpart f
 nd:ps.Nodup
theorem PInv.nil (f:Fo):PInv f []:=⟨fun _ h=>absurd h (ycm),fun _ h=>absurd h (ycm),yc4⟩
theorem PInv.step {f:Fo} {ps:List Fo} (h:PInv f ps) {x:Fo} (hx:okP f x):PInv f (stepP ps x).1:=by
 unfold stepP
 simp only
 split
 ·exact h
 ·rename_i hn
  have hnot:x ∉ ps:=fun hm=>hn (ycr.2 ⟨x,hm,sameB_iff.2 rfl⟩)
  refine ⟨fun y hy=>?_,fun y hy=>?_,?_⟩
  ·rcases ybd.1 hy with hy|hy
   ·exact h.good y hy
   ·simp at hy;exact hy▸hx.1
  ·rcases ybd.1 hy with hy|hy
   ·exact h.sub y hy
   ·simp at hy;exact hy▸hx.2.2 x (fpart_self x)
  ·rw [List.nodup_append]
   refine ⟨h.nd,by simp,fun a ha b hb=>?_⟩
   simp at hb
   subst hb
   exact fun e=>hnot (e▸ha)
noncomputable instance:DecidableEq Fo:=fun a b=>Classical.propDecidable (a=b)
theorem PInv.len {f:Fo} {ps:List Fo} (h:PInv f ps) (hc:cntF 1000 f≤1000):ps.length≤1000:=ybc (nodup_le h.nd h.sub) (cntF_le hc)
theorem stepP_none (l:List Fo):∀ ps,(foldB stepP ps l).2=none:=by
 induction l with
 | nil=>intro ps;rfl
 | cons x l ih =>
   intro ps
   rw [zde]
   have hn:(stepP ps x).2.isNone=true:=rfl
   rw [hn,if_pos rfl]
   exact ih _
theorem zfn (l:List Fo) (x:Fo):(l++[x]).flatMap Fo.cells=l.flatMap Fo.cells++x.cells:=by simp
theorem fo_cells_len (x:Fo):x.cells.length=4:=by
 obtain ⟨o,s,l,m,rfl⟩:=fo_ex x
 rw [zac]
 rfl
def lsP (n0:Nat) (fc:List AV) (n:Nat) (c:List AV) (L:Nat):Heap:=[.box 25 fc,.box 23 [.sl (some (n0+3)) n c],.box 25 fc,.tok 25 4 L]
section
attribute [local irreducible] VW VCall VO bits
theorem at_len {A B X:Heap} {x:Blk} (h:B.length=A.length):(A++(x::X))[B.length+0]? = some x:=by
 rw [h]
 simp
theorem lsP_below (n0:Nat) (f:Fo) (n:Nat) (ps:List Fo) (L N:Nat) (h:n0+4≤N):∀ B∈lsP n0 f.cells n (ps.flatMap Fo.cells) L,B.below N:=by
 intro B hB
 have:=zco N f
 simp only [lsP,yax,ycm,or_false] at hB
 rcases hB with rfl|rfl|rfl|rfl
 ·exact this
 ·simp [Blk.below,zae,below,zax];omega
 ·exact this
 ·simp [Blk.below]
theorem parts_c (f:Fo) (hg:f.good) (hf:f.fit) (H:Heap):VDet Tryz.prog 29 [.agg f.cells] H (if 1000<cntF 1000 f then .nils else .sl none (partsF f).length ((partsF f).flatMap Fo.cells)):=by
 have hw:=walk_c f (H++[.box 25 f.cells,.box 23 [.nils]])
 rw [ya3] at hw
 have hcn:=count_c f hg 1000
 have hce:∃ o s ln lc mn mc,f.cells=[.int .u8 (o:Nat),.str s,.sl none ln lc,.sl none mn mc]:=by
  obtain ⟨o,s,l,m,rfl⟩:=fo_ex f
  rw [zac]
  exact ⟨_,_,_,_,_,_,rfl⟩
 obtain ⟨o,s,ln,lc,mn,mc,hce⟩:=hce
 rw [hce] at hw hcn ⊢
 by_cases hc:1000<cntF 1000 f
 ·rw [if_pos hc]
  generalize cntF 1000 f=r at *
  refine zah Tryz.E0 zab Tryz.func29 (by kernel_rfl) rfl (ybq rfl) rfl fun hcl hbl=>?_
  (repeat' ((conv=>whnf);(first|refine zaq (by omega) ?_|refine yab _ (hcn _) ?_|fail)));conv=>whnf
  exact eT trivial
 ·rw [if_neg hc]
  have hlen:=fun ps (h:PInv f ps)=>h.len (by omega)
  have hpf:partsF f=(foldB stepP [] (fpart f)).1:=by unfold partsF;rw [if_neg hc]
  rw [hpf]
  have hjp:=stepP_none (fpart f) []
  generalize cntF 1000 f=r at *
  refine zah Tryz.E0 zab Tryz.func29 (by kernel_rfl) rfl (ybq rfl) rfl fun hcl hbl=>?_
  (repeat' ((conv=>whnf);(first|refine zal (by omega) ?_|refine yab _ (hcn _) ?_|refine ydg _ _ _ 3 hw rfl rfl rfl ?_|fail)));conv=>whnf
  refine RangeN.tokB 1 0 25 4 rfl rfl rfl rfl rfl ?_
  refine ze8 (clo_okP f) f ⟨hg,hf,fun _ h=>h⟩ rfl hcl rfl [3] _ rfl (by decide) rfl (by simp [za4,below,tr])
   (fun ps:List Fo=>lsP H.length [.int .u8 o,.str s,.sl none ln lc,.sl none mn mc] ps.length (ps.flatMap Fo.cells) (ps.flatMap Fo.cells).length) (PInv f) (PInv f) stepP [] (PInv.nil f) rfl 2 (by rw [hce];rfl) (fun _ h=>h) (fun _ _=>rfl) ?_ (fun _ _ h hx=>⟨h.step hx,fun _=>h.step hx⟩) ?_ ?_
  ·intro ps _ B hB
   have h:=lsP_below H.length f ps.length ps (ps.flatMap Fo.cells).length (H.length+5) (by omega) B
   rw [hce] at h
   exact h hB
  ·intro ps x Y hps hx
   have hb1:okP f x:=hx
   have hgl:=zeh ps hps.good
   have hl:=hlen ps hps
   obtain ⟨o2,t2,a2,m2,hx2⟩:=fo_ex x
   have q1:x.cells=[.int .u8 o2,.str t2,.sl none a2.length (a2.flatMap Tm.cells),.sl none m2.length (m2.flatMap Fo.cells)]:=by rw [hx2,zac]
   have hcp:∀ H,VDet Tryz.prog 42 [.agg x.cells] H (.agg x.cells):=syF_g x hx.2.1
   have hct:=fun (Hb:Heap) p=>contains_c x hx.1 ps (by omega) hgl Hb p
   have hstep:stepP ps x=(if ps.any (sameB x) then ps else ps++[x],none):=rfl
   rw [hstep]
   rw [q1] at hcp hct
   generalize hbv:ps.any (sameB x)=b at hct ⊢
   have hb0:=lsP_below H.length f ps.length ps (ps.flatMap Fo.cells).length (H.length+5) (by omega)
   have hb2:=lsP_below H.length f (ps++[x]).length (ps++[x]) ((ps++[x]).flatMap Fo.cells).length (H.length+5) (by omega)
   rw [hce] at hb0 hb2
   have hxb:=zco (H.length+5) x
   have hbk:za4 H.length (H.length+5) [(3,.lp (0+1) 0)]:=by simp [za4,below,tr]
   have hct2:∀ (Hb:Heap) p,Hb[p]? = some (.box 25 [.int .u8 o2,.str t2,.sl none a2.length (a2.flatMap Tm.cells),.sl none m2.length (m2.flatMap Fo.cells)])→VDet Tryz.prog 59 [.sl (some (H.length+3)) ps.length (ps.flatMap Fo.cells),.clo (.func 60) [] [.ptr p 0]] Hb (.bool b):=fun Hb p hp=>(hct Hb p hp).wk (by (repeat' (first|exact trivial|refine ybu ?_ ?_|exact yae _|exact wk_sl _ _ _|fail));done)
   clear hct
   cases b with
   | true =>
     simp only [if_true]
     generalize ps.flatMap Fo.cells=pc at *
     unfold lsP
     rw [q1]
     conv=>whnf
     refine ⟨none,_,zav Y rfl,zbt rfl,?_⟩
     generalize hB:Blk.loop LoopState.busy none _ _=B
     (repeat' ((conv=>whnf);(first|refine yb3 _ (by (repeat' (first|assumption|exact zav _ rfl|exact za1 rfl|refine za9 (B':=?_) ?_|refine zas ?_|fail))) ?_|fail)));conv=>whnf
     refine yab _ (hct2 _ _ (at_len (by simp))) ?_
     (repeat' ((conv=>whnf);(first|(refine yai ?_;first|refine yar ?_|refine yaq rfl ?_|fail)|fail)));conv=>whnf
     subst hB
     exact zeq (l':=[_,_,_,_]) .normal rfl rfl hb0 hbk
   | false =>
     simp only [ya6,if_false]
     have hl1:(ps++[x]).length=ps.length+1:=by simp
     have hmx:ps.length+1≤maxLen:=ybc (show ps.length+1≤1001 by omega) (by decide)
     have hL:((ps++[x]).flatMap Fo.cells).length=(ps.flatMap Fo.cells).length+4:=by rw [zfn,ya3,fo_cells_len]
     rw [hL,zfn,hl1] at hb2 ⊢
     generalize ps.flatMap Fo.cells=pc at *
     rw [q1] at hb2
     unfold lsP at hb2 ⊢
     rw [q1]
     conv=>whnf
     refine ⟨none,_,zav Y rfl,zbt rfl,?_⟩
     generalize hB:Blk.loop LoopState.busy none _ _=B
     (repeat' ((conv=>whnf);(first|refine yb3 _ (by (repeat' (first|assumption|exact zav _ rfl|exact za1 rfl|refine za9 (B':=?_) ?_|refine zas ?_|fail))) ?_|fail)));conv=>whnf
     refine yab _ (hct2 _ _ (at_len (by simp))) ?_
     (repeat' ((conv=>whnf);(first|refine DrawN.ap 5 [] ?_|(refine yai ?_;first|refine yar ?_|refine yat rfl ?_|fail)|refine yaf (by kernel_rfl) ?_|refine yan _ (fun _ hq X=>hcp _) ?_|refine yb3 _ (by (repeat' (first|assumption|exact zav _ rfl|exact za1 rfl|refine za9 (B':=?_) ?_|refine zas ?_|fail))) ?_|fail)));conv=>whnf
     refine ApE.mk rfl rfl rfl rfl rfl rfl rfl rfl rfl rfl rfl rfl rfl (by kernel_rfl) rfl rfl rfl rfl rfl rfl rfl rfl rfl rfl rfl rfl rfl rfl rfl rfl rfl rfl rfl rfl rfl (by omega) rfl (.base_ (zav Y rfl) (zbt rfl)) (.base_ (zav Y rfl) (zbt rfl)) ?_ hmx ?_
     ·show (ps.length+1) * 72≤140737488355328
      omega
     conv=>whnf
     subst hB
     exact zeq (l':=[_,_,_,_]) .normal rfl rfl hb2 hbk
  ·generalize foldB stepP [] (fpart f)=res at *
   obtain ⟨ps,jp⟩:=res
   simp only at hjp ⊢
   subst hjp
   conv=>whnf
   refine EndN.detF (u':=.sl none ps.length (ps.flatMap Fo.cells)) ?_ (Frz.sl (FrzL.refl _)) (yae _)
   simp [below,zax]
end
section
abbrev Sym:=ByteArray×Nat
def symC (x:Sym):List AV:=[.str x.1,.int .i64 (x.2:Nat)]
def mpY (ks:List Sym):Blk:=.mp (ks.map fun x=>.agg (symC x)) (ks.map fun _=>.bool true)
theorem mpY_belowK (n:Nat):∀ ks:List Sym,zae n (ks.map fun x=>.agg (symC x))
 | []=>trivial
 | _::ks=>⟨by simp [symC,below,zae],mpY_belowK n ks⟩
theorem mpY_belowV (n:Nat):∀ ks:List Sym,zae n (ks.map fun _=>.bool true)
 | []=>trivial
 | _::ks=>⟨trivial,mpY_belowV n ks⟩
theorem zew (n:Nat) (ks:List Sym):(mpY ks).below n:=⟨mpY_belowK n ks,mpY_belowV n ks⟩
def sym0:Sym:=(.empty,0)
theorem nodup_lt {l:List Nat} {n:Nat} (h:l.Nodup) (hl:∀ e∈l,e<n):l.length≤n:=by
 have:=nodup_le (m:=List.range n) h fun e he=>ybl.2 (hl e he)
 simpa using this
theorem nodup_snoc {α:Type} {l:List α} {e:α} (h:l.Nodup) (he:e ∉ l):(l++[e]).Nodup:=by
 rw [List.nodup_append]
 refine ⟨h,by simp,fun a ha b hb=>?_⟩
 simp at hb
 subst hb
 exact fun e=>he (e▸ha)
theorem map_get_range {α:Type} (d:α) (l:List α):(List.range l.length).map (fun i=>l.getD i d)=l:=by
 apply ybk
 intro i
 rw [ya5]
 by_cases hi:i<l.length
 ·rw [ycy hi]
  simp [hi]
 ·rw [yca (by simpa using hi),yca (by simpa using hi)]
  rfl
theorem seen_perm {α:Type} (d:α) {l:List α} {seen:List Nat} (h:seen.Nodup) (hlt:∀ e∈seen,e<l.length) (hall:∀ e,e<l.length→e∈seen):(seen.map fun i=>l.getD i d).Perm l:=by
 have:seen.Perm (List.range l.length):=(List.perm_ext_iff_of_nodup h List.nodup_range).2 fun e=>⟨fun he=>ybl.2 (hlt e he),fun he=>hall e (ybl.1 he)⟩
 have h2:=this.map fun i=>l.getD i d
 rwa [map_get_range] at h2
attribute [local irreducible] VW VCall VO bits
structure VisK {S:Type} (F:Fn) (hp:S→Heap) (N:Nat) (ks:List Sym) (R:Nat→S→Prop) (step:S→Sym→S):Prop where
 len:∀ n s,R n s→(hp s).length=N
 low:∀ n s,R n s→∀ B∈hp s,B.below N
 pres:∀ n s x,n<ks.length→R n s→x∈ks→R (n+1) (step s x)
 call:∀ n s x Y,n<ks.length→R n s→x∈ks→VFn Tryz.prog F [.agg (symC x)] (hp s++Y) (fun r H'=>r=.bool true∧H'=hp (step s x)++Y)
theorem keysIt_c {S:Type} {F:Fn} {hp:S→Heap} {N:Nat} {R:Nat→S→Prop} {step:S→Sym→S} {ks:List Sym} (hv:VisK F hp N ks R step)
  (s0:S) (hs0:R 0 s0) (p i:Nat) (hp1:∀ n s,R n s→(hp s)[p]? = some (.box 75 [.mp i])) (hi1:∀ n s,R n s→(hp s)[i]? = some (mpY ks)) :
  VCall Tryz.prog 98 [.clo F [] [],.ptr p 0] (hp s0) (fun _ H'=>∃ ord:List Sym,ord.Perm ks∧R ord.length (ord.foldl step s0)∧H'=hp (ord.foldl step s0)):=by
 have hpp:=hp1 0 s0 hs0
 have hii:=hi1 0 s0 hs0
 have hii2:(hp s0)[i]? = some (.mp (ks.map fun x=>.agg (symC x)) (ks.map fun _=>.bool true)):=hii
 have hlen:∀ n s,R n s→(hp s).length=(hp s0).length:=fun n s hs=>by rw [hv.len n s hs,hv.len 0 s0 hs0]
 have hcl2:∀ n s,R n s→zb5 (hp s):=fun n s hs j B hj=>by
  rw [hv.len n s hs]
  exact hv.low n s hs B (ycd hj)
 refine za7 Tryz.E0 zab Tryz.func98 (by kernel_rfl) rfl (ybq rfl) rfl fun hcl hbl=>?_
 (repeat' ((conv=>whnf);(first|refine yb3 _ (by (repeat' (first|assumption|exact zav _ rfl|exact za1 rfl|refine za9 (B':=?_) ?_|refine zas ?_|fail))) ?_|fail)));conv=>whnf
 refine zfl Tryz.E0 zab (σ:=List Nat×S) (fun q=>q.1.Nodup∧(∀ e∈q.1,e<ks.length)∧R q.1.length q.2∧q.2=(q.1.map fun i=>ks.getD i sym0).foldl step s0) (fun q=>ks.length-q.1.length) (fun _=>[]) (fun q=>hp q.2) (fun q=>[.it (.mp i) (ks.map fun x=>AV.agg (symC x)).length q.1]) _ ([],s0) (fun q h=>hlen _ _ h.2.2.1) (fun q h=>hcl2 _ _ h.2.2.1) [0,5] rfl ⟨yc4,(fun e h=>absurd h (ycm)),hs0,rfl⟩ trivial rfl rfl (fun _ _=>rfl) ?_
 rintro ⟨seen,s⟩ ⟨hnd,hlt,hs,hfold⟩
 simp only at hnd hlt hs hfold
 have hii3:(hp s)[i]? = some (.mp (ks.map fun x=>.agg (symC x)) (ks.map fun _=>.bool true)):=hi1 _ s hs
 clear hbl
 (repeat' ((conv=>whnf);(first|refine yaf (by kernel_rfl) ?_|refine yb3 _ (by (repeat' (first|assumption|exact zav _ rfl|exact za1 rfl|refine za9 (B':=?_) ?_|refine zas ?_|fail))) ?_|fail)));conv=>whnf
 rintro B v (⟨rfl,rfl,hall⟩|⟨e,kv,x,he,hn,hk,hx,rfl,rfl⟩)
 ·have hall:∀ e,e<ks.length→e∈seen:=fun e he=>hall e (by simpa using he)
  (repeat' ((conv=>whnf);(first|refine yat rfl ?_|fail)));conv=>whnf
  refine .cut (hlen _ _ hs) (fun j B hB=>.inr ?_) ⟨_,_,.refl _,yae _,by simp [below,zae],seen.map fun i=>ks.getD i sym0,seen_perm sym0 hnd hlt hall,by rw [← hfold,yau];exact hs,by rw [← hfold]⟩
  rw [← hlen _ _ hs]
  exact hcl2 _ _ hs j B hB
 ·have he:e<ks.length:=by simpa using he
  have hn:e ∉ seen:=hn
  have hke:ks[e]? = some (ks.getD e sym0):=by simp [he]
  have hxm:ks.getD e sym0∈ks:=ycd hke
  have hk2:kv=.agg (symC (ks.getD e sym0)):=by
   rw [ya5,hke] at hk
   simpa using hk.symm
  have hx2:x=.bool true:=by
   rw [ya5,hke] at hx
   simpa using hx.symm
  subst hk2 hx2
  have hlt2:seen.length<ks.length:=by
   have:=nodup_lt (nodup_snoc hnd hn) (n:=ks.length) (fun a ha=>by
    rcases ybd.1 ha with h|h
    ·exact hlt a h
    ·simp at h;exact h▸he)
   simp at this
   omega
  have hc:=fun Y=>hv.call _ s (ks.getD e sym0) Y hlt2 hs hxm
  have hR1:=hv.pres _ s (ks.getD e sym0) hlt2 hs hxm
  have hf2:step s (ks.getD e sym0)=((seen++[e]).map fun i=>ks.getD i sym0).foldl step s0:=by
   rw [List.map_append,List.foldl_append,← hfold]
   rfl
  generalize step s (ks.getD e sym0)=s1 at *
  generalize hkx:ks.getD e sym0=kx at *
  obtain ⟨nm,ar⟩:=kx
  unfold symC at *
  have hil:i<(hp s0).length+1:=by
   have:=(yac.1 hii).1
   omega
  have hg1:((seen++[e],s1):List Nat×S).fst.length=seen.length+1:=by simp
  have hg2:((seen,s):List Nat×S).fst.length=seen.length:=rfl
  (repeat' ((conv=>whnf);(first|(refine yai ?_;first|refine yar ?_|refine yaq rfl ?_|fail)|refine RelN.mk [_,_] [] ⟨by simp,rfl,seen,e,_,_,rfl,hk,hx,rfl⟩ ?_|refine ycf _ _ _ _ (hc _) (hlen _ _ hR1) rfl ?_|refine yb3 _ (by (repeat' (first|assumption|exact zav _ rfl|exact za1 rfl|refine za9 (B':=?_) ?_|refine zas ?_|fail))) ?_|fail)));conv=>whnf
  (refine ⟨⟨(seen++[e],s1),⟨nodup_snoc hnd hn,fun a ha=>by
    rcases ybd.1 ha with h|h
    ·exact hlt a h
    ·simp at h;exact h▸he,by rw [hg1];exact hR1,hf2⟩,by omega,?_,.inl ⟨rfl,rfl⟩,rfl,_,rfl,?_⟩⟩;rotate_left 1;exact .inr ⟨by simp [za4,below,zae,tr,zew,hil],by simp [zdu,Blk.below,zae,below,zew,hil]⟩;exact trivial)
theorem range_keys {S:Type} {N:FN} {n0:Nat} {ps:Array Tmp} {assign body:Code} {Q:QR} {top bot:RE} {base:Heap} {k:Nat} {loc:Heap}
  (hbase:base.length=n0) (hcl:zb5 base) (hN:N.r=none) (ts:List Nat) (bk:RE) (hbk:pickO ts top bot=some bk)
  (hps:∀ p∈ps.toList,p<N.n) (hps1:ps.size=1) (bbk:za4 n0 (n0+(k+1)) bk) (ks:List Sym)
  (ls:S→Heap) (R:Nat→S→Prop) (step:S→Sym→S) (s0:S) (hs0:R 0 s0) (h0:loc=ls s0) (p i:Nat) (hp1:base[p]? = some (.box 75 [.mp i])) (hi1:base[i]? = some (mpY ks))
  (lens:∀ n s,R n s→(ls s).length=k) (bls:∀ n s,R n s→∀ B∈ls s,B.below (n0+(k+1)))
  (pres:∀ n s x,n<ks.length→R n s→x∈ks→R (n+1) (step s x))
  (hy:∀ n s x Y,n<ks.length→R n s→x∈ks→rndW n0 k bk N ps assign body ((base++(ls s++[lpB n0 bk N ps assign body .ready none]))++Y) [.agg (symC x)] (fun r H'=>r=.bool true∧H'=(base++(ls (step s x)++[lpB n0 bk N ps assign body .ready none]))++Y))
  (hQ:∀ ord:List Sym,ord.Perm ks→R ord.length (ord.foldl step s0)→jumpN Q top bot base (k+1) (ls (ord.foldl step s0)++[.dead]) none) :
  RangeN Tryz.prog N n0 98 [] [.ptr p 0] ps assign body Q top bot base k loc:=by
 subst hbase h0
 let hp:S→Heap:=fun s=>base++(ls s++[lpB base.length bk N ps assign body .ready none])
 have hloopb:(lpB base.length bk N ps assign body .ready none).below (base.length+(k+1)):=zd6 bbk
 have hk0:(ls s0).length=k:=lens 0 s0 hs0
 have hv:VisK (.yield (base.length+k)) hp (base.length+(k+1)) ks R step:=by
  refine ⟨fun n s h=>by simp [hp,lens _ _ h],fun n s h B hB=>?_,pres,fun n s x Y hn h hx=>?_⟩
  ·rcases ybd.1 hB with hB|hB
   ·obtain ⟨j,hj⟩:=yci hB
    exact yc0 (by omega) (hcl j B hj)
   ·rcases ybd.1 hB with hB|hB
    ·exact bls _ _ h B hB
    ·simp only [yay] at hB
     subst hB
     exact hloopb
  ·have h3:=hy n s x Y hn h hx
   have hi:((base++(ls s++[lpB base.length bk N ps assign body .ready none]))++Y)[base.length+k]? = some (lpB base.length bk N ps assign body .ready none):=by
    refine zav Y ?_
    rw [zat,yam (by rw [lens n s h];exact yaw _),lens n s h,ycl]
    rfl
   exact round_R Tryz.E0 zab hi hps (by simp [hps1]) h3
 have hit:=keysIt_c hv s0 hs0 p i (fun n s _=>zas hp1) (fun n s _=>zas hi1)
 refine .mk ⟨(fun i hi=>by rw [hN] at hi;cases hi),ts,bk,(fun _ H'=>∃ ord:List Sym,ord.Perm ks∧R ord.length (ord.foldl step s0)∧H'=hp (ord.foldl step s0)),hbk,?_,?_⟩
 ·rw [yba]
  exact hit
 ·rintro r H' ⟨ord,ho,hR,rfl⟩
  have hl2:=lens _ _ hR
  refine ⟨base,k+1,ls (ord.foldl step s0)++[lpB base.length bk N ps assign body .ready none],.ready,none,ls (ord.foldl step s0)++[.dead],rfl,by simp [hl2],rfl,?_,by simp,?_,hQ ord ho hR⟩
  ·rw [zat,yam (by omega),hl2,ycl];rfl
  ·rw [zcc (by simp [hl2])]
   rw [ybv _ _ (by omega),hl2,ycl]
   rfl
end
section
open Go.Shelf Go.RowKit Go.Sort
theorem zfj (x:Sym):OrdAt cSym x:=by
 obtain ⟨a,n⟩:=x
 have h:=ordP (c:=cmpB) (d:=fun p q:Nat=>cmpI (p:Nat) (q:Nat)) (a:=a) (b:=n) (ordB a) (fun a=>(ordB a).refl) (ordF (d:=cmpI) (fun n:Nat=>(n:Int)) (fun x y e=>by omega) (fun _ _=>rfl) (ordI n))
 exact h
theorem swoSym:SWO (ltOf cSym):=by
 have ha:∀ x y,cSym y x=- cSym x y:=fun x y=>(zfj x).anti y
 refine ⟨fun x=>?_,fun x y z h1 h2=>?_,fun x y z h1 h2=>?_⟩
 ·unfold ltOf
  rw [(zfj x).refl]
  rfl
 ·unfold ltOf at *
  simp only [decide_eq_true_eq] at *
  obtain ⟨q1,q2⟩:=(zfj x).tr y z (by omega) (by omega)
  have:cSym x z≠0:=fun e=>by have:=(q2 e).1;omega
  omega
 ·unfold ltOf at *
  simp only [decide_eq_false_iff_not] at *
  have h3:=ha x y
  have h4:=ha y z
  obtain ⟨q1,-⟩:=(zfj z).tr y x (by omega) (by omega)
  have h5:=ha x z
  omega
theorem totSym (x y:Sym) (h1:ltOf cSym x y=false) (h2:ltOf cSym y x=false):x=y:=by
 unfold ltOf at h1 h2
 simp only [decide_eq_false_iff_not] at h1 h2
 have:=(zfj x).anti y
 exact (zfj x).eq y (by omega)
def sortY (l:List Sym):List Sym:=l.mergeSort fun x y=>!(ltOf cSym) y x
theorem sortY_perm (l:List Sym):(sortY l).Perm l:=List.mergeSort_perm l _
theorem sortY_len (l:List Sym):(sortY l).length=l.length:=(sortY_perm l).length_eq
theorem zdr (l:List Sym):(l.flatMap symC).length=l.length * 2:=by
 induction l with
 | nil=>rfl
 | cons x l ih=>rw [ya4,ya3,ih,List.length_cons];simp only [symC,List.length_cons,List.length_nil];omega
theorem symV_len (l:List Sym):(l.flatMap symV).length=l.length * 2:=by
 induction l with
 | nil=>rfl
 | cons x l ih=>rw [ya4,ya3,ih,List.length_cons];simp only [symV,List.length_cons,List.length_nil];omega
theorem sym_rel (g:G) (w:World):∀ l:List Sym,LRel g w (l.flatMap symC) (l.flatMap symV)
 | []=>by simp [LRel]
 | x::l=>by
   rw [ya4,ya4]
   refine LRel.append ?_ (sym_rel g w l)
   simp [symC,symV,LRel,VRel]
theorem sym_of {g:G} {w:World}:∀ {l:List Sym} {cs:List Value},LRel g w (l.flatMap symC) cs→cs=l.flatMap symV
 | [],cs,h=>by simpa [LRel] using h
 | x::l,cs,h=>by
   rw [ya4] at h
   simp only [symC,ycc,yc9,LRel,VRel] at h
   obtain ⟨c,r,rfl,rfl,d,r2,rfl,rfl,h⟩:=h
   rw [sym_of h,ya4]
   rfl
theorem flat_get:∀ (l:List Sym) (t:Nat),t<l.length * 2→(l.flatMap symV)[t]! = (symV l[t / 2]!)[t % 2]!
 | [],t,h=>by simp at h
 | x::l,t,h=>by
   rw [ya4]
   rcases yag t 2 with h2|h2
   ·have:t=0∨t=1:=by omega
    rcases this with rfl|rfl <;> rfl
   ·obtain ⟨u,rfl⟩:∃ u,t=u+2:=⟨t-2,by omega⟩
    have e1:(u+2) / 2=u / 2+1:=by omega
    have e2:(u+2) % 2=u % 2:=by omega
    have ih:=flat_get l u (by simp at h;omega)
    rw [e1,e2]
    have:(symV x++l.flatMap symV)[u+2]! = (l.flatMap symV)[u]! := rfl
    rw [this,ih]
    rfl
theorem flatK_eq (l:List Sym):flatK symV 2 l.toArray=(l.flatMap symV).toArray:=by
 apply Array.ext
 ·rw [size_flatK,ybj,ybj,symV_len]
 ·intro t h1 h2
  have ht:t<l.length * 2:=by simpa using h1
  have e1:=get_flatK symV 2 l.toArray t (by simpa using ht)
  have e2:=flat_get l t ht
  rw [getElem!_pos _ t h1] at e1
  rw [e1]
  have e3:(l.flatMap symV)[t]! = (l.flatMap symV).toArray[t]'h2:=by
   have:t<(l.flatMap symV).length:=by simpa using h2
   rw [getElem!_pos _ t this]
   simp
  rw [← e3,e2]
  simp
theorem put_take (F cs:Array Value) (h:F.size≤cs.size):(putCells id 0 F cs).toList.take F.size=F.toList∧(putCells id 0 F cs).size=cs.size:=by
 refine ⟨?_,by simp [putCells]⟩
 apply ybk
 intro t
 rw [ybm]
 by_cases ht:t<F.size
 ·rw [if_pos ht]
  have h1:t<cs.size:=by omega
  simp [putCells,h1,ht]
 ·rw [if_neg ht,yca (by simpa using ht)]
theorem sort87_c (H:Heap) (i:Nat) (l:List Sym) (hl:l.length≤1000000000000) (hi:H[i]? = some (.vec 52 2 (l.flatMap symC))) :
  VCall Tryz.prog 97 [.vs i l.length,.clo (.func 84) [] []] H (fun r H'=>r=.tup []∧H'=H.set i (.vec 52 2 ((sortY l).flatMap symC))):=by
 refine ⟨⟨_,Tryz.func97,by kernel_rfl,rfl⟩,fun g w xs hH hL=>?_⟩
 simp only [LRel,VRel,fnG] at hL
 obtain ⟨c,r,has,⟨hok,hle,A,cap,rfl,hncap,hcur⟩,c2,r2,rfl,⟨-,f',c',rfl,hf',hc'⟩,rfl⟩:=hL
 have hf':f'=#[]:=by simpa using congrArg List.toArray hf'
 have hc':c'=#[]:=by simpa using congrArg List.toArray hc'
 have has:xs=#[.slice A l.length cap,.func (.func 84) f' c']:=by simpa using congrArg List.toArray has
 subst has hf' hc'
 have hat:Vsi.At (Hp.of H) i (.vec 52 2 (l.flatMap symC)):=by
  show (Hp.of H).all[i]? = _
  simpa [Hp.all,Hp.of] using hi
 obtain ⟨b1,b2,b3⟩:=hH.rel i _ hat
 obtain ⟨hA,hcap⟩:=hcur (by rw [b1,b2,zdr])
 have hput:Put (Hp.of H) i (.vec 52 2 ((sortY l).flatMap symC)) (Hp.of (H.set i (.vec 52 2 ((sortY l).flatMap symC)))):=⟨by simp [Hp.all,Hp.of],by simp [Hp.of],rfl,rfl⟩
 rcases b3 with ⟨-,hl0,-⟩|⟨b,cs,hbase,hheap,hsize,hcm,hlen,hrel,hown⟩
 ·have hz:l=[]:=by
   have:=zdr l
   rw [hl0] at this
   exact ya1 (by simp at this;omega)
  subst hz
  have hc:=AnyF.slices_SortFunc_none Tryz.sortf87 A cap (.func (.func 84) #[] #[]) w
  change Calls Tryz.prog 97 _ _ _ at hc
  refine hc.mono ?_
  rintro e w' ⟨rfl,rfl⟩
  have hset:H.set i (.vec 52 2 ((sortY []).flatMap symC))=H:=by
   apply ybk
   intro j
   rw [yav]
   by_cases hij:i=j
   ·subst hij
    have:=(yac.1 hi).1
    have hs0:sortY []=[]:=by unfold sortY;simp
    simp only [if_true,this]
    rw [hi,hs0]
   ·rw [if_neg hij]
  exact ⟨_,_,g,_,rfl,⟨rfl,rfl⟩,by rw [hset];exact hH,by simp [VRel,LRel],ycg _ _⟩
 ·rw [hbase] at hA
  simp only [ya8] at hA
  subst hA
  have hpre:=sym_of hrel
  have hlen2:(l.flatMap symC).length=l.length * 2:=zdr l
  have hH2:HoldsK symV 2 w b 0 l.toArray:=by
   unfold HoldsK
   rw [flatK_eq]
   intro j hj
   have hj2:j<l.length * 2:=by
    have:=symV_len l
    simp only [ybj] at hj
    omega
   have hjc:j<cs.size:=by omega
   have hg:cs[j]? = some ((l.flatMap symV).toArray[j]!):=by
    have h1:(cs.toList.take (l.flatMap symC).length)[j]? = (l.flatMap symV)[j]? := by rw [hpre]
    rw [ybm,if_pos (by omega)] at h1
    have h2:(l.flatMap symV)[j]? = some ((l.flatMap symV).toArray[j]!):=by
     have:j<(l.flatMap symV).length:=by simpa using hj
     rw [getElem!_pos _ j hj]
     simp
    rw [h2] at h1
    simpa using h1
   refine ⟨cell_iff.2 ⟨cs,52,(0,0),hheap,by simpa using hg⟩,?_⟩
   simp [World.frozen?,hheap]
  have hc:=AnyQ.slices_SortFunc_total Tryz.sortf87 2 Tryz.isAgg52 Tryz.sizeOf52 symV (fun _=>rfl) (fun x v hv=>by simp [symV] at hv;rcases hv with rfl|rfl <;> rfl) cSym swoSym 84 #[] b 0 cap l.toArray w (enters_of Tryz.func84 (by kernel_rfl) rfl) (clo76_lays b 0 _ w) hH2 (za2 hheap) (by simp;omega) totSym
  change Calls Tryz.prog 97 _ _ _ at hc
  simp only [ybj] at hc
  refine hc.mono ?_
  rintro e w' ⟨rfl,q,os,rfl⟩
  have hsl:l.mergeSort (fun x y=>!(ltOf cSym) y x)=sortY l:=rfl
  rw [hsl]
  have hF:flatK symV 2 (sortY l).toArray=((sortY l).flatMap symV).toArray:=flatK_eq _
  have hFs:((sortY l).flatMap symV).toArray.size≤cs.size:=by
   rw [ybj,symV_len,sortY_len,← hlen2]
   exact hlen
  obtain ⟨p1,p2⟩:=put_take ((sortY l).flatMap symV).toArray cs hFs
  have hw:∀ k,(sortWorldK symV 2 w b 0 q (sortY l).toArray os).heap[k]? = if k<w.heap.size then (w.heap.modify b (onCells (putCells id 0 ((sortY l).flatMap symV).toArray)))[k]? else (os[k-w.heap.size]?):=by
   intro k
   unfold sortWorldK putRowK putRow mapBlock grow Sort.ahead
   rw [hF]
   simp only [Array.getElem?_append,Array.size_modify]
  obtain ⟨hH3,hX⟩:=hH.setVec (w':=sortWorldK symV 2 w b 0 q (sortY l).toArray os) (cs':=putCells id 0 ((sortY l).flatMap symV).toArray cs) hat hbase hheap (by
    rw [hw,if_pos (za2 hheap),ybw,if_pos rfl,hheap]
    rfl) p2 (fun k hk hkb=>by
    rw [hw,if_pos hk,ybw,if_neg (yck hkb)]) (size_sortWorldK_c symV 2 w b 0 q _ os) rfl rfl rfl (ycq w.drawn q) (by
    have e1:((sortY l).flatMap symC).length=((sortY l).flatMap symV).toArray.size:=by rw [ybj,symV_len,zdr]
    rw [e1,p1]
    exact sym_rel g w (sortY l)) (by rw [zdr,zdr,sortY_len]) hput
  exact ⟨_,_,g,_,rfl,⟨rfl,rfl⟩,hH3,by simp [VRel,LRel],hX⟩
end
section
attribute [local irreducible] VW VCall VO bits
theorem zdc (n:Nat) (l:List Sym):zae n (l.flatMap symC):=belowL_flat _ fun x=>by simp [symC,zae,below]
theorem keys75_c (H:Heap) (i:Nat):VCall Tryz.prog 83 [.mp i] H (fun r H'=>r=.clo (.func 98) [] [.ptr (H.length+0) 0]∧H'=H++[.box 75 [.mp i]]):=by
 refine za7 Tryz.E0 zab Tryz.func83 (by kernel_rfl) rfl (ybq rfl) rfl fun hcl hbl=>?_
 conv=>whnf
 exact ydh _ (yae _) ⟨rfl,rfl⟩
def lsK (n0:Nat) (n:Nat) (c:List AV):Heap:=[.box 47 [.vs (n0+1) n],.vec 52 2 c]
theorem app90_c (H:Heap) (i p:Nat) (ks:List Sym) (hl:ks.length≤1000000000000) (hi:H[i]? = some (mpY ks)) (hp:H[p]? = some (.box 75 [.mp i])) :
  VCall Tryz.prog 100 [.nils,.clo (.func 98) [] [.ptr p 0]] H (fun r H'=>∃ ord:List Sym,ord.Perm ks∧r=.vs (H.length+1) ord.length∧H'=H++[.box 47 [.vs (H.length+1) ord.length],.vec 52 2 (ord.flatMap symC),.dead]):=by
 refine za7 Tryz.E0 zab Tryz.func100 (by kernel_rfl) rfl (ybq rfl) rfl fun hcl hbl=>?_
 conv=>whnf
 refine RangeN.vecB 0 0 52 2 rfl rfl rfl rfl rfl ?_
 refine range_keys rfl hcl rfl [2] _ rfl (by decide) rfl (by simp [za4,below,tr]) ks
  (fun acc:List Sym=>lsK H.length acc.length (acc.flatMap symC)) (fun n acc=>acc.length=n) (fun acc x=>acc++[x]) [] rfl rfl p i hp hi (fun _ _ _=>rfl) ?_ (fun n acc x _ h _=>by simp [h]) ?_ ?_
 ·intro n acc _ B hB
  simp only [lsK,yax,ycm,or_false] at hB
  rcases hB with rfl|rfl
  ·simp [Blk.below,zae,below]
  ·exact zdc _ acc
 ·intro n acc x Y hn hacc _
  obtain ⟨nm,ar⟩:=x
  have hl1:(acc++[(nm,ar)]).length=acc.length+1:=by simp
  have hf1:(acc++[(nm,ar)]).flatMap symC=acc.flatMap symC++[.str nm,.int .i64 (ar:Nat)]:=by simp [symC]
  have hb2:∀ B∈lsK H.length (acc++[(nm,ar)]).length ((acc++[(nm,ar)]).flatMap symC),B.below (H.length+3):=by
   intro B hB
   simp only [lsK,yax,ycm,or_false] at hB
   rcases hB with rfl|rfl
   ·simp [Blk.below,zae,below]
   ·exact zdc _ _
  have hbk:za4 H.length (H.length+3) [(2,.lp 0 0)]:=by simp [za4,below,tr]
  rw [hl1,hf1] at hb2 ⊢
  have hcl:=zdr acc
  have hmx:acc.length+1≤maxLen:=ybc (show acc.length+1≤1000000000001 by omega) (by decide)
  have hside:AppV acc.length 1 (1+1) 24 (acc.flatMap symC) [.str nm,.int .i64 (ar:Nat)]:=⟨hcl,rfl,rfl,by omega,hmx⟩
  generalize acc.flatMap symC=pc at *
  unfold lsK at hb2 ⊢
  simp only [symC]
  conv=>whnf
  refine ⟨none,_,zav Y rfl,zbt rfl,?_⟩
  generalize hB:Blk.loop LoopState.busy none _ _=B
  (repeat' ((conv=>whnf);(first|refine ydf _ (zbt rfl) ?_|refine yaf (by omega) ?_|refine yb3 _ (by (repeat' (first|assumption|exact zav _ rfl|exact za1 rfl|refine za9 (B':=?_) ?_|refine zas ?_|fail))) ?_|fail)));conv=>whnf
  subst hB
  exact zeq (l':=[_,_]) .normal rfl rfl hb2 hbk
 ·intro ord hperm hlen
  have hf:ord.foldl (fun acc x=>acc++[x]) []=ord:=by
   have:∀ (l a:List Sym),l.foldl (fun acc x=>acc++[x]) a=a++l:=by
    intro l
    induction l with
    | nil=>intro a;simp
    | cons x l ih=>intro a;rw [List.foldl_cons,ih];simp
   rw [this]
   rfl
  rw [hf]
  unfold lsK
  conv=>whnf
  exact ydh _ (yae _) ⟨ord,hperm,rfl,rfl⟩
theorem sortY_eq {l m:List Sym} (h:l.Perm m):sortY l=sortY m:=by
 have hA:∀ x y,cSym y x=- cSym x y:=fun x y=>(zfj x).anti y
 have hle:∀ x y:Sym,(!(Go.Proofs.ltOf cSym) y x)=decide (cSym x y≤0):=fun x y=>by
  unfold Go.Proofs.ltOf
  rw [hA x y]
  by_cases h:cSym x y≤0
  ·simp [h]
  ·simp [h];omega
 have hp:(sortY l).Perm (sortY m):=((sortY_perm l).trans h).trans (sortY_perm m).symm
 have hs:∀ l:List Sym,(sortY l).Pairwise fun x y=>cSym x y≤0:=fun l=>by
  have:=List.pairwise_mergeSort (le:=fun x y=>!(Go.Proofs.ltOf cSym) y x) (fun a b c h1 h2=>by
   rw [hle] at h1 h2 ⊢
   simp only [decide_eq_true_eq] at *
   exact ((zfj a).tr b c h1 h2).1) (fun a b=>by
   rw [hle,hle,hA a b]
   simp
   omega) l
  refine this.imp fun {a b} h=>?_
  rw [hle] at h
  simpa using h
 exact hp.eq_of_pairwise (fun a b _ _ h1 h2=>(zfj a).eq b (by have:=hA a b;omega)) (hs l) (hs m)
theorem coll86_c (H:Heap) (i p:Nat) (ks:List Sym) (hl:ks.length≤1000000000000) (hi:H[i]? = some (mpY ks)) (hp:H[p]? = some (.box 75 [.mp i])) :
  VCall Tryz.prog 96 [.clo (.func 98) [] [.ptr p 0]] H (fun r H'=>∃ ord:List Sym,ord.Perm ks∧r=.vs (H.length+1) ord.length∧H'=H++[.box 47 [.vs (H.length+1) ord.length],.vec 52 2 (ord.flatMap symC),.dead]):=by
 have h:=app90_c H i p ks hl hi hp
 refine za7 Tryz.E0 zab Tryz.func96 (by kernel_rfl) rfl (ybq rfl) rfl fun hcl hbl=>?_
 conv=>whnf
 rw [← yas H] at h
 refine CallN.gen _ h ?_
 rw [yas]
 rintro r H' ⟨ord,hperm,rfl,rfl⟩
 refine ⟨H,3,_,rfl,rfl,rfl,?_⟩
 conv=>whnf
 exact ydh _ (yae _) ⟨ord,hperm,rfl,rfl⟩
theorem sf74_c (H:Heap) (i p:Nat) (ks:List Sym) (hl:ks.length≤1000000000000) (hi:H[i]? = some (mpY ks)) (hp:H[p]? = some (.box 75 [.mp i])) :
  VDet Tryz.prog 82 [.clo (.func 98) [] [.ptr p 0],.clo (.func 84) [] []] H (.sl none ks.length ((sortY ks).flatMap symC)):=by
 have h:=coll86_c H i p ks hl hi hp
 refine zah Tryz.E0 zab Tryz.func82 (by kernel_rfl) rfl (ybq rfl) rfl fun hcl hbl=>?_
 conv=>whnf
 rw [← yas H] at h
 refine CallN.gen _ h ?_
 rw [yas]
 rintro r H' ⟨ord,hperm,rfl,rfl⟩
 have hlen:=hperm.length_eq
 have hs:=sortY_eq hperm
 have h2:=sort87_c (H++[.box 47 [.vs (H.length+1) ord.length],.vec 52 2 (ord.flatMap symC),.dead]) (H.length+1) ord (by omega) (by simp)
 rw [zbn] at h2
 have h2:VCall Tryz.prog 97 [.vs (H.length+1) ord.length,.clo (.func 84) [] []] (H++[.box 47 [.vs (H.length+1) ord.length],.vec 52 2 (ord.flatMap symC),.dead]) (fun r H'=>r=.tup []∧H'=H++[.box 47 [.vs (H.length+1) ord.length],.vec 52 2 ((sortY ord).flatMap symC),.dead]):=h2
 refine ⟨H,3,_,rfl,rfl,rfl,?_⟩
 (repeat' ((conv=>whnf);(first|refine ycf _ _ _ 3 h2 rfl rfl ?_|fail)));conv=>whnf
 refine EndN.detF (u':=.sl none ord.length ((sortY ord).flatMap symC)) (by simp [below,zdc]) (Frz.vs rfl (by rw [zdr,sortY_len]) (FrzL.refl _)) ?_
 rw [hlen,hs]
 exact yae _
theorem sorted47_c (H:Heap) (i:Nat) (ks:List Sym) (hl:ks.length≤1000000000000) (hi:H[i]? = some (mpY ks)):VDet Tryz.prog 54 [.mp i] H (.sl none ks.length ((sortY ks).flatMap symC)):=by
 have h1:VCall Tryz.prog 83 [.mp i] (H++[]) (fun r H'=>r=.clo (.func 98) [] [.ptr (H.length+0) 0]∧H'=(H++[])++[.box 75 [.mp i]]):=by
  rw [yas]
  exact keys75_c H i
 have h2:=sf74_c (H++[.box 75 [.mp i]]) i (H.length+0) ks hl (zas hi) (by simp)
 refine zah Tryz.E0 zab Tryz.func54 (by kernel_rfl) rfl (ybq rfl) rfl fun hcl hbl=>?_
 (repeat' ((conv=>whnf);(first|refine yab _ (h2) ?_|refine ydg _ _ _ 1 h1 rfl rfl rfl ?_|fail)));conv=>whnf
 refine yaz ?_ (yae _)
 exact ⟨fun _ e=>(nomatch e),zdc _ _⟩
end
section
def memY (x:Sym) (ks:List Sym):Bool:=ks.any fun y=>decide (x=y)
theorem memY_iff (x:Sym) (ks:List Sym):memY x ks=true↔x∈ks:=by
 unfold memY
 rw [ycr]
 constructor
 ·rintro ⟨y,h,e⟩
  rw [decide_eq_true_eq] at e
  exact e▸h
 ·intro h
  exact ⟨x,h,by simp⟩
def insY (ks:List Sym) (x:Sym):List Sym:=if memY x ks=true then ks else ks++[x]
theorem ba_beq (a b:ByteArray):(a.toList==b.toList)=decide (a=b):=by
 have h:a.toList=b.toList↔a=b:=by
  constructor
  ·intro h
   rw [ByteArray.toList_eq,ByteArray.toList_eq] at h
   exact ByteArray.ext (Array.toList_inj.1 h)
  ·rintro rfl;rfl
 by_cases hab:a=b
 ·subst hab;simp
 ·rw [decide_eq_false hab,beq_eq_false_iff_ne]
  exact fun e=>hab (h.1 e)
theorem eqSym (x y:Sym):eqV Tryz.kn Tryz.T 20 52 (.agg (symC x)) (.agg (symC y))=some (decide (x=y)):=by
 obtain ⟨a,n⟩:=x
 obtain ⟨b,m⟩:=y
 show some (a.toList==b.toList&&((n:Int)==(m:Int)&&true))=_
 rw [ba_beq,Bool.and_true]
 congr 1
 apply yb0.2
 rw [yak,decide_eq_true_eq,decide_eq_true_eq,beq_iff_eq,yb1]
 constructor
 ·rintro ⟨h1,h2⟩;exact ⟨h1,by omega⟩
 ·rintro ⟨h1,h2⟩;exact ⟨h1,by omega⟩
theorem mfindY (c:Sym):∀ ks:List Sym,(c∈ks→∃ j,j<ks.length∧ks[j]? = some c∧mfind (eqV Tryz.kn Tryz.T 20 52) (.agg (symC c)) (ks.map fun x=>.agg (symC x))=some (some j))∧(c ∉ ks→mfind (eqV Tryz.kn Tryz.T 20 52) (.agg (symC c)) (ks.map fun x=>.agg (symC x))=some none)
 | []=>⟨fun h=>by simp at h,fun _=>rfl⟩
 | d::ks=>by
   have he:=eqSym c d
   obtain ⟨h1,h2⟩:=mfindY c ks
   simp only [ybs,mfind,he]
   by_cases hcd:c=d
   ·subst hcd
    simp only [decide_true]
    exact ⟨fun _=>⟨0,by simp,rfl,rfl⟩,fun h=>absurd (ya9) h⟩
   ·have hb:decide (c=d)=false:=by simpa using hcd
    simp only [hb]
    refine ⟨fun h=>?_,fun h=>?_⟩
    ·obtain ⟨j,e1,e2,e3⟩:=h1 ((yax.1 h).resolve_left hcd)
     exact ⟨j+1,by simpa using e1,by simpa using e2,by rw [e3]⟩
    ·rw [h2 fun q=>h (ya2 _ q)]
theorem putY (c:Sym) (ks:List Sym):MPut (eqV Tryz.kn Tryz.T 20 52) (ks.map fun x=>.agg (symC x)) (ks.map fun _=>.bool true) (.agg (symC c)) (.bool true) ((insY ks c).map fun x=>.agg (symC x)) ((insY ks c).map fun _=>.bool true):=by
 obtain ⟨h1,h2⟩:=mfindY c ks
 unfold insY
 by_cases h:c∈ks
 ·rw [if_pos ((memY_iff c ks).2 h)]
  obtain ⟨j,e1,e2,e3⟩:=h1 h
  have:=MPut.old (vs:=ks.map fun _=>AV.bool true) (v:=.bool true) j e3 (by rw [ya5,e2];rfl)
  have hs:(ks.map fun _=>AV.bool true).set j (.bool true)=ks.map fun _=>.bool true:=by
   apply ybk
   intro i
   rw [yav]
   split
   ·rename_i hi
    subst hi
    simp [e1]
   ·rfl
  rwa [hs] at this
 ·rw [if_neg (fun q=>h ((memY_iff c ks).1 q))]
  have:=MPut.new (vs:=ks.map fun _=>AV.bool true) (v:=.bool true) (h2 h)
  simpa using this
attribute [local irreducible] VW VCall VO bits
def stepY (ks:List Sym) (x:Fo):List Sym×Option Code:=match x with
 | .mk op s l _=>(if op=1 then insY ks (s,l.length) else ks,none)
def predY (f:Fo):List Sym:=(foldB stepY [] (fpart f)).1
theorem stepY_none (l:List Fo):∀ ks,(foldB stepY ks l).2=none:=by
 induction l with
 | nil=>intro ks;rfl
 | cons x l ih =>
   intro ks
   rw [zde]
   have hn:(stepY ks x).2.isNone=true:=by cases x;rfl
   rw [hn,if_pos rfl]
   exact ih _
def lsY (n0:Nat) (fc:List AV) (m:Blk):Heap:=[.box 25 fc,m,.box 75 [.mp (n0+1)],.box 25 fc]
theorem zex (n0:Nat) (f:Fo) (ks:List Sym) (N:Nat) (h:n0+4≤N):∀ B∈lsY n0 f.cells (mpY ks),B.below N:=by
 intro B hB
 have:=zco N f
 simp only [lsY,yax,ycm,or_false] at hB
 rcases hB with rfl|rfl|rfl|rfl
 ·exact this
 ·exact zew _ _
 ·simp [Blk.below,zae,below];omega
 ·exact this
theorem pred_c (f:Fo) (hg:f.good) (hn:(predY f).length≤1000000000000) (H:Heap):VDet Tryz.prog 25 [.agg f.cells] H (.sl none (predY f).length ((sortY (predY f)).flatMap symC)):=by
 have hw:=walk_c f (H++[.box 25 f.cells,mpY [],.box 75 [.mp (H.length+1)]])
 rw [ya3] at hw
 have hce:∃ o s ln lc mn mc,f.cells=[.int .u8 (o:Nat),.str s,.sl none ln lc,.sl none mn mc]:=by
  obtain ⟨o,s,l,m,rfl⟩:=fo_ex f
  rw [zac]
  exact ⟨_,_,_,_,_,_,rfl⟩
 obtain ⟨o,s,ln,lc,mn,mc,hce⟩:=hce
 have hjp:=stepY_none (fpart f) []
 have hpr:predY f=(foldB stepY [] (fpart f)).1:=rfl
 rw [hce] at hw ⊢
 have hso:=fun X=>sorted47_c (H++(lsY H.length [.int .u8 o,.str s,.sl none ln lc,.sl none mn mc] (mpY (predY f))++X)) (H.length+1) (predY f) hn (by simp [lsY])
 refine zah Tryz.E0 zab Tryz.func25 (by kernel_rfl) rfl (ybq rfl) rfl fun hcl hbl=>?_
 (repeat' ((conv=>whnf);(first|refine ydg _ _ _ 4 hw rfl rfl rfl ?_|fail)));conv=>whnf
 refine ze8 clo_good f hg rfl hcl rfl [3] _ rfl (by decide) rfl (by simp [za4,below,tr])
  (fun ks:List Sym=>lsY H.length [.int .u8 o,.str s,.sl none ln lc,.sl none mn mc] (mpY ks)) (fun _=>True) (fun _=>True) stepY [] trivial rfl 3 (by rw [hce];rfl) (fun _ h=>h) (fun _ _=>rfl) ?_ (fun _ _ h hx=>⟨trivial,fun _=>trivial⟩) ?_ ?_
 ·intro ks _ B hB
  have h:=zex H.length f ks (H.length+5) (by omega) B
  rw [hce] at h
  exact h hB
 ·intro ks x Y _ hx
  obtain ⟨o2,t2,a2,m2,rfl⟩:=fo_ex x
  have hstep:stepY ks (.mk o2 t2 a2 m2)=(if o2=1 then insY ks (t2,a2.length) else ks,none):=rfl
  rw [hstep,zac]
  have hb0:=zex H.length f ks (H.length+5) (by omega)
  have hb2:=zex H.length f (insY ks (t2,a2.length)) (H.length+5) (by omega)
  rw [hce] at hb0 hb2
  have hbk:za4 H.length (H.length+5) [(3,.lp (0+1+1) 0)]:=by simp [za4,below,tr]
  have hput:=putY (t2,a2.length) ks
  by_cases ho:o2=1
  ·subst ho
   simp only [if_true]
   unfold lsY mpY at hb2 ⊢
   conv=>whnf
   refine ⟨none,_,zav Y rfl,zbt rfl,?_⟩
   generalize hB:Blk.loop LoopState.busy none _ _=B
   (repeat' ((conv=>whnf);(first|refine ydf _ (zbt rfl) ?_|refine yaq rfl ?_|refine RelN.mk _ _ ⟨⟨_,rfl⟩,hput⟩ ?_|refine yb3 _ (by (repeat' (first|assumption|exact zav _ rfl|exact za1 rfl|refine za9 (B':=?_) ?_|refine zas ?_|fail))) ?_|fail)));conv=>whnf
   subst hB
   exact zeq (l':=[_,_,_,_]) .normal rfl rfl hb2 hbk
  ·rw [if_neg ho]
   unfold lsY mpY at hb0 ⊢
   conv=>whnf
   refine ⟨none,_,zav Y rfl,zbt rfl,?_⟩
   generalize hB:Blk.loop LoopState.busy none _ _=B
   (repeat' ((conv=>whnf);(first|refine zal (by omega) ?_|fail)));conv=>whnf
   subst hB
   exact zeq (l':=[_,_,_,_]) .normal rfl rfl hb0 hbk
 ·rw [← hpr]
  generalize foldB stepY [] (fpart f)=res at *
  obtain ⟨ps,jp⟩:=res
  simp only at hjp ⊢
  subst hjp
  unfold lsY at hso ⊢
  generalize predY f=pf at *
  (repeat' ((conv=>whnf);(first|refine yab _ (hso _) ?_|fail)));conv=>whnf
  refine yaz ?_ (yae _)
  exact ⟨fun _ e=>(nomatch e),zdc _ _⟩
end
section
def stepW (ks:List Sym) (x:Tm):List Sym×Bool:=match x with
 | .mk v s l=>(if v=true then ks else insY ks (s,l.length),true)
theorem stepW_true (l:List Tm):∀ ks,(foldE stepW ks l).2=true:=by
 induction l with
 | nil=>intro ks;rfl
 | cons x l ih =>
   intro ks
   rw [zch]
   have hn:(stepW ks x).2=true:=by cases x;rfl
   rw [hn,if_pos rfl]
   exact ih _
def stepZ (ks:List Sym) (x:Fo):List Sym×Option Code:=((foldE stepW ks (tparts (targs x))).1,none)
def funY (f:Fo):List Sym:=(foldB stepZ [] (fpart f)).1
theorem stepZ_none (l:List Fo):∀ ks,(foldB stepZ ks l).2=none:=by
 induction l with
 | nil=>intro ks;rfl
 | cons x l ih =>
   intro ks
   rw [zde]
   have hn:(stepZ ks x).2.isNone=true:=rfl
   rw [hn,if_pos rfl]
   exact ih _
attribute [local irreducible] VW VCall VO bits
theorem clo49_c (x:Tm) (ks:List Sym) (H:Heap) (i p:Nat) (hi:H[i]? = some (mpY ks)) (hp:H[p]? = some (.box 75 [.mp i])) :
  VCall Tryz.prog 56 [.agg x.cells,.ptr p 0] H (setR H i (mpY (stepW ks x).1) (.bool true)):=by
 obtain ⟨v,s,l,rfl⟩:=tm_ex x
 have hst:(stepW ks (.mk v s l)).1=if v=true then ks else insY ks (s,l.length):=rfl
 rw [zai,hst]
 have hput:=putY (s,l.length) ks
 unfold mpY at hi ⊢
 cases v with
 | true =>
   simp only [if_true]
   refine za7 Tryz.E0 zab Tryz.func56 (by kernel_rfl) rfl (ybq rfl) rfl fun hcl hbl=>?_
   (repeat' ((conv=>whnf);(first|(refine yai ?_;first|refine yar ?_|refine yaq rfl ?_|fail)|fail)));conv=>whnf
   exact EndN.same hi trivial (yae _)
 | false =>
   simp only [ya6,if_false]
   refine za7 Tryz.E0 zab Tryz.func56 (by kernel_rfl) rfl (ybq rfl) rfl fun hcl hbl=>?_
   (repeat' ((conv=>whnf);(first|(refine yai ?_;first|refine yar ?_|refine yat rfl ?_|fail)|refine ydf _ rfl ?_|refine RelN.mk _ _ ⟨⟨_,rfl⟩,hput⟩ ?_|refine yb3 _ (by (repeat' (first|assumption|exact zav _ rfl|exact za1 rfl|refine za9 (B':=?_) ?_|refine zas ?_|fail))) ?_|fail)));conv=>whnf
   exact za6 (zew _ _) trivial (yae _)
theorem fun_vis (base:Heap) (ls:List Sym→Heap) (a b N:Nat) (hN:∀ n,(base++ls n).length=N) (low:∀ n,∀ B∈base++ls n,B.below N) (ha:∀ n,lget (ls n) a=some (mpY n)) (hb:∀ n,lget (ls n) b=some (.box 75 [.mp (base.length+a)])) (hset:∀ n m,(ls n).set a (mpY m)=ls m) :
  Vis (.func 56) [.ptr (base.length+b) 0] Tm.cells Tm.good (fun n=>base++ls n) N (fun _=>True) (fun _=>True) stepW:=by
 refine ⟨fun _ _=>trivial,fun n _=>hN n,fun n _=>low n,fun _ _ _ _=>⟨trivial,fun _=>trivial⟩,fun n x Y _ _=>?_⟩
 have h:=clo49_c x n ((base++ls n)++Y) (base.length+a) (base.length+b) (zav Y (ha n)) (zav Y (hb n))
 refine VCall.mono h ?_
 rintro r H' ⟨rfl,rfl⟩
 have ht:(stepW n x).2=true:=by cases x;rfl
 refine ⟨by rw [ht],?_⟩
 rw [zbt (ha n),hset]
theorem func_c (f:Fo) (hg:f.good) (hn:(funY f).length≤1000000000000) (H:Heap):VDet Tryz.prog 26 [.agg f.cells] H (.sl none (funY f).length ((sortY (funY f)).flatMap symC)):=by
 have hw:=walk_c f (H++[.box 25 f.cells,mpY [],.box 75 [.mp (H.length+1)]])
 rw [ya3] at hw
 have hce:∃ o s ln lc mn mc,f.cells=[.int .u8 (o:Nat),.str s,.sl none ln lc,.sl none mn mc]:=by
  obtain ⟨o,s,l,m,rfl⟩:=fo_ex f
  rw [zac]
  exact ⟨_,_,_,_,_,_,rfl⟩
 obtain ⟨o,s,ln,lc,mn,mc,hce⟩:=hce
 have hjp:=stepZ_none (fpart f) []
 have hpr:funY f=(foldB stepZ [] (fpart f)).1:=rfl
 rw [hce] at hw ⊢
 have hso:=fun X=>sorted47_c (H++(lsY H.length [.int .u8 o,.str s,.sl none ln lc,.sl none mn mc] (mpY (funY f))++X)) (H.length+1) (funY f) hn (by simp [lsY])
 refine zah Tryz.E0 zab Tryz.func26 (by kernel_rfl) rfl (ybq rfl) rfl fun hcl hbl=>?_
 (repeat' ((conv=>whnf);(first|refine ydg _ _ _ 4 hw rfl rfl rfl ?_|fail)));conv=>whnf
 refine ze8 clo_good f hg rfl hcl rfl [3] _ rfl (by decide) rfl (by simp [za4,below,tr])
  (fun ks:List Sym=>lsY H.length [.int .u8 o,.str s,.sl none ln lc,.sl none mn mc] (mpY ks)) (fun _=>True) (fun _=>True) stepZ [] trivial rfl 3 (by rw [hce];rfl) (fun _ h=>h) (fun _ _=>rfl) ?_ (fun _ _ h hx=>⟨trivial,fun _=>trivial⟩) ?_ ?_
 ·intro ks _ B hB
  have h:=zex H.length f ks (H.length+5) (by omega) B
  rw [hce] at h
  exact h hB
 ·intro ks x Y _ hx
  obtain ⟨o2,t2,a2,m2,rfl⟩:=fo_ex x
  rw [zac]
  have hb0:=fun ks=>zex H.length f ks (H.length+5) (by omega)
  rw [hce] at hb0
  have hbk:za4 H.length (H.length+5) [(3,.lp (0+1+1) 0)]:=by simp [za4,below,tr]
  have hst:stepZ ks (.mk o2 t2 a2 m2)=((foldE stepW ks (tparts a2)).1,none):=rfl
  have htr:=stepW_true (tparts a2) ks
  rw [hst]
  unfold lsY at hb0 ⊢
  conv=>whnf
  refine ⟨none,_,zav Y rfl,zbt rfl,?_⟩
  generalize hB:Blk.loop LoopState.busy none _ _=B
  have hBb:B.below (H.length+5):=hB▸zd6 hbk
  have hv:=fun_vis H (fun n=>[.box 25 [.int .u8 o,.str s,.sl none ln lc,.sl none mn mc],mpY n,.box 75 [.mp (H.length+1)],.box 25 [.int .u8 o,.str s,.sl none ln lc,.sl none mn mc],B]) 1 2 (H.length+5) (fun _=>by simp) (fun n C hC=>by
   rcases ybd.1 hC with h|h
   ·obtain ⟨j,hj⟩:=yci h
    exact yc0 (by omega) (hcl j C hj)
   ·have:=hb0 n C
    simp only [yax,ycm,or_false] at h this
    rcases h with rfl|rfl|rfl|rfl|rfl
    ·exact this (.inl rfl)
    ·exact zew _ _
    ·simp [Blk.below,zae,below]
    ·exact this (.inl rfl)
    ·exact hBb) (fun _=>rfl) (fun _=>rfl) (fun _ _=>rfl)
  have hvt:=fun X=>visitTerms_c hv (by simp) a2 (zao hx.2.2.1) hx.2.2.2.1 ks X trivial
  rw [htr] at hvt
  generalize (foldE stepW ks (tparts a2)).1=k2 at hvt ⊢
  have hvt2:∀ Z:Heap,VCall Tryz.prog 55 [.sl none a2.length (a2.flatMap Tm.cells),.clo (.func 56) [] [.ptr (H.length+2) 0]] (((H++[.box 25 [.int .u8 o,.str s,.sl none ln lc,.sl none mn mc],mpY ks,.box 75 [.mp (H.length+1)],.box 25 [.int .u8 o,.str s,.sl none ln lc,.sl none mn mc],B])++Y)++Z) (fun r H'=>r=.bool true∧H'=((H++[.box 25 [.int .u8 o,.str s,.sl none ln lc,.sl none mn mc],mpY k2,.box 75 [.mp (H.length+1)],.box 25 [.int .u8 o,.str s,.sl none ln lc,.sl none mn mc],B])++Y)++Z):=fun Z=>by
   have:=hvt (Y++Z)
   simpa only [yba] using this
  clear hvt
  (repeat' ((conv=>whnf);(first|refine ycf _ _ _ _ (hvt2 _) (by simp) rfl ?_|fail)));conv=>whnf
  subst hB
  exact zeq (l':=[_,_,_,_]) .normal rfl rfl (hb0 k2) hbk
 ·rw [← hpr]
  generalize foldB stepZ [] (fpart f)=res at *
  obtain ⟨ps,jp⟩:=res
  simp only at hjp ⊢
  subst hjp
  unfold lsY at hso ⊢
  generalize funY f=pf at *
  (repeat' ((conv=>whnf);(first|refine yab _ (hso _) ?_|fail)));conv=>whnf
  refine yaz ?_ (yae _)
  exact ⟨fun _ e=>(nomatch e),zdc _ _⟩
end
section
attribute [local irreducible] VW VCall VO bits
theorem ext1:∀ b:UInt8,(⟨#[63,b]⟩:ByteArray).extract 0 1=⟨#[63]⟩:=fun b=>rfl
theorem ext2:∀ b:UInt8,(⟨#[63,b]⟩:ByteArray).extract 1 2=⟨#[b]⟩:=fun b=>rfl
theorem pre_c (b:UInt8) (H:Heap):VDet Tryz.prog 99 [.str ⟨#[63,b]⟩,.str ⟨#[63]⟩] H (.bool true):=by
 refine zah Tryz.E0 zab Tryz.func99 (by kernel_rfl) rfl (ybq rfl) rfl fun hcl hbl=>?_
 (repeat' ((conv=>whnf);(first|refine yaq rfl ?_|refine NatN.mk _ rfl ?_|refine yaf ⟨yah _,ybq rfl⟩ ?_|fail)));conv=>whnf
 refine yaz trivial (Wk.of_eq (congrArg AV.bool ?_))
 show ((⟨#[63,b]⟩:ByteArray).extract 0 1).toList==(⟨#[63]⟩:ByteArray).toList
 rw [ext1]
 exact beq_self_eq_true _
theorem pre81_c (b:UInt8) (H:Heap):VDet Tryz.prog 91 [.str ⟨#[63,b]⟩,.str ⟨#[63]⟩] H (.bool true):=by
 have h:=pre_c b
 refine zah Tryz.E0 zab Tryz.func91 (by kernel_rfl) rfl (ybq rfl) rfl fun hcl hbl=>?_
 (repeat' ((conv=>whnf);(first|refine yab _ (h _) ?_|fail)));conv=>whnf
 exact eT trivial
theorem fmeta_c (b:UInt8) (H:Heap):VDet Tryz.prog 68 [.str ⟨#[63,b]⟩] H (.bool (zfm ⟨#[b]⟩)):=by
 have h:=pre81_c b
 have h2:=predicate_g ⟨#[b]⟩ (by show 1≤_;omega)
 have h2:∀ H,VDet Tryz.prog 92 [.str ((⟨#[63,b]⟩:ByteArray).extract 1 2)] H (.bool (zfm ⟨#[b]⟩)):=fun H=>by rw [ext2];exact h2 H
 generalize zfm ⟨#[b]⟩=r at *
 refine zah Tryz.E0 zab Tryz.func68 (by kernel_rfl) rfl (ybq rfl) rfl fun hcl hbl=>?_
 (repeat' ((conv=>whnf);(first|refine yaq rfl ?_|refine NatN.mk _ rfl ?_|(refine ybe ?_;first|refine yab _ (h _) ?_|refine yab _ (h2 _) ?_|fail)|refine yaf ⟨ybq rfl,ybq rfl⟩ ?_|fail)));conv=>whnf
 all_goals exact eT trivial
theorem tmeta_c (b:UInt8) (H:Heap):VDet Tryz.prog 69 [.str ⟨#[63,b]⟩] H (.bool (isFun ⟨#[b]⟩)):=by
 have h:=pre81_c b
 have h2:=zfc ⟨#[b]⟩ (by show 1≤_;omega)
 have h2:∀ H,VDet Tryz.prog 32 [.str ((⟨#[63,b]⟩:ByteArray).extract 1 2)] H (.bool (isFun ⟨#[b]⟩)):=fun H=>by rw [ext2];exact h2 H
 generalize isFun ⟨#[b]⟩=r at *
 refine zah Tryz.E0 zab Tryz.func69 (by kernel_rfl) rfl (ybq rfl) rfl fun hcl hbl=>?_
 (repeat' ((conv=>whnf);(first|refine yaq rfl ?_|refine NatN.mk _ rfl ?_|(refine ybe ?_;first|refine yab _ (h _) ?_|refine yab _ (h2 _) ?_|fail)|refine yaf ⟨ybq rfl,ybq rfl⟩ ?_|fail)));conv=>whnf
 all_goals exact eT trivial
theorem meta_c (b:UInt8) (H:Heap):VDet Tryz.prog 33 [.str ⟨#[63,b]⟩] H (.bool (zfm ⟨#[b]⟩ || isFun ⟨#[b]⟩)):=by
 have h1:=fmeta_c b
 have h2:=tmeta_c b
 generalize zfm ⟨#[b]⟩=r at *
 generalize isFun ⟨#[b]⟩=q at *
 cases r with
 | true =>
   refine zah Tryz.E0 zab Tryz.func33 (by kernel_rfl) rfl (ybq rfl) rfl fun hcl hbl=>?_
   (repeat' ((conv=>whnf);(first|refine yaq rfl ?_|refine yab _ (h1 _) ?_|fail)));conv=>whnf
   exact eT trivial
 | false =>
   refine zah Tryz.E0 zab Tryz.func33 (by kernel_rfl) rfl (ybq rfl) rfl fun hcl hbl=>?_
   (repeat' ((conv=>whnf);(first|refine yat rfl ?_|(refine ybe ?_;first|refine yab _ (h1 _) ?_|refine yab _ (h2 _) ?_|fail)|fail)));conv=>whnf
   exact eT trivial
theorem term_c (b:UInt8) (n:Nat) (lc:List AV) (hb:∀ m,zae m lc) (H:Heap):VDet Tryz.prog 13 [.str ⟨#[b]⟩,.sl none n lc] H (.agg [.bool (decide ((117:Int)≤b.toNat)),.str ⟨#[b]⟩,.sl none n lc]):=by
 have hbt:(⟨#[b]⟩:ByteArray)[(0:Int).toNat]? = some b:=rfl
 refine zah Tryz.E0 zab Tryz.func13 (by kernel_rfl) rfl (ybq rfl) rfl fun hcl hbl=>?_
 (repeat' ((conv=>whnf);(first|refine yaf (by omega) ?_|refine ByteN.mk _ hbt ?_|fail)));conv=>whnf
 refine yaz ?_ (yae _)
 exact ⟨trivial,trivial,⟨fun _ e=>(nomatch e),hb _⟩,trivial⟩
theorem atom_c (s:ByteArray) (n:Nat) (lc:List AV) (hb:∀ m,zae m lc) (H:Heap):VDet Tryz.prog 12 [.str s,.sl none n lc] H (.agg [.int .u8 1,.str s,.sl none n lc,.sl none 0 []]):=by
 refine zah Tryz.E0 zab Tryz.func12 (by kernel_rfl) rfl (ybq rfl) rfl fun hcl hbl=>?_
 conv=>whnf
 refine yaz ?_ (by (repeat' (first|exact trivial|refine ybu ?_ ?_|exact yae _|exact zbe|refine zej ?_|fail));done)
 exact ⟨trivial,trivial,⟨fun _ e=>(nomatch e),hb _⟩,⟨fun _ e=>(nomatch e),trivial⟩,trivial⟩
theorem of_c (k:Int) (s:ByteArray) (n:Nat) (lc:List AV) (hb:∀ m,zae m lc) (H:Heap):VDet Tryz.prog 52 [.int .u8 k,.str s,.sl none n lc] H (.agg [.int .u8 k,.str s,.sl none 0 [],.sl none n lc]):=by
 refine zah Tryz.E0 zab Tryz.func52 (by kernel_rfl) rfl (ybq rfl) rfl fun hcl hbl=>?_
 conv=>whnf
 refine yaz ?_ (by (repeat' (first|exact trivial|refine ybu ?_ ?_|exact yae _|exact zbe|refine zej ?_|fail));done)
 exact ⟨trivial,trivial,⟨fun _ e=>(nomatch e),trivial⟩,⟨fun _ e=>(nomatch e),hb _⟩,trivial⟩
def tX:Tm:=.mk true ⟨#[120]⟩ []
def tA:Tm:=.mk false ⟨#[97]⟩ []
def tF:Tm:=.mk false ⟨#[102]⟩ [tA]
def gP:Fo:=.mk 1 ⟨#[80]⟩ [tX,tF] []
def gQ:Fo:=.mk 1 ⟨#[81]⟩ [] []
def gN:Fo:=.mk 3 ⟨#[]⟩ [] [gQ]
def gA:Fo:=.mk 4 ⟨#[]⟩ [] [gP,gN]
def exF:Fo:=.mk 9 ⟨#[120]⟩ [] [gA]
theorem tX_c:tX.cells=[.bool true,.str ⟨#[120]⟩,.sl none 0 []]:=by unfold tX;rw [zai];rfl
theorem tA_c:tA.cells=[.bool false,.str ⟨#[97]⟩,.sl none 0 []]:=by unfold tA;rw [zai];rfl
theorem tF_c:tF.cells=[.bool false,.str ⟨#[102]⟩,.sl none 1 tA.cells]:=by unfold tF;rw [zai];simp
theorem gP_c:gP.cells=[.int .u8 1,.str ⟨#[80]⟩,.sl none 2 (tX.cells++tF.cells),.sl none 0 []]:=by unfold gP;rw [zac];simp
theorem gQ_c:gQ.cells=[.int .u8 1,.str ⟨#[81]⟩,.sl none 0 [],.sl none 0 []]:=by unfold gQ;rw [zac];simp
theorem gN_c:gN.cells=[.int .u8 3,.str ⟨#[]⟩,.sl none 0 [],.sl none 1 gQ.cells]:=by unfold gN;rw [zac];simp
theorem gA_c:gA.cells=[.int .u8 4,.str ⟨#[]⟩,.sl none 0 [],.sl none 2 (gP.cells++gN.cells)]:=by unfold gA;rw [zac];simp
theorem exF_c:exF.cells=[.int .u8 9,.str ⟨#[120]⟩,.sl none 0 [],.sl none 1 gA.cells]:=by unfold exF;rw [zac];simp
theorem tm_belowC (n:Nat) (x:Tm):zae n x.cells:=by
 obtain ⟨v,s,l,rfl⟩:=tm_ex x
 rw [zai]
 exact ⟨trivial,trivial,⟨fun _ e=>(nomatch e),zau _ _⟩,trivial⟩
theorem belowL_app {n:Nat} {l m:List AV} (h1:zae n l) (h2:zae n m):zae n (l++m):=(zbr _ _).2 ⟨h1,h2⟩
theorem ex_c (H:Heap):VDet Tryz.prog 23 [] H (.agg exF.cells):=by
 have hx:∀ H,VDet Tryz.prog 13 [.str ⟨#[120]⟩,.nils] H (.agg [.bool true,.str ⟨#[120]⟩,.sl none 0 []]):=fun H=>(term_c 120 0 [] (fun _=>trivial) H).wk (by (repeat' (first|exact trivial|refine ybu ?_ ?_|exact yae _|exact zbe|fail));done)
 have ha:∀ H,VDet Tryz.prog 13 [.str ⟨#[97]⟩,.nils] H (.agg [.bool false,.str ⟨#[97]⟩,.sl none 0 []]):=fun H=>(term_c 97 0 [] (fun _=>trivial) H).wk (by (repeat' (first|exact trivial|refine ybu ?_ ?_|exact yae _|exact zbe|fail));done)
 have hf:∀ H,VDet Tryz.prog 13 [.str ⟨#[102]⟩,.sx 1 tA.cells] H (.agg [.bool false,.str ⟨#[102]⟩,.sl none 1 tA.cells]):=fun H=>(term_c 102 1 tA.cells (fun m=>tm_belowC m tA) H).wk (by (repeat' (first|exact trivial|refine ybu ?_ ?_|exact yae _|exact wk_sx _ _|fail));done)
 have hP:∀ H,VDet Tryz.prog 12 [.str ⟨#[80]⟩,.sx 2 (tX.cells++tF.cells)] H (.agg [.int .u8 1,.str ⟨#[80]⟩,.sl none 2 (tX.cells++tF.cells),.sl none 0 []]):=fun H=>(atom_c _ 2 _ (fun m=>belowL_app (tm_belowC m tX) (tm_belowC m tF)) H).wk (by (repeat' (first|exact trivial|refine ybu ?_ ?_|exact yae _|exact wk_sx _ _|fail));done)
 have hQ:∀ H,VDet Tryz.prog 12 [.str ⟨#[81]⟩,.nils] H (.agg [.int .u8 1,.str ⟨#[81]⟩,.sl none 0 [],.sl none 0 []]):=fun H=>(atom_c _ 0 [] (fun m=>trivial) H).wk (by (repeat' (first|exact trivial|refine ybu ?_ ?_|exact yae _|exact zbe|fail));done)
 have hN:∀ H,VDet Tryz.prog 52 [.int .u8 3,.str ⟨#[]⟩,.sx 1 gQ.cells] H (.agg [.int .u8 3,.str ⟨#[]⟩,.sl none 0 [],.sl none 1 gQ.cells]):=fun H=>(of_c _ _ 1 gQ.cells (fun m=>zco m gQ) H).wk (by (repeat' (first|exact trivial|refine ybu ?_ ?_|exact yae _|exact wk_sx _ _|fail));done)
 have hA:∀ H,VDet Tryz.prog 52 [.int .u8 4,.str ⟨#[]⟩,.sx 2 (gP.cells++gN.cells)] H (.agg [.int .u8 4,.str ⟨#[]⟩,.sl none 0 [],.sl none 2 (gP.cells++gN.cells)]):=fun H=>(of_c _ _ 2 _ (fun m=>belowL_app (zco m gP) (zco m gN)) H).wk (by (repeat' (first|exact trivial|refine ybu ?_ ?_|exact yae _|exact wk_sx _ _|fail));done)
 have hE:∀ H,VDet Tryz.prog 52 [.int .u8 9,.str ⟨#[120]⟩,.sx 1 gA.cells] H (.agg [.int .u8 9,.str ⟨#[120]⟩,.sl none 0 [],.sl none 1 gA.cells]):=fun H=>(of_c _ _ 1 gA.cells (fun m=>zco m gA) H).wk (by (repeat' (first|exact trivial|refine ybu ?_ ?_|exact yae _|exact wk_sx _ _|fail));done)
 have hbel:=zco H.length exF
 rw [exF_c] at hbel ⊢
 rw [gA_c] at hE hbel ⊢
 rw [gP_c,gN_c] at hA hE hbel ⊢
 rw [gQ_c] at hN hA hE hbel ⊢
 rw [tX_c,tF_c] at hP hA hE hbel ⊢
 rw [tA_c] at hf hP hA hE hbel ⊢
 simp only [ycc,yc9] at hP hA hE hbel ⊢
 refine zah Tryz.E0 zab Tryz.func23 (by kernel_rfl) rfl (ybq rfl) rfl fun hcl hbl=>?_
 (repeat' ((conv=>whnf);(first|(refine ybe ?_;first|refine yab _ (hx _) ?_|refine yab _ (ha _) ?_|refine yab _ (hf _) ?_|refine yab _ (hP _) ?_|refine yab _ (hQ _) ?_|refine yab _ (hN _) ?_|refine yab _ (hA _) ?_|refine yab _ (hE _) ?_|fail)|refine OrN.l ?_|fail)));conv=>whnf
 refine yaz ?_ (yae _)
 exact hbel
end
theorem ze1:fpart exF=[exF,gA,gP,gN,gQ]:=by
 simp [exF,gA,gP,gN,gQ,zgg,zed,fparts_nil]
theorem zee:exF.good:=by
 simp [exF,gA,gP,gN,gQ,tX,tF,tA,Fo.good,Fo.goodL,Tm.good,Tm.goodL,maxLen]
 decide
theorem exF_fit:exF.fit:=by
 simp [exF,gA,gP,gN,gQ,tX,tF,tA,Fo.fit,Fo.fitL,Tm.fit,Tm.fitL,capB]
 decide
theorem exF_find:findF exF [0,1,0]=some gQ:=by kernel_rfl
theorem exF_dep:depF exF=5:=by kernel_rfl
theorem exF_right:(jF 1 exF 400).2=true:=by kernel_rfl
theorem exF_pred:predY exF=[(⟨#[80]⟩,2),(⟨#[81]⟩,0)]:=by
 unfold predY
 rw [ze1]
 rfl
theorem exF_fun:funY exF=[(⟨#[102]⟩,1),(⟨#[97]⟩,0)]:=by
 unfold funY
 rw [ze1]
 kernel_rfl
theorem exF_cnt:cntF 9223372036854775807 exF=8:=by
 unfold cntF
 rw [ze1]
 kernel_rfl
theorem exF_cnt2:cntF 1000 exF=8:=by
 unfold cntF
 rw [ze1]
 kernel_rfl
theorem exF_partsF:partsF exF=[exF,gA,gP,gN,gQ]:=by
 unfold partsF
 rw [exF_cnt2,if_neg (by omega),ze1]
 kernel_rfl
theorem sortY_of {l:List Sym} (h:l.Pairwise fun x y=>cSym x y≤0):sortY l=l:=by
 refine List.mergeSort_of_pairwise (h.imp fun {a b} hab=>?_)
 unfold Go.Proofs.ltOf
 have:=(zfj a).anti b
 simp
 omega
theorem exF_spred:sortY (predY exF)=[(⟨#[80]⟩,2),(⟨#[81]⟩,0)]:=by
 rw [exF_pred]
 refine sortY_of ?_
 refine List.pairwise_pair.2 ?_
 decide
theorem exF_sfun:sortY (funY exF)=[(⟨#[97]⟩,0),(⟨#[102]⟩,1)]:=by
 rw [exF_fun,sortY_eq (List.Perm.swap _ _ _)]
 refine sortY_of ?_
 refine List.pairwise_pair.2 ?_
 decide
theorem vx10:isVar ⟨#[120,49,48]⟩=true:=by kernel_rfl
theorem vxy:isVar ⟨#[120,121]⟩=false:=by kernel_rfl
theorem fnext1:isFun ⟨#[110,101,120,116,49]⟩=true:=by kernel_rfl
theorem fall:isFun ⟨#[97,108,108]⟩=false:=by kernel_rfl
theorem mt:(zfm ⟨#[116]⟩ || isFun ⟨#[116]⟩)=true:=by kernel_rfl
theorem mu:(zfm ⟨#[117]⟩ || isFun ⟨#[117]⟩)=false:=by kernel_rfl
section
attribute [local irreducible] VW VCall VO bits
theorem right_c (f:Fo) (hg:f.good) (H:Heap):VDet Tryz.prog 10 [.agg f.cells] H (.bool (jF 1 f 400).2):=by
 have h:=form_g f hg (H++[.box 25 f.cells,jB 400]) (H.length+1) 400 1 (by simp) (by omega) (by omega)
 have hce:∃ o s ln lc mn mc,f.cells=[.int .u8 (o:Nat),.str s,.sl none ln lc,.sl none mn mc]:=by
  obtain ⟨o,s,l,m,rfl⟩:=fo_ex f
  rw [zac]
  exact ⟨_,_,_,_,_,_,rfl⟩
 obtain ⟨o,s,ln,lc,mn,mc,hce⟩:=hce
 rw [hce] at h ⊢
 generalize jF 1 f 400=r at *
 obtain ⟨L,b⟩:=r
 simp only at h ⊢
 have h2:VCall Tryz.prog 38 [.ptr (H.length+1) 0,.agg [.int .u8 o,.str s,.sl none ln lc,.sl none mn mc],.int .i64 (1:Nat)] (H++[.box 25 [.int .u8 o,.str s,.sl none ln lc,.sl none mn mc],jB 400]) (fun r H'=>r=.bool b∧H'=H++[.box 25 [.int .u8 o,.str s,.sl none ln lc,.sl none mn mc],jB L]):=by
  refine VCall.mono h ?_
  rintro r H' ⟨h4,h3⟩
  rw [zbn] at h4
  exact ⟨h3,h4⟩
 unfold jB at h2
 refine zah Tryz.E0 zab Tryz.func10 (by kernel_rfl) rfl (ybq rfl) rfl fun hcl hbl=>?_
 (repeat' ((conv=>whnf);(first|refine ycf _ _ _ 2 h2 rfl rfl ?_|fail)));conv=>whnf
 exact eT trivial
theorem awake_c (H:Heap):VDet Tryz.prog 8 [] H (.bool true):=by
 have hEx:=ex_c
 have hAt:=fun H=>(at_c exF zee exF_fit [0,1,0] (by decide) H)
 have hPr:=pred_c exF zee (by rw [exF_pred];decide)
 have hFu:=func_c exF zee (by rw [exF_fun];decide)
 have hRi:=right_c exF zee
 have hNo:=nodes_c exF zee
 have hDe:=depF_g exF zee
 have hPa:=parts_c exF zee exF_fit
 have gQg:gQ.good:=by simp [gQ,Fo.good,Fo.goodL,Tm.goodL,maxLen];decide
 have hSa:=samF_g gQ gQg gQ gQg
 have hQ:∀ H,VDet Tryz.prog 12 [.str ⟨#[81]⟩,.nils] H (.agg [.int .u8 1,.str ⟨#[81]⟩,.sl none 0 [],.sl none 0 []]):=fun H=>(atom_c _ 0 [] (fun m=>trivial) H).wk (by (repeat' (first|exact trivial|refine ybu ?_ ?_|exact yae _|exact zbe|fail));done)
 have hv1:=ze6 ⟨#[120,49,48]⟩ (by show 3≤_;omega)
 have hv2:=ze6 ⟨#[120,121]⟩ (by show 2≤_;omega)
 have hf1:=zfc ⟨#[110,101,120,116,49]⟩ (by show 5≤_;omega)
 have hf2:=zfc ⟨#[97,108,108]⟩ (by show 3≤_;omega)
 have hm1:=meta_c 116
 have hm2:=meta_c 117
 rw [vx10] at hv1
 rw [vxy] at hv2
 rw [fnext1] at hf1
 rw [fall] at hf2
 rw [mt] at hm1
 rw [mu] at hm2
 rw [exF_right] at hRi
 rw [exF_cnt] at hNo
 rw [exF_spred,exF_pred] at hPr
 rw [exF_sfun,exF_fun] at hFu
 unfold DepF at hDe
 rw [exF_dep] at hDe
 rw [exF_cnt2,if_neg (by omega),exF_partsF] at hPa
 rw [exF_find] at hAt
 rw [show eqFo gQ gQ=true by kernel_rfl] at hSa
 have hAt:∀ H,VDet Tryz.prog 24 [.agg exF.cells,.sx 3 [.int .i64 0,.int .i64 1,.int .i64 0]] H (.tup [.agg gQ.cells,.int .i64 0]):=fun H=>(hAt H).wk ⟨yae _,wk_sx _ _,trivial⟩
 generalize hgp:List.flatMap Fo.cells [exF,gA,gP,gN,gQ]=pc at *
 rw [gQ_c] at hAt hSa
 have hce:∃ o s ln lc mn mc,exF.cells=[.int .u8 (o:Nat),.str s,.sl none ln lc,.sl none mn mc]:=⟨9,_,_,_,_,_,exF_c⟩
 obtain ⟨o,s,ln,lc,mn,mc,hce⟩:=hce
 rw [hce] at hEx hAt hPr hFu hRi hNo hDe hPa
 simp only [symC,ya4,List.flatMap_nil,ycc,yc9,List.length_cons,List.length_nil] at hPr hFu hPa
 refine zah Tryz.E0 zab Tryz.func8 (by kernel_rfl) rfl (ybq rfl) rfl fun hcl hbl=>?_
 (repeat' ((conv=>whnf);(first|(refine yai ?_;first|refine yar ?_|refine yaq rfl ?_|refine yat rfl ?_|(refine IfN.mk ?_ ?_ <;> intro _)|fail)|(refine yaf ?_ ?_;· first|kernel_rfl|omega|exact yaa _ _|fail)|(refine ybe ?_;first|refine yab _ (hEx _) ?_|refine yab _ (hAt _) ?_|fail)|(refine CallD.id ?_;first|refine yan _ (fun _ hq X=>hPr _) ?_|refine yan _ (fun _ hq X=>hFu _) ?_|refine yan _ (fun _ hq X=>hRi _) ?_|refine yan _ (fun _ hq X=>hNo _) ?_|refine yan _ (fun _ hq X=>hDe _) ?_|refine yan _ (fun _ hq X=>hPa _) ?_|refine yan _ (fun _ hq X=>hSa _) ?_|refine yan _ (fun _ hq X=>hQ _) ?_|refine yan _ (fun _ hq X=>hv1 _) ?_|refine yan _ (fun _ hq X=>hv2 _) ?_|refine yan _ (fun _ hq X=>hf1 _) ?_|refine yan _ (fun _ hq X=>hf2 _) ?_|refine yan _ (fun _ hq X=>hm1 _) ?_|refine yan _ (fun _ hq X=>hm2 _) ?_|fail)|refine yc1 _ (zea rfl) ?_|refine zam [] ?_|refine OrN.l ?_|fail)));all_goals (conv=>whnf)
 ·exact eT trivial
 all_goals
  exfalso
  rename_i h
  simp at h
theorem fitL_set {y:Fo} (hy:y.fit):∀ (l:List Fo) (i:Nat),Fo.fitL l→Fo.fitL (l.set i y)
 | [],_,h=>h
 | _::_,0,h=>⟨hy,h.2⟩
 | _::l,i+1,h=>⟨h.1,fitL_set hy l i h.2⟩
theorem goodL_set {y:Fo} (hy:y.good):∀ (l:List Fo) (i:Nat),Fo.goodL l→Fo.goodL (l.set i y)
 | [],_,h=>h
 | _::_,0,h=>⟨hy,h.2⟩
 | _::l,i+1,h=>⟨h.1,goodL_set hy l i h.2⟩
theorem fitL_getD (l:List Fo) (i:Nat) (h:Fo.fitL l):(l.getD i fo0).fit:=by
 rcases yag i l.length with hi|hi
 ·exact zdp h _ (zak l i fo0 hi)
 ·rw [ybi,yca hi]
  exact ⟨by decide,by decide,trivial,by decide,trivial⟩
theorem goodL_getD (l:List Fo) (i:Nat) (h:Fo.goodL l):(l.getD i fo0).good:=by
 rcases yag i l.length with hi|hi
 ·exact zbc h _ (zak l i fo0 hi)
 ·rw [ybi,yca hi]
  exact ⟨by decide,by decide,by decide,trivial,by decide,trivial⟩
theorem putF_fit:∀ (pl:List Int) (f p:Fo),f.fit→p.fit→(putF pl f p).fit
 | [],_,_,_,h=>h
 | i::r,.mk o s l m,p,hf,hp=>⟨hf.1,hf.2.1,hf.2.2.1,by rw [List.length_set];exact hf.2.2.2.1,fitL_set (putF_fit r _ p (fitL_getD m _ hf.2.2.2.2) hp) m _ hf.2.2.2.2⟩
theorem putF_good:∀ (pl:List Int) (f p:Fo),f.good→p.good→(putF pl f p).good
 | [],_,_,_,h=>h
 | i::r,.mk o s l m,p,hf,hp=>⟨hf.1,hf.2.1,hf.2.2.1,hf.2.2.2.1,by rw [List.length_set];exact hf.2.2.2.2.1,goodL_set (putF_good r _ p (goodL_getD m _ hf.2.2.2.2.2) hp) m _ hf.2.2.2.2.2⟩
theorem fo0_fit:fo0.fit:=⟨by decide,by decide,trivial,by decide,trivial⟩
theorem fo0_good:fo0.good:=⟨by decide,by decide,by decide,trivial,by decide,trivial⟩
theorem same_c (x:Fo) (hx:x.good) (H:Heap):VDet Tryz.prog 30 [.agg x.cells,.agg x.cells] H (.bool true):=by
 have:=samF_g x hx x hx H
 rwa [(eqFo_iff x x).2 rfl] at this
theorem same_at (x:Fo) (hx:x.good) (H:Heap) (cs:List AV) (S:List Nat) (h:AtF H x cs S):VDet Tryz.prog 30 [.agg cs,.agg x.cells] H (.bool true):=by
 obtain ⟨ys,h1,h2⟩:=AtF.lend x h
 exact VDet.lendA (ys:=[.agg ys,.agg x.cells]) (.cons (.agg h1) (.cons (.refl _) .nil)) (fun H=>same_c x hx H) ⟨zej h2,yae _,trivial⟩ rfl
theorem places_c (f p:Fo) (hf:f.good) (hp:p.good) (hff:f.fit) (hpf:p.fit) (pl:List Int) (hl:pl.length≤9223372036854775807) (H:Heap):VDet Tryz.prog 9 [.agg f.cells,.agg p.cells,.sl none pl.length (pl.flatMap encI)] H (.bool true):=by
 have c1:=cpyF_g f hff
 have c2:=cpyF_g p hpf
 unfold CpyF at c1 c2
 have h34:=refAt_c pl f hf hl
 have h35:=refWith_c p hpf pl f hf hff hl
 have sf:=same_c f hf
 have sp:=same_c p hp
 obtain ⟨g1,g2,e,h24,h14,a1,a2,hx,hy,kx,ky⟩:∃ (g1 g2:Fo) (e:Int),(∀ H,VCall Tryz.prog 24 [.agg f.cells,.sl none pl.length (pl.flatMap encI)] H (AtR e g1 H))∧(∀ H,VCall Tryz.prog 14 [.agg f.cells,.sl none pl.length (pl.flatMap encI),.agg p.cells] H (AtR e g2 H)) ∧
   atA (findF f pl)=.tup [.agg g1.cells,.int .i64 e]∧withA f pl p=.tup [.agg g2.cells,.int .i64 e]∧g1.fit∧g2.fit∧g1.good∧g2.good:=by
  unfold withA
  cases hfd:findF f pl with
  | none=>exact ⟨fo0,fo0,6,fun H=>atR_N (at_N f hf pl hl hfd H),fun H=>atR_N (with_N f hf p pl hl hfd H),rfl,rfl,fo0_fit,fo0_fit,fo0_good,fo0_good⟩
  | some g=>exact ⟨g,putF pl f p,0,fun H=>at_R f g hf hff pl hl hfd H,fun H=>with_R f p g hf hff hpf pl hl hfd H,rfl,rfl,zgj pl f g hff hfd,putF_fit pl f p hff hpf,findF_good pl f g hf hfd,putF_good pl f p hf hp⟩
 rw [a1] at h34
 rw [a2] at h35
 have sx:=same_at g1 kx
 have sy:=same_at g2 ky
 obtain ⟨fo,fs,fn,fc,fm,fd,ef,-,-⟩:=fo_cx f
 obtain ⟨po,ps,pn,pc,pm,pd,ep,-,-⟩:=fo_cx p
 obtain ⟨xo,xs,xn,xc,xm,xd,ex,-,-⟩:=fo_cx g1
 obtain ⟨yo,ys,yn,yc,ym,yd,ey,-,-⟩:=fo_cx g2
 rw [ef] at c1 h24 h14 h34 h35 sf ⊢
 rw [ep] at c2 h14 h35 sp ⊢
 rw [ex] at h34 sx
 rw [ey] at h35 sy
 exact places_k fo fs fn fm fc fd po ps pn pm pc pd pl.length _ e g1 g2 hx hy xo xs xn xm xc xd yo ys yn ym yc yd c1 c2 h24 h14 h34 h35 sx sy sf sp H
theorem formPlaces_c (x y:Fo) (hx:x.good) (hy:y.good) (hxf:x.fit) (hyf:y.fit) (pl:List Int) (hl:pl.length≤9223372036854775807) (H:Heap):VDet Tryz.prog 4 [.agg x.cells,.agg y.cells,.sl none pl.length (pl.flatMap encI)] H (.bool true):=by
 have haw:=awake_c
 have hsm:=fun H=>(small_c [x,y] (by show 2≤_;omega) ⟨hx,hy,trivial⟩ H)
 have hc:=places_c x y hx hy hxf hyf pl hl
 generalize smallB [x,y]=sm at *
 simp only [ya4,List.flatMap_nil,yas,List.length_cons,List.length_nil] at hsm
 obtain ⟨xo,xs1,xl,xlc,xm,xmc,ex,-,-⟩:=fo_cx x
 obtain ⟨yo,ys1,yl,ylc,ym,ymc,ey,-,-⟩:=fo_cx y
 rw [ex,ey] at hsm hc ⊢
 simp only [ycc,yc9] at hsm
 generalize pl.flatMap encI=kc at *
 generalize pl.length=kn at *
 have hsm:∀ H,VDet Tryz.prog 6 [.sx 2 [.int .u8 xo,.str xs1,.sl none xl xlc,.sl none xm xmc,.int .u8 yo,.str ys1,.sl none yl ylc,.sl none ym ymc]] H (.bool sm):=fun H=>(hsm H).wk (by (repeat' (first|exact trivial|refine ybu ?_ ?_|exact wk_sx _ _|fail));done)
 cases sm with
 | false =>
   refine zah Tryz.E0 zab Tryz.func4 (by kernel_rfl) rfl (ybq rfl) rfl fun hcl hbl=>?_
   (repeat' ((conv=>whnf);(first|(refine yai ?_;first|refine yar ?_|refine yat rfl ?_|fail)|(refine ybe ?_;first|refine yab _ (haw _) ?_|refine yab _ (hsm _) ?_|fail)|refine OrN.l ?_|fail)));conv=>whnf
   exact eT trivial
 | true =>
   by_cases h60:(60:Int)<kn
   ·refine zah Tryz.E0 zab Tryz.func4 (by kernel_rfl) rfl (ybq rfl) rfl fun hcl hbl=>?_
    (repeat' ((conv=>whnf);(first|(refine yai ?_;first|refine yar ?_|refine yaq rfl ?_|refine zaq (by omega) ?_|fail)|(refine ybe ?_;first|refine yab _ (haw _) ?_|refine yab _ (hsm _) ?_|fail)|refine OrN.l ?_|fail)));conv=>whnf
    exact eT trivial
   ·refine zah Tryz.E0 zab Tryz.func4 (by kernel_rfl) rfl (ybq rfl) rfl fun hcl hbl=>?_
    (repeat' ((conv=>whnf);(first|(refine yai ?_;first|refine yar ?_|refine yaq rfl ?_|refine zal (by omega) ?_|fail)|(refine ybe ?_;first|refine yab _ (haw _) ?_|refine yab _ (hsm _) ?_|refine yab _ (hc _) ?_|fail)|refine OrN.l ?_|fail)));conv=>whnf
    exact eT trivial
end
end Go.Proofs.YtejegcmnddedmaaGreatDoor
namespace Go.Proofs.YtejegcmnddedmaaGreatDoor
section
open Go.ChangeShapes Go.WideShapes Go.ChangeAt Go.RowKit Go.Vsi
theorem mrel_of {g:G} {W:World} {b:Nat} (hg:∀ b o,¬ g.own b o):∀ (l:List AV) (cs:List Value) (o:Nat),LRel g W l cs→(∀ (i:Nat) c,cs[i]? = some c→W.cell? ⟨b,o+i,.none⟩=some c)→MRel g W l b o
 | [],_,_,_,_=>trivial
 | v::l,cs,o,h,hc=>by
   simp only [LRel] at h
   obtain ⟨c,r,rfl,h1,h2⟩:=h
   refine ⟨⟨c,by simpa using hc 0 c rfl,h1,hg _ _⟩,?_⟩
   exact mrel_of hg l r (o+1) h2 fun i c' hi=>by
    have:=hc (i+1) c' (by simpa using hi)
    rwa [show o+(i+1)=o+1+i by omega] at this
theorem mone {W:World} {n:String} {gi:Nat} {ty:TypeId} {T:Ty} {D:DataW Unit} {cells:List AV} {g0:Nat} {t0:TypeId} {cs0:Array Value} {f0:Nat} {p0:List MemPlace}
  (hg:Tryz.prog.globalNamed n=some gi) (ht:(Tryz.prog.globals[gi]?).map (·.type)=some ty) (hty:TyOk Tryz.prog ty T) (hpl:PlTy T) (hD:∃ l',DatOf (H:=Unit) D l'∧l'=cells)
  (hg0:Tryz.prog.globalNamed n=some g0) (ht0:(Tryz.prog.globals[g0]?).map (·.type)=some t0) (hv0:W.var? Tryz.prog n=some cs0) (hd0:DataW.trod (fun _=>()) Tryz.prog W 0 (fun _=>true) false f0 t0 cs0.toList=some (D,p0)):MRel G.none W cells gi 0:=by
 obtain rfl:=Option.some.inj (hg.symm.trans hg0)
 obtain rfl:=Option.some.inj (ht.symm.trans ht0)
 obtain ⟨l,h1,h2⟩:=trod_dat (g:=G.none) _ hpl hty hd0
 obtain ⟨l',hl1,hl2⟩:=hD
 have hll:l=cells:=(DatOf.det h1 hl1).trans hl2
 rw [← hll]
 refine mrel_of (fun _ _ h=>h) l cs0.toList 0 h2 fun i c hi=>?_
 have:=World.var?_cell hg0 hv0 i
 rw [ybn,this]
 simpa using hi
theorem gl_of_laid {W:World} (h:laidMetH Tryz.prog [("lyceum/syntax.rows",Rows.laid_lyceum_syntax_rows)] W):∀ p∈Glob.gl,MRel G.none W p.2 p.1 0:=by
 rw [MakeChecks.laidMetH_plain _ _ _ (by kernel_rfl)] at h
 obtain ⟨ps,⟨g0,t0,cs0,f0,p0,q0,hg0,ht0,hv0,hd0,_⟩,_⟩:=h
 have m0:MRel G.none W (Tryz.gl[0]).2 0 0:=mone (T:=repTy 17 (.pair .bool (.pair .bool (.pair (.int .u8) (.pair (.int .i64) (.pair (.int .i64) .unit)))))) (ty:=92) (by kernel_rfl) (by kernel_rfl) (tyOf_ok zgo 12 92 _ (by kernel_rfl)) (by simp [repTy,PlTy]) ⟨_,by unfold Rows.laid_lyceum_syntax_rows;repeat constructor,by kernel_rfl⟩ hg0 ht0 hv0 hd0
 intro p hp
 have hp0:p=Tryz.gl[0]:=by
  have:p∈Tryz.gl:=hp
  simpa [Tryz.gl] using this
 subst hp0
 ·exact m0
end
end Go.Proofs.YtejegcmnddedmaaGreatDoor
