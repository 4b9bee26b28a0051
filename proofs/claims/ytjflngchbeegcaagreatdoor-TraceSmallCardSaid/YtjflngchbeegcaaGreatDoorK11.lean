/- A text of the proof: the parts OC13c, PC13c, QC13c, RC13c, SC13c, TC13c, UC13c, VC13c, XC13c, YC13c, AT13c, SJ10z, FA13c, A10z. -/
import Derived.Test.YtjflngchbeegcaaGreatDoorK10
set_option linter.unusedSimpArgs false
set_option linter.unusedVariables false
set_option maxHeartbeats 8000000
namespace Go.Proofs.YtjflngchbeegcaaGreatDoor.P10.C
open Go.Vsi
section
attribute [local irreducible] VW VCall VO bits
def mkB (i:Nat):ByteArray:=zln [35,1,0,0,47,(i:Nat),0,0]
theorem mark_c (i:Nat) (hi:i<100) (H:Heap):VDet Tryz.prog 84 [.int .i64 1,.int .i64 (i:Nat)] H (.int .i64 ((8000024+i:Nat):Int)):=by
 refine fdD Tryz.func84 ⟨rfl,rfl,rfl⟩ fun hcl hbl=>?_
 (repeat' ((conv=>whnf);(first|refine yck (by omega) ?_|fail)));conv=>whnf
 exact ya1 trivial (Wk.of_eq (congrArg (AV.int _) (by omega)))
theorem zdv (i:Nat) (hi:i<12) (H:Heap):VDet Tryz.prog 42 [.int .i64 1,.int .i64 (i:Nat)] H (.str (mkB i)):=by
 have h:i=0∨i=1∨i=2∨i=3∨i=4∨i=5∨i=6∨i=7∨i=8∨i=9∨i=10∨i=11:=by omega
 rcases h with rfl|rfl|rfl|rfl|rfl|rfl|rfl|rfl|rfl|rfl|rfl|rfl
 all_goals
  refine fdD Tryz.func42 ⟨rfl,rfl,rfl⟩ fun hcl hbl=>?_
  (repeat' ((conv=>whnf);(first|(refine yct ?_;first|(refine zd4 _ _ Cst.h Cst.h rfl ?_ ?_;· (repeat' (first|omega|refine yb3 ?_ ?_|exact zag (by omega)|exact zat (by omega)|refine zbf ?_ ?_|refine zas ?_ ?_|refine za2 ?_ ?_|refine zao ?_ ?_|refine za3 ?_|refine za4 ?_ ?_|refine za5 ?_|refine zag ?_|fail)))|refine zby _ _ Cst.h Cst.h ?_|refine EqN.mk _ rfl ?_|fail)|refine yaf (by omega) ?_|fail)));all_goals (conv=>whnf)
  exact ya1 trivial (Wk.of_eq rfl)
theorem fct_ex {f x:Fct} (h:x=f):∃ a b c,x=⟨a,b,c⟩∧f.cells=[.str a,.int .i64 b,.int .i64 c]:=⟨_,_,_,rfl,by rw [← h];rfl⟩
theorem fnc_ex {f x:Fnc} (h:x=f):∃ a b c,x=⟨a,b,c⟩∧f.cells=[.str a,.int .i64 b,.sl none c.length (c.flatMap enc64)]:=⟨_,_,_,rfl,by rw [← h];rfl⟩
theorem bnd_ex {f x:Bnd} (h:x=f):∃ a b,x=⟨a,b⟩∧f.cells=[.str a,.int .i64 b]:=⟨_,_,rfl,by rw [← h];rfl⟩
def appC (m:Nat→List AV) (C:List AV):Nat→List AV
 | 0=>C
 | j+1=>appC m C j++m j
theorem zb0 (n:Nat) {m:Nat→List AV} {C:List AV} (hm:∀ i,zaa n (m i)) (hC:zaa n C):∀ j,zaa n (appC m C j)
 | 0=>hC
 | j+1=>(zak _ _).2 ⟨zb0 n hm hC j,hm j⟩
theorem zeu {m:Nat→List AV} {C:List AV} {a sz:Nat} (hm:∀ i,(m i).length=sz) (hC:C.length=a * sz):∀ j,(appC m C j).length=(a+j) * sz
 | 0=>hC
 | j+1=>by rw [appC,ya5,zeu hm hC j,hm,← Nat.succ_mul];rfl
theorem zix:∀ a b:List AV,zbr a=true→zbr b=true→zbr (a++b)=true
 | [],b,_,h=>h
 | v::a,b,h1,h2=>by
   unfold zbr at h1
   show zbr (v::(a++b))=true
   unfold zbr
   split at h1
   ·first|exact zix a b h1 h2|(rename_i hv;rw [hv];exact zix a b h1 h2)|fail
   ·cases h1
theorem zeq {α:Type} {f:α→List AV} (hf:∀ x,zbr (f x)=true):∀ l:List α,zbr (l.flatMap f)=true
 | []=>rfl
 | x::l=>by rw [ya6];exact zix _ _ (hf x) (zeq hf l)
def mkI (i:Nat):Int:=((8000024+i:Nat):Int)
def mkFc (i:Nat):Fct:=⟨mkB i,0,0⟩
def mkBd (i:Nat):Bnd:=⟨mkB i,0⟩
def mkFn (i:Nat):Fnc:=⟨mkB i,0,[]⟩
theorem zo7 (i:Nat) (hi:i<12) (H:Heap):VDet Tryz.prog 84 [.int .i64 1,.int .i64 (i:Nat)] H (.int .i64 (mkI i)):=mark_c i (by omega) H
theorem zl7 (i:Nat) (hi:i<12) (H:Heap):VDet Tryz.prog 85 [.int .i64 1,.int .i64 (i:Nat)] H (.agg (mkFc i).cells):=by
 have h1:=fun H=>zdv i hi H
 show VDet _ _ _ _ (.agg [.str (mkB i),.int .i64 0,.int .i64 0])
 generalize mkB i=s at *
 refine fdD Tryz.func85 ⟨rfl,rfl,rfl⟩ fun hcl hbl=>?_
 (repeat' ((conv=>whnf);(first|refine yab _ (h1 _) ?_|fail)));conv=>whnf
 exact ya1 (by simp [below,zaa]) (by exact yae _)
theorem zl8 (i:Nat) (hi:i<12) (H:Heap):VDet Tryz.prog 88 [.int .i64 1,.int .i64 (i:Nat)] H (.agg (mkBd i).cells):=by
 have h1:=fun H=>zdv i hi H
 show VDet _ _ _ _ (.agg [.str (mkB i),.int .i64 0])
 generalize mkB i=s at *
 refine fdD Tryz.func88 ⟨rfl,rfl,rfl⟩ fun hcl hbl=>?_
 (repeat' ((conv=>whnf);(first|refine yab _ (h1 _) ?_|fail)));conv=>whnf
 exact ya1 (by simp [below,zaa]) (by exact yae _)
theorem zl5 (i:Nat) (hi:i<12) (H:Heap):VDet Tryz.prog 87 [.int .i64 1,.int .i64 (i:Nat)] H (.agg (mkFn i).cells):=by
 have h1:=fun H=>zdv i hi H
 show VDet _ _ _ _ (.agg [.str (mkB i),.int .i64 0,.sl none 0 []])
 generalize mkB i=s at *
 refine fdD Tryz.func87 ⟨rfl,rfl,rfl⟩ fun hcl hbl=>?_
 (repeat' ((conv=>whnf);(first|refine yab _ (h1 _) ?_|fail)));conv=>whnf
 exact ya1 (by simp [below,zaa]) (by (repeat' (first|exact trivial|refine yb3 ?_ ?_|exact yae _|exact zal|refine zbm ?_|fail));done)
def mks {α:Type} (f:α→List AV) (m:Nat→α) (i:Nat):List AV:=(List.range i).flatMap fun j=>f (m j)
theorem mks_succ {α:Type} (f:α→List AV) (m:Nat→α) (i:Nat):mks f m (i+1)=mks f m i++f (m i):=by
 unfold mks
 rw [List.range_succ,ybx]
 simp
theorem zmj {α:Type} (f:α→List AV) (m:Nat→α) (C:List AV):∀ j,appC (fun i=>f (m i)) C j=C++mks f m j
 | 0=>(yat C).symm
 | j+1=>by rw [appC,zmj f m C j,mks_succ,ybe]
theorem zx9 {α:Type} {f:α→List AV} {m:Nat→α} (n:Nat) (h:∀ x,zaa n (f x)) (i:Nat):zaa n (mks f m i):=za9 _ fun j=>h (m j)
def lnU (f:Fnc):List AV:=[.str f.nm,.int .i64 f.ar,.sk f.vl.length (f.vl.length+12) (f.vl.flatMap enc64++mks enc64 mkI 12)]
theorem lnU_size (f:Fnc):(lnU f).length=3:=rfl
theorem lnU_wk (f:Fnc):WkL (lnU f) f.cells:=⟨yae _,yae _,wk_sk _ _ _ _,trivial⟩
theorem zyd:∀ l:List Fnc,WkL (l.flatMap lnU) (l.flatMap Fnc.cells)
 | []=>trivial
 | x::l=>by rw [ya6,ya6];exact WkL.app (lnU_wk x) (zyd l)
theorem lnFnc_ex (x:Fnc):∃ v s,∃ z:List Int,x.cells=[.str v,.int .i64 s,.sl none z.length (z.flatMap enc64)]∧lnU x=[.str v,.int .i64 s,.sk z.length (z.length+12) (z.flatMap enc64++mks enc64 mkI 12)]:=by
 obtain ⟨u,v,z⟩:=x
 exact ⟨u,v,z,rfl,rfl⟩
def lnM (m:Mdl):List AV:=[.int .u8 m.kind,.int .i64 m.size,.sk m.rel.length (m.rel.length+12) (m.rel.flatMap enc64++mks enc64 mkI 12),.int .i64 m.loop,.sk m.facts.length (m.facts.length+12) (m.facts.flatMap Fct.cells++mks Fct.cells mkFc 12),.sk m.funcs.length (m.funcs.length+12) (m.funcs.flatMap lnU++mks Fnc.cells mkFn 12),.sk m.binds.length (m.binds.length+12) (m.binds.flatMap Bnd.cells++mks Bnd.cells mkBd 12)]
theorem zsq {n m:Nat} {l l' r:List AV} (h:WkL l l'):Wk (.sk n m (l++r)) (.sl none n l'):=Wk.trans (wk_sk n m l r) (zob h)
theorem zg2 (m:Mdl):WkL (lnM m) m.cells:=⟨yae _,yae _,wk_sk _ _ _ _,yae _,wk_sk _ _ _ _,zsq (zyd _),wk_sk _ _ _ _,trivial⟩
structure Mdl.Few (m:Mdl):Prop where
 rel:m.rel.length≤17592186044404
 facts:m.facts.length≤1000000
 funcs:m.funcs.length≤1000000
 binds:m.binds.length≤1000000
 vals:∀ f∈m.funcs,f.vl.length≤17592186044404
theorem sb3 (u:ByteArray) (v z:Int):(u.toList==u.toList&&(v==v&&(z==z&&true)))=true:=by simp
theorem sb2 (u:ByteArray) (v:Int):(u.toList==u.toList&&(v==v&&true))=true:=by simp
theorem zlr (l:List Int) (hl:l.length≤17592186044404) (H:Heap):VDet Tryz.prog 62 [.sl none l.length (l.flatMap enc64),.sl none l.length (l.flatMap enc64)] H (.bool true):=by
 refine fdD Tryz.func62 ⟨rfl,rfl,rfl⟩ fun hcl hbl=>?_
 (repeat' ((conv=>whnf);(first|(refine yai ?_;first|refine yas ?_|refine yar (by omega) ?_|fail)|fail)));conv=>whnf
 refine zam Tryz.E0 zaf (σ:=Nat) (fun j=>j≤l.length) (fun j=>l.length-j) (fun j=>[(5,.v (.int .i64 j))]) (fun _=>_) _ 0 rfl hcl [0,1] rfl (yah _) ⟨⟨_,rfl,yae _⟩,trivial⟩ rfl (fun _ _=>rfl) ?_
 intro j hj
 rcases yag j l.length with hlt|hge
 ·obtain ⟨u,q1⟩:∃ u,enc64 (l.getD j 0)=[.int .i64 u]:=⟨_,rfl⟩
  (repeat' ((conv=>whnf);(first|(refine yai ?_;first|refine yaq (beq_self_eq_true _) ?_|refine yas ?_|refine yar (by omega) ?_|fail)|(refine zac _ _ Cst.h Cst.h ?_ ?_;· omega)|(refine yaf ?_ ?_;· first|kernel_rfl|omega|exact yaa _ _|fail)|refine SegN.nthE 0 j rfl (by omega) zd1 q1 ?_|refine zad [] ?_|fail)));conv=>whnf
  (refine ⟨⟨j+1,by show j+1≤_;omega,by omega,?_,.inl ⟨rfl,rfl⟩,rfl,_,rfl,?_⟩⟩;rotate_left 1;exact .inl rfl;exact ⟨⟨_,rfl,yae _⟩,trivial⟩)
 ·have hje:j=l.length:=by omega
  subst hje
  (repeat' ((conv=>whnf);(first|refine zah (by omega) ?_|fail)));conv=>whnf
  exact eT trivial
theorem zqp (l:List Fct) (hl:l.length≤1000000) (H:Heap):VDet Tryz.prog 63 [.sl none l.length (l.flatMap Fct.cells),.sl none l.length (l.flatMap Fct.cells)] H (.bool true):=by
 refine fdD Tryz.func63 ⟨rfl,rfl,rfl⟩ fun hcl hbl=>?_
 (repeat' ((conv=>whnf);(first|(refine yai ?_;first|refine yas ?_|refine yar (by omega) ?_|fail)|fail)));conv=>whnf
 refine zam Tryz.E0 zaf (σ:=Nat) (fun j=>j≤l.length) (fun j=>l.length-j) (fun j=>[(5,.v (.int .i64 j))]) (fun _=>_) _ 0 rfl hcl [0,1] rfl (yah _) ⟨⟨_,rfl,yae _⟩,trivial⟩ rfl (fun _ _=>rfl) ?_
 intro j hj
 rcases yag j l.length with hlt|hge
 ·obtain ⟨u,v,z,-,q1⟩:=fct_ex (f:=l.getD j fct0) rfl
  (repeat' ((conv=>whnf);(first|(refine yai ?_;first|refine yaq (sb3 _ _ _) ?_|refine yas ?_|refine yar (by omega) ?_|fail)|(refine zac _ _ Cst.h Cst.h ?_ ?_;· omega)|(refine yaf ?_ ?_;· first|kernel_rfl|omega|exact yaa _ _|fail)|refine SegN.nthE fct0 j rfl (by omega) zbt q1 ?_|refine zad [] ?_|fail)));conv=>whnf
  (refine ⟨⟨j+1,by show j+1≤_;omega,by omega,?_,.inl ⟨rfl,rfl⟩,rfl,_,rfl,?_⟩⟩;rotate_left 1;exact .inl rfl;exact ⟨⟨_,rfl,yae _⟩,trivial⟩)
 ·have hje:j=l.length:=by omega
  subst hje
  (repeat' ((conv=>whnf);(first|refine zah (by omega) ?_|fail)));conv=>whnf
  exact eT trivial
theorem zqr (l:List Bnd) (hl:l.length≤1000000) (H:Heap):VDet Tryz.prog 65 [.sl none l.length (l.flatMap Bnd.cells),.sl none l.length (l.flatMap Bnd.cells)] H (.bool true):=by
 refine fdD Tryz.func65 ⟨rfl,rfl,rfl⟩ fun hcl hbl=>?_
 (repeat' ((conv=>whnf);(first|(refine yai ?_;first|refine yas ?_|refine yar (by omega) ?_|fail)|fail)));conv=>whnf
 refine zam Tryz.E0 zaf (σ:=Nat) (fun j=>j≤l.length) (fun j=>l.length-j) (fun j=>[(5,.v (.int .i64 j))]) (fun _=>_) _ 0 rfl hcl [0,1] rfl (yah _) ⟨⟨_,rfl,yae _⟩,trivial⟩ rfl (fun _ _=>rfl) ?_
 intro j hj
 rcases yag j l.length with hlt|hge
 ·obtain ⟨u,v,-,q1⟩:=bnd_ex (f:=l.getD j bnd0) rfl
  (repeat' ((conv=>whnf);(first|(refine yai ?_;first|refine yaq (sb2 _ _) ?_|refine yas ?_|refine yar (by omega) ?_|fail)|(refine zac _ _ Cst.h Cst.h ?_ ?_;· omega)|(refine yaf ?_ ?_;· first|kernel_rfl|omega|exact yaa _ _|fail)|refine SegN.nthE bnd0 j rfl (by omega) zet q1 ?_|refine zad [] ?_|fail)));conv=>whnf
  (refine ⟨⟨j+1,by show j+1≤_;omega,by omega,?_,.inl ⟨rfl,rfl⟩,rfl,_,rfl,?_⟩⟩;rotate_left 1;exact .inl rfl;exact ⟨⟨_,rfl,yae _⟩,trivial⟩)
 ·have hje:j=l.length:=by omega
  subst hje
  (repeat' ((conv=>whnf);(first|refine zah (by omega) ?_|fail)));conv=>whnf
  exact eT trivial
theorem zib (x:Fnc) (hx:x.vl.length≤17592186044404) (H:Heap):VDet Tryz.prog 94 [.agg x.cells,.agg x.cells] H (.bool true):=by
 have h1:=fun H=>zlr x.vl hx H
 obtain ⟨u,v,z⟩:=x
 unfold Fnc.cells
 simp only at h1 ⊢
 generalize z.flatMap enc64=c at *
 refine fdD Tryz.func94 ⟨rfl,rfl,rfl⟩ fun hcl hbl=>?_
 (repeat' ((conv=>whnf);(first|refine yaq (beq_self_eq_true _) ?_|refine yab _ (h1 _) ?_|fail)));conv=>whnf
 exact eT trivial
theorem zqn (l:List Fnc) (hl:l.length≤1000000) (h:∀ x∈l,x.vl.length≤17592186044404) (H:Heap):VDet Tryz.prog 64 [.sl none l.length (l.flatMap Fnc.cells),.sl none l.length (l.flatMap Fnc.cells)] H (.bool true):=by
 refine fdD Tryz.func64 ⟨rfl,rfl,rfl⟩ fun hcl hbl=>?_
 (repeat' ((conv=>whnf);(first|(refine yai ?_;first|refine yas ?_|refine yar (by omega) ?_|fail)|fail)));conv=>whnf
 refine zam Tryz.E0 zaf (σ:=Nat) (fun j=>j≤l.length) (fun j=>l.length-j) (fun j=>[(5,.v (.int .i64 j))]) (fun _=>_) _ 0 rfl hcl [0,1] rfl (yah _) ⟨⟨_,rfl,yae _⟩,trivial⟩ rfl (fun _ _=>rfl) ?_
 intro j hj
 rcases yag j l.length with hlt|hge
 ·have hx:=fun H=>zib (l.getD j fnc0) (h _ (getD_memT l j fnc0 hlt)) H
  obtain ⟨u,v,z,-,q1⟩:=fnc_ex (f:=l.getD j fnc0) rfl
  rw [q1] at hx
  (repeat' ((conv=>whnf);(first|(refine yai ?_;first|refine yas ?_|refine yaq rfl ?_|refine yar (by omega) ?_|fail)|(refine zac _ _ Cst.h Cst.h ?_ ?_;· omega)|(refine yaf ?_ ?_;· first|kernel_rfl|omega|exact yaa _ _|fail)|refine yan _ (fun _ hq X=>hx _) ?_|refine SegN.nthE fnc0 j rfl (by omega) zgr q1 ?_|refine zad [] ?_|fail)));conv=>whnf
  (refine ⟨⟨j+1,by show j+1≤_;omega,by omega,?_,.inl ⟨rfl,rfl⟩,rfl,_,rfl,?_⟩⟩;rotate_left 1;exact .inl rfl;exact ⟨⟨_,rfl,yae _⟩,trivial⟩)
 ·have hje:j=l.length:=by omega
  subst hje
  (repeat' ((conv=>whnf);(first|refine zah (by omega) ?_|fail)));conv=>whnf
  exact eT trivial
theorem zg9 (m:Mdl) (hm:m.Few) (H:Heap):VDet Tryz.prog 24 [.agg m.cells,.agg m.cells] H (.bool true):=by
 have h1:=fun H=>zlr m.rel hm.rel H
 have h2:=fun H=>zqp m.facts hm.facts H
 have h3:=fun H=>zqn m.funcs hm.funcs hm.vals H
 have h4:=fun H=>zqr m.binds hm.binds H
 unfold Mdl.cells
 generalize m.rel.flatMap enc64=c1 at *
 generalize m.facts.flatMap Fct.cells=c2 at *
 generalize m.funcs.flatMap Fnc.cells=c3 at *
 generalize m.binds.flatMap Bnd.cells=c4 at *
 refine fdD Tryz.func24 ⟨rfl,rfl,rfl⟩ fun hcl hbl=>?_
 (repeat' ((conv=>whnf);(first|(refine yai ?_;first|refine yaq (beq_self_eq_true _) ?_|refine yaq rfl ?_|fail)|(refine ybk ?_;first|refine yab _ (h1 _) ?_|refine yab _ (h2 _) ?_|refine yab _ (h3 _) ?_|refine yab _ (h4 _) ?_|fail)|fail)));conv=>whnf
 exact eT trivial
theorem zjn {α:Type} (f:α→List AV) (m:Nat→α) (l:List α):l.flatMap f++mks f m 12=(l++(List.range 12).map m).flatMap f:=by
 rw [ybx]
 congr 1
theorem zf1 {k:Int→Prop} {n i:Nat} (h:i≤12) (a:k i):EqN (IntKind.i64.wrap (((n+i:Nat):Int)-(n:Int))) k:=by
 refine yck (by omega) ?_
 rw [show ((n+i:Nat):Int)-(n:Int)=i by omega]
 exact a
theorem zuk {α:Type} (m:Nat→α) (d:α) (l:List α) (j:Nat) (h:j<l.length):(l++(List.range 12).map m).getD j d=l.getD j d:=by
 rw [ybp,yaj h,← ybp]
theorem zuj {α:Type} (m:Nat→α) (d:α) (l:List α) (i:Nat) (h:i<12):(l++(List.range 12).map m).getD (l.length+i) d=m i:=by
 rw [ybp,yam (by omega),ybo,ya7,ydc h]
 rfl
theorem zn4 {α:Type} (m:Nat→α) (l:List α):(l++(List.range 12).map m).length=l.length+12:=by simp
theorem zmc (l:List Int) (hl:l.length≤17592186044404) (H:Heap):VDet Tryz.prog 49 [.sk l.length (l.length+12) (l.flatMap enc64++mks enc64 mkI 12),.sl none l.length (l.flatMap enc64)] H (.bool true):=by
 rw [zjn]
 have g1:=fun j h=>zuk mkI (0:Int) l j h
 have g2:=fun i h=>zuj mkI (0:Int) l i h
 have gl:=zn4 mkI l
 generalize l++(List.range 12).map mkI=A at *
 refine fdD Tryz.func49 ⟨rfl,rfl,rfl⟩ fun hcl hbl=>?_
 (repeat' ((conv=>whnf);(first|(refine OrN.r ?_;(conv=>whnf);refine yc7 (l.length+12) (by omega) ?_;(conv=>whnf);refine yaf (by omega) ?_)|(refine yai ?_;first|refine yas ?_|refine yar (by omega) ?_|fail)|refine yck (by omega) ?_|fail)));conv=>whnf
 refine zam Tryz.E0 zaf (σ:=Nat) (fun j=>j≤l.length+12) (fun j=>l.length+12-j) (fun j=>[(6,.v (.int .i64 j))]) (fun _=>_) _ 0 rfl hcl [1,5] rfl (yah _) ⟨⟨_,rfl,yae _⟩,trivial⟩ rfl (fun _ _=>rfl) ?_
 intro j hj
 rcases yag j (l.length+12) with hlt|hge
 ·rcases yag j l.length with h1|h1
  ·have e1:=g1 j h1
   obtain ⟨u,q1⟩:∃ u,enc64 (l.getD j 0)=[.int .i64 u]:=⟨_,rfl⟩
   have qA:=q1
   rw [← e1] at qA
   (repeat' ((conv=>whnf);(first|(refine yai ?_;first|refine yaq (beq_self_eq_true _) ?_|refine yas ?_|refine yar (by omega) ?_|refine zah (by omega) ?_|fail)|(refine zac _ _ Cst.h Cst.h ?_ ?_;· omega)|(refine yaf ?_ ?_;· first|kernel_rfl|omega|exact yaa _ _|fail)|refine SegN.nthE 0 j rfl (by omega) zd1 qA ?_|refine SegN.nthE 0 j rfl (by omega) zd1 q1 ?_|refine zad [] ?_|fail)));conv=>whnf
   (refine ⟨⟨j+1,by show j+1≤_;omega,by omega,?_,.inl ⟨rfl,rfl⟩,rfl,_,rfl,?_⟩⟩;rotate_left 1;exact .inl rfl;exact ⟨⟨_,rfl,yae _⟩,trivial⟩)
  ·obtain ⟨i,rfl⟩:∃ i,j=l.length+i:=⟨j-l.length,by omega⟩
   have hi:i<12:=by omega
   have e1:=g2 i hi
   have hm:=fun H=>zo7 i hi H
   have qA:enc64 (A.getD (l.length+i) 0)=[.int .i64 (mkI i)]:=by rw [e1];rfl
   generalize mkI i=mi at qA hm
   (repeat' ((conv=>whnf);(first|(refine yai ?_;first|refine yaq (beq_self_eq_true _) ?_|refine yas ?_|refine yar (by omega) ?_|refine zah (by omega) ?_|fail)|(refine yct ?_;first|refine zf1 (by omega) ?_|(refine zac _ _ Cst.h Cst.h ?_ ?_;· omega)|fail)|(refine yaf ?_ ?_;· first|kernel_rfl|omega|exact yaa _ _|fail)|refine yan _ (fun _ hq X=>hm _) ?_|refine SegN.nthE 0 (l.length+i) rfl (by omega) zd1 qA ?_|refine zad [] ?_|fail)));conv=>whnf
   (refine ⟨⟨l.length+i+1,by show l.length+i+1≤_;omega,by omega,?_,.inl ⟨rfl,rfl⟩,rfl,_,rfl,?_⟩⟩;rotate_left 1;exact .inl rfl;exact ⟨⟨_,rfl,yae _⟩,trivial⟩)
 ·have hje:j=l.length+12:=by omega
  subst hje
  (repeat' ((conv=>whnf);(first|refine zah (by omega) ?_|fail)));conv=>whnf
  exact eT trivial
theorem zru (l:List Fct) (hl:l.length≤1000000) (H:Heap):VDet Tryz.prog 50 [.sk l.length (l.length+12) (l.flatMap Fct.cells++mks Fct.cells mkFc 12),.sl none l.length (l.flatMap Fct.cells)] H (.bool true):=by
 rw [zjn]
 have g1:=fun j h=>zuk mkFc (fct0:Fct) l j h
 have g2:=fun i h=>zuj mkFc (fct0:Fct) l i h
 have gl:=zn4 mkFc l
 generalize l++(List.range 12).map mkFc=A at *
 refine fdD Tryz.func50 ⟨rfl,rfl,rfl⟩ fun hcl hbl=>?_
 (repeat' ((conv=>whnf);(first|(refine OrN.r ?_;(conv=>whnf);refine yc7 (l.length+12) (by omega) ?_;(conv=>whnf);refine yaf (by omega) ?_)|(refine yai ?_;first|refine yas ?_|refine yar (by omega) ?_|fail)|refine yck (by omega) ?_|fail)));conv=>whnf
 refine zam Tryz.E0 zaf (σ:=Nat) (fun j=>j≤l.length+12) (fun j=>l.length+12-j) (fun j=>[(6,.v (.int .i64 j))]) (fun _=>_) _ 0 rfl hcl [1,5] rfl (yah _) ⟨⟨_,rfl,yae _⟩,trivial⟩ rfl (fun _ _=>rfl) ?_
 intro j hj
 rcases yag j (l.length+12) with hlt|hge
 ·rcases yag j l.length with h1|h1
  ·have e1:=g1 j h1
   obtain ⟨u,v,z,-,q1⟩:=fct_ex (f:=l.getD j fct0) rfl
   have qA:=q1
   rw [← e1] at qA
   (repeat' ((conv=>whnf);(first|(refine yai ?_;first|refine yaq (sb3 _ _ _) ?_|refine yas ?_|refine yar (by omega) ?_|refine zah (by omega) ?_|fail)|(refine zac _ _ Cst.h Cst.h ?_ ?_;· omega)|(refine yaf ?_ ?_;· first|kernel_rfl|omega|exact yaa _ _|fail)|refine SegN.nthE fct0 j rfl (by omega) zbt qA ?_|refine SegN.nthE fct0 j rfl (by omega) zbt q1 ?_|refine zad [] ?_|fail)));conv=>whnf
   (refine ⟨⟨j+1,by show j+1≤_;omega,by omega,?_,.inl ⟨rfl,rfl⟩,rfl,_,rfl,?_⟩⟩;rotate_left 1;exact .inl rfl;exact ⟨⟨_,rfl,yae _⟩,trivial⟩)
  ·obtain ⟨i,rfl⟩:∃ i,j=l.length+i:=⟨j-l.length,by omega⟩
   have hi:i<12:=by omega
   have e1:=g2 i hi
   have hm:∀ H,VDet Tryz.prog 85 [.int .i64 1,.int .i64 (i:Nat)] H (.agg [.str (mkB i),.int .i64 0,.int .i64 0]):=fun H=>zl7 i hi H
   have qA:(mkFc i).cells=[.str (mkB i),.int .i64 0,.int .i64 0]:=rfl
   rw [← e1] at qA
   generalize mkB i=sj at *
   (repeat' ((conv=>whnf);(first|(refine yai ?_;first|refine yaq (sb3 _ _ _) ?_|refine yas ?_|refine yar (by omega) ?_|refine zah (by omega) ?_|fail)|(refine yct ?_;first|refine zf1 (by omega) ?_|(refine zac _ _ Cst.h Cst.h ?_ ?_;· omega)|fail)|(refine yaf ?_ ?_;· first|kernel_rfl|omega|exact yaa _ _|fail)|refine yan _ (fun _ hq X=>hm _) ?_|refine SegN.nthE fct0 (l.length+i) rfl (by omega) zbt qA ?_|refine zad [] ?_|fail)));conv=>whnf
   (refine ⟨⟨l.length+i+1,by show l.length+i+1≤_;omega,by omega,?_,.inl ⟨rfl,rfl⟩,rfl,_,rfl,?_⟩⟩;rotate_left 1;exact .inl rfl;exact ⟨⟨_,rfl,yae _⟩,trivial⟩)
 ·have hje:j=l.length+12:=by omega
  subst hje
  (repeat' ((conv=>whnf);(first|refine zah (by omega) ?_|fail)));conv=>whnf
  exact eT trivial
theorem zrv (l:List Bnd) (hl:l.length≤1000000) (H:Heap):VDet Tryz.prog 52 [.sk l.length (l.length+12) (l.flatMap Bnd.cells++mks Bnd.cells mkBd 12),.sl none l.length (l.flatMap Bnd.cells)] H (.bool true):=by
 rw [zjn]
 have g1:=fun j h=>zuk mkBd (bnd0:Bnd) l j h
 have g2:=fun i h=>zuj mkBd (bnd0:Bnd) l i h
 have gl:=zn4 mkBd l
 generalize l++(List.range 12).map mkBd=A at *
 refine fdD Tryz.func52 ⟨rfl,rfl,rfl⟩ fun hcl hbl=>?_
 (repeat' ((conv=>whnf);(first|(refine OrN.r ?_;(conv=>whnf);refine yc7 (l.length+12) (by omega) ?_;(conv=>whnf);refine yaf (by omega) ?_)|(refine yai ?_;first|refine yas ?_|refine yar (by omega) ?_|fail)|refine yck (by omega) ?_|fail)));conv=>whnf
 refine zam Tryz.E0 zaf (σ:=Nat) (fun j=>j≤l.length+12) (fun j=>l.length+12-j) (fun j=>[(6,.v (.int .i64 j))]) (fun _=>_) _ 0 rfl hcl [1,5] rfl (yah _) ⟨⟨_,rfl,yae _⟩,trivial⟩ rfl (fun _ _=>rfl) ?_
 intro j hj
 rcases yag j (l.length+12) with hlt|hge
 ·rcases yag j l.length with h1|h1
  ·have e1:=g1 j h1
   obtain ⟨u,v,-,q1⟩:=bnd_ex (f:=l.getD j bnd0) rfl
   have qA:=q1
   rw [← e1] at qA
   (repeat' ((conv=>whnf);(first|(refine yai ?_;first|refine yaq (sb2 _ _) ?_|refine yas ?_|refine yar (by omega) ?_|refine zah (by omega) ?_|fail)|(refine zac _ _ Cst.h Cst.h ?_ ?_;· omega)|(refine yaf ?_ ?_;· first|kernel_rfl|omega|exact yaa _ _|fail)|refine SegN.nthE bnd0 j rfl (by omega) zet qA ?_|refine SegN.nthE bnd0 j rfl (by omega) zet q1 ?_|refine zad [] ?_|fail)));conv=>whnf
   (refine ⟨⟨j+1,by show j+1≤_;omega,by omega,?_,.inl ⟨rfl,rfl⟩,rfl,_,rfl,?_⟩⟩;rotate_left 1;exact .inl rfl;exact ⟨⟨_,rfl,yae _⟩,trivial⟩)
  ·obtain ⟨i,rfl⟩:∃ i,j=l.length+i:=⟨j-l.length,by omega⟩
   have hi:i<12:=by omega
   have e1:=g2 i hi
   have hm:∀ H,VDet Tryz.prog 88 [.int .i64 1,.int .i64 (i:Nat)] H (.agg [.str (mkB i),.int .i64 0]):=fun H=>zl8 i hi H
   have qA:(mkBd i).cells=[.str (mkB i),.int .i64 0]:=rfl
   rw [← e1] at qA
   generalize mkB i=sj at *
   (repeat' ((conv=>whnf);(first|(refine yai ?_;first|refine yaq (sb2 _ _) ?_|refine yas ?_|refine yar (by omega) ?_|refine zah (by omega) ?_|fail)|(refine yct ?_;first|refine zf1 (by omega) ?_|(refine zac _ _ Cst.h Cst.h ?_ ?_;· omega)|fail)|(refine yaf ?_ ?_;· first|kernel_rfl|omega|exact yaa _ _|fail)|refine yan _ (fun _ hq X=>hm _) ?_|refine SegN.nthE bnd0 (l.length+i) rfl (by omega) zet qA ?_|refine zad [] ?_|fail)));conv=>whnf
   (refine ⟨⟨l.length+i+1,by show l.length+i+1≤_;omega,by omega,?_,.inl ⟨rfl,rfl⟩,rfl,_,rfl,?_⟩⟩;rotate_left 1;exact .inl rfl;exact ⟨⟨_,rfl,yae _⟩,trivial⟩)
 ·have hje:j=l.length+12:=by omega
  subst hje
  (repeat' ((conv=>whnf);(first|refine zah (by omega) ?_|fail)));conv=>whnf
  exact eT trivial
def lnA {α:Type} (f:α→List AV) (g:Nat→List AV):α ⊕ Nat→List AV
 | .inl x=>f x
 | .inr i=>g i
def lnAl {α:Type} (l:List α):List (α ⊕ Nat):=l.map .inl++(List.range 12).map .inr
theorem znf {α:Type} (f:α→List AV) (g:Nat→List AV) (l:List α):l.flatMap f++(List.range 12).flatMap g=(lnAl l).flatMap (lnA f g):=by
 unfold lnAl
 rw [ybx,List.flatMap_map,List.flatMap_map]
 rfl
theorem zyh {α:Type} (d:α ⊕ Nat) (d0:α) (l:List α) (j:Nat) (h:j<l.length):(lnAl l).getD j d=.inl (l.getD j d0):=by
 unfold lnAl
 rw [ybp,yaj (by rw [yav];exact h),ya7,ybp,yal h]
 rfl
theorem zyg {α:Type} (d:α ⊕ Nat) (l:List α) (i:Nat) (h:i<12):(lnAl l).getD (l.length+i) d=.inr i:=by
 unfold lnAl
 rw [ybp,yam (by rw [yav];omega),yav,ybo,ya7,ydc h]
 rfl
theorem zrk {α:Type} (l:List α):(lnAl l).length=l.length+12:=by simp [lnAl]
theorem zne {α:Type} {f:α→List AV} {g:Nat→List AV} {sz:Nat} (hf:∀ x,(f x).length=sz) (hg:∀ i,(g i).length=sz):∀ x,(lnA f g x).length=sz
 | .inl x=>hf x
 | .inr i=>hg i
theorem zv8 (f:Fnc) (hf:f.vl.length≤17592186044404) (H:Heap):VDet Tryz.prog 93 [.agg (lnU f),.agg f.cells] H (.bool true):=by
 have h1:∀ H,VDet Tryz.prog 94 [.agg (lnU f),.agg f.cells] H (.bool true):=fun H=>zbs (zib f hf H) ⟨zbm (lnU_wk f),yae _,trivial⟩
 have h2:=fun H=>zmc f.vl hf H
 obtain ⟨u,v,z⟩:=f
 unfold lnU Fnc.cells at *
 simp only at h1 h2 ⊢
 generalize z.flatMap enc64++mks enc64 mkI 12=C at *
 generalize z.flatMap enc64=c at *
 refine fdD Tryz.func93 ⟨rfl,rfl,rfl⟩ fun hcl hbl=>?_
 (repeat' ((conv=>whnf);(first|refine yaq rfl ?_|(refine ybk ?_;first|refine yab _ (h1 _) ?_|refine yab _ (h2 _) ?_|fail)|fail)));conv=>whnf
 exact eT trivial
theorem zrs (l:List Fnc) (hl:l.length≤1000000) (h:∀ x∈l,x.vl.length≤17592186044404) (H:Heap):VDet Tryz.prog 51 [.sk l.length (l.length+12) (l.flatMap lnU++mks Fnc.cells mkFn 12),.sl none l.length (l.flatMap Fnc.cells)] H (.bool true):=by
 rw [show mks Fnc.cells mkFn 12=(List.range 12).flatMap (fun i=>Fnc.cells (mkFn i)) from rfl,znf]
 have g1:=fun j h=>zyh (.inr 0) (fnc0:Fnc) l j h
 have g2:=fun i h=>zyg (.inr 0) l i h
 have gl:=zrk l
 have hsz:=zne (f:=lnU) (g:=(fun i=>Fnc.cells (mkFn i))) (lnU_size) (fun i=>zgr _)
 have hl1:∀ x,lnA lnU (fun i=>Fnc.cells (mkFn i)) (.inl x)=lnU x:=fun _=>rfl
 have hl2:∀ i,lnA lnU (fun i=>Fnc.cells (mkFn i)) (.inr i)=(fun i=>Fnc.cells (mkFn i)) i:=fun _=>rfl
 generalize lnAl l=A at *
 generalize lnA lnU (fun i=>Fnc.cells (mkFn i))=LF at *
 refine fdD Tryz.func51 ⟨rfl,rfl,rfl⟩ fun hcl hbl=>?_
 (repeat' ((conv=>whnf);(first|(refine OrN.r ?_;(conv=>whnf);refine yc7 (l.length+12) (by omega) ?_;(conv=>whnf);refine yaf (by omega) ?_)|(refine yai ?_;first|refine yas ?_|refine yar (by omega) ?_|fail)|refine yck (by omega) ?_|fail)));conv=>whnf
 refine zam Tryz.E0 zaf (σ:=Nat) (fun j=>j≤l.length+12) (fun j=>l.length+12-j) (fun j=>[(6,.v (.int .i64 j))]) (fun _=>_) _ 0 rfl hcl [1,5] rfl (yah _) ⟨⟨_,rfl,yae _⟩,trivial⟩ rfl (fun _ _=>rfl) ?_
 intro j hj
 rcases yag j (l.length+12) with hlt|hge
 ·rcases yag j l.length with h1|h1
  ·have e1:=g1 j h1
   have hx:=fun H=>zv8 (l.getD j fnc0) (h _ (getD_memT l j fnc0 h1)) H
   obtain ⟨v,s,z,q1,q2⟩:=lnFnc_ex (l.getD j fnc0)
   have qA:=(hl1 (l.getD j fnc0)).trans q2
   rw [q1,q2] at hx
   rw [← e1] at qA
   (repeat' ((conv=>whnf);(first|(refine yai ?_;first|refine yas ?_|refine yaq rfl ?_|refine yar (by omega) ?_|refine zah (by omega) ?_|fail)|(refine zac _ _ Cst.h Cst.h ?_ ?_;· omega)|(refine yaf ?_ ?_;· first|kernel_rfl|omega|exact yaa _ _|fail)|refine yan _ (fun _ hq X=>hx _) ?_|refine SegN.nthE (.inr 0) j rfl (by omega) hsz qA ?_|refine SegN.nthE fnc0 j rfl (by omega) zgr q1 ?_|refine zad [] ?_|fail)));conv=>whnf
   (refine ⟨⟨j+1,by show j+1≤_;omega,by omega,?_,.inl ⟨rfl,rfl⟩,rfl,_,rfl,?_⟩⟩;rotate_left 1;exact .inl rfl;exact ⟨⟨_,rfl,yae _⟩,trivial⟩)
  ·obtain ⟨i,rfl⟩:∃ i,j=l.length+i:=⟨j-l.length,by omega⟩
   have hi:i<12:=by omega
   have e1:=g2 i hi
   have hm:∀ H,VDet Tryz.prog 87 [.int .i64 1,.int .i64 (i:Nat)] H (.agg [.str (mkB i),.int .i64 0,.sl none 0 []]):=fun H=>zl5 i hi H
   have hs:∀ H,VDet Tryz.prog 94 [.agg [.str (mkB i),.int .i64 0,.sl none 0 []],.agg [.str (mkB i),.int .i64 0,.sl none 0 []]] H (.bool true):=fun H=>zib (mkFn i) (yah _) H
   have qA:LF (.inr i)=[.str (mkB i),.int .i64 0,.sl none 0 []]:=hl2 i
   rw [← e1] at qA
   generalize mkB i=sj at *
   (repeat' ((conv=>whnf);(first|(refine yai ?_;first|refine yas ?_|refine yaq rfl ?_|refine yar (by omega) ?_|refine zah (by omega) ?_|fail)|(refine yct ?_;first|refine zf1 (by omega) ?_|(refine zac _ _ Cst.h Cst.h ?_ ?_;· omega)|fail)|(refine yaf ?_ ?_;· first|kernel_rfl|omega|exact yaa _ _|fail)|(refine ycg ?_;first|refine yan _ (fun _ hq X=>hm _) ?_|refine yan _ (fun _ hq X=>hs _) ?_|fail)|refine SegN.nthE (.inr 0) (l.length+i) rfl (by omega) hsz qA ?_|refine zad [] ?_|fail)));conv=>whnf
   (refine ⟨⟨l.length+i+1,by show l.length+i+1≤_;omega,by omega,?_,.inl ⟨rfl,rfl⟩,rfl,_,rfl,?_⟩⟩;rotate_left 1;exact .inl rfl;exact ⟨⟨_,rfl,yae _⟩,trivial⟩)
 ·have hje:j=l.length+12:=by omega
  subst hje
  (repeat' ((conv=>whnf);(first|refine zah (by omega) ?_|fail)));conv=>whnf
  exact eT trivial
theorem zrr (m:Mdl) (hm:m.Few) (H:Heap):VDet Tryz.prog 15 [.agg (lnM m),.agg m.cells] H (.bool true):=by
 have h0:∀ H,VDet Tryz.prog 24 [.agg (lnM m),.agg m.cells] H (.bool true):=fun H=>zbs (zg9 m hm H) ⟨zbm (zg2 m),yae _,trivial⟩
 have h1:=fun H=>zmc m.rel hm.rel H
 have h2:=fun H=>zru m.facts hm.facts H
 have h3:=fun H=>zrs m.funcs hm.funcs hm.vals H
 have h4:=fun H=>zrv m.binds hm.binds H
 unfold lnM Mdl.cells at *
 generalize m.rel.flatMap enc64++mks enc64 mkI 12=C1 at *
 generalize m.facts.flatMap Fct.cells++mks Fct.cells mkFc 12=C2 at *
 generalize m.funcs.flatMap lnU++mks Fnc.cells mkFn 12=C3 at *
 generalize m.binds.flatMap Bnd.cells++mks Bnd.cells mkBd 12=C4 at *
 generalize m.rel.flatMap enc64=c1 at *
 generalize m.facts.flatMap Fct.cells=c2 at *
 generalize m.funcs.flatMap Fnc.cells=c3 at *
 generalize m.binds.flatMap Bnd.cells=c4 at *
 refine fdD Tryz.func15 ⟨rfl,rfl,rfl⟩ fun hcl hbl=>?_
 (repeat' ((conv=>whnf);(first|refine yaq rfl ?_|(refine ybk ?_;first|refine yab _ (h0 _) ?_|refine yab _ (h1 _) ?_|refine yab _ (h2 _) ?_|refine yab _ (h3 _) ?_|refine yab _ (h4 _) ?_|fail)|fail)));conv=>whnf
 exact eT trivial
theorem zpd (l:List Int) (hl:l.length≤17592186044404) (H:Heap):VCall Tryz.prog 38 [.sl none l.length (l.flatMap enc64)] H fun r H'=>r=.vk H.length l.length (l.length+12)∧H'=H++[.vec 3 1 (l.flatMap enc64++mks enc64 mkI 12)]:=by
 have hml:(l.flatMap enc64).length=l.length * 1:=zaq (f:=enc64) (sz:=1) (fun _=>rfl) l
 have hone:zbr (l.flatMap enc64)=true:=zeq (fun x=>rfl) l
 have hCb:∀ n,zaa n (l.flatMap enc64):=fun n=>za9 l fun x=>by simp [enc64,below,zaa]
 have hmb:∀ n (i:Nat),zaa n (enc64 (mkI i)):=fun n i=>by simp [enc64,below,zaa]
 rw [← zmj]
 generalize l.flatMap enc64=C at *
 refine fdG Tryz.func38 ⟨rfl,rfl,rfl⟩ fun hcl hbl=>?_
 (repeat' ((conv=>whnf);(first|(refine zfz ?_;refine yc7 (l.length+12) (by omega) ?_;refine yaf ⟨rfl,by omega,by dsimp only;omega⟩ (OrN.r ?_))|refine yck (by omega) ?_|refine yaf ⟨rfl,hone,by dsimp only;omega,by dsimp only;omega,by simp only [maxLen];omega⟩ ?_|refine yca _ rfl ?_|fail)));conv=>whnf
 refine zam Tryz.E0 zaf (σ:=Nat) (fun j=>j≤12) (fun j=>12-j) (fun j=>[(3,.v (.vs (H.length+0) (l.length+j))),(4,.v (.int .i64 j))]) (fun j=>[.vec 3 1 (appC (fun i=>enc64 (mkI i)) C j)]) _ 0 rfl hcl [0] rfl (yah _) ⟨⟨_,rfl,Wk.of_eq (by rw [ybv];rfl)⟩,⟨_,rfl,yae _⟩,trivial⟩ rfl (fun _ _=>rfl) ?_
 intro j hj
 have hDl:=zeu (m:=fun i=>enc64 (mkI i)) (fun i=>(rfl:(enc64 (mkI i)).length=1)) hml j
 have hDb:=fun n=>zb0 n (m:=fun i=>enc64 (mkI i)) (hmb n) (hCb n) j
 rcases yag j 12 with hlt|hge
 ·have hm:=fun H=>zo7 j hlt H
  have hns:appC (fun i=>enc64 (mkI i)) C (j+1)=appC (fun i=>enc64 (mkI i)) C j++[.int .i64 (mkI j)]:=rfl
  have hEb:=fun n=>zb0 n (m:=fun i=>enc64 (mkI i)) (hmb n) (hCb n) (j+1)
  have hm:∀ H,VDet Tryz.prog 84 [.int .i64 1,.int .i64 (j:Nat)] H (.int .i64 (mkI j)):=hm
  generalize mkI j=mj at hm hns
  generalize appC (fun i=>enc64 (mkI i)) C j=D at *
  (repeat' ((conv=>whnf);(first|refine yar (by omega) ?_|(refine zac _ _ Cst.h Cst.h ?_ ?_;· omega)|refine yab _ (hm _) ?_|refine yaf ⟨by dsimp only;omega,rfl,rfl,by dsimp only;omega,by simp only [maxLen];omega⟩ ?_|refine yca _ rfl ?_|fail)));conv=>whnf
  rw [← hns]
  (refine ⟨⟨j+1,by show j+1≤_;omega,by omega,?_,.inl ⟨rfl,rfl⟩,rfl,_,rfl,?_⟩⟩;rotate_left 1;exact .inl rfl;exact ⟨⟨_,rfl,yae _⟩,⟨_,rfl,yae _⟩,trivial⟩)
 ·obtain rfl:j=12:=by omega
  (repeat' ((conv=>whnf);(first|refine yau rfl ?_|refine yaf (by omega) ?_|refine yc7 _ rfl ?_|fail)));conv=>whnf
  refine ydu _ (yae _) ⟨rfl,rfl⟩
theorem zvt (l:List Fct) (hl:l.length≤1000000) (H:Heap):VCall Tryz.prog 39 [.sl none l.length (l.flatMap Fct.cells)] H fun r H'=>r=.vk H.length l.length (l.length+12)∧H'=H++[.vec 60 3 (l.flatMap Fct.cells++mks Fct.cells mkFc 12)]:=by
 have hml:(l.flatMap Fct.cells).length=l.length * 3:=zaq (f:=Fct.cells) (sz:=3) (fun _=>rfl) l
 have hone:zbr (l.flatMap Fct.cells)=true:=zeq (fun x=>rfl) l
 have hCb:∀ n,zaa n (l.flatMap Fct.cells):=fun n=>za9 l fun x=>by simp [Fct.cells,below,zaa]
 have hmb:∀ n (i:Nat),zaa n (Fct.cells (mkFc i)):=fun n i=>by simp [Fct.cells,below,zaa]
 rw [← zmj]
 generalize l.flatMap Fct.cells=C at *
 refine fdG Tryz.func39 ⟨rfl,rfl,rfl⟩ fun hcl hbl=>?_
 (repeat' ((conv=>whnf);(first|(refine zfz ?_;refine yc7 (l.length+12) (by omega) ?_;refine yaf ⟨rfl,by omega,by dsimp only;omega⟩ (OrN.r ?_))|refine yck (by omega) ?_|refine yaf ⟨rfl,hone,by dsimp only;omega,by dsimp only;omega,by simp only [maxLen];omega⟩ ?_|refine yca _ rfl ?_|fail)));conv=>whnf
 refine zam Tryz.E0 zaf (σ:=Nat) (fun j=>j≤12) (fun j=>12-j) (fun j=>[(3,.v (.vs (H.length+0) (l.length+j))),(4,.v (.int .i64 j))]) (fun j=>[.vec 60 3 (appC (fun i=>Fct.cells (mkFc i)) C j)]) _ 0 rfl hcl [0] rfl (yah _) ⟨⟨_,rfl,Wk.of_eq (by rw [ybv];rfl)⟩,⟨_,rfl,yae _⟩,trivial⟩ rfl (fun _ _=>rfl) ?_
 intro j hj
 have hDl:=zeu (m:=fun i=>Fct.cells (mkFc i)) (fun i=>(rfl:(Fct.cells (mkFc i)).length=3)) hml j
 have hDb:=fun n=>zb0 n (m:=fun i=>Fct.cells (mkFc i)) (hmb n) (hCb n) j
 rcases yag j 12 with hlt|hge
 ·have hm:=fun H=>zl7 j hlt H
  have hns:appC (fun i=>Fct.cells (mkFc i)) C (j+1)=appC (fun i=>Fct.cells (mkFc i)) C j++[.str (mkB j),.int .i64 0,.int .i64 0]:=rfl
  have hEb:=fun n=>zb0 n (m:=fun i=>Fct.cells (mkFc i)) (hmb n) (hCb n) (j+1)
  have hm:∀ H,VDet Tryz.prog 85 [.int .i64 1,.int .i64 (j:Nat)] H (.agg [.str (mkB j),.int .i64 0,.int .i64 0]):=hm
  generalize mkB j=sj at hm hns
  generalize appC (fun i=>Fct.cells (mkFc i)) C j=D at *
  (repeat' ((conv=>whnf);(first|refine yar (by omega) ?_|(refine zac _ _ Cst.h Cst.h ?_ ?_;· omega)|refine yab _ (hm _) ?_|refine yaf ⟨by dsimp only;omega,rfl,rfl,by dsimp only;omega,by simp only [maxLen];omega⟩ ?_|refine yca _ rfl ?_|fail)));conv=>whnf
  rw [← hns]
  (refine ⟨⟨j+1,by show j+1≤_;omega,by omega,?_,.inl ⟨rfl,rfl⟩,rfl,_,rfl,?_⟩⟩;rotate_left 1;exact .inl rfl;exact ⟨⟨_,rfl,yae _⟩,⟨_,rfl,yae _⟩,trivial⟩)
 ·obtain rfl:j=12:=by omega
  (repeat' ((conv=>whnf);(first|refine yau rfl ?_|refine yaf (by omega) ?_|refine yc7 _ rfl ?_|fail)));conv=>whnf
  refine ydu _ (yae _) ⟨rfl,rfl⟩
theorem zvv (l:List Bnd) (hl:l.length≤1000000) (H:Heap):VCall Tryz.prog 41 [.sl none l.length (l.flatMap Bnd.cells)] H fun r H'=>r=.vk H.length l.length (l.length+12)∧H'=H++[.vec 58 2 (l.flatMap Bnd.cells++mks Bnd.cells mkBd 12)]:=by
 have hml:(l.flatMap Bnd.cells).length=l.length * 2:=zaq (f:=Bnd.cells) (sz:=2) (fun _=>rfl) l
 have hone:zbr (l.flatMap Bnd.cells)=true:=zeq (fun x=>rfl) l
 have hCb:∀ n,zaa n (l.flatMap Bnd.cells):=fun n=>za9 l fun x=>by simp [Bnd.cells,below,zaa]
 have hmb:∀ n (i:Nat),zaa n (Bnd.cells (mkBd i)):=fun n i=>by simp [Bnd.cells,below,zaa]
 rw [← zmj]
 generalize l.flatMap Bnd.cells=C at *
 refine fdG Tryz.func41 ⟨rfl,rfl,rfl⟩ fun hcl hbl=>?_
 (repeat' ((conv=>whnf);(first|(refine zfz ?_;refine yc7 (l.length+12) (by omega) ?_;refine yaf ⟨rfl,by omega,by dsimp only;omega⟩ (OrN.r ?_))|refine yck (by omega) ?_|refine yaf ⟨rfl,hone,by dsimp only;omega,by dsimp only;omega,by simp only [maxLen];omega⟩ ?_|refine yca _ rfl ?_|fail)));conv=>whnf
 refine zam Tryz.E0 zaf (σ:=Nat) (fun j=>j≤12) (fun j=>12-j) (fun j=>[(3,.v (.vs (H.length+0) (l.length+j))),(4,.v (.int .i64 j))]) (fun j=>[.vec 58 2 (appC (fun i=>Bnd.cells (mkBd i)) C j)]) _ 0 rfl hcl [0] rfl (yah _) ⟨⟨_,rfl,Wk.of_eq (by rw [ybv];rfl)⟩,⟨_,rfl,yae _⟩,trivial⟩ rfl (fun _ _=>rfl) ?_
 intro j hj
 have hDl:=zeu (m:=fun i=>Bnd.cells (mkBd i)) (fun i=>(rfl:(Bnd.cells (mkBd i)).length=2)) hml j
 have hDb:=fun n=>zb0 n (m:=fun i=>Bnd.cells (mkBd i)) (hmb n) (hCb n) j
 rcases yag j 12 with hlt|hge
 ·have hm:=fun H=>zl8 j hlt H
  have hns:appC (fun i=>Bnd.cells (mkBd i)) C (j+1)=appC (fun i=>Bnd.cells (mkBd i)) C j++[.str (mkB j),.int .i64 0]:=rfl
  have hEb:=fun n=>zb0 n (m:=fun i=>Bnd.cells (mkBd i)) (hmb n) (hCb n) (j+1)
  have hm:∀ H,VDet Tryz.prog 88 [.int .i64 1,.int .i64 (j:Nat)] H (.agg [.str (mkB j),.int .i64 0]):=hm
  generalize mkB j=sj at hm hns
  generalize appC (fun i=>Bnd.cells (mkBd i)) C j=D at *
  (repeat' ((conv=>whnf);(first|refine yar (by omega) ?_|(refine zac _ _ Cst.h Cst.h ?_ ?_;· omega)|refine yab _ (hm _) ?_|refine yaf ⟨by dsimp only;omega,rfl,rfl,by dsimp only;omega,by simp only [maxLen];omega⟩ ?_|refine yca _ rfl ?_|fail)));conv=>whnf
  rw [← hns]
  (refine ⟨⟨j+1,by show j+1≤_;omega,by omega,?_,.inl ⟨rfl,rfl⟩,rfl,_,rfl,?_⟩⟩;rotate_left 1;exact .inl rfl;exact ⟨⟨_,rfl,yae _⟩,⟨_,rfl,yae _⟩,trivial⟩)
 ·obtain rfl:j=12:=by omega
  (repeat' ((conv=>whnf);(first|refine yau rfl ?_|refine yaf (by omega) ?_|refine yc7 _ rfl ?_|fail)));conv=>whnf
  refine ydu _ (yae _) ⟨rfl,rfl⟩
theorem zvq (l:List ByteArray) (hl:l.length≤1000) (H:Heap):VCall Tryz.prog 9 [.sl none l.length (l.flatMap encSG)] H fun r H'=>r=.vk H.length l.length (l.length+12)∧H'=H++[.vec 9 1 (l.flatMap encSG++mks encSG mkB 12)]:=by
 have hml:(l.flatMap encSG).length=l.length * 1:=zaq (f:=encSG) (sz:=1) (fun _=>rfl) l
 have hone:zbr (l.flatMap encSG)=true:=zeq (fun x=>rfl) l
 have hCb:∀ n,zaa n (l.flatMap encSG):=fun n=>za9 l fun x=>by simp [encSG,below,zaa]
 have hmb:∀ n (i:Nat),zaa n (encSG (mkB i)):=fun n i=>by simp [encSG,below,zaa]
 rw [← zmj]
 generalize l.flatMap encSG=C at *
 refine fdG Tryz.func9 ⟨rfl,rfl,rfl⟩ fun hcl hbl=>?_
 (repeat' ((conv=>whnf);(first|(refine zfz ?_;refine yc7 (l.length+12) (by omega) ?_;refine yaf ⟨rfl,by omega,by dsimp only;omega⟩ (OrN.r ?_))|refine yck (by omega) ?_|refine yaf ⟨rfl,hone,by dsimp only;omega,by dsimp only;omega,by simp only [maxLen];omega⟩ ?_|refine yca _ rfl ?_|fail)));conv=>whnf
 refine zam Tryz.E0 zaf (σ:=Nat) (fun j=>j≤12) (fun j=>12-j) (fun j=>[(3,.v (.vs (H.length+0) (l.length+j))),(4,.v (.int .i64 j))]) (fun j=>[.vec 9 1 (appC (fun i=>encSG (mkB i)) C j)]) _ 0 rfl hcl [0] rfl (yah _) ⟨⟨_,rfl,Wk.of_eq (by rw [ybv];rfl)⟩,⟨_,rfl,yae _⟩,trivial⟩ rfl (fun _ _=>rfl) ?_
 intro j hj
 have hDl:=zeu (m:=fun i=>encSG (mkB i)) (fun i=>(rfl:(encSG (mkB i)).length=1)) hml j
 have hDb:=fun n=>zb0 n (m:=fun i=>encSG (mkB i)) (hmb n) (hCb n) j
 rcases yag j 12 with hlt|hge
 ·have hm:=fun H=>zdv j hlt H
  have hns:appC (fun i=>encSG (mkB i)) C (j+1)=appC (fun i=>encSG (mkB i)) C j++[.str (mkB j)]:=rfl
  have hEb:=fun n=>zb0 n (m:=fun i=>encSG (mkB i)) (hmb n) (hCb n) (j+1)
  have hm:∀ H,VDet Tryz.prog 42 [.int .i64 1,.int .i64 (j:Nat)] H (.str (mkB j)):=hm
  generalize mkB j=sj at hm hns
  generalize appC (fun i=>encSG (mkB i)) C j=D at *
  (repeat' ((conv=>whnf);(first|refine yar (by omega) ?_|(refine zac _ _ Cst.h Cst.h ?_ ?_;· omega)|refine yab _ (hm _) ?_|refine yaf ⟨by dsimp only;omega,rfl,rfl,by dsimp only;omega,by simp only [maxLen];omega⟩ ?_|refine yca _ rfl ?_|fail)));conv=>whnf
  rw [← hns]
  (refine ⟨⟨j+1,by show j+1≤_;omega,by omega,?_,.inl ⟨rfl,rfl⟩,rfl,_,rfl,?_⟩⟩;rotate_left 1;exact .inl rfl;exact ⟨⟨_,rfl,yae _⟩,⟨_,rfl,yae _⟩,trivial⟩)
 ·obtain rfl:j=12:=by omega
  (repeat' ((conv=>whnf);(first|refine yau rfl ?_|refine yaf (by omega) ?_|refine yc7 _ rfl ?_|fail)));conv=>whnf
  refine ydu _ (yae _) ⟨rfl,rfl⟩
def mkO (i:Nat):ByteArray:=zln [35,2,0,0,47,(i:Nat),0,0]
theorem fdiv0 (i k:Nat) (h:i<2 ^ k):((i:Nat):Int).fdiv (2 ^ k)=0:=by
 rw [Int.fdiv_eq_ediv_of_nonneg _ (Int.le_of_lt (Int.pow_pos (by decide)))]
 exact Int.ediv_eq_zero_of_lt (by omega) (by exact_mod_cast h)
theorem zfq (i:Nat) (hi:i<200) (H:Heap):VDet Tryz.prog 42 [.int .i64 2,.int .i64 (i:Nat)] H (.str (mkO i)):=by
 have f1:((i:Nat):Int).fdiv (2 ^ min (8:Int).toNat IntKind.i64.bits)=0:=fdiv0 i 8 (by omega)
 have f2:((i:Nat):Int).fdiv (2 ^ min (16:Int).toNat IntKind.i64.bits)=0:=fdiv0 i 16 (by omega)
 unfold mkO
 refine fdD Tryz.func42 ⟨rfl,rfl,rfl⟩ fun hcl hbl=>?_
 (repeat' ((conv=>whnf);(first|(refine yct ?_;first|refine EqN.mk 0 f1 ?_|refine EqN.mk 0 f2 ?_|(refine zd4 _ _ Cst.h Cst.h rfl ?_ ?_;· (repeat' (first|omega|refine yb3 ?_ ?_|exact zag (by omega)|exact zat (by omega)|refine zbf ?_ ?_|refine zas ?_ ?_|refine za2 ?_ ?_|refine zao ?_ ?_|refine za3 ?_|refine za4 ?_ ?_|refine za5 ?_|refine zag ?_|fail)))|refine zby _ _ (by first|with_reducible rfl|exact Cst.h) (by first|with_reducible rfl|exact Cst.h) ?_|refine EqN.mk _ rfl ?_|fail)|refine yaf (by omega) ?_|fail)));conv=>whnf
 exact ya1 trivial (Wk.of_eq (by
  have e:i % ((2:Int) ^ IntKind.u8.bits).natAbs=i:=Nat.mod_eq_of_lt (by show i<256;omega)
  rw [e]
  rfl))
def mkI2 (i:Nat):Int:=((9000027+i:Nat):Int)
theorem zvn (i:Nat) (hi:i<20000000000000) (H:Heap):VDet Tryz.prog 84 [.int .i64 2,.int .i64 (i:Nat)] H (.int .i64 (mkI2 i)):=by
 refine fdD Tryz.func84 ⟨rfl,rfl,rfl⟩ fun hcl hbl=>?_
 (repeat' ((conv=>whnf);(first|refine yck (by omega) ?_|fail)));conv=>whnf
 exact ya1 trivial (Wk.of_eq (congrArg (AV.int _) (by unfold mkI2;omega)))
theorem zra (i:Nat) (hi:i<200) (H:Heap):VDet Tryz.prog 85 [.int .i64 2,.int .i64 (i:Nat)] H (.agg [.str (mkO i),.int .i64 0,.int .i64 0]):=by
 have h1:=fun H=>zfq i hi H
 generalize mkO i=s at *
 refine fdD Tryz.func85 ⟨rfl,rfl,rfl⟩ fun hcl hbl=>?_
 (repeat' ((conv=>whnf);(first|refine yab _ (h1 _) ?_|fail)));conv=>whnf
 exact ya1 (by simp [below,zaa]) (by exact yae _)
theorem zrb (i:Nat) (hi:i<200) (H:Heap):VDet Tryz.prog 88 [.int .i64 2,.int .i64 (i:Nat)] H (.agg [.str (mkO i),.int .i64 0]):=by
 have h1:=fun H=>zfq i hi H
 generalize mkO i=s at *
 refine fdD Tryz.func88 ⟨rfl,rfl,rfl⟩ fun hcl hbl=>?_
 (repeat' ((conv=>whnf);(first|refine yab _ (h1 _) ?_|fail)));conv=>whnf
 exact ya1 (by simp [below,zaa]) (by exact yae _)
theorem zq9 (i:Nat) (hi:i<200) (H:Heap):VDet Tryz.prog 87 [.int .i64 2,.int .i64 (i:Nat)] H (.agg [.str (mkO i),.int .i64 0,.nils]):=by
 have h1:=fun H=>zfq i hi H
 generalize mkO i=s at *
 refine fdD Tryz.func87 ⟨rfl,rfl,rfl⟩ fun hcl hbl=>?_
 (repeat' ((conv=>whnf);(first|refine yab _ (h1 _) ?_|fail)));conv=>whnf
 exact ya1 (by simp [below,zaa]) (by exact yae _)
def ovr (g:Nat→List AV) (sz:Nat) (l:List AV) (j:Nat):List AV:=(List.range j).flatMap g++l.drop (j * sz)
theorem zx3 {g:Nat→List AV} {sz:Nat} (hg:∀ i,(g i).length=sz) (j:Nat):((List.range j).flatMap g).length=j * sz:=by
 rw [zaq (f:=g) (sz:=sz) hg,List.length_range]
theorem zke {g:Nat→List AV} {sz:Nat} (hg:∀ i,(g i).length=sz) (l:List AV) (j:Nat) (h:j * sz≤l.length):(ovr g sz l j).length=l.length:=by
 unfold ovr
 rw [ya5,zx3 hg,List.length_drop]
 omega
theorem zkd {g:Nat→List AV} {sz:Nat} (hg:∀ i,(g i).length=sz) (l:List AV) (j:Nat) (h:(j+1) * sz≤l.length):setL (ovr g sz l j) (j * sz) (g j)=ovr g sz l (j+1):=by
 have hp:=zx3 hg j
 unfold setL ovr
 rw [List.take_append_of_le_length (by omega),List.take_of_length_le (by omega),hg j,List.drop_append,List.range_succ,ybx,hp]
 rw [List.drop_eq_nil_of_le (by rw [hp];omega)]
 rw [List.drop_drop]
 have e:j * sz+(j * sz+sz-j * sz)=(j+1) * sz:=by rw [yb8];omega
 rw [e]
 simp
theorem zgb (n:Nat) {g:Nat→List AV} {sz:Nat} (hg:∀ i,zaa n (g i)) (l:List AV) (j:Nat) (h:zaa n l):zaa n (ovr g sz l j):=by
 unfold ovr
 refine (zak _ _).2 ⟨za9 _ hg,?_⟩
 exact ((zak (l.take (j * sz)) (l.drop (j * sz))).1 (by rw [ycp];exact h)).2
theorem zx4 (n i:Nat) (l:List AV) (hn:n≤17592186044404) (hl:l.length=(n+12) * 1) (H:Heap) (hi:H[i]? = some (.vec 3 1 l)):VCall Tryz.prog 53 [.vk i n (n+12)] H (setR H i (.vec 3 1 (ovr (fun i=>[.int .i64 (mkI2 i)]) 1 l (n+12))) (.tup [])):=by
 have hlt0:=(yac.1 hi).1
 have hol:=fun j (h:j≤n+12)=>zke (g:=fun i=>[.int .i64 (mkI2 i)]) (sz:=1) (fun _=>rfl) l j (by rw [hl];exact ycc _ h)
 have h00:ovr (fun i=>[.int .i64 (mkI2 i)]) 1 l 0=l:=by simp [ovr]
 have hob:∀ j,zaa H.length l→zaa H.length (ovr (fun i=>[.int .i64 (mkI2 i)]) 1 l j):=fun j h=>zgb _ (fun i=>by simp [below,zaa]) l j h
 refine fdG Tryz.func53 ⟨rfl,rfl,rfl⟩ fun hcl hbl=>?_
 have hbB:zaa H.length l:=hcl i _ hi
 (repeat' ((conv=>whnf);(first|refine yck (by omega) ?_|refine AnyVN.mk (fun v hv=>?_)|fail)));conv=>whnf
 obtain ⟨c,rfl,hc⟩:=hv
 (repeat' ((conv=>whnf);(first|refine yaf (show min (c:Int) ((n:Int)+12)=((n+12:Nat):Int) by omega) ?_|fail)));conv=>whnf
 refine zg1 Tryz.E0 zaf (σ:=Nat) (fun p=>p≤n+12) (fun p=>n+12-p) (fun p=>[(3,.v (.int .i64 p))]) (fun p=>H.set i (.vec 3 1 (ovr (fun i=>[.int .i64 (mkI2 i)]) 1 l p))) (fun _=>[]) _ 0 (fun p _=>by simp) (fun p _=>zd0 hcl i _ (hob _ hbB)) [2] rfl (yah _) ⟨⟨_,rfl,yae _⟩,trivial⟩ (by rw [h00];exact (zgl (by rw [hi])).symm) rfl (fun _ _=>rfl) ?_
 intro j hj
 clear hbl
 rcases yag j (n+12) with hlt|hge
 ·have hm:=fun H=>zvn j (by omega) H
  have hs:setL (ovr (fun i=>[.int .i64 (mkI2 i)]) 1 l j) (j * 1) [.int .i64 (mkI2 j)]=ovr (fun i=>[.int .i64 (mkI2 i)]) 1 l (j+1):=zkd (g:=fun i=>[.int .i64 (mkI2 i)]) (sz:=1) (fun _=>rfl) l j (by rw [hl];exact ycc _ hlt)
  have h1:=hol j (by omega)
  have hg:(H.set i (.vec 3 1 (ovr (fun i=>[.int .i64 (mkI2 i)]) 1 l j)))[i]? = some (.vec 3 1 (ovr (fun i=>[.int .i64 (mkI2 i)]) 1 l j)):=by simp [hlt0]
  have hne:ovr (fun i=>[.int .i64 (mkI2 i)]) 1 l j≠[]:=fun e=>by rw [e] at h1;simp at h1;omega
  have hset:(H.set i (.vec 3 1 (ovr (fun i=>[.int .i64 (mkI2 i)]) 1 l j))).set i (.vec 3 1 (ovr (fun i=>[.int .i64 (mkI2 i)]) 1 l (j+1)))=H.set i (.vec 3 1 (ovr (fun i=>[.int .i64 (mkI2 i)]) 1 l (j+1))):=ycj ..
  have h2:=hol (j+1) (by omega)
  generalize hA:ovr (fun i=>[.int .i64 (mkI2 i)]) 1 l j=A at *
  generalize hA2:ovr (fun i=>[.int .i64 (mkI2 i)]) 1 l (j+1)=A2 at *
  generalize mkI2 j=s at hm hs
  (repeat' ((conv=>whnf);(first|refine ydt _ hset ?_|refine yar (by omega) ?_|(refine zac _ _ Cst.h Cst.h ?_ ?_;· omega)|refine yaf (by simp;omega) ?_|refine yab _ (hm _) ?_|refine yaf ⟨⟨by omega,hne⟩,by omega,by omega⟩ ?_|refine ydg A2 [] (by rw [ybn];exact hs.symm) ?_|refine ycd _ (by (repeat' (first|assumption|exact za7 _ rfl|exact zaj rfl|refine zbc (B':=?_) ?_|refine zap ?_|fail))) ?_|fail)));conv=>whnf
  subst hA2
  (refine ⟨⟨j+1,by show j+1≤_;omega,by omega,?_,.inl ⟨rfl,rfl⟩,rfl,_,rfl,?_⟩⟩;rotate_left 1;exact .inl rfl;exact ⟨⟨_,rfl,yae _⟩,trivial⟩)
 ·obtain rfl:j=n+12:=by omega
  (repeat' ((conv=>whnf);(first|refine zah (by omega) ?_|fail)));conv=>whnf
  exact zaw (hob _ hbB) trivial (yae _)
theorem zvf (n i:Nat) (l:List AV) (hn:n≤100) (hl:l.length=(n+12) * 3) (H:Heap) (hi:H[i]? = some (.vec 60 3 l)):VCall Tryz.prog 54 [.vk i n (n+12)] H (setR H i (.vec 60 3 (ovr (fun i=>[.str (mkO i),.int .i64 0,.int .i64 0]) 3 l (n+12))) (.tup [])):=by
 have hlt0:=(yac.1 hi).1
 have hol:=fun j (h:j≤n+12)=>zke (g:=fun i=>[.str (mkO i),.int .i64 0,.int .i64 0]) (sz:=3) (fun _=>rfl) l j (by rw [hl];exact ycc _ h)
 have h00:ovr (fun i=>[.str (mkO i),.int .i64 0,.int .i64 0]) 3 l 0=l:=by simp [ovr]
 have hob:∀ j,zaa H.length l→zaa H.length (ovr (fun i=>[.str (mkO i),.int .i64 0,.int .i64 0]) 3 l j):=fun j h=>zgb _ (fun i=>by simp [below,zaa]) l j h
 refine fdG Tryz.func54 ⟨rfl,rfl,rfl⟩ fun hcl hbl=>?_
 have hbB:zaa H.length l:=hcl i _ hi
 (repeat' ((conv=>whnf);(first|refine yck (by omega) ?_|refine AnyVN.mk (fun v hv=>?_)|fail)));conv=>whnf
 obtain ⟨c,rfl,hc⟩:=hv
 (repeat' ((conv=>whnf);(first|refine yaf (show min (c:Int) ((n:Int)+12)=((n+12:Nat):Int) by omega) ?_|fail)));conv=>whnf
 refine zg1 Tryz.E0 zaf (σ:=Nat) (fun p=>p≤n+12) (fun p=>n+12-p) (fun p=>[(3,.v (.int .i64 p))]) (fun p=>H.set i (.vec 60 3 (ovr (fun i=>[.str (mkO i),.int .i64 0,.int .i64 0]) 3 l p))) (fun _=>[]) _ 0 (fun p _=>by simp) (fun p _=>zd0 hcl i _ (hob _ hbB)) [2] rfl (yah _) ⟨⟨_,rfl,yae _⟩,trivial⟩ (by rw [h00];exact (zgl (by rw [hi])).symm) rfl (fun _ _=>rfl) ?_
 intro j hj
 clear hbl
 rcases yag j (n+12) with hlt|hge
 ·have hm:=fun H=>zra j (by omega) H
  have hs:setL (ovr (fun i=>[.str (mkO i),.int .i64 0,.int .i64 0]) 3 l j) (j * 3) [.str (mkO j),.int .i64 0,.int .i64 0]=ovr (fun i=>[.str (mkO i),.int .i64 0,.int .i64 0]) 3 l (j+1):=zkd (g:=fun i=>[.str (mkO i),.int .i64 0,.int .i64 0]) (sz:=3) (fun _=>rfl) l j (by rw [hl];exact ycc _ hlt)
  have h1:=hol j (by omega)
  have hg:(H.set i (.vec 60 3 (ovr (fun i=>[.str (mkO i),.int .i64 0,.int .i64 0]) 3 l j)))[i]? = some (.vec 60 3 (ovr (fun i=>[.str (mkO i),.int .i64 0,.int .i64 0]) 3 l j)):=by simp [hlt0]
  have hne:ovr (fun i=>[.str (mkO i),.int .i64 0,.int .i64 0]) 3 l j≠[]:=fun e=>by rw [e] at h1;simp at h1;omega
  have hset:(H.set i (.vec 60 3 (ovr (fun i=>[.str (mkO i),.int .i64 0,.int .i64 0]) 3 l j))).set i (.vec 60 3 (ovr (fun i=>[.str (mkO i),.int .i64 0,.int .i64 0]) 3 l (j+1)))=H.set i (.vec 60 3 (ovr (fun i=>[.str (mkO i),.int .i64 0,.int .i64 0]) 3 l (j+1))):=ycj ..
  have h2:=hol (j+1) (by omega)
  generalize hA:ovr (fun i=>[.str (mkO i),.int .i64 0,.int .i64 0]) 3 l j=A at *
  generalize hA2:ovr (fun i=>[.str (mkO i),.int .i64 0,.int .i64 0]) 3 l (j+1)=A2 at *
  generalize mkO j=s at hm hs
  (repeat' ((conv=>whnf);(first|refine ydt _ hset ?_|refine yar (by omega) ?_|(refine zac _ _ Cst.h Cst.h ?_ ?_;· omega)|refine yaf (by simp;omega) ?_|refine yab _ (hm _) ?_|refine yaf ⟨⟨by omega,hne⟩,by omega,by omega⟩ ?_|refine ydg A2 [] (by rw [ybn];exact hs.symm) ?_|refine ycd _ (by (repeat' (first|assumption|exact za7 _ rfl|exact zaj rfl|refine zbc (B':=?_) ?_|refine zap ?_|fail))) ?_|fail)));conv=>whnf
  subst hA2
  (refine ⟨⟨j+1,by show j+1≤_;omega,by omega,?_,.inl ⟨rfl,rfl⟩,rfl,_,rfl,?_⟩⟩;rotate_left 1;exact .inl rfl;exact ⟨⟨_,rfl,yae _⟩,trivial⟩)
 ·obtain rfl:j=n+12:=by omega
  (repeat' ((conv=>whnf);(first|refine zah (by omega) ?_|fail)));conv=>whnf
  exact zaw (hob _ hbB) trivial (yae _)
theorem zvh (n i:Nat) (l:List AV) (hn:n≤100) (hl:l.length=(n+12) * 2) (H:Heap) (hi:H[i]? = some (.vec 58 2 l)):VCall Tryz.prog 56 [.vk i n (n+12)] H (setR H i (.vec 58 2 (ovr (fun i=>[.str (mkO i),.int .i64 0]) 2 l (n+12))) (.tup [])):=by
 have hlt0:=(yac.1 hi).1
 have hol:=fun j (h:j≤n+12)=>zke (g:=fun i=>[.str (mkO i),.int .i64 0]) (sz:=2) (fun _=>rfl) l j (by rw [hl];exact ycc _ h)
 have h00:ovr (fun i=>[.str (mkO i),.int .i64 0]) 2 l 0=l:=by simp [ovr]
 have hob:∀ j,zaa H.length l→zaa H.length (ovr (fun i=>[.str (mkO i),.int .i64 0]) 2 l j):=fun j h=>zgb _ (fun i=>by simp [below,zaa]) l j h
 refine fdG Tryz.func56 ⟨rfl,rfl,rfl⟩ fun hcl hbl=>?_
 have hbB:zaa H.length l:=hcl i _ hi
 (repeat' ((conv=>whnf);(first|refine yck (by omega) ?_|refine AnyVN.mk (fun v hv=>?_)|fail)));conv=>whnf
 obtain ⟨c,rfl,hc⟩:=hv
 (repeat' ((conv=>whnf);(first|refine yaf (show min (c:Int) ((n:Int)+12)=((n+12:Nat):Int) by omega) ?_|fail)));conv=>whnf
 refine zg1 Tryz.E0 zaf (σ:=Nat) (fun p=>p≤n+12) (fun p=>n+12-p) (fun p=>[(3,.v (.int .i64 p))]) (fun p=>H.set i (.vec 58 2 (ovr (fun i=>[.str (mkO i),.int .i64 0]) 2 l p))) (fun _=>[]) _ 0 (fun p _=>by simp) (fun p _=>zd0 hcl i _ (hob _ hbB)) [2] rfl (yah _) ⟨⟨_,rfl,yae _⟩,trivial⟩ (by rw [h00];exact (zgl (by rw [hi])).symm) rfl (fun _ _=>rfl) ?_
 intro j hj
 clear hbl
 rcases yag j (n+12) with hlt|hge
 ·have hm:=fun H=>zrb j (by omega) H
  have hs:setL (ovr (fun i=>[.str (mkO i),.int .i64 0]) 2 l j) (j * 2) [.str (mkO j),.int .i64 0]=ovr (fun i=>[.str (mkO i),.int .i64 0]) 2 l (j+1):=zkd (g:=fun i=>[.str (mkO i),.int .i64 0]) (sz:=2) (fun _=>rfl) l j (by rw [hl];exact ycc _ hlt)
  have h1:=hol j (by omega)
  have hg:(H.set i (.vec 58 2 (ovr (fun i=>[.str (mkO i),.int .i64 0]) 2 l j)))[i]? = some (.vec 58 2 (ovr (fun i=>[.str (mkO i),.int .i64 0]) 2 l j)):=by simp [hlt0]
  have hne:ovr (fun i=>[.str (mkO i),.int .i64 0]) 2 l j≠[]:=fun e=>by rw [e] at h1;simp at h1;omega
  have hset:(H.set i (.vec 58 2 (ovr (fun i=>[.str (mkO i),.int .i64 0]) 2 l j))).set i (.vec 58 2 (ovr (fun i=>[.str (mkO i),.int .i64 0]) 2 l (j+1)))=H.set i (.vec 58 2 (ovr (fun i=>[.str (mkO i),.int .i64 0]) 2 l (j+1))):=ycj ..
  have h2:=hol (j+1) (by omega)
  generalize hA:ovr (fun i=>[.str (mkO i),.int .i64 0]) 2 l j=A at *
  generalize hA2:ovr (fun i=>[.str (mkO i),.int .i64 0]) 2 l (j+1)=A2 at *
  generalize mkO j=s at hm hs
  (repeat' ((conv=>whnf);(first|refine ydt _ hset ?_|refine yar (by omega) ?_|(refine zac _ _ Cst.h Cst.h ?_ ?_;· omega)|refine yaf (by simp;omega) ?_|refine yab _ (hm _) ?_|refine yaf ⟨⟨by omega,hne⟩,by omega,by omega⟩ ?_|refine ydg A2 [] (by rw [ybn];exact hs.symm) ?_|refine ycd _ (by (repeat' (first|assumption|exact za7 _ rfl|exact zaj rfl|refine zbc (B':=?_) ?_|refine zap ?_|fail))) ?_|fail)));conv=>whnf
  subst hA2
  (refine ⟨⟨j+1,by show j+1≤_;omega,by omega,?_,.inl ⟨rfl,rfl⟩,rfl,_,rfl,?_⟩⟩;rotate_left 1;exact .inl rfl;exact ⟨⟨_,rfl,yae _⟩,trivial⟩)
 ·obtain rfl:j=n+12:=by omega
  (repeat' ((conv=>whnf);(first|refine zah (by omega) ?_|fail)));conv=>whnf
  exact zaw (hob _ hbB) trivial (yae _)
theorem zvc (n i:Nat) (l:List AV) (hn:n≤100) (hl:l.length=(n+12) * 1) (H:Heap) (hi:H[i]? = some (.vec 9 1 l)):VCall Tryz.prog 18 [.vk i n (n+12)] H (setR H i (.vec 9 1 (ovr (fun i=>[.str (mkO i)]) 1 l (n+12))) (.tup [])):=by
 have hlt0:=(yac.1 hi).1
 have hol:=fun j (h:j≤n+12)=>zke (g:=fun i=>[.str (mkO i)]) (sz:=1) (fun _=>rfl) l j (by rw [hl];exact ycc _ h)
 have h00:ovr (fun i=>[.str (mkO i)]) 1 l 0=l:=by simp [ovr]
 have hob:∀ j,zaa H.length l→zaa H.length (ovr (fun i=>[.str (mkO i)]) 1 l j):=fun j h=>zgb _ (fun i=>by simp [below,zaa]) l j h
 refine fdG Tryz.func18 ⟨rfl,rfl,rfl⟩ fun hcl hbl=>?_
 have hbB:zaa H.length l:=hcl i _ hi
 (repeat' ((conv=>whnf);(first|refine yck (by omega) ?_|refine AnyVN.mk (fun v hv=>?_)|fail)));conv=>whnf
 obtain ⟨c,rfl,hc⟩:=hv
 (repeat' ((conv=>whnf);(first|refine yaf (show min (c:Int) ((n:Int)+12)=((n+12:Nat):Int) by omega) ?_|fail)));conv=>whnf
 refine zg1 Tryz.E0 zaf (σ:=Nat) (fun p=>p≤n+12) (fun p=>n+12-p) (fun p=>[(3,.v (.int .i64 p))]) (fun p=>H.set i (.vec 9 1 (ovr (fun i=>[.str (mkO i)]) 1 l p))) (fun _=>[]) _ 0 (fun p _=>by simp) (fun p _=>zd0 hcl i _ (hob _ hbB)) [2] rfl (yah _) ⟨⟨_,rfl,yae _⟩,trivial⟩ (by rw [h00];exact (zgl (by rw [hi])).symm) rfl (fun _ _=>rfl) ?_
 intro j hj
 clear hbl
 rcases yag j (n+12) with hlt|hge
 ·have hm:=fun H=>zfq j (by omega) H
  have hs:setL (ovr (fun i=>[.str (mkO i)]) 1 l j) (j * 1) [.str (mkO j)]=ovr (fun i=>[.str (mkO i)]) 1 l (j+1):=zkd (g:=fun i=>[.str (mkO i)]) (sz:=1) (fun _=>rfl) l j (by rw [hl];exact ycc _ hlt)
  have h1:=hol j (by omega)
  have hg:(H.set i (.vec 9 1 (ovr (fun i=>[.str (mkO i)]) 1 l j)))[i]? = some (.vec 9 1 (ovr (fun i=>[.str (mkO i)]) 1 l j)):=by simp [hlt0]
  have hne:ovr (fun i=>[.str (mkO i)]) 1 l j≠[]:=fun e=>by rw [e] at h1;simp at h1;omega
  have hset:(H.set i (.vec 9 1 (ovr (fun i=>[.str (mkO i)]) 1 l j))).set i (.vec 9 1 (ovr (fun i=>[.str (mkO i)]) 1 l (j+1)))=H.set i (.vec 9 1 (ovr (fun i=>[.str (mkO i)]) 1 l (j+1))):=ycj ..
  have h2:=hol (j+1) (by omega)
  generalize hA:ovr (fun i=>[.str (mkO i)]) 1 l j=A at *
  generalize hA2:ovr (fun i=>[.str (mkO i)]) 1 l (j+1)=A2 at *
  generalize mkO j=s at hm hs
  (repeat' ((conv=>whnf);(first|refine ydt _ hset ?_|refine yar (by omega) ?_|(refine zac _ _ Cst.h Cst.h ?_ ?_;· omega)|refine yaf (by simp;omega) ?_|refine yab _ (hm _) ?_|refine yaf ⟨⟨by omega,hne⟩,by omega,by omega⟩ ?_|refine ydg A2 [] (by rw [ybn];exact hs.symm) ?_|refine ycd _ (by (repeat' (first|assumption|exact za7 _ rfl|exact zaj rfl|refine zbc (B':=?_) ?_|refine zap ?_|fail))) ?_|fail)));conv=>whnf
  subst hA2
  (refine ⟨⟨j+1,by show j+1≤_;omega,by omega,?_,.inl ⟨rfl,rfl⟩,rfl,_,rfl,?_⟩⟩;rotate_left 1;exact .inl rfl;exact ⟨⟨_,rfl,yae _⟩,trivial⟩)
 ·obtain rfl:j=n+12:=by omega
  (repeat' ((conv=>whnf);(first|refine zah (by omega) ?_|fail)));conv=>whnf
  exact zaw (hob _ hbB) trivial (yae _)
def fnC (f:Fnc) (p:Nat):List AV:=[.str f.nm,.int .i64 f.ar,.vk p f.vl.length (f.vl.length+12)]
def fnB (f:Fnc):Blk:=.vec 3 1 (f.vl.flatMap enc64++mks enc64 mkI 12)
def fn3 (f:Fnc) (p:Nat):Heap:=[.box 56 (fnC f (p+2)),.box 56 (fnC f (p+2)),fnB f]
theorem zvs (f:Fnc) (hf:f.vl.length≤17592186044404) (H:Heap):VCall Tryz.prog 86 [.agg f.cells] H fun r H'=>r=.agg (fnC f (H.length+2))∧H'=H++fn3 f H.length:=by
 have h1:∀ B1 B2,VCall Tryz.prog 38 [.sl none f.vl.length (f.vl.flatMap enc64)] (H++[B1,B2]) fun r H'=>r=.vk (H.length+2) f.vl.length (f.vl.length+12)∧H'=(H++[B1,B2])++[fnB f]:=fun B1 B2=>by
  have:=zpd f.vl hf (H++[B1,B2])
  rw [ya5] at this
  exact this
 have hB:fnB f=.vec 3 1 (f.vl.flatMap enc64++mks enc64 mkI 12):=rfl
 have hbB:∀ n,zaa n (f.vl.flatMap enc64++mks enc64 mkI 12):=fun n=>(zak _ _).2 ⟨zb7 n _,zx9 n (fun x=>by simp [enc64,below,zaa]) 12⟩
 have hCb:=fun n=>zb7 n f.vl
 unfold fn3 fnC Fnc.cells
 rw [hB] at h1 ⊢
 generalize f.vl.flatMap enc64++mks enc64 mkI 12=C at *
 generalize f.vl.flatMap enc64=c at *
 generalize f.vl.length=n at *
 refine fdG Tryz.func86 ⟨rfl,rfl,rfl⟩ fun hcl hbl=>?_
 (repeat' ((conv=>whnf);(first|refine zb1 _ _ _ 3 (h1 _ _) rfl rfl rfl ?_|fail)));conv=>whnf
 exact ydu _ (yae _) ⟨rfl,rfl⟩
def fn4 (f:Fnc) (p:Nat):Heap:=[.box 56 (fnC f (p+2)),.box 56 (fnC f (p+2)),fnB f,.box 56 (fnC f (p+2))]
def fnL (l:List Fnc) (p k:Nat):List AV:=(List.range k).flatMap fun i=>fnC (l.getD i fnc0) (p+(1+4 * i)+2)
def fnX (l:List Fnc) (p k:Nat):Heap:=(List.range k).flatMap fun i=>fn4 (l.getD i fnc0) (p+(1+4 * i))
theorem zhy (l:List Fnc) (p k:Nat):fnL l p (k+1)=fnL l p k++fnC (l.getD k fnc0) (p+(1+4 * k)+2):=by
 unfold fnL
 rw [List.range_succ,ybx]
 simp
theorem znm (l:List Fnc) (p k:Nat):fnX l p (k+1)=fnX l p k++fn4 (l.getD k fnc0) (p+(1+4 * k)):=by
 unfold fnX
 rw [List.range_succ,ybx]
 simp
theorem zez (l:List Fnc) (p:Nat):∀ k,(fnX l p k).length=4 * k
 | 0=>rfl
 | k+1=>by
   rw [znm,ya5,zez l p k]
   rfl
theorem zhe (l:List Fnc) (p:Nat):∀ k,(fnL l p k).length=k * 3
 | 0=>rfl
 | k+1=>by
   rw [zhy,ya5,zhe l p k]
   show _+3=_
   omega
def fnH (l:List Fnc) (p k:Nat):Heap:=.vec 56 3 (fnL l p k)::fnX l p k
theorem fnH_len (l:List Fnc) (p k:Nat):(fnH l p k).length=1+4 * k:=by
 unfold fnH
 rw [List.length_cons,zez]
 omega
theorem zrm (l:List Fnc) (hl:l.length≤1000) (h:∀ x∈l,x.vl.length≤17592186044404) (H:Heap):VCall Tryz.prog 40 [.sl none l.length (l.flatMap Fnc.cells)] H fun r H'=>r=.vk H.length l.length (l.length+12)∧H'=H++(.vec 56 3 (fnL l H.length l.length++mks Fnc.cells mkFn 12)::fnX l H.length l.length):=by
 rw [← zmj]
 refine fdG Tryz.func40 ⟨rfl,rfl,rfl⟩ fun hcl hbl=>?_
 (repeat' ((conv=>whnf);(first|(refine zfz ?_;refine yc7 (l.length+12) (by omega) ?_;refine yaf ⟨rfl,by omega,by dsimp only;omega⟩ (OrN.r ?_))|refine yck (by omega) ?_|fail)));conv=>whnf
 refine loop_X Tryz.E0 zaf (σ:=Nat) (fun k=>k≤l.length) (fun k=>l.length-k) (fun k=>[(3,.v (.vs (H.length+0) k)),(4,.v (.int .i64 k))]) (fun k=>fnH l H.length k) _ 0 rfl hcl [0] rfl (yah _) ⟨⟨_,rfl,yae _⟩,⟨_,rfl,yae _⟩,trivial⟩ rfl (fun s _=>by simp [fnH,fnX]) ?_
 intro k hk
 have hHl:=fnH_len l H.length k
 rcases yag k l.length with hlt|hge
 ·have hfx:=h _ (getD_memT l k fnc0 hlt)
  have hLl:=zhe l H.length k
  have hx:VCall Tryz.prog 86 [.agg (l.getD k fnc0).cells] ((H++fnH l H.length k)++[]) fun r H'=>r=.agg (fnC (l.getD k fnc0) (H.length+(1+4 * k)+2))∧H'=((H++fnH l H.length k)++[])++fn3 (l.getD k fnc0) (H.length+(1+4 * k)):=by
   have:=zvs (l.getD k fnc0) hfx ((H++fnH l H.length k)++[])
   have e:((H++fnH l H.length k)++[]).length=H.length+(1+4 * k):=by
    simp [hHl]
   rw [e] at this
   exact this
  have e1:=zhy l H.length k
  have e2:=znm l H.length k
  have hm0:(H++fnH l H.length k)[H.length+0]? = some (.vec 56 3 (fnL l H.length k)):=zaj rfl
  have hset:(H++fnH l H.length k).set (H.length+0) (.vec 56 3 (fnL l H.length k++fnC (l.getD k fnc0) (H.length+(1+4 * k)+2)))=H++(.vec 56 3 (fnL l H.length (k+1))::fnX l H.length k):=by
   rw [zbj,e1]
   rfl
  obtain ⟨nm,ar,vl,hfe,q1⟩:=fnc_ex (f:=l.getD k fnc0) rfl
  rw [q1,hfe] at hx
  rw [hfe] at e1 e2 hset
  unfold fn3 at hx
  unfold fn4 at e2
  have hc:∀ p,fnC ⟨nm,ar,vl⟩ p=[.str nm,.int .i64 ar,.vk p vl.length (vl.length+12)]:=fun _=>rfl
  generalize fnB ⟨nm,ar,vl⟩=B at hx e2
  simp only [hc] at hx e1 e2 hset
  rw [hHl]
  have hm0':=hm0
  generalize hG:fnH l H.length k=L at hx hm0 hset hHl ⊢
  (repeat' ((conv=>whnf);(first|refine ydt _ hset ?_|refine yar (by omega) ?_|(refine zac _ _ Cst.h Cst.h ?_ ?_;· omega)|(refine yaf ?_ ?_;· first|omega|exact yaa _ _|fail)|refine zb1 _ _ _ 3 hx (by rw [ya5,hHl]) rfl rfl ?_|refine SegN.nthE fnc0 k rfl (by omega) zgr q1 ?_|refine ycd _ hm0 ?_|refine yaf ⟨hLl,rfl,rfl,by dsimp only;omega,by simp only [maxLen];omega⟩ ?_|fail)));conv=>whnf
  refine ⟨⟨k+1,by show k+1≤_;omega,by show l.length-(k+1)<l.length-k;omega,⟨⟨_,rfl,yae _⟩,⟨_,rfl,yae _⟩,trivial⟩,.inr ⟨⟨_,rfl,yae _⟩,trivial⟩,[],.of_eq ?_,.inl rfl⟩⟩
  unfold fnH
  rw [e2]
  simp
 ·obtain rfl:k=l.length:=by omega
  have hLl:=zhe l H.length l.length
  have hXl:=zez l H.length l.length
  unfold fnH at hHl ⊢
  have hCb:∀ n:Nat,True:=fun _=>trivial
  generalize fnL l H.length l.length=C at *
  generalize fnX l H.length l.length=X at *
  (repeat' ((conv=>whnf);(first|refine zah (by omega) ?_|fail)));conv=>whnf
  refine zz9 _ [(0,.v (.sl none l.length (l.flatMap Fnc.cells)))] rfl rfl rfl ?_
  conv=>whnf
  refine zam Tryz.E0 zaf (σ:=Nat) (fun j=>j≤12) (fun j=>12-j) (fun j=>[(3,.v (.vs (H.length+0) (l.length+j))),(6,.v (.int .i64 j))]) (fun j=>.vec 56 3 (appC (fun i=>Fnc.cells (mkFn i)) C j)::X) _ 0 rfl hcl [0] rfl (yah _) ⟨⟨_,rfl,yae _⟩,⟨_,rfl,yae _⟩,trivial⟩ (by simp [appC]) (fun _ _=>by simp) ?_
  intro j hj
  have hDl:=zeu (m:=fun i=>Fnc.cells (mkFn i)) (fun i=>(rfl:(Fnc.cells (mkFn i)).length=3)) hLl j
  rcases yag j 12 with hlt|hge
  ·have hm:∀ H,VDet Tryz.prog 87 [.int .i64 1,.int .i64 (j:Nat)] H (.agg [.str (mkB j),.int .i64 0,.sl none 0 []]):=fun H=>zl5 j hlt H
   have hns:appC (fun i=>Fnc.cells (mkFn i)) C (j+1)=appC (fun i=>Fnc.cells (mkFn i)) C j++[.str (mkB j),.int .i64 0,.sl none 0 []]:=rfl
   generalize mkB j=sj at hm hns
   generalize appC (fun i=>Fnc.cells (mkFn i)) C j=D at *
   (repeat' ((conv=>whnf);(first|refine yar (by omega) ?_|(refine zac _ _ Cst.h Cst.h ?_ ?_;· omega)|refine yab _ (hm _) ?_|refine yaf ⟨by dsimp only;omega,rfl,rfl,by dsimp only;omega,by simp only [maxLen];omega⟩ ?_|refine yca _ rfl ?_|fail)));conv=>whnf
   rw [← hns]
   refine ⟨⟨j+1,by show j+1≤_;omega,by show 12-(j+1)<12-j;omega,⟨⟨_,rfl,yae _⟩,⟨_,rfl,yae _⟩,trivial⟩,.inl ⟨rfl,rfl⟩,rfl,[],(yat _).symm,.inl rfl⟩⟩
  ·obtain rfl:j=12:=by omega
   (repeat' ((conv=>whnf);(first|refine yau rfl ?_|refine yaf (by omega) ?_|refine yc7 _ rfl ?_|fail)));conv=>whnf
   refine ydu _ (yae _) ⟨rfl,rfl⟩
def mdL (m:Mdl) (p:Nat):List AV:=[.int .u8 m.kind,.int .i64 m.size,.vk (p+2) m.rel.length (m.rel.length+12),.int .i64 m.loop,.vk (p+3) m.facts.length (m.facts.length+12),.vk (p+4) m.funcs.length (m.funcs.length+12),.vk (p+5+4 * m.funcs.length) m.binds.length (m.binds.length+12)]
def inB (m:Mdl):Blk:=.vec 3 1 (m.rel.flatMap enc64++mks enc64 mkI 12)
def faB (m:Mdl):Blk:=.vec 60 3 (m.facts.flatMap Fct.cells++mks Fct.cells mkFc 12)
def fuB (m:Mdl) (p:Nat):Blk:=.vec 56 3 (fnL m.funcs (p+4) m.funcs.length++mks Fnc.cells mkFn 12)
def biB (m:Mdl):Blk:=.vec 58 2 (m.binds.flatMap Bnd.cells++mks Bnd.cells mkBd 12)
def lnH (m:Mdl) (p:Nat):Heap:=[.box 27 (mdL m p),.box 27 (mdL m p),inB m,faB m,fuB m p]++fnX m.funcs (p+4) m.funcs.length++[biB m]
theorem zye (m:Mdl) (p:Nat):(lnH m p).length=6+4 * m.funcs.length:=by
 unfold lnH
 rw [ya5,ya5,zez]
 simp only [List.length_cons,List.length_nil]
 omega
theorem zhd (m:Mdl) (hm:m.Few) (h1000:m.funcs.length≤1000) (H:Heap):VCall Tryz.prog 8 [.agg m.cells] H fun r H'=>r=.agg (mdL m H.length)∧H'=H++lnH m H.length:=by
 have h1:∀ B1 B2,VCall Tryz.prog 38 [.sl none m.rel.length (m.rel.flatMap enc64)] (H++[B1,B2]) fun r H'=>r=.vk (H.length+2) m.rel.length (m.rel.length+12)∧H'=(H++[B1,B2])++[inB m]:=fun B1 B2=>by
  have:=zpd m.rel hm.rel (H++[B1,B2])
  rw [ya5] at this
  exact this
 have h2:∀ B1 B2 B3,VCall Tryz.prog 39 [.sl none m.facts.length (m.facts.flatMap Fct.cells)] (H++[B1,B2,B3]) fun r H'=>r=.vk (H.length+3) m.facts.length (m.facts.length+12)∧H'=(H++[B1,B2,B3])++[faB m]:=fun B1 B2 B3=>by
  have:=zvt m.facts hm.facts (H++[B1,B2,B3])
  rw [ya5] at this
  exact this
 have h3:∀ B1 B2 B3 B4,VCall Tryz.prog 40 [.sl none m.funcs.length (m.funcs.flatMap Fnc.cells)] (H++[B1,B2,B3,B4]) fun r H'=>r=.vk (H.length+4) m.funcs.length (m.funcs.length+12)∧H'=(H++[B1,B2,B3,B4])++(fuB m H.length::fnX m.funcs (H.length+4) m.funcs.length):=fun B1 B2 B3 B4=>by
  have:=zrm m.funcs h1000 hm.vals (H++[B1,B2,B3,B4])
  rw [ya5] at this
  exact this
 have h4:∀ B1 B2 B3 B4,VCall Tryz.prog 41 [.sl none m.binds.length (m.binds.flatMap Bnd.cells)] (H++(B1::B2::B3::B4::fuB m H.length::fnX m.funcs (H.length+4) m.funcs.length)) fun r H'=>r=.vk (H.length+5+4 * m.funcs.length) m.binds.length (m.binds.length+12)∧H'=(H++(B1::B2::B3::B4::fuB m H.length::fnX m.funcs (H.length+4) m.funcs.length))++[biB m]:=fun B1 B2 B3 B4=>by
  have:=zvv m.binds hm.binds (H++(B1::B2::B3::B4::fuB m H.length::fnX m.funcs (H.length+4) m.funcs.length))
  rw [ya5] at this
  simp only [List.length_cons,zez] at this
  rw [show H.length+(4 * m.funcs.length+1+1+1+1+1)=H.length+5+4 * m.funcs.length by omega] at this
  exact this
 have hXl:=zez m.funcs (H.length+4) m.funcs.length
 unfold lnH mdL Mdl.cells
 generalize fnX m.funcs (H.length+4) m.funcs.length=X at *
 generalize inB m=Bi at *
 generalize faB m=Bf at *
 generalize fuB m H.length=Bu at *
 generalize biB m=Bb at *
 generalize m.rel.flatMap enc64=c1 at *
 generalize m.facts.flatMap Fct.cells=c2 at *
 generalize m.funcs.flatMap Fnc.cells=c3 at *
 generalize m.binds.flatMap Bnd.cells=c4 at *
 obtain ⟨k,n,rel,lp,fs,us,bs⟩:=m
 simp only at *
 refine fdG Tryz.func8 ⟨rfl,rfl,rfl⟩ fun hcl hbl=>?_
 (repeat' ((conv=>whnf);(first|refine zb1 _ _ _ 3 (h1 _ _) rfl rfl rfl ?_|refine zb1 _ _ _ 4 (h2 _ _ _) rfl rfl rfl ?_|refine zb1 _ _ (_::_::_::_::Bu::X) (5+4 * us.length) (h3 _ _ _ _) rfl rfl (by simp only [List.length_cons,hXl];omega) ?_|refine zb1 _ _ (_::_::_::_::Bu::(X++[Bb])) (6+4 * us.length) (h4 _ _ _ _) rfl rfl (by simp only [List.length_cons,ya5,List.length_nil,hXl];omega) ?_|fail)));conv=>whnf
 refine ydu _ (yae _) ⟨rfl,?_⟩
 simp
theorem zkf {g:Nat→List AV} {sz:Nat} (hg:∀ i n,zaa n (g i)) (l:List AV) (n:Nat) (hl:l.length=n * sz) (m:Nat):zaa m (ovr g sz l n):=by
 unfold ovr
 rw [yc1 (by omega),yat]
 exact za9 _ fun i=>hg i m
theorem zo3 (n i:Nat) (l:List AV) (hn:n≤17592186044404) (hl:l.length=(n+12) * 1) (H:Heap) (hi:H[i]? = some (.vec 3 1 l)):VCall Tryz.prog 53 [.vk i n (n+12)] H fun r H'=>r=.tup []∧OverR (fun j=>j≠i) H H' :=
 VCall.mono (zx4 n i l hn hl H hi) fun r H' h=>⟨h.2,h.1▸OverR.set H i _ (fun m=>zkf (fun i n=>by simp [below,zaa]) l (n+12) hl m)⟩
theorem zve (n i:Nat) (l:List AV) (hn:n≤100) (hl:l.length=(n+12) * 3) (H:Heap) (hi:H[i]? = some (.vec 60 3 l)):VCall Tryz.prog 54 [.vk i n (n+12)] H fun r H'=>r=.tup []∧OverR (fun j=>j≠i) H H' :=
 VCall.mono (zvf n i l hn hl H hi) fun r H' h=>⟨h.2,h.1▸OverR.set H i _ (fun m=>zkf (fun i n=>by simp [below,zaa]) l (n+12) hl m)⟩
theorem zvg (n i:Nat) (l:List AV) (hn:n≤100) (hl:l.length=(n+12) * 2) (H:Heap) (hi:H[i]? = some (.vec 58 2 l)):VCall Tryz.prog 56 [.vk i n (n+12)] H fun r H'=>r=.tup []∧OverR (fun j=>j≠i) H H' :=
 VCall.mono (zvh n i l hn hl H hi) fun r H' h=>⟨h.2,h.1▸OverR.set H i _ (fun m=>zkf (fun i n=>by simp [below,zaa]) l (n+12) hl m)⟩
theorem zvb (n i:Nat) (l:List AV) (hn:n≤100) (hl:l.length=(n+12) * 1) (H:Heap) (hi:H[i]? = some (.vec 9 1 l)):VCall Tryz.prog 18 [.vk i n (n+12)] H fun r H'=>r=.tup []∧OverR (fun j=>j≠i) H H' :=
 VCall.mono (zvc n i l hn hl H hi) fun r H' h=>⟨h.2,h.1▸OverR.set H i _ (fun m=>zkf (fun i n=>by simp [below,zaa]) l (n+12) hl m)⟩
def Has (H:Heap) (p:Nat) (X:Heap):Prop:=∀ i B,X[i]? = some B→H[p+i]? = some B
theorem Has.app {H A:Heap} (X:Heap):Has ((H++X)++A) H.length X:=fun i B h=>by
 rw [ybe,yam (by omega),ybo,yaj (yac.1 h).1]
 exact h
theorem Has.left {H X Y:Heap} {p:Nat} (h:Has H p (X++Y)):Has H p X:=fun i B hi=>h i B (by rw [yaj (yac.1 hi).1];exact hi)
theorem Has.right {H X Y:Heap} {p:Nat} (h:Has H p (X++Y)):Has H (p+X.length) Y:=fun i B hi=>by
 rw [ydk]
 exact h _ B (by rw [yam (by omega),ybo];exact hi)
theorem zvd (f:Fnc) (p:Nat) (hf:f.vl.length≤17592186044404) (H:Heap) (l:List AV) (hl:l.length=(f.vl.length+12) * 1) (hi:H[p]? = some (.vec 3 1 l)):VCall Tryz.prog 95 [.agg (fnC f p)] H fun r H'=>r=.tup []∧OverR (fun j=>j≠p) H H':=by
 have h1:∀ B,VCall Tryz.prog 53 [.vk p f.vl.length (f.vl.length+12)] (H++[B]) fun r H'=>r=.tup []∧OverR (fun j=>j≠p) (H++[B]) H':=fun B=>zo3 _ _ l hf hl _ (by rw [yaj (yac.1 hi).1];exact hi)
 have hlt:=(yac.1 hi).1
 unfold fnC
 generalize f.vl.length=n at *
 refine fdG Tryz.func95 ⟨rfl,rfl,rfl⟩ fun hcl hbl=>?_
 (repeat' ((conv=>whnf);(first|refine CallN.over (fun j=>j≠p) (h1 _) rfl rfl (fun j hj=>by omega) fun base' ho=>?_|fail)));conv=>whnf
 exact EndN.over ho
theorem zza (l:List Fnc) (q k:Nat):∀ n,k≤n→∃ r,fnL l q n=fnL l q k++r
 | 0,h=>⟨[],by rw [show k=0 by omega];rfl⟩
 | n+1,h=>by
   rcases yag n k with h1|h1
   ·exact ⟨[],by rw [show k=n+1 by omega,yat]⟩
   ·obtain ⟨r,hr⟩:=zza l q k n h1
    exact ⟨r++_,by rw [zhy,hr,ybe]⟩
theorem fnL_seg (l:List Fnc) (q i:Nat) (M:List AV) (n:Nat) (h:i<n):∃ r,(fnL l q n++M).drop (i * 3)=fnC (l.getD i fnc0) (q+(1+4 * i)+2)++r:=by
 obtain ⟨r,hr⟩:=zza l q (i+1) n h
 refine ⟨r++M,?_⟩
 rw [hr,zhy,ybe,ybe,List.drop_append_of_le_length (by rw [zhe];exact yax _),yc1 (by rw [zhe];exact yax _),ydl]
theorem zq5 (l:List Fnc) (q:Nat) (hl:l.length≤100) (h:∀ x∈l,x.vl.length≤17592186044404) (H:Heap) (M:List AV) (hM:M.length=12 * 3) (hi:H[q]? = some (.vec 56 3 (fnL l q l.length++M))) (hx:∀ i,i<l.length→H[q+(1+4 * i)+2]? = some (fnB (l.getD i fnc0))) :
  VCall Tryz.prog 55 [.vk q l.length (l.length+12)] H fun r H'=>r=.tup []∧OverR (fun j=>j≠q∧∀ i,i<l.length→j≠q+(1+4 * i)+2) H H':=by
 have hLl:(fnL l q l.length++M).length=(l.length+12) * 3:=by rw [ya5,zhe,hM];omega
 have hseg:=fun i h=>fnL_seg l q i M l.length h
 generalize fnL l q l.length++M=L at *
 have hLn:L≠[]:=fun e=>by rw [e] at hLl;simp at hLl
 refine fdG Tryz.func55 ⟨rfl,rfl,rfl⟩ fun hcl hbl=>?_
 have hbB:zaa H.length L:=hcl q _ hi
 conv=>whnf
 refine zg1 Tryz.E0 zaf (σ:=Nat×Heap) (fun p=>p.1≤l.length∧OverR (fun j=>∀ i,i<p.1→j≠q+(1+4 * i)+2) H p.2) (fun p=>l.length-p.1) (fun p=>[(2,.v (.int .i64 p.1))]) (fun p=>p.2) (fun _=>[]) _ (0,H) (fun p hp=>hp.2.len) (fun p hp=>hp.2.closed hcl) [0] rfl ⟨yah _,.refl _ _⟩ ⟨⟨_,rfl,yae _⟩,trivial⟩ rfl rfl (fun _ _=>rfl) ?_
 rintro ⟨k,H1⟩ ⟨hk,hov⟩
 simp only at hk hov
 have hq1:H1[q]? = some (.vec 56 3 L):=by rw [hov.same q (fun i _=>by omega)];exact hi
 have hlen1:=hov.len
 clear hbl
 rcases yag k l.length with hlt|hge
 ·obtain ⟨r,hr⟩:=hseg k hlt
  have hfx:=h _ (getD_memT l k fnc0 hlt)
  have hp1:H1[q+(1+4 * k)+2]? = some (fnB (l.getD k fnc0)):=by rw [hov.same _ (fun i hi=>by omega)];exact hx k hlt
  have hc:=zvd (l.getD k fnc0) (q+(1+4 * k)+2) hfx H1 _ (by rw [ya5,zaq (f:=enc64) (sz:=1) zd1];rfl) hp1
  unfold fnC at hc hr
  generalize (l.getD k fnc0).nm=nm at hc hr
  generalize (l.getD k fnc0).ar=ar at hc hr
  generalize (l.getD k fnc0).vl.length=n at hc hr
  have hc:VCall Tryz.prog 95 [.agg [.str nm,.int .i64 ar,.vk (q+(1+4 * k)+2) n (n+12)]] (H1++[]) fun r H'=>r=.tup []∧OverR (fun j=>j≠q+(1+4 * k)+2) (H1++[]) H':=by rw [yat];exact hc
  have hlt2:=(yac.1 hp1).1
  (repeat' ((conv=>whnf);(first|refine yaf hLl ?_|refine yar (by omega) ?_|(refine zac _ _ Cst.h Cst.h ?_ ?_;· omega)|refine yaf (yaa _ _) ?_|refine yaf ⟨⟨hLl,hLn⟩,by omega,by omega⟩ ?_|refine ydf _ ⟨r,by rw [ybn];exact hr⟩ ?_|refine CallN.over (fun j=>j≠q+(1+4 * k)+2) hc hlen1 rfl (fun j hj=>by omega) fun H2 ho=>?_|refine ycd _ (by (repeat' (first|assumption|exact za7 _ rfl|exact zaj rfl|refine zbc (B':=?_) ?_|refine zap ?_|fail))) ?_|fail)));conv=>whnf
  refine ⟨⟨(k+1,H2),⟨by show k+1≤_;omega,OverR.trans hov ho (fun j hj=>⟨fun i hi=>hj i (by show i<k+1;omega),hj k (by show k<k+1;omega)⟩)⟩,by show l.length-(k+1)<l.length-k;omega,⟨⟨_,rfl,yae _⟩,trivial⟩,.inl ⟨rfl,rfl⟩,rfl,[],rfl,.inl rfl⟩⟩
 ·obtain rfl:k=l.length:=by omega
  have hlt0:=(yac.1 hq1).1
  have hol:=fun j (h:j≤l.length+12)=>zke (g:=fun i=>[.str (mkO i),.int .i64 0,.nils]) (sz:=3) (fun _=>rfl) L j (by rw [hLl];exact ycc _ h)
  have h00:ovr (fun i=>[.str (mkO i),.int .i64 0,.nils]) 3 L 0=L:=by simp [ovr]
  have hbB1:zaa H1.length L:=hlen1▸hbB
  have hob:∀ j,zaa H1.length (ovr (fun i=>[.str (mkO i),.int .i64 0,.nils]) 3 L j):=fun j=>zgb _ (fun i=>by simp [below,zaa]) L j hbB1
  have hcl1:=hov.closed hcl
  (repeat' ((conv=>whnf);(first|refine zah (by omega) ?_|refine yck (by omega) ?_|refine AnyVN.mk (fun v hv=>?_)|fail)));conv=>whnf
  obtain ⟨c,rfl,hc⟩:=hv
  (repeat' ((conv=>whnf);(first|refine yaf (show min (c:Int) ((l.length:Int)+12)=((l.length+12:Nat):Int) by omega) ?_|fail)));conv=>whnf
  refine zg1 Tryz.E0 zaf (σ:=Nat) (fun p=>p≤l.length+12) (fun p=>l.length+12-p) (fun p=>[(4,.v (.int .i64 p))]) (fun p=>H1.set q (.vec 56 3 (ovr (fun i=>[.str (mkO i),.int .i64 0,.nils]) 3 L p))) (fun _=>[]) _ 0 (fun p _=>by simp [hlen1]) (fun p _=>zd0 hcl1 q _ (hob _)) [3] rfl (yah _) ⟨⟨_,rfl,yae _⟩,trivial⟩ (by rw [h00];exact (zgl (by rw [hq1])).symm) rfl (fun _ _=>rfl) ?_
  intro j hj
  rcases yag j (l.length+12) with hlt|hge
  ·have hm:=fun H=>zq9 j (by omega) H
   have hs:setL (ovr (fun i=>[.str (mkO i),.int .i64 0,.nils]) 3 L j) (j * 3) [.str (mkO j),.int .i64 0,.nils]=ovr (fun i=>[.str (mkO i),.int .i64 0,.nils]) 3 L (j+1):=zkd (g:=fun i=>[.str (mkO i),.int .i64 0,.nils]) (sz:=3) (fun _=>rfl) L j (by rw [hLl];exact ycc _ hlt)
   have h1:=hol j (by omega)
   have hg:(H1.set q (.vec 56 3 (ovr (fun i=>[.str (mkO i),.int .i64 0,.nils]) 3 L j)))[q]? = some (.vec 56 3 (ovr (fun i=>[.str (mkO i),.int .i64 0,.nils]) 3 L j)):=by simp [hlt0]
   have hne:ovr (fun i=>[.str (mkO i),.int .i64 0,.nils]) 3 L j≠[]:=fun e=>by rw [e] at h1;simp at h1;omega
   have hset:(H1.set q (.vec 56 3 (ovr (fun i=>[.str (mkO i),.int .i64 0,.nils]) 3 L j))).set q (.vec 56 3 (ovr (fun i=>[.str (mkO i),.int .i64 0,.nils]) 3 L (j+1)))=H1.set q (.vec 56 3 (ovr (fun i=>[.str (mkO i),.int .i64 0,.nils]) 3 L (j+1))):=ycj ..
   have h2:=hol (j+1) (by omega)
   generalize hA:ovr (fun i=>[.str (mkO i),.int .i64 0,.nils]) 3 L j=A at *
   generalize hA2:ovr (fun i=>[.str (mkO i),.int .i64 0,.nils]) 3 L (j+1)=A2 at *
   generalize mkO j=s at hm hs
   (repeat' ((conv=>whnf);(first|refine ydt _ hset ?_|refine yar (by omega) ?_|(refine zac _ _ Cst.h Cst.h ?_ ?_;· omega)|refine yaf (by simp;omega) ?_|refine yab _ (hm _) ?_|refine yaf ⟨⟨by omega,hne⟩,by omega,by omega⟩ ?_|refine ydg A2 [] (by rw [ybn];exact hs.symm) ?_|refine ycd _ (by (repeat' (first|assumption|exact za7 _ rfl|exact zaj rfl|refine zbc (B':=?_) ?_|refine zap ?_|fail))) ?_|fail)));conv=>whnf
   subst hA2
   (refine ⟨⟨j+1,by show j+1≤_;omega,by omega,?_,.inl ⟨rfl,rfl⟩,rfl,_,rfl,?_⟩⟩;rotate_left 1;exact .inl rfl;exact ⟨⟨_,rfl,yae _⟩,trivial⟩)
  ·obtain rfl:j=l.length+12:=by omega
   (repeat' ((conv=>whnf);(first|refine zah (by omega) ?_|fail)));conv=>whnf
   refine EndN.over (OverR.trans hov (OverR.set H1 q _ (fun m=>zkf (fun i n=>by simp [below,zaa]) L (l.length+12) hLl m)) fun j hj=>⟨hj.2,hj.1⟩)
theorem LendL.app {H:Heap}:∀ {a b c d:List AV},LendL H a b→LendL H c d→LendL H (a++c) (b++d)
 | _,_,_,_,.nil,h=>h
 | _,_,_,_,.cons h1 h2,h=>.cons h1 (LendL.app h2 h)
theorem fnC_lend {H:Heap} {f:Fnc} {p:Nat} (h:H[p]? = some (fnB f)):LendL H (fnC f p) (lnU f) :=
 .cons (.refl _) (.cons (.refl _) (.cons (.vk h (by rw [ya5,zaq (f:=enc64) (sz:=1) zd1];rfl) (LendL.refl _)) .nil))
theorem zy9 (l:List Fnc) (p:Nat):∀ n i,i<n→(fnX l p n)[4 * i+2]? = some (fnB (l.getD i fnc0))
 | 0,i,h=>absurd h (Nat.not_lt_zero i)
 | n+1,i,h=>by
   rw [znm]
   rcases yag i n with h1|h1
   ·rw [yaj (by rw [zez];omega)]
    exact zy9 l p n i h1
   ·have:i=n:=by omega
    subst this
    rw [yam (by rw [zez];omega),zez,ybo]
    rfl
theorem zdr {α:Type} (l:List α) (d:α) (i:Nat) (h:i<l.length):l.take (i+1)=l.take i++[l.getD i d]:=by
 rw [List.take_add_one,yal h,ybp,yal h]
 rfl
theorem zt5 {H:Heap} (l:List Fnc) (q:Nat) (h:∀ i,i<l.length→H[q+(1+4 * i)+2]? = some (fnB (l.getD i fnc0))):∀ k,k≤l.length→LendL H (fnL l q k) ((l.take k).flatMap lnU)
 | 0,_=>.nil
 | k+1,hk=>by
   rw [zhy,zdr l fnc0 k hk,ybx]
   refine LendL.app (zt5 l q h k (by omega)) ?_
   rw [ya6,ybf,yat]
   exact fnC_lend (h k hk)
structure MdAt (m:Mdl) (p:Nat) (H:Heap):Prop where
 rel:H[p+2]? = some (inB m)
 fac:H[p+3]? = some (faB m)
 fun_:H[p+4]? = some (fuB m p)
 val:∀ i,i<m.funcs.length→H[(p+4)+(1+4 * i)+2]? = some (fnB (m.funcs.getD i fnc0))
 bin:H[p+5+4 * m.funcs.length]? = some (biB m)
theorem MdAt.of {m:Mdl} {p:Nat} {H:Heap} (h:Has H p (lnH m p)):MdAt m p H:=by
 have h1:Has H p [.box 27 (mdL m p),.box 27 (mdL m p),inB m,faB m,fuB m p]:=h.left.left
 have h2:Has H (p+5) (fnX m.funcs (p+4) m.funcs.length):=h.left.right
 have h3:Has H (p+(5+4 * m.funcs.length)) [biB m]:=by
  have:=Has.right (X:=[.box 27 (mdL m p),.box 27 (mdL m p),inB m,faB m,fuB m p]++fnX m.funcs (p+4) m.funcs.length) h
  rw [ya5,zez] at this
  exact this
 refine ⟨h1 2 _ rfl,h1 3 _ rfl,h1 4 _ rfl,fun i hi=>?_,?_⟩
 ·have:=h2 (4 * i+2) _ (zy9 _ _ _ i hi)
  rw [show p+4+(1+4 * i)+2=p+5+(4 * i+2) by omega]
  exact this
 ·have:=h3 0 _ rfl
  rw [show p+5+4 * m.funcs.length=p+(5+4 * m.funcs.length)+0 by omega]
  exact this
theorem MdAt.app {m:Mdl} {p:Nat} {H:Heap} (h:MdAt m p H) (X:Heap):MdAt m p (H++X):=by
 have hlt:=fun {j:Nat} {B:Blk} (h:H[j]? = some B)=>(yaj (l₂:=X) (yac.1 h).1).trans h
 exact ⟨hlt h.rel,hlt h.fac,hlt h.fun_,fun i hi=>hlt (h.val i hi),hlt h.bin⟩
theorem MdAt.lend {m:Mdl} {p:Nat} {H:Heap} (h:MdAt m p H):LendL H (mdL m p) (lnM m):=by
 have e1:=zaq (f:=enc64) (sz:=1) zd1 m.rel
 have e2:=zaq (f:=Fct.cells) (sz:=3) zbt m.facts
 have e4:=zaq (f:=Bnd.cells) (sz:=2) zet m.binds
 have hf:=zt5 m.funcs (p+4) h.val m.funcs.length (yax _)
 rw [ya2] at hf
 have hk:∀ {α:Type} (f:α→List AV) (g:Nat→α) (sz:Nat),(∀ x,(f x).length=sz)→(mks f g 12).length=12 * sz:=fun f g sz hs=>by
  unfold mks
  rw [zaq (sz:=sz) (fun j=>hs (g j)),List.length_range]
 refine .cons (.refl _) (.cons (.refl _) (.cons (.vk h.rel ?_ (LendL.refl _)) (.cons (.refl _) (.cons (.vk h.fac ?_ (LendL.refl _)) (.cons (.vk h.fun_ ?_ (LendL.app hf (LendL.refl _))) (.cons (.vk h.bin ?_ (LendL.refl _)) .nil))))))
 ·rw [ya5,e1,hk enc64 mkI 1 zd1];omega
 ·rw [ya5,e2,hk Fct.cells mkFc 3 zbt];omega
 ·rw [ya5,zhe,hk Fnc.cells mkFn 3 zgr];omega
 ·rw [ya5,e4,hk Bnd.cells mkBd 2 zet];omega
theorem zek (m:Mdl) (hm:m.Few) (p:Nat) (H:Heap) (h:MdAt m p H):VDet Tryz.prog 15 [.agg (mdL m p),.agg m.cells] H (.bool true) :=
 VDet.lend (fun H=>zrr m hm H) (.cons (.agg h.lend) (.cons (.refl _) .nil)) rfl
theorem zkg (m:Mdl) (hm:m.Few) (h1:m.facts.length≤100) (h2:m.funcs.length≤100) (h3:m.binds.length≤100) (p:Nat) (H:Heap) (h:MdAt m p H):VCall Tryz.prog 17 [.agg (mdL m p)] H fun r H'=>r=.tup []∧OverR (fun j=>j<p∨p+6+4 * m.funcs.length≤j) H H':=by
 have e1:=zaq (f:=enc64) (sz:=1) zd1 m.rel
 have e2:=zaq (f:=Fct.cells) (sz:=3) zbt m.facts
 have e4:=zaq (f:=Bnd.cells) (sz:=2) zet m.binds
 have hk:∀ {α:Type} (f:α→List AV) (g:Nat→α) (sz:Nat),(∀ x,(f x).length=sz)→(mks f g 12).length=12 * sz:=fun f g sz hs=>by
  unfold mks
  rw [zaq (sz:=sz) (fun j=>hs (g j)),List.length_range]
 have hlt:=(yac.1 h.bin).1
 have at_:∀ {b:Heap} {B C:Blk} {j:Nat},b[j]? = some C→(b++[B])[j]? = some C:=fun hb=>(yaj (yac.1 hb).1).trans hb
 have g1:∀ B,VCall Tryz.prog 53 [.vk (p+2) m.rel.length (m.rel.length+12)] (H++[B]) fun r H'=>r=.tup []∧OverR (fun j=>j≠p+2) (H++[B]) H':=fun B=>zo3 _ _ _ hm.rel (by rw [ya5,e1,hk enc64 mkI 1 zd1];omega) _ (at_ h.rel)
 have g2:∀ b1,OverR (fun j=>j≠p+2) H b1→∀ B,VCall Tryz.prog 54 [.vk (p+3) m.facts.length (m.facts.length+12)] (b1++[B]) fun r H'=>r=.tup []∧OverR (fun j=>j≠p+3) (b1++[B]) H':=fun b1 o1 B=>zve _ _ _ h1 (by rw [ya5,e2,hk Fct.cells mkFc 3 zbt];omega) _ (at_ ((o1.same _ (by omega)).trans h.fac))
 have g3:∀ b2,OverR (fun j=>j≠p+2∧j≠p+3) H b2→∀ B,VCall Tryz.prog 55 [.vk (p+4) m.funcs.length (m.funcs.length+12)] (b2++[B]) fun r H'=>r=.tup []∧OverR (fun j=>j≠p+4∧∀ i,i<m.funcs.length→j≠(p+4)+(1+4 * i)+2) (b2++[B]) H':=fun b2 o2 B=>zq5 m.funcs (p+4) h2 hm.vals _ (mks Fnc.cells mkFn 12) (hk Fnc.cells mkFn 3 zgr) (at_ ((o2.same _ (by omega)).trans h.fun_)) fun i hi=>at_ ((o2.same _ (by omega)).trans (h.val i hi))
 have g4:∀ b3,OverR (fun j=>j=p+5+4 * m.funcs.length) H b3→∀ B,VCall Tryz.prog 56 [.vk (p+5+4 * m.funcs.length) m.binds.length (m.binds.length+12)] (b3++[B]) fun r H'=>r=.tup []∧OverR (fun j=>j≠p+5+4 * m.funcs.length) (b3++[B]) H':=fun b3 o3 B=>zvg _ _ _ h3 (by rw [ya5,e4,hk Bnd.cells mkBd 2 zet];omega) _ (at_ ((o3.same _ rfl).trans h.bin))
 unfold mdL
 generalize m.rel.length=n1 at *
 generalize m.facts.length=n2 at *
 generalize m.funcs.length=n3 at *
 generalize m.binds.length=n4 at *
 refine fdG Tryz.func17 ⟨rfl,rfl,rfl⟩ fun hcl hbl=>?_
 (repeat' ((conv=>whnf);(first|refine CallN.over (fun j=>j≠p+2) (g1 _) rfl rfl (fun j hj=>by omega) fun b1 o1=>?_|refine CallN.over (fun j=>j≠p+3) (g2 _ o1 _) o1.len rfl (fun j hj=>by omega) fun b2 o2=>?_|refine CallN.over (fun j=>j≠p+4∧∀ i,i<n3→j≠(p+4)+(1+4 * i)+2) (g3 _ (o1.trans o2 fun j hj=>hj) _) (o2.len.trans o1.len) rfl (fun j hj=>⟨by omega,fun i hi=>by omega⟩) fun b3 o3=>?_|refine CallN.over (fun j=>j≠p+5+4 * n3) (g4 _ ((o1.trans o2 (S:=fun j=>j≠p+2∧j≠p+3) fun j hj=>hj).trans o3 fun j hj=>⟨by omega,by omega,fun i hi=>by omega⟩) _) (o3.len.trans (o2.len.trans o1.len)) rfl (fun j hj=>by omega) fun b4 o4=>?_|fail)));conv=>whnf
 refine EndN.over (((o1.trans o2 (S:=fun j=>j≠p+2∧j≠p+3) fun j hj=>hj).trans o3 (S:=fun j=>(j<p∨p+6+4 * n3≤j)∨j=p+5+4 * n3) fun j hj=>⟨by omega,by omega,fun i hi=>by omega⟩).trans o4 fun j hj=>⟨.inl hj,by omega⟩)
theorem zv6 (l:List ByteArray) (hl:l.length≤1000) (H:Heap):VDet Tryz.prog 16 [.sk l.length (l.length+12) (l.flatMap encSG++mks encSG mkB 12),.sl none l.length (l.flatMap encSG)] H (.bool true):=by
 rw [zjn]
 have g1:=fun j h=>zuk mkB eN l j h
 have g2:=fun i h=>zuj mkB eN l i h
 have gl:=zn4 mkB l
 generalize l++(List.range 12).map mkB=A at *
 refine fdD Tryz.func16 ⟨rfl,rfl,rfl⟩ fun hcl hbl=>?_
 (repeat' ((conv=>whnf);(first|(refine OrN.r ?_;(conv=>whnf);refine yc7 (l.length+12) (by omega) ?_;(conv=>whnf);refine yaf (by omega) ?_)|(refine yai ?_;first|refine yas ?_|refine yar (by omega) ?_|fail)|refine yck (by omega) ?_|fail)));conv=>whnf
 refine zam Tryz.E0 zaf (σ:=Nat) (fun j=>j≤l.length+12) (fun j=>l.length+12-j) (fun j=>[(6,.v (.int .i64 j))]) (fun _=>_) _ 0 rfl hcl [1,5] rfl (yah _) ⟨⟨_,rfl,yae _⟩,trivial⟩ rfl (fun _ _=>rfl) ?_
 intro j hj
 rcases yag j (l.length+12) with hlt|hge
 ·rcases yag j l.length with h1|h1
  ·have e1:=g1 j h1
   obtain ⟨u,q1⟩:∃ u,encSG (l.getD j eN)=[.str u]:=⟨_,rfl⟩
   have qA:=q1
   rw [← e1] at qA
   (repeat' ((conv=>whnf);(first|(refine yai ?_;first|refine yaq (beq_self_eq_true _) ?_|refine yas ?_|refine yar (by omega) ?_|refine zah (by omega) ?_|fail)|(refine zac _ _ Cst.h Cst.h ?_ ?_;· omega)|(refine yaf ?_ ?_;· first|kernel_rfl|omega|exact yaa _ _|fail)|refine SegN.nthE eN j rfl (by omega) zdz qA ?_|refine SegN.nthE eN j rfl (by omega) zdz q1 ?_|refine zad [] ?_|fail)));conv=>whnf
   (refine ⟨⟨j+1,by show j+1≤_;omega,by omega,?_,.inl ⟨rfl,rfl⟩,rfl,_,rfl,?_⟩⟩;rotate_left 1;exact .inl rfl;exact ⟨⟨_,rfl,yae _⟩,trivial⟩)
  ·obtain ⟨i,rfl⟩:∃ i,j=l.length+i:=⟨j-l.length,by omega⟩
   have hi:i<12:=by omega
   have e1:=g2 i hi
   have hm:=fun H=>zdv i hi H
   have qA:encSG (A.getD (l.length+i) eN)=[.str (mkB i)]:=by rw [e1];rfl
   generalize mkB i=mi at qA hm
   (repeat' ((conv=>whnf);(first|(refine yai ?_;first|refine yaq (beq_self_eq_true _) ?_|refine yas ?_|refine yar (by omega) ?_|refine zah (by omega) ?_|fail)|(refine yct ?_;first|refine zf1 (by omega) ?_|(refine zac _ _ Cst.h Cst.h ?_ ?_;· omega)|fail)|(refine yaf ?_ ?_;· first|kernel_rfl|omega|exact yaa _ _|fail)|refine yan _ (fun _ hq X=>hm _) ?_|refine SegN.nthE eN (l.length+i) rfl (by omega) zdz qA ?_|refine zad [] ?_|fail)));conv=>whnf
   (refine ⟨⟨l.length+i+1,by show l.length+i+1≤_;omega,by omega,?_,.inl ⟨rfl,rfl⟩,rfl,_,rfl,?_⟩⟩;rotate_left 1;exact .inl rfl;exact ⟨⟨_,rfl,yae _⟩,trivial⟩)
 ·have hje:j=l.length+12:=by omega
  subst hje
  (repeat' ((conv=>whnf);(first|refine zah (by omega) ?_|fail)));conv=>whnf
  exact eT trivial
theorem zoi {H:Heap} {l:List ByteArray} {p:Nat} (h:H[p]? = some (.vec 9 1 (l.flatMap encSG++mks encSG mkB 12))):Lend H (.vk p l.length (l.length+12)) (.sk l.length (l.length+12) (l.flatMap encSG++mks encSG mkB 12)) :=
 .vk h (by rw [ya5,zaq (f:=encSG) (sz:=1) zdz];rfl) (LendL.refl _)
theorem zv5 (l:List ByteArray) (hl:l.length≤1000) (p:Nat) (H:Heap) (h:H[p]? = some (.vec 9 1 (l.flatMap encSG++mks encSG mkB 12))):VDet Tryz.prog 16 [.vk p l.length (l.length+12),.sl none l.length (l.flatMap encSG)] H (.bool true) :=
 VDet.lend (fun H=>zv6 l hl H) (.cons (zoi h) (.cons (.refl _) .nil)) rfl
def few13 (m:Mdl):Bool:=decide (m.rel.length≤20)&&(decide (m.facts.length≤12)&&(decide (m.funcs.length≤12)&&decide (m.binds.length≤12)))
theorem zrz (m:Mdl) (H:Heap):VDet Tryz.prog 6 [.agg m.cells] H (.bool (few13 m)):=by
 have hy:(m.rel.length≤20∧m.facts.length≤12∧m.funcs.length≤12∧m.binds.length≤12)→few13 m=true:=fun h=>by unfold few13;simp [h]
 have hn:¬ (m.rel.length≤20∧m.facts.length≤12∧m.funcs.length≤12∧m.binds.length≤12)→few13 m=false:=fun h=>by
  unfold few13
  rw [ybh]
  intro e
  simp only [yak,decide_eq_true_eq] at e
  exact h e
 generalize few13 m=R at *
 obtain ⟨k,n,rel,lp,fs,us,bs⟩:=m
 unfold Mdl.cells
 simp only at hy hn ⊢
 refine fdD Tryz.func6 ⟨rfl,rfl,rfl⟩ fun hcl hbl=>?_
 (repeat' ((conv=>whnf);(first|refine za1 (fun _=>?_) (fun _=>?_)|fail)));all_goals (conv=>whnf)
 all_goals first
  | (refine ya1 trivial (Wk.of_eq ?_);rw [hy (by omega)])
  | (refine ya1 trivial (Wk.of_eq ?_);rw [hn (by omega)])
  | (refine ya1 trivial (Wk.of_eq (congrArg AV.bool ?_));by_cases hb:bs.length≤12;(· rw [hy (by omega)];exact decide_eq_true (by omega));(· rw [hn (by omega)];exact decide_eq_false (by omega)))
  | fail
theorem zw3 (n lp0:Nat) (old:List Nat) (lp:Nat) (h5:old.length≤5) (H:Heap) :
  VDet Tryz.prog 46 [.agg [.int .u8 5,.int .i64 n,.sl none 0 [],.int .i64 lp0,.sl none 0 [],.sl none 0 [],.sl none 0 []],.sl none old.length (old.flatMap encN),.int .i64 lp] H (mdK old.length lp .nils):=by
 refine fdD Tryz.func46 ⟨rfl,rfl,rfl⟩ fun hcl hbl=>?_
 conv=>whnf
 refine zam Tryz.E0 zaf (σ:=Unit) (fun _=>True) (fun _=>0) (fun _=>[(20,.v (.int .i64 (0:Nat)))]) (fun _=>_) _ () rfl hcl [1,6,7,18,19] rfl trivial ⟨⟨_,rfl,yae _⟩,trivial⟩ rfl (fun _ _=>rfl) ?_
 intro _ _
 (repeat' ((conv=>whnf);(first|refine yau rfl ?_|fail)));conv=>whnf
 exact eT (by simp [below,zaa])
theorem Short_0 (n lp:Nat) (ht:(Tr.mk n lp []).Ok) (H:Heap):VDet Tryz.prog 11 [.agg (Tr.mk n lp []).cells] H (.tup [mdK (0+1:Nat) (0:Nat) .nils,.int .i64 0]):=by
 have hv:=fun H=>zev ht H
 have h5:=ht.n5
 have hq0:0<n:=by have:=ht.n1;simp only at this;omega
 have hcells:(Tr.mk n lp []).cells=[.int .u8 5,.int .i64 n,.sl none 0 [],.int .i64 lp,.sl none 0 [],.sl none 0 [],.sl none 0 []]:=rfl
 simp only at h5
 have htk:∀ Z:Heap,VDet Tryz.prog 46 [.agg [.int .u8 5,.int .i64 n,.sl none 0 [],.int .i64 lp,.sl none 0 [],.sl none 0 [],.sl none 0 []],.sl none (0+1) (cel n lp 0 (0+1)),.int .i64 (0:Nat)] Z (mdK (0+1:Nat) (0:Nat) .nils):=fun Z=>by
  have:=zw3 n lp (olds n lp 0 (0+1)) 0 (by rw [za8];omega) Z
  rw [za8] at this
  exact this
 have h1':(Tr.mk 1 0 []).Ok:=⟨yax _,by decide,by decide,by decide,rfl,fun f hf=>(by cases hf),fun i hi=>(by simp at hi)⟩
 have hsa:∀ Z:Heap,VDet Tryz.prog 44 [mdK (0+1:Nat) (0:Nat) .nils,.agg [.int .u8 5,.int .i64 n,.sl none 0 [],.int .i64 lp,.sl none 0 [],.sl none 0 [],.sl none 0 []]] Z (.bool true):=fun Z=>by
  have:=zxo (Tr.mk 1 0 []) (Tr.mk n lp []) h1' ht Z
  exact zbs this ⟨zbm ⟨yae _,yae _,zal,yae _,zal,zal,zal,trivial⟩,yae _,trivial⟩
 have hst5:VCall Tryz.prog 45 [.agg [.int .u8 5,.int .i64 n,.sl none 0 [],.int .i64 lp,.sl none 0 [],.sl none 0 [],.sl none 0 []],.int .i64 (0:Nat)] (H++[.box 27 [.int .u8 5,.int .i64 n,.sl none 0 [],.int .i64 lp,.sl none 0 [],.sl none 0 [],.sl none 0 []],.box 27 [.int .u8 0,.int .i64 0,.nils,.int .i64 0,.nils,.nils,.nils],.box 33 [.int .i64 0],.box 22 [.nils]]) (fun r H'=>r=.clo (.func 89) [] [.ptr (H.length+5) 0,.ptr (H.length+4) 0]∧H'=(H++[.box 27 [.int .u8 5,.int .i64 n,.sl none 0 [],.int .i64 lp,.sl none 0 [],.sl none 0 [],.sl none 0 []],.box 27 [.int .u8 0,.int .i64 0,.nils,.int .i64 0,.nils,.nils,.nils],.box 33 [.int .i64 0],.box 22 [.nils]])++[.box 27 [.int .u8 5,.int .i64 n,.sl none 0 [],.int .i64 lp,.sl none 0 [],.sl none 0 [],.sl none 0 []],.box 3 [.int .i64 (0:Nat)]]):=by
  have:=zmq (Tr.mk n lp []) 0 (H++[.box 27 [.int .u8 5,.int .i64 n,.sl none 0 [],.int .i64 lp,.sl none 0 [],.sl none 0 [],.sl none 0 []],.box 27 [.int .u8 0,.int .i64 0,.nils,.int .i64 0,.nils,.nils,.nils],.box 33 [.int .i64 0],.box 22 [.nils]])
  rw [ya5] at this
  exact this
 have hsm:∀ j,pth n lp 0 j<5:=fun j=>ybw (zoy ht.lp hq0 j) h5
 have hbt:∀ m,zaa m [.int .u8 5,.int .i64 n,.sl none 0 [],.int .i64 lp,.sl none 0 [],.sl none 0 [],.sl none 0 []]:=fun m=>by simp [below,zaa]
 rw [hcells] at hv ⊢
 refine fdD Tryz.func11 ⟨rfl,rfl,rfl⟩ fun hcl hbl=>?_
 (repeat' ((conv=>whnf);(first|(refine yai ?_;first|refine yas ?_|refine yaq rfl ?_|fail)|refine yab _ (hv _) ?_|refine zb1 _ _ _ 6 hst5 rfl rfl rfl ?_|fail)));conv=>whnf
 refine RangeN.tokB 3 0 3 1 rfl rfl rfl rfl rfl ?_
 refine zm0 (Tr.mk n lp []) ht rfl hcl rfl [1,2,3,4] _ rfl (by simp) rfl 0 (pth n lp 0) (fun _ _=>rfl) hsm 4 5
  (fun j=>blk7 [.int .u8 5,.int .i64 n,.sl none 0 [],.int .i64 lp,.sl none 0 [],.sl none 0 [],.sl none 0 []] zm H.length (cel n lp 0 j) j (pth n lp 0 j)) (fun j=>blk7 [.int .u8 5,.int .i64 n,.sl none 0 [],.int .i64 lp,.sl none 0 [],.sl none 0 [],.sl none 0 []] zm H.length (cel n lp 0 (j+1)) (j+1) (pth n lp 0 j)) (blk7 [.int .u8 5,.int .i64 n,.sl none 0 [],.int .i64 lp,.sl none 0 [],.sl none 0 [],.sl none 0 []] [.int .u8 5,.int .i64 (0+1:Nat),.nils,.int .i64 (0:Nat),.nils,.nils,.nils] H.length (cel n lp 0 (0+1)) (0+1) (pth n lp 0 0)) [.box 27 [.int .u8 5,.int .i64 (0+1:Nat),.nils,.int .i64 (0:Nat),.nils,.nils,.nils]] 1 .ret rfl
  (fun _ _=>rfl) (fun _ _=>rfl) rfl rfl (fun _ _=>rfl) (fun _ _=>rfl) (fun _ _=>rfl) (fun _ _=>rfl)
  (fun _ _=>zct hbt (fun m=>by simp [zm,zaa,below]) (zda _ _ _ _)) (by simp [zbe,below,tr]) (fun j hj=>absurd hj (Nat.not_lt_zero j)) ?_ ?_
 ·conv=>whnf
  refine ⟨none,_,zaj rfl,zbj,?_⟩
  (repeat' ((conv=>whnf);(first|refine ydt _ zbj ?_|refine yaf ⟨rfl,rfl,rfl,by dsimp only;omega,by simp only [maxLen];omega⟩ ?_|refine ycd _ (by (repeat' (first|assumption|exact za7 _ rfl|exact zaj rfl|refine zbc (B':=?_) ?_|refine zap ?_|fail))) ?_|fail)));conv=>whnf
  refine zf0 (H++(blk7 [.int .u8 5,.int .i64 n,.sl none 0 [],.int .i64 lp,.sl none 0 [],.sl none 0 [],.sl none 0 []] zm H.length (cel n lp 0 (0+1)) (0+1) (pth n lp 0 0)++[_])) (by rw [← zgu];rfl) ?_
  refine zam Tryz.E0 zaf (σ:=Unit) (fun _=>True) (fun _=>0) (fun _=>[(21,.v (.int .i64 (0:Nat)))]) (fun _=>[]) _ () (by simp [blk7]) (zgt hcl fun C hC=>?_) [1,2,3,4,20] rfl trivial ⟨⟨_,rfl,yae _⟩,trivial⟩ rfl (fun _ _=>rfl) ?_
  ·rcases ybj.1 hC with h|h
   ·exact yde (Nat.le_of_eq (by simp [blk7])) (zct hbt (fun m=>by simp [zm,zaa,below]) (zda _ _ _ _) C h)
   ·simp only [yaz] at h
    subst h
    exact zea (by simp [zbe,below,tr,blk7])
  ·intro _ _
   (repeat' ((conv=>whnf);(first|refine ydt _ zbj ?_|refine yaq rfl ?_|(refine ybk ?_;first|refine yab _ (zbs (htk _) (by (repeat' (first|exact trivial|refine yb3 ?_ ?_|exact yae _|exact wk_sl _ _ _|fail));done)) ?_|refine yab _ (zbs (hsa _) (by (repeat' (first|exact trivial|refine yb3 ?_ ?_|exact yae _|fail));done)) ?_|fail)|refine ycd _ (by (repeat' (first|assumption|exact za7 _ rfl|exact zaj rfl|refine zbc (B':=?_) ?_|refine zap ?_|fail))) ?_|fail)));conv=>whnf
   refine ⟨none,some .ret,false,.done,_,.ret,zaj rfl,rfl,rfl,?_⟩
   rw [zbj,ybe]
   rfl
 ·conv=>whnf
  exact eT (by simp [below,zaa])
theorem zz6 (m:Mdl) (hm:∀ H,VDet Tryz.prog 43 [.agg m.cells] H (.bool false)) (H:Heap):VDet Tryz.prog 11 [.agg m.cells] H (.tup [mdZ,.int .i64 2]):=by
 unfold Mdl.cells at *
 refine fdD Tryz.func11 ⟨rfl,rfl,rfl⟩ fun hcl hbl=>?_
 (repeat' ((conv=>whnf);(first|(refine yai ?_;first|refine yas ?_|refine yau rfl ?_|fail)|refine yab _ (hm _) ?_|fail)));conv=>whnf
 exact eT (by simp [below,zaa])
theorem zot (m:Mdl) (hm:∀ H,VDet Tryz.prog 57 [.agg m.cells] H (.bool false)) (H:Heap):VDet Tryz.prog 20 [.agg m.cells] H (.tup [mdZ,.int .i64 2]):=by
 unfold Mdl.cells at *
 refine fdD Tryz.func20 ⟨rfl,rfl,rfl⟩ fun hcl hbl=>?_
 (repeat' ((conv=>whnf);(first|(refine yai ?_;first|refine yas ?_|refine yau rfl ?_|fail)|refine yab _ (hm _) ?_|fail)));conv=>whnf
 exact eT (by simp [below,zaa])
end
section
theorem zns {P:Program} {F:FuncId} {xs:List AV} {H:Heap} {v v':AV} (h:VDet P F xs H v) (hw:Wk v v'):VDet P F xs H v':=by
 refine ⟨h.1,fun g w cs hH hL=>(h.2 g w cs hH hL).mono ?_⟩
 rintro e' w' ⟨r,H',g',c,rfl,⟨e1,e2⟩,hH',hv,hx⟩
 exact ⟨v',H',g',c,rfl,⟨e1,rfl⟩,hH',hw _ _ _ (e2▸hv),hx⟩
attribute [local irreducible] VW VCall VO bits
theorem zsr (n:Nat) (l r:List AV):Wk (.sl none n (l++r)) (.sl none n l):=fun g w c h=>by
 simp only [VRel] at h ⊢
 obtain ⟨A,cap,h1,h2,h3,-⟩:=h
 refine ⟨A,cap,h1,h2,?_,fun t e=>by cases e⟩
 rcases h3 with h3|⟨b,o,h3,h5⟩
 ·exact .inl (List.append_eq_nil_iff.1 h3).1
 ·exact .inr ⟨b,o,h3,h5.front⟩
abbrev mdW (k sz lp:Int) (w:AV):AV:=.agg [.int .u8 k,.int .i64 sz,.nils,.int .i64 lp,w,.nils,.nils]
theorem same_all (a b:Mdl) (ha:a.facts.length≤12) (hb:b.facts.length≤12) (hna:a.Nm) (hnb:b.Nm):∃ (s:Bool) (e:Int),(∀ H,VDet Tryz.prog 10 [.agg a.cells,.agg b.cells] H (.tup [.bool s,.int .i64 e]))∧(∀ H,VDet Tryz.prog 19 [.agg a.cells,.agg b.cells] H (.tup [.bool s,.int .i64 e])):=by
 have va:=fun H=>zfi a (by omega) hna H
 have vb:=fun H=>zfi b (by omega) hnb H
 have ra:=fun H=>zc0 a (by omega) hna H
 have rb:=fun H=>zc0 b (by omega) hnb H
 by_cases h:zcd a=true∧zcd b=true
 ·obtain ⟨t,ht,e1,-⟩:=tr_of h.1 (by omega) hna
  obtain ⟨u,hu,e2,-⟩:=tr_of h.2 (by omega) hnb
  rw [h.1,e1] at va ra
  rw [h.2,e2] at vb rb
  rw [e1,e2]
  exact ⟨_,_,zz7 t u ht hu va vb,zu5 t u ht hu ra rb⟩
 ·have hxy:zcd a=false∨zcd b=false:=by
   cases hx:zcd a with
   | false=>exact .inl rfl
   | true=>exact .inr (by cases hy:zcd b with
     | false=>rfl
     | true=>exact absurd ⟨hx,hy⟩ h)
  exact ⟨_,_,Same_bad a b _ _ hxy va vb,zqw a b _ _ hxy ra rb⟩
theorem zvl (a:Mdl) (ha:a.facts.length≤12) (hna:a.Nm):∃ (v e:Int),(∀ H,VDet Tryz.prog 12 [.agg a.cells] H (.tup [.int .i64 v,.int .i64 e]))∧(∀ H,VDet Tryz.prog 21 [.agg a.cells] H (.tup [.int .i64 v,.int .i64 e])):=by
 have va:=fun H=>zfi a (by omega) hna H
 have ra:=fun H=>zc0 a (by omega) hna H
 by_cases h:zcd a=true
 ·obtain ⟨t,ht,e1,e2⟩:=tr_of h (by omega) hna
  rw [h,e1] at va ra
  rw [e1]
  have p1:=fun H=>zz8 t ht (by omega) va H
  have p2:=fun H=>zow t ht (by omega) ra H
  unfold numR at p1 p2
  by_cases hc:cntN t.fs.length t.n=0
  ·rw [if_pos hc] at p1 p2
   exact ⟨_,_,p1,p2⟩
  ·rw [if_neg hc] at p1 p2
   exact ⟨_,_,p1,p2⟩
 ·have h:zcd a=false:=by simpa using h
  rw [h] at va ra
  exact ⟨_,_,zwp a va,zmz a ra⟩
theorem min_ex (B:Nat→Nat→Bool) (n j0 x0:Nat) (h:j0<n) (hx:x0≤j0) (hB:B j0 x0=true):∃ K L,K<n∧L≤K∧(∀ j,j<K→∀ x,x≤j→B j x=false)∧(∀ x,x<L→B K x=false)∧B K L=true:=by
 obtain ⟨K,⟨x1,h1,h2⟩,hK⟩:=least (p:=fun j=>∃ x,x≤j∧B j x=true) ⟨j0,x0,hx,hB⟩
 obtain ⟨L,h3,hL⟩:=least (p:=fun x=>B K x=true) ⟨x1,h2⟩
 have hKn:=hK j0 ⟨x0,hx,hB⟩
 have hLx:=hL x1 h2
 refine ⟨K,L,by omega,by omega,fun j hj x hxj=>?_,fun x hxl=>?_,h3⟩
 ·cases hb:B j x with
  | false=>rfl
  | true=>have:=hK j ⟨x,hxj,hb⟩;omega
 ·cases hb:B K x with
  | false=>rfl
  | true=>have:=hL x hb;omega
theorem tk_id (old:List Nat) (m:Nat):∀ k,(∀ s,s<k→old.getD s 0=s)→tkK old m k=m % 2 ^ k
 | 0,_=>by simp [tkK,Nat.mod_one]
 | k+1,h=>by
   show tkK old m k ||| ((m >>> old.getD k 0) &&& 1) <<< k=_
   rw [tk_id old m k (fun s hs=>h s (by omega)),h k (by omega)]
   apply Nat.eq_of_testBit_eq
   intro i
   rw [Nat.testBit_or,Nat.testBit_mod_two_pow,Nat.testBit_mod_two_pow,Nat.testBit_shiftLeft]
   rcases Nat.lt_trichotomy i k with h1|h1|h1
   ·have:¬ (k≤i):=by omega
    simp [h1,this,Nat.lt_succ_of_lt h1]
   ·subst h1
    simp [Nat.testBit_and,Nat.testBit_shiftRight]
   ·have h2:¬ (i<k):=by omega
    have h3:¬ (i<k+1):=by omega
    have h4:((m >>> k) &&& 1).testBit (i-k)=false:=by
     have h5:(m >>> k) &&& 1<2 ^ (i-k):=ybw (yc3 Nat.and_le_right (show 1<2 ^ 1 by decide)) (yb7 (by decide) (by omega))
     exact Nat.testBit_lt_two_pow h5
    rw [h4]
    simp [h2,h3]
theorem sh_full (t:Tr) (ht:t.Ok):shT t (t.n-1) t.lp=t:=by
 have h1:=ht.n1
 have hid:∀ s,s<t.n→(olds t.n t.lp 0 (t.n-1+1)).getD s 0=s:=fun s hs=>by
  rw [zgn _ _ _ (by omega),zxz _ _ _ hs]
 have hl:(olds t.n t.lp 0 (t.n-1+1)).length=t.n:=by rw [za8];omega
 have hf:t.fs.map (tkF (olds t.n t.lp 0 (t.n-1+1)))=t.fs:=by
  apply List.ext_getElem (by simp)
  intro i hi1 hi2
  have hm:=ht.mask i hi2
  have e:ft t.fs i=t.fs[i]:=by simp [ft,List.getD,hi2]
  rw [e] at hm
  rw [List.getElem_map]
  have e2:tkF (olds t.n t.lp 0 (t.n-1+1)) t.fs[i]=(t.fs[i].1,tkK (olds t.n t.lp 0 (t.n-1+1)) t.fs[i].2 t.n):=by
   show (_,tkK _ _ (olds t.n t.lp 0 (t.n-1+1)).length)=_
   rw [hl]
  rw [e2,tk_id _ _ _ hid,Nat.mod_eq_of_lt hm]
 unfold shT zbu
 rw [hf,hl]
theorem zxm (K:Nat) (t:Tr):sameB K t t=true:=by
 unfold sameB rowS
 simp
theorem sh_yes (t:Tr) (ht:t.Ok):shB t (t.n-1) t.lp=true:=by
 unfold shB
 rw [sh_full t ht]
 exact zxm _ _
def fcF (l:List (ByteArray×Nat)):List Fct:=l.map fun p=>⟨p.1,0,p.2⟩
theorem zh1 (l:List (ByteArray×Nat)):(fcF l).flatMap Fct.cells=l.flatMap encT:=by
 unfold fcF
 rw [List.flatMap_map]
 rfl
theorem ziq (l:List (ByteArray×Nat)):(fcF l).length=l.length:=by simp [fcF]
theorem zxk (m:Mdl) (hfl:m.facts.length≤12) (hn:m.Nm):∃ (k sz lp e:Int) (F:List Fct),
  (∀ H,VCall Tryz.prog 11 [.agg m.cells] H fun r H'=>r=.tup [mdW k sz lp (.vs H.length F.length),.int .i64 e]∧H'=H++[.vec 60 3 (F.flatMap Fct.cells)]) ∧
  (∀ H,VDet Tryz.prog 20 [.agg m.cells] H (.tup [mdW k sz lp (.sl none F.length (F.flatMap Fct.cells)),.int .i64 e]))∧F.length≤12:=by
 have va:=fun H=>zfi m (by omega) hn H
 have ra:=fun H=>zc0 m (by omega) hn H
 by_cases h:zcd m=true
 ·obtain ⟨t,ht,e1,e2⟩:=tr_of h (by omega) hn
  rw [e1]
  have hsl:∀ K L,(shT t K L).fs.length=t.fs.length:=fun K L=>by simp [shT,zbu]
  rcases yc4 t.fs.length with h0|h0
  ·obtain ⟨n,lp,fs⟩:=t
   obtain rfl:fs=[]:=ydm.1 h0
   have p1:=fun H=>Short_0 n lp ht H
   have p2:=fun H=>zlu _ ht 0 0 ht.n1 (yax _) (fun j hj=>absurd hj (Nat.not_lt_zero j)) (fun x hx=>absurd hx (Nat.not_lt_zero x)) rfl H
   exact ⟨5,(0+1:Nat),(0:Nat),0,[],fun H=>(p1 H).nilVec 60 3 (.tup (.cons (.agg (.cons (.refl _) (.cons (.refl _) (.cons (.refl _) (.cons (.refl _) (.cons .nil (.cons (.refl _) (.cons (.refl _) .nil)))))))) (.cons (.refl _) .nil))),p2,yah _⟩
  ·obtain ⟨K,L,q1,q2,q3,q4,q5⟩:=min_ex (shB t) t.n (t.n-1) t.lp (by have:=ht.n1;omega) (by have:=ht.lp;omega) (sh_yes t ht)
   have p1:=fun H=>zz5 t ht h0 K L q1 q2 q3 q4 q5 H
   have p2:=fun H=>zlu t ht K L q1 q2 q3 q4 q5 H
   refine ⟨5,(K+1:Nat),L,0,fcF (shT t K L).fs,?_,?_,?_⟩
   ·intro H
    rw [zh1,ziq,hsl]
    exact p1 H
   ·intro H
    rw [zh1,ziq,hsl]
    exact p2 H
   ·rw [ziq,hsl]
    omega
 ·have h:zcd m=false:=by simpa using h
  rw [h] at va ra
  exact ⟨0,0,0,2,[],fun H=>(zz6 m va H).nilVec 60 3 (.tup (.cons (.agg (.cons (.refl _) (.cons (.refl _) (.cons (.refl _) (.cons (.refl _) (.cons .nil (.cons (.refl _) (.cons (.refl _) .nil)))))))) (.cons (.refl _) .nil))),fun H=>zns (zot m ra H) (zhl ⟨zbm ⟨yae _,yae _,yae _,yae _,zal,yae _,yae _,trivial⟩,yae _,trivial⟩),yah _⟩
theorem zj2 (k sz lp:Int) (F:List Fct) (hF:F.length≤1000) (H:Heap) (p:Nat) (h:H[p]? = some (.vec 60 3 (F.flatMap Fct.cells))):VDet Tryz.prog 24 [mdW k sz lp (.vs p F.length),mdW k sz lp (.sl none F.length (F.flatMap Fct.cells))] H (.bool true) :=
 zb8 (.cons (.agg (.cons (.refl _) (.cons (.refl _) (.cons (.refl _) (.cons (.refl _) (.cons (.vs h (zaq (f:=Fct.cells) (sz:=3) zbt F) (LendL.refl _)) (.cons (.refl _) (.cons (.refl _) .nil)))))))) (.cons (.refl _) .nil))
  (fun H=>zg9 ⟨k,sz,[],lp,F,[],[]⟩ ⟨yah _,by show F.length≤_;omega,yah _,yah _,fun f hf=>(by cases hf)⟩ H)
  ⟨zbm ⟨yae _,yae _,zal,yae _,yae _,zal,zal,trivial⟩,zbm ⟨yae _,yae _,zal,yae _,yae _,zal,zal,trivial⟩,trivial⟩ rfl
theorem same_ms (k sz lp:Int) (F:List Fct) (hF:F.length≤1000) (H:Heap) (p s:Nat) (h:H[p]? = some (.box 60 (F.flatMap Fct.cells++List.replicate s .junk))):VDet Tryz.prog 24 [mdW k sz lp (.ms p 0 F.length),mdW k sz lp (.sl none F.length (F.flatMap Fct.cells))] H (.bool true) :=
 zb8 (.cons (.agg (.cons (.refl _) (.cons (.refl _) (.cons (.refl _) (.cons (.refl _) (.cons (.ms h rfl (LendL.refl _)) (.cons (.refl _) (.cons (.refl _) .nil)))))))) (.cons (.refl _) .nil))
  (fun H=>zg9 ⟨k,sz,[],lp,F,[],[]⟩ ⟨yah _,by show F.length≤_;omega,yah _,yah _,fun f hf=>(by cases hf)⟩ H)
  ⟨zbm ⟨yae _,yae _,zal,yae _,zsr _ _ _,zal,zal,trivial⟩,zbm ⟨yae _,yae _,zal,yae _,yae _,zal,zal,trivial⟩,trivial⟩ rfl
def fcN' (l:List ByteArray) (n N i:Nat):Fct:=⟨l.getD i eN,0,(dg n N l.length i:Nat)⟩
theorem zn6 (l:List ByteArray) (n N:Nat):FN l n N 0=((List.range l.length).map (fcN' l n N)).flatMap Fct.cells:=by
 unfold FN
 rw [List.flatMap_map,Nat.sub_zero,List.range_eq_range']
 rfl
theorem nth_all (l:List ByteArray) (hlen:l.length≤20) (hsz:∀ c∈l,c.size≤9223372036854775807) (n N:Int):∃ (k sz lp e:Int) (F:List Fct) (W:Nat→AV) (Bt:Nat→Blk),((W=fun p=>.ms p 0 F.length)∨(W=fun p=>.vs p F.length)) ∧
  (∀ H,VCall Tryz.prog 14 [.sl none l.length (l.flatMap encSG),.int .i64 n,.int .i64 N] H fun r H'=>∃ s,r=.tup [mdW k sz lp (W H.length),.int .i64 e]∧H'=H++[Bt s]) ∧
  (∀ H,VDet Tryz.prog 23 [.sl none l.length (l.flatMap encSG),.int .i64 n,.int .i64 N] H (.tup [mdW k sz lp (.sl none F.length (F.flatMap Fct.cells)),.int .i64 e])) ∧
  (∀ H p s,H[p]? = some (Bt s)→VDet Tryz.prog 24 [mdW k sz lp (W p),mdW k sz lp (.sl none F.length (F.flatMap Fct.cells))] H (.bool true))∧(∀ M s,freeB M (Bt s)):=by
 have hr:=fun H=>ztd l (by omega) hsz n N H
 by_cases he:nthE l n N=0
 ·have hc:cntE l n=0:=by
   unfold nthE at he
   split at he
   ·next h=>exact absurd he h
   ·next h=>simpa using h
  have hN:¬ (N<0∨(cntV l n:Int)≤N):=by
   unfold nthE at he
   rw [if_neg (by simp [hc])] at he
   split at he
   ·cases he
   ·assumption
  obtain ⟨⟨h1,h2⟩,h3,h4⟩:=zr7 hc
  unfold cntV at hN
  rw [if_pos hc] at hN
  obtain ⟨a,rfl⟩:∃ a:Nat,n=a:=⟨n.toNat,by omega⟩
  obtain ⟨b,rfl⟩:∃ b:Nat,N=b:=⟨N.toNat,by omega⟩
  rw [ybn] at h4 hN
  have p1:=fun H=>Nth_ok l (by omega) hsz h3 a (by omega) (by omega) h4 b (by omega) H
  unfold refN at hr
  rw [if_pos he,ybn,ybn,zn6] at hr
  rw [zn6] at p1
  have hFl:((List.range l.length).map (fcN' l a b)).length=l.length:=by simp
  have hlF:l.length=((List.range l.length).map (fcN' l a b)).length:=hFl.symm
  refine ⟨5,a,(b >>> (a * l.length):Nat),0,(List.range l.length).map (fcN' l a b),fun p=>.ms p 0 ((List.range l.length).map (fcN' l a b)).length,fun s=>.box 60 (((List.range l.length).map (fcN' l a b)).flatMap Fct.cells++List.replicate s .junk),.inl rfl,fun H=>?_,fun H=>?_,fun H p s h=>same_ms _ _ _ _ (by omega) H p s h,fun M s=>?_⟩
  ·rw [hFl];exact p1 H
  ·rw [hFl];exact hr H
  ·refine zhx fun v hv=>?_
   rcases ybj.1 hv with h|h
   ·obtain ⟨f,-,hf⟩:=List.mem_flatMap.1 h
    simp only [Fct.cells,yay,ycx,or_false] at hf
    rcases hf with rfl|rfl|rfl <;> trivial
   ·rw [(List.mem_replicate.1 h).2];trivial
 ·have p1:=fun H=>Nth_bad l (by omega) hsz n N he H
  unfold refN at hr
  rw [if_neg he] at hr
  refine ⟨0,0,0,nthE l n N,[],fun p=>.vs p 0,fun _=>.vec 60 3 [],.inr rfl,fun H=>?_,hr,fun H p s h=>zj2 0 0 0 [] (yah _) H p h,fun M s=>trivial⟩
  exact VCall.mono ((p1 H).nilVec 60 3 (.tup (.cons (.agg (.cons (.refl _) (.cons (.refl _) (.cons (.refl _) (.cons (.refl _) (.cons .nil (.cons (.refl _) (.cons (.refl _) .nil)))))))) (.cons (.refl _) .nil)))) fun r H' h=>⟨0,h⟩
end
section
attribute [local irreducible] VW VCall VO bits
theorem znw (t:Tr) (ht:t.Ok) (mask:Nat) (hm:mask<32) (H:Heap):VDet Tryz.prog 118 [.agg t.cells,.int .i64 mask] H (.int .i64 (befN t.n t.lp mask:Nat)):=by
 have hp:=fun x hx H=>zdt t ht x hx H
 obtain ⟨n,lp,fs⟩:=t
 have h1:=ht.n1
 have h2:=ht.n5
 have h3:=ht.lp
 unfold Tr.cells at hp ⊢
 simp only at h1 h2 h3 hp ⊢
 refine fdD Tryz.func118 ⟨rfl,rfl,rfl⟩ fun hcl hbl=>?_
 conv=>whnf
 refine zam Tryz.E0 zaf (σ:=Nat) (fun k=>k≤n) (fun k=>n-k) (fun k=>[(5,.v (.int .i64 (befK n lp mask k:Nat))),(9,.v (.int .i64 k))]) (fun _=>_) _ 0 rfl hcl [1,2,8] rfl (yah _) ⟨⟨_,rfl,yae _⟩,⟨_,rfl,yae _⟩,trivial⟩ rfl (fun _ _=>rfl) ?_
 intro k hk
 have hb:befK n lp mask k<32:=p2_32 (zsb n lp mask k) (by omega)
 have hq:posN n lp (k+1)<5:=ybw (zdm h3) h2
 clear hbl
 (repeat' ((conv=>whnf);(first|refine za1 (fun _=>?_) (fun _=>?_)|(refine yct ?_;first|(refine EqN.and _ _ Cst.h Cst.h ?_ ?_;· (repeat' (first|omega|refine yb3 ?_ ?_|exact zag (by omega)|exact zat (by omega)|refine zbf ?_ ?_|refine zas ?_ ?_|refine za2 ?_ ?_|refine zao ?_ ?_|refine za3 ?_|refine za4 ?_ ?_|refine za5 ?_|refine zag ?_|fail)))|(refine EqN.or _ _ Cst.h Cst.h ?_ ?_;· (repeat' (first|omega|refine yb3 ?_ ?_|exact zag (by omega)|exact zat (by omega)|refine zbf ?_ ?_|refine zas ?_ ?_|refine za2 ?_ ?_|refine zao ?_ ?_|refine za3 ?_|refine za4 ?_ ?_|refine za5 ?_|refine zag ?_|fail)))|(refine zd4 _ _ Cst.h Cst.h rfl ?_ ?_;· (repeat' (first|omega|refine yb3 ?_ ?_|exact zag (by omega)|exact zat (by omega)|refine zbf ?_ ?_|refine zas ?_ ?_|refine za2 ?_ ?_|refine zao ?_ ?_|refine za3 ?_|refine za4 ?_ ?_|refine za5 ?_|refine zag ?_|fail)))|(refine zde _ _ Cst.h Cst.h rfl ?_ ?_ ?_;(· (repeat' (first|omega|refine yb3 ?_ ?_|exact zag (by omega)|exact zat (by omega)|refine zbf ?_ ?_|refine zas ?_ ?_|refine za2 ?_ ?_|refine zao ?_ ?_|refine za3 ?_|refine za4 ?_ ?_|refine za5 ?_|refine zag ?_|fail)));(· (repeat' (first|omega|refine yb3 ?_ ?_|exact zag (by omega)|exact zat (by omega)|refine zbf ?_ ?_|refine zas ?_ ?_|refine za2 ?_ ?_|refine zao ?_ ?_|refine za3 ?_|refine za4 ?_ ?_|refine za5 ?_|refine zag ?_|fail))))|(refine zac _ _ Cst.h Cst.h ?_ ?_;· omega)|fail)|refine yaf (by omega) ?_|refine yab _ (hp (k+1) (by omega) _) ?_|fail)));all_goals (conv=>whnf)
 ·(refine ⟨⟨k+1,by omega,by omega,?_,.inl ⟨rfl,rfl⟩,rfl,_,rfl,?_⟩⟩;rotate_left 1;exact .inl rfl;exact ⟨⟨_,rfl,yae _⟩,⟨_,rfl,yae _⟩,trivial⟩)
 ·have:k=n:=by omega
  subst this
  exact eT trivial
theorem op7_c (t:Tr) (ht:t.Ok) (a b:Nat) (ha:a<32) (H:Heap):VDet Tryz.prog 117 [.int .i64 a,.int .i64 b,.rptr t.cells] H (.int .i64 (befN t.n t.lp a:Nat)):=by
 have hb:=znw t ht a ha
 obtain ⟨n,lp,fs⟩:=t
 unfold Tr.cells at hb ⊢
 simp only at hb ⊢
 refine fdD Tryz.func117 ⟨rfl,rfl,rfl⟩ fun hcl hbl=>?_
 (repeat' ((conv=>whnf);(first|refine yab _ (hb _) ?_|fail)));conv=>whnf
 exact eT trivial
theorem op8i_c (t:Tr) (ht:t.Ok) (a x:Nat) (ha:a<32) (hx:x<32) (H:Heap) (i:Nat) (hi:H[i]? = some (.box 3 [.int .i64 a])):VDet Tryz.prog 121 [.int .i64 x,.ptr i 0,.rptr t.cells] H (.int .i64 (a &&& befN t.n t.lp x:Nat)):=by
 have hb:=znw t ht x hx
 have hl:=p2_32 (zsa t.n t.lp x) ht.n5
 obtain ⟨n,lp,fs⟩:=t
 unfold Tr.cells at hb ⊢
 simp only at hb hl ⊢
 refine fdD Tryz.func121 ⟨rfl,rfl,rfl⟩ fun hcl hbl=>?_
 (repeat' ((conv=>whnf);(first|(refine EqN.and _ _ Cst.h Cst.h ?_ ?_;· (repeat' (first|omega|refine yb3 ?_ ?_|exact zag (by omega)|exact zat (by omega)|refine zbf ?_ ?_|refine zas ?_ ?_|refine za2 ?_ ?_|refine zao ?_ ?_|refine za3 ?_|refine za4 ?_ ?_|refine za5 ?_|refine zag ?_|fail)))|refine yaf (by kernel_rfl) ?_|refine yan _ (fun _ hq X=>hb _) ?_|refine ycd _ (by (repeat' (first|assumption|exact za7 _ rfl|exact zaj rfl|refine zbc (B':=?_) ?_|refine zap ?_|fail))) ?_|refine zad [] ?_|fail)));conv=>whnf
 exact eT trivial
theorem op9i_c (t:Tr) (ht:t.Ok) (a b x:Nat) (ha:a<32) (hbb:b<32) (hx:x<32) (H:Heap) (i j:Nat) (hi:H[i]? = some (.box 3 [.int .i64 a])) (hj:H[j]? = some (.box 3 [.int .i64 b])):VDet Tryz.prog 123 [.int .i64 x,.ptr j 0,.ptr i 0,.rptr t.cells] H (.int .i64 (b ||| (a &&& befN t.n t.lp x):Nat)):=by
 have hb:=znw t ht x hx
 have hl:=p2_32 (zsa t.n t.lp x) ht.n5
 obtain ⟨n,lp,fs⟩:=t
 unfold Tr.cells at hb ⊢
 simp only at hb hl ⊢
 refine fdD Tryz.func123 ⟨rfl,rfl,rfl⟩ fun hcl hbl=>?_
 (repeat' ((conv=>whnf);(first|(refine yct ?_;first|(refine EqN.and _ _ Cst.h Cst.h ?_ ?_;· (repeat' (first|omega|refine yb3 ?_ ?_|exact zag (by omega)|exact zat (by omega)|refine zbf ?_ ?_|refine zas ?_ ?_|refine za2 ?_ ?_|refine zao ?_ ?_|refine za3 ?_|refine za4 ?_ ?_|refine za5 ?_|refine zag ?_|fail)))|(refine EqN.or _ _ Cst.h Cst.h ?_ ?_;· (repeat' (first|omega|refine yb3 ?_ ?_|exact zag (by omega)|exact zat (by omega)|refine zbf ?_ ?_|refine zas ?_ ?_|refine za2 ?_ ?_|refine zao ?_ ?_|refine za3 ?_|refine za4 ?_ ?_|refine za5 ?_|refine zag ?_|fail)))|fail)|refine yaf (by kernel_rfl) ?_|refine yan _ (fun _ hq X=>hb _) ?_|refine ycd _ (by (repeat' (first|assumption|exact za7 _ rfl|exact zaj rfl|refine zbc (B':=?_) ?_|refine zap ?_|fail))) ?_|refine zad [] ?_|fail)));conv=>whnf
 exact eT trivial
theorem op8_c (t:Tr) (ht:t.Ok) (a b:Nat) (ha:a<2 ^ t.n) (H:Heap):VDet Tryz.prog 119 [.int .i64 a,.int .i64 b,.rptr [.int .i64 (every t.n:Nat)],.rptr t.cells] H (.int .i64 (alN t.n t.lp a:Nat)):=by
 have h32:=p2_32 ha ht.n5
 have hs:=zs3 121 [.ptr (H.length+0) 0,.rptr t.cells] (alF t.n t.lp a) 5 (every t.n) (H++[.box 3 [.int .i64 a]]) (fun j _=>al_lt _ _ _ ht.n5 h32 j) (al_fix ht.n5 ht.lp ha) (fun y hy X=>op8i_c t ht a y h32 hy _ _ (za7 X rfl))
 obtain ⟨n,lp,fs⟩:=t
 unfold Tr.cells at hs ⊢
 simp only at hs ⊢
 refine fdD Tryz.func119 ⟨rfl,rfl,rfl⟩ fun hcl hbl=>?_
 (repeat' ((conv=>whnf);(first|refine yab _ (hs) ?_|fail)));conv=>whnf
 exact eT trivial
theorem op9_c (t:Tr) (ht:t.Ok) (a b:Nat) (ha:a<2 ^ t.n) (hb:b<2 ^ t.n) (H:Heap):VDet Tryz.prog 122 [.int .i64 a,.int .i64 b,.rptr t.cells] H (.int .i64 (unN t.n t.lp a b:Nat)):=by
 have h32:=p2_32 ha ht.n5
 have h32b:=p2_32 hb ht.n5
 have hs:=zs3 123 [.ptr (H.length+1) 0,.ptr (H.length+0) 0,.rptr t.cells] (unF t.n t.lp a b) 5 0 (H++[.box 3 [.int .i64 a],.box 3 [.int .i64 b]]) (fun j _=>un_lt _ _ _ _ h32 h32b j) (un_fix ht.n5 ht.lp ha hb) (fun y hy X=>op9i_c t ht a b y h32 h32b hy _ _ _ (za7 X rfl) (za7 X rfl))
 obtain ⟨n,lp,fs⟩:=t
 unfold Tr.cells at hs ⊢
 simp only at hs ⊢
 refine fdD Tryz.func122 ⟨rfl,rfl,rfl⟩ fun hcl hbl=>?_
 (repeat' ((conv=>whnf);(first|refine yab _ (hs) ?_|fail)));conv=>whnf
 exact eT trivial
def opV (t:Tr):List AV:=[.clo (.func 111) [] [],.clo (.func 112) [] [.rptr [.int .i64 (every t.n:Nat)]],.clo (.func 113) [] [],.clo (.func 114) [] [],.clo (.func 115) [] [.rptr [.int .i64 (every t.n:Nat)]],.clo (.func 116) [] [.rptr [.int .i64 (every t.n:Nat)]],
 .clo (.func 117) [] [.rptr t.cells],.clo (.func 119) [] [.rptr [.int .i64 (every t.n:Nat)],.rptr t.cells],.clo (.func 122) [] [.rptr t.cells]]
theorem zq6 (t:Tr) (ht:t.Ok) (H:Heap):VDet Tryz.prog 79 [.agg t.cells] H (.rmp opK (opV t)):=by
 have h1:=ht.n1
 have h2:=ht.n5
 have h3:=zd3 h2
 have h4:1≤1 <<< t.n:=by rw [Nat.shiftLeft_eq];have:=Nat.two_pow_pos t.n;omega
 have h5:1 <<< t.n<64:=by unfold every at h3;omega
 obtain ⟨n,lp,fs⟩:=t
 unfold opV
 unfold Tr.cells
 simp only at h1 h2 h3 h4 h5 ⊢
 refine fdD Tryz.func79 ⟨rfl,rfl,rfl⟩ fun hcl hbl=>?_
 (repeat' ((conv=>whnf);(first|(refine yct ?_;first|(refine zde _ _ Cst.h Cst.h rfl ?_ ?_ ?_;(· (repeat' (first|omega|refine yb3 ?_ ?_|exact zag (by omega)|exact zat (by omega)|refine zbf ?_ ?_|refine zas ?_ ?_|refine za2 ?_ ?_|refine zao ?_ ?_|refine za3 ?_|refine za4 ?_ ?_|refine za5 ?_|refine zag ?_|fail)));(· (repeat' (first|omega|refine yb3 ?_ ?_|exact zag (by omega)|exact zat (by omega)|refine zbf ?_ ?_|refine zas ?_ ?_|refine za2 ?_ ?_|refine zao ?_ ?_|refine za3 ?_|refine za4 ?_ ?_|refine za5 ?_|refine zag ?_|fail))))|(refine zb6 _ _ Cst.h Cst.h ?_ ?_;· omega)|fail)|refine yaf (by omega) ?_|refine ydg _ _ ⟨⟨_,rfl⟩,.new (by kernel_rfl)⟩ ?_|refine yca _ rfl ?_|fail)));conv=>whnf
 refine ydi ?_ ?_ (yae _)
 ·simp [below,zaa,zft,opK,zar]
 ·refine Frz.mp rfl ?_ ?_
  ·(repeat' (first|exact FrzL.nil|refine FrzL.cons ?_ ?_|exact Frz.refl _|fail))
  ·(repeat' (first|exact FrzL.nil|refine FrzL.cons ?_ ?_|refine Frz.clo ?_ ?_|refine Frz.ptr rfl rfl (ydh _)|fail))
inductive Tf where
 | at (c:ByteArray)
 | fa
 | f1 (k:Nat) (a:Tf)
 | f2 (k:Nat) (a b:Tf)
def Tf.op:Tf→Nat
 | .at _=>1
 | .fa=>2
 | .f1 k _=>k
 | .f2 k _ _=>k
def Tf.nmB:Tf→ByteArray
 | .at c=>c
 | _=>.empty
def Tf.sn:Tf→Nat
 | .at _=>0
 | .fa=>0
 | .f1 _ _=>1
 | .f2 _ _ _=>2
def Tf.sc:Tf→List AV
 | .at _=>[]
 | .fa=>[]
 | .f1 _ a=>[.int .u8 a.op,.str a.nmB,.sl none 0 [],.sl none a.sn a.sc]
 | .f2 _ a b=>[.int .u8 a.op,.str a.nmB,.sl none 0 [],.sl none a.sn a.sc,.int .u8 b.op,.str b.nmB,.sl none 0 [],.sl none b.sn b.sc]
def Tf.cells (f:Tf):List AV:=[.int .u8 f.op,.str f.nmB,.sl none 0 [],.sl none f.sn f.sc]
theorem Tf.sc_below (n:Nat):∀ f:Tf,zaa n f.sc
 | .at _=>by simp [Tf.sc,zaa]
 | .fa=>by simp [Tf.sc,zaa]
 | .f1 _ a=>by simp [Tf.sc,below,zaa,a.sc_below n]
 | .f2 _ a b=>by simp [Tf.sc,below,zaa,a.sc_below n,b.sc_below n]
def Tf.Temp:Tf→Prop
 | .at _=>True
 | .fa=>True
 | .f1 k a=>(k=3∨k=12∨k=13)∧a.Temp
 | .f2 k a b=>is2 k∧a.Temp∧b.Temp
def fnd (c:ByteArray):List (ByteArray×Nat)→Option Nat
 | []=>none
 | p::l=>match decide (c=p.1) with
   | true=>some p.2
   | false=>fnd c l
def fk (l:List (ByteArray×Nat)):List AV:=l.map fun p=>.str (p.1)
def fv (l:List (ByteArray×Nat)):List AV:=l.map fun p=>.int .i64 p.2
theorem seq_ba (c d:ByteArray):seq (.str c) (.str d)=some (decide (c=d)):=by
 rw [← zi5];rfl
theorem zm7 (c:ByteArray):∀ l:List (ByteArray×Nat),(fnd c l=none→mfind seq (.str c) (fk l)=some none)∧(∀ v,fnd c l=some v→∃ j,mfind seq (.str c) (fk l)=some (some j)∧(fv l)[j]? = some (.int .i64 v))
 | []=>⟨fun _=>rfl,fun v h=>by cases h⟩
 | p::l=>by
   obtain ⟨i1,i2⟩:=zm7 c l
   simp only [fnd,fk,fv,yb1,mfind,seq_ba]
   cases hc:decide (c=p.1) with
   | true=>exact ⟨fun h=>absurd h (by simp),fun v h=>⟨0,rfl,by simp only [yad] at h;simp [h]⟩⟩
   | false =>
     refine ⟨fun h=>?_,fun v h=>?_⟩
     ·have:=i1 h
      unfold fk at this
      simp only [this]
     ·obtain ⟨j,h1,h2⟩:=i2 v h
      unfold fk at h1
      exact ⟨j+1,by simp only [h1],by simpa [fv] using h2⟩
def evT (t:Tr):Tf→Nat
 | .at c=>(fnd c t.fs).getD 0
 | .fa=>0
 | .f1 k a=>if k=3 then nt (every t.n) (evT t a) else if k=12 then befN t.n t.lp (evT t a) else if k=13 then alN t.n t.lp (evT t a) else 0
 | .f2 k a b=>if k=4 then evT t a &&& evT t b else if k=5 then evT t a ||| evT t b else if k=6 then nt (every t.n) (evT t a) ||| evT t b else if k=7 then nt (every t.n) (evT t a ^^^ evT t b) else if k=14 then unN t.n t.lp (evT t a) (evT t b) else 0
def miss (t:Tr):Tf→Bool
 | .at c=>(fnd c t.fs).isNone
 | .fa=>false
 | .f1 _ a=>miss t a
 | .f2 _ a b=>miss t a || miss t b
theorem fnd_lt {c:ByteArray} {n:Nat}:∀ {l:List (ByteArray×Nat)},(∀ p∈l,p.2<2 ^ n)→∀ v,fnd c l=some v→v<2 ^ n
 | [],_,v,h=>by cases h
 | p::l,hl,v,h=>by
   simp only [fnd] at h
   split at h
   ·simp only [yad] at h;exact h▸hl p (ybc ..)
   ·exact fnd_lt (fun q hq=>hl q (ya4 _ hq)) v h
theorem Tr.Ok.masks {t:Tr} (h:t.Ok):∀ p∈t.fs,p.2<2 ^ t.n:=fun p hp=>by
 obtain ⟨i,hi,rfl⟩:=ydj hp
 have:=h.mask i hi
 simpa [ft,hi] using this
theorem zc9 {t:Tr} (h:t.Ok):∀ f,evT t f<2 ^ t.n
 | .at c=>by
   simp only [evT]
   cases hc:fnd c t.fs with
   | none=>exact Nat.two_pow_pos _
   | some v=>exact fnd_lt h.masks v hc
 | .fa=>Nat.two_pow_pos _
 | .f1 k a=>by
   have ha:=zc9 h a
   simp only [evT]
   repeat' split
   ·exact nt_lt (zh2 _)
   ·exact zsa _ _ _
   ·exact itA_lt ha 5
   ·exact Nat.two_pow_pos _
 | .f2 k a b=>by
   have ha:=zc9 h a
   have hb:=zc9 h b
   simp only [evT]
   repeat' split
   ·exact yc3 Nat.and_le_left ha
   ·exact Nat.or_lt_two_pow ha hb
   ·exact Nat.or_lt_two_pow (nt_lt (zh2 _)) hb
   ·exact nt_lt (zh2 _)
   ·exact itU_lt ha hb 5
   ·exact Nat.two_pow_pos _
structure AtEnv (t:Tr) (H:Heap) (im i1 i2 i3 i4:Nat) (m0:Bool):Prop where
 hm:H[im]? = some (.mp (fk t.fs) (fv t.fs))
 h1:H[i1]? = some (.box 104 [.mp im])
 h2:H[i2]? = some (.box 4 [.bool m0])
 h3:H[i3]? = some (.box 107 [.clo (.func 80) [] [.ptr i1 0,.ptr i2 0,.ptr i3 0,.ptr i4 0]])
 h4:H[i4]? = some (.box 105 [.rmp opK (opV t)])
 ne:i2≠im∧i2≠i1∧i2≠i3∧i2≠i4
theorem AtEnv.app {t:Tr} {H:Heap} {im i1 i2 i3 i4:Nat} {m0:Bool} (e:AtEnv t H im i1 i2 i3 i4 m0) (X:Heap):AtEnv t (H++X) im i1 i2 i3 i4 m0 :=
 ⟨zap e.hm,zap e.h1,zap e.h2,zap e.h3,zap e.h4,e.ne⟩
theorem AtEnv.set {t:Tr} {H:Heap} {im i1 i2 i3 i4:Nat} {m0:Bool} (e:AtEnv t H im i1 i2 i3 i4 m0) (b:Bool):AtEnv t (H.set i2 (.box 4 [.bool b])) im i1 i2 i3 i4 b :=
 ⟨zjm e.ne.1 e.hm,zjm e.ne.2.1 e.h1,zbc e.h2,zjm e.ne.2.2.1 e.h3,zjm e.ne.2.2.2 e.h4,e.ne⟩
def AtIH (t:Tr) (f:Tf):Prop:=∀ (H:Heap) (im i1 i2 i3 i4:Nat) (m0:Bool),AtEnv t H im i1 i2 i3 i4 m0 →
 VCall Tryz.prog 80 [.agg f.cells,.ptr i1 0,.ptr i2 0,.ptr i3 0,.ptr i4 0] H (setR H i2 (.box 4 [.bool (m0 || miss t f)]) (.int .i64 (evT t f:Nat)))
theorem at_fa (t:Tr):AtIH t .fa:=by
 intro H im i1 i2 i3 i4 m0 e
 obtain ⟨hm,h1,h2,h3,h4,hne⟩:=e
 unfold Tf.cells
 simp only [Tf.op,Tf.nmB,Tf.sn,Tf.sc,miss,evT,Bool.or_false]
 unfold opV at h4
 refine fdG Tryz.func80 ⟨rfl,rfl,rfl⟩ fun hcl hbl=>?_
 (repeat' ((conv=>whnf);(first|(refine yai ?_;first|refine yaq rfl ?_|refine yau rfl ?_|fail)|refine yab _ (op1_c 0 0 _) ?_|refine ydg [_] [] ⟨⟨_,rfl⟩,0,by kernel_rfl,rfl⟩ ?_|refine ycd _ (by (repeat' (first|assumption|exact za7 _ rfl|exact zaj rfl|refine zbc (B':=?_) ?_|refine zap ?_|fail))) ?_|fail)));conv=>whnf
 exact EndN.same h2 trivial (yae _)
theorem at_at (t:Tr) (c:ByteArray):AtIH t (.at c):=by
 intro H im i1 i2 i3 i4 m0 e
 obtain ⟨hm,h1,h2,h3,h4,hne⟩:=e
 obtain ⟨m1,m2⟩:=zm7 c t.fs
 unfold Tf.cells
 simp only [Tf.op,Tf.nmB,Tf.sn,Tf.sc,miss,evT]
 cases hc:fnd c t.fs with
 | none =>
   have hl:=m1 hc
   cases m0
   all_goals
    refine fdG Tryz.func80 ⟨rfl,rfl,rfl⟩ fun hcl hbl=>?_
    (repeat' ((conv=>whnf);(first|(refine yai ?_;first|refine yaq rfl ?_|refine yau rfl ?_|fail)|refine ydt _ rfl ?_|refine ydg [] [] ⟨⟨_,rfl⟩,hl⟩ ?_|refine ycd _ (by (repeat' (first|assumption|exact za7 _ rfl|exact zaj rfl|refine zbc (B':=?_) ?_|refine zap ?_|fail))) ?_|fail)));all_goals (conv=>whnf)
    exact zaw (by simp [Blk.below,zaa,below]) trivial (yae _)
 | some v =>
   obtain ⟨j,hj,hv⟩:=m2 v hc
   cases m0
   all_goals
    refine fdG Tryz.func80 ⟨rfl,rfl,rfl⟩ fun hcl hbl=>?_
    (repeat' ((conv=>whnf);(first|(refine yai ?_;first|refine yaq rfl ?_|refine yau rfl ?_|fail)|refine ydt _ rfl ?_|refine ydg [_] [] ⟨⟨_,rfl⟩,j,hj,hv⟩ ?_|refine ycd _ (by (repeat' (first|assumption|exact za7 _ rfl|exact zaj rfl|refine zbc (B':=?_) ?_|refine zap ?_|fail))) ?_|fail)));all_goals (conv=>whnf)
    exact zaw (by simp [Blk.below,zaa,below]) trivial (yae _)
theorem at_f1_3 (t:Tr) (ht:t.Ok) (a:Tf) (ih:AtIH t a) (H:Heap) (im i1 i2 i3 i4:Nat) (m0:Bool) (e:AtEnv t H im i1 i2 i3 i4 m0) :
  VCall Tryz.prog 80 [.agg (Tf.f1 3 a).cells,.ptr i1 0,.ptr i2 0,.ptr i3 0,.ptr i4 0] H (setR H i2 (.box 4 [.bool (m0 || miss t a)]) (.int .i64 (nt (every t.n) (evT t a):Nat))):=by
 have q1:=fun X=>ih (H++X) im i1 i2 i3 i4 m0 (e.app X)
 obtain ⟨rm,r1,r2,r3,r4,-⟩:=e.set (m0 || miss t a)
 obtain ⟨hm,h1,h2,h3,h4,hne⟩:=e
 have ha:=zc9 ht a
 have ha32:=p2_32 ha ht.n5
 have he:=zd3 ht.n5
 rw [show (Tf.f1 3 a).cells=[.int .u8 (3:Nat),.str .empty,.sl none 0 [],.sl none 1 [.int .u8 a.op,.str a.nmB,.sl none 0 [],.sl none a.sn a.sc]] from rfl]
 unfold Tf.cells at q1
 unfold opV at h4 r4
 generalize a.op=ao at q1 ⊢
 generalize a.nmB=an at q1 ⊢
 generalize a.sn=asn at q1 ⊢
 generalize a.sc=asc at q1 ⊢
 refine fdG Tryz.func80 ⟨rfl,rfl,rfl⟩ fun hcl hbl=>?_
 (repeat' ((conv=>whnf);(first|(refine yai ?_;first|refine yaq rfl ?_|refine yau rfl ?_|fail)|(refine yaf ?_ ?_;· first|kernel_rfl|omega|exact yaa _ _|fail)|refine yab _ (op2_c (every t.n) (evT t a) 0 he ha32 _) ?_|refine zb2 i2 _ _ _ _ h2 rfl rfl (q1 _) rfl ?_|refine ydg [_] [] ⟨⟨_,rfl⟩,1,by kernel_rfl,rfl⟩ ?_|refine ycd _ (by (repeat' (first|assumption|exact za7 _ rfl|exact zaj rfl|refine zbc (B':=?_) ?_|refine zap ?_|fail))) ?_|refine ydf _ (zb3 rfl) ?_|refine zad [] ?_|fail)));conv=>whnf
 exact zaw (by simp [Blk.below,zaa,below]) trivial (yae _)
theorem at_f1_12 (t:Tr) (ht:t.Ok) (a:Tf) (ih:AtIH t a) (H:Heap) (im i1 i2 i3 i4:Nat) (m0:Bool) (e:AtEnv t H im i1 i2 i3 i4 m0) :
  VCall Tryz.prog 80 [.agg (Tf.f1 12 a).cells,.ptr i1 0,.ptr i2 0,.ptr i3 0,.ptr i4 0] H (setR H i2 (.box 4 [.bool (m0 || miss t a)]) (.int .i64 (befN t.n t.lp (evT t a):Nat))):=by
 have q1:=fun X=>ih (H++X) im i1 i2 i3 i4 m0 (e.app X)
 obtain ⟨rm,r1,r2,r3,r4,-⟩:=e.set (m0 || miss t a)
 obtain ⟨hm,h1,h2,h3,h4,hne⟩:=e
 have ha:=zc9 ht a
 have ha32:=p2_32 ha ht.n5
 have he:=zd3 ht.n5
 rw [show (Tf.f1 12 a).cells=[.int .u8 (12:Nat),.str .empty,.sl none 0 [],.sl none 1 [.int .u8 a.op,.str a.nmB,.sl none 0 [],.sl none a.sn a.sc]] from rfl]
 unfold Tf.cells at q1
 unfold opV at h4 r4
 generalize a.op=ao at q1 ⊢
 generalize a.nmB=an at q1 ⊢
 generalize a.sn=asn at q1 ⊢
 generalize a.sc=asc at q1 ⊢
 refine fdG Tryz.func80 ⟨rfl,rfl,rfl⟩ fun hcl hbl=>?_
 (repeat' ((conv=>whnf);(first|(refine yai ?_;first|refine yaq rfl ?_|refine yau rfl ?_|fail)|(refine yaf ?_ ?_;· first|kernel_rfl|omega|exact yaa _ _|fail)|refine yab _ (op7_c t ht (evT t a) 0 ha32 _) ?_|refine zb2 i2 _ _ _ _ h2 rfl rfl (q1 _) rfl ?_|refine ydg [_] [] ⟨⟨_,rfl⟩,6,by kernel_rfl,rfl⟩ ?_|refine ycd _ (by (repeat' (first|assumption|exact za7 _ rfl|exact zaj rfl|refine zbc (B':=?_) ?_|refine zap ?_|fail))) ?_|refine ydf _ (zb3 rfl) ?_|refine zad [] ?_|fail)));conv=>whnf
 exact zaw (by simp [Blk.below,zaa,below]) trivial (yae _)
theorem at_f1_13 (t:Tr) (ht:t.Ok) (a:Tf) (ih:AtIH t a) (H:Heap) (im i1 i2 i3 i4:Nat) (m0:Bool) (e:AtEnv t H im i1 i2 i3 i4 m0) :
  VCall Tryz.prog 80 [.agg (Tf.f1 13 a).cells,.ptr i1 0,.ptr i2 0,.ptr i3 0,.ptr i4 0] H (setR H i2 (.box 4 [.bool (m0 || miss t a)]) (.int .i64 (alN t.n t.lp (evT t a):Nat))):=by
 have q1:=fun X=>ih (H++X) im i1 i2 i3 i4 m0 (e.app X)
 obtain ⟨rm,r1,r2,r3,r4,-⟩:=e.set (m0 || miss t a)
 obtain ⟨hm,h1,h2,h3,h4,hne⟩:=e
 have ha:=zc9 ht a
 have ha32:=p2_32 ha ht.n5
 have he:=zd3 ht.n5
 rw [show (Tf.f1 13 a).cells=[.int .u8 (13:Nat),.str .empty,.sl none 0 [],.sl none 1 [.int .u8 a.op,.str a.nmB,.sl none 0 [],.sl none a.sn a.sc]] from rfl]
 unfold Tf.cells at q1
 unfold opV at h4 r4
 generalize a.op=ao at q1 ⊢
 generalize a.nmB=an at q1 ⊢
 generalize a.sn=asn at q1 ⊢
 generalize a.sc=asc at q1 ⊢
 refine fdG Tryz.func80 ⟨rfl,rfl,rfl⟩ fun hcl hbl=>?_
 (repeat' ((conv=>whnf);(first|(refine yai ?_;first|refine yaq rfl ?_|refine yau rfl ?_|fail)|(refine yaf ?_ ?_;· first|kernel_rfl|omega|exact yaa _ _|fail)|refine yab _ (op8_c t ht (evT t a) 0 ha _) ?_|refine zb2 i2 _ _ _ _ h2 rfl rfl (q1 _) rfl ?_|refine ydg [_] [] ⟨⟨_,rfl⟩,7,by kernel_rfl,rfl⟩ ?_|refine ycd _ (by (repeat' (first|assumption|exact za7 _ rfl|exact zaj rfl|refine zbc (B':=?_) ?_|refine zap ?_|fail))) ?_|refine ydf _ (zb3 rfl) ?_|refine zad [] ?_|fail)));conv=>whnf
 exact zaw (by simp [Blk.below,zaa,below]) trivial (yae _)
theorem at_f2_4 (t:Tr) (ht:t.Ok) (a b:Tf) (iha:AtIH t a) (ihb:AtIH t b) (H:Heap) (im i1 i2 i3 i4:Nat) (m0:Bool) (e:AtEnv t H im i1 i2 i3 i4 m0) :
  VCall Tryz.prog 80 [.agg (Tf.f2 4 a b).cells,.ptr i1 0,.ptr i2 0,.ptr i3 0,.ptr i4 0] H (setR H i2 (.box 4 [.bool (m0 || miss t a || miss t b)]) (.int .i64 (evT t a &&& evT t b:Nat))):=by
 have q1:=fun X=>iha (H++X) im i1 i2 i3 i4 m0 (e.app X)
 have q2:=fun X=>ihb (H.set i2 (.box 4 [.bool (m0 || miss t a)])++X) im i1 i2 i3 i4 _ ((e.set (m0 || miss t a)).app X)
 obtain ⟨rm,r1,r2,r3,r4,-⟩:=e.set (m0 || miss t a)
 obtain ⟨sm,s1,s2,s3,s4,-⟩:=e.set (m0 || miss t a || miss t b)
 obtain ⟨hm,h1,h2,h3,h4,hne⟩:=e
 have ha:=zc9 ht a
 have ha32:=p2_32 ha ht.n5
 have hb:=zc9 ht b
 have hb32:=p2_32 hb ht.n5
 have he:=zd3 ht.n5
 rw [show (Tf.f2 4 a b).cells=[.int .u8 (4:Nat),.str .empty,.sl none 0 [],.sl none 2 [.int .u8 a.op,.str a.nmB,.sl none 0 [],.sl none a.sn a.sc,.int .u8 b.op,.str b.nmB,.sl none 0 [],.sl none b.sn b.sc]] from rfl]
 unfold Tf.cells at q1 q2
 unfold opV at h4 r4 s4
 generalize a.op=ao at q1 ⊢
 generalize a.nmB=an at q1 ⊢
 generalize a.sn=asn at q1 ⊢
 generalize a.sc=asc at q1 ⊢
 generalize b.op=bo at q2 ⊢
 generalize b.nmB=bn at q2 ⊢
 generalize b.sn=bsn at q2 ⊢
 generalize b.sc=bsc at q2 ⊢
 refine fdG Tryz.func80 ⟨rfl,rfl,rfl⟩ fun hcl hbl=>?_
 (repeat' ((conv=>whnf);(first|(refine yai ?_;first|refine yaq rfl ?_|refine yau rfl ?_|fail)|(refine yaf ?_ ?_;· first|kernel_rfl|omega|exact yaa _ _|fail)|refine yab _ (op3_c (evT t a) (evT t b) ha32 hb32 _) ?_|refine zb2 i2 _ _ _ _ h2 rfl rfl (q1 _) rfl ?_|refine zb2 i2 _ _ _ _ r2 (by simp) rfl (q2 _) (ycj ..) ?_|refine ydg [_] [] ⟨⟨_,rfl⟩,2,by kernel_rfl,rfl⟩ ?_|refine ycd _ (by (repeat' (first|assumption|exact za7 _ rfl|exact zaj rfl|refine zbc (B':=?_) ?_|refine zap ?_|fail))) ?_|refine ydf _ (zb3 rfl) ?_|refine zad [] ?_|fail)));conv=>whnf
 exact zaw (by simp [Blk.below,zaa,below]) trivial (yae _)
theorem at_f2_5 (t:Tr) (ht:t.Ok) (a b:Tf) (iha:AtIH t a) (ihb:AtIH t b) (H:Heap) (im i1 i2 i3 i4:Nat) (m0:Bool) (e:AtEnv t H im i1 i2 i3 i4 m0) :
  VCall Tryz.prog 80 [.agg (Tf.f2 5 a b).cells,.ptr i1 0,.ptr i2 0,.ptr i3 0,.ptr i4 0] H (setR H i2 (.box 4 [.bool (m0 || miss t a || miss t b)]) (.int .i64 (evT t a ||| evT t b:Nat))):=by
 have q1:=fun X=>iha (H++X) im i1 i2 i3 i4 m0 (e.app X)
 have q2:=fun X=>ihb (H.set i2 (.box 4 [.bool (m0 || miss t a)])++X) im i1 i2 i3 i4 _ ((e.set (m0 || miss t a)).app X)
 obtain ⟨rm,r1,r2,r3,r4,-⟩:=e.set (m0 || miss t a)
 obtain ⟨sm,s1,s2,s3,s4,-⟩:=e.set (m0 || miss t a || miss t b)
 obtain ⟨hm,h1,h2,h3,h4,hne⟩:=e
 have ha:=zc9 ht a
 have ha32:=p2_32 ha ht.n5
 have hb:=zc9 ht b
 have hb32:=p2_32 hb ht.n5
 have he:=zd3 ht.n5
 rw [show (Tf.f2 5 a b).cells=[.int .u8 (5:Nat),.str .empty,.sl none 0 [],.sl none 2 [.int .u8 a.op,.str a.nmB,.sl none 0 [],.sl none a.sn a.sc,.int .u8 b.op,.str b.nmB,.sl none 0 [],.sl none b.sn b.sc]] from rfl]
 unfold Tf.cells at q1 q2
 unfold opV at h4 r4 s4
 generalize a.op=ao at q1 ⊢
 generalize a.nmB=an at q1 ⊢
 generalize a.sn=asn at q1 ⊢
 generalize a.sc=asc at q1 ⊢
 generalize b.op=bo at q2 ⊢
 generalize b.nmB=bn at q2 ⊢
 generalize b.sn=bsn at q2 ⊢
 generalize b.sc=bsc at q2 ⊢
 refine fdG Tryz.func80 ⟨rfl,rfl,rfl⟩ fun hcl hbl=>?_
 (repeat' ((conv=>whnf);(first|(refine yai ?_;first|refine yaq rfl ?_|refine yau rfl ?_|fail)|(refine yaf ?_ ?_;· first|kernel_rfl|omega|exact yaa _ _|fail)|refine yab _ (op4_c (evT t a) (evT t b) ha32 hb32 _) ?_|refine zb2 i2 _ _ _ _ h2 rfl rfl (q1 _) rfl ?_|refine zb2 i2 _ _ _ _ r2 (by simp) rfl (q2 _) (ycj ..) ?_|refine ydg [_] [] ⟨⟨_,rfl⟩,3,by kernel_rfl,rfl⟩ ?_|refine ycd _ (by (repeat' (first|assumption|exact za7 _ rfl|exact zaj rfl|refine zbc (B':=?_) ?_|refine zap ?_|fail))) ?_|refine ydf _ (zb3 rfl) ?_|refine zad [] ?_|fail)));conv=>whnf
 exact zaw (by simp [Blk.below,zaa,below]) trivial (yae _)
theorem at_f2_6 (t:Tr) (ht:t.Ok) (a b:Tf) (iha:AtIH t a) (ihb:AtIH t b) (H:Heap) (im i1 i2 i3 i4:Nat) (m0:Bool) (e:AtEnv t H im i1 i2 i3 i4 m0) :
  VCall Tryz.prog 80 [.agg (Tf.f2 6 a b).cells,.ptr i1 0,.ptr i2 0,.ptr i3 0,.ptr i4 0] H (setR H i2 (.box 4 [.bool (m0 || miss t a || miss t b)]) (.int .i64 (nt (every t.n) (evT t a) ||| evT t b:Nat))):=by
 have q1:=fun X=>iha (H++X) im i1 i2 i3 i4 m0 (e.app X)
 have q2:=fun X=>ihb (H.set i2 (.box 4 [.bool (m0 || miss t a)])++X) im i1 i2 i3 i4 _ ((e.set (m0 || miss t a)).app X)
 obtain ⟨rm,r1,r2,r3,r4,-⟩:=e.set (m0 || miss t a)
 obtain ⟨sm,s1,s2,s3,s4,-⟩:=e.set (m0 || miss t a || miss t b)
 obtain ⟨hm,h1,h2,h3,h4,hne⟩:=e
 have ha:=zc9 ht a
 have ha32:=p2_32 ha ht.n5
 have hb:=zc9 ht b
 have hb32:=p2_32 hb ht.n5
 have he:=zd3 ht.n5
 rw [show (Tf.f2 6 a b).cells=[.int .u8 (6:Nat),.str .empty,.sl none 0 [],.sl none 2 [.int .u8 a.op,.str a.nmB,.sl none 0 [],.sl none a.sn a.sc,.int .u8 b.op,.str b.nmB,.sl none 0 [],.sl none b.sn b.sc]] from rfl]
 unfold Tf.cells at q1 q2
 unfold opV at h4 r4 s4
 generalize a.op=ao at q1 ⊢
 generalize a.nmB=an at q1 ⊢
 generalize a.sn=asn at q1 ⊢
 generalize a.sc=asc at q1 ⊢
 generalize b.op=bo at q2 ⊢
 generalize b.nmB=bn at q2 ⊢
 generalize b.sn=bsn at q2 ⊢
 generalize b.sc=bsc at q2 ⊢
 refine fdG Tryz.func80 ⟨rfl,rfl,rfl⟩ fun hcl hbl=>?_
 (repeat' ((conv=>whnf);(first|(refine yai ?_;first|refine yaq rfl ?_|refine yau rfl ?_|fail)|(refine yaf ?_ ?_;· first|kernel_rfl|omega|exact yaa _ _|fail)|refine yab _ (op5_c (every t.n) (evT t a) (evT t b) he ha32 hb32 _) ?_|refine zb2 i2 _ _ _ _ h2 rfl rfl (q1 _) rfl ?_|refine zb2 i2 _ _ _ _ r2 (by simp) rfl (q2 _) (ycj ..) ?_|refine ydg [_] [] ⟨⟨_,rfl⟩,4,by kernel_rfl,rfl⟩ ?_|refine ycd _ (by (repeat' (first|assumption|exact za7 _ rfl|exact zaj rfl|refine zbc (B':=?_) ?_|refine zap ?_|fail))) ?_|refine ydf _ (zb3 rfl) ?_|refine zad [] ?_|fail)));conv=>whnf
 exact zaw (by simp [Blk.below,zaa,below]) trivial (yae _)
theorem at_f2_7 (t:Tr) (ht:t.Ok) (a b:Tf) (iha:AtIH t a) (ihb:AtIH t b) (H:Heap) (im i1 i2 i3 i4:Nat) (m0:Bool) (e:AtEnv t H im i1 i2 i3 i4 m0) :
  VCall Tryz.prog 80 [.agg (Tf.f2 7 a b).cells,.ptr i1 0,.ptr i2 0,.ptr i3 0,.ptr i4 0] H (setR H i2 (.box 4 [.bool (m0 || miss t a || miss t b)]) (.int .i64 (nt (every t.n) (evT t a ^^^ evT t b):Nat))):=by
 have q1:=fun X=>iha (H++X) im i1 i2 i3 i4 m0 (e.app X)
 have q2:=fun X=>ihb (H.set i2 (.box 4 [.bool (m0 || miss t a)])++X) im i1 i2 i3 i4 _ ((e.set (m0 || miss t a)).app X)
 obtain ⟨rm,r1,r2,r3,r4,-⟩:=e.set (m0 || miss t a)
 obtain ⟨sm,s1,s2,s3,s4,-⟩:=e.set (m0 || miss t a || miss t b)
 obtain ⟨hm,h1,h2,h3,h4,hne⟩:=e
 have ha:=zc9 ht a
 have ha32:=p2_32 ha ht.n5
 have hb:=zc9 ht b
 have hb32:=p2_32 hb ht.n5
 have he:=zd3 ht.n5
 rw [show (Tf.f2 7 a b).cells=[.int .u8 (7:Nat),.str .empty,.sl none 0 [],.sl none 2 [.int .u8 a.op,.str a.nmB,.sl none 0 [],.sl none a.sn a.sc,.int .u8 b.op,.str b.nmB,.sl none 0 [],.sl none b.sn b.sc]] from rfl]
 unfold Tf.cells at q1 q2
 unfold opV at h4 r4 s4
 generalize a.op=ao at q1 ⊢
 generalize a.nmB=an at q1 ⊢
 generalize a.sn=asn at q1 ⊢
 generalize a.sc=asc at q1 ⊢
 generalize b.op=bo at q2 ⊢
 generalize b.nmB=bn at q2 ⊢
 generalize b.sn=bsn at q2 ⊢
 generalize b.sc=bsc at q2 ⊢
 refine fdG Tryz.func80 ⟨rfl,rfl,rfl⟩ fun hcl hbl=>?_
 (repeat' ((conv=>whnf);(first|(refine yai ?_;first|refine yaq rfl ?_|refine yau rfl ?_|fail)|(refine yaf ?_ ?_;· first|kernel_rfl|omega|exact yaa _ _|fail)|refine yab _ (op6_c (every t.n) (evT t a) (evT t b) he ha32 hb32 _) ?_|refine zb2 i2 _ _ _ _ h2 rfl rfl (q1 _) rfl ?_|refine zb2 i2 _ _ _ _ r2 (by simp) rfl (q2 _) (ycj ..) ?_|refine ydg [_] [] ⟨⟨_,rfl⟩,5,by kernel_rfl,rfl⟩ ?_|refine ycd _ (by (repeat' (first|assumption|exact za7 _ rfl|exact zaj rfl|refine zbc (B':=?_) ?_|refine zap ?_|fail))) ?_|refine ydf _ (zb3 rfl) ?_|refine zad [] ?_|fail)));conv=>whnf
 exact zaw (by simp [Blk.below,zaa,below]) trivial (yae _)
theorem at_f2_14 (t:Tr) (ht:t.Ok) (a b:Tf) (iha:AtIH t a) (ihb:AtIH t b) (H:Heap) (im i1 i2 i3 i4:Nat) (m0:Bool) (e:AtEnv t H im i1 i2 i3 i4 m0) :
  VCall Tryz.prog 80 [.agg (Tf.f2 14 a b).cells,.ptr i1 0,.ptr i2 0,.ptr i3 0,.ptr i4 0] H (setR H i2 (.box 4 [.bool (m0 || miss t a || miss t b)]) (.int .i64 (unN t.n t.lp (evT t a) (evT t b):Nat))):=by
 have q1:=fun X=>iha (H++X) im i1 i2 i3 i4 m0 (e.app X)
 have q2:=fun X=>ihb (H.set i2 (.box 4 [.bool (m0 || miss t a)])++X) im i1 i2 i3 i4 _ ((e.set (m0 || miss t a)).app X)
 obtain ⟨rm,r1,r2,r3,r4,-⟩:=e.set (m0 || miss t a)
 obtain ⟨sm,s1,s2,s3,s4,-⟩:=e.set (m0 || miss t a || miss t b)
 obtain ⟨hm,h1,h2,h3,h4,hne⟩:=e
 have ha:=zc9 ht a
 have ha32:=p2_32 ha ht.n5
 have hb:=zc9 ht b
 have hb32:=p2_32 hb ht.n5
 have he:=zd3 ht.n5
 rw [show (Tf.f2 14 a b).cells=[.int .u8 (14:Nat),.str .empty,.sl none 0 [],.sl none 2 [.int .u8 a.op,.str a.nmB,.sl none 0 [],.sl none a.sn a.sc,.int .u8 b.op,.str b.nmB,.sl none 0 [],.sl none b.sn b.sc]] from rfl]
 unfold Tf.cells at q1 q2
 unfold opV at h4 r4 s4
 generalize a.op=ao at q1 ⊢
 generalize a.nmB=an at q1 ⊢
 generalize a.sn=asn at q1 ⊢
 generalize a.sc=asc at q1 ⊢
 generalize b.op=bo at q2 ⊢
 generalize b.nmB=bn at q2 ⊢
 generalize b.sn=bsn at q2 ⊢
 generalize b.sc=bsc at q2 ⊢
 refine fdG Tryz.func80 ⟨rfl,rfl,rfl⟩ fun hcl hbl=>?_
 (repeat' ((conv=>whnf);(first|(refine yai ?_;first|refine yaq rfl ?_|refine yau rfl ?_|fail)|(refine yaf ?_ ?_;· first|kernel_rfl|omega|exact yaa _ _|fail)|refine yab _ (op9_c t ht (evT t a) (evT t b) ha hb _) ?_|refine zb2 i2 _ _ _ _ h2 rfl rfl (q1 _) rfl ?_|refine zb2 i2 _ _ _ _ r2 (by simp) rfl (q2 _) (ycj ..) ?_|refine ydg [_] [] ⟨⟨_,rfl⟩,8,by kernel_rfl,rfl⟩ ?_|refine ycd _ (by (repeat' (first|assumption|exact za7 _ rfl|exact zaj rfl|refine zbc (B':=?_) ?_|refine zap ?_|fail))) ?_|refine ydf _ (zb3 rfl) ?_|refine zad [] ?_|fail)));conv=>whnf
 exact zaw (by simp [Blk.below,zaa,below]) trivial (yae _)
theorem at_c (t:Tr) (ht:t.Ok):∀ f:Tf,f.Temp→AtIH t f
 | .at c,_=>at_at t c
 | .fa,_=>at_fa t
 | .f1 k a,h=>by
   have ih:=at_c t ht a h.2
   intro H im i1 i2 i3 i4 m0 e
   rcases h.1 with rfl|rfl|rfl
   ·exact at_f1_3 t ht a ih H im i1 i2 i3 i4 m0 e
   ·exact at_f1_12 t ht a ih H im i1 i2 i3 i4 m0 e
   ·exact at_f1_13 t ht a ih H im i1 i2 i3 i4 m0 e
 | .f2 k a b,h=>by
   have iha:=at_c t ht a h.2.1
   have ihb:=at_c t ht b h.2.2
   intro H im i1 i2 i3 i4 m0 e
   rw [show (m0 || miss t (.f2 k a b))=(m0 || miss t a || miss t b) from (Bool.or_assoc ..).symm]
   rcases h.1 with rfl|rfl|rfl|rfl|rfl
   ·exact at_f2_4 t ht a b iha ihb H im i1 i2 i3 i4 m0 e
   ·exact at_f2_5 t ht a b iha ihb H im i1 i2 i3 i4 m0 e
   ·exact at_f2_6 t ht a b iha ihb H im i1 i2 i3 i4 m0 e
   ·exact at_f2_7 t ht a b iha ihb H im i1 i2 i3 i4 m0 e
   ·exact at_f2_14 t ht a b iha ihb H im i1 i2 i3 i4 m0 e
theorem zt3 {c:ByteArray}:∀ {l:List (ByteArray×Nat)},(∀ p∈l,c≠p.1)→fnd c l=none
 | [],_=>rfl
 | p::l,h=>by
   have h1:decide (c=p.1)=false:=decide_eq_false (h p (ybc ..))
   simp only [fnd,h1]
   exact zt3 fun q hq=>h q (ya4 _ hq)
theorem fk_succ {l:List (ByteArray×Nat)} {k:Nat} (hk:k<l.length):fk (l.take k)++[.str (ft l k).1]=fk (l.take (k+1)):=zdn (fun p:ByteArray×Nat=>AV.str (p.1)) l p0 k hk
theorem fv_succ {l:List (ByteArray×Nat)} {k:Nat} (hk:k<l.length):fv (l.take k)++[.int .i64 (ft l k).2]=fv (l.take (k+1)):=zdn (fun p:ByteArray×Nat=>AV.int .i64 p.2) l p0 k hk
theorem zhz (n:Nat):∀ l,zaa n (fk l)
 | []=>trivial
 | _::l=>⟨trivial,zhz n l⟩
theorem zhv (n:Nat):∀ l,zaa n (fv l)
 | []=>trivial
 | _::l=>⟨trivial,zhv n l⟩
end
end Go.Proofs.YtjflngchbeegcaaGreatDoor.P10.C
namespace Go.Proofs.YtjflngchbeegcaaGreatDoor.P10
open Go.Vsi
section
def encR (r:Bool×Bool×Nat×Nat×Nat):List AV:=[.bool r.1,.bool r.2.1,.int .u8 r.2.2.1,.int .i64 r.2.2.2.1,.int .i64 r.2.2.2.2]
def rowsL:List (Bool×Bool×Nat×Nat×Nat):=[(false,false,0,0,0),(true,true,1,4,0),(true,true,0,0,0),(true,true,0,0,1),(true,true,0,0,2),(true,true,0,0,2),(true,true,0,0,2),(true,true,0,0,2),(true,true,2,0,1),(true,true,2,0,1),(true,true,0,0,1),(true,true,0,0,1),(true,true,0,0,1),(true,true,0,0,1),(true,true,0,0,2),(false,true,3,0,0),(false,true,3,2,0)]
def row0:Bool×Bool×Nat×Nat×Nat:=(false,false,0,0,0)
def rowK (op:Nat):Bool:=(rowsL.getD op row0).1
def rowN (op:Nat):Nat:=(rowsL.getD op row0).2.2.1
def rowA (op:Nat):Nat:=(rowsL.getD op row0).2.2.2.1
def rowS (op:Nat):Nat:=(rowsL.getD op row0).2.2.2.2
theorem row_ok:∀ op,op<17→(rowsL.getD op row0).1=true→(rowN op=0∨rowN op=1∨rowN op=2)∧op≠16∧rowA op≤4∧rowS op≤2:=by decide
def zfd (s:ByteArray):Bool:=s.toList==ByteArray.empty.toList
def zg0 (k:Nat) (s:ByteArray):Bool:=if k=1 then zec s else if k=2 then isVar s else zfd s
mutual
def jF (d:Nat):Fo→Int→Int×Bool
 | .mk op s l m,L=>if ¬ (1≤L∧d≤40)∨17≤op then (L-1,false) else if rowK op=false then (L-1,false) else if ¬ (zg0 (rowN op) s=true∧l.length≤rowA op∧m.length=rowS op) then (L-1,false) else
   if (jTs (d+1) l (L-1)).2 then jFs (d+1) m (jTs (d+1) l (L-1)).1 else ((jTs (d+1) l (L-1)).1,false)
def jFs (d:Nat):List Fo→Int→Int×Bool
 | [],L=>(L,true)
 | x::l,L=>if (jF d x L).2 then jFs d l (jF d x L).1 else ((jF d x L).1,false)
end
theorem zyt (d:Nat) (L:Int):jFs d [] L=(L,true):=by unfold jFs;rfl
theorem zji (d:Nat) (x:Fo) (l:List Fo) (L:Int):jFs d (x::l) L=if (jF d x L).2 then jFs d l (jF d x L).1 else ((jF d x L).1,false):=by rw [jFs.eq_def]
mutual
theorem jF_bd (d:Nat):∀ (x:Fo) (L:Int),0≤L→-1≤(jF d x L).1∧(jF d x L).1≤L∧((jF d x L).2=true→0≤(jF d x L).1)
 | .mk op s l m,L,h=>by
   unfold jF
   split
   ·exact ⟨by simp only;omega,by simp only;omega,fun h=>by cases h⟩
   ·rename_i h1
    split
    ·exact ⟨by simp only;omega,by simp only;omega,fun h=>by cases h⟩
    ·split
     ·exact ⟨by simp only;omega,by simp only;omega,fun h=>by cases h⟩
     ·have ht:=ztv (d+1) l (L-1) (by omega)
      split
      ·rename_i hb
       have:=jFs_bd (d+1) m _ (ht.2.2 hb)
       exact ⟨this.1,by omega,this.2.2⟩
      ·exact ⟨ht.1,by simp only;omega,fun h=>by cases h⟩
theorem jFs_bd (d:Nat):∀ (l:List Fo) (L:Int),0≤L→-1≤(jFs d l L).1∧(jFs d l L).1≤L∧((jFs d l L).2=true→0≤(jFs d l L).1)
 | [],L,h=>by rw [zyt];exact ⟨by simp only;omega,by simp only;omega,fun _=>h⟩
 | x::l,L,h=>by
   have h1:=jF_bd d x L h
   rw [zji]
   split
   ·rename_i hb
    have h2:=jFs_bd d l _ (h1.2.2 hb)
    exact ⟨h2.1,by omega,h2.2.2⟩
   ·exact ⟨h1.1,h1.2.1,fun h=>by cases h⟩
end
theorem zgx {l l':List AV} {o:Nat} {k:List AV→Prop} (h:l=l') (a:SegN l' o k):SegN l o k:=h▸a
theorem zcl:∀ x:Fo,x.cells.length=4
 | .mk op s l m=>by rw [zan];rfl
attribute [local irreducible] VW VCall VO bits
mutual
theorem tm_below (n:Nat):∀ x:Tm,zaa n x.cells
 | .mk v s l=>by
   rw [zay]
   have:=zbv n l
   simp [zaa,below,this]
theorem zbv (n:Nat):∀ l:List Tm,zaa n (l.flatMap Tm.cells)
 | []=>trivial
 | x::l=>by
   rw [ya6]
   exact (zak _ _).2 ⟨tm_below n x,zbv n l⟩
end
mutual
theorem fo_below (n:Nat):∀ x:Fo,zaa n x.cells
 | .mk op s l m=>by
   rw [zan]
   have:=zbv n l
   have:=zb4 n m
   simp [zaa,below, *]
theorem zb4 (n:Nat):∀ l:List Fo,zaa n (l.flatMap Fo.cells)
 | []=>trivial
 | x::l=>by
   rw [ya6]
   exact (zak _ _).2 ⟨fo_below n x,zb4 n l⟩
end
theorem named_g (k:Nat) (hk:k=0∨k=1∨k=2) (s:ByteArray) (hs:s.size≤9223372036854775807) (H:Heap):VDet Tryz.prog 160 [.int .u8 k,.str s] H (.bool (zg0 k s)):=by
 have hp:=zhc s hs
 have hv:=zlk s hs
 have he:(s.toList==ByteArray.empty.toList)=zfd s:=rfl
 unfold zg0
 rcases hk with rfl|rfl|rfl
 ·simp only [show ¬ (0:Nat)=1 by decide,show ¬ (0:Nat)=2 by decide,if_false]
  refine fdD Tryz.func160 ⟨rfl,rfl,rfl⟩ fun hcl hbl=>?_
  (repeat' ((conv=>whnf);(first|refine yau rfl ?_|fail)));conv=>whnf
  exact ya1 trivial (Wk.of_eq (by rw [← he];rfl))
 ·simp only [if_true]
  refine fdD Tryz.func160 ⟨rfl,rfl,rfl⟩ fun hcl hbl=>?_
  (repeat' ((conv=>whnf);(first|refine yaq rfl ?_|refine yab _ (hp _) ?_|fail)));conv=>whnf
  exact eT trivial
 ·simp only [show ¬ (2:Nat)=1 by decide,if_false,if_true]
  refine fdD Tryz.func160 ⟨rfl,rfl,rfl⟩ fun hcl hbl=>?_
  (repeat' ((conv=>whnf);(first|(refine yai ?_;first|refine yaq rfl ?_|refine yau rfl ?_|fail)|refine yab _ (hv _) ?_|fail)));conv=>whnf
  exact eT trivial
theorem zid:(Tryz.gl[0]).2=rowsL.flatMap encR:=by kernel_rfl
def FormP (x:Fo):Prop:=∀ (H:Heap) (i:Nat) (L:Int) (d:Nat),H[i]? = some (jB L)→0≤L∧L≤400→d≤41→VCall Tryz.prog 139 [.ptr i 0,.agg x.cells,.int .i64 d] H (setR H i (jB (jF d x L).1) (.bool (jF d x L).2))
theorem zy5 (op:Nat) (s:ByteArray) (l:List Tm) (m:List Fo) (hop:op≤255) (hs:s.size≤9223372036854775807) (hll:l.length≤9223372036854775807) (hml:m.length≤9223372036854775807) (hl:zz4 l) (hm:∀ x∈m,FormP x):FormP (.mk op s l m):=by
 intro H i L d hi hL hd
 have hn:=fun X=>node_g (H++X) i L d (zap hi) hL hd
 rw [zan]
 unfold jF
 by_cases h:¬ (1≤L∧d≤40)∨17≤op
 ·rw [if_pos h]
  by_cases h1:1≤L∧d≤40
  ·rw [decide_eq_true h1] at hn
   have h17:17≤op:=by omega
   generalize l.flatMap Tm.cells=lc at *
   generalize m.flatMap Fo.cells=mc at *
   unfold jB at hi hn ⊢
   refine fdG Tryz.func139 ⟨rfl,rfl,rfl⟩ fun hcl hbl=>?_
   (repeat' ((conv=>whnf);(first|(refine yai ?_;first|refine yas ?_|refine yaq rfl ?_|refine yar (by omega) ?_|fail)|refine yck (by omega) ?_|refine zbd i _ _ _ _ hi rfl rfl (hn _) rfl ?_|fail)));conv=>whnf
   exact zaw (by simp [Blk.below,zaa,below]) trivial (yae _)
  ·rw [decide_eq_false h1] at hn
   generalize l.flatMap Tm.cells=lc at *
   generalize m.flatMap Fo.cells=mc at *
   unfold jB at hi hn ⊢
   refine fdG Tryz.func139 ⟨rfl,rfl,rfl⟩ fun hcl hbl=>?_
   (repeat' ((conv=>whnf);(first|(refine yai ?_;first|refine yas ?_|refine yau rfl ?_|fail)|refine zbd i _ _ _ _ hi rfl rfl (hn _) rfl ?_|fail)));conv=>whnf
   exact zaw (by simp [Blk.below,zaa,below]) trivial (yae _)
 ·rw [if_neg h]
  have h1:1≤L∧d≤40:=by omega
  have h17:op<17:=by omega
  rw [decide_eq_true h1] at hn
  have hrow:=row_ok op h17
  have hname:=fun (hk:rowN op=0∨rowN op=1∨rowN op=2)=>named_g (rowN op) hk s hs
  have hrc:encR (rowsL.getD op row0)=[.bool (rowK op),.bool (rowsL.getD op row0).2.1,.int .u8 (rowN op),.int .i64 (rowA op),.int .i64 (rowS op)]:=rfl
  have hrk:(rowsL.getD op row0).1=rowK op:=rfl
  rw [hrk] at hrow
  have ht:=fun X=>hl (H.set i (jB (L-1))++X) i (L-1) (d+1) (zap (zbc hi)) (by omega) (by omega)
  have htb:=ztv (d+1) l (L-1) (by omega)
  generalize (rowsL.getD op row0).2.1=rsch at *
  generalize rowK op=rk at *
  generalize rowN op=rn at *
  generalize rowA op=ra at *
  generalize rowS op=rs at *
  generalize zg0 rn s=nok at *
  generalize hr:jTs (d+1) l (L-1)=r at *
  obtain ⟨M,b⟩:=r
  simp only at ht htb
  have h16:rk=true→op≠16:=fun e=>(hrow e).2.1
  cases rk with
  | false =>
    rw [if_pos rfl]
    generalize l.flatMap Tm.cells=lc at *
    generalize m.flatMap Fo.cells=mc at *
    unfold jB at hi hn ⊢
    refine fdG Tryz.func139 ⟨rfl,rfl,rfl⟩ fun hcl hbl=>?_
    (repeat' ((conv=>whnf);(first|(refine yai ?_;first|refine yas ?_|refine yaq rfl ?_|refine yau rfl ?_|refine zah (by omega) ?_|fail)|refine yck (by omega) ?_|refine yaf (by omega) ?_|refine zbd i _ _ _ _ hi rfl rfl (hn _) rfl ?_|refine zgx zid (SegN.nthE row0 op rfl h17 (fun _=>rfl) hrc ?_)|refine ycd _ (by (repeat' (first|assumption|exact za7 _ rfl|exact zaj rfl|refine zbc (B':=?_) ?_|refine zap ?_|fail))) ?_|fail)));conv=>whnf
    exact zaw (by simp [Blk.below,zaa,below]) trivial (yae _)
  | true =>
    simp only [Bool.true_eq_false,if_false]
    have h16:=h16 rfl
    have hname:=hname (hrow rfl).1
    have hra:=(hrow rfl).2.2.1
    by_cases h2:nok=true∧l.length≤ra∧m.length=rs
    ·rw [if_neg (not_not_intro h2)]
     obtain ⟨rfl,h3,h4⟩:=h2
     cases b with
     | false =>
       simp only [ya9,if_false]
       generalize l.flatMap Tm.cells=lc at *
       generalize m.flatMap Fo.cells=mc at *
       unfold jB at hi hn ht ⊢
       refine fdG Tryz.func139 ⟨rfl,rfl,rfl⟩ fun hcl hbl=>?_
       (repeat' ((conv=>whnf);(first|(refine yai ?_;first|refine yas ?_|refine yaq rfl ?_|refine yau rfl ?_|refine yar (by omega) ?_|refine zah (by omega) ?_|fail)|(refine yct ?_;first|(refine zac _ _ Cst.h Cst.h ?_ ?_;· omega)|refine yck (by omega) ?_|fail)|refine yaf (by omega) ?_|refine yab _ (hname _) ?_|refine zbd i _ _ _ _ hi rfl rfl (hn _) rfl ?_|refine zgx zid (SegN.nthE row0 op rfl h17 (fun _=>rfl) hrc ?_)|refine zbd i _ _ _ _ (zbc hi) (by simp) rfl (ht _) (ycj ..) ?_|fail)));conv=>whnf
       exact zaw (by simp [Blk.below,zaa,below]) trivial (yae _)
     | true =>
       simp only [if_true]
       have hMb:=htb.2.2 rfl
       have hmc:∀ n,zaa n (m.flatMap Fo.cells):=fun n=>zb4 n m
       have hi':=hi
       unfold jB at hi hn ht
       refine fdG Tryz.func139 ⟨rfl,rfl,rfl⟩ fun hcl hbl=>?_
       (repeat' ((conv=>whnf);(first|(refine yai ?_;first|refine yas ?_|refine yaq rfl ?_|refine yar (by omega) ?_|refine zah (by omega) ?_|fail)|(refine yct ?_;first|(refine zac _ _ Cst.h Cst.h ?_ ?_;· omega)|refine yck (by omega) ?_|fail)|refine yaf (by omega) ?_|refine yab _ (hname _) ?_|refine zbd i _ _ _ _ hi rfl rfl (hn _) rfl ?_|refine zgx zid (SegN.nthE row0 op rfl h17 (fun _=>rfl) hrc ?_)|refine zbd i _ _ _ _ (zbc hi) (by simp) rfl (ht _) (ycj ..) ?_|fail)));conv=>whnf
       refine zg1 Tryz.E0 zaf (σ:=Nat×Int) (fun p=>p.1≤m.length∧(0≤p.2∧p.2≤400)∧jFs (d+1) m M=jFs (d+1) (m.drop p.1) p.2) (fun p=>m.length-p.1) (fun p=>[(79,.v (.int .i64 p.1))]) (fun p=>H.set i (jB p.2)) (fun _=>_) _ (0,M) (fun p _=>by simp) (fun p _=>zd0 hcl i _ (zgq _ _)) [0,2,77,78] rfl ⟨yah _,⟨hMb,by omega⟩,rfl⟩ ⟨⟨_,rfl,yae _⟩,trivial⟩ rfl rfl (fun _ _=>rfl) ?_
       rintro ⟨k,N⟩ ⟨hk,hN,hj⟩
       simp only at hk hN hj
       have hNl:(H.set i (jB N)).length=H.length:=by simp
       by_cases hlt:k<m.length
       ·have hmem:=getD_memT m k (Fo.mk 0 .empty [] []) hlt
        rw [zk1 m k (Fo.mk 0 .empty [] []) hlt] at hj
        have hx:=fun X=>hm _ hmem (H.set i (jB N)++X) i N (d+1) (zap (zbc hi')) hN (by omega)
        have hbd:=jF_bd (d+1) (m.getD k (Fo.mk 0 .empty [] [])) N hN.1
        rw [zji] at hj
        obtain ⟨o2,s2,l2,m2,hxe⟩:∃ o2 s2 l2 m2,m.getD k (Fo.mk 0 .empty [] [])=Fo.mk o2 s2 l2 m2:=by
         cases m.getD k (Fo.mk 0 .empty [] []) with
         | mk o2 s2 l2 m2=>exact ⟨o2,s2,l2,m2,rfl⟩
        have hce:(m.getD k (Fo.mk 0 .empty [] [])).cells=[.int .u8 o2,.str s2,.sl none l2.length (l2.flatMap Tm.cells),.sl none m2.length (m2.flatMap Fo.cells)]:=by rw [hxe,zan]
        rw [hce] at hx
        generalize hr2:jF (d+1) (m.getD k (Fo.mk 0 .empty [] [])) N=r2 at *
        obtain ⟨N',b2⟩:=r2
        simp only at hx hbd hj
        generalize hB2:jB N'=B2 at *
        cases b2 with
        | true =>
          (repeat' ((conv=>whnf);(first|(refine yai ?_;first|refine yas ?_|refine yaq rfl ?_|refine yar (by omega) ?_|fail)|(refine zac _ _ Cst.h Cst.h ?_ ?_;· omega)|(refine yaf ?_ ?_;· first|omega|exact yaa _ _|fail)|refine SegN.nthE (Fo.mk 0 .empty [] []) k rfl hlt zcl hce ?_|refine zbd i _ _ _ _ (zbc hi') (by simp) rfl (hx _) (ycj ..) ?_|fail)));conv=>whnf
          subst hB2
          (refine ⟨⟨(k+1,N'),⟨by simp only;omega,⟨hbd.2.2 rfl,by simp only;omega⟩,by simpa using hj⟩,by omega,?_,.inl ⟨rfl,rfl⟩,rfl,_,rfl,?_⟩⟩;rotate_left 1;exact .inr ⟨by simp [zbe,below,zaa,tr,zbv,zb4],by simp [zcj,Blk.below,zaa,below,zbv,zb4]⟩;exact ⟨⟨_,rfl,yae _⟩,trivial⟩)
        | false =>
          (repeat' ((conv=>whnf);(first|(refine yai ?_;first|refine yas ?_|refine yau rfl ?_|refine yar (by omega) ?_|fail)|(refine zac _ _ Cst.h Cst.h ?_ ?_;· omega)|(refine yaf ?_ ?_;· first|omega|exact yaa _ _|fail)|refine SegN.nthE (Fo.mk 0 .empty [] []) k rfl hlt zcl hce ?_|refine zbd i _ _ _ _ (zbc hi') (by simp) rfl (hx _) (ycj ..) ?_|fail)));conv=>whnf
          subst hB2
          simp only [ya9,if_false] at hj
          rw [hj]
          exact zaw (zgq _ _) trivial (yae _)
       ·have hke:k=m.length:=by omega
        subst hke
        rw [ybm,zyt] at hj
        rw [hj]
        (repeat' ((conv=>whnf);(first|refine zah (by omega) ?_|fail)));conv=>whnf
        exact zaw (zgq _ _) trivial (yae _)
    ·rw [if_pos h2]
     generalize l.flatMap Tm.cells=lc at *
     generalize m.flatMap Fo.cells=mc at *
     generalize l.length=ln at *
     generalize m.length=mn at *
     unfold jB at hi hn ⊢
     cases nok with
     | false =>
       refine fdG Tryz.func139 ⟨rfl,rfl,rfl⟩ fun hcl hbl=>?_
       (repeat' ((conv=>whnf);(first|(refine yai ?_;first|refine yas ?_|refine yaq rfl ?_|refine yau rfl ?_|refine zah (by omega) ?_|fail)|refine yck (by omega) ?_|refine yaf (by omega) ?_|refine yab _ (hname _) ?_|refine zbd i _ _ _ _ hi rfl rfl (hn _) rfl ?_|refine zgx zid (SegN.nthE row0 op rfl h17 (fun _=>rfl) hrc ?_)|fail)));conv=>whnf
       exact zaw (by simp [Blk.below,zaa,below]) trivial (yae _)
     | true =>
       by_cases h3:ln≤ra
       ·have h4:¬ mn=rs:=fun e=>h2 ⟨rfl,h3,e⟩
        refine fdG Tryz.func139 ⟨rfl,rfl,rfl⟩ fun hcl hbl=>?_
        (repeat' ((conv=>whnf);(first|(refine yai ?_;first|refine yas ?_|refine yaq rfl ?_|refine zah (by omega) ?_|fail)|refine yck (by omega) ?_|refine yaf (by omega) ?_|refine yab _ (hname _) ?_|refine zbd i _ _ _ _ hi rfl rfl (hn _) rfl ?_|refine zgx zid (SegN.nthE row0 op rfl h17 (fun _=>rfl) hrc ?_)|fail)));conv=>whnf
        exact zaw (by simp [Blk.below,zaa,below]) trivial (yae _)
       ·refine fdG Tryz.func139 ⟨rfl,rfl,rfl⟩ fun hcl hbl=>?_
        (repeat' ((conv=>whnf);(first|(refine yai ?_;first|refine yas ?_|refine yaq rfl ?_|refine yar (by omega) ?_|refine zah (by omega) ?_|fail)|refine yck (by omega) ?_|refine yaf (by omega) ?_|refine yab _ (hname _) ?_|refine zbd i _ _ _ _ hi rfl rfl (hn _) rfl ?_|refine zgx zid (SegN.nthE row0 op rfl h17 (fun _=>rfl) hrc ?_)|fail)));conv=>whnf
        exact zaw (by simp [Blk.below,zaa,below]) trivial (yae _)
mutual
theorem form_g:∀ x:Fo,x.good→FormP x
 | .mk op s l m,h=>zy5 op s l m h.1 (zbq h.2.1) (zbq h.2.2.1) (zbq h.2.2.2.2.1) (zwx l (zbq h.2.2.1) (zjr l h.2.2.2.1)) (zpl m h.2.2.2.2.2)
theorem zpl:∀ l:List Fo,Fo.goodL l→∀ x∈l,FormP x
 | [],_,x,h=>by cases h
 | y::l,hg,x,h=>by
   have h1:=form_g y hg.1
   have h2:=zpl l hg.2
   rcases yay.1 h with e|h
   ·exact e▸h1
   ·exact h2 x h
end
end
end Go.Proofs.YtjflngchbeegcaaGreatDoor.P10
namespace Go.Proofs.YtjflngchbeegcaaGreatDoor.P10.C
open Go.Vsi
section
attribute [local irreducible] VW VCall VO bits
def tm0:Tm:=.mk false .empty []
def fo0:Fo:=.mk 0 .empty [] []
def isQ (op:Nat):Bool:=decide (op=8∨op=9)
theorem zer (f:Fo):∃ a b c1 c d1 d,f.cells=[.int .u8 (a:Nat),.str b,.sl none c1 c,.sl none d1 d]∧∀ n,zaa n c∧zaa n d:=by
 cases f with
 | mk a b c d=>exact ⟨_,_,_,_,_,_,zan a b c d,fun n=>⟨zbv n c,zb4 n d⟩⟩
theorem zoh (f:Tm):∃ a b c1 c,f.cells=[.bool a,.str b,.sl none c1 c]∧∀ n,zaa n c:=by
 cases f with
 | mk a b c=>exact ⟨_,_,_,_,zay a b c,fun n=>zbv n c⟩
theorem zn3 {α:Type} {p:α→Bool} {l:List α} {k:Nat} (d:α) (hk:k<l.length) (h:∀ y∈l.take k,p y=true) (hx:p (l.getD k d)=true):∀ y∈l.take (k+1),p y=true:=by
 intro y hy
 rw [zdr l d k hk] at hy
 rcases ybj.1 hy with hy|hy
 ·exact h y hy
 ·rw [yaz.1 hy]
  exact hx
theorem zsi {α:Type} {p:α→Bool} {l:List α} {k:Nat} (d:α) (hk:k<l.length) (hx:p (l.getD k d)=false):l.all p=false:=by
 rw [ybh]
 intro h
 rw [yao] at h
 rw [h _ (getD_memT l k d hk)] at hx
 cases hx
def mkTm (i:Nat):Tm:=.mk false (mkB i) []
theorem ze7 (i:Nat):(mkTm i).cells=[.bool false,.str (mkB i),.sl none 0 []]:=by
 unfold mkTm
 rw [zay]
 rfl
theorem zl4 (i:Nat) (hi:i<12) (H:Heap):VDet Tryz.prog 137 [.int .i64 1,.int .i64 (i:Nat)] H (.agg (mkTm i).cells):=by
 have h1:=fun H=>zdv i hi H
 rw [ze7]
 generalize mkB i=s at *
 refine fdD Tryz.func137 ⟨rfl,rfl,rfl⟩ fun hcl hbl=>?_
 (repeat' ((conv=>whnf);(first|refine yab _ (h1 _) ?_|fail)));conv=>whnf
 exact ya1 (by simp [below,zaa]) (by (repeat' (first|exact trivial|refine yb3 ?_ ?_|exact yae _|exact zal|refine zbm ?_|fail));done)
def mkFo (i:Nat):Fo:=.mk 0 (mkB i) [] []
theorem ze8 (i:Nat):(mkFo i).cells=[.int .u8 0,.str (mkB i),.sl none 0 [],.sl none 0 []]:=by
 unfold mkFo
 rw [zan]
 rfl
theorem zl6 (i:Nat) (hi:i<12) (H:Heap):VDet Tryz.prog 138 [.int .i64 1,.int .i64 (i:Nat)] H (.agg (mkFo i).cells):=by
 have h1:=fun H=>zdv i hi H
 rw [ze8]
 generalize mkB i=s at *
 refine fdD Tryz.func138 ⟨rfl,rfl,rfl⟩ fun hcl hbl=>?_
 (repeat' ((conv=>whnf);(first|refine yab _ (h1 _) ?_|fail)));conv=>whnf
 exact ya1 (by simp [below,zaa]) (by (repeat' (first|exact trivial|refine yb3 ?_ ?_|exact yae _|exact zal|refine zbm ?_|fail));done)
def mksT (i:Nat):List AV:=(List.range i).flatMap fun j=>(mkTm j).cells
def mksF (i:Nat):List AV:=(List.range i).flatMap fun j=>(mkFo j).cells
theorem zo4 (i:Nat):mksT (i+1)=mksT i++(mkTm i).cells:=by
 unfold mksT
 rw [List.range_succ,ybx]
 simp
theorem zo5 (i:Nat):mksF (i+1)=mksF i++(mkFo i).cells:=by
 unfold mksF
 rw [List.range_succ,ybx]
 simp
theorem zc1 (n:Nat):∀ i,zaa n (mksT i)
 | 0=>trivial
 | i+1=>by rw [zo4,ze7];exact (zak _ _).2 ⟨zc1 n i,by simp [below,zaa]⟩
theorem zdu (n:Nat):∀ i,zaa n (mksF i)
 | 0=>trivial
 | i+1=>by rw [zo5,ze8];exact (zak _ _).2 ⟨zdu n i,by simp [below,zaa]⟩
mutual
def lnT:Tm→List AV
 | .mk v s l=>[.bool v,.str s,.sk l.length (l.length+12) (lnTs l++mksT 12)]
def lnTs:List Tm→List AV
 | []=>[]
 | x::l=>lnT x++lnTs l
end
theorem zl9 (v:Bool) (s:ByteArray) (l:List Tm):lnT (.mk v s l)=[.bool v,.str s,.sk l.length (l.length+12) (lnTs l++mksT 12)]:=by rw [lnT.eq_def]
theorem znb:lnTs []=[]:=by rw [lnTs.eq_def]
theorem zkk (x:Tm) (l:List Tm):lnTs (x::l)=lnT x++lnTs l:=by rw [lnTs.eq_def]
theorem zkj:∀ l:List Tm,lnTs l=l.flatMap lnT
 | []=>znb
 | x::l=>by rw [zkk,zkj l,ya6]
theorem zri (x:Tm):(lnT x).length=3:=by
 cases x
 rw [zl9]
 rfl
mutual
theorem zo9 (n:Nat):∀ x:Tm,zaa n (lnT x)
 | .mk v s l=>by
   rw [zl9]
   exact ⟨trivial,trivial,(zak _ _).2 ⟨zc2 n l,zc1 n 12⟩,trivial⟩
theorem zc2 (n:Nat):∀ l:List Tm,zaa n (lnTs l)
 | []=>by rw [znb];exact trivial
 | x::l=>by rw [zkk];exact (zak _ _).2 ⟨zo9 n x,zc2 n l⟩
end
mutual
def lnF:Fo→List AV
 | .mk op s l m=>[.int .u8 op,.str s,.sk l.length (l.length+12) (lnTs l++mksT 12),.sk m.length (m.length+12) (lnFs m++mksF 12)]
def lnFs:List Fo→List AV
 | []=>[]
 | x::l=>lnF x++lnFs l
end
theorem zma (op:Nat) (s:ByteArray) (l:List Tm) (m:List Fo):lnF (.mk op s l m)=[.int .u8 op,.str s,.sk l.length (l.length+12) (lnTs l++mksT 12),.sk m.length (m.length+12) (lnFs m++mksF 12)]:=by rw [lnF.eq_def]
theorem znc:lnFs []=[]:=by rw [lnFs.eq_def]
theorem zkm (x:Fo) (l:List Fo):lnFs (x::l)=lnF x++lnFs l:=by rw [lnFs.eq_def]
theorem zkl:∀ l:List Fo,lnFs l=l.flatMap lnF
 | []=>znc
 | x::l=>by rw [zkm,zkl l,ya6]
theorem zrj (x:Fo):(lnF x).length=4:=by
 cases x
 rw [zma]
 rfl
mutual
theorem zpb (n:Nat):∀ x:Fo,zaa n (lnF x)
 | .mk op s l m=>by
   rw [zma]
   exact ⟨trivial,trivial,(zak _ _).2 ⟨zc2 n l,zc1 n 12⟩,(zak _ _).2 ⟨zdw n m,zdu n 12⟩,trivial⟩
theorem zdw (n:Nat):∀ l:List Fo,zaa n (lnFs l)
 | []=>by rw [znc];exact trivial
 | x::l=>by rw [zkm];exact (zak _ _).2 ⟨zpb n x,zdw n l⟩
end
mutual
theorem lnT_wk:∀ x:Tm,WkL (lnT x) x.cells
 | .mk v s l=>by
   rw [zl9,zay]
   exact ⟨yae _,yae _,zsq (zrg l),trivial⟩
theorem zrg:∀ l:List Tm,WkL (lnTs l) (l.flatMap Tm.cells)
 | []=>by rw [znb];exact trivial
 | x::l=>by rw [zkk,ya6];exact WkL.app (lnT_wk x) (zrg l)
end
mutual
theorem zpa:∀ x:Fo,WkL (lnF x) x.cells
 | .mk op s l m=>by
   rw [zma,zan]
   exact ⟨yae _,yae _,zsq (zrg l),zsq (zyf m),trivial⟩
theorem zyf:∀ l:List Fo,WkL (lnFs l) (l.flatMap Fo.cells)
 | []=>by rw [znc];exact trivial
 | x::l=>by rw [zkm,ya6];exact WkL.app (zpa x) (zyf l)
end
end
end Go.Proofs.YtjflngchbeegcaaGreatDoor.P10.C
namespace Go.Proofs.YtjflngchbeegcaaGreatDoor.P10
open Go.Vsi
section
attribute [local irreducible] VW VCall VO
def hdB (c:UInt8):UInt8:=UInt8.ofNat (c.toNat / 2)
def nmL (c:UInt8):List UInt8:=if c.toNat % 2=0 then [hdB c] else [hdB c,122,57]
def nm (c:UInt8):ByteArray:=⟨(nmL c).toArray⟩
theorem zh6:∀ a b:List UInt8,Op.bytesLess a b=decide (a<b)
 | [],[]=>rfl
 | [],b::m=>by simp [Op.bytesLess]
 | a::l,[]=>by simp [Op.bytesLess]
 | a::l,b::m=>by
   simp only [Op.bytesLess,zh6 l m]
   apply yb9.2
   simp only [Bool.or_eq_true,yak,decide_eq_true_eq,beq_iff_eq,List.cons_lt_cons_iff]
def cap (c:UInt8):Prop:=130≤c.toNat∧c.toNat≤181
end
end Go.Proofs.YtjflngchbeegcaaGreatDoor.P10
