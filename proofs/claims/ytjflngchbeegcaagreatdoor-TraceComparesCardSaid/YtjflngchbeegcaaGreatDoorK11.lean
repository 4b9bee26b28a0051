/- A text of the proof: the parts OC13c, PC13c, QC13c, RC13c, SC13c, TC13c, UC13c, VC13c, XC13c, YC13c, ZA13c, Y13z, Z13z, A14z, B14z, ZB13c. -/
import Derived.Test.YtjflngchbeegcaaGreatDoorK10
set_option linter.unusedSimpArgs false
set_option linter.unusedVariables false
set_option maxHeartbeats 8000000
namespace Go.Proofs.YtjflngchbeegcaaGreatDoor.P10.C
open Go.Vsi
section
attribute [local irreducible] VW VCall VO bits
def mkB (i:Nat):ByteArray:=strOfB [35,1,0,0,47,(i:Nat),0,0]
theorem mark_c (i:Nat) (hi:i<100) (H:Heap):VDet Tryz.prog 84 [.int .i64 1,.int .i64 (i:Nat)] H (.int .i64 ((8000024+i:Nat):Int)):=by
 refine zag Tryz.E0 zaa Tryz.func84 (by kernel_rfl) rfl (Nat.le_of_ble_eq_true rfl) rfl fun hcl hbl=>?_
 (repeat' ((conv=>whnf);(first|refine EqN.i64 (by omega) ?_|fail)));conv=>whnf
 exact EndN.det trivial (Wk.of_eq (congrArg (AV.int _) (by omega)))
theorem markText_c (i:Nat) (hi:i<12) (H:Heap):VDet Tryz.prog 42 [.int .i64 1,.int .i64 (i:Nat)] H (.str (mkB i)):=by
 have h:i=0∨i=1∨i=2∨i=3∨i=4∨i=5∨i=6∨i=7∨i=8∨i=9∨i=10∨i=11:=by omega
 rcases h with rfl|rfl|rfl|rfl|rfl|rfl|rfl|rfl|rfl|rfl|rfl|rfl
 all_goals
  refine zag Tryz.E0 zaa Tryz.func42 (by kernel_rfl) rfl (Nat.le_of_ble_eq_true rfl) rfl fun hcl hbl=>?_
  (repeat' ((conv=>whnf);(first|(refine EqN.id ?_;first|(refine EqN.shrN _ _ Cst.h Cst.h rfl ?_ ?_;· (repeat' (first|omega|refine And.intro ?_ ?_|exact zad (by omega)|exact zap (by omega)|refine zbb ?_ ?_|refine zao ?_ ?_|refine zau ?_ ?_|refine zal ?_ ?_|refine zav ?_|refine zaw ?_ ?_|refine zax ?_|refine zad ?_|fail)))|refine zbq _ _ Cst.h Cst.h ?_|refine EqN.mk _ rfl ?_|fail)|refine SideN.mk (by omega) ?_|fail)));all_goals (conv=>whnf)
  exact EndN.det trivial (Wk.of_eq rfl)
theorem fct_ex {f x:Fct} (h:x=f):∃ a b c,x=⟨a,b,c⟩∧f.cells=[.str a,.int .i64 b,.int .i64 c]:=⟨_,_,_,rfl,by rw [← h];rfl⟩
theorem fnc_ex {f x:Fnc} (h:x=f):∃ a b c,x=⟨a,b,c⟩∧f.cells=[.str a,.int .i64 b,.sl none c.length (c.flatMap enc64)]:=⟨_,_,_,rfl,by rw [← h];rfl⟩
theorem bnd_ex {f x:Bnd} (h:x=f):∃ a b,x=⟨a,b⟩∧f.cells=[.str a,.int .i64 b]:=⟨_,_,rfl,by rw [← h];rfl⟩
def appC (m:Nat→List AV) (C:List AV):Nat→List AV
 | 0=>C
 | j+1=>appC m C j++m j
theorem appC_below (n:Nat) {m:Nat→List AV} {C:List AV} (hm:∀ i,zac n (m i)) (hC:zac n C):∀ j,zac n (appC m C j)
 | 0=>hC
 | j+1=>(za5 _ _).2 ⟨appC_below n hm hC j,hm j⟩
theorem appC_len {m:Nat→List AV} {C:List AV} {a sz:Nat} (hm:∀ i,(m i).length=sz) (hC:C.length=a * sz):∀ j,(appC m C j).length=(a+j) * sz
 | 0=>hC
 | j+1=>by rw [appC,List.length_append,appC_len hm hC j,hm,← Nat.succ_mul];rfl
theorem allOne_app:∀ a b:List AV,zbl a=true→zbl b=true→zbl (a++b)=true
 | [],b,_,h=>h
 | v::a,b,h1,h2=>by
   unfold zbl at h1
   show zbl (v::(a++b))=true
   unfold zbl
   split at h1
   ·first|exact allOne_app a b h1 h2|(rename_i hv;rw [hv];exact allOne_app a b h1 h2)|fail
   ·cases h1
theorem allOne_flat {α:Type} {f:α→List AV} (hf:∀ x,zbl (f x)=true):∀ l:List α,zbl (l.flatMap f)=true
 | []=>rfl
 | x::l=>by rw [List.flatMap_cons];exact allOne_app _ _ (hf x) (allOne_flat hf l)
def mkI (i:Nat):Int:=((8000024+i:Nat):Int)
def mkFc (i:Nat):Fct:=⟨mkB i,0,0⟩
def mkBd (i:Nat):Bnd:=⟨mkB i,0⟩
def mkFn (i:Nat):Fnc:=⟨mkB i,0,[]⟩
theorem markInt_c (i:Nat) (hi:i<12) (H:Heap):VDet Tryz.prog 84 [.int .i64 1,.int .i64 (i:Nat)] H (.int .i64 (mkI i)):=mark_c i (by omega) H
theorem markFact_c (i:Nat) (hi:i<12) (H:Heap):VDet Tryz.prog 85 [.int .i64 1,.int .i64 (i:Nat)] H (.agg (mkFc i).cells):=by
 have h1:=fun H=>markText_c i hi H
 show VDet _ _ _ _ (.agg [.str (mkB i),.int .i64 0,.int .i64 0])
 generalize mkB i=s at *
 refine zag Tryz.E0 zaa Tryz.func85 (by kernel_rfl) rfl (Nat.le_of_ble_eq_true rfl) rfl fun hcl hbl=>?_
 (repeat' ((conv=>whnf);(first|refine CallN.det _ (h1 _) ?_|fail)));conv=>whnf
 exact EndN.det (by simp [below,zac]) (by exact Wk.refl _)
theorem markBind_c (i:Nat) (hi:i<12) (H:Heap):VDet Tryz.prog 88 [.int .i64 1,.int .i64 (i:Nat)] H (.agg (mkBd i).cells):=by
 have h1:=fun H=>markText_c i hi H
 show VDet _ _ _ _ (.agg [.str (mkB i),.int .i64 0])
 generalize mkB i=s at *
 refine zag Tryz.E0 zaa Tryz.func88 (by kernel_rfl) rfl (Nat.le_of_ble_eq_true rfl) rfl fun hcl hbl=>?_
 (repeat' ((conv=>whnf);(first|refine CallN.det _ (h1 _) ?_|fail)));conv=>whnf
 exact EndN.det (by simp [below,zac]) (by exact Wk.refl _)
theorem markFunc_c (i:Nat) (hi:i<12) (H:Heap):VDet Tryz.prog 87 [.int .i64 1,.int .i64 (i:Nat)] H (.agg (mkFn i).cells):=by
 have h1:=fun H=>markText_c i hi H
 show VDet _ _ _ _ (.agg [.str (mkB i),.int .i64 0,.sl none 0 []])
 generalize mkB i=s at *
 refine zag Tryz.E0 zaa Tryz.func87 (by kernel_rfl) rfl (Nat.le_of_ble_eq_true rfl) rfl fun hcl hbl=>?_
 (repeat' ((conv=>whnf);(first|refine CallN.det _ (h1 _) ?_|fail)));conv=>whnf
 exact EndN.det (by simp [below,zac]) (by (repeat' (first|exact trivial|refine And.intro ?_ ?_|exact Wk.refl _|exact zak|refine zbp ?_|fail));done)
def mks {α:Type} (f:α→List AV) (m:Nat→α) (i:Nat):List AV:=(List.range i).flatMap fun j=>f (m j)
theorem mks_succ {α:Type} (f:α→List AV) (m:Nat→α) (i:Nat):mks f m (i+1)=mks f m i++f (m i):=by
 unfold mks
 rw [List.range_succ,List.flatMap_append]
 simp
theorem appC_G {α:Type} (f:α→List AV) (m:Nat→α) (C:List AV):∀ j,appC (fun i=>f (m i)) C j=C++mks f m j
 | 0=>(List.append_nil C).symm
 | j+1=>by rw [appC,appC_G f m C j,mks_succ,List.append_assoc]
theorem mks_below {α:Type} {f:α→List AV} {m:Nat→α} (n:Nat) (h:∀ x,zac n (f x)) (i:Nat):zac n (mks f m i):=zba _ fun j=>h (m j)
def lnU (f:Fnc):List AV:=[.str f.nm,.int .i64 f.ar,.sk f.vl.length (f.vl.length+12) (f.vl.flatMap enc64++mks enc64 mkI 12)]
theorem lnU_size (f:Fnc):(lnU f).length=3:=rfl
theorem lnU_wk (f:Fnc):WkL (lnU f) f.cells:=⟨Wk.refl _,Wk.refl _,wk_sk _ _ _ _,trivial⟩
theorem lnUs_wk:∀ l:List Fnc,WkL (l.flatMap lnU) (l.flatMap Fnc.cells)
 | []=>trivial
 | x::l=>by rw [List.flatMap_cons,List.flatMap_cons];exact WkL.app (lnU_wk x) (lnUs_wk l)
theorem lnFnc_ex (x:Fnc):∃ v s,∃ z:List Int,x.cells=[.str v,.int .i64 s,.sl none z.length (z.flatMap enc64)]∧lnU x=[.str v,.int .i64 s,.sk z.length (z.length+12) (z.flatMap enc64++mks enc64 mkI 12)]:=by
 obtain ⟨u,v,z⟩:=x
 exact ⟨u,v,z,rfl,rfl⟩
def lnM (m:Mdl):List AV:=[.int .u8 m.kind,.int .i64 m.size,.sk m.rel.length (m.rel.length+12) (m.rel.flatMap enc64++mks enc64 mkI 12),.int .i64 m.loop,.sk m.facts.length (m.facts.length+12) (m.facts.flatMap Fct.cells++mks Fct.cells mkFc 12),.sk m.funcs.length (m.funcs.length+12) (m.funcs.flatMap lnU++mks Fnc.cells mkFn 12),.sk m.binds.length (m.binds.length+12) (m.binds.flatMap Bnd.cells++mks Bnd.cells mkBd 12)]
theorem wk_skL {n m:Nat} {l l' r:List AV} (h:WkL l l'):Wk (.sk n m (l++r)) (.sl none n l'):=Wk.trans (wk_sk n m l r) (wk_slL h)
theorem lnM_wk (m:Mdl):WkL (lnM m) m.cells:=⟨Wk.refl _,Wk.refl _,wk_sk _ _ _ _,Wk.refl _,wk_sk _ _ _ _,wk_skL (lnUs_wk _),wk_sk _ _ _ _,trivial⟩
structure Mdl.Few (m:Mdl):Prop where
 rel:m.rel.length≤17592186044404
 facts:m.facts.length≤1000000
 funcs:m.funcs.length≤1000000
 binds:m.binds.length≤1000000
 vals:∀ f∈m.funcs,f.vl.length≤17592186044404
theorem sb3 (u:ByteArray) (v z:Int):(u.toList==u.toList&&(v==v&&(z==z&&true)))=true:=by simp
theorem sb2 (u:ByteArray) (v:Int):(u.toList==u.toList&&(v==v&&true))=true:=by simp
theorem sameInts_c (l:List Int) (hl:l.length≤17592186044404) (H:Heap):VDet Tryz.prog 62 [.sl none l.length (l.flatMap enc64),.sl none l.length (l.flatMap enc64)] H (.bool true):=by
 refine zag Tryz.E0 zaa Tryz.func62 (by kernel_rfl) rfl (Nat.le_of_ble_eq_true rfl) rfl fun hcl hbl=>?_
 (repeat' ((conv=>whnf);(first|(refine IfN.id ?_;first|refine IfN.not ?_|refine zan (by omega) ?_|fail)|fail)));conv=>whnf
 refine za9 Tryz.E0 zaa (σ:=Nat) (fun j=>j≤l.length) (fun j=>l.length-j) (fun j=>[(5,.v (.int .i64 j))]) (fun _=>_) _ 0 rfl hcl [0,1] rfl (Nat.zero_le _) ⟨⟨_,rfl,Wk.refl _⟩,trivial⟩ rfl (fun _ _=>rfl) ?_
 intro j hj
 rcases Nat.lt_or_ge j l.length with hlt|hge
 ·obtain ⟨u,q1⟩:∃ u,enc64 (l.getD j 0)=[.int .i64 u]:=⟨_,rfl⟩
  (repeat' ((conv=>whnf);(first|(refine IfN.id ?_;first|refine IfN.tt (beq_self_eq_true _) ?_|refine IfN.not ?_|refine zan (by omega) ?_|fail)|(refine zaf _ _ Cst.h Cst.h ?_ ?_;· omega)|(refine SideN.mk ?_ ?_;· first|kernel_rfl|omega|exact List.cons_ne_nil _ _|fail)|refine SegN.nthE 0 j rfl (by omega) i64_size q1 ?_|refine zah [] ?_|fail)));conv=>whnf
  (refine ⟨⟨j+1,by show j+1≤_;omega,by omega,?_,.inl ⟨rfl,rfl⟩,rfl,_,rfl,?_⟩⟩;rotate_left 1;exact .inl rfl;exact ⟨⟨_,rfl,Wk.refl _⟩,trivial⟩)
 ·have hje:j=l.length:=by omega
  subst hje
  (repeat' ((conv=>whnf);(first|refine zas (by omega) ?_|fail)));conv=>whnf
  exact eT trivial
theorem sameFacts_c (l:List Fct) (hl:l.length≤1000000) (H:Heap):VDet Tryz.prog 63 [.sl none l.length (l.flatMap Fct.cells),.sl none l.length (l.flatMap Fct.cells)] H (.bool true):=by
 refine zag Tryz.E0 zaa Tryz.func63 (by kernel_rfl) rfl (Nat.le_of_ble_eq_true rfl) rfl fun hcl hbl=>?_
 (repeat' ((conv=>whnf);(first|(refine IfN.id ?_;first|refine IfN.not ?_|refine zan (by omega) ?_|fail)|fail)));conv=>whnf
 refine za9 Tryz.E0 zaa (σ:=Nat) (fun j=>j≤l.length) (fun j=>l.length-j) (fun j=>[(5,.v (.int .i64 j))]) (fun _=>_) _ 0 rfl hcl [0,1] rfl (Nat.zero_le _) ⟨⟨_,rfl,Wk.refl _⟩,trivial⟩ rfl (fun _ _=>rfl) ?_
 intro j hj
 rcases Nat.lt_or_ge j l.length with hlt|hge
 ·obtain ⟨u,v,z,-,q1⟩:=fct_ex (f:=l.getD j fct0) rfl
  (repeat' ((conv=>whnf);(first|(refine IfN.id ?_;first|refine IfN.tt (sb3 _ _ _) ?_|refine IfN.not ?_|refine zan (by omega) ?_|fail)|(refine zaf _ _ Cst.h Cst.h ?_ ?_;· omega)|(refine SideN.mk ?_ ?_;· first|kernel_rfl|omega|exact List.cons_ne_nil _ _|fail)|refine SegN.nthE fct0 j rfl (by omega) fct_size q1 ?_|refine zah [] ?_|fail)));conv=>whnf
  (refine ⟨⟨j+1,by show j+1≤_;omega,by omega,?_,.inl ⟨rfl,rfl⟩,rfl,_,rfl,?_⟩⟩;rotate_left 1;exact .inl rfl;exact ⟨⟨_,rfl,Wk.refl _⟩,trivial⟩)
 ·have hje:j=l.length:=by omega
  subst hje
  (repeat' ((conv=>whnf);(first|refine zas (by omega) ?_|fail)));conv=>whnf
  exact eT trivial
theorem sameBinds_c (l:List Bnd) (hl:l.length≤1000000) (H:Heap):VDet Tryz.prog 65 [.sl none l.length (l.flatMap Bnd.cells),.sl none l.length (l.flatMap Bnd.cells)] H (.bool true):=by
 refine zag Tryz.E0 zaa Tryz.func65 (by kernel_rfl) rfl (Nat.le_of_ble_eq_true rfl) rfl fun hcl hbl=>?_
 (repeat' ((conv=>whnf);(first|(refine IfN.id ?_;first|refine IfN.not ?_|refine zan (by omega) ?_|fail)|fail)));conv=>whnf
 refine za9 Tryz.E0 zaa (σ:=Nat) (fun j=>j≤l.length) (fun j=>l.length-j) (fun j=>[(5,.v (.int .i64 j))]) (fun _=>_) _ 0 rfl hcl [0,1] rfl (Nat.zero_le _) ⟨⟨_,rfl,Wk.refl _⟩,trivial⟩ rfl (fun _ _=>rfl) ?_
 intro j hj
 rcases Nat.lt_or_ge j l.length with hlt|hge
 ·obtain ⟨u,v,-,q1⟩:=bnd_ex (f:=l.getD j bnd0) rfl
  (repeat' ((conv=>whnf);(first|(refine IfN.id ?_;first|refine IfN.tt (sb2 _ _) ?_|refine IfN.not ?_|refine zan (by omega) ?_|fail)|(refine zaf _ _ Cst.h Cst.h ?_ ?_;· omega)|(refine SideN.mk ?_ ?_;· first|kernel_rfl|omega|exact List.cons_ne_nil _ _|fail)|refine SegN.nthE bnd0 j rfl (by omega) bnd_size q1 ?_|refine zah [] ?_|fail)));conv=>whnf
  (refine ⟨⟨j+1,by show j+1≤_;omega,by omega,?_,.inl ⟨rfl,rfl⟩,rfl,_,rfl,?_⟩⟩;rotate_left 1;exact .inl rfl;exact ⟨⟨_,rfl,Wk.refl _⟩,trivial⟩)
 ·have hje:j=l.length:=by omega
  subst hje
  (repeat' ((conv=>whnf);(first|refine zas (by omega) ?_|fail)));conv=>whnf
  exact eT trivial
theorem sameFunc_c (x:Fnc) (hx:x.vl.length≤17592186044404) (H:Heap):VDet Tryz.prog 94 [.agg x.cells,.agg x.cells] H (.bool true):=by
 have h1:=fun H=>sameInts_c x.vl hx H
 obtain ⟨u,v,z⟩:=x
 unfold Fnc.cells
 simp only at h1 ⊢
 generalize z.flatMap enc64=c at *
 refine zag Tryz.E0 zaa Tryz.func94 (by kernel_rfl) rfl (Nat.le_of_ble_eq_true rfl) rfl fun hcl hbl=>?_
 (repeat' ((conv=>whnf);(first|refine IfN.tt (beq_self_eq_true _) ?_|refine CallN.det _ (h1 _) ?_|fail)));conv=>whnf
 exact eT trivial
theorem sameFuncs_c (l:List Fnc) (hl:l.length≤1000000) (h:∀ x∈l,x.vl.length≤17592186044404) (H:Heap):VDet Tryz.prog 64 [.sl none l.length (l.flatMap Fnc.cells),.sl none l.length (l.flatMap Fnc.cells)] H (.bool true):=by
 refine zag Tryz.E0 zaa Tryz.func64 (by kernel_rfl) rfl (Nat.le_of_ble_eq_true rfl) rfl fun hcl hbl=>?_
 (repeat' ((conv=>whnf);(first|(refine IfN.id ?_;first|refine IfN.not ?_|refine zan (by omega) ?_|fail)|fail)));conv=>whnf
 refine za9 Tryz.E0 zaa (σ:=Nat) (fun j=>j≤l.length) (fun j=>l.length-j) (fun j=>[(5,.v (.int .i64 j))]) (fun _=>_) _ 0 rfl hcl [0,1] rfl (Nat.zero_le _) ⟨⟨_,rfl,Wk.refl _⟩,trivial⟩ rfl (fun _ _=>rfl) ?_
 intro j hj
 rcases Nat.lt_or_ge j l.length with hlt|hge
 ·have hx:=fun H=>sameFunc_c (l.getD j fnc0) (h _ (getD_memT l j fnc0 hlt)) H
  obtain ⟨u,v,z,-,q1⟩:=fnc_ex (f:=l.getD j fnc0) rfl
  rw [q1] at hx
  (repeat' ((conv=>whnf);(first|(refine IfN.id ?_;first|refine IfN.not ?_|refine IfN.tt rfl ?_|refine zan (by omega) ?_|fail)|(refine zaf _ _ Cst.h Cst.h ?_ ?_;· omega)|(refine SideN.mk ?_ ?_;· first|kernel_rfl|omega|exact List.cons_ne_nil _ _|fail)|refine CallD.det _ (fun _ hq X=>hx _) ?_|refine SegN.nthE fnc0 j rfl (by omega) fnc_size q1 ?_|refine zah [] ?_|fail)));conv=>whnf
  (refine ⟨⟨j+1,by show j+1≤_;omega,by omega,?_,.inl ⟨rfl,rfl⟩,rfl,_,rfl,?_⟩⟩;rotate_left 1;exact .inl rfl;exact ⟨⟨_,rfl,Wk.refl _⟩,trivial⟩)
 ·have hje:j=l.length:=by omega
  subst hje
  (repeat' ((conv=>whnf);(first|refine zas (by omega) ?_|fail)));conv=>whnf
  exact eT trivial
theorem sameModel_c (m:Mdl) (hm:m.Few) (H:Heap):VDet Tryz.prog 24 [.agg m.cells,.agg m.cells] H (.bool true):=by
 have h1:=fun H=>sameInts_c m.rel hm.rel H
 have h2:=fun H=>sameFacts_c m.facts hm.facts H
 have h3:=fun H=>sameFuncs_c m.funcs hm.funcs hm.vals H
 have h4:=fun H=>sameBinds_c m.binds hm.binds H
 unfold Mdl.cells
 generalize m.rel.flatMap enc64=c1 at *
 generalize m.facts.flatMap Fct.cells=c2 at *
 generalize m.funcs.flatMap Fnc.cells=c3 at *
 generalize m.binds.flatMap Bnd.cells=c4 at *
 refine zag Tryz.E0 zaa Tryz.func24 (by kernel_rfl) rfl (Nat.le_of_ble_eq_true rfl) rfl fun hcl hbl=>?_
 (repeat' ((conv=>whnf);(first|(refine IfN.id ?_;first|refine IfN.tt (beq_self_eq_true _) ?_|refine IfN.tt rfl ?_|fail)|(refine CallN.id ?_;first|refine CallN.det _ (h1 _) ?_|refine CallN.det _ (h2 _) ?_|refine CallN.det _ (h3 _) ?_|refine CallN.det _ (h4 _) ?_|fail)|fail)));conv=>whnf
 exact eT trivial
theorem all_flat {α:Type} (f:α→List AV) (m:Nat→α) (l:List α):l.flatMap f++mks f m 12=(l++(List.range 12).map m).flatMap f:=by
 rw [List.flatMap_append]
 congr 1
theorem EqN.subL {k:Int→Prop} {n i:Nat} (h:i≤12) (a:k i):EqN (IntKind.i64.wrap (((n+i:Nat):Int)-(n:Int))) k:=by
 refine EqN.i64 (by omega) ?_
 rw [show ((n+i:Nat):Int)-(n:Int)=i by omega]
 exact a
theorem all_g1 {α:Type} (m:Nat→α) (d:α) (l:List α) (j:Nat) (h:j<l.length):(l++(List.range 12).map m).getD j d=l.getD j d:=by
 rw [List.getD_eq_getElem?_getD,List.getElem?_append_left h,← List.getD_eq_getElem?_getD]
theorem all_g2 {α:Type} (m:Nat→α) (d:α) (l:List α) (i:Nat) (h:i<12):(l++(List.range 12).map m).getD (l.length+i) d=m i:=by
 rw [List.getD_eq_getElem?_getD,List.getElem?_append_right (by omega),Nat.add_sub_cancel_left,List.getElem?_map,List.getElem?_range h]
 rfl
theorem all_len {α:Type} (m:Nat→α) (l:List α):(l++(List.range 12).map m).length=l.length+12:=by simp
theorem keptInts_c (l:List Int) (hl:l.length≤17592186044404) (H:Heap):VDet Tryz.prog 49 [.sk l.length (l.length+12) (l.flatMap enc64++mks enc64 mkI 12),.sl none l.length (l.flatMap enc64)] H (.bool true):=by
 rw [all_flat]
 have g1:=fun j h=>all_g1 mkI (0:Int) l j h
 have g2:=fun i h=>all_g2 mkI (0:Int) l i h
 have gl:=all_len mkI l
 generalize l++(List.range 12).map mkI=A at *
 refine zag Tryz.E0 zaa Tryz.func49 (by kernel_rfl) rfl (Nat.le_of_ble_eq_true rfl) rfl fun hcl hbl=>?_
 (repeat' ((conv=>whnf);(first|(refine OrN.r ?_;(conv=>whnf);refine NatN.mk (l.length+12) (by omega) ?_;(conv=>whnf);refine SideN.mk (by omega) ?_)|(refine IfN.id ?_;first|refine IfN.not ?_|refine zan (by omega) ?_|fail)|refine EqN.i64 (by omega) ?_|fail)));conv=>whnf
 refine za9 Tryz.E0 zaa (σ:=Nat) (fun j=>j≤l.length+12) (fun j=>l.length+12-j) (fun j=>[(6,.v (.int .i64 j))]) (fun _=>_) _ 0 rfl hcl [1,5] rfl (Nat.zero_le _) ⟨⟨_,rfl,Wk.refl _⟩,trivial⟩ rfl (fun _ _=>rfl) ?_
 intro j hj
 rcases Nat.lt_or_ge j (l.length+12) with hlt|hge
 ·rcases Nat.lt_or_ge j l.length with h1|h1
  ·have e1:=g1 j h1
   obtain ⟨u,q1⟩:∃ u,enc64 (l.getD j 0)=[.int .i64 u]:=⟨_,rfl⟩
   have qA:=q1
   rw [← e1] at qA
   (repeat' ((conv=>whnf);(first|(refine IfN.id ?_;first|refine IfN.tt (beq_self_eq_true _) ?_|refine IfN.not ?_|refine zan (by omega) ?_|refine zas (by omega) ?_|fail)|(refine zaf _ _ Cst.h Cst.h ?_ ?_;· omega)|(refine SideN.mk ?_ ?_;· first|kernel_rfl|omega|exact List.cons_ne_nil _ _|fail)|refine SegN.nthE 0 j rfl (by omega) i64_size qA ?_|refine SegN.nthE 0 j rfl (by omega) i64_size q1 ?_|refine zah [] ?_|fail)));conv=>whnf
   (refine ⟨⟨j+1,by show j+1≤_;omega,by omega,?_,.inl ⟨rfl,rfl⟩,rfl,_,rfl,?_⟩⟩;rotate_left 1;exact .inl rfl;exact ⟨⟨_,rfl,Wk.refl _⟩,trivial⟩)
  ·obtain ⟨i,rfl⟩:∃ i,j=l.length+i:=⟨j-l.length,by omega⟩
   have hi:i<12:=by omega
   have e1:=g2 i hi
   have hm:=fun H=>markInt_c i hi H
   have qA:enc64 (A.getD (l.length+i) 0)=[.int .i64 (mkI i)]:=by rw [e1];rfl
   generalize mkI i=mi at qA hm
   (repeat' ((conv=>whnf);(first|(refine IfN.id ?_;first|refine IfN.tt (beq_self_eq_true _) ?_|refine IfN.not ?_|refine zan (by omega) ?_|refine zas (by omega) ?_|fail)|(refine EqN.id ?_;first|refine EqN.subL (by omega) ?_|(refine zaf _ _ Cst.h Cst.h ?_ ?_;· omega)|fail)|(refine SideN.mk ?_ ?_;· first|kernel_rfl|omega|exact List.cons_ne_nil _ _|fail)|refine CallD.det _ (fun _ hq X=>hm _) ?_|refine SegN.nthE 0 (l.length+i) rfl (by omega) i64_size qA ?_|refine zah [] ?_|fail)));conv=>whnf
   (refine ⟨⟨l.length+i+1,by show l.length+i+1≤_;omega,by omega,?_,.inl ⟨rfl,rfl⟩,rfl,_,rfl,?_⟩⟩;rotate_left 1;exact .inl rfl;exact ⟨⟨_,rfl,Wk.refl _⟩,trivial⟩)
 ·have hje:j=l.length+12:=by omega
  subst hje
  (repeat' ((conv=>whnf);(first|refine zas (by omega) ?_|fail)));conv=>whnf
  exact eT trivial
theorem keptFacts_c (l:List Fct) (hl:l.length≤1000000) (H:Heap):VDet Tryz.prog 50 [.sk l.length (l.length+12) (l.flatMap Fct.cells++mks Fct.cells mkFc 12),.sl none l.length (l.flatMap Fct.cells)] H (.bool true):=by
 rw [all_flat]
 have g1:=fun j h=>all_g1 mkFc (fct0:Fct) l j h
 have g2:=fun i h=>all_g2 mkFc (fct0:Fct) l i h
 have gl:=all_len mkFc l
 generalize l++(List.range 12).map mkFc=A at *
 refine zag Tryz.E0 zaa Tryz.func50 (by kernel_rfl) rfl (Nat.le_of_ble_eq_true rfl) rfl fun hcl hbl=>?_
 (repeat' ((conv=>whnf);(first|(refine OrN.r ?_;(conv=>whnf);refine NatN.mk (l.length+12) (by omega) ?_;(conv=>whnf);refine SideN.mk (by omega) ?_)|(refine IfN.id ?_;first|refine IfN.not ?_|refine zan (by omega) ?_|fail)|refine EqN.i64 (by omega) ?_|fail)));conv=>whnf
 refine za9 Tryz.E0 zaa (σ:=Nat) (fun j=>j≤l.length+12) (fun j=>l.length+12-j) (fun j=>[(6,.v (.int .i64 j))]) (fun _=>_) _ 0 rfl hcl [1,5] rfl (Nat.zero_le _) ⟨⟨_,rfl,Wk.refl _⟩,trivial⟩ rfl (fun _ _=>rfl) ?_
 intro j hj
 rcases Nat.lt_or_ge j (l.length+12) with hlt|hge
 ·rcases Nat.lt_or_ge j l.length with h1|h1
  ·have e1:=g1 j h1
   obtain ⟨u,v,z,-,q1⟩:=fct_ex (f:=l.getD j fct0) rfl
   have qA:=q1
   rw [← e1] at qA
   (repeat' ((conv=>whnf);(first|(refine IfN.id ?_;first|refine IfN.tt (sb3 _ _ _) ?_|refine IfN.not ?_|refine zan (by omega) ?_|refine zas (by omega) ?_|fail)|(refine zaf _ _ Cst.h Cst.h ?_ ?_;· omega)|(refine SideN.mk ?_ ?_;· first|kernel_rfl|omega|exact List.cons_ne_nil _ _|fail)|refine SegN.nthE fct0 j rfl (by omega) fct_size qA ?_|refine SegN.nthE fct0 j rfl (by omega) fct_size q1 ?_|refine zah [] ?_|fail)));conv=>whnf
   (refine ⟨⟨j+1,by show j+1≤_;omega,by omega,?_,.inl ⟨rfl,rfl⟩,rfl,_,rfl,?_⟩⟩;rotate_left 1;exact .inl rfl;exact ⟨⟨_,rfl,Wk.refl _⟩,trivial⟩)
  ·obtain ⟨i,rfl⟩:∃ i,j=l.length+i:=⟨j-l.length,by omega⟩
   have hi:i<12:=by omega
   have e1:=g2 i hi
   have hm:∀ H,VDet Tryz.prog 85 [.int .i64 1,.int .i64 (i:Nat)] H (.agg [.str (mkB i),.int .i64 0,.int .i64 0]):=fun H=>markFact_c i hi H
   have qA:(mkFc i).cells=[.str (mkB i),.int .i64 0,.int .i64 0]:=rfl
   rw [← e1] at qA
   generalize mkB i=sj at *
   (repeat' ((conv=>whnf);(first|(refine IfN.id ?_;first|refine IfN.tt (sb3 _ _ _) ?_|refine IfN.not ?_|refine zan (by omega) ?_|refine zas (by omega) ?_|fail)|(refine EqN.id ?_;first|refine EqN.subL (by omega) ?_|(refine zaf _ _ Cst.h Cst.h ?_ ?_;· omega)|fail)|(refine SideN.mk ?_ ?_;· first|kernel_rfl|omega|exact List.cons_ne_nil _ _|fail)|refine CallD.det _ (fun _ hq X=>hm _) ?_|refine SegN.nthE fct0 (l.length+i) rfl (by omega) fct_size qA ?_|refine zah [] ?_|fail)));conv=>whnf
   (refine ⟨⟨l.length+i+1,by show l.length+i+1≤_;omega,by omega,?_,.inl ⟨rfl,rfl⟩,rfl,_,rfl,?_⟩⟩;rotate_left 1;exact .inl rfl;exact ⟨⟨_,rfl,Wk.refl _⟩,trivial⟩)
 ·have hje:j=l.length+12:=by omega
  subst hje
  (repeat' ((conv=>whnf);(first|refine zas (by omega) ?_|fail)));conv=>whnf
  exact eT trivial
theorem keptBinds_c (l:List Bnd) (hl:l.length≤1000000) (H:Heap):VDet Tryz.prog 52 [.sk l.length (l.length+12) (l.flatMap Bnd.cells++mks Bnd.cells mkBd 12),.sl none l.length (l.flatMap Bnd.cells)] H (.bool true):=by
 rw [all_flat]
 have g1:=fun j h=>all_g1 mkBd (bnd0:Bnd) l j h
 have g2:=fun i h=>all_g2 mkBd (bnd0:Bnd) l i h
 have gl:=all_len mkBd l
 generalize l++(List.range 12).map mkBd=A at *
 refine zag Tryz.E0 zaa Tryz.func52 (by kernel_rfl) rfl (Nat.le_of_ble_eq_true rfl) rfl fun hcl hbl=>?_
 (repeat' ((conv=>whnf);(first|(refine OrN.r ?_;(conv=>whnf);refine NatN.mk (l.length+12) (by omega) ?_;(conv=>whnf);refine SideN.mk (by omega) ?_)|(refine IfN.id ?_;first|refine IfN.not ?_|refine zan (by omega) ?_|fail)|refine EqN.i64 (by omega) ?_|fail)));conv=>whnf
 refine za9 Tryz.E0 zaa (σ:=Nat) (fun j=>j≤l.length+12) (fun j=>l.length+12-j) (fun j=>[(6,.v (.int .i64 j))]) (fun _=>_) _ 0 rfl hcl [1,5] rfl (Nat.zero_le _) ⟨⟨_,rfl,Wk.refl _⟩,trivial⟩ rfl (fun _ _=>rfl) ?_
 intro j hj
 rcases Nat.lt_or_ge j (l.length+12) with hlt|hge
 ·rcases Nat.lt_or_ge j l.length with h1|h1
  ·have e1:=g1 j h1
   obtain ⟨u,v,-,q1⟩:=bnd_ex (f:=l.getD j bnd0) rfl
   have qA:=q1
   rw [← e1] at qA
   (repeat' ((conv=>whnf);(first|(refine IfN.id ?_;first|refine IfN.tt (sb2 _ _) ?_|refine IfN.not ?_|refine zan (by omega) ?_|refine zas (by omega) ?_|fail)|(refine zaf _ _ Cst.h Cst.h ?_ ?_;· omega)|(refine SideN.mk ?_ ?_;· first|kernel_rfl|omega|exact List.cons_ne_nil _ _|fail)|refine SegN.nthE bnd0 j rfl (by omega) bnd_size qA ?_|refine SegN.nthE bnd0 j rfl (by omega) bnd_size q1 ?_|refine zah [] ?_|fail)));conv=>whnf
   (refine ⟨⟨j+1,by show j+1≤_;omega,by omega,?_,.inl ⟨rfl,rfl⟩,rfl,_,rfl,?_⟩⟩;rotate_left 1;exact .inl rfl;exact ⟨⟨_,rfl,Wk.refl _⟩,trivial⟩)
  ·obtain ⟨i,rfl⟩:∃ i,j=l.length+i:=⟨j-l.length,by omega⟩
   have hi:i<12:=by omega
   have e1:=g2 i hi
   have hm:∀ H,VDet Tryz.prog 88 [.int .i64 1,.int .i64 (i:Nat)] H (.agg [.str (mkB i),.int .i64 0]):=fun H=>markBind_c i hi H
   have qA:(mkBd i).cells=[.str (mkB i),.int .i64 0]:=rfl
   rw [← e1] at qA
   generalize mkB i=sj at *
   (repeat' ((conv=>whnf);(first|(refine IfN.id ?_;first|refine IfN.tt (sb2 _ _) ?_|refine IfN.not ?_|refine zan (by omega) ?_|refine zas (by omega) ?_|fail)|(refine EqN.id ?_;first|refine EqN.subL (by omega) ?_|(refine zaf _ _ Cst.h Cst.h ?_ ?_;· omega)|fail)|(refine SideN.mk ?_ ?_;· first|kernel_rfl|omega|exact List.cons_ne_nil _ _|fail)|refine CallD.det _ (fun _ hq X=>hm _) ?_|refine SegN.nthE bnd0 (l.length+i) rfl (by omega) bnd_size qA ?_|refine zah [] ?_|fail)));conv=>whnf
   (refine ⟨⟨l.length+i+1,by show l.length+i+1≤_;omega,by omega,?_,.inl ⟨rfl,rfl⟩,rfl,_,rfl,?_⟩⟩;rotate_left 1;exact .inl rfl;exact ⟨⟨_,rfl,Wk.refl _⟩,trivial⟩)
 ·have hje:j=l.length+12:=by omega
  subst hje
  (repeat' ((conv=>whnf);(first|refine zas (by omega) ?_|fail)));conv=>whnf
  exact eT trivial
def lnA {α:Type} (f:α→List AV) (g:Nat→List AV):α ⊕ Nat→List AV
 | .inl x=>f x
 | .inr i=>g i
def lnAl {α:Type} (l:List α):List (α ⊕ Nat):=l.map .inl++(List.range 12).map .inr
theorem lnA_flat {α:Type} (f:α→List AV) (g:Nat→List AV) (l:List α):l.flatMap f++(List.range 12).flatMap g=(lnAl l).flatMap (lnA f g):=by
 unfold lnAl
 rw [List.flatMap_append,List.flatMap_map,List.flatMap_map]
 rfl
theorem lnA_g1 {α:Type} (d:α ⊕ Nat) (d0:α) (l:List α) (j:Nat) (h:j<l.length):(lnAl l).getD j d=.inl (l.getD j d0):=by
 unfold lnAl
 rw [List.getD_eq_getElem?_getD,List.getElem?_append_left (by rw [List.length_map];exact h),List.getElem?_map,List.getD_eq_getElem?_getD,List.getElem?_eq_getElem h]
 rfl
theorem lnA_g2 {α:Type} (d:α ⊕ Nat) (l:List α) (i:Nat) (h:i<12):(lnAl l).getD (l.length+i) d=.inr i:=by
 unfold lnAl
 rw [List.getD_eq_getElem?_getD,List.getElem?_append_right (by rw [List.length_map];omega),List.length_map,Nat.add_sub_cancel_left,List.getElem?_map,List.getElem?_range h]
 rfl
theorem lnA_len {α:Type} (l:List α):(lnAl l).length=l.length+12:=by simp [lnAl]
theorem lnA_size {α:Type} {f:α→List AV} {g:Nat→List AV} {sz:Nat} (hf:∀ x,(f x).length=sz) (hg:∀ i,(g i).length=sz):∀ x,(lnA f g x).length=sz
 | .inl x=>hf x
 | .inr i=>hg i
theorem keptFunc_c (f:Fnc) (hf:f.vl.length≤17592186044404) (H:Heap):VDet Tryz.prog 93 [.agg (lnU f),.agg f.cells] H (.bool true):=by
 have h1:∀ H,VDet Tryz.prog 94 [.agg (lnU f),.agg f.cells] H (.bool true):=fun H=>zbc (sameFunc_c f hf H) ⟨zbp (lnU_wk f),Wk.refl _,trivial⟩
 have h2:=fun H=>keptInts_c f.vl hf H
 obtain ⟨u,v,z⟩:=f
 unfold lnU Fnc.cells at *
 simp only at h1 h2 ⊢
 generalize z.flatMap enc64++mks enc64 mkI 12=C at *
 generalize z.flatMap enc64=c at *
 refine zag Tryz.E0 zaa Tryz.func93 (by kernel_rfl) rfl (Nat.le_of_ble_eq_true rfl) rfl fun hcl hbl=>?_
 (repeat' ((conv=>whnf);(first|refine IfN.tt rfl ?_|(refine CallN.id ?_;first|refine CallN.det _ (h1 _) ?_|refine CallN.det _ (h2 _) ?_|fail)|fail)));conv=>whnf
 exact eT trivial
theorem keptFuncs_c (l:List Fnc) (hl:l.length≤1000000) (h:∀ x∈l,x.vl.length≤17592186044404) (H:Heap):VDet Tryz.prog 51 [.sk l.length (l.length+12) (l.flatMap lnU++mks Fnc.cells mkFn 12),.sl none l.length (l.flatMap Fnc.cells)] H (.bool true):=by
 rw [show mks Fnc.cells mkFn 12=(List.range 12).flatMap (fun i=>Fnc.cells (mkFn i)) from rfl,lnA_flat]
 have g1:=fun j h=>lnA_g1 (.inr 0) (fnc0:Fnc) l j h
 have g2:=fun i h=>lnA_g2 (.inr 0) l i h
 have gl:=lnA_len l
 have hsz:=lnA_size (f:=lnU) (g:=(fun i=>Fnc.cells (mkFn i))) (lnU_size) (fun i=>fnc_size _)
 have hl1:∀ x,lnA lnU (fun i=>Fnc.cells (mkFn i)) (.inl x)=lnU x:=fun _=>rfl
 have hl2:∀ i,lnA lnU (fun i=>Fnc.cells (mkFn i)) (.inr i)=(fun i=>Fnc.cells (mkFn i)) i:=fun _=>rfl
 generalize lnAl l=A at *
 generalize lnA lnU (fun i=>Fnc.cells (mkFn i))=LF at *
 refine zag Tryz.E0 zaa Tryz.func51 (by kernel_rfl) rfl (Nat.le_of_ble_eq_true rfl) rfl fun hcl hbl=>?_
 (repeat' ((conv=>whnf);(first|(refine OrN.r ?_;(conv=>whnf);refine NatN.mk (l.length+12) (by omega) ?_;(conv=>whnf);refine SideN.mk (by omega) ?_)|(refine IfN.id ?_;first|refine IfN.not ?_|refine zan (by omega) ?_|fail)|refine EqN.i64 (by omega) ?_|fail)));conv=>whnf
 refine za9 Tryz.E0 zaa (σ:=Nat) (fun j=>j≤l.length+12) (fun j=>l.length+12-j) (fun j=>[(6,.v (.int .i64 j))]) (fun _=>_) _ 0 rfl hcl [1,5] rfl (Nat.zero_le _) ⟨⟨_,rfl,Wk.refl _⟩,trivial⟩ rfl (fun _ _=>rfl) ?_
 intro j hj
 rcases Nat.lt_or_ge j (l.length+12) with hlt|hge
 ·rcases Nat.lt_or_ge j l.length with h1|h1
  ·have e1:=g1 j h1
   have hx:=fun H=>keptFunc_c (l.getD j fnc0) (h _ (getD_memT l j fnc0 h1)) H
   obtain ⟨v,s,z,q1,q2⟩:=lnFnc_ex (l.getD j fnc0)
   have qA:=(hl1 (l.getD j fnc0)).trans q2
   rw [q1,q2] at hx
   rw [← e1] at qA
   (repeat' ((conv=>whnf);(first|(refine IfN.id ?_;first|refine IfN.not ?_|refine IfN.tt rfl ?_|refine zan (by omega) ?_|refine zas (by omega) ?_|fail)|(refine zaf _ _ Cst.h Cst.h ?_ ?_;· omega)|(refine SideN.mk ?_ ?_;· first|kernel_rfl|omega|exact List.cons_ne_nil _ _|fail)|refine CallD.det _ (fun _ hq X=>hx _) ?_|refine SegN.nthE (.inr 0) j rfl (by omega) hsz qA ?_|refine SegN.nthE fnc0 j rfl (by omega) fnc_size q1 ?_|refine zah [] ?_|fail)));conv=>whnf
   (refine ⟨⟨j+1,by show j+1≤_;omega,by omega,?_,.inl ⟨rfl,rfl⟩,rfl,_,rfl,?_⟩⟩;rotate_left 1;exact .inl rfl;exact ⟨⟨_,rfl,Wk.refl _⟩,trivial⟩)
  ·obtain ⟨i,rfl⟩:∃ i,j=l.length+i:=⟨j-l.length,by omega⟩
   have hi:i<12:=by omega
   have e1:=g2 i hi
   have hm:∀ H,VDet Tryz.prog 87 [.int .i64 1,.int .i64 (i:Nat)] H (.agg [.str (mkB i),.int .i64 0,.sl none 0 []]):=fun H=>markFunc_c i hi H
   have hs:∀ H,VDet Tryz.prog 94 [.agg [.str (mkB i),.int .i64 0,.sl none 0 []],.agg [.str (mkB i),.int .i64 0,.sl none 0 []]] H (.bool true):=fun H=>sameFunc_c (mkFn i) (Nat.zero_le _) H
   have qA:LF (.inr i)=[.str (mkB i),.int .i64 0,.sl none 0 []]:=hl2 i
   rw [← e1] at qA
   generalize mkB i=sj at *
   (repeat' ((conv=>whnf);(first|(refine IfN.id ?_;first|refine IfN.not ?_|refine IfN.tt rfl ?_|refine zan (by omega) ?_|refine zas (by omega) ?_|fail)|(refine EqN.id ?_;first|refine EqN.subL (by omega) ?_|(refine zaf _ _ Cst.h Cst.h ?_ ?_;· omega)|fail)|(refine SideN.mk ?_ ?_;· first|kernel_rfl|omega|exact List.cons_ne_nil _ _|fail)|(refine CallD.id ?_;first|refine CallD.det _ (fun _ hq X=>hm _) ?_|refine CallD.det _ (fun _ hq X=>hs _) ?_|fail)|refine SegN.nthE (.inr 0) (l.length+i) rfl (by omega) hsz qA ?_|refine zah [] ?_|fail)));conv=>whnf
   (refine ⟨⟨l.length+i+1,by show l.length+i+1≤_;omega,by omega,?_,.inl ⟨rfl,rfl⟩,rfl,_,rfl,?_⟩⟩;rotate_left 1;exact .inl rfl;exact ⟨⟨_,rfl,Wk.refl _⟩,trivial⟩)
 ·have hje:j=l.length+12:=by omega
  subst hje
  (repeat' ((conv=>whnf);(first|refine zas (by omega) ?_|fail)));conv=>whnf
  exact eT trivial
theorem keptModel_c (m:Mdl) (hm:m.Few) (H:Heap):VDet Tryz.prog 15 [.agg (lnM m),.agg m.cells] H (.bool true):=by
 have h0:∀ H,VDet Tryz.prog 24 [.agg (lnM m),.agg m.cells] H (.bool true):=fun H=>zbc (sameModel_c m hm H) ⟨zbp (lnM_wk m),Wk.refl _,trivial⟩
 have h1:=fun H=>keptInts_c m.rel hm.rel H
 have h2:=fun H=>keptFacts_c m.facts hm.facts H
 have h3:=fun H=>keptFuncs_c m.funcs hm.funcs hm.vals H
 have h4:=fun H=>keptBinds_c m.binds hm.binds H
 unfold lnM Mdl.cells at *
 generalize m.rel.flatMap enc64++mks enc64 mkI 12=C1 at *
 generalize m.facts.flatMap Fct.cells++mks Fct.cells mkFc 12=C2 at *
 generalize m.funcs.flatMap lnU++mks Fnc.cells mkFn 12=C3 at *
 generalize m.binds.flatMap Bnd.cells++mks Bnd.cells mkBd 12=C4 at *
 generalize m.rel.flatMap enc64=c1 at *
 generalize m.facts.flatMap Fct.cells=c2 at *
 generalize m.funcs.flatMap Fnc.cells=c3 at *
 generalize m.binds.flatMap Bnd.cells=c4 at *
 refine zag Tryz.E0 zaa Tryz.func15 (by kernel_rfl) rfl (Nat.le_of_ble_eq_true rfl) rfl fun hcl hbl=>?_
 (repeat' ((conv=>whnf);(first|refine IfN.tt rfl ?_|(refine CallN.id ?_;first|refine CallN.det _ (h0 _) ?_|refine CallN.det _ (h1 _) ?_|refine CallN.det _ (h2 _) ?_|refine CallN.det _ (h3 _) ?_|refine CallN.det _ (h4 _) ?_|fail)|fail)));conv=>whnf
 exact eT trivial
theorem lentInt_v (l:List Int) (hl:l.length≤17592186044404) (H:Heap):VCall Tryz.prog 38 [.sl none l.length (l.flatMap enc64)] H fun r H'=>r=.vk H.length l.length (l.length+12)∧H'=H++[.vec 3 1 (l.flatMap enc64++mks enc64 mkI 12)]:=by
 have hml:(l.flatMap enc64).length=l.length * 1:=zaz (f:=enc64) (sz:=1) (fun _=>rfl) l
 have hone:zbl (l.flatMap enc64)=true:=allOne_flat (fun x=>rfl) l
 have hCb:∀ n,zac n (l.flatMap enc64):=fun n=>zba l fun x=>by simp [enc64,below,zac]
 have hmb:∀ n (i:Nat),zac n (enc64 (mkI i)):=fun n i=>by simp [enc64,below,zac]
 rw [← appC_G]
 generalize l.flatMap enc64=C at *
 refine zbg Tryz.E0 zaa Tryz.func38 (by kernel_rfl) rfl (Nat.le_of_ble_eq_true rfl) rfl fun hcl hbl=>?_
 (repeat' ((conv=>whnf);(first|(refine OrN.natR ?_;refine NatN.mk (l.length+12) (by omega) ?_;refine SideN.mk ⟨rfl,by omega,by dsimp only;omega⟩ (OrN.r ?_))|refine EqN.i64 (by omega) ?_|refine SideN.mk ⟨rfl,hone,by dsimp only;omega,by dsimp only;omega,by simp only [maxLen];omega⟩ ?_|refine PtrN.loc _ rfl ?_|fail)));conv=>whnf
 refine za9 Tryz.E0 zaa (σ:=Nat) (fun j=>j≤12) (fun j=>12-j) (fun j=>[(3,.v (.vs (H.length+0) (l.length+j))),(4,.v (.int .i64 j))]) (fun j=>[.vec 3 1 (appC (fun i=>enc64 (mkI i)) C j)]) _ 0 rfl hcl [0] rfl (Nat.zero_le _) ⟨⟨_,rfl,Wk.of_eq (by rw [Nat.zero_add];rfl)⟩,⟨_,rfl,Wk.refl _⟩,trivial⟩ rfl (fun _ _=>rfl) ?_
 intro j hj
 have hDl:=appC_len (m:=fun i=>enc64 (mkI i)) (fun i=>(rfl:(enc64 (mkI i)).length=1)) hml j
 have hDb:=fun n=>appC_below n (m:=fun i=>enc64 (mkI i)) (hmb n) (hCb n) j
 rcases Nat.lt_or_ge j 12 with hlt|hge
 ·have hm:=fun H=>markInt_c j hlt H
  have hns:appC (fun i=>enc64 (mkI i)) C (j+1)=appC (fun i=>enc64 (mkI i)) C j++[.int .i64 (mkI j)]:=rfl
  have hEb:=fun n=>appC_below n (m:=fun i=>enc64 (mkI i)) (hmb n) (hCb n) (j+1)
  have hm:∀ H,VDet Tryz.prog 84 [.int .i64 1,.int .i64 (j:Nat)] H (.int .i64 (mkI j)):=hm
  generalize mkI j=mj at hm hns
  generalize appC (fun i=>enc64 (mkI i)) C j=D at *
  (repeat' ((conv=>whnf);(first|refine zan (by omega) ?_|(refine zaf _ _ Cst.h Cst.h ?_ ?_;· omega)|refine CallN.det _ (hm _) ?_|refine SideN.mk ⟨by dsimp only;omega,rfl,rfl,by dsimp only;omega,by simp only [maxLen];omega⟩ ?_|refine PtrN.loc _ rfl ?_|fail)));conv=>whnf
  rw [← hns]
  (refine ⟨⟨j+1,by show j+1≤_;omega,by omega,?_,.inl ⟨rfl,rfl⟩,rfl,_,rfl,?_⟩⟩;rotate_left 1;exact .inl rfl;exact ⟨⟨_,rfl,Wk.refl _⟩,⟨_,rfl,Wk.refl _⟩,trivial⟩)
 ·obtain rfl:j=12:=by omega
  (repeat' ((conv=>whnf);(first|refine IfN.ff rfl ?_|refine SideN.mk (by omega) ?_|refine NatN.mk _ rfl ?_|fail)));conv=>whnf
  refine EndN.keep _ (Wk.refl _) ⟨rfl,rfl⟩
theorem lentFact_v (l:List Fct) (hl:l.length≤1000000) (H:Heap):VCall Tryz.prog 39 [.sl none l.length (l.flatMap Fct.cells)] H fun r H'=>r=.vk H.length l.length (l.length+12)∧H'=H++[.vec 60 3 (l.flatMap Fct.cells++mks Fct.cells mkFc 12)]:=by
 have hml:(l.flatMap Fct.cells).length=l.length * 3:=zaz (f:=Fct.cells) (sz:=3) (fun _=>rfl) l
 have hone:zbl (l.flatMap Fct.cells)=true:=allOne_flat (fun x=>rfl) l
 have hCb:∀ n,zac n (l.flatMap Fct.cells):=fun n=>zba l fun x=>by simp [Fct.cells,below,zac]
 have hmb:∀ n (i:Nat),zac n (Fct.cells (mkFc i)):=fun n i=>by simp [Fct.cells,below,zac]
 rw [← appC_G]
 generalize l.flatMap Fct.cells=C at *
 refine zbg Tryz.E0 zaa Tryz.func39 (by kernel_rfl) rfl (Nat.le_of_ble_eq_true rfl) rfl fun hcl hbl=>?_
 (repeat' ((conv=>whnf);(first|(refine OrN.natR ?_;refine NatN.mk (l.length+12) (by omega) ?_;refine SideN.mk ⟨rfl,by omega,by dsimp only;omega⟩ (OrN.r ?_))|refine EqN.i64 (by omega) ?_|refine SideN.mk ⟨rfl,hone,by dsimp only;omega,by dsimp only;omega,by simp only [maxLen];omega⟩ ?_|refine PtrN.loc _ rfl ?_|fail)));conv=>whnf
 refine za9 Tryz.E0 zaa (σ:=Nat) (fun j=>j≤12) (fun j=>12-j) (fun j=>[(3,.v (.vs (H.length+0) (l.length+j))),(4,.v (.int .i64 j))]) (fun j=>[.vec 60 3 (appC (fun i=>Fct.cells (mkFc i)) C j)]) _ 0 rfl hcl [0] rfl (Nat.zero_le _) ⟨⟨_,rfl,Wk.of_eq (by rw [Nat.zero_add];rfl)⟩,⟨_,rfl,Wk.refl _⟩,trivial⟩ rfl (fun _ _=>rfl) ?_
 intro j hj
 have hDl:=appC_len (m:=fun i=>Fct.cells (mkFc i)) (fun i=>(rfl:(Fct.cells (mkFc i)).length=3)) hml j
 have hDb:=fun n=>appC_below n (m:=fun i=>Fct.cells (mkFc i)) (hmb n) (hCb n) j
 rcases Nat.lt_or_ge j 12 with hlt|hge
 ·have hm:=fun H=>markFact_c j hlt H
  have hns:appC (fun i=>Fct.cells (mkFc i)) C (j+1)=appC (fun i=>Fct.cells (mkFc i)) C j++[.str (mkB j),.int .i64 0,.int .i64 0]:=rfl
  have hEb:=fun n=>appC_below n (m:=fun i=>Fct.cells (mkFc i)) (hmb n) (hCb n) (j+1)
  have hm:∀ H,VDet Tryz.prog 85 [.int .i64 1,.int .i64 (j:Nat)] H (.agg [.str (mkB j),.int .i64 0,.int .i64 0]):=hm
  generalize mkB j=sj at hm hns
  generalize appC (fun i=>Fct.cells (mkFc i)) C j=D at *
  (repeat' ((conv=>whnf);(first|refine zan (by omega) ?_|(refine zaf _ _ Cst.h Cst.h ?_ ?_;· omega)|refine CallN.det _ (hm _) ?_|refine SideN.mk ⟨by dsimp only;omega,rfl,rfl,by dsimp only;omega,by simp only [maxLen];omega⟩ ?_|refine PtrN.loc _ rfl ?_|fail)));conv=>whnf
  rw [← hns]
  (refine ⟨⟨j+1,by show j+1≤_;omega,by omega,?_,.inl ⟨rfl,rfl⟩,rfl,_,rfl,?_⟩⟩;rotate_left 1;exact .inl rfl;exact ⟨⟨_,rfl,Wk.refl _⟩,⟨_,rfl,Wk.refl _⟩,trivial⟩)
 ·obtain rfl:j=12:=by omega
  (repeat' ((conv=>whnf);(first|refine IfN.ff rfl ?_|refine SideN.mk (by omega) ?_|refine NatN.mk _ rfl ?_|fail)));conv=>whnf
  refine EndN.keep _ (Wk.refl _) ⟨rfl,rfl⟩
theorem lentBind_v (l:List Bnd) (hl:l.length≤1000000) (H:Heap):VCall Tryz.prog 41 [.sl none l.length (l.flatMap Bnd.cells)] H fun r H'=>r=.vk H.length l.length (l.length+12)∧H'=H++[.vec 58 2 (l.flatMap Bnd.cells++mks Bnd.cells mkBd 12)]:=by
 have hml:(l.flatMap Bnd.cells).length=l.length * 2:=zaz (f:=Bnd.cells) (sz:=2) (fun _=>rfl) l
 have hone:zbl (l.flatMap Bnd.cells)=true:=allOne_flat (fun x=>rfl) l
 have hCb:∀ n,zac n (l.flatMap Bnd.cells):=fun n=>zba l fun x=>by simp [Bnd.cells,below,zac]
 have hmb:∀ n (i:Nat),zac n (Bnd.cells (mkBd i)):=fun n i=>by simp [Bnd.cells,below,zac]
 rw [← appC_G]
 generalize l.flatMap Bnd.cells=C at *
 refine zbg Tryz.E0 zaa Tryz.func41 (by kernel_rfl) rfl (Nat.le_of_ble_eq_true rfl) rfl fun hcl hbl=>?_
 (repeat' ((conv=>whnf);(first|(refine OrN.natR ?_;refine NatN.mk (l.length+12) (by omega) ?_;refine SideN.mk ⟨rfl,by omega,by dsimp only;omega⟩ (OrN.r ?_))|refine EqN.i64 (by omega) ?_|refine SideN.mk ⟨rfl,hone,by dsimp only;omega,by dsimp only;omega,by simp only [maxLen];omega⟩ ?_|refine PtrN.loc _ rfl ?_|fail)));conv=>whnf
 refine za9 Tryz.E0 zaa (σ:=Nat) (fun j=>j≤12) (fun j=>12-j) (fun j=>[(3,.v (.vs (H.length+0) (l.length+j))),(4,.v (.int .i64 j))]) (fun j=>[.vec 58 2 (appC (fun i=>Bnd.cells (mkBd i)) C j)]) _ 0 rfl hcl [0] rfl (Nat.zero_le _) ⟨⟨_,rfl,Wk.of_eq (by rw [Nat.zero_add];rfl)⟩,⟨_,rfl,Wk.refl _⟩,trivial⟩ rfl (fun _ _=>rfl) ?_
 intro j hj
 have hDl:=appC_len (m:=fun i=>Bnd.cells (mkBd i)) (fun i=>(rfl:(Bnd.cells (mkBd i)).length=2)) hml j
 have hDb:=fun n=>appC_below n (m:=fun i=>Bnd.cells (mkBd i)) (hmb n) (hCb n) j
 rcases Nat.lt_or_ge j 12 with hlt|hge
 ·have hm:=fun H=>markBind_c j hlt H
  have hns:appC (fun i=>Bnd.cells (mkBd i)) C (j+1)=appC (fun i=>Bnd.cells (mkBd i)) C j++[.str (mkB j),.int .i64 0]:=rfl
  have hEb:=fun n=>appC_below n (m:=fun i=>Bnd.cells (mkBd i)) (hmb n) (hCb n) (j+1)
  have hm:∀ H,VDet Tryz.prog 88 [.int .i64 1,.int .i64 (j:Nat)] H (.agg [.str (mkB j),.int .i64 0]):=hm
  generalize mkB j=sj at hm hns
  generalize appC (fun i=>Bnd.cells (mkBd i)) C j=D at *
  (repeat' ((conv=>whnf);(first|refine zan (by omega) ?_|(refine zaf _ _ Cst.h Cst.h ?_ ?_;· omega)|refine CallN.det _ (hm _) ?_|refine SideN.mk ⟨by dsimp only;omega,rfl,rfl,by dsimp only;omega,by simp only [maxLen];omega⟩ ?_|refine PtrN.loc _ rfl ?_|fail)));conv=>whnf
  rw [← hns]
  (refine ⟨⟨j+1,by show j+1≤_;omega,by omega,?_,.inl ⟨rfl,rfl⟩,rfl,_,rfl,?_⟩⟩;rotate_left 1;exact .inl rfl;exact ⟨⟨_,rfl,Wk.refl _⟩,⟨_,rfl,Wk.refl _⟩,trivial⟩)
 ·obtain rfl:j=12:=by omega
  (repeat' ((conv=>whnf);(first|refine IfN.ff rfl ?_|refine SideN.mk (by omega) ?_|refine NatN.mk _ rfl ?_|fail)));conv=>whnf
  refine EndN.keep _ (Wk.refl _) ⟨rfl,rfl⟩
theorem lentText_v (l:List ByteArray) (hl:l.length≤1000) (H:Heap):VCall Tryz.prog 9 [.sl none l.length (l.flatMap encSG)] H fun r H'=>r=.vk H.length l.length (l.length+12)∧H'=H++[.vec 9 1 (l.flatMap encSG++mks encSG mkB 12)]:=by
 have hml:(l.flatMap encSG).length=l.length * 1:=zaz (f:=encSG) (sz:=1) (fun _=>rfl) l
 have hone:zbl (l.flatMap encSG)=true:=allOne_flat (fun x=>rfl) l
 have hCb:∀ n,zac n (l.flatMap encSG):=fun n=>zba l fun x=>by simp [encSG,below,zac]
 have hmb:∀ n (i:Nat),zac n (encSG (mkB i)):=fun n i=>by simp [encSG,below,zac]
 rw [← appC_G]
 generalize l.flatMap encSG=C at *
 refine zbg Tryz.E0 zaa Tryz.func9 (by kernel_rfl) rfl (Nat.le_of_ble_eq_true rfl) rfl fun hcl hbl=>?_
 (repeat' ((conv=>whnf);(first|(refine OrN.natR ?_;refine NatN.mk (l.length+12) (by omega) ?_;refine SideN.mk ⟨rfl,by omega,by dsimp only;omega⟩ (OrN.r ?_))|refine EqN.i64 (by omega) ?_|refine SideN.mk ⟨rfl,hone,by dsimp only;omega,by dsimp only;omega,by simp only [maxLen];omega⟩ ?_|refine PtrN.loc _ rfl ?_|fail)));conv=>whnf
 refine za9 Tryz.E0 zaa (σ:=Nat) (fun j=>j≤12) (fun j=>12-j) (fun j=>[(3,.v (.vs (H.length+0) (l.length+j))),(4,.v (.int .i64 j))]) (fun j=>[.vec 9 1 (appC (fun i=>encSG (mkB i)) C j)]) _ 0 rfl hcl [0] rfl (Nat.zero_le _) ⟨⟨_,rfl,Wk.of_eq (by rw [Nat.zero_add];rfl)⟩,⟨_,rfl,Wk.refl _⟩,trivial⟩ rfl (fun _ _=>rfl) ?_
 intro j hj
 have hDl:=appC_len (m:=fun i=>encSG (mkB i)) (fun i=>(rfl:(encSG (mkB i)).length=1)) hml j
 have hDb:=fun n=>appC_below n (m:=fun i=>encSG (mkB i)) (hmb n) (hCb n) j
 rcases Nat.lt_or_ge j 12 with hlt|hge
 ·have hm:=fun H=>markText_c j hlt H
  have hns:appC (fun i=>encSG (mkB i)) C (j+1)=appC (fun i=>encSG (mkB i)) C j++[.str (mkB j)]:=rfl
  have hEb:=fun n=>appC_below n (m:=fun i=>encSG (mkB i)) (hmb n) (hCb n) (j+1)
  have hm:∀ H,VDet Tryz.prog 42 [.int .i64 1,.int .i64 (j:Nat)] H (.str (mkB j)):=hm
  generalize mkB j=sj at hm hns
  generalize appC (fun i=>encSG (mkB i)) C j=D at *
  (repeat' ((conv=>whnf);(first|refine zan (by omega) ?_|(refine zaf _ _ Cst.h Cst.h ?_ ?_;· omega)|refine CallN.det _ (hm _) ?_|refine SideN.mk ⟨by dsimp only;omega,rfl,rfl,by dsimp only;omega,by simp only [maxLen];omega⟩ ?_|refine PtrN.loc _ rfl ?_|fail)));conv=>whnf
  rw [← hns]
  (refine ⟨⟨j+1,by show j+1≤_;omega,by omega,?_,.inl ⟨rfl,rfl⟩,rfl,_,rfl,?_⟩⟩;rotate_left 1;exact .inl rfl;exact ⟨⟨_,rfl,Wk.refl _⟩,⟨_,rfl,Wk.refl _⟩,trivial⟩)
 ·obtain rfl:j=12:=by omega
  (repeat' ((conv=>whnf);(first|refine IfN.ff rfl ?_|refine SideN.mk (by omega) ?_|refine NatN.mk _ rfl ?_|fail)));conv=>whnf
  refine EndN.keep _ (Wk.refl _) ⟨rfl,rfl⟩
def mkO (i:Nat):ByteArray:=strOfB [35,2,0,0,47,(i:Nat),0,0]
theorem fdiv0 (i k:Nat) (h:i<2 ^ k):((i:Nat):Int).fdiv (2 ^ k)=0:=by
 rw [Int.fdiv_eq_ediv_of_nonneg _ (Int.le_of_lt (Int.pow_pos (by decide)))]
 exact Int.ediv_eq_zero_of_lt (by omega) (by exact_mod_cast h)
theorem markText2_c (i:Nat) (hi:i<200) (H:Heap):VDet Tryz.prog 42 [.int .i64 2,.int .i64 (i:Nat)] H (.str (mkO i)):=by
 have f1:((i:Nat):Int).fdiv (2 ^ min (8:Int).toNat IntKind.i64.bits)=0:=fdiv0 i 8 (by omega)
 have f2:((i:Nat):Int).fdiv (2 ^ min (16:Int).toNat IntKind.i64.bits)=0:=fdiv0 i 16 (by omega)
 unfold mkO
 refine zag Tryz.E0 zaa Tryz.func42 (by kernel_rfl) rfl (Nat.le_of_ble_eq_true rfl) rfl fun hcl hbl=>?_
 (repeat' ((conv=>whnf);(first|(refine EqN.id ?_;first|refine EqN.mk 0 f1 ?_|refine EqN.mk 0 f2 ?_|(refine EqN.shrN _ _ Cst.h Cst.h rfl ?_ ?_;· (repeat' (first|omega|refine And.intro ?_ ?_|exact zad (by omega)|exact zap (by omega)|refine zbb ?_ ?_|refine zao ?_ ?_|refine zau ?_ ?_|refine zal ?_ ?_|refine zav ?_|refine zaw ?_ ?_|refine zax ?_|refine zad ?_|fail)))|refine zbq _ _ (by first|with_reducible rfl|exact Cst.h) (by first|with_reducible rfl|exact Cst.h) ?_|refine EqN.mk _ rfl ?_|fail)|refine SideN.mk (by omega) ?_|fail)));conv=>whnf
 exact EndN.det trivial (Wk.of_eq (by
  have e:i % ((2:Int) ^ IntKind.u8.bits).natAbs=i:=Nat.mod_eq_of_lt (by show i<256;omega)
  rw [e]
  rfl))
def mkI2 (i:Nat):Int:=((9000027+i:Nat):Int)
theorem markInt2_c (i:Nat) (hi:i<20000000000000) (H:Heap):VDet Tryz.prog 84 [.int .i64 2,.int .i64 (i:Nat)] H (.int .i64 (mkI2 i)):=by
 refine zag Tryz.E0 zaa Tryz.func84 (by kernel_rfl) rfl (Nat.le_of_ble_eq_true rfl) rfl fun hcl hbl=>?_
 (repeat' ((conv=>whnf);(first|refine EqN.i64 (by omega) ?_|fail)));conv=>whnf
 exact EndN.det trivial (Wk.of_eq (congrArg (AV.int _) (by unfold mkI2;omega)))
theorem markFact2_c (i:Nat) (hi:i<200) (H:Heap):VDet Tryz.prog 85 [.int .i64 2,.int .i64 (i:Nat)] H (.agg [.str (mkO i),.int .i64 0,.int .i64 0]):=by
 have h1:=fun H=>markText2_c i hi H
 generalize mkO i=s at *
 refine zag Tryz.E0 zaa Tryz.func85 (by kernel_rfl) rfl (Nat.le_of_ble_eq_true rfl) rfl fun hcl hbl=>?_
 (repeat' ((conv=>whnf);(first|refine CallN.det _ (h1 _) ?_|fail)));conv=>whnf
 exact EndN.det (by simp [below,zac]) (by exact Wk.refl _)
theorem markBind2_c (i:Nat) (hi:i<200) (H:Heap):VDet Tryz.prog 88 [.int .i64 2,.int .i64 (i:Nat)] H (.agg [.str (mkO i),.int .i64 0]):=by
 have h1:=fun H=>markText2_c i hi H
 generalize mkO i=s at *
 refine zag Tryz.E0 zaa Tryz.func88 (by kernel_rfl) rfl (Nat.le_of_ble_eq_true rfl) rfl fun hcl hbl=>?_
 (repeat' ((conv=>whnf);(first|refine CallN.det _ (h1 _) ?_|fail)));conv=>whnf
 exact EndN.det (by simp [below,zac]) (by exact Wk.refl _)
theorem markFunc2_c (i:Nat) (hi:i<200) (H:Heap):VDet Tryz.prog 87 [.int .i64 2,.int .i64 (i:Nat)] H (.agg [.str (mkO i),.int .i64 0,.nils]):=by
 have h1:=fun H=>markText2_c i hi H
 generalize mkO i=s at *
 refine zag Tryz.E0 zaa Tryz.func87 (by kernel_rfl) rfl (Nat.le_of_ble_eq_true rfl) rfl fun hcl hbl=>?_
 (repeat' ((conv=>whnf);(first|refine CallN.det _ (h1 _) ?_|fail)));conv=>whnf
 exact EndN.det (by simp [below,zac]) (by exact Wk.refl _)
def ovr (g:Nat→List AV) (sz:Nat) (l:List AV) (j:Nat):List AV:=(List.range j).flatMap g++l.drop (j * sz)
theorem ovr_pre {g:Nat→List AV} {sz:Nat} (hg:∀ i,(g i).length=sz) (j:Nat):((List.range j).flatMap g).length=j * sz:=by
 rw [zaz (f:=g) (sz:=sz) hg,List.length_range]
theorem ovr_len {g:Nat→List AV} {sz:Nat} (hg:∀ i,(g i).length=sz) (l:List AV) (j:Nat) (h:j * sz≤l.length):(ovr g sz l j).length=l.length:=by
 unfold ovr
 rw [List.length_append,ovr_pre hg,List.length_drop]
 omega
theorem ovr_set {g:Nat→List AV} {sz:Nat} (hg:∀ i,(g i).length=sz) (l:List AV) (j:Nat) (h:(j+1) * sz≤l.length):setL (ovr g sz l j) (j * sz) (g j)=ovr g sz l (j+1):=by
 have hp:=ovr_pre hg j
 unfold setL ovr
 rw [List.take_append_of_le_length (by omega),List.take_of_length_le (by omega),hg j,List.drop_append,List.range_succ,List.flatMap_append,hp]
 rw [List.drop_eq_nil_of_le (by rw [hp];omega)]
 rw [List.drop_drop]
 have e:j * sz+(j * sz+sz-j * sz)=(j+1) * sz:=by rw [Nat.add_mul];omega
 rw [e]
 simp
theorem ovr_below (n:Nat) {g:Nat→List AV} {sz:Nat} (hg:∀ i,zac n (g i)) (l:List AV) (j:Nat) (h:zac n l):zac n (ovr g sz l j):=by
 unfold ovr
 refine (za5 _ _).2 ⟨zba _ hg,?_⟩
 exact ((za5 (l.take (j * sz)) (l.drop (j * sz))).1 (by rw [List.take_append_drop];exact h)).2
theorem overInt_c (n i:Nat) (l:List AV) (hn:n≤17592186044404) (hl:l.length=(n+12) * 1) (H:Heap) (hi:H[i]? = some (.vec 3 1 l)):VCall Tryz.prog 53 [.vk i n (n+12)] H (setR H i (.vec 3 1 (ovr (fun i=>[.int .i64 (mkI2 i)]) 1 l (n+12))) (.tup [])):=by
 have hlt0:=(List.getElem?_eq_some_iff.1 hi).1
 have hol:=fun j (h:j≤n+12)=>ovr_len (g:=fun i=>[.int .i64 (mkI2 i)]) (sz:=1) (fun _=>rfl) l j (by rw [hl];exact Nat.mul_le_mul_right _ h)
 have h00:ovr (fun i=>[.int .i64 (mkI2 i)]) 1 l 0=l:=by simp [ovr]
 have hob:∀ j,zac H.length l→zac H.length (ovr (fun i=>[.int .i64 (mkI2 i)]) 1 l j):=fun j h=>ovr_below _ (fun i=>by simp [below,zac]) l j h
 refine zbg Tryz.E0 zaa Tryz.func53 (by kernel_rfl) rfl (Nat.le_of_ble_eq_true rfl) rfl fun hcl hbl=>?_
 have hbB:zac H.length l:=hcl i _ hi
 (repeat' ((conv=>whnf);(first|refine EqN.i64 (by omega) ?_|refine AnyVN.mk (fun v hv=>?_)|fail)));conv=>whnf
 obtain ⟨c,rfl,hc⟩:=hv
 (repeat' ((conv=>whnf);(first|refine SideN.mk (show min (c:Int) ((n:Int)+12)=((n+12:Nat):Int) by omega) ?_|fail)));conv=>whnf
 refine loop_B Tryz.E0 zaa (σ:=Nat) (fun p=>p≤n+12) (fun p=>n+12-p) (fun p=>[(3,.v (.int .i64 p))]) (fun p=>H.set i (.vec 3 1 (ovr (fun i=>[.int .i64 (mkI2 i)]) 1 l p))) (fun _=>[]) _ 0 (fun p _=>by simp) (fun p _=>closed_set hcl i _ (hob _ hbB)) [2] rfl (Nat.zero_le _) ⟨⟨_,rfl,Wk.refl _⟩,trivial⟩ (by rw [h00];exact (set_self (by rw [hi])).symm) rfl (fun _ _=>rfl) ?_
 intro j hj
 clear hbl
 rcases Nat.lt_or_ge j (n+12) with hlt|hge
 ·have hm:=fun H=>markInt2_c j (by omega) H
  have hs:setL (ovr (fun i=>[.int .i64 (mkI2 i)]) 1 l j) (j * 1) [.int .i64 (mkI2 j)]=ovr (fun i=>[.int .i64 (mkI2 i)]) 1 l (j+1):=ovr_set (g:=fun i=>[.int .i64 (mkI2 i)]) (sz:=1) (fun _=>rfl) l j (by rw [hl];exact Nat.mul_le_mul_right _ hlt)
  have h1:=hol j (by omega)
  have hg:(H.set i (.vec 3 1 (ovr (fun i=>[.int .i64 (mkI2 i)]) 1 l j)))[i]? = some (.vec 3 1 (ovr (fun i=>[.int .i64 (mkI2 i)]) 1 l j)):=by simp [hlt0]
  have hne:ovr (fun i=>[.int .i64 (mkI2 i)]) 1 l j≠[]:=fun e=>by rw [e] at h1;simp at h1;omega
  have hset:(H.set i (.vec 3 1 (ovr (fun i=>[.int .i64 (mkI2 i)]) 1 l j))).set i (.vec 3 1 (ovr (fun i=>[.int .i64 (mkI2 i)]) 1 l (j+1)))=H.set i (.vec 3 1 (ovr (fun i=>[.int .i64 (mkI2 i)]) 1 l (j+1))):=List.set_set ..
  have h2:=hol (j+1) (by omega)
  generalize hA:ovr (fun i=>[.int .i64 (mkI2 i)]) 1 l j=A at *
  generalize hA2:ovr (fun i=>[.int .i64 (mkI2 i)]) 1 l (j+1)=A2 at *
  generalize mkI2 j=s at hm hs
  (repeat' ((conv=>whnf);(first|refine SetN.mk _ hset ?_|refine zan (by omega) ?_|(refine zaf _ _ Cst.h Cst.h ?_ ?_;· omega)|refine SideN.mk (by simp;omega) ?_|refine CallN.det _ (hm _) ?_|refine SideN.mk ⟨⟨by omega,hne⟩,by omega,by omega⟩ ?_|refine RelN.mk A2 [] (by rw [Int.toNat_natCast];exact hs.symm) ?_|refine PtrN.base _ (by (repeat' (first|assumption|exact za4 _ rfl|exact zam rfl|refine zar (B':=?_) ?_|refine zai ?_|fail))) ?_|fail)));conv=>whnf
  subst hA2
  (refine ⟨⟨j+1,by show j+1≤_;omega,by omega,?_,.inl ⟨rfl,rfl⟩,rfl,_,rfl,?_⟩⟩;rotate_left 1;exact .inl rfl;exact ⟨⟨_,rfl,Wk.refl _⟩,trivial⟩)
 ·obtain rfl:j=n+12:=by omega
  (repeat' ((conv=>whnf);(first|refine zas (by omega) ?_|fail)));conv=>whnf
  exact za7 (hob _ hbB) trivial (Wk.refl _)
theorem overFact_c (n i:Nat) (l:List AV) (hn:n≤100) (hl:l.length=(n+12) * 3) (H:Heap) (hi:H[i]? = some (.vec 60 3 l)):VCall Tryz.prog 54 [.vk i n (n+12)] H (setR H i (.vec 60 3 (ovr (fun i=>[.str (mkO i),.int .i64 0,.int .i64 0]) 3 l (n+12))) (.tup [])):=by
 have hlt0:=(List.getElem?_eq_some_iff.1 hi).1
 have hol:=fun j (h:j≤n+12)=>ovr_len (g:=fun i=>[.str (mkO i),.int .i64 0,.int .i64 0]) (sz:=3) (fun _=>rfl) l j (by rw [hl];exact Nat.mul_le_mul_right _ h)
 have h00:ovr (fun i=>[.str (mkO i),.int .i64 0,.int .i64 0]) 3 l 0=l:=by simp [ovr]
 have hob:∀ j,zac H.length l→zac H.length (ovr (fun i=>[.str (mkO i),.int .i64 0,.int .i64 0]) 3 l j):=fun j h=>ovr_below _ (fun i=>by simp [below,zac]) l j h
 refine zbg Tryz.E0 zaa Tryz.func54 (by kernel_rfl) rfl (Nat.le_of_ble_eq_true rfl) rfl fun hcl hbl=>?_
 have hbB:zac H.length l:=hcl i _ hi
 (repeat' ((conv=>whnf);(first|refine EqN.i64 (by omega) ?_|refine AnyVN.mk (fun v hv=>?_)|fail)));conv=>whnf
 obtain ⟨c,rfl,hc⟩:=hv
 (repeat' ((conv=>whnf);(first|refine SideN.mk (show min (c:Int) ((n:Int)+12)=((n+12:Nat):Int) by omega) ?_|fail)));conv=>whnf
 refine loop_B Tryz.E0 zaa (σ:=Nat) (fun p=>p≤n+12) (fun p=>n+12-p) (fun p=>[(3,.v (.int .i64 p))]) (fun p=>H.set i (.vec 60 3 (ovr (fun i=>[.str (mkO i),.int .i64 0,.int .i64 0]) 3 l p))) (fun _=>[]) _ 0 (fun p _=>by simp) (fun p _=>closed_set hcl i _ (hob _ hbB)) [2] rfl (Nat.zero_le _) ⟨⟨_,rfl,Wk.refl _⟩,trivial⟩ (by rw [h00];exact (set_self (by rw [hi])).symm) rfl (fun _ _=>rfl) ?_
 intro j hj
 clear hbl
 rcases Nat.lt_or_ge j (n+12) with hlt|hge
 ·have hm:=fun H=>markFact2_c j (by omega) H
  have hs:setL (ovr (fun i=>[.str (mkO i),.int .i64 0,.int .i64 0]) 3 l j) (j * 3) [.str (mkO j),.int .i64 0,.int .i64 0]=ovr (fun i=>[.str (mkO i),.int .i64 0,.int .i64 0]) 3 l (j+1):=ovr_set (g:=fun i=>[.str (mkO i),.int .i64 0,.int .i64 0]) (sz:=3) (fun _=>rfl) l j (by rw [hl];exact Nat.mul_le_mul_right _ hlt)
  have h1:=hol j (by omega)
  have hg:(H.set i (.vec 60 3 (ovr (fun i=>[.str (mkO i),.int .i64 0,.int .i64 0]) 3 l j)))[i]? = some (.vec 60 3 (ovr (fun i=>[.str (mkO i),.int .i64 0,.int .i64 0]) 3 l j)):=by simp [hlt0]
  have hne:ovr (fun i=>[.str (mkO i),.int .i64 0,.int .i64 0]) 3 l j≠[]:=fun e=>by rw [e] at h1;simp at h1;omega
  have hset:(H.set i (.vec 60 3 (ovr (fun i=>[.str (mkO i),.int .i64 0,.int .i64 0]) 3 l j))).set i (.vec 60 3 (ovr (fun i=>[.str (mkO i),.int .i64 0,.int .i64 0]) 3 l (j+1)))=H.set i (.vec 60 3 (ovr (fun i=>[.str (mkO i),.int .i64 0,.int .i64 0]) 3 l (j+1))):=List.set_set ..
  have h2:=hol (j+1) (by omega)
  generalize hA:ovr (fun i=>[.str (mkO i),.int .i64 0,.int .i64 0]) 3 l j=A at *
  generalize hA2:ovr (fun i=>[.str (mkO i),.int .i64 0,.int .i64 0]) 3 l (j+1)=A2 at *
  generalize mkO j=s at hm hs
  (repeat' ((conv=>whnf);(first|refine SetN.mk _ hset ?_|refine zan (by omega) ?_|(refine zaf _ _ Cst.h Cst.h ?_ ?_;· omega)|refine SideN.mk (by simp;omega) ?_|refine CallN.det _ (hm _) ?_|refine SideN.mk ⟨⟨by omega,hne⟩,by omega,by omega⟩ ?_|refine RelN.mk A2 [] (by rw [Int.toNat_natCast];exact hs.symm) ?_|refine PtrN.base _ (by (repeat' (first|assumption|exact za4 _ rfl|exact zam rfl|refine zar (B':=?_) ?_|refine zai ?_|fail))) ?_|fail)));conv=>whnf
  subst hA2
  (refine ⟨⟨j+1,by show j+1≤_;omega,by omega,?_,.inl ⟨rfl,rfl⟩,rfl,_,rfl,?_⟩⟩;rotate_left 1;exact .inl rfl;exact ⟨⟨_,rfl,Wk.refl _⟩,trivial⟩)
 ·obtain rfl:j=n+12:=by omega
  (repeat' ((conv=>whnf);(first|refine zas (by omega) ?_|fail)));conv=>whnf
  exact za7 (hob _ hbB) trivial (Wk.refl _)
theorem overBind_c (n i:Nat) (l:List AV) (hn:n≤100) (hl:l.length=(n+12) * 2) (H:Heap) (hi:H[i]? = some (.vec 58 2 l)):VCall Tryz.prog 56 [.vk i n (n+12)] H (setR H i (.vec 58 2 (ovr (fun i=>[.str (mkO i),.int .i64 0]) 2 l (n+12))) (.tup [])):=by
 have hlt0:=(List.getElem?_eq_some_iff.1 hi).1
 have hol:=fun j (h:j≤n+12)=>ovr_len (g:=fun i=>[.str (mkO i),.int .i64 0]) (sz:=2) (fun _=>rfl) l j (by rw [hl];exact Nat.mul_le_mul_right _ h)
 have h00:ovr (fun i=>[.str (mkO i),.int .i64 0]) 2 l 0=l:=by simp [ovr]
 have hob:∀ j,zac H.length l→zac H.length (ovr (fun i=>[.str (mkO i),.int .i64 0]) 2 l j):=fun j h=>ovr_below _ (fun i=>by simp [below,zac]) l j h
 refine zbg Tryz.E0 zaa Tryz.func56 (by kernel_rfl) rfl (Nat.le_of_ble_eq_true rfl) rfl fun hcl hbl=>?_
 have hbB:zac H.length l:=hcl i _ hi
 (repeat' ((conv=>whnf);(first|refine EqN.i64 (by omega) ?_|refine AnyVN.mk (fun v hv=>?_)|fail)));conv=>whnf
 obtain ⟨c,rfl,hc⟩:=hv
 (repeat' ((conv=>whnf);(first|refine SideN.mk (show min (c:Int) ((n:Int)+12)=((n+12:Nat):Int) by omega) ?_|fail)));conv=>whnf
 refine loop_B Tryz.E0 zaa (σ:=Nat) (fun p=>p≤n+12) (fun p=>n+12-p) (fun p=>[(3,.v (.int .i64 p))]) (fun p=>H.set i (.vec 58 2 (ovr (fun i=>[.str (mkO i),.int .i64 0]) 2 l p))) (fun _=>[]) _ 0 (fun p _=>by simp) (fun p _=>closed_set hcl i _ (hob _ hbB)) [2] rfl (Nat.zero_le _) ⟨⟨_,rfl,Wk.refl _⟩,trivial⟩ (by rw [h00];exact (set_self (by rw [hi])).symm) rfl (fun _ _=>rfl) ?_
 intro j hj
 clear hbl
 rcases Nat.lt_or_ge j (n+12) with hlt|hge
 ·have hm:=fun H=>markBind2_c j (by omega) H
  have hs:setL (ovr (fun i=>[.str (mkO i),.int .i64 0]) 2 l j) (j * 2) [.str (mkO j),.int .i64 0]=ovr (fun i=>[.str (mkO i),.int .i64 0]) 2 l (j+1):=ovr_set (g:=fun i=>[.str (mkO i),.int .i64 0]) (sz:=2) (fun _=>rfl) l j (by rw [hl];exact Nat.mul_le_mul_right _ hlt)
  have h1:=hol j (by omega)
  have hg:(H.set i (.vec 58 2 (ovr (fun i=>[.str (mkO i),.int .i64 0]) 2 l j)))[i]? = some (.vec 58 2 (ovr (fun i=>[.str (mkO i),.int .i64 0]) 2 l j)):=by simp [hlt0]
  have hne:ovr (fun i=>[.str (mkO i),.int .i64 0]) 2 l j≠[]:=fun e=>by rw [e] at h1;simp at h1;omega
  have hset:(H.set i (.vec 58 2 (ovr (fun i=>[.str (mkO i),.int .i64 0]) 2 l j))).set i (.vec 58 2 (ovr (fun i=>[.str (mkO i),.int .i64 0]) 2 l (j+1)))=H.set i (.vec 58 2 (ovr (fun i=>[.str (mkO i),.int .i64 0]) 2 l (j+1))):=List.set_set ..
  have h2:=hol (j+1) (by omega)
  generalize hA:ovr (fun i=>[.str (mkO i),.int .i64 0]) 2 l j=A at *
  generalize hA2:ovr (fun i=>[.str (mkO i),.int .i64 0]) 2 l (j+1)=A2 at *
  generalize mkO j=s at hm hs
  (repeat' ((conv=>whnf);(first|refine SetN.mk _ hset ?_|refine zan (by omega) ?_|(refine zaf _ _ Cst.h Cst.h ?_ ?_;· omega)|refine SideN.mk (by simp;omega) ?_|refine CallN.det _ (hm _) ?_|refine SideN.mk ⟨⟨by omega,hne⟩,by omega,by omega⟩ ?_|refine RelN.mk A2 [] (by rw [Int.toNat_natCast];exact hs.symm) ?_|refine PtrN.base _ (by (repeat' (first|assumption|exact za4 _ rfl|exact zam rfl|refine zar (B':=?_) ?_|refine zai ?_|fail))) ?_|fail)));conv=>whnf
  subst hA2
  (refine ⟨⟨j+1,by show j+1≤_;omega,by omega,?_,.inl ⟨rfl,rfl⟩,rfl,_,rfl,?_⟩⟩;rotate_left 1;exact .inl rfl;exact ⟨⟨_,rfl,Wk.refl _⟩,trivial⟩)
 ·obtain rfl:j=n+12:=by omega
  (repeat' ((conv=>whnf);(first|refine zas (by omega) ?_|fail)));conv=>whnf
  exact za7 (hob _ hbB) trivial (Wk.refl _)
theorem overText_c (n i:Nat) (l:List AV) (hn:n≤100) (hl:l.length=(n+12) * 1) (H:Heap) (hi:H[i]? = some (.vec 9 1 l)):VCall Tryz.prog 18 [.vk i n (n+12)] H (setR H i (.vec 9 1 (ovr (fun i=>[.str (mkO i)]) 1 l (n+12))) (.tup [])):=by
 have hlt0:=(List.getElem?_eq_some_iff.1 hi).1
 have hol:=fun j (h:j≤n+12)=>ovr_len (g:=fun i=>[.str (mkO i)]) (sz:=1) (fun _=>rfl) l j (by rw [hl];exact Nat.mul_le_mul_right _ h)
 have h00:ovr (fun i=>[.str (mkO i)]) 1 l 0=l:=by simp [ovr]
 have hob:∀ j,zac H.length l→zac H.length (ovr (fun i=>[.str (mkO i)]) 1 l j):=fun j h=>ovr_below _ (fun i=>by simp [below,zac]) l j h
 refine zbg Tryz.E0 zaa Tryz.func18 (by kernel_rfl) rfl (Nat.le_of_ble_eq_true rfl) rfl fun hcl hbl=>?_
 have hbB:zac H.length l:=hcl i _ hi
 (repeat' ((conv=>whnf);(first|refine EqN.i64 (by omega) ?_|refine AnyVN.mk (fun v hv=>?_)|fail)));conv=>whnf
 obtain ⟨c,rfl,hc⟩:=hv
 (repeat' ((conv=>whnf);(first|refine SideN.mk (show min (c:Int) ((n:Int)+12)=((n+12:Nat):Int) by omega) ?_|fail)));conv=>whnf
 refine loop_B Tryz.E0 zaa (σ:=Nat) (fun p=>p≤n+12) (fun p=>n+12-p) (fun p=>[(3,.v (.int .i64 p))]) (fun p=>H.set i (.vec 9 1 (ovr (fun i=>[.str (mkO i)]) 1 l p))) (fun _=>[]) _ 0 (fun p _=>by simp) (fun p _=>closed_set hcl i _ (hob _ hbB)) [2] rfl (Nat.zero_le _) ⟨⟨_,rfl,Wk.refl _⟩,trivial⟩ (by rw [h00];exact (set_self (by rw [hi])).symm) rfl (fun _ _=>rfl) ?_
 intro j hj
 clear hbl
 rcases Nat.lt_or_ge j (n+12) with hlt|hge
 ·have hm:=fun H=>markText2_c j (by omega) H
  have hs:setL (ovr (fun i=>[.str (mkO i)]) 1 l j) (j * 1) [.str (mkO j)]=ovr (fun i=>[.str (mkO i)]) 1 l (j+1):=ovr_set (g:=fun i=>[.str (mkO i)]) (sz:=1) (fun _=>rfl) l j (by rw [hl];exact Nat.mul_le_mul_right _ hlt)
  have h1:=hol j (by omega)
  have hg:(H.set i (.vec 9 1 (ovr (fun i=>[.str (mkO i)]) 1 l j)))[i]? = some (.vec 9 1 (ovr (fun i=>[.str (mkO i)]) 1 l j)):=by simp [hlt0]
  have hne:ovr (fun i=>[.str (mkO i)]) 1 l j≠[]:=fun e=>by rw [e] at h1;simp at h1;omega
  have hset:(H.set i (.vec 9 1 (ovr (fun i=>[.str (mkO i)]) 1 l j))).set i (.vec 9 1 (ovr (fun i=>[.str (mkO i)]) 1 l (j+1)))=H.set i (.vec 9 1 (ovr (fun i=>[.str (mkO i)]) 1 l (j+1))):=List.set_set ..
  have h2:=hol (j+1) (by omega)
  generalize hA:ovr (fun i=>[.str (mkO i)]) 1 l j=A at *
  generalize hA2:ovr (fun i=>[.str (mkO i)]) 1 l (j+1)=A2 at *
  generalize mkO j=s at hm hs
  (repeat' ((conv=>whnf);(first|refine SetN.mk _ hset ?_|refine zan (by omega) ?_|(refine zaf _ _ Cst.h Cst.h ?_ ?_;· omega)|refine SideN.mk (by simp;omega) ?_|refine CallN.det _ (hm _) ?_|refine SideN.mk ⟨⟨by omega,hne⟩,by omega,by omega⟩ ?_|refine RelN.mk A2 [] (by rw [Int.toNat_natCast];exact hs.symm) ?_|refine PtrN.base _ (by (repeat' (first|assumption|exact za4 _ rfl|exact zam rfl|refine zar (B':=?_) ?_|refine zai ?_|fail))) ?_|fail)));conv=>whnf
  subst hA2
  (refine ⟨⟨j+1,by show j+1≤_;omega,by omega,?_,.inl ⟨rfl,rfl⟩,rfl,_,rfl,?_⟩⟩;rotate_left 1;exact .inl rfl;exact ⟨⟨_,rfl,Wk.refl _⟩,trivial⟩)
 ·obtain rfl:j=n+12:=by omega
  (repeat' ((conv=>whnf);(first|refine zas (by omega) ?_|fail)));conv=>whnf
  exact za7 (hob _ hbB) trivial (Wk.refl _)
def fnC (f:Fnc) (p:Nat):List AV:=[.str f.nm,.int .i64 f.ar,.vk p f.vl.length (f.vl.length+12)]
def fnB (f:Fnc):Blk:=.vec 3 1 (f.vl.flatMap enc64++mks enc64 mkI 12)
def fn3 (f:Fnc) (p:Nat):Heap:=[.box 56 (fnC f (p+2)),.box 56 (fnC f (p+2)),fnB f]
theorem lentFunc_v (f:Fnc) (hf:f.vl.length≤17592186044404) (H:Heap):VCall Tryz.prog 86 [.agg f.cells] H fun r H'=>r=.agg (fnC f (H.length+2))∧H'=H++fn3 f H.length:=by
 have h1:∀ B1 B2,VCall Tryz.prog 38 [.sl none f.vl.length (f.vl.flatMap enc64)] (H++[B1,B2]) fun r H'=>r=.vk (H.length+2) f.vl.length (f.vl.length+12)∧H'=(H++[B1,B2])++[fnB f]:=fun B1 B2=>by
  have:=lentInt_v f.vl hf (H++[B1,B2])
  rw [List.length_append] at this
  exact this
 have hB:fnB f=.vec 3 1 (f.vl.flatMap enc64++mks enc64 mkI 12):=rfl
 have hbB:∀ n,zac n (f.vl.flatMap enc64++mks enc64 mkI 12):=fun n=>(za5 _ _).2 ⟨i64s_below n _,mks_below n (fun x=>by simp [enc64,below,zac]) 12⟩
 have hCb:=fun n=>i64s_below n f.vl
 unfold fn3 fnC Fnc.cells
 rw [hB] at h1 ⊢
 generalize f.vl.flatMap enc64++mks enc64 mkI 12=C at *
 generalize f.vl.flatMap enc64=c at *
 generalize f.vl.length=n at *
 refine zbg Tryz.E0 zaa Tryz.func86 (by kernel_rfl) rfl (Nat.le_of_ble_eq_true rfl) rfl fun hcl hbl=>?_
 (repeat' ((conv=>whnf);(first|refine CallN.grow _ _ _ 3 (h1 _ _) rfl rfl rfl ?_|fail)));conv=>whnf
 exact EndN.keep _ (Wk.refl _) ⟨rfl,rfl⟩
def fn4 (f:Fnc) (p:Nat):Heap:=[.box 56 (fnC f (p+2)),.box 56 (fnC f (p+2)),fnB f,.box 56 (fnC f (p+2))]
def fnL (l:List Fnc) (p k:Nat):List AV:=(List.range k).flatMap fun i=>fnC (l.getD i fnc0) (p+(1+4 * i)+2)
def fnX (l:List Fnc) (p k:Nat):Heap:=(List.range k).flatMap fun i=>fn4 (l.getD i fnc0) (p+(1+4 * i))
theorem fnL_succ (l:List Fnc) (p k:Nat):fnL l p (k+1)=fnL l p k++fnC (l.getD k fnc0) (p+(1+4 * k)+2):=by
 unfold fnL
 rw [List.range_succ,List.flatMap_append]
 simp
theorem fnX_succ (l:List Fnc) (p k:Nat):fnX l p (k+1)=fnX l p k++fn4 (l.getD k fnc0) (p+(1+4 * k)):=by
 unfold fnX
 rw [List.range_succ,List.flatMap_append]
 simp
theorem fnX_len (l:List Fnc) (p:Nat):∀ k,(fnX l p k).length=4 * k
 | 0=>rfl
 | k+1=>by
   rw [fnX_succ,List.length_append,fnX_len l p k]
   rfl
theorem fnL_len (l:List Fnc) (p:Nat):∀ k,(fnL l p k).length=k * 3
 | 0=>rfl
 | k+1=>by
   rw [fnL_succ,List.length_append,fnL_len l p k]
   show _+3=_
   omega
def fnH (l:List Fnc) (p k:Nat):Heap:=.vec 56 3 (fnL l p k)::fnX l p k
theorem fnH_len (l:List Fnc) (p k:Nat):(fnH l p k).length=1+4 * k:=by
 unfold fnH
 rw [List.length_cons,fnX_len]
 omega
theorem lentFuncs_v (l:List Fnc) (hl:l.length≤1000) (h:∀ x∈l,x.vl.length≤17592186044404) (H:Heap):VCall Tryz.prog 40 [.sl none l.length (l.flatMap Fnc.cells)] H fun r H'=>r=.vk H.length l.length (l.length+12)∧H'=H++(.vec 56 3 (fnL l H.length l.length++mks Fnc.cells mkFn 12)::fnX l H.length l.length):=by
 rw [← appC_G]
 refine zbg Tryz.E0 zaa Tryz.func40 (by kernel_rfl) rfl (Nat.le_of_ble_eq_true rfl) rfl fun hcl hbl=>?_
 (repeat' ((conv=>whnf);(first|(refine OrN.natR ?_;refine NatN.mk (l.length+12) (by omega) ?_;refine SideN.mk ⟨rfl,by omega,by dsimp only;omega⟩ (OrN.r ?_))|refine EqN.i64 (by omega) ?_|fail)));conv=>whnf
 refine loop_X Tryz.E0 zaa (σ:=Nat) (fun k=>k≤l.length) (fun k=>l.length-k) (fun k=>[(3,.v (.vs (H.length+0) k)),(4,.v (.int .i64 k))]) (fun k=>fnH l H.length k) _ 0 rfl hcl [0] rfl (Nat.zero_le _) ⟨⟨_,rfl,Wk.refl _⟩,⟨_,rfl,Wk.refl _⟩,trivial⟩ rfl (fun s _=>by simp [fnH,fnX]) ?_
 intro k hk
 have hHl:=fnH_len l H.length k
 rcases Nat.lt_or_ge k l.length with hlt|hge
 ·have hfx:=h _ (getD_memT l k fnc0 hlt)
  have hLl:=fnL_len l H.length k
  have hx:VCall Tryz.prog 86 [.agg (l.getD k fnc0).cells] ((H++fnH l H.length k)++[]) fun r H'=>r=.agg (fnC (l.getD k fnc0) (H.length+(1+4 * k)+2))∧H'=((H++fnH l H.length k)++[])++fn3 (l.getD k fnc0) (H.length+(1+4 * k)):=by
   have:=lentFunc_v (l.getD k fnc0) hfx ((H++fnH l H.length k)++[])
   have e:((H++fnH l H.length k)++[]).length=H.length+(1+4 * k):=by
    simp [hHl]
   rw [e] at this
   exact this
  have e1:=fnL_succ l H.length k
  have e2:=fnX_succ l H.length k
  have hm0:(H++fnH l H.length k)[H.length+0]? = some (.vec 56 3 (fnL l H.length k)):=zam rfl
  have hset:(H++fnH l H.length k).set (H.length+0) (.vec 56 3 (fnL l H.length k++fnC (l.getD k fnc0) (H.length+(1+4 * k)+2)))=H++(.vec 56 3 (fnL l H.length (k+1))::fnX l H.length k):=by
   rw [zbf,e1]
   rfl
  obtain ⟨nm,ar,vl,hfe,q1⟩:=fnc_ex (f:=l.getD k fnc0) rfl
  rw [q1,hfe] at hx
  rw [hfe] at e1 e2 hset
  unfold fn3 at hx
  unfold fn4 at e2
  have hc:∀ p,fnC ⟨nm,ar,vl⟩ p=[.str nm,.int .i64 ar,.vk p vl.length (vl.length+12)]:=fun _=>rfl
  generalize fnB ⟨nm,ar,vl⟩=B at hx e2
  simp only [hc] at hx e1 e2 hset
  rw [hHl]
  have hm0':=hm0
  generalize hG:fnH l H.length k=L at hx hm0 hset hHl ⊢
  (repeat' ((conv=>whnf);(first|refine SetN.mk _ hset ?_|refine zan (by omega) ?_|(refine zaf _ _ Cst.h Cst.h ?_ ?_;· omega)|(refine SideN.mk ?_ ?_;· first|omega|exact List.cons_ne_nil _ _|fail)|refine CallN.grow _ _ _ 3 hx (by rw [List.length_append,hHl]) rfl rfl ?_|refine SegN.nthE fnc0 k rfl (by omega) fnc_size q1 ?_|refine PtrN.base _ hm0 ?_|refine SideN.mk ⟨hLl,rfl,rfl,by dsimp only;omega,by simp only [maxLen];omega⟩ ?_|fail)));conv=>whnf
  refine ⟨⟨k+1,by show k+1≤_;omega,by show l.length-(k+1)<l.length-k;omega,⟨⟨_,rfl,Wk.refl _⟩,⟨_,rfl,Wk.refl _⟩,trivial⟩,.inr ⟨⟨_,rfl,Wk.refl _⟩,trivial⟩,[],.of_eq ?_,.inl rfl⟩⟩
  unfold fnH
  rw [e2]
  simp
 ·obtain rfl:k=l.length:=by omega
  have hLl:=fnL_len l H.length l.length
  have hXl:=fnX_len l H.length l.length
  unfold fnH at hHl ⊢
  have hCb:∀ n:Nat,True:=fun _=>trivial
  generalize fnL l H.length l.length=C at *
  generalize fnX l H.length l.length=X at *
  (repeat' ((conv=>whnf);(first|refine zas (by omega) ?_|fail)));conv=>whnf
  refine LeftX.ofB _ [(0,.v (.sl none l.length (l.flatMap Fnc.cells)))] rfl rfl rfl ?_
  conv=>whnf
  refine za9 Tryz.E0 zaa (σ:=Nat) (fun j=>j≤12) (fun j=>12-j) (fun j=>[(3,.v (.vs (H.length+0) (l.length+j))),(6,.v (.int .i64 j))]) (fun j=>.vec 56 3 (appC (fun i=>Fnc.cells (mkFn i)) C j)::X) _ 0 rfl hcl [0] rfl (Nat.zero_le _) ⟨⟨_,rfl,Wk.refl _⟩,⟨_,rfl,Wk.refl _⟩,trivial⟩ (by simp [appC]) (fun _ _=>by simp) ?_
  intro j hj
  have hDl:=appC_len (m:=fun i=>Fnc.cells (mkFn i)) (fun i=>(rfl:(Fnc.cells (mkFn i)).length=3)) hLl j
  rcases Nat.lt_or_ge j 12 with hlt|hge
  ·have hm:∀ H,VDet Tryz.prog 87 [.int .i64 1,.int .i64 (j:Nat)] H (.agg [.str (mkB j),.int .i64 0,.sl none 0 []]):=fun H=>markFunc_c j hlt H
   have hns:appC (fun i=>Fnc.cells (mkFn i)) C (j+1)=appC (fun i=>Fnc.cells (mkFn i)) C j++[.str (mkB j),.int .i64 0,.sl none 0 []]:=rfl
   generalize mkB j=sj at hm hns
   generalize appC (fun i=>Fnc.cells (mkFn i)) C j=D at *
   (repeat' ((conv=>whnf);(first|refine zan (by omega) ?_|(refine zaf _ _ Cst.h Cst.h ?_ ?_;· omega)|refine CallN.det _ (hm _) ?_|refine SideN.mk ⟨by dsimp only;omega,rfl,rfl,by dsimp only;omega,by simp only [maxLen];omega⟩ ?_|refine PtrN.loc _ rfl ?_|fail)));conv=>whnf
   rw [← hns]
   refine ⟨⟨j+1,by show j+1≤_;omega,by show 12-(j+1)<12-j;omega,⟨⟨_,rfl,Wk.refl _⟩,⟨_,rfl,Wk.refl _⟩,trivial⟩,.inl ⟨rfl,rfl⟩,rfl,[],(List.append_nil _).symm,.inl rfl⟩⟩
  ·obtain rfl:j=12:=by omega
   (repeat' ((conv=>whnf);(first|refine IfN.ff rfl ?_|refine SideN.mk (by omega) ?_|refine NatN.mk _ rfl ?_|fail)));conv=>whnf
   refine EndN.keep _ (Wk.refl _) ⟨rfl,rfl⟩
def mdL (m:Mdl) (p:Nat):List AV:=[.int .u8 m.kind,.int .i64 m.size,.vk (p+2) m.rel.length (m.rel.length+12),.int .i64 m.loop,.vk (p+3) m.facts.length (m.facts.length+12),.vk (p+4) m.funcs.length (m.funcs.length+12),.vk (p+5+4 * m.funcs.length) m.binds.length (m.binds.length+12)]
def inB (m:Mdl):Blk:=.vec 3 1 (m.rel.flatMap enc64++mks enc64 mkI 12)
def faB (m:Mdl):Blk:=.vec 60 3 (m.facts.flatMap Fct.cells++mks Fct.cells mkFc 12)
def fuB (m:Mdl) (p:Nat):Blk:=.vec 56 3 (fnL m.funcs (p+4) m.funcs.length++mks Fnc.cells mkFn 12)
def biB (m:Mdl):Blk:=.vec 58 2 (m.binds.flatMap Bnd.cells++mks Bnd.cells mkBd 12)
def lnH (m:Mdl) (p:Nat):Heap:=[.box 27 (mdL m p),.box 27 (mdL m p),inB m,faB m,fuB m p]++fnX m.funcs (p+4) m.funcs.length++[biB m]
theorem lnH_len (m:Mdl) (p:Nat):(lnH m p).length=6+4 * m.funcs.length:=by
 unfold lnH
 rw [List.length_append,List.length_append,fnX_len]
 simp only [List.length_cons,List.length_nil]
 omega
theorem lentModel_v (m:Mdl) (hm:m.Few) (h1000:m.funcs.length≤1000) (H:Heap):VCall Tryz.prog 8 [.agg m.cells] H fun r H'=>r=.agg (mdL m H.length)∧H'=H++lnH m H.length:=by
 have h1:∀ B1 B2,VCall Tryz.prog 38 [.sl none m.rel.length (m.rel.flatMap enc64)] (H++[B1,B2]) fun r H'=>r=.vk (H.length+2) m.rel.length (m.rel.length+12)∧H'=(H++[B1,B2])++[inB m]:=fun B1 B2=>by
  have:=lentInt_v m.rel hm.rel (H++[B1,B2])
  rw [List.length_append] at this
  exact this
 have h2:∀ B1 B2 B3,VCall Tryz.prog 39 [.sl none m.facts.length (m.facts.flatMap Fct.cells)] (H++[B1,B2,B3]) fun r H'=>r=.vk (H.length+3) m.facts.length (m.facts.length+12)∧H'=(H++[B1,B2,B3])++[faB m]:=fun B1 B2 B3=>by
  have:=lentFact_v m.facts hm.facts (H++[B1,B2,B3])
  rw [List.length_append] at this
  exact this
 have h3:∀ B1 B2 B3 B4,VCall Tryz.prog 40 [.sl none m.funcs.length (m.funcs.flatMap Fnc.cells)] (H++[B1,B2,B3,B4]) fun r H'=>r=.vk (H.length+4) m.funcs.length (m.funcs.length+12)∧H'=(H++[B1,B2,B3,B4])++(fuB m H.length::fnX m.funcs (H.length+4) m.funcs.length):=fun B1 B2 B3 B4=>by
  have:=lentFuncs_v m.funcs h1000 hm.vals (H++[B1,B2,B3,B4])
  rw [List.length_append] at this
  exact this
 have h4:∀ B1 B2 B3 B4,VCall Tryz.prog 41 [.sl none m.binds.length (m.binds.flatMap Bnd.cells)] (H++(B1::B2::B3::B4::fuB m H.length::fnX m.funcs (H.length+4) m.funcs.length)) fun r H'=>r=.vk (H.length+5+4 * m.funcs.length) m.binds.length (m.binds.length+12)∧H'=(H++(B1::B2::B3::B4::fuB m H.length::fnX m.funcs (H.length+4) m.funcs.length))++[biB m]:=fun B1 B2 B3 B4=>by
  have:=lentBind_v m.binds hm.binds (H++(B1::B2::B3::B4::fuB m H.length::fnX m.funcs (H.length+4) m.funcs.length))
  rw [List.length_append] at this
  simp only [List.length_cons,fnX_len] at this
  rw [show H.length+(4 * m.funcs.length+1+1+1+1+1)=H.length+5+4 * m.funcs.length by omega] at this
  exact this
 have hXl:=fnX_len m.funcs (H.length+4) m.funcs.length
 unfold lnH mdL Mdl.cells
 generalize fnX m.funcs (H.length+4) m.funcs.length=X at *
 generalize inB m=Bi at *
 generalize faB m=Bf at *
 generalize fuB m H.length=Bu at *
 generalize biB m=Bb at *
 generalize m.rel.flatMap enc64=c1 at *
 generalize m.facts.flatMap Fct.cells=c2 at *
 generalize m.funcs.flatMap Fnc.cells=c3 at *
 generalize m.binds.flatMap Bnd.cells=c4 at *
 obtain ⟨k,n,rel,lp,fs,us,bs⟩:=m
 simp only at *
 refine zbg Tryz.E0 zaa Tryz.func8 (by kernel_rfl) rfl (Nat.le_of_ble_eq_true rfl) rfl fun hcl hbl=>?_
 (repeat' ((conv=>whnf);(first|refine CallN.grow _ _ _ 3 (h1 _ _) rfl rfl rfl ?_|refine CallN.grow _ _ _ 4 (h2 _ _ _) rfl rfl rfl ?_|refine CallN.grow _ _ (_::_::_::_::Bu::X) (5+4 * us.length) (h3 _ _ _ _) rfl rfl (by simp only [List.length_cons,hXl];omega) ?_|refine CallN.grow _ _ (_::_::_::_::Bu::(X++[Bb])) (6+4 * us.length) (h4 _ _ _ _) rfl rfl (by simp only [List.length_cons,List.length_append,List.length_nil,hXl];omega) ?_|fail)));conv=>whnf
 refine EndN.keep _ (Wk.refl _) ⟨rfl,?_⟩
 simp
theorem ovr_all {g:Nat→List AV} {sz:Nat} (hg:∀ i n,zac n (g i)) (l:List AV) (n:Nat) (hl:l.length=n * sz) (m:Nat):zac m (ovr g sz l n):=by
 unfold ovr
 rw [List.drop_of_length_le (by omega),List.append_nil]
 exact zba _ fun i=>hg i m
theorem overInt_o (n i:Nat) (l:List AV) (hn:n≤17592186044404) (hl:l.length=(n+12) * 1) (H:Heap) (hi:H[i]? = some (.vec 3 1 l)):VCall Tryz.prog 53 [.vk i n (n+12)] H fun r H'=>r=.tup []∧OverR (fun j=>j≠i) H H' :=
 VCall.mono (overInt_c n i l hn hl H hi) fun r H' h=>⟨h.2,h.1▸OverR.set H i _ (fun m=>ovr_all (fun i n=>by simp [below,zac]) l (n+12) hl m)⟩
theorem overFact_o (n i:Nat) (l:List AV) (hn:n≤100) (hl:l.length=(n+12) * 3) (H:Heap) (hi:H[i]? = some (.vec 60 3 l)):VCall Tryz.prog 54 [.vk i n (n+12)] H fun r H'=>r=.tup []∧OverR (fun j=>j≠i) H H' :=
 VCall.mono (overFact_c n i l hn hl H hi) fun r H' h=>⟨h.2,h.1▸OverR.set H i _ (fun m=>ovr_all (fun i n=>by simp [below,zac]) l (n+12) hl m)⟩
theorem overBind_o (n i:Nat) (l:List AV) (hn:n≤100) (hl:l.length=(n+12) * 2) (H:Heap) (hi:H[i]? = some (.vec 58 2 l)):VCall Tryz.prog 56 [.vk i n (n+12)] H fun r H'=>r=.tup []∧OverR (fun j=>j≠i) H H' :=
 VCall.mono (overBind_c n i l hn hl H hi) fun r H' h=>⟨h.2,h.1▸OverR.set H i _ (fun m=>ovr_all (fun i n=>by simp [below,zac]) l (n+12) hl m)⟩
theorem overText_o (n i:Nat) (l:List AV) (hn:n≤100) (hl:l.length=(n+12) * 1) (H:Heap) (hi:H[i]? = some (.vec 9 1 l)):VCall Tryz.prog 18 [.vk i n (n+12)] H fun r H'=>r=.tup []∧OverR (fun j=>j≠i) H H' :=
 VCall.mono (overText_c n i l hn hl H hi) fun r H' h=>⟨h.2,h.1▸OverR.set H i _ (fun m=>ovr_all (fun i n=>by simp [below,zac]) l (n+12) hl m)⟩
def Has (H:Heap) (p:Nat) (X:Heap):Prop:=∀ i B,X[i]? = some B→H[p+i]? = some B
theorem Has.app {H A:Heap} (X:Heap):Has ((H++X)++A) H.length X:=fun i B h=>by
 rw [List.append_assoc,List.getElem?_append_right (by omega),Nat.add_sub_cancel_left,List.getElem?_append_left (List.getElem?_eq_some_iff.1 h).1]
 exact h
theorem Has.left {H X Y:Heap} {p:Nat} (h:Has H p (X++Y)):Has H p X:=fun i B hi=>h i B (by rw [List.getElem?_append_left (List.getElem?_eq_some_iff.1 hi).1];exact hi)
theorem Has.right {H X Y:Heap} {p:Nat} (h:Has H p (X++Y)):Has H (p+X.length) Y:=fun i B hi=>by
 rw [Nat.add_assoc]
 exact h _ B (by rw [List.getElem?_append_right (by omega),Nat.add_sub_cancel_left];exact hi)
theorem overFunc_o (f:Fnc) (p:Nat) (hf:f.vl.length≤17592186044404) (H:Heap) (l:List AV) (hl:l.length=(f.vl.length+12) * 1) (hi:H[p]? = some (.vec 3 1 l)):VCall Tryz.prog 95 [.agg (fnC f p)] H fun r H'=>r=.tup []∧OverR (fun j=>j≠p) H H':=by
 have h1:∀ B,VCall Tryz.prog 53 [.vk p f.vl.length (f.vl.length+12)] (H++[B]) fun r H'=>r=.tup []∧OverR (fun j=>j≠p) (H++[B]) H':=fun B=>overInt_o _ _ l hf hl _ (by rw [List.getElem?_append_left (List.getElem?_eq_some_iff.1 hi).1];exact hi)
 have hlt:=(List.getElem?_eq_some_iff.1 hi).1
 unfold fnC
 generalize f.vl.length=n at *
 refine zbg Tryz.E0 zaa Tryz.func95 (by kernel_rfl) rfl (Nat.le_of_ble_eq_true rfl) rfl fun hcl hbl=>?_
 (repeat' ((conv=>whnf);(first|refine CallN.over (fun j=>j≠p) (h1 _) rfl rfl (fun j hj=>by omega) fun base' ho=>?_|fail)));conv=>whnf
 exact EndN.over ho
theorem fnL_pre (l:List Fnc) (q k:Nat):∀ n,k≤n→∃ r,fnL l q n=fnL l q k++r
 | 0,h=>⟨[],by rw [show k=0 by omega];rfl⟩
 | n+1,h=>by
   rcases Nat.lt_or_ge n k with h1|h1
   ·exact ⟨[],by rw [show k=n+1 by omega,List.append_nil]⟩
   ·obtain ⟨r,hr⟩:=fnL_pre l q k n h1
    exact ⟨r++_,by rw [fnL_succ,hr,List.append_assoc]⟩
theorem fnL_seg (l:List Fnc) (q i:Nat) (M:List AV) (n:Nat) (h:i<n):∃ r,(fnL l q n++M).drop (i * 3)=fnC (l.getD i fnc0) (q+(1+4 * i)+2)++r:=by
 obtain ⟨r,hr⟩:=fnL_pre l q (i+1) n h
 refine ⟨r++M,?_⟩
 rw [hr,fnL_succ,List.append_assoc,List.append_assoc,List.drop_append_of_le_length (by rw [fnL_len];exact Nat.le_refl _),List.drop_of_length_le (by rw [fnL_len];exact Nat.le_refl _),List.nil_append]
theorem overFuncs_o (l:List Fnc) (q:Nat) (hl:l.length≤100) (h:∀ x∈l,x.vl.length≤17592186044404) (H:Heap) (M:List AV) (hM:M.length=12 * 3) (hi:H[q]? = some (.vec 56 3 (fnL l q l.length++M))) (hx:∀ i,i<l.length→H[q+(1+4 * i)+2]? = some (fnB (l.getD i fnc0))) :
  VCall Tryz.prog 55 [.vk q l.length (l.length+12)] H fun r H'=>r=.tup []∧OverR (fun j=>j≠q∧∀ i,i<l.length→j≠q+(1+4 * i)+2) H H':=by
 have hLl:(fnL l q l.length++M).length=(l.length+12) * 3:=by rw [List.length_append,fnL_len,hM];omega
 have hseg:=fun i h=>fnL_seg l q i M l.length h
 generalize fnL l q l.length++M=L at *
 have hLn:L≠[]:=fun e=>by rw [e] at hLl;simp at hLl
 refine zbg Tryz.E0 zaa Tryz.func55 (by kernel_rfl) rfl (Nat.le_of_ble_eq_true rfl) rfl fun hcl hbl=>?_
 have hbB:zac H.length L:=hcl q _ hi
 conv=>whnf
 refine loop_B Tryz.E0 zaa (σ:=Nat×Heap) (fun p=>p.1≤l.length∧OverR (fun j=>∀ i,i<p.1→j≠q+(1+4 * i)+2) H p.2) (fun p=>l.length-p.1) (fun p=>[(2,.v (.int .i64 p.1))]) (fun p=>p.2) (fun _=>[]) _ (0,H) (fun p hp=>hp.2.len) (fun p hp=>hp.2.closed hcl) [0] rfl ⟨Nat.zero_le _,.refl _ _⟩ ⟨⟨_,rfl,Wk.refl _⟩,trivial⟩ rfl rfl (fun _ _=>rfl) ?_
 rintro ⟨k,H1⟩ ⟨hk,hov⟩
 simp only at hk hov
 have hq1:H1[q]? = some (.vec 56 3 L):=by rw [hov.same q (fun i _=>by omega)];exact hi
 have hlen1:=hov.len
 clear hbl
 rcases Nat.lt_or_ge k l.length with hlt|hge
 ·obtain ⟨r,hr⟩:=hseg k hlt
  have hfx:=h _ (getD_memT l k fnc0 hlt)
  have hp1:H1[q+(1+4 * k)+2]? = some (fnB (l.getD k fnc0)):=by rw [hov.same _ (fun i hi=>by omega)];exact hx k hlt
  have hc:=overFunc_o (l.getD k fnc0) (q+(1+4 * k)+2) hfx H1 _ (by rw [List.length_append,zaz (f:=enc64) (sz:=1) i64_size];rfl) hp1
  unfold fnC at hc hr
  generalize (l.getD k fnc0).nm=nm at hc hr
  generalize (l.getD k fnc0).ar=ar at hc hr
  generalize (l.getD k fnc0).vl.length=n at hc hr
  have hc:VCall Tryz.prog 95 [.agg [.str nm,.int .i64 ar,.vk (q+(1+4 * k)+2) n (n+12)]] (H1++[]) fun r H'=>r=.tup []∧OverR (fun j=>j≠q+(1+4 * k)+2) (H1++[]) H':=by rw [List.append_nil];exact hc
  have hlt2:=(List.getElem?_eq_some_iff.1 hp1).1
  (repeat' ((conv=>whnf);(first|refine SideN.mk hLl ?_|refine zan (by omega) ?_|(refine zaf _ _ Cst.h Cst.h ?_ ?_;· omega)|refine SideN.mk (List.cons_ne_nil _ _) ?_|refine SideN.mk ⟨⟨hLl,hLn⟩,by omega,by omega⟩ ?_|refine SegN.mk _ ⟨r,by rw [Int.toNat_natCast];exact hr⟩ ?_|refine CallN.over (fun j=>j≠q+(1+4 * k)+2) hc hlen1 rfl (fun j hj=>by omega) fun H2 ho=>?_|refine PtrN.base _ (by (repeat' (first|assumption|exact za4 _ rfl|exact zam rfl|refine zar (B':=?_) ?_|refine zai ?_|fail))) ?_|fail)));conv=>whnf
  refine ⟨⟨(k+1,H2),⟨by show k+1≤_;omega,OverR.trans hov ho (fun j hj=>⟨fun i hi=>hj i (by show i<k+1;omega),hj k (by show k<k+1;omega)⟩)⟩,by show l.length-(k+1)<l.length-k;omega,⟨⟨_,rfl,Wk.refl _⟩,trivial⟩,.inl ⟨rfl,rfl⟩,rfl,[],rfl,.inl rfl⟩⟩
 ·obtain rfl:k=l.length:=by omega
  have hlt0:=(List.getElem?_eq_some_iff.1 hq1).1
  have hol:=fun j (h:j≤l.length+12)=>ovr_len (g:=fun i=>[.str (mkO i),.int .i64 0,.nils]) (sz:=3) (fun _=>rfl) L j (by rw [hLl];exact Nat.mul_le_mul_right _ h)
  have h00:ovr (fun i=>[.str (mkO i),.int .i64 0,.nils]) 3 L 0=L:=by simp [ovr]
  have hbB1:zac H1.length L:=hlen1▸hbB
  have hob:∀ j,zac H1.length (ovr (fun i=>[.str (mkO i),.int .i64 0,.nils]) 3 L j):=fun j=>ovr_below _ (fun i=>by simp [below,zac]) L j hbB1
  have hcl1:=hov.closed hcl
  (repeat' ((conv=>whnf);(first|refine zas (by omega) ?_|refine EqN.i64 (by omega) ?_|refine AnyVN.mk (fun v hv=>?_)|fail)));conv=>whnf
  obtain ⟨c,rfl,hc⟩:=hv
  (repeat' ((conv=>whnf);(first|refine SideN.mk (show min (c:Int) ((l.length:Int)+12)=((l.length+12:Nat):Int) by omega) ?_|fail)));conv=>whnf
  refine loop_B Tryz.E0 zaa (σ:=Nat) (fun p=>p≤l.length+12) (fun p=>l.length+12-p) (fun p=>[(4,.v (.int .i64 p))]) (fun p=>H1.set q (.vec 56 3 (ovr (fun i=>[.str (mkO i),.int .i64 0,.nils]) 3 L p))) (fun _=>[]) _ 0 (fun p _=>by simp [hlen1]) (fun p _=>closed_set hcl1 q _ (hob _)) [3] rfl (Nat.zero_le _) ⟨⟨_,rfl,Wk.refl _⟩,trivial⟩ (by rw [h00];exact (set_self (by rw [hq1])).symm) rfl (fun _ _=>rfl) ?_
  intro j hj
  rcases Nat.lt_or_ge j (l.length+12) with hlt|hge
  ·have hm:=fun H=>markFunc2_c j (by omega) H
   have hs:setL (ovr (fun i=>[.str (mkO i),.int .i64 0,.nils]) 3 L j) (j * 3) [.str (mkO j),.int .i64 0,.nils]=ovr (fun i=>[.str (mkO i),.int .i64 0,.nils]) 3 L (j+1):=ovr_set (g:=fun i=>[.str (mkO i),.int .i64 0,.nils]) (sz:=3) (fun _=>rfl) L j (by rw [hLl];exact Nat.mul_le_mul_right _ hlt)
   have h1:=hol j (by omega)
   have hg:(H1.set q (.vec 56 3 (ovr (fun i=>[.str (mkO i),.int .i64 0,.nils]) 3 L j)))[q]? = some (.vec 56 3 (ovr (fun i=>[.str (mkO i),.int .i64 0,.nils]) 3 L j)):=by simp [hlt0]
   have hne:ovr (fun i=>[.str (mkO i),.int .i64 0,.nils]) 3 L j≠[]:=fun e=>by rw [e] at h1;simp at h1;omega
   have hset:(H1.set q (.vec 56 3 (ovr (fun i=>[.str (mkO i),.int .i64 0,.nils]) 3 L j))).set q (.vec 56 3 (ovr (fun i=>[.str (mkO i),.int .i64 0,.nils]) 3 L (j+1)))=H1.set q (.vec 56 3 (ovr (fun i=>[.str (mkO i),.int .i64 0,.nils]) 3 L (j+1))):=List.set_set ..
   have h2:=hol (j+1) (by omega)
   generalize hA:ovr (fun i=>[.str (mkO i),.int .i64 0,.nils]) 3 L j=A at *
   generalize hA2:ovr (fun i=>[.str (mkO i),.int .i64 0,.nils]) 3 L (j+1)=A2 at *
   generalize mkO j=s at hm hs
   (repeat' ((conv=>whnf);(first|refine SetN.mk _ hset ?_|refine zan (by omega) ?_|(refine zaf _ _ Cst.h Cst.h ?_ ?_;· omega)|refine SideN.mk (by simp;omega) ?_|refine CallN.det _ (hm _) ?_|refine SideN.mk ⟨⟨by omega,hne⟩,by omega,by omega⟩ ?_|refine RelN.mk A2 [] (by rw [Int.toNat_natCast];exact hs.symm) ?_|refine PtrN.base _ (by (repeat' (first|assumption|exact za4 _ rfl|exact zam rfl|refine zar (B':=?_) ?_|refine zai ?_|fail))) ?_|fail)));conv=>whnf
   subst hA2
   (refine ⟨⟨j+1,by show j+1≤_;omega,by omega,?_,.inl ⟨rfl,rfl⟩,rfl,_,rfl,?_⟩⟩;rotate_left 1;exact .inl rfl;exact ⟨⟨_,rfl,Wk.refl _⟩,trivial⟩)
  ·obtain rfl:j=l.length+12:=by omega
   (repeat' ((conv=>whnf);(first|refine zas (by omega) ?_|fail)));conv=>whnf
   refine EndN.over (OverR.trans hov (OverR.set H1 q _ (fun m=>ovr_all (fun i n=>by simp [below,zac]) L (l.length+12) hLl m)) fun j hj=>⟨hj.2,hj.1⟩)
theorem LendL.app {H:Heap}:∀ {a b c d:List AV},LendL H a b→LendL H c d→LendL H (a++c) (b++d)
 | _,_,_,_,.nil,h=>h
 | _,_,_,_,.cons h1 h2,h=>.cons h1 (LendL.app h2 h)
theorem fnC_lend {H:Heap} {f:Fnc} {p:Nat} (h:H[p]? = some (fnB f)):LendL H (fnC f p) (lnU f) :=
 .cons (.refl _) (.cons (.refl _) (.cons (.vk h (by rw [List.length_append,zaz (f:=enc64) (sz:=1) i64_size];rfl) (LendL.refl _)) .nil))
theorem fnX_get (l:List Fnc) (p:Nat):∀ n i,i<n→(fnX l p n)[4 * i+2]? = some (fnB (l.getD i fnc0))
 | 0,i,h=>absurd h (Nat.not_lt_zero i)
 | n+1,i,h=>by
   rw [fnX_succ]
   rcases Nat.lt_or_ge i n with h1|h1
   ·rw [List.getElem?_append_left (by rw [fnX_len];omega)]
    exact fnX_get l p n i h1
   ·have:i=n:=by omega
    subst this
    rw [List.getElem?_append_right (by rw [fnX_len];omega),fnX_len,Nat.add_sub_cancel_left]
    rfl
theorem take_snocD {α:Type} (l:List α) (d:α) (i:Nat) (h:i<l.length):l.take (i+1)=l.take i++[l.getD i d]:=by
 rw [List.take_add_one,List.getElem?_eq_getElem h,List.getD_eq_getElem?_getD,List.getElem?_eq_getElem h]
 rfl
theorem fnL_lend {H:Heap} (l:List Fnc) (q:Nat) (h:∀ i,i<l.length→H[q+(1+4 * i)+2]? = some (fnB (l.getD i fnc0))):∀ k,k≤l.length→LendL H (fnL l q k) ((l.take k).flatMap lnU)
 | 0,_=>.nil
 | k+1,hk=>by
   rw [fnL_succ,take_snocD l fnc0 k hk,List.flatMap_append]
   refine LendL.app (fnL_lend l q h k (by omega)) ?_
   rw [List.flatMap_cons,List.flatMap_nil,List.append_nil]
   exact fnC_lend (h k hk)
structure MdAt (m:Mdl) (p:Nat) (H:Heap):Prop where
 rel:H[p+2]? = some (inB m)
 fac:H[p+3]? = some (faB m)
 fun_:H[p+4]? = some (fuB m p)
 val:∀ i,i<m.funcs.length→H[(p+4)+(1+4 * i)+2]? = some (fnB (m.funcs.getD i fnc0))
 bin:H[p+5+4 * m.funcs.length]? = some (biB m)
theorem MdAt.of {m:Mdl} {p:Nat} {H:Heap} (h:Has H p (lnH m p)):MdAt m p H:=by
 have h1:Has H p [.box 27 (mdL m p),.box 27 (mdL m p),inB m,faB m,fuB m p]:=h.left.left
 have h2:Has H (p+5) (fnX m.funcs (p+4) m.funcs.length):=h.left.right
 have h3:Has H (p+(5+4 * m.funcs.length)) [biB m]:=by
  have:=Has.right (X:=[.box 27 (mdL m p),.box 27 (mdL m p),inB m,faB m,fuB m p]++fnX m.funcs (p+4) m.funcs.length) h
  rw [List.length_append,fnX_len] at this
  exact this
 refine ⟨h1 2 _ rfl,h1 3 _ rfl,h1 4 _ rfl,fun i hi=>?_,?_⟩
 ·have:=h2 (4 * i+2) _ (fnX_get _ _ _ i hi)
  rw [show p+4+(1+4 * i)+2=p+5+(4 * i+2) by omega]
  exact this
 ·have:=h3 0 _ rfl
  rw [show p+5+4 * m.funcs.length=p+(5+4 * m.funcs.length)+0 by omega]
  exact this
theorem MdAt.app {m:Mdl} {p:Nat} {H:Heap} (h:MdAt m p H) (X:Heap):MdAt m p (H++X):=by
 have hlt:=fun {j:Nat} {B:Blk} (h:H[j]? = some B)=>(List.getElem?_append_left (l₂:=X) (List.getElem?_eq_some_iff.1 h).1).trans h
 exact ⟨hlt h.rel,hlt h.fac,hlt h.fun_,fun i hi=>hlt (h.val i hi),hlt h.bin⟩
theorem MdAt.lend {m:Mdl} {p:Nat} {H:Heap} (h:MdAt m p H):LendL H (mdL m p) (lnM m):=by
 have e1:=zaz (f:=enc64) (sz:=1) i64_size m.rel
 have e2:=zaz (f:=Fct.cells) (sz:=3) fct_size m.facts
 have e4:=zaz (f:=Bnd.cells) (sz:=2) bnd_size m.binds
 have hf:=fnL_lend m.funcs (p+4) h.val m.funcs.length (Nat.le_refl _)
 rw [List.take_length] at hf
 have hk:∀ {α:Type} (f:α→List AV) (g:Nat→α) (sz:Nat),(∀ x,(f x).length=sz)→(mks f g 12).length=12 * sz:=fun f g sz hs=>by
  unfold mks
  rw [zaz (sz:=sz) (fun j=>hs (g j)),List.length_range]
 refine .cons (.refl _) (.cons (.refl _) (.cons (.vk h.rel ?_ (LendL.refl _)) (.cons (.refl _) (.cons (.vk h.fac ?_ (LendL.refl _)) (.cons (.vk h.fun_ ?_ (LendL.app hf (LendL.refl _))) (.cons (.vk h.bin ?_ (LendL.refl _)) .nil))))))
 ·rw [List.length_append,e1,hk enc64 mkI 1 i64_size];omega
 ·rw [List.length_append,e2,hk Fct.cells mkFc 3 fct_size];omega
 ·rw [List.length_append,fnL_len,hk Fnc.cells mkFn 3 fnc_size];omega
 ·rw [List.length_append,e4,hk Bnd.cells mkBd 2 bnd_size];omega
theorem keptModel_v (m:Mdl) (hm:m.Few) (p:Nat) (H:Heap) (h:MdAt m p H):VDet Tryz.prog 15 [.agg (mdL m p),.agg m.cells] H (.bool true) :=
 VDet.lend (fun H=>keptModel_c m hm H) (.cons (.agg h.lend) (.cons (.refl _) .nil)) rfl
theorem overModel_o (m:Mdl) (hm:m.Few) (h1:m.facts.length≤100) (h2:m.funcs.length≤100) (h3:m.binds.length≤100) (p:Nat) (H:Heap) (h:MdAt m p H):VCall Tryz.prog 17 [.agg (mdL m p)] H fun r H'=>r=.tup []∧OverR (fun j=>j<p∨p+6+4 * m.funcs.length≤j) H H':=by
 have e1:=zaz (f:=enc64) (sz:=1) i64_size m.rel
 have e2:=zaz (f:=Fct.cells) (sz:=3) fct_size m.facts
 have e4:=zaz (f:=Bnd.cells) (sz:=2) bnd_size m.binds
 have hk:∀ {α:Type} (f:α→List AV) (g:Nat→α) (sz:Nat),(∀ x,(f x).length=sz)→(mks f g 12).length=12 * sz:=fun f g sz hs=>by
  unfold mks
  rw [zaz (sz:=sz) (fun j=>hs (g j)),List.length_range]
 have hlt:=(List.getElem?_eq_some_iff.1 h.bin).1
 have at_:∀ {b:Heap} {B C:Blk} {j:Nat},b[j]? = some C→(b++[B])[j]? = some C:=fun hb=>(List.getElem?_append_left (List.getElem?_eq_some_iff.1 hb).1).trans hb
 have g1:∀ B,VCall Tryz.prog 53 [.vk (p+2) m.rel.length (m.rel.length+12)] (H++[B]) fun r H'=>r=.tup []∧OverR (fun j=>j≠p+2) (H++[B]) H':=fun B=>overInt_o _ _ _ hm.rel (by rw [List.length_append,e1,hk enc64 mkI 1 i64_size];omega) _ (at_ h.rel)
 have g2:∀ b1,OverR (fun j=>j≠p+2) H b1→∀ B,VCall Tryz.prog 54 [.vk (p+3) m.facts.length (m.facts.length+12)] (b1++[B]) fun r H'=>r=.tup []∧OverR (fun j=>j≠p+3) (b1++[B]) H':=fun b1 o1 B=>overFact_o _ _ _ h1 (by rw [List.length_append,e2,hk Fct.cells mkFc 3 fct_size];omega) _ (at_ ((o1.same _ (by omega)).trans h.fac))
 have g3:∀ b2,OverR (fun j=>j≠p+2∧j≠p+3) H b2→∀ B,VCall Tryz.prog 55 [.vk (p+4) m.funcs.length (m.funcs.length+12)] (b2++[B]) fun r H'=>r=.tup []∧OverR (fun j=>j≠p+4∧∀ i,i<m.funcs.length→j≠(p+4)+(1+4 * i)+2) (b2++[B]) H':=fun b2 o2 B=>overFuncs_o m.funcs (p+4) h2 hm.vals _ (mks Fnc.cells mkFn 12) (hk Fnc.cells mkFn 3 fnc_size) (at_ ((o2.same _ (by omega)).trans h.fun_)) fun i hi=>at_ ((o2.same _ (by omega)).trans (h.val i hi))
 have g4:∀ b3,OverR (fun j=>j=p+5+4 * m.funcs.length) H b3→∀ B,VCall Tryz.prog 56 [.vk (p+5+4 * m.funcs.length) m.binds.length (m.binds.length+12)] (b3++[B]) fun r H'=>r=.tup []∧OverR (fun j=>j≠p+5+4 * m.funcs.length) (b3++[B]) H':=fun b3 o3 B=>overBind_o _ _ _ h3 (by rw [List.length_append,e4,hk Bnd.cells mkBd 2 bnd_size];omega) _ (at_ ((o3.same _ rfl).trans h.bin))
 unfold mdL
 generalize m.rel.length=n1 at *
 generalize m.facts.length=n2 at *
 generalize m.funcs.length=n3 at *
 generalize m.binds.length=n4 at *
 refine zbg Tryz.E0 zaa Tryz.func17 (by kernel_rfl) rfl (Nat.le_of_ble_eq_true rfl) rfl fun hcl hbl=>?_
 (repeat' ((conv=>whnf);(first|refine CallN.over (fun j=>j≠p+2) (g1 _) rfl rfl (fun j hj=>by omega) fun b1 o1=>?_|refine CallN.over (fun j=>j≠p+3) (g2 _ o1 _) o1.len rfl (fun j hj=>by omega) fun b2 o2=>?_|refine CallN.over (fun j=>j≠p+4∧∀ i,i<n3→j≠(p+4)+(1+4 * i)+2) (g3 _ (o1.trans o2 fun j hj=>hj) _) (o2.len.trans o1.len) rfl (fun j hj=>⟨by omega,fun i hi=>by omega⟩) fun b3 o3=>?_|refine CallN.over (fun j=>j≠p+5+4 * n3) (g4 _ ((o1.trans o2 (S:=fun j=>j≠p+2∧j≠p+3) fun j hj=>hj).trans o3 fun j hj=>⟨by omega,by omega,fun i hi=>by omega⟩) _) (o3.len.trans (o2.len.trans o1.len)) rfl (fun j hj=>by omega) fun b4 o4=>?_|fail)));conv=>whnf
 refine EndN.over (((o1.trans o2 (S:=fun j=>j≠p+2∧j≠p+3) fun j hj=>hj).trans o3 (S:=fun j=>(j<p∨p+6+4 * n3≤j)∨j=p+5+4 * n3) fun j hj=>⟨by omega,by omega,fun i hi=>by omega⟩).trans o4 fun j hj=>⟨.inl hj,by omega⟩)
theorem keptText_c (l:List ByteArray) (hl:l.length≤1000) (H:Heap):VDet Tryz.prog 16 [.sk l.length (l.length+12) (l.flatMap encSG++mks encSG mkB 12),.sl none l.length (l.flatMap encSG)] H (.bool true):=by
 rw [all_flat]
 have g1:=fun j h=>all_g1 mkB eN l j h
 have g2:=fun i h=>all_g2 mkB eN l i h
 have gl:=all_len mkB l
 generalize l++(List.range 12).map mkB=A at *
 refine zag Tryz.E0 zaa Tryz.func16 (by kernel_rfl) rfl (Nat.le_of_ble_eq_true rfl) rfl fun hcl hbl=>?_
 (repeat' ((conv=>whnf);(first|(refine OrN.r ?_;(conv=>whnf);refine NatN.mk (l.length+12) (by omega) ?_;(conv=>whnf);refine SideN.mk (by omega) ?_)|(refine IfN.id ?_;first|refine IfN.not ?_|refine zan (by omega) ?_|fail)|refine EqN.i64 (by omega) ?_|fail)));conv=>whnf
 refine za9 Tryz.E0 zaa (σ:=Nat) (fun j=>j≤l.length+12) (fun j=>l.length+12-j) (fun j=>[(6,.v (.int .i64 j))]) (fun _=>_) _ 0 rfl hcl [1,5] rfl (Nat.zero_le _) ⟨⟨_,rfl,Wk.refl _⟩,trivial⟩ rfl (fun _ _=>rfl) ?_
 intro j hj
 rcases Nat.lt_or_ge j (l.length+12) with hlt|hge
 ·rcases Nat.lt_or_ge j l.length with h1|h1
  ·have e1:=g1 j h1
   obtain ⟨u,q1⟩:∃ u,encSG (l.getD j eN)=[.str u]:=⟨_,rfl⟩
   have qA:=q1
   rw [← e1] at qA
   (repeat' ((conv=>whnf);(first|(refine IfN.id ?_;first|refine IfN.tt (beq_self_eq_true _) ?_|refine IfN.not ?_|refine zan (by omega) ?_|refine zas (by omega) ?_|fail)|(refine zaf _ _ Cst.h Cst.h ?_ ?_;· omega)|(refine SideN.mk ?_ ?_;· first|kernel_rfl|omega|exact List.cons_ne_nil _ _|fail)|refine SegN.nthE eN j rfl (by omega) encSG_size qA ?_|refine SegN.nthE eN j rfl (by omega) encSG_size q1 ?_|refine zah [] ?_|fail)));conv=>whnf
   (refine ⟨⟨j+1,by show j+1≤_;omega,by omega,?_,.inl ⟨rfl,rfl⟩,rfl,_,rfl,?_⟩⟩;rotate_left 1;exact .inl rfl;exact ⟨⟨_,rfl,Wk.refl _⟩,trivial⟩)
  ·obtain ⟨i,rfl⟩:∃ i,j=l.length+i:=⟨j-l.length,by omega⟩
   have hi:i<12:=by omega
   have e1:=g2 i hi
   have hm:=fun H=>markText_c i hi H
   have qA:encSG (A.getD (l.length+i) eN)=[.str (mkB i)]:=by rw [e1];rfl
   generalize mkB i=mi at qA hm
   (repeat' ((conv=>whnf);(first|(refine IfN.id ?_;first|refine IfN.tt (beq_self_eq_true _) ?_|refine IfN.not ?_|refine zan (by omega) ?_|refine zas (by omega) ?_|fail)|(refine EqN.id ?_;first|refine EqN.subL (by omega) ?_|(refine zaf _ _ Cst.h Cst.h ?_ ?_;· omega)|fail)|(refine SideN.mk ?_ ?_;· first|kernel_rfl|omega|exact List.cons_ne_nil _ _|fail)|refine CallD.det _ (fun _ hq X=>hm _) ?_|refine SegN.nthE eN (l.length+i) rfl (by omega) encSG_size qA ?_|refine zah [] ?_|fail)));conv=>whnf
   (refine ⟨⟨l.length+i+1,by show l.length+i+1≤_;omega,by omega,?_,.inl ⟨rfl,rfl⟩,rfl,_,rfl,?_⟩⟩;rotate_left 1;exact .inl rfl;exact ⟨⟨_,rfl,Wk.refl _⟩,trivial⟩)
 ·have hje:j=l.length+12:=by omega
  subst hje
  (repeat' ((conv=>whnf);(first|refine zas (by omega) ?_|fail)));conv=>whnf
  exact eT trivial
theorem text_lend {H:Heap} {l:List ByteArray} {p:Nat} (h:H[p]? = some (.vec 9 1 (l.flatMap encSG++mks encSG mkB 12))):Lend H (.vk p l.length (l.length+12)) (.sk l.length (l.length+12) (l.flatMap encSG++mks encSG mkB 12)) :=
 .vk h (by rw [List.length_append,zaz (f:=encSG) (sz:=1) encSG_size];rfl) (LendL.refl _)
theorem keptText_v (l:List ByteArray) (hl:l.length≤1000) (p:Nat) (H:Heap) (h:H[p]? = some (.vec 9 1 (l.flatMap encSG++mks encSG mkB 12))):VDet Tryz.prog 16 [.vk p l.length (l.length+12),.sl none l.length (l.flatMap encSG)] H (.bool true) :=
 VDet.lend (fun H=>keptText_c l hl H) (.cons (text_lend h) (.cons (.refl _) .nil)) rfl
def few13 (m:Mdl):Bool:=decide (m.rel.length≤20)&&(decide (m.facts.length≤12)&&(decide (m.funcs.length≤12)&&decide (m.binds.length≤12)))
theorem few13_c (m:Mdl) (H:Heap):VDet Tryz.prog 6 [.agg m.cells] H (.bool (few13 m)):=by
 have hy:(m.rel.length≤20∧m.facts.length≤12∧m.funcs.length≤12∧m.binds.length≤12)→few13 m=true:=fun h=>by unfold few13;simp [h]
 have hn:¬ (m.rel.length≤20∧m.facts.length≤12∧m.funcs.length≤12∧m.binds.length≤12)→few13 m=false:=fun h=>by
  unfold few13
  rw [Bool.eq_false_iff]
  intro e
  simp only [Bool.and_eq_true,decide_eq_true_eq] at e
  exact h e
 generalize few13 m=R at *
 obtain ⟨k,n,rel,lp,fs,us,bs⟩:=m
 unfold Mdl.cells
 simp only at hy hn ⊢
 refine zag Tryz.E0 zaa Tryz.func6 (by kernel_rfl) rfl (Nat.le_of_ble_eq_true rfl) rfl fun hcl hbl=>?_
 (repeat' ((conv=>whnf);(first|refine za3 (fun _=>?_) (fun _=>?_)|fail)));all_goals (conv=>whnf)
 all_goals first
  | (refine EndN.det trivial (Wk.of_eq ?_);rw [hy (by omega)])
  | (refine EndN.det trivial (Wk.of_eq ?_);rw [hn (by omega)])
  | (refine EndN.det trivial (Wk.of_eq (congrArg AV.bool ?_));by_cases hb:bs.length≤12;(· rw [hy (by omega)];exact decide_eq_true (by omega));(· rw [hn (by omega)];exact decide_eq_false (by omega)))
  | fail
theorem taken_0 (n lp0:Nat) (old:List Nat) (lp:Nat) (h5:old.length≤5) (H:Heap) :
  VDet Tryz.prog 46 [.agg [.int .u8 5,.int .i64 n,.sl none 0 [],.int .i64 lp0,.sl none 0 [],.sl none 0 [],.sl none 0 []],.sl none old.length (old.flatMap encN),.int .i64 lp] H (mdK old.length lp .nils):=by
 refine zag Tryz.E0 zaa Tryz.func46 (by kernel_rfl) rfl (Nat.le_of_ble_eq_true rfl) rfl fun hcl hbl=>?_
 conv=>whnf
 refine za9 Tryz.E0 zaa (σ:=Unit) (fun _=>True) (fun _=>0) (fun _=>[(20,.v (.int .i64 (0:Nat)))]) (fun _=>_) _ () rfl hcl [1,6,7,18,19] rfl trivial ⟨⟨_,rfl,Wk.refl _⟩,trivial⟩ rfl (fun _ _=>rfl) ?_
 intro _ _
 (repeat' ((conv=>whnf);(first|refine IfN.ff rfl ?_|fail)));conv=>whnf
 exact eT (by simp [below,zac])
theorem Short_0 (n lp:Nat) (ht:(Tr.mk n lp []).Ok) (H:Heap):VDet Tryz.prog 11 [.agg (Tr.mk n lp []).cells] H (.tup [mdK (0+1:Nat) (0:Nat) .nils,.int .i64 0]):=by
 have hv:=fun H=>valid_t ht H
 have h5:=ht.n5
 have hq0:0<n:=by have:=ht.n1;simp only at this;omega
 have hcells:(Tr.mk n lp []).cells=[.int .u8 5,.int .i64 n,.sl none 0 [],.int .i64 lp,.sl none 0 [],.sl none 0 [],.sl none 0 []]:=rfl
 simp only at h5
 have htk:∀ Z:Heap,VDet Tryz.prog 46 [.agg [.int .u8 5,.int .i64 n,.sl none 0 [],.int .i64 lp,.sl none 0 [],.sl none 0 [],.sl none 0 []],.sl none (0+1) (cel n lp 0 (0+1)),.int .i64 (0:Nat)] Z (mdK (0+1:Nat) (0:Nat) .nils):=fun Z=>by
  have:=taken_0 n lp (olds n lp 0 (0+1)) 0 (by rw [zbd];omega) Z
  rw [zbd] at this
  exact this
 have h1':(Tr.mk 1 0 []).Ok:=⟨Nat.le_refl _,by decide,by decide,by decide,rfl,fun f hf=>(by cases hf),fun i hi=>(by simp at hi)⟩
 have hsa:∀ Z:Heap,VDet Tryz.prog 44 [mdK (0+1:Nat) (0:Nat) .nils,.agg [.int .u8 5,.int .i64 n,.sl none 0 [],.int .i64 lp,.sl none 0 [],.sl none 0 [],.sl none 0 []]] Z (.bool true):=fun Z=>by
  have:=same_c (Tr.mk 1 0 []) (Tr.mk n lp []) h1' ht Z
  exact zbc this ⟨zbp ⟨Wk.refl _,Wk.refl _,zak,Wk.refl _,zak,zak,zak,trivial⟩,Wk.refl _,trivial⟩
 have hst5:VCall Tryz.prog 45 [.agg [.int .u8 5,.int .i64 n,.sl none 0 [],.int .i64 lp,.sl none 0 [],.sl none 0 [],.sl none 0 []],.int .i64 (0:Nat)] (H++[.box 27 [.int .u8 5,.int .i64 n,.sl none 0 [],.int .i64 lp,.sl none 0 [],.sl none 0 [],.sl none 0 []],.box 27 [.int .u8 0,.int .i64 0,.nils,.int .i64 0,.nils,.nils,.nils],.box 33 [.int .i64 0],.box 22 [.nils]]) (fun r H'=>r=.clo (.func 89) [] [.ptr (H.length+5) 0,.ptr (H.length+4) 0]∧H'=(H++[.box 27 [.int .u8 5,.int .i64 n,.sl none 0 [],.int .i64 lp,.sl none 0 [],.sl none 0 [],.sl none 0 []],.box 27 [.int .u8 0,.int .i64 0,.nils,.int .i64 0,.nils,.nils,.nils],.box 33 [.int .i64 0],.box 22 [.nils]])++[.box 27 [.int .u8 5,.int .i64 n,.sl none 0 [],.int .i64 lp,.sl none 0 [],.sl none 0 [],.sl none 0 []],.box 3 [.int .i64 (0:Nat)]]):=by
  have:=steps_c (Tr.mk n lp []) 0 (H++[.box 27 [.int .u8 5,.int .i64 n,.sl none 0 [],.int .i64 lp,.sl none 0 [],.sl none 0 [],.sl none 0 []],.box 27 [.int .u8 0,.int .i64 0,.nils,.int .i64 0,.nils,.nils,.nils],.box 33 [.int .i64 0],.box 22 [.nils]])
  rw [List.length_append] at this
  exact this
 have hsm:∀ j,pth n lp 0 j<5:=fun j=>Nat.lt_of_lt_of_le (pth_lt ht.lp hq0 j) h5
 have hbt:∀ m,zac m [.int .u8 5,.int .i64 n,.sl none 0 [],.int .i64 lp,.sl none 0 [],.sl none 0 [],.sl none 0 []]:=fun m=>by simp [below,zac]
 rw [hcells] at hv ⊢
 refine zag Tryz.E0 zaa Tryz.func11 (by kernel_rfl) rfl (Nat.le_of_ble_eq_true rfl) rfl fun hcl hbl=>?_
 (repeat' ((conv=>whnf);(first|(refine IfN.id ?_;first|refine IfN.not ?_|refine IfN.tt rfl ?_|fail)|refine CallN.det _ (hv _) ?_|refine CallN.grow _ _ _ 6 hst5 rfl rfl rfl ?_|fail)));conv=>whnf
 refine RangeN.tokB 3 0 3 1 rfl rfl rfl rfl rfl ?_
 refine range_k (Tr.mk n lp []) ht rfl hcl rfl [1,2,3,4] _ rfl (by simp) rfl 0 (pth n lp 0) (fun _ _=>rfl) hsm 4 5
  (fun j=>blk7 [.int .u8 5,.int .i64 n,.sl none 0 [],.int .i64 lp,.sl none 0 [],.sl none 0 [],.sl none 0 []] zm H.length (cel n lp 0 j) j (pth n lp 0 j)) (fun j=>blk7 [.int .u8 5,.int .i64 n,.sl none 0 [],.int .i64 lp,.sl none 0 [],.sl none 0 [],.sl none 0 []] zm H.length (cel n lp 0 (j+1)) (j+1) (pth n lp 0 j)) (blk7 [.int .u8 5,.int .i64 n,.sl none 0 [],.int .i64 lp,.sl none 0 [],.sl none 0 [],.sl none 0 []] [.int .u8 5,.int .i64 (0+1:Nat),.nils,.int .i64 (0:Nat),.nils,.nils,.nils] H.length (cel n lp 0 (0+1)) (0+1) (pth n lp 0 0)) [.box 27 [.int .u8 5,.int .i64 (0+1:Nat),.nils,.int .i64 (0:Nat),.nils,.nils,.nils]] 1 .ret rfl
  (fun _ _=>rfl) (fun _ _=>rfl) rfl rfl (fun _ _=>rfl) (fun _ _=>rfl) (fun _ _=>rfl) (fun _ _=>rfl)
  (fun _ _=>blk7_below hbt (fun m=>by simp [zm,zac,below]) (cel_below _ _ _ _)) (by simp [zbe,below,tr]) (fun j hj=>absurd hj (Nat.not_lt_zero j)) ?_ ?_
 ·conv=>whnf
  refine ⟨none,_,zam rfl,zbf,?_⟩
  (repeat' ((conv=>whnf);(first|refine SetN.mk _ zbf ?_|refine SideN.mk ⟨rfl,rfl,rfl,by dsimp only;omega,by simp only [maxLen];omega⟩ ?_|refine PtrN.base _ (by (repeat' (first|assumption|exact za4 _ rfl|exact zam rfl|refine zar (B':=?_) ?_|refine zai ?_|fail))) ?_|fail)));conv=>whnf
  refine LoopN.base_eq (H++(blk7 [.int .u8 5,.int .i64 n,.sl none 0 [],.int .i64 lp,.sl none 0 [],.sl none 0 [],.sl none 0 []] zm H.length (cel n lp 0 (0+1)) (0+1) (pth n lp 0 0)++[_])) (by rw [← cel_succ];rfl) ?_
  refine za9 Tryz.E0 zaa (σ:=Unit) (fun _=>True) (fun _=>0) (fun _=>[(21,.v (.int .i64 (0:Nat)))]) (fun _=>[]) _ () (by simp [blk7]) (closed_loc hcl fun C hC=>?_) [1,2,3,4,20] rfl trivial ⟨⟨_,rfl,Wk.refl _⟩,trivial⟩ rfl (fun _ _=>rfl) ?_
  ·rcases List.mem_append.1 hC with h|h
   ·exact Blk.below_mono (Nat.le_of_eq (by simp [blk7])) (blk7_below hbt (fun m=>by simp [zm,zac,below]) (cel_below _ _ _ _) C h)
   ·simp only [List.mem_singleton] at h
    subst h
    exact get_below (by simp [zbe,below,tr,blk7])
  ·intro _ _
   (repeat' ((conv=>whnf);(first|refine SetN.mk _ zbf ?_|refine IfN.tt rfl ?_|(refine CallN.id ?_;first|refine CallN.det _ (zbc (htk _) (by (repeat' (first|exact trivial|refine And.intro ?_ ?_|exact Wk.refl _|exact wk_sl _ _ _|fail));done)) ?_|refine CallN.det _ (zbc (hsa _) (by (repeat' (first|exact trivial|refine And.intro ?_ ?_|exact Wk.refl _|fail));done)) ?_|fail)|refine PtrN.base _ (by (repeat' (first|assumption|exact za4 _ rfl|exact zam rfl|refine zar (B':=?_) ?_|refine zai ?_|fail))) ?_|fail)));conv=>whnf
   refine ⟨none,some .ret,false,.done,_,.ret,zam rfl,rfl,rfl,?_⟩
   rw [zbf,List.append_assoc]
   rfl
 ·conv=>whnf
  exact eT (by simp [below,zac])
theorem Short_bad (m:Mdl) (hm:∀ H,VDet Tryz.prog 43 [.agg m.cells] H (.bool false)) (H:Heap):VDet Tryz.prog 11 [.agg m.cells] H (.tup [mdZ,.int .i64 2]):=by
 unfold Mdl.cells at *
 refine zag Tryz.E0 zaa Tryz.func11 (by kernel_rfl) rfl (Nat.le_of_ble_eq_true rfl) rfl fun hcl hbl=>?_
 (repeat' ((conv=>whnf);(first|(refine IfN.id ?_;first|refine IfN.not ?_|refine IfN.ff rfl ?_|fail)|refine CallN.det _ (hm _) ?_|fail)));conv=>whnf
 exact eT (by simp [below,zac])
theorem refShort_bad (m:Mdl) (hm:∀ H,VDet Tryz.prog 57 [.agg m.cells] H (.bool false)) (H:Heap):VDet Tryz.prog 20 [.agg m.cells] H (.tup [mdZ,.int .i64 2]):=by
 unfold Mdl.cells at *
 refine zag Tryz.E0 zaa Tryz.func20 (by kernel_rfl) rfl (Nat.le_of_ble_eq_true rfl) rfl fun hcl hbl=>?_
 (repeat' ((conv=>whnf);(first|(refine IfN.id ?_;first|refine IfN.not ?_|refine IfN.ff rfl ?_|fail)|refine CallN.det _ (hm _) ?_|fail)));conv=>whnf
 exact eT (by simp [below,zac])
end
section
theorem det_wkR {P:Program} {F:FuncId} {xs:List AV} {H:Heap} {v v':AV} (h:VDet P F xs H v) (hw:Wk v v'):VDet P F xs H v':=by
 refine ⟨h.1,fun g w cs hH hL=>(h.2 g w cs hH hL).mono ?_⟩
 rintro e' w' ⟨r,H',g',c,rfl,⟨e1,e2⟩,hH',hv,hx⟩
 exact ⟨v',H',g',c,rfl,⟨e1,rfl⟩,hH',hw _ _ _ (e2▸hv),hx⟩
attribute [local irreducible] VW VCall VO bits
theorem wk_front (n:Nat) (l r:List AV):Wk (.sl none n (l++r)) (.sl none n l):=fun g w c h=>by
 simp only [VRel] at h ⊢
 obtain ⟨A,cap,h1,h2,h3,-⟩:=h
 refine ⟨A,cap,h1,h2,?_,fun t e=>by cases e⟩
 rcases h3 with h3|⟨b,o,h3,h5⟩
 ·exact .inl (List.append_eq_nil_iff.1 h3).1
 ·exact .inr ⟨b,o,h3,h5.front⟩
abbrev mdW (k sz lp:Int) (w:AV):AV:=.agg [.int .u8 k,.int .i64 sz,.nils,.int .i64 lp,w,.nils,.nils]
theorem same_all (a b:Mdl) (ha:a.facts.length≤12) (hb:b.facts.length≤12) (hna:a.Nm) (hnb:b.Nm):∃ (s:Bool) (e:Int),(∀ H,VDet Tryz.prog 10 [.agg a.cells,.agg b.cells] H (.tup [.bool s,.int .i64 e]))∧(∀ H,VDet Tryz.prog 19 [.agg a.cells,.agg b.cells] H (.tup [.bool s,.int .i64 e])):=by
 have va:=fun H=>valid_c a (by omega) hna H
 have vb:=fun H=>valid_c b (by omega) hnb H
 have ra:=fun H=>refValid_c a (by omega) hna H
 have rb:=fun H=>refValid_c b (by omega) hnb H
 by_cases h:validM a=true∧validM b=true
 ·obtain ⟨t,ht,e1,-⟩:=tr_of h.1 (by omega) hna
  obtain ⟨u,hu,e2,-⟩:=tr_of h.2 (by omega) hnb
  rw [h.1,e1] at va ra
  rw [h.2,e2] at vb rb
  rw [e1,e2]
  exact ⟨_,_,Same_ok t u ht hu va vb,refSame_ok t u ht hu ra rb⟩
 ·have hxy:validM a=false∨validM b=false:=by
   cases hx:validM a with
   | false=>exact .inl rfl
   | true=>exact .inr (by cases hy:validM b with
     | false=>rfl
     | true=>exact absurd ⟨hx,hy⟩ h)
  exact ⟨_,_,Same_bad a b _ _ hxy va vb,refSame_bad a b _ _ hxy ra rb⟩
theorem number_all (a:Mdl) (ha:a.facts.length≤12) (hna:a.Nm):∃ (v e:Int),(∀ H,VDet Tryz.prog 12 [.agg a.cells] H (.tup [.int .i64 v,.int .i64 e]))∧(∀ H,VDet Tryz.prog 21 [.agg a.cells] H (.tup [.int .i64 v,.int .i64 e])):=by
 have va:=fun H=>valid_c a (by omega) hna H
 have ra:=fun H=>refValid_c a (by omega) hna H
 by_cases h:validM a=true
 ·obtain ⟨t,ht,e1,e2⟩:=tr_of h (by omega) hna
  rw [h,e1] at va ra
  rw [e1]
  have p1:=fun H=>Number_ok t ht (by omega) va H
  have p2:=fun H=>refNumber_ok t ht (by omega) ra H
  unfold numR at p1 p2
  by_cases hc:cntN t.fs.length t.n=0
  ·rw [if_pos hc] at p1 p2
   exact ⟨_,_,p1,p2⟩
  ·rw [if_neg hc] at p1 p2
   exact ⟨_,_,p1,p2⟩
 ·have h:validM a=false:=by simpa using h
  rw [h] at va ra
  exact ⟨_,_,Number_bad a va,refNumber_bad a ra⟩
theorem min_ex (B:Nat→Nat→Bool) (n j0 x0:Nat) (h:j0<n) (hx:x0≤j0) (hB:B j0 x0=true):∃ K L,K<n∧L≤K∧(∀ j,j<K→∀ x,x≤j→B j x=false)∧(∀ x,x<L→B K x=false)∧B K L=true:=by
 obtain ⟨K,⟨x1,h1,h2⟩,hK⟩:=least (p:=fun j=>∃ x,x≤j∧B j x=true) ⟨j0,x0,hx,hB⟩
 obtain ⟨L,h3,hL⟩:=least (p:=fun x=>B K x=true) ⟨x1,h2⟩
 have hKn:=hK j0 ⟨x0,hx,hB⟩
 have hLx:=hL x1 h2
 refine ⟨K,L,by omega,by omega,fun j hj x hxj=>?_,fun x hxl=>?_,h3⟩
 ·cases hb:B j x with
  | false=>rfl
  | true=>have:=hK j ⟨x,hxj,hb⟩;omega
 ·cases hb:B K x with
  | false=>rfl
  | true=>have:=hL x hb;omega
theorem tk_id (old:List Nat) (m:Nat):∀ k,(∀ s,s<k→old.getD s 0=s)→tkK old m k=m % 2 ^ k
 | 0,_=>by simp [tkK,Nat.mod_one]
 | k+1,h=>by
   show tkK old m k ||| ((m >>> old.getD k 0) &&& 1) <<< k=_
   rw [tk_id old m k (fun s hs=>h s (by omega)),h k (by omega)]
   apply Nat.eq_of_testBit_eq
   intro i
   rw [Nat.testBit_or,Nat.testBit_mod_two_pow,Nat.testBit_mod_two_pow,Nat.testBit_shiftLeft]
   rcases Nat.lt_trichotomy i k with h1|h1|h1
   ·have:¬ (k≤i):=by omega
    simp [h1,this,Nat.lt_succ_of_lt h1]
   ·subst h1
    simp [Nat.testBit_and,Nat.testBit_shiftRight]
   ·have h2:¬ (i<k):=by omega
    have h3:¬ (i<k+1):=by omega
    have h4:((m >>> k) &&& 1).testBit (i-k)=false:=by
     have h5:(m >>> k) &&& 1<2 ^ (i-k):=Nat.lt_of_lt_of_le (Nat.lt_of_le_of_lt Nat.and_le_right (show 1<2 ^ 1 by decide)) (Nat.pow_le_pow_right (by decide) (by omega))
     exact Nat.testBit_lt_two_pow h5
    rw [h4]
    simp [h2,h3]
theorem sh_full (t:Tr) (ht:t.Ok):shT t (t.n-1) t.lp=t:=by
 have h1:=ht.n1
 have hid:∀ s,s<t.n→(olds t.n t.lp 0 (t.n-1+1)).getD s 0=s:=fun s hs=>by
  rw [olds_get _ _ _ (by omega),pth_id _ _ _ hs]
 have hl:(olds t.n t.lp 0 (t.n-1+1)).length=t.n:=by rw [zbd];omega
 have hf:t.fs.map (tkF (olds t.n t.lp 0 (t.n-1+1)))=t.fs:=by
  apply List.ext_getElem (by simp)
  intro i hi1 hi2
  have hm:=ht.mask i hi2
  have e:ft t.fs i=t.fs[i]:=by simp [ft,List.getD,hi2]
  rw [e] at hm
  rw [List.getElem_map]
  have e2:tkF (olds t.n t.lp 0 (t.n-1+1)) t.fs[i]=(t.fs[i].1,tkK (olds t.n t.lp 0 (t.n-1+1)) t.fs[i].2 t.n):=by
   show (_,tkK _ _ (olds t.n t.lp 0 (t.n-1+1)).length)=_
   rw [hl]
  rw [e2,tk_id _ _ _ hid,Nat.mod_eq_of_lt hm]
 unfold shT takenT
 rw [hf,hl]
theorem same_refl (K:Nat) (t:Tr):sameB K t t=true:=by
 unfold sameB rowS
 simp
theorem sh_yes (t:Tr) (ht:t.Ok):shB t (t.n-1) t.lp=true:=by
 unfold shB
 rw [sh_full t ht]
 exact same_refl _ _
def fcF (l:List (ByteArray×Nat)):List Fct:=l.map fun p=>⟨p.1,0,p.2⟩
theorem fcF_cells (l:List (ByteArray×Nat)):(fcF l).flatMap Fct.cells=l.flatMap encT:=by
 unfold fcF
 rw [List.flatMap_map]
 rfl
theorem fcF_len (l:List (ByteArray×Nat)):(fcF l).length=l.length:=by simp [fcF]
theorem short_all (m:Mdl) (hfl:m.facts.length≤12) (hn:m.Nm):∃ (k sz lp e:Int) (F:List Fct),
  (∀ H,VCall Tryz.prog 11 [.agg m.cells] H fun r H'=>r=.tup [mdW k sz lp (.vs H.length F.length),.int .i64 e]∧H'=H++[.vec 60 3 (F.flatMap Fct.cells)]) ∧
  (∀ H,VDet Tryz.prog 20 [.agg m.cells] H (.tup [mdW k sz lp (.sl none F.length (F.flatMap Fct.cells)),.int .i64 e]))∧F.length≤12:=by
 have va:=fun H=>valid_c m (by omega) hn H
 have ra:=fun H=>refValid_c m (by omega) hn H
 by_cases h:validM m=true
 ·obtain ⟨t,ht,e1,e2⟩:=tr_of h (by omega) hn
  rw [e1]
  have hsl:∀ K L,(shT t K L).fs.length=t.fs.length:=fun K L=>by simp [shT,takenT]
  rcases Nat.eq_zero_or_pos t.fs.length with h0|h0
  ·obtain ⟨n,lp,fs⟩:=t
   obtain rfl:fs=[]:=List.length_eq_zero_iff.1 h0
   have p1:=fun H=>Short_0 n lp ht H
   have p2:=fun H=>refShort_c _ ht 0 0 ht.n1 (Nat.le_refl _) (fun j hj=>absurd hj (Nat.not_lt_zero j)) (fun x hx=>absurd hx (Nat.not_lt_zero x)) rfl H
   exact ⟨5,(0+1:Nat),(0:Nat),0,[],fun H=>(p1 H).nilVec 60 3 (.tup (.cons (.agg (.cons (.refl _) (.cons (.refl _) (.cons (.refl _) (.cons (.refl _) (.cons .nil (.cons (.refl _) (.cons (.refl _) .nil)))))))) (.cons (.refl _) .nil))),p2,Nat.zero_le _⟩
  ·obtain ⟨K,L,q1,q2,q3,q4,q5⟩:=min_ex (shB t) t.n (t.n-1) t.lp (by have:=ht.n1;omega) (by have:=ht.lp;omega) (sh_yes t ht)
   have p1:=fun H=>Short_k t ht h0 K L q1 q2 q3 q4 q5 H
   have p2:=fun H=>refShort_c t ht K L q1 q2 q3 q4 q5 H
   refine ⟨5,(K+1:Nat),L,0,fcF (shT t K L).fs,?_,?_,?_⟩
   ·intro H
    rw [fcF_cells,fcF_len,hsl]
    exact p1 H
   ·intro H
    rw [fcF_cells,fcF_len,hsl]
    exact p2 H
   ·rw [fcF_len,hsl]
    omega
 ·have h:validM m=false:=by simpa using h
  rw [h] at va ra
  exact ⟨0,0,0,2,[],fun H=>(Short_bad m va H).nilVec 60 3 (.tup (.cons (.agg (.cons (.refl _) (.cons (.refl _) (.cons (.refl _) (.cons (.refl _) (.cons .nil (.cons (.refl _) (.cons (.refl _) .nil)))))))) (.cons (.refl _) .nil))),fun H=>det_wkR (refShort_bad m ra H) (wk_tup ⟨zbp ⟨Wk.refl _,Wk.refl _,Wk.refl _,Wk.refl _,zak,Wk.refl _,Wk.refl _,trivial⟩,Wk.refl _,trivial⟩),Nat.zero_le _⟩
theorem same_vs (k sz lp:Int) (F:List Fct) (hF:F.length≤1000) (H:Heap) (p:Nat) (h:H[p]? = some (.vec 60 3 (F.flatMap Fct.cells))):VDet Tryz.prog 24 [mdW k sz lp (.vs p F.length),mdW k sz lp (.sl none F.length (F.flatMap Fct.cells))] H (.bool true) :=
 VDet.lendA (.cons (.agg (.cons (.refl _) (.cons (.refl _) (.cons (.refl _) (.cons (.refl _) (.cons (.vs h (zaz (f:=Fct.cells) (sz:=3) fct_size F) (LendL.refl _)) (.cons (.refl _) (.cons (.refl _) .nil)))))))) (.cons (.refl _) .nil))
  (fun H=>sameModel_c ⟨k,sz,[],lp,F,[],[]⟩ ⟨Nat.zero_le _,by show F.length≤_;omega,Nat.zero_le _,Nat.zero_le _,fun f hf=>(by cases hf)⟩ H)
  ⟨zbp ⟨Wk.refl _,Wk.refl _,zak,Wk.refl _,Wk.refl _,zak,zak,trivial⟩,zbp ⟨Wk.refl _,Wk.refl _,zak,Wk.refl _,Wk.refl _,zak,zak,trivial⟩,trivial⟩ rfl
theorem same_ms (k sz lp:Int) (F:List Fct) (hF:F.length≤1000) (H:Heap) (p s:Nat) (h:H[p]? = some (.box 60 (F.flatMap Fct.cells++List.replicate s .junk))):VDet Tryz.prog 24 [mdW k sz lp (.ms p 0 F.length),mdW k sz lp (.sl none F.length (F.flatMap Fct.cells))] H (.bool true) :=
 VDet.lendA (.cons (.agg (.cons (.refl _) (.cons (.refl _) (.cons (.refl _) (.cons (.refl _) (.cons (.ms h rfl (LendL.refl _)) (.cons (.refl _) (.cons (.refl _) .nil)))))))) (.cons (.refl _) .nil))
  (fun H=>sameModel_c ⟨k,sz,[],lp,F,[],[]⟩ ⟨Nat.zero_le _,by show F.length≤_;omega,Nat.zero_le _,Nat.zero_le _,fun f hf=>(by cases hf)⟩ H)
  ⟨zbp ⟨Wk.refl _,Wk.refl _,zak,Wk.refl _,wk_front _ _ _,zak,zak,trivial⟩,zbp ⟨Wk.refl _,Wk.refl _,zak,Wk.refl _,Wk.refl _,zak,zak,trivial⟩,trivial⟩ rfl
def fcN' (l:List ByteArray) (n N i:Nat):Fct:=⟨l.getD i eN,0,(dg n N l.length i:Nat)⟩
theorem FN_cells (l:List ByteArray) (n N:Nat):FN l n N 0=((List.range l.length).map (fcN' l n N)).flatMap Fct.cells:=by
 unfold FN
 rw [List.flatMap_map,Nat.sub_zero,List.range_eq_range']
 rfl
theorem nth_all (l:List ByteArray) (hlen:l.length≤20) (hsz:∀ c∈l,c.size≤9223372036854775807) (n N:Int):∃ (k sz lp e:Int) (F:List Fct) (W:Nat→AV) (Bt:Nat→Blk),((W=fun p=>.ms p 0 F.length)∨(W=fun p=>.vs p F.length)) ∧
  (∀ H,VCall Tryz.prog 14 [.sl none l.length (l.flatMap encSG),.int .i64 n,.int .i64 N] H fun r H'=>∃ s,r=.tup [mdW k sz lp (W H.length),.int .i64 e]∧H'=H++[Bt s]) ∧
  (∀ H,VDet Tryz.prog 23 [.sl none l.length (l.flatMap encSG),.int .i64 n,.int .i64 N] H (.tup [mdW k sz lp (.sl none F.length (F.flatMap Fct.cells)),.int .i64 e])) ∧
  (∀ H p s,H[p]? = some (Bt s)→VDet Tryz.prog 24 [mdW k sz lp (W p),mdW k sz lp (.sl none F.length (F.flatMap Fct.cells))] H (.bool true))∧(∀ M s,freeB M (Bt s)):=by
 have hr:=fun H=>refNth_c l (by omega) hsz n N H
 by_cases he:nthE l n N=0
 ·have hc:cntE l n=0:=by
   unfold nthE at he
   split at he
   ·next h=>exact absurd he h
   ·next h=>simpa using h
  have hN:¬ (N<0∨(cntV l n:Int)≤N):=by
   unfold nthE at he
   rw [if_neg (by simp [hc])] at he
   split at he
   ·cases he
   ·assumption
  obtain ⟨⟨h1,h2⟩,h3,h4⟩:=cntE_in hc
  unfold cntV at hN
  rw [if_pos hc] at hN
  obtain ⟨a,rfl⟩:∃ a:Nat,n=a:=⟨n.toNat,by omega⟩
  obtain ⟨b,rfl⟩:∃ b:Nat,N=b:=⟨N.toNat,by omega⟩
  rw [Int.toNat_natCast] at h4 hN
  have p1:=fun H=>Nth_ok l (by omega) hsz h3 a (by omega) (by omega) h4 b (by omega) H
  unfold refN at hr
  rw [if_pos he,Int.toNat_natCast,Int.toNat_natCast,FN_cells] at hr
  rw [FN_cells] at p1
  have hFl:((List.range l.length).map (fcN' l a b)).length=l.length:=by simp
  have hlF:l.length=((List.range l.length).map (fcN' l a b)).length:=hFl.symm
  refine ⟨5,a,(b >>> (a * l.length):Nat),0,(List.range l.length).map (fcN' l a b),fun p=>.ms p 0 ((List.range l.length).map (fcN' l a b)).length,fun s=>.box 60 (((List.range l.length).map (fcN' l a b)).flatMap Fct.cells++List.replicate s .junk),.inl rfl,fun H=>?_,fun H=>?_,fun H p s h=>same_ms _ _ _ _ (by omega) H p s h,fun M s=>?_⟩
  ·rw [hFl];exact p1 H
  ·rw [hFl];exact hr H
  ·refine freeL_all fun v hv=>?_
   rcases List.mem_append.1 hv with h|h
   ·obtain ⟨f,-,hf⟩:=List.mem_flatMap.1 h
    simp only [Fct.cells,List.mem_cons,List.not_mem_nil,or_false] at hf
    rcases hf with rfl|rfl|rfl <;> trivial
   ·rw [(List.mem_replicate.1 h).2];trivial
 ·have p1:=fun H=>Nth_bad l (by omega) hsz n N he H
  unfold refN at hr
  rw [if_neg he] at hr
  refine ⟨0,0,0,nthE l n N,[],fun p=>.vs p 0,fun _=>.vec 60 3 [],.inr rfl,fun H=>?_,hr,fun H p s h=>same_vs 0 0 0 [] (Nat.zero_le _) H p h,fun M s=>trivial⟩
  exact VCall.mono ((p1 H).nilVec 60 3 (.tup (.cons (.agg (.cons (.refl _) (.cons (.refl _) (.cons (.refl _) (.cons (.refl _) (.cons .nil (.cons (.refl _) (.cons (.refl _) .nil)))))))) (.cons (.refl _) .nil)))) fun r H' h=>⟨0,h⟩
end
section
attribute [local irreducible] VW VCall VO bits
theorem cmp_ms (H:Heap) (ka sa la:Int) (na1 na2 na3 na4 ia1 ia2 ia3 ia4 ma1 ma2 ma3 ma4:Nat) (ca1 ca2 ca3 ca4:List AV) (kb sb lb:Int) (nb1 nb2 nb3 nb4 ib1 ib2 ib3 ib4 mb1 mb2 mb3 mb4:Nat) (cb1 cb2 cb3 cb4:List AV) (nn:Nat) (nc:List AV) (hn:nn≤20) (size N:Int) (XA XB:Heap) (xa xb:Nat) (hXa:XA.length=xa) (hXb:XB.length=xb) (VT V1:Blk) (Bt:Nat→Blk) (q p13:Nat)
  (sm:Bool) (e1 e2 e3 e4 e5 v3 k2 z2 p2 k5 z5 p5:Int) (v4:Int) (f2 f5:Nat) (F2 F5:List AV) (S S2:Nat→Prop)
  (h6a:∀ H,VDet Tryz.prog 6 [.agg [.int .u8 ka,.int .i64 sa,.sl none na1 ca1,.int .i64 la,.sl none na2 ca2,.sl none na3 ca3,.sl none na4 ca4]] H (.bool true)) (h6b:∀ H,VDet Tryz.prog 6 [.agg [.int .u8 kb,.int .i64 sb,.sl none nb1 cb1,.int .i64 lb,.sl none nb2 cb2,.sl none nb3 cb3,.sl none nb4 cb4]] H (.bool true))
  (h8a:∀ Z:Heap,Z.length=H.length+4→VCall Tryz.prog 8 [.agg [.int .u8 ka,.int .i64 sa,.sl none na1 ca1,.int .i64 la,.sl none na2 ca2,.sl none na3 ca3,.sl none na4 ca4]] Z fun r H'=>r=.agg [.int .u8 ka,.int .i64 sa,.vk ia1 na1 ma1,.int .i64 la,.vk ia2 na2 ma2,.vk ia3 na3 ma3,.vk ia4 na4 ma4]∧H'=Z++XA)
  (h8b:∀ Z:Heap,Z.length=H.length+(XA.length+4)→VCall Tryz.prog 8 [.agg [.int .u8 kb,.int .i64 sb,.sl none nb1 cb1,.int .i64 lb,.sl none nb2 cb2,.sl none nb3 cb3,.sl none nb4 cb4]] Z fun r H'=>r=.agg [.int .u8 kb,.int .i64 sb,.vk ib1 nb1 mb1,.int .i64 lb,.vk ib2 nb2 mb2,.vk ib3 nb3 mb3,.vk ib4 nb4 mb4]∧H'=Z++XB)
  (h9:∀ Z:Heap,Z.length=H.length+((XA++XB).length+4)→VCall Tryz.prog 9 [.sl none nn nc] Z fun r H'=>r=.vk p13 nn (nn+12)∧H'=Z++[VT])
  (G:Heap→Prop) (hG:G (H++(.box 27 [.int .u8 ka,.int .i64 sa,.sl none na1 ca1,.int .i64 la,.sl none na2 ca2,.sl none na3 ca3,.sl none na4 ca4]::.box 27 [.int .u8 kb,.int .i64 sb,.sl none nb1 cb1,.int .i64 lb,.sl none nb2 cb2,.sl none nb3 cb3,.sl none nb4 cb4]::.box 27 [.int .u8 ka,.int .i64 sa,.vk ia1 na1 ma1,.int .i64 la,.vk ia2 na2 ma2,.vk ia3 na3 ma3,.vk ia4 na4 ma4]::.box 27 [.int .u8 kb,.int .i64 sb,.vk ib1 nb1 mb1,.int .i64 lb,.vk ib2 nb2 mb2,.vk ib3 nb3 mb3,.vk ib4 nb4 mb4]::((XA++XB)++[VT]))))
  (hGq:∀ B,G B→B.length=q) (hGp:∀ B,G B→∃ X,B=H++X)
  (g5:∀ B,G B→B[H.length+0]? = some (.box 27 [.int .u8 ka,.int .i64 sa,.sl none na1 ca1,.int .i64 la,.sl none na2 ca2,.sl none na3 ca3,.sl none na4 ca4])) (g6:∀ B,G B→B[H.length+1]? = some (.box 27 [.int .u8 kb,.int .i64 sb,.sl none nb1 cb1,.int .i64 lb,.sl none nb2 cb2,.sl none nb3 cb3,.sl none nb4 cb4]))
  (g11:∀ B,G B→B[H.length+2]? = some (.box 27 [.int .u8 ka,.int .i64 sa,.vk ia1 na1 ma1,.int .i64 la,.vk ia2 na2 ma2,.vk ia3 na3 ma3,.vk ia4 na4 ma4])) (g12:∀ B,G B→B[H.length+3]? = some (.box 27 [.int .u8 kb,.int .i64 sb,.vk ib1 nb1 mb1,.int .i64 lb,.vk ib2 nb2 mb2,.vk ib3 nb3 mb3,.vk ib4 nb4 mb4]))
  (h10:∀ B X,G B→VDet Tryz.prog 10 [.agg [.int .u8 ka,.int .i64 sa,.vk ia1 na1 ma1,.int .i64 la,.vk ia2 na2 ma2,.vk ia3 na3 ma3,.vk ia4 na4 ma4],.agg [.int .u8 kb,.int .i64 sb,.vk ib1 nb1 mb1,.int .i64 lb,.vk ib2 nb2 mb2,.vk ib3 nb3 mb3,.vk ib4 nb4 mb4]] (B++X) (.tup [.bool sm,.int .i64 e1]))
  (h11:∀ B,G B→VCall Tryz.prog 11 [.agg [.int .u8 ka,.int .i64 sa,.vk ia1 na1 ma1,.int .i64 la,.vk ia2 na2 ma2,.vk ia3 na3 ma3,.vk ia4 na4 ma4]] (B++[]) fun r H'=>r=.tup [mdW k2 z2 p2 (.vs (q+0) f2),.int .i64 e2]∧H'=(B++[])++[V1])
  (h12:∀ B X,G B→VDet Tryz.prog 12 [.agg [.int .u8 ka,.int .i64 sa,.vk ia1 na1 ma1,.int .i64 la,.vk ia2 na2 ma2,.vk ia3 na3 ma3,.vk ia4 na4 ma4]] (B++X) (.tup [.int .i64 v3,.int .i64 e3]))
  (h13:∀ B X,G B→VDet Tryz.prog 13 [.vk p13 nn (nn+12),.int .i64 size] (B++X) (.tup [.int .i64 v4,.int .i64 e4]))
  (h14:∀ B B1 B2,G B→VCall Tryz.prog 14 [.vk p13 nn (nn+12),.int .i64 size,.int .i64 N] (B++[B1,B2]) fun r H'=>∃ s,r=.tup [mdW k5 z5 p5 (.ms (q+2) 0 f5),.int .i64 e5]∧H'=(B++[B1,B2])++[Bt s])
  (h15a:∀ B X,G B→VDet Tryz.prog 15 [.agg [.int .u8 ka,.int .i64 sa,.vk ia1 na1 ma1,.int .i64 la,.vk ia2 na2 ma2,.vk ia3 na3 ma3,.vk ia4 na4 ma4],.agg [.int .u8 ka,.int .i64 sa,.sl none na1 ca1,.int .i64 la,.sl none na2 ca2,.sl none na3 ca3,.sl none na4 ca4]] (B++X) (.bool true)) (h15b:∀ B X,G B→VDet Tryz.prog 15 [.agg [.int .u8 kb,.int .i64 sb,.vk ib1 nb1 mb1,.int .i64 lb,.vk ib2 nb2 mb2,.vk ib3 nb3 mb3,.vk ib4 nb4 mb4],.agg [.int .u8 kb,.int .i64 sb,.sl none nb1 cb1,.int .i64 lb,.sl none nb2 cb2,.sl none nb3 cb3,.sl none nb4 cb4]] (B++X) (.bool true))
  (h16:∀ B X,G B→VDet Tryz.prog 16 [.vk p13 nn (nn+12),.sl none nn nc] (B++X) (.bool true))
  (h17:∀ B X,G B→VCall Tryz.prog 17 [.agg [.int .u8 ka,.int .i64 sa,.vk ia1 na1 ma1,.int .i64 la,.vk ia2 na2 ma2,.vk ia3 na3 ma3,.vk ia4 na4 ma4]] (B++X) fun r H'=>r=.tup []∧OverR S (B++X) H')
  (h18:∀ B B' X,G B→OverR S B B'→VCall Tryz.prog 18 [.vk p13 nn (nn+12)] (B'++X) fun r H'=>r=.tup []∧OverR S2 (B'++X) H')
  (hS0:∀ j,j<H.length→S j∧S2 j) (hSq:∀ j,q≤j→S j∧S2 j) (hS5:S (H.length+0)∧S2 (H.length+0)) (hS6:S (H.length+1)∧S2 (H.length+1))
  (h19:∀ H,VDet Tryz.prog 19 [.agg [.int .u8 ka,.int .i64 sa,.sl none na1 ca1,.int .i64 la,.sl none na2 ca2,.sl none na3 ca3,.sl none na4 ca4],.agg [.int .u8 kb,.int .i64 sb,.sl none nb1 cb1,.int .i64 lb,.sl none nb2 cb2,.sl none nb3 cb3,.sl none nb4 cb4]] H (.tup [.bool sm,.int .i64 e1]))
  (h20:∀ H,VDet Tryz.prog 20 [.agg [.int .u8 ka,.int .i64 sa,.sl none na1 ca1,.int .i64 la,.sl none na2 ca2,.sl none na3 ca3,.sl none na4 ca4]] H (.tup [mdW k2 z2 p2 (.sl none f2 F2),.int .i64 e2]))
  (h21:∀ H,VDet Tryz.prog 21 [.agg [.int .u8 ka,.int .i64 sa,.sl none na1 ca1,.int .i64 la,.sl none na2 ca2,.sl none na3 ca3,.sl none na4 ca4]] H (.tup [.int .i64 v3,.int .i64 e3]))
  (h22:∀ H,VDet Tryz.prog 22 [.sl none nn nc,.int .i64 size] H (.tup [.int .i64 v4,.int .i64 e4]))
  (h23:∀ H,VDet Tryz.prog 23 [.sl none nn nc,.int .i64 size,.int .i64 N] H (.tup [mdW k5 z5 p5 (.sl none f5 F5),.int .i64 e5]))
  (h24a:∀ H i,H[i]? = some V1→VDet Tryz.prog 24 [mdW k2 z2 p2 (.vs i f2),mdW k2 z2 p2 (.sl none f2 F2)] H (.bool true))
  (h24b:∀ H i s,H[i]? = some (Bt s)→VDet Tryz.prog 24 [mdW k5 z5 p5 (.ms i 0 f5),mdW k5 z5 p5 (.sl none f5 F5)] H (.bool true))
  (h7:∀ H,VDet Tryz.prog 7 [] H (.bool true)) :
  VDet Tryz.prog 3 [.agg [.int .u8 ka,.int .i64 sa,.sl none na1 ca1,.int .i64 la,.sl none na2 ca2,.sl none na3 ca3,.sl none na4 ca4],.agg [.int .u8 kb,.int .i64 sb,.sl none nb1 cb1,.int .i64 lb,.sl none nb2 cb2,.sl none nb3 cb3,.sl none nb4 cb4],.sl none nn nc,.int .i64 size,.int .i64 N] H (.bool true):=by
 show VCall _ _ _ _ (detR H (.bool true))
 refine fn_cut Tryz.E0 zaa 3 Tryz.func3 (by kernel_rfl) rfl (Nat.le_of_ble_eq_true rfl) rfl fun hcl hbl=>?_
 clear hbl
 (repeat' ((conv=>whnf);(first|refine zah [2000011,6,7,0,1,2,3,4,5,8,9,10] ?_|(refine IfN.id ?_;first|refine IfN.not ?_|refine IfN.tt rfl ?_|refine zas (by omega) ?_|fail)|refine SideN.mk (by kernel_rfl) ?_|(refine CallN.id ?_;first|refine CallN.det _ (h6a _) ?_|refine CallN.det _ (h6b _) ?_|fail)|refine CallD.freeC _ XA (_::_::_::_::XA) xa h8a rfl rfl rfl hXa ?_|refine CallD.freeC _ XB (_::_::_::_::(XA++XB)) xb h8b rfl rfl rfl hXb ?_|refine CallD.freeC _ [VT] (_::_::_::_::((XA++XB)++[VT])) 1 h9 rfl rfl rfl rfl ?_|fail)));conv=>whnf
 refine CutN.mk' [2,3,4,5,6,11,12,13] (H1:=H++(.box 27 [.int .u8 ka,.int .i64 sa,.sl none na1 ca1,.int .i64 la,.sl none na2 ca2,.sl none na3 ca3,.sl none na4 ca4]::.box 27 [.int .u8 kb,.int .i64 sb,.sl none nb1 cb1,.int .i64 lb,.sl none nb2 cb2,.sl none nb3 cb3,.sl none nb4 cb4]::.box 27 [.int .u8 ka,.int .i64 sa,.vk ia1 na1 ma1,.int .i64 la,.vk ia2 na2 ma2,.vk ia3 na3 ma3,.vk ia4 na4 ma4]::.box 27 [.int .u8 kb,.int .i64 sb,.vk ib1 nb1 mb1,.int .i64 lb,.vk ib2 nb2 mb2,.vk ib3 nb3 mb3,.vk ib4 nb4 mb4]::((XA++XB)++[VT]))) rfl rfl rfl ?_
 revert hG
 generalize H++(.box 27 [.int .u8 ka,.int .i64 sa,.sl none na1 ca1,.int .i64 la,.sl none na2 ca2,.sl none na3 ca3,.sl none na4 ca4]::.box 27 [.int .u8 kb,.int .i64 sb,.sl none nb1 cb1,.int .i64 lb,.sl none nb2 cb2,.sl none nb3 cb3,.sl none nb4 cb4]::.box 27 [.int .u8 ka,.int .i64 sa,.vk ia1 na1 ma1,.int .i64 la,.vk ia2 na2 ma2,.vk ia3 na3 ma3,.vk ia4 na4 ma4]::.box 27 [.int .u8 kb,.int .i64 sb,.vk ib1 nb1 mb1,.int .i64 lb,.vk ib2 nb2 mb2,.vk ib3 nb3 mb3,.vk ib4 nb4 mb4]::((XA++XB)++[VT]))=B
 intro hG
 have hBq:=hGq B hG
 obtain ⟨X,hBX⟩:=hGp B hG
 have hp5:=g5 B hG
 have hp6:=g6 B hG
 have hp11:=g11 B hG
 have hp12:=g12 B hG
 clear g5 g6 g11 g12 hGq hGp h8a h8b h9 h6a h6b hcl
 refine Ends.walk Tryz.E0 zaa fun hcl1 hbl1=>?_
 clear hbl1
 (repeat' ((conv=>whnf);(first|(refine IfN.id ?_;first|refine IfN.ff (bne_self_eq_false _) ?_|refine IfN.not ?_|refine IfN.tt rfl ?_|fail)|(refine CallN.id ?_;first|refine CallN.det _ (h10 _ _ hG) ?_|refine CallN.det _ (h12 _ _ hG) ?_|refine CallN.det _ (h13 _ _ hG) ?_|refine CallN.det _ (h15a _ _ hG) ?_|refine CallN.det _ (h15b _ _ hG) ?_|refine CallN.det _ (h16 _ _ hG) ?_|refine CallN.det _ (h19 _) ?_|refine CallN.det _ (h20 _) ?_|refine CallN.det _ (h21 _) ?_|refine CallN.det _ (h22 _) ?_|refine CallN.det _ (h23 _) ?_|refine CallN.det _ (h24a _ _ (at_locN ((o2.len.trans o1.len).trans hBq) rfl)) ?_|refine CallN.det _ (h24b _ _ _ (at_locN ((o2.len.trans o1.len).trans hBq) rfl)) ?_|refine CallN.det _ (h7 _) ?_|fail)|refine CallN.grow _ _ _ 1 (h11 _ hG) rfl rfl rfl ?_|refine CallN.more _ _ (h14 _ _ _ hG) rfl _ (fun _=>rfl) 3 (fun _=>rfl) fun s9=>?_|refine CallN.over S (h17 _ _ hG) rfl rfl (fun j hj=>(hSq j (hBq▸hj)).1) fun B1 o1=>?_|refine CallN.over S2 (h18 _ _ _ hG o1) o1.len rfl (fun j hj=>(hSq j (hBq▸hj)).2) fun B2 o2=>?_|refine PtrN.base _ ((o2.same _ hS5.2).trans ((o1.same _ hS5.1).trans hp5)) ?_|refine PtrN.base _ ((o2.same _ hS6.2).trans ((o1.same _ hS6.1).trans hp6)) ?_|refine PtrN.base _ (by (repeat' (first|assumption|exact za4 _ rfl|exact zam rfl|refine zar (B':=?_) ?_|refine zai ?_|fail))) ?_|fail)));conv=>whnf
 rw [hBX] at o1
 obtain ⟨Y,hY⟩:=(OverR.trans o1 o2 (S:=fun j=>S j∧S2 j) fun j hj=>hj).pre hS0
 exact EndN2.det Y hY trivial (Wk.refl _)
theorem cmp_vs (H:Heap) (ka sa la:Int) (na1 na2 na3 na4 ia1 ia2 ia3 ia4 ma1 ma2 ma3 ma4:Nat) (ca1 ca2 ca3 ca4:List AV) (kb sb lb:Int) (nb1 nb2 nb3 nb4 ib1 ib2 ib3 ib4 mb1 mb2 mb3 mb4:Nat) (cb1 cb2 cb3 cb4:List AV) (nn:Nat) (nc:List AV) (hn:nn≤20) (size N:Int) (XA XB:Heap) (xa xb:Nat) (hXa:XA.length=xa) (hXb:XB.length=xb) (VT V1:Blk) (Bt:Nat→Blk) (q p13:Nat)
  (sm:Bool) (e1 e2 e3 e4 e5 v3 k2 z2 p2 k5 z5 p5:Int) (v4:Int) (f2 f5:Nat) (F2 F5:List AV) (S S2:Nat→Prop)
  (h6a:∀ H,VDet Tryz.prog 6 [.agg [.int .u8 ka,.int .i64 sa,.sl none na1 ca1,.int .i64 la,.sl none na2 ca2,.sl none na3 ca3,.sl none na4 ca4]] H (.bool true)) (h6b:∀ H,VDet Tryz.prog 6 [.agg [.int .u8 kb,.int .i64 sb,.sl none nb1 cb1,.int .i64 lb,.sl none nb2 cb2,.sl none nb3 cb3,.sl none nb4 cb4]] H (.bool true))
  (h8a:∀ Z:Heap,Z.length=H.length+4→VCall Tryz.prog 8 [.agg [.int .u8 ka,.int .i64 sa,.sl none na1 ca1,.int .i64 la,.sl none na2 ca2,.sl none na3 ca3,.sl none na4 ca4]] Z fun r H'=>r=.agg [.int .u8 ka,.int .i64 sa,.vk ia1 na1 ma1,.int .i64 la,.vk ia2 na2 ma2,.vk ia3 na3 ma3,.vk ia4 na4 ma4]∧H'=Z++XA)
  (h8b:∀ Z:Heap,Z.length=H.length+(XA.length+4)→VCall Tryz.prog 8 [.agg [.int .u8 kb,.int .i64 sb,.sl none nb1 cb1,.int .i64 lb,.sl none nb2 cb2,.sl none nb3 cb3,.sl none nb4 cb4]] Z fun r H'=>r=.agg [.int .u8 kb,.int .i64 sb,.vk ib1 nb1 mb1,.int .i64 lb,.vk ib2 nb2 mb2,.vk ib3 nb3 mb3,.vk ib4 nb4 mb4]∧H'=Z++XB)
  (h9:∀ Z:Heap,Z.length=H.length+((XA++XB).length+4)→VCall Tryz.prog 9 [.sl none nn nc] Z fun r H'=>r=.vk p13 nn (nn+12)∧H'=Z++[VT])
  (G:Heap→Prop) (hG:G (H++(.box 27 [.int .u8 ka,.int .i64 sa,.sl none na1 ca1,.int .i64 la,.sl none na2 ca2,.sl none na3 ca3,.sl none na4 ca4]::.box 27 [.int .u8 kb,.int .i64 sb,.sl none nb1 cb1,.int .i64 lb,.sl none nb2 cb2,.sl none nb3 cb3,.sl none nb4 cb4]::.box 27 [.int .u8 ka,.int .i64 sa,.vk ia1 na1 ma1,.int .i64 la,.vk ia2 na2 ma2,.vk ia3 na3 ma3,.vk ia4 na4 ma4]::.box 27 [.int .u8 kb,.int .i64 sb,.vk ib1 nb1 mb1,.int .i64 lb,.vk ib2 nb2 mb2,.vk ib3 nb3 mb3,.vk ib4 nb4 mb4]::((XA++XB)++[VT]))))
  (hGq:∀ B,G B→B.length=q) (hGp:∀ B,G B→∃ X,B=H++X)
  (g5:∀ B,G B→B[H.length+0]? = some (.box 27 [.int .u8 ka,.int .i64 sa,.sl none na1 ca1,.int .i64 la,.sl none na2 ca2,.sl none na3 ca3,.sl none na4 ca4])) (g6:∀ B,G B→B[H.length+1]? = some (.box 27 [.int .u8 kb,.int .i64 sb,.sl none nb1 cb1,.int .i64 lb,.sl none nb2 cb2,.sl none nb3 cb3,.sl none nb4 cb4]))
  (g11:∀ B,G B→B[H.length+2]? = some (.box 27 [.int .u8 ka,.int .i64 sa,.vk ia1 na1 ma1,.int .i64 la,.vk ia2 na2 ma2,.vk ia3 na3 ma3,.vk ia4 na4 ma4])) (g12:∀ B,G B→B[H.length+3]? = some (.box 27 [.int .u8 kb,.int .i64 sb,.vk ib1 nb1 mb1,.int .i64 lb,.vk ib2 nb2 mb2,.vk ib3 nb3 mb3,.vk ib4 nb4 mb4]))
  (h10:∀ B X,G B→VDet Tryz.prog 10 [.agg [.int .u8 ka,.int .i64 sa,.vk ia1 na1 ma1,.int .i64 la,.vk ia2 na2 ma2,.vk ia3 na3 ma3,.vk ia4 na4 ma4],.agg [.int .u8 kb,.int .i64 sb,.vk ib1 nb1 mb1,.int .i64 lb,.vk ib2 nb2 mb2,.vk ib3 nb3 mb3,.vk ib4 nb4 mb4]] (B++X) (.tup [.bool sm,.int .i64 e1]))
  (h11:∀ B,G B→VCall Tryz.prog 11 [.agg [.int .u8 ka,.int .i64 sa,.vk ia1 na1 ma1,.int .i64 la,.vk ia2 na2 ma2,.vk ia3 na3 ma3,.vk ia4 na4 ma4]] (B++[]) fun r H'=>r=.tup [mdW k2 z2 p2 (.vs (q+0) f2),.int .i64 e2]∧H'=(B++[])++[V1])
  (h12:∀ B X,G B→VDet Tryz.prog 12 [.agg [.int .u8 ka,.int .i64 sa,.vk ia1 na1 ma1,.int .i64 la,.vk ia2 na2 ma2,.vk ia3 na3 ma3,.vk ia4 na4 ma4]] (B++X) (.tup [.int .i64 v3,.int .i64 e3]))
  (h13:∀ B X,G B→VDet Tryz.prog 13 [.vk p13 nn (nn+12),.int .i64 size] (B++X) (.tup [.int .i64 v4,.int .i64 e4]))
  (h14:∀ B B1 B2,G B→VCall Tryz.prog 14 [.vk p13 nn (nn+12),.int .i64 size,.int .i64 N] (B++[B1,B2]) fun r H'=>∃ s,r=.tup [mdW k5 z5 p5 (.vs (q+2) f5),.int .i64 e5]∧H'=(B++[B1,B2])++[Bt s])
  (h15a:∀ B X,G B→VDet Tryz.prog 15 [.agg [.int .u8 ka,.int .i64 sa,.vk ia1 na1 ma1,.int .i64 la,.vk ia2 na2 ma2,.vk ia3 na3 ma3,.vk ia4 na4 ma4],.agg [.int .u8 ka,.int .i64 sa,.sl none na1 ca1,.int .i64 la,.sl none na2 ca2,.sl none na3 ca3,.sl none na4 ca4]] (B++X) (.bool true)) (h15b:∀ B X,G B→VDet Tryz.prog 15 [.agg [.int .u8 kb,.int .i64 sb,.vk ib1 nb1 mb1,.int .i64 lb,.vk ib2 nb2 mb2,.vk ib3 nb3 mb3,.vk ib4 nb4 mb4],.agg [.int .u8 kb,.int .i64 sb,.sl none nb1 cb1,.int .i64 lb,.sl none nb2 cb2,.sl none nb3 cb3,.sl none nb4 cb4]] (B++X) (.bool true))
  (h16:∀ B X,G B→VDet Tryz.prog 16 [.vk p13 nn (nn+12),.sl none nn nc] (B++X) (.bool true))
  (h17:∀ B X,G B→VCall Tryz.prog 17 [.agg [.int .u8 ka,.int .i64 sa,.vk ia1 na1 ma1,.int .i64 la,.vk ia2 na2 ma2,.vk ia3 na3 ma3,.vk ia4 na4 ma4]] (B++X) fun r H'=>r=.tup []∧OverR S (B++X) H')
  (h18:∀ B B' X,G B→OverR S B B'→VCall Tryz.prog 18 [.vk p13 nn (nn+12)] (B'++X) fun r H'=>r=.tup []∧OverR S2 (B'++X) H')
  (hS0:∀ j,j<H.length→S j∧S2 j) (hSq:∀ j,q≤j→S j∧S2 j) (hS5:S (H.length+0)∧S2 (H.length+0)) (hS6:S (H.length+1)∧S2 (H.length+1))
  (h19:∀ H,VDet Tryz.prog 19 [.agg [.int .u8 ka,.int .i64 sa,.sl none na1 ca1,.int .i64 la,.sl none na2 ca2,.sl none na3 ca3,.sl none na4 ca4],.agg [.int .u8 kb,.int .i64 sb,.sl none nb1 cb1,.int .i64 lb,.sl none nb2 cb2,.sl none nb3 cb3,.sl none nb4 cb4]] H (.tup [.bool sm,.int .i64 e1]))
  (h20:∀ H,VDet Tryz.prog 20 [.agg [.int .u8 ka,.int .i64 sa,.sl none na1 ca1,.int .i64 la,.sl none na2 ca2,.sl none na3 ca3,.sl none na4 ca4]] H (.tup [mdW k2 z2 p2 (.sl none f2 F2),.int .i64 e2]))
  (h21:∀ H,VDet Tryz.prog 21 [.agg [.int .u8 ka,.int .i64 sa,.sl none na1 ca1,.int .i64 la,.sl none na2 ca2,.sl none na3 ca3,.sl none na4 ca4]] H (.tup [.int .i64 v3,.int .i64 e3]))
  (h22:∀ H,VDet Tryz.prog 22 [.sl none nn nc,.int .i64 size] H (.tup [.int .i64 v4,.int .i64 e4]))
  (h23:∀ H,VDet Tryz.prog 23 [.sl none nn nc,.int .i64 size,.int .i64 N] H (.tup [mdW k5 z5 p5 (.sl none f5 F5),.int .i64 e5]))
  (h24a:∀ H i,H[i]? = some V1→VDet Tryz.prog 24 [mdW k2 z2 p2 (.vs i f2),mdW k2 z2 p2 (.sl none f2 F2)] H (.bool true))
  (h24b:∀ H i s,H[i]? = some (Bt s)→VDet Tryz.prog 24 [mdW k5 z5 p5 (.vs i f5),mdW k5 z5 p5 (.sl none f5 F5)] H (.bool true))
  (h7:∀ H,VDet Tryz.prog 7 [] H (.bool true)) :
  VDet Tryz.prog 3 [.agg [.int .u8 ka,.int .i64 sa,.sl none na1 ca1,.int .i64 la,.sl none na2 ca2,.sl none na3 ca3,.sl none na4 ca4],.agg [.int .u8 kb,.int .i64 sb,.sl none nb1 cb1,.int .i64 lb,.sl none nb2 cb2,.sl none nb3 cb3,.sl none nb4 cb4],.sl none nn nc,.int .i64 size,.int .i64 N] H (.bool true):=by
 show VCall _ _ _ _ (detR H (.bool true))
 refine fn_cut Tryz.E0 zaa 3 Tryz.func3 (by kernel_rfl) rfl (Nat.le_of_ble_eq_true rfl) rfl fun hcl hbl=>?_
 clear hbl
 (repeat' ((conv=>whnf);(first|refine zah [2000011,6,7,0,1,2,3,4,5,8,9,10] ?_|(refine IfN.id ?_;first|refine IfN.not ?_|refine IfN.tt rfl ?_|refine zas (by omega) ?_|fail)|refine SideN.mk (by kernel_rfl) ?_|(refine CallN.id ?_;first|refine CallN.det _ (h6a _) ?_|refine CallN.det _ (h6b _) ?_|fail)|refine CallD.freeC _ XA (_::_::_::_::XA) xa h8a rfl rfl rfl hXa ?_|refine CallD.freeC _ XB (_::_::_::_::(XA++XB)) xb h8b rfl rfl rfl hXb ?_|refine CallD.freeC _ [VT] (_::_::_::_::((XA++XB)++[VT])) 1 h9 rfl rfl rfl rfl ?_|fail)));conv=>whnf
 refine CutN.mk' [2,3,4,5,6,11,12,13] (H1:=H++(.box 27 [.int .u8 ka,.int .i64 sa,.sl none na1 ca1,.int .i64 la,.sl none na2 ca2,.sl none na3 ca3,.sl none na4 ca4]::.box 27 [.int .u8 kb,.int .i64 sb,.sl none nb1 cb1,.int .i64 lb,.sl none nb2 cb2,.sl none nb3 cb3,.sl none nb4 cb4]::.box 27 [.int .u8 ka,.int .i64 sa,.vk ia1 na1 ma1,.int .i64 la,.vk ia2 na2 ma2,.vk ia3 na3 ma3,.vk ia4 na4 ma4]::.box 27 [.int .u8 kb,.int .i64 sb,.vk ib1 nb1 mb1,.int .i64 lb,.vk ib2 nb2 mb2,.vk ib3 nb3 mb3,.vk ib4 nb4 mb4]::((XA++XB)++[VT]))) rfl rfl rfl ?_
 revert hG
 generalize H++(.box 27 [.int .u8 ka,.int .i64 sa,.sl none na1 ca1,.int .i64 la,.sl none na2 ca2,.sl none na3 ca3,.sl none na4 ca4]::.box 27 [.int .u8 kb,.int .i64 sb,.sl none nb1 cb1,.int .i64 lb,.sl none nb2 cb2,.sl none nb3 cb3,.sl none nb4 cb4]::.box 27 [.int .u8 ka,.int .i64 sa,.vk ia1 na1 ma1,.int .i64 la,.vk ia2 na2 ma2,.vk ia3 na3 ma3,.vk ia4 na4 ma4]::.box 27 [.int .u8 kb,.int .i64 sb,.vk ib1 nb1 mb1,.int .i64 lb,.vk ib2 nb2 mb2,.vk ib3 nb3 mb3,.vk ib4 nb4 mb4]::((XA++XB)++[VT]))=B
 intro hG
 have hBq:=hGq B hG
 obtain ⟨X,hBX⟩:=hGp B hG
 have hp5:=g5 B hG
 have hp6:=g6 B hG
 have hp11:=g11 B hG
 have hp12:=g12 B hG
 clear g5 g6 g11 g12 hGq hGp h8a h8b h9 h6a h6b hcl
 refine Ends.walk Tryz.E0 zaa fun hcl1 hbl1=>?_
 clear hbl1
 (repeat' ((conv=>whnf);(first|(refine IfN.id ?_;first|refine IfN.ff (bne_self_eq_false _) ?_|refine IfN.not ?_|refine IfN.tt rfl ?_|fail)|(refine CallN.id ?_;first|refine CallN.det _ (h10 _ _ hG) ?_|refine CallN.det _ (h12 _ _ hG) ?_|refine CallN.det _ (h13 _ _ hG) ?_|refine CallN.det _ (h15a _ _ hG) ?_|refine CallN.det _ (h15b _ _ hG) ?_|refine CallN.det _ (h16 _ _ hG) ?_|refine CallN.det _ (h19 _) ?_|refine CallN.det _ (h20 _) ?_|refine CallN.det _ (h21 _) ?_|refine CallN.det _ (h22 _) ?_|refine CallN.det _ (h23 _) ?_|refine CallN.det _ (h24a _ _ (at_locN ((o2.len.trans o1.len).trans hBq) rfl)) ?_|refine CallN.det _ (h24b _ _ _ (at_locN ((o2.len.trans o1.len).trans hBq) rfl)) ?_|refine CallN.det _ (h7 _) ?_|fail)|refine CallN.grow _ _ _ 1 (h11 _ hG) rfl rfl rfl ?_|refine CallN.more _ _ (h14 _ _ _ hG) rfl _ (fun _=>rfl) 3 (fun _=>rfl) fun s9=>?_|refine CallN.over S (h17 _ _ hG) rfl rfl (fun j hj=>(hSq j (hBq▸hj)).1) fun B1 o1=>?_|refine CallN.over S2 (h18 _ _ _ hG o1) o1.len rfl (fun j hj=>(hSq j (hBq▸hj)).2) fun B2 o2=>?_|refine PtrN.base _ ((o2.same _ hS5.2).trans ((o1.same _ hS5.1).trans hp5)) ?_|refine PtrN.base _ ((o2.same _ hS6.2).trans ((o1.same _ hS6.1).trans hp6)) ?_|refine PtrN.base _ (by (repeat' (first|assumption|exact za4 _ rfl|exact zam rfl|refine zar (B':=?_) ?_|refine zai ?_|fail))) ?_|fail)));conv=>whnf
 rw [hBX] at o1
 obtain ⟨Y,hY⟩:=(OverR.trans o1 o2 (S:=fun j=>S j∧S2 j) fun j hj=>hj).pre hS0
 exact EndN2.det Y hY trivial (Wk.refl _)
end
end Go.Proofs.YtjflngchbeegcaaGreatDoor.P10.C
namespace Go.Proofs.YtjflngchbeegcaaGreatDoor
open Go.Vsi
section
attribute [local irreducible] VW VCall VO bits
def cntN (k n:Nat):Nat:=if 14<n * k then 0 else if 16384<n <<< (n * k) then 0 else n <<< (n * k)
theorem count_c (k n:Nat) (hk:k≤26) (hn:n≤5) (H:Heap):VDet Tryz.prog 47 [.int .i64 k,.int .i64 n] H (.int .i64 (cntN k n:Nat)):=by
 have hm:n * k≤5 * 26:=Nat.mul_le_mul hn hk
 refine zag Tryz.E0 zaa Tryz.func47 (by kernel_rfl) rfl (Nat.le_of_ble_eq_true rfl) rfl fun hcl hbl=>?_
 (repeat' ((conv=>whnf);(first|refine za3 (fun _=>?_) (fun _=>?_)|(refine EqN.id ?_;first|(refine EqN.shlN _ _ Cst.h Cst.h rfl ?_ ?_ ?_;(· (repeat' (first|omega|refine And.intro ?_ ?_|exact zad (by omega)|exact zap (by omega)|refine zbb ?_ ?_|refine zao ?_ ?_|refine zau ?_ ?_|refine zal ?_ ?_|refine zav ?_|refine zaw ?_ ?_|refine zax ?_|refine zad ?_|fail)));(· (repeat' (first|omega|refine And.intro ?_ ?_|exact zad (by omega)|exact zap (by omega)|refine zbb ?_ ?_|refine zao ?_ ?_|refine zau ?_ ?_|refine zal ?_ ?_|refine zav ?_|refine zaw ?_ ?_|refine zax ?_|refine zad ?_|fail))))|(refine EqN.mulN _ _ Cst.h Cst.h ?_ ?_;· omega)|fail)|refine SideN.mk (by omega) ?_|fail)));all_goals (conv=>whnf)
 all_goals refine EndN.det trivial (Wk.of_eq (congrArg (AV.int _) ?_))
 all_goals unfold cntN
 ·rw [if_pos (by omega)];rfl
 ·rw [if_neg (by omega),if_pos (by omega)];rfl
 ·rw [if_neg (by omega),if_neg (by omega)]
def encS (c:UInt8):List AV:=[.str (nm c)]
structure NmOk (l:List UInt8):Prop where
 len:l.length≤26
 cap:∀ i,i<l.length→cap (l.getD i 0)
 inc:∀ i,0<i→i<l.length→(l.getD (i-1) 0).toNat<(l.getD i 0).toNat
theorem Count_c (l:List UInt8) (hl:NmOk l) (n:Nat) (h1:1≤n) (hn:n≤5) (H:Heap) :
  VDet Tryz.prog 13 [.sl none l.length (l.flatMap encS),.int .i64 n] H (.tup [.int .i64 (cntN l.length n:Nat),.int .i64 (if cntN l.length n=0 then 5 else 0)]):=by
 have hcn:=fun H=>count_c l.length n hl.len hn H
 obtain ⟨hlen,hcap,hinc⟩:=hl
 refine zag Tryz.E0 zaa Tryz.func13 (by kernel_rfl) rfl (Nat.le_of_ble_eq_true rfl) rfl fun hcl hbl=>?_
 (repeat' ((conv=>whnf);(first|refine zas (by omega) ?_|fail)));conv=>whnf
 refine za9 Tryz.E0 zaa (σ:=Nat) (fun k=>k≤l.length) (fun k=>l.length-k) (fun k=>[(17,.v (.int .i64 k))]) (fun _=>[]) _ 0 rfl hcl [0,1,15,16] rfl (Nat.zero_le _) ⟨⟨_,rfl,Wk.refl _⟩,trivial⟩ rfl (fun _ _=>rfl) ?_
 intro k hk
 have hc:=hcap k
 have hlt:0<k→k<l.length→Op.bytesLess (nm (l.getD (k-1) 0)).toList (nm (l.getD k 0)).toList=true:=fun h0 h=>by
  rw [nm_lt];exact decide_eq_true (hinc k h0 h)
 clear hbl
 (repeat' ((conv=>whnf);(first|(refine IfN.id ?_;first|refine IfN.tt (hlt (by omega) (by omega)) ?_|refine IfN.not ?_|refine IfN.tt rfl ?_|refine za3 (fun _=>?_) (fun _=>?_)|fail)|(refine EqN.id ?_;first|(refine zaf _ _ Cst.h Cst.h ?_ ?_;· omega)|(refine EqN.subN _ _ Cst.h Cst.h ?_ ?_;· omega)|fail)|(refine SideN.mk ?_ ?_;· first|omega|exact List.cons_ne_nil _ _|fail)|(refine CallN.id ?_;first|refine CallN.det _ (predicate_c _ (hc (by omega)) _) ?_|refine CallN.det _ (hcn _) ?_|fail)|refine zbm 0 k rfl (by omega) (fun _=>rfl) ?_|refine zbm 0 (k-1) (by omega) (by omega) (fun _=>rfl) ?_|fail)));all_goals (conv=>whnf)
 all_goals try ((refine ⟨⟨k+1,by omega,by omega,?_,.inl ⟨rfl,rfl⟩,rfl,_,rfl,?_⟩⟩;rotate_left 1;exact .inl rfl;exact ⟨⟨_,rfl,Wk.refl _⟩,trivial⟩))
 all_goals refine EndN.det (by simp [below,zac]) (Wk.of_eq ?_)
 ·rename_i h0
  rw [if_pos (by omega),show cntN l.length n=0 by omega]
  rfl
 ·rename_i h0
  rw [if_neg (by omega)]
def nthA (n:Nat):List UInt8→Nat→List (UInt8×Nat)×Nat
 | [],N=>([],N)
 | c::l,N=>((c,(nthA n l N).2 &&& (1 <<< n-1))::(nthA n l N).1,(nthA n l N).2 >>> n)
def nthT (l:List UInt8) (n N:Nat):Tr:=⟨n,(nthA n l N).2,(nthA n l N).1⟩
theorem cntN_le (k n:Nat):cntN k n≤16384:=by
 unfold cntN
 repeat' split
 all_goals omega
theorem Nth_1 (c0:UInt8) (hl:NmOk [c0]) (n N:Nat) (h1:1≤n) (h5:n≤5) (hc:cntN 1 n≠0) (hN:N<cntN 1 n) (H:Heap) :
  VDet Tryz.prog 14 [.sl none 1 [.str (nm c0)],.int .i64 n,.int .i64 N] H (.tup [.agg (nthT [c0] n N).cells,.int .i64 0]):=by
 have hC:=fun H=>Count_c [c0] hl n h1 h5 H
 rw [show ([c0]:List UInt8).length=1 from rfl,if_neg hc] at hC
 simp only [List.flatMap_cons,List.flatMap_nil,encS,List.append_nil,List.nil_append,List.cons_append] at hC
 have hm:=cntN_le 1 n
 have he:=every_lt h5
 have h4:1≤1 <<< n:=by rw [Nat.shiftLeft_eq];have:=Nat.two_pow_pos n;omega
 have h6:1 <<< n<64:=by unfold every at he;omega
 refine zag Tryz.E0 zaa Tryz.func14 (by kernel_rfl) rfl (Nat.le_of_ble_eq_true rfl) rfl fun hcl hbl=>?_
 (repeat' ((conv=>whnf);(first|(refine OrN.l ?_;refine NatN.mk _ rfl ?_;refine SideN.mk ⟨rfl,by omega,by dsimp only;omega⟩ ?_;refine OrN.r ?_)|(refine IfN.id ?_;first|refine IfN.not ?_|refine IfN.tt rfl ?_|refine IfN.ff rfl ?_|refine zas (by omega) ?_|fail)|(refine EqN.subN _ _ Cst.h Cst.h ?_ ?_;· omega)|refine CallN.det _ (hC _) ?_|fail)));conv=>whnf
 refine LoopN.rounds Tryz.E0 zaa 2 rfl ?_
 (repeat' ((conv=>whnf);(first|(refine IfN.id ?_;first|refine IfN.tt rfl ?_|refine IfN.ff rfl ?_|fail)|(refine EqN.id ?_;first|(refine EqN.and _ _ Cst.h Cst.h ?_ ?_;· (repeat' (first|omega|refine And.intro ?_ ?_|exact zad (by omega)|exact zap (by omega)|refine zbb ?_ ?_|refine zao ?_ ?_|refine zau ?_ ?_|refine zal ?_ ?_|refine zav ?_|refine zaw ?_ ?_|refine zax ?_|refine zad ?_|fail)))|(refine EqN.shrN _ _ Cst.h Cst.h rfl ?_ ?_;· (repeat' (first|omega|refine And.intro ?_ ?_|exact zad (by omega)|exact zap (by omega)|refine zbb ?_ ?_|refine zao ?_ ?_|refine zau ?_ ?_|refine zal ?_ ?_|refine zav ?_|refine zaw ?_ ?_|refine zax ?_|refine zad ?_|fail)))|(refine EqN.shlN _ _ Cst.h Cst.h rfl ?_ ?_ ?_;(· (repeat' (first|omega|refine And.intro ?_ ?_|exact zad (by omega)|exact zap (by omega)|refine zbb ?_ ?_|refine zao ?_ ?_|refine zau ?_ ?_|refine zal ?_ ?_|refine zav ?_|refine zaw ?_ ?_|refine zax ?_|refine zad ?_|fail)));(· (repeat' (first|omega|refine And.intro ?_ ?_|exact zad (by omega)|exact zap (by omega)|refine zbb ?_ ?_|refine zao ?_ ?_|refine zau ?_ ?_|refine zal ?_ ?_|refine zav ?_|refine zaw ?_ ?_|refine zax ?_|refine zad ?_|fail))))|(refine EqN.subN _ _ Cst.h Cst.h ?_ ?_;· omega)|refine EqN.i64 (by omega) ?_|fail)|(refine SideN.mk ?_ ?_;· first|kernel_rfl|omega|exact List.cons_ne_nil _ _|fail)|refine PtrN.loc _ rfl ?_|refine SegN.mk _ (za6 rfl) ?_|refine OfsN.at_ (by omega) ?_|refine zah [] ?_|fail)));conv=>whnf
 refine EndN.detF (u':=.tup [.agg [.int .u8 5,.int .i64 n,.nils,.int .i64 (nthT [c0] n N).lp,.sl none 1 ((nthT [c0] n N).fs.flatMap encT),.nils,.nils],.int .i64 0]) ?gb ?gf ?gw
 case gf=>(repeat' (first|exact FrzL.nil|refine FrzL.cons ?_ ?_|refine Frz.agg ?_|refine Frz.tup ?_|refine Frz.ms (by exact rfl) (by exact rfl) (FrzL.refl _)|exact Frz.refl _|fail))
 case gb=>simp [below,zac,Tr.cells,encT_below]
 case gw=>exact wk_tup ⟨zbp ⟨Wk.refl _,Wk.refl _,zak,Wk.refl _,Wk.refl _,zak,zak,trivial⟩,Wk.refl _,trivial⟩
theorem sameInts_c (H:Heap):VDet Tryz.prog 62 [.sl none 0 [],.sl none 0 []] H (.bool true):=by
 refine zag Tryz.E0 zaa Tryz.func62 (by kernel_rfl) rfl (Nat.le_of_ble_eq_true rfl) rfl fun hcl hbl=>?_
 (repeat' ((conv=>whnf);(first|(refine IfN.id ?_;first|refine IfN.not ?_|refine IfN.tt rfl ?_|fail)|fail)));conv=>whnf
 refine LoopN.rounds Tryz.E0 zaa 1 rfl ?_
 (repeat' ((conv=>whnf);(first|refine IfN.ff rfl ?_|fail)));conv=>whnf
 exact eT trivial
theorem sameFuncs_c (H:Heap):VDet Tryz.prog 64 [.sl none 0 [],.sl none 0 []] H (.bool true):=by
 refine zag Tryz.E0 zaa Tryz.func64 (by kernel_rfl) rfl (Nat.le_of_ble_eq_true rfl) rfl fun hcl hbl=>?_
 (repeat' ((conv=>whnf);(first|(refine IfN.id ?_;first|refine IfN.not ?_|refine IfN.tt rfl ?_|fail)|fail)));conv=>whnf
 refine LoopN.rounds Tryz.E0 zaa 1 rfl ?_
 (repeat' ((conv=>whnf);(first|refine IfN.ff rfl ?_|fail)));conv=>whnf
 exact eT trivial
theorem sameBinds_c (H:Heap):VDet Tryz.prog 65 [.sl none 0 [],.sl none 0 []] H (.bool true):=by
 refine zag Tryz.E0 zaa Tryz.func65 (by kernel_rfl) rfl (Nat.le_of_ble_eq_true rfl) rfl fun hcl hbl=>?_
 (repeat' ((conv=>whnf);(first|(refine IfN.id ?_;first|refine IfN.not ?_|refine IfN.tt rfl ?_|fail)|fail)));conv=>whnf
 refine LoopN.rounds Tryz.E0 zaa 1 rfl ?_
 (repeat' ((conv=>whnf);(first|refine IfN.ff rfl ?_|fail)));conv=>whnf
 exact eT trivial
theorem wk_trans {a b c:AV} (h1:Wk a b) (h2:Wk b c):Wk a c:=fun g w v h=>h2 g w v (h1 g w v h)
theorem eq_row (p q:UInt8×Nat):((nm p.1).toList==(nm q.1).toList&&((0:Int)==0&&((p.2:Int)==q.2&&true)))=(p==q):=by
 rw [nm_eq]
 obtain ⟨a,m⟩:=p
 obtain ⟨b,n⟩:=q
 have h1:((m:Int)==n)=(m==n):=by
  rw [Bool.eq_iff_iff]
  simp only [beq_iff_eq]
  omega
 have h2:(((a,m):UInt8×Nat)==(b,n))=(a==b&&m==n):=rfl
 simp only [h1,h2,BEq.rfl,Bool.and_true,Bool.true_and]
def eqF (a b:List (UInt8×Nat)):Bool:=(a.length==b.length)&&(List.range a.length).all fun i=>ft a i==ft b i
theorem sameFacts_c (a b:List (UInt8×Nat)) (ha:a.length≤26) (hb:b.length≤26) (H:Heap):VDet Tryz.prog 63 [.sl none a.length (a.flatMap encT),.sl none b.length (b.flatMap encT)] H (.bool (eqF a b)):=by
 have hne:a.length≠b.length→eqF a b=false:=fun h=>by unfold eqF;simp [h]
 have hno:∀ k,k<a.length→(ft a k==ft b k)=false→eqF a b=false:=fun k hk h=>by unfold eqF;rw [all_no hk h,Bool.and_false]
 have hyes:a.length=b.length→(∀ i,i<a.length→(ft a i==ft b i)=true)→eqF a b=true:=fun e h=>by unfold eqF;rw [all_yes h,e];simp
 generalize eqF a b=R at *
 refine zag Tryz.E0 zaa Tryz.func63 (by kernel_rfl) rfl (Nat.le_of_ble_eq_true rfl) rfl fun hcl hbl=>?_
 (repeat' ((conv=>whnf);(first|(refine IfN.id ?_;first|refine IfN.not ?_|refine za3 (fun _=>?_) (fun _=>?_)|fail)|fail)));all_goals (conv=>whnf)
 all_goals try (refine EndN.det trivial (Wk.of_eq ?_);rw [hne (by omega)])
 refine za9 Tryz.E0 zaa (σ:=Nat) (fun k=>k≤a.length∧∀ i,i<k→(ft a i==ft b i)=true) (fun k=>a.length-k) (fun k=>[(5,.v (.int .i64 k))]) (fun _=>[]) _ 0 rfl hcl [0,1] rfl ⟨Nat.zero_le _,fun i hi=>absurd hi (Nat.not_lt_zero i)⟩ ⟨⟨_,rfl,Wk.refl _⟩,trivial⟩ rfl (fun _ _=>rfl) ?_
 rintro k ⟨hk,hok⟩
 clear hbl
 (repeat' ((conv=>whnf);(first|(refine IfN.id ?_;first|refine IfN.not ?_|refine za3 (fun _=>?_) (fun _=>?_)|(refine IfN.mk ?_ ?_ <;> intro _)|fail)|(refine zaf _ _ Cst.h Cst.h ?_ ?_;· omega)|(refine SideN.mk ?_ ?_;· first|kernel_rfl|omega|exact List.cons_ne_nil _ _|fail)|refine zbm (0,0) k rfl (by omega) (fun _=>rfl) ?_|refine zah [] ?_|fail)));all_goals (conv=>whnf)
 ·rename_i he
  rw [eq_row] at he
  (refine ⟨⟨k+1,⟨by omega,fun i hi=>by
   rcases Nat.lt_or_ge i k with h|h
   ·exact hok i h
   ·have:i=k:=by omega
    exact this▸he⟩,by omega,?_,.inl ⟨rfl,rfl⟩,rfl,_,rfl,?_⟩⟩;rotate_left 1;exact .inl rfl;exact ⟨⟨_,rfl,Wk.refl _⟩,trivial⟩)
 ·rename_i he
  rw [eq_row] at he
  refine EndN.det trivial (Wk.of_eq ?_)
  rw [hno k (by omega) he]
 ·refine EndN.det trivial (Wk.of_eq ?_)
  rw [hyes (by omega) (fun i hi=>hok i (by omega))]
def eqT (a b:Tr):Bool:=(a.n==b.n)&&((a.lp==b.lp)&&eqF a.fs b.fs)
theorem sameModel_c (a b:Tr) (ha:a.fs.length≤26) (hb:b.fs.length≤26) (H:Heap):VDet Tryz.prog 24 [.agg a.cells,.agg b.cells] H (.bool (eqT a b)):=by
 have hf:=fun H=>sameFacts_c a.fs b.fs ha hb H
 unfold eqT
 generalize eqF a.fs b.fs=R at hf ⊢
 unfold Tr.cells
 refine zag Tryz.E0 zaa Tryz.func24 (by kernel_rfl) rfl (Nat.le_of_ble_eq_true rfl) rfl fun hcl hbl=>?_
 (repeat' ((conv=>whnf);(first|(refine IfN.id ?_;first|refine IfN.tt rfl ?_|refine za3 (fun _=>?_) (fun _=>?_)|(refine IfN.mk ?_ ?_ <;> intro _)|fail)|(refine CallN.id ?_;first|refine CallN.det _ (hf _) ?_|refine CallN.det _ (sameInts_c _) ?_|refine CallN.det _ (sameFuncs_c _) ?_|refine CallN.det _ (sameBinds_c _) ?_|fail)|fail)));all_goals (conv=>whnf)
 all_goals refine EndN.det trivial (Wk.of_eq (congrArg AV.bool ?_))
 all_goals simp_all
 all_goals omega
theorem atom_c (c:UInt8) (H:Heap):VDet Tryz.prog 25 [.str (nm c)] H (.agg (Fm.at c).cells):=by
 unfold Fm.cells
 simp only [Fm.op,Fm.nmB,Fm.sn,Fm.sc]
 refine zag Tryz.E0 zaa Tryz.func25 (by kernel_rfl) rfl (Nat.le_of_ble_eq_true rfl) rfl fun hcl hbl=>?_
 conv=>whnf
 exact EndN.det (by simp [below,zac]) (zbp ⟨Wk.refl _,Wk.refl _,zak,zak,trivial⟩)
theorem join1_c (k:Nat) (a:Fm) (H:Heap):VDet Tryz.prog 26 [.int .u8 k,.sl none 1 a.cells] H (.agg (Fm.f1 k a).cells):=by
 rw [show (Fm.f1 k a).cells=[.int .u8 (k:Nat),.str .empty,.sl none 0 [],.sl none 1 a.cells] from rfl]
 have hb:∀ m,zac m a.cells:=fun m=>by simp [Fm.cells,below,zac,Fm.sc_below]
 generalize a.cells=ac at hb ⊢
 refine zag Tryz.E0 zaa Tryz.func26 (by kernel_rfl) rfl (Nat.le_of_ble_eq_true rfl) rfl fun hcl hbl=>?_
 conv=>whnf
 exact EndN.det (by simp [below,zac,hb]) (zbp ⟨Wk.refl _,Wk.refl _,zak,Wk.refl _,trivial⟩)
theorem join2_c (k:Nat) (a b:Fm) (H:Heap):VDet Tryz.prog 26 [.int .u8 k,.sl none 2 (a.cells++b.cells)] H (.agg (Fm.f2 k a b).cells):=by
 rw [show (Fm.f2 k a b).cells=[.int .u8 (k:Nat),.str .empty,.sl none 0 [],.sl none 2 (a.cells++b.cells)] from rfl]
 have hb:∀ m,zac m (a.cells++b.cells):=fun m=>by simp [Fm.cells,below,zac,Fm.sc_below]
 generalize a.cells++b.cells=ac at hb ⊢
 refine zag Tryz.E0 zaa Tryz.func26 (by kernel_rfl) rfl (Nat.le_of_ble_eq_true rfl) rfl fun hcl hbl=>?_
 conv=>whnf
 exact EndN.det (by simp [below,zac,hb]) (zbp ⟨Wk.refl _,Wk.refl _,zak,Wk.refl _,trivial⟩)
theorem facts2_c (a b:Nat) (H:Heap):VDet Tryz.prog 28 [.sl none 2 [.int .i64 a,.int .i64 b]] H (.sl none 2 ([(80,a),(81,b)].flatMap encT)):=by
 refine zag Tryz.E0 zaa Tryz.func28 (by kernel_rfl) rfl (Nat.le_of_ble_eq_true rfl) rfl fun hcl hbl=>?_
 conv=>whnf
 refine LoopN.tok 3 60 3 rfl rfl rfl ?_
 refine LoopN.rounds Tryz.E0 zaa 3 rfl ?_
 (repeat' ((conv=>whnf);(first|(refine IfN.id ?_;first|refine IfN.tt rfl ?_|refine IfN.ff rfl ?_|fail)|(refine EqN.id ?_;first|(refine zaf _ _ Cst.h Cst.h ?_ ?_;· omega)|refine zbq _ _ (by first|with_reducible rfl|exact Cst.h) (by first|with_reducible rfl|exact Cst.h) ?_|fail)|(refine SideN.mk ?_ ?_;· first|omega|exact List.cons_ne_nil _ _|fail)|refine SideN.mk ⟨rfl,rfl,rfl,by simp,by simp [maxLen]⟩ ?_|refine PtrN.loc _ rfl ?_|refine SegN.mk _ (za6 rfl) ?_|fail)));conv=>whnf
 exact EndN.det ⟨(fun _ h=>by cases h),encT_below _ _⟩ (wk_trans (wk_sl _ _ _) (Wk.of_eq (by kernel_rfl)))
theorem ok2 (n lp a b:Nat) (h1:1≤n) (h5:n≤5) (hl:lp<n) (ha:a<2 ^ n) (hb:b<2 ^ n):Tr.Ok ⟨n,lp,[(80,a),(81,b)]⟩:=by
 refine ⟨h1,h5,hl,by simp,fun i hi=>?_,fun i hi=>?_,fun i hi=>?_⟩
 ·have:i=0∨i=1:=by simp at hi;omega
  rcases this with rfl|rfl
  ·exact (⟨by decide,by decide⟩:cap 80)
  ·exact (⟨by decide,by decide⟩:cap 81)
 ·have:i=0:=by simp at hi;omega
  subst this
  show (80:UInt8).toNat<(81:UInt8).toNat
  decide
 ·have:i=0∨i=1:=by simp at hi;omega
  rcases this with rfl|rfl
  ·exact ha
  ·exact hb
def m3:Tr:=⟨3,1,[(80,5),(81,2)]⟩
def m2:Tr:=⟨2,0,[(80,1),(81,2)]⟩
theorem m3_ok:m3.Ok:=ok2 3 1 5 2 (by decide) (by decide) (by decide) (by decide) (by decide)
theorem m2_ok:m2.Ok:=ok2 2 0 1 2 (by decide) (by decide) (by decide) (by decide) (by decide)
theorem at3 (f:Fm) (v:Nat) (hf:f.Ok) (ht:f.Temp) (hn:f.nodes≤40) (hm:miss m3 f=false) (hv:evT m3 f=v) (H:Heap):VDet Tryz.prog 34 [.agg m3.cells,.agg f.cells] H (.tup [.int .i64 (v:Nat),.int .i64 0]):=by
 have:=At_c m3 m3_ok f hf ht hn H
 rw [hm,hv] at this
 exact this
def fP:Fm:=.at 80
def fQ:Fm:=.at 81
theorem capP:cap 80:=⟨by decide,by decide⟩
theorem capQ:cap 81:=⟨by decide,by decide⟩
theorem nm1_ok:NmOk [80]:=⟨by decide,fun i hi=>by
 have:i=0:=by simp at hi;exact hi
 subst this;exact capP,fun i h0 hi=>by simp at hi;omega⟩
theorem awake_c (H:Heap):VDet Tryz.prog 7 [] H (.bool true):=by
 have a1:=at3 (.f1 12 fP) 2 ⟨by simp [is1],capP⟩ ⟨by simp,trivial⟩ (by decide) (by kernel_rfl) (by kernel_rfl)
 have a2:=at3 (.f1 13 fP) 0 ⟨by simp [is1],capP⟩ ⟨by simp,trivial⟩ (by decide) (by kernel_rfl) (by kernel_rfl)
 have a3:=at3 (.f1 13 (.f2 5 fP fQ)) 7 ⟨by simp [is1],by simp [is2],capP,capQ⟩ ⟨by simp,by simp [is2],trivial,trivial⟩ (by decide) (by kernel_rfl) (by kernel_rfl)
 have a4:=at3 (.f2 14 fP fQ) 7 ⟨by simp [is2],capP,capQ⟩ ⟨by simp [is2],trivial,trivial⟩ (by decide) (by kernel_rfl) (by kernel_rfl)
 have a5:=at3 (.f2 14 fQ (.f1 12 fQ)) 7 ⟨by simp [is2],capQ,by simp [is1],capQ⟩ ⟨by simp [is2],trivial,by simp,trivial⟩ (by decide) (by kernel_rfl) (by kernel_rfl)
 have p0:=Position_c m3 m3_ok 0 (by decide)
 have p1:=Position_c m3 m3_ok 1 (by decide)
 have p2:=Position_c m3 m3_ok 2 (by decide)
 have p3:=Position_c m3 m3_ok 3 (by decide)
 have p4:=Position_c m3 m3_ok 4 (by decide)
 have s1:=Suffix_c m3 m3_ok 2 (by decide)
 have s2:=Short_c m3 m3_ok 1 0 (by decide) (by decide) (fun j hj x hx=>by
  have:j=0:=by omega
  subst this
  have:x=0:=by omega
  subst this
  exact (by kernel_rfl:shB m3 0 0=false)) (fun x hx=>absurd hx (Nat.not_lt_zero x)) (by kernel_rfl)
 have s3:=Same_c m3 m2 m3_ok m2_ok
 have c1:=Count_c [80] nm1_ok 2 (by decide) (by decide)
 have c2:=Nth_1 80 nm1_ok 2 5 (by decide) (by decide) (by decide) (by decide)
 have e1:=sameModel_c (sufT m3 2) m2 (by decide) (by decide)
 have e2:=sameModel_c (shT m3 1 0) m2 (by decide) (by decide)
 rw [show eqT (sufT m3 2) m2=true by kernel_rfl] at e1
 rw [show eqT (shT m3 1 0) m2=true by kernel_rfl] at e2
 rw [show sameB m3 m2=true by kernel_rfl] at s3
 rw [show cntN ([80]:List UInt8).length 2=8 by kernel_rfl] at c1
 rw [show posN m3.n m3.lp 0=0 by kernel_rfl] at p0
 rw [show posN m3.n m3.lp 1=1 by kernel_rfl] at p1
 rw [show posN m3.n m3.lp 2=2 by kernel_rfl] at p2
 rw [show posN m3.n m3.lp 3=1 by kernel_rfl] at p3
 rw [show posN m3.n m3.lp 4=2 by kernel_rfl] at p4
 rw [show sufT m3 2=m2 by kernel_rfl] at s1 e1
 rw [show shT m3 1 0=m2 by kernel_rfl] at s2 e2
 rw [show nthT [80] 2 5=⟨2,1,[(80,1)]⟩ by kernel_rfl] at c2
 refine zag Tryz.E0 zaa Tryz.func7 (by kernel_rfl) rfl (Nat.le_of_ble_eq_true rfl) rfl fun hcl hbl=>?_
 (repeat' ((conv=>whnf);(first|refine SideN.mk (by kernel_rfl) ?_|(refine CallN.id ?_;first|refine CallN.det _ (atom_c 80 _) ?_|refine CallN.det _ (atom_c 81 _) ?_|refine CallN.det _ (zbc (facts2_c 5 2 _) ⟨wk_sx _ _,trivial⟩) ?_|fail)|(refine CallD.id ?_;first|refine CallD.det _ (fun _ hq X=>zbc (join1_c 12 fP _) ⟨Wk.refl _,wk_sx _ _,trivial⟩) ?_|refine CallD.det _ (fun _ hq X=>zbc (join1_c 13 fP _) ⟨Wk.refl _,wk_sx _ _,trivial⟩) ?_|refine CallD.det _ (fun _ hq X=>zbc (join2_c 5 fP fQ _) ⟨Wk.refl _,wk_sx _ _,trivial⟩) ?_|refine CallD.det _ (fun _ hq X=>zbc (join1_c 13 (.f2 5 fP fQ) _) ⟨Wk.refl _,wk_sx _ _,trivial⟩) ?_|refine CallD.det _ (fun _ hq X=>zbc (join2_c 14 fP fQ _) ⟨Wk.refl _,wk_sx _ _,trivial⟩) ?_|refine CallD.det _ (fun _ hq X=>zbc (join1_c 12 fQ _) ⟨Wk.refl _,wk_sx _ _,trivial⟩) ?_|refine CallD.det _ (fun _ hq X=>zbc (join2_c 14 fQ (.f1 12 fQ) _) ⟨Wk.refl _,wk_sx _ _,trivial⟩) ?_|fail)|refine zah [] ?_|fail)));conv=>whnf
 refine LoopN.rounds Tryz.E0 zaa 6 rfl ?_
 (repeat' ((conv=>whnf);(first|(refine IfN.id ?_;first|refine IfN.not ?_|refine IfN.tt rfl ?_|refine IfN.ff rfl ?_|fail)|(refine EqN.id ?_;first|(refine zaf _ _ Cst.h Cst.h ?_ ?_;· omega)|refine zbq _ _ (by first|with_reducible rfl|exact Cst.h) (by first|with_reducible rfl|exact Cst.h) ?_|fail)|(refine SideN.mk ?_ ?_;· first|omega|exact List.cons_ne_nil _ _|(simp;done)|fail)|(refine CallN.id ?_;first|refine CallN.det _ (zbc (facts2_c 1 2 _) ⟨wk_sx _ _,trivial⟩) ?_|refine CallN.det _ (zbc (a1 _) ⟨zbp ⟨Wk.refl _,Wk.refl _,zak,Wk.refl _,Wk.refl _,zak,zak,trivial⟩,Wk.refl _,trivial⟩) ?_|refine CallN.det _ (zbc (a2 _) ⟨zbp ⟨Wk.refl _,Wk.refl _,zak,Wk.refl _,Wk.refl _,zak,zak,trivial⟩,Wk.refl _,trivial⟩) ?_|refine CallN.det _ (zbc (a3 _) ⟨zbp ⟨Wk.refl _,Wk.refl _,zak,Wk.refl _,Wk.refl _,zak,zak,trivial⟩,Wk.refl _,trivial⟩) ?_|refine CallN.det _ (zbc (a4 _) ⟨zbp ⟨Wk.refl _,Wk.refl _,zak,Wk.refl _,Wk.refl _,zak,zak,trivial⟩,Wk.refl _,trivial⟩) ?_|refine CallN.det _ (zbc (a5 _) ⟨zbp ⟨Wk.refl _,Wk.refl _,zak,Wk.refl _,Wk.refl _,zak,zak,trivial⟩,Wk.refl _,trivial⟩) ?_|refine CallN.det _ (zbc (p0 _) ⟨zbp ⟨Wk.refl _,Wk.refl _,zak,Wk.refl _,Wk.refl _,zak,zak,trivial⟩,Wk.refl _,trivial⟩) ?_|refine CallN.det _ (zbc (p1 _) ⟨zbp ⟨Wk.refl _,Wk.refl _,zak,Wk.refl _,Wk.refl _,zak,zak,trivial⟩,Wk.refl _,trivial⟩) ?_|refine CallN.det _ (zbc (p2 _) ⟨zbp ⟨Wk.refl _,Wk.refl _,zak,Wk.refl _,Wk.refl _,zak,zak,trivial⟩,Wk.refl _,trivial⟩) ?_|refine CallN.det _ (zbc (p3 _) ⟨zbp ⟨Wk.refl _,Wk.refl _,zak,Wk.refl _,Wk.refl _,zak,zak,trivial⟩,Wk.refl _,trivial⟩) ?_|refine CallN.det _ (zbc (p4 _) ⟨zbp ⟨Wk.refl _,Wk.refl _,zak,Wk.refl _,Wk.refl _,zak,zak,trivial⟩,Wk.refl _,trivial⟩) ?_|refine CallN.det _ (zbc (s1 _) ⟨zbp ⟨Wk.refl _,Wk.refl _,zak,Wk.refl _,Wk.refl _,zak,zak,trivial⟩,Wk.refl _,trivial⟩) ?_|refine CallN.det _ (zbc (s2 _) ⟨zbp ⟨Wk.refl _,Wk.refl _,zak,Wk.refl _,Wk.refl _,zak,zak,trivial⟩,trivial⟩) ?_|refine CallN.det _ (zbc (s3 _) ⟨zbp ⟨Wk.refl _,Wk.refl _,zak,Wk.refl _,Wk.refl _,zak,zak,trivial⟩,zbp ⟨Wk.refl _,Wk.refl _,zak,Wk.refl _,Wk.refl _,zak,zak,trivial⟩,trivial⟩) ?_|refine CallN.det _ (zbc (c1 _) ⟨wk_sx _ _,Wk.refl _,trivial⟩) ?_|refine CallN.det _ (zbc (c2 _) ⟨wk_sx _ _,Wk.refl _,Wk.refl _,trivial⟩) ?_|refine CallN.det _ (zbc (e1 _) ⟨Wk.refl _,zbp ⟨Wk.refl _,Wk.refl _,zak,Wk.refl _,Wk.refl _,zak,zak,trivial⟩,trivial⟩) ?_|fail)|refine SegN.mk _ (za6 rfl) ?_|fail)));conv=>whnf
 exact EndN.det trivial (Wk.of_eq (by kernel_rfl))
end
end Go.Proofs.YtjflngchbeegcaaGreatDoor
namespace Go.Proofs.YtjflngchbeegcaaGreatDoor.P10.C
open Go.Vsi
section
attribute [local irreducible] VW VCall VO bits
theorem cmp_no (x y:Bool) (CA CB:List AV) (nn:Nat) (nc:List AV) (size N:Int) (ka sa la kb sb lb:Int) (na1 na2 na3 na4 nb1 nb2 nb3 nb4:Nat) (ca1 ca2 ca3 ca4 cb1 cb2 cb3 cb4:List AV)
  (hCA:CA=[.int .u8 ka,.int .i64 sa,.sl none na1 ca1,.int .i64 la,.sl none na2 ca2,.sl none na3 ca3,.sl none na4 ca4]) (hCB:CB=[.int .u8 kb,.int .i64 sb,.sl none nb1 cb1,.int .i64 lb,.sl none nb2 cb2,.sl none nb3 cb3,.sl none nb4 cb4])
  (hno:x=false∨(x=true∧y=false)∨(x=true∧y=true∧20<nn))
  (h6a:∀ H,VDet Tryz.prog 6 [.agg CA] H (.bool x)) (h6b:∀ H,VDet Tryz.prog 6 [.agg CB] H (.bool y)) (h7:∀ H,VDet Tryz.prog 7 [] H (.bool true)) (H:Heap) :
  VDet Tryz.prog 3 [.agg CA,.agg CB,.sl none nn nc,.int .i64 size,.int .i64 N] H (.bool true):=by
 subst hCA hCB
 rcases hno with rfl|⟨rfl,rfl⟩|⟨rfl,rfl,hn⟩
 ·refine zag Tryz.E0 zaa Tryz.func3 (by kernel_rfl) rfl (Nat.le_of_ble_eq_true rfl) rfl fun hcl hbl=>?_
  (repeat' ((conv=>whnf);(first|(refine IfN.id ?_;first|refine IfN.not ?_|refine IfN.ff rfl ?_|fail)|(refine CallN.id ?_;first|refine CallN.det _ (h6a _) ?_|refine CallN.det _ (h7 _) ?_|fail)|fail)));conv=>whnf
  exact eT trivial
 ·refine zag Tryz.E0 zaa Tryz.func3 (by kernel_rfl) rfl (Nat.le_of_ble_eq_true rfl) rfl fun hcl hbl=>?_
  (repeat' ((conv=>whnf);(first|(refine IfN.id ?_;first|refine IfN.not ?_|refine IfN.tt rfl ?_|refine IfN.ff rfl ?_|fail)|(refine CallN.id ?_;first|refine CallN.det _ (h6a _) ?_|refine CallN.det _ (h6b _) ?_|refine CallN.det _ (h7 _) ?_|fail)|fail)));conv=>whnf
  exact eT trivial
 ·refine zag Tryz.E0 zaa Tryz.func3 (by kernel_rfl) rfl (Nat.le_of_ble_eq_true rfl) rfl fun hcl hbl=>?_
  (repeat' ((conv=>whnf);(first|(refine IfN.id ?_;first|refine IfN.not ?_|refine IfN.tt rfl ?_|refine zan (by omega) ?_|fail)|(refine CallN.id ?_;first|refine CallN.det _ (h6a _) ?_|refine CallN.det _ (h6b _) ?_|refine CallN.det _ (h7 _) ?_|fail)|fail)));conv=>whnf
  exact eT trivial
theorem few13_few {m:Mdl} (h:few13 m=true):m.rel.length≤20∧m.facts.length≤12∧m.funcs.length≤12∧m.binds.length≤12:=by
 unfold few13 at h
 simpa [Bool.and_eq_true,decide_eq_true_eq] using h
def hpC (H:Heap) (a b:Mdl) (l:List ByteArray):Heap:=H++(.box 27 a.cells::.box 27 b.cells::.box 27 (mdL a (H.length+4))::.box 27 (mdL b (H.length+((lnH a (H.length+4)).length+4)))::((lnH a (H.length+4)++lnH b (H.length+((lnH a (H.length+4)).length+4)))++[.vec 9 1 (l.flatMap encSG++mks encSG mkB 12)]))
theorem hpC_a (H:Heap) (a b:Mdl) (l:List ByteArray):MdAt a (H.length+4) (hpC H a b l):=by
 refine MdAt.of ?_
 have:=Has.app (H:=H++[.box 27 a.cells,.box 27 b.cells,.box 27 (mdL a (H.length+4)),.box 27 (mdL b (H.length+((lnH a (H.length+4)).length+4)))]) (A:=lnH b (H.length+((lnH a (H.length+4)).length+4))++[.vec 9 1 (l.flatMap encSG++mks encSG mkB 12)]) (lnH a (H.length+4))
 rw [List.length_append] at this
 have e:hpC H a b l=((H++[.box 27 a.cells,.box 27 b.cells,.box 27 (mdL a (H.length+4)),.box 27 (mdL b (H.length+((lnH a (H.length+4)).length+4)))])++lnH a (H.length+4))++(lnH b (H.length+((lnH a (H.length+4)).length+4))++[.vec 9 1 (l.flatMap encSG++mks encSG mkB 12)]):=by
  unfold hpC
  simp
 rw [e]
 exact this
theorem hpC_b (H:Heap) (a b:Mdl) (l:List ByteArray):MdAt b (H.length+((lnH a (H.length+4)).length+4)) (hpC H a b l):=by
 refine MdAt.of ?_
 have:=Has.app (H:=H++(.box 27 a.cells::.box 27 b.cells::.box 27 (mdL a (H.length+4))::.box 27 (mdL b (H.length+((lnH a (H.length+4)).length+4)))::lnH a (H.length+4))) (A:=[.vec 9 1 (l.flatMap encSG++mks encSG mkB 12)]) (lnH b (H.length+((lnH a (H.length+4)).length+4)))
 rw [List.length_append] at this
 have e:hpC H a b l=((H++(.box 27 a.cells::.box 27 b.cells::.box 27 (mdL a (H.length+4))::.box 27 (mdL b (H.length+((lnH a (H.length+4)).length+4)))::lnH a (H.length+4)))++lnH b (H.length+((lnH a (H.length+4)).length+4)))++[.vec 9 1 (l.flatMap encSG++mks encSG mkB 12)]:=by
  unfold hpC
  simp
 rw [e]
 exact this
theorem hpC_t (H:Heap) (a b:Mdl) (l:List ByteArray):(hpC H a b l)[H.length+((lnH a (H.length+4)++lnH b (H.length+((lnH a (H.length+4)).length+4))).length+4)]? = some (.vec 9 1 (l.flatMap encSG++mks encSG mkB 12)):=by
 unfold hpC
 generalize lnH a (H.length+4)++lnH b (H.length+((lnH a (H.length+4)).length+4))=X
 rw [List.getElem?_append_right (by omega),Nat.add_sub_cancel_left]
 show (_::_::_::_::(X++[_]))[X.length+1+1+1+1]? = _
 simp
theorem short_lend (k2 z2 p2 e2:Int) (F:List Fct) (as':List AV) (h:∀ H,VCall Tryz.prog 11 as' H fun r H'=>r=.tup [mdW k2 z2 p2 (.vs H.length F.length),.int .i64 e2]∧H'=H++[.vec 60 3 (F.flatMap Fct.cells)]) (xs zs:List AV) (H:Heap) (hl:LendL H xs zs) (hw:WkL zs as') :
  VCall Tryz.prog 11 xs H fun r H'=>r=.tup [mdW k2 z2 p2 (.vs H.length F.length),.int .i64 e2]∧H'=H++[.vec 60 3 (F.flatMap Fct.cells)]:=by
 refine VCall.mono (VCall.lend (ι:=Unit) (v:=fun _=>.tup [mdW k2 z2 p2 (.vs H.length F.length),.int .i64 e2]) (X:=fun _=>[.vec 60 3 (F.flatMap Fct.cells)]) (fun H2 h2=>?_) hl (fun _=>?_) (fun _=>⟨?_,trivial⟩)) fun r H' ⟨_,h⟩=>h
 ·rw [← h2]
  exact VCall.mono (VCall.wkA (h H2) hw) fun r H' h=>⟨(),h⟩
 ·simp [freeV,freeL]
 ·refine freeL_all fun v hv=>?_
  obtain ⟨f,-,hf⟩:=List.mem_flatMap.1 hv
  simp only [Fct.cells,List.mem_cons,List.not_mem_nil,or_false] at hf
  rcases hf with rfl|rfl|rfl <;> trivial
theorem nth_lend (k5 z5 p5 e5:Int) (W:Nat→AV) (hWf:∀ p,freeV p (W p)) (Bt:Nat→Blk) (hB:∀ M s,freeB M (Bt s)) (as':List AV) (h:∀ H,VCall Tryz.prog 14 as' H fun r H'=>∃ s,r=.tup [mdW k5 z5 p5 (W H.length),.int .i64 e5]∧H'=H++[Bt s]) (xs zs:List AV) (H:Heap) (hl:LendL H xs zs) (hw:WkL zs as') :
  VCall Tryz.prog 14 xs H fun r H'=>∃ s,r=.tup [mdW k5 z5 p5 (W H.length),.int .i64 e5]∧H'=H++[Bt s]:=by
 refine VCall.lend (ι:=Nat) (v:=fun _=>.tup [mdW k5 z5 p5 (W H.length),.int .i64 e5]) (X:=fun s=>[Bt s]) (fun H2 h2=>?_) hl (fun _=>?_) (fun s=>⟨hB _ s,trivial⟩)
 ·rw [← h2]
  exact VCall.wkA (h H2) hw
 ·simp only [freeV,freeL]
  exact ⟨⟨trivial,trivial,trivial,trivial,hWf _,trivial,trivial,trivial⟩,trivial,trivial⟩
end
end Go.Proofs.YtjflngchbeegcaaGreatDoor.P10.C
