/- A text of the proof: the parts TA41, TB41, TF41, YB41, RA41, AB41, AC41, AD41, AE41, AF41, AG41, AH41, AI41, AJ41. -/
import Derived.Test.YtgdmldelijeaoaaGreatDoorK8
set_option linter.unusedSimpArgs false
set_option linter.unusedVariables false
set_option maxHeartbeats 8000000
namespace Go.Proofs.YtgdmldelijeaoaaGreatDoor
open Go.Vsi
section
def memY (x:Sym) (ks:List Sym):Bool:=ks.any fun y=>decide (x=y)
theorem memY_iff (x:Sym) (ks:List Sym):memY x ks=true↔x∈ks:=by
 unfold memY
 rw [List.any_eq_true]
 constructor
 ·rintro ⟨y,h,e⟩
  rw [decide_eq_true_eq] at e
  exact e▸h
 ·intro h
  exact ⟨x,h,by simp⟩
def insY (ks:List Sym) (x:Sym):List Sym:=if memY x ks=true then ks else ks++[x]
theorem ba_beq (a b:ByteArray):(a.toList==b.toList)=decide (a=b):=by
 have h:a.toList=b.toList↔a=b:=by
  constructor
  ·intro h
   rw [ByteArray.toList_eq,ByteArray.toList_eq] at h
   exact ByteArray.ext (Array.toList_inj.1 h)
  ·rintro rfl;rfl
 by_cases hab:a=b
 ·subst hab;simp
 ·rw [decide_eq_false hab,beq_eq_false_iff_ne]
  exact fun e=>hab (h.1 e)
theorem eqSym (x y:Sym):eqV Tryz.kn Tryz.T 20 92 (.agg (symC x)) (.agg (symC y))=some (decide (x=y)):=by
 obtain ⟨a,n⟩:=x
 obtain ⟨b,m⟩:=y
 show some (a.toList==b.toList&&((n:Int)==(m:Int)&&true))=_
 rw [ba_beq,Bool.and_true]
 congr 1
 apply Bool.eq_iff_iff.2
 rw [Bool.and_eq_true,decide_eq_true_eq,decide_eq_true_eq,beq_iff_eq,Prod.mk.injEq]
 constructor
 ·rintro ⟨h1,h2⟩;exact ⟨h1,by omega⟩
 ·rintro ⟨h1,h2⟩;exact ⟨h1,by omega⟩
theorem mfindY (c:Sym):∀ ks:List Sym,(c∈ks→∃ j,j<ks.length∧ks[j]? = some c∧mfind (eqV Tryz.kn Tryz.T 20 92) (.agg (symC c)) (ks.map fun x=>.agg (symC x))=some (some j))∧(c ∉ ks→mfind (eqV Tryz.kn Tryz.T 20 92) (.agg (symC c)) (ks.map fun x=>.agg (symC x))=some none)
 | []=>⟨fun h=>by simp at h,fun _=>rfl⟩
 | d::ks=>by
   have he:=eqSym c d
   obtain ⟨h1,h2⟩:=mfindY c ks
   simp only [List.map_cons,mfind,he]
   by_cases hcd:c=d
   ·subst hcd
    simp only [decide_true]
    exact ⟨fun _=>⟨0,by simp,rfl,rfl⟩,fun h=>absurd (List.mem_cons_self) h⟩
   ·have hb:decide (c=d)=false:=by simpa using hcd
    simp only [hb]
    refine ⟨fun h=>?_,fun h=>?_⟩
    ·obtain ⟨j,e1,e2,e3⟩:=h1 ((List.mem_cons.1 h).resolve_left hcd)
     exact ⟨j+1,by simpa using e1,by simpa using e2,by rw [e3]⟩
    ·rw [h2 fun q=>h (List.mem_cons_of_mem _ q)]
theorem putY (c:Sym) (ks:List Sym):MPut (eqV Tryz.kn Tryz.T 20 92) (ks.map fun x=>.agg (symC x)) (ks.map fun _=>.bool true) (.agg (symC c)) (.bool true) ((insY ks c).map fun x=>.agg (symC x)) ((insY ks c).map fun _=>.bool true):=by
 obtain ⟨h1,h2⟩:=mfindY c ks
 unfold insY
 by_cases h:c∈ks
 ·rw [if_pos ((memY_iff c ks).2 h)]
  obtain ⟨j,e1,e2,e3⟩:=h1 h
  have:=MPut.old (vs:=ks.map fun _=>AV.bool true) (v:=.bool true) j e3 (by rw [List.getElem?_map,e2];rfl)
  have hs:(ks.map fun _=>AV.bool true).set j (.bool true)=ks.map fun _=>.bool true:=by
   apply List.ext_getElem?
   intro i
   rw [List.getElem?_set]
   split
   ·rename_i hi
    subst hi
    simp [e1]
   ·rfl
  rwa [hs] at this
 ·rw [if_neg (fun q=>h ((memY_iff c ks).1 q))]
  have:=MPut.new (vs:=ks.map fun _=>AV.bool true) (v:=.bool true) (h2 h)
  simpa using this
attribute [local irreducible] VW VCall VO bits
def stepY (ks:List Sym) (x:Fo):List Sym×Option Code:=match x with
 | .mk op s l _=>(if op=1 then insY ks (s,l.length) else ks,none)
def predY (f:Fo):List Sym:=(foldB stepY [] (fpart f)).1
theorem stepY_none (l:List Fo):∀ ks,(foldB stepY ks l).2=none:=by
 induction l with
 | nil=>intro ks;rfl
 | cons x l ih =>
   intro ks
   rw [foldB_cons]
   have hn:(stepY ks x).2.isNone=true:=by cases x;rfl
   rw [hn,if_pos rfl]
   exact ih _
def lsY (n0:Nat) (fc:List AV) (m:Blk):Heap:=[.box 29 fc,m,.box 182 [.mp (n0+1)],.box 29 fc]
theorem lsY_below (n0:Nat) (f:Fo) (ks:List Sym) (N:Nat) (h:n0+4≤N):∀ B∈lsY n0 f.cells (mpY ks),B.below N:=by
 intro B hB
 have:=fo_below N f
 simp only [lsY,List.mem_cons,List.not_mem_nil,or_false] at hB
 rcases hB with rfl|rfl|rfl|rfl
 ·exact this
 ·exact mpY_below _ _
 ·simp [Blk.below,zaa,below];omega
 ·exact this
theorem pred_c (f:Fo) (hg:f.good) (hn:(predY f).length≤1000000000000) (H:Heap):VDet Tryz.prog 145 [.agg f.cells] H (.sl none (predY f).length ((sortY (predY f)).flatMap symC)):=by
 have hw:=walk_c f (H++[.box 29 f.cells,mpY [],.box 182 [.mp (H.length+1)]])
 rw [List.length_append] at hw
 have hce:∃ o s ln lc mn mc,f.cells=[.int .u8 (o:Nat),.str s,.sl none ln lc,.sl none mn mc]:=by
  obtain ⟨o,s,l,m,rfl⟩:=fo_ex f
  rw [Fo.cells_mk]
  exact ⟨_,_,_,_,_,_,rfl⟩
 obtain ⟨o,s,ln,lc,mn,mc,hce⟩:=hce
 have hjp:=stepY_none (fpart f) []
 have hpr:predY f=(foldB stepY [] (fpart f)).1:=rfl
 rw [hce] at hw ⊢
 have hso:=fun X=>sorted47_c (H++(lsY H.length [.int .u8 o,.str s,.sl none ln lc,.sl none mn mc] (mpY (predY f))++X)) (H.length+1) (predY f) hn (by simp [lsY])
 refine zak Tryz.E0 Tryz.mx Tryz.func145 (by kernel_rfl) rfl (Nat.le_of_ble_eq_true rfl) rfl fun hcl hbl=>?_
 (repeat' ((conv=>whnf);(first|refine CallN.grow _ _ _ 4 hw rfl rfl rfl ?_|refine DrawN.mk' [] ?_|fail)));all_goals (conv=>whnf)
 refine range_walk clo_good f hg rfl hcl rfl [3] _ rfl (by decide) rfl (by simp [zal,below,tr])
  (fun ks:List Sym=>lsY H.length [.int .u8 o,.str s,.sl none ln lc,.sl none mn mc] (mpY ks)) (fun _=>True) (fun _=>True) stepY [] trivial rfl 3 (by rw [hce];rfl) (fun _ h=>h) (fun _ _=>rfl) ?_ (fun _ _ h hx=>⟨trivial,fun _=>trivial⟩) ?_ ?_
 ·intro ks _ B hB
  have h:=lsY_below H.length f ks (H.length+5) (by omega) B
  rw [hce] at h
  exact h hB
 ·intro ks x Y _ hx
  obtain ⟨o2,t2,a2,m2,rfl⟩:=fo_ex x
  have hstep:stepY ks (.mk o2 t2 a2 m2)=(if o2=1 then insY ks (t2,a2.length) else ks,none):=rfl
  rw [hstep,Fo.cells_mk]
  have hb0:=lsY_below H.length f ks (H.length+5) (by omega)
  have hb2:=lsY_below H.length f (insY ks (t2,a2.length)) (H.length+5) (by omega)
  rw [hce] at hb0 hb2
  have hbk:zal H.length (H.length+5) [(3,.lp (0+1+1) 0)]:=by simp [zal,below,tr]
  have hput:=putY (t2,a2.length) ks
  by_cases ho:o2=1
  ·subst ho
   simp only [if_true]
   unfold lsY mpY at hb2 ⊢
   (repeat' ((conv=>whnf);(first|refine DrawN.mk' [] ?_|fail)));all_goals (conv=>whnf)
   refine ⟨none,_,zau Y rfl,set_loc3 rfl,?_⟩
   generalize hB:Blk.loop LoopState.busy none _ _=B
   (repeat' ((conv=>whnf);(first|refine SetN.mk _ (set_loc3 rfl) ?_|refine IfN.tt rfl ?_|refine RelN.mk _ _ ⟨⟨_,rfl⟩,hput⟩ ?_|refine PtrN.base _ (by (repeat' (first|assumption|exact zau _ rfl|exact zar rfl|refine zaw (B':=?_) ?_|refine zan ?_|fail))) ?_|refine DrawN.mk' [] ?_|fail)));all_goals (conv=>whnf)
   subst hB
   exact rnd_end (l':=[_,_,_,_]) .normal rfl rfl hb2 hbk
  ·rw [if_neg ho]
   unfold lsY mpY at hb0 ⊢
   (repeat' ((conv=>whnf);(first|refine DrawN.mk' [] ?_|fail)));all_goals (conv=>whnf)
   refine ⟨none,_,zau Y rfl,set_loc3 rfl,?_⟩
   generalize hB:Blk.loop LoopState.busy none _ _=B
   (repeat' ((conv=>whnf);(first|refine IfN.dF (by omega) ?_|refine DrawN.mk' [] ?_|fail)));all_goals (conv=>whnf)
   subst hB
   exact rnd_end (l':=[_,_,_,_]) .normal rfl rfl hb0 hbk
 ·rw [← hpr]
  generalize foldB stepY [] (fpart f)=res at *
  obtain ⟨ps,jp⟩:=res
  simp only at hjp ⊢
  subst hjp
  unfold lsY at hso ⊢
  generalize predY f=pf at *
  (repeat' ((conv=>whnf);(first|refine CallN.det _ (hso _) ?_|refine DrawN.mk' [] ?_|fail)));all_goals (conv=>whnf)
  refine EndN.det ?_ (Wk.refl _)
  exact ⟨fun _ e=>(nomatch e),syms_below _ _⟩
end
section
def stepW (ks:List Sym) (x:Tm):List Sym×Bool:=match x with
 | .mk v s l=>(if v=true then ks else insY ks (s,l.length),true)
theorem stepW_true (l:List Tm):∀ ks,(foldE stepW ks l).2=true:=by
 induction l with
 | nil=>intro ks;rfl
 | cons x l ih =>
   intro ks
   rw [foldE_cons]
   have hn:(stepW ks x).2=true:=by cases x;rfl
   rw [hn,if_pos rfl]
   exact ih _
def stepZ (ks:List Sym) (x:Fo):List Sym×Option Code:=((foldE stepW ks (tparts (targs x))).1,none)
def funY (f:Fo):List Sym:=(foldB stepZ [] (fpart f)).1
theorem stepZ_none (l:List Fo):∀ ks,(foldB stepZ ks l).2=none:=by
 induction l with
 | nil=>intro ks;rfl
 | cons x l ih =>
   intro ks
   rw [foldB_cons]
   have hn:(stepZ ks x).2.isNone=true:=rfl
   rw [hn,if_pos rfl]
   exact ih _
attribute [local irreducible] VW VCall VO bits
theorem clo49_c (x:Tm) (ks:List Sym) (H:Heap) (i p:Nat) (hi:H[i]? = some (mpY ks)) (hp:H[p]? = some (.box 182 [.mp i])) :
  VCall Tryz.prog 205 [.agg x.cells,.ptr p 0] H (setR H i (mpY (stepW ks x).1) (.bool true)):=by
 obtain ⟨v,s,l,rfl⟩:=tm_ex x
 have hst:(stepW ks (.mk v s l)).1=if v=true then ks else insY ks (s,l.length):=rfl
 rw [Tm.cells_mk,hst]
 have hput:=putY (s,l.length) ks
 unfold mpY at hi ⊢
 cases v with
 | true =>
   simp only [if_true]
   refine za8 Tryz.E0 Tryz.mx Tryz.func205 (by kernel_rfl) rfl (Nat.le_of_ble_eq_true rfl) rfl fun hcl hbl=>?_
   (repeat' ((conv=>whnf);(first|(refine IfN.id ?_;first|refine IfN.not ?_|refine IfN.tt rfl ?_|fail)|refine DrawN.mk' [] ?_|fail)));all_goals (conv=>whnf)
   exact EndN.same hi trivial (Wk.refl _)
 | false =>
   simp only [Bool.false_eq_true,if_false]
   refine za8 Tryz.E0 Tryz.mx Tryz.func205 (by kernel_rfl) rfl (Nat.le_of_ble_eq_true rfl) rfl fun hcl hbl=>?_
   (repeat' ((conv=>whnf);(first|(refine IfN.id ?_;first|refine IfN.not ?_|refine IfN.ff rfl ?_|fail)|refine SetN.mk _ rfl ?_|refine RelN.mk _ _ ⟨⟨_,rfl⟩,hput⟩ ?_|refine PtrN.base _ (by (repeat' (first|assumption|exact zau _ rfl|exact zar rfl|refine zaw (B':=?_) ?_|refine zan ?_|fail))) ?_|refine DrawN.mk' [] ?_|fail)));all_goals (conv=>whnf)
   exact EndN.setB (mpY_below _ _) trivial (Wk.refl _)
theorem fun_vis (base:Heap) (ls:List Sym→Heap) (a b N:Nat) (hN:∀ n,(base++ls n).length=N) (low:∀ n,∀ B∈base++ls n,B.below N) (ha:∀ n,lget (ls n) a=some (mpY n)) (hb:∀ n,lget (ls n) b=some (.box 182 [.mp (base.length+a)])) (hset:∀ n m,(ls n).set a (mpY m)=ls m) :
  Vis (.func 205) [.ptr (base.length+b) 0] Tm.cells Tm.good (fun n=>base++ls n) N (fun _=>True) (fun _=>True) stepW:=by
 refine ⟨fun _ _=>trivial,fun n _=>hN n,fun n _=>low n,fun _ _ _ _=>⟨trivial,fun _=>trivial⟩,fun n x Y _ _=>?_⟩
 have h:=clo49_c x n ((base++ls n)++Y) (base.length+a) (base.length+b) (zau Y (ha n)) (zau Y (hb n))
 refine VCall.mono h ?_
 rintro r H' ⟨rfl,rfl⟩
 have ht:(stepW n x).2=true:=by cases x;rfl
 refine ⟨by rw [ht],?_⟩
 rw [set_loc3 (ha n),hset]
theorem func_c (f:Fo) (hg:f.good) (hn:(funY f).length≤1000000000000) (H:Heap):VDet Tryz.prog 146 [.agg f.cells] H (.sl none (funY f).length ((sortY (funY f)).flatMap symC)):=by
 have hw:=walk_c f (H++[.box 29 f.cells,mpY [],.box 182 [.mp (H.length+1)]])
 rw [List.length_append] at hw
 have hce:∃ o s ln lc mn mc,f.cells=[.int .u8 (o:Nat),.str s,.sl none ln lc,.sl none mn mc]:=by
  obtain ⟨o,s,l,m,rfl⟩:=fo_ex f
  rw [Fo.cells_mk]
  exact ⟨_,_,_,_,_,_,rfl⟩
 obtain ⟨o,s,ln,lc,mn,mc,hce⟩:=hce
 have hjp:=stepZ_none (fpart f) []
 have hpr:funY f=(foldB stepZ [] (fpart f)).1:=rfl
 rw [hce] at hw ⊢
 have hso:=fun X=>sorted47_c (H++(lsY H.length [.int .u8 o,.str s,.sl none ln lc,.sl none mn mc] (mpY (funY f))++X)) (H.length+1) (funY f) hn (by simp [lsY])
 refine zak Tryz.E0 Tryz.mx Tryz.func146 (by kernel_rfl) rfl (Nat.le_of_ble_eq_true rfl) rfl fun hcl hbl=>?_
 (repeat' ((conv=>whnf);(first|refine CallN.grow _ _ _ 4 hw rfl rfl rfl ?_|refine DrawN.mk' [] ?_|fail)));all_goals (conv=>whnf)
 refine range_walk clo_good f hg rfl hcl rfl [3] _ rfl (by decide) rfl (by simp [zal,below,tr])
  (fun ks:List Sym=>lsY H.length [.int .u8 o,.str s,.sl none ln lc,.sl none mn mc] (mpY ks)) (fun _=>True) (fun _=>True) stepZ [] trivial rfl 3 (by rw [hce];rfl) (fun _ h=>h) (fun _ _=>rfl) ?_ (fun _ _ h hx=>⟨trivial,fun _=>trivial⟩) ?_ ?_
 ·intro ks _ B hB
  have h:=lsY_below H.length f ks (H.length+5) (by omega) B
  rw [hce] at h
  exact h hB
 ·intro ks x Y _ hx
  obtain ⟨o2,t2,a2,m2,rfl⟩:=fo_ex x
  rw [Fo.cells_mk]
  have hb0:=fun ks=>lsY_below H.length f ks (H.length+5) (by omega)
  rw [hce] at hb0
  have hbk:zal H.length (H.length+5) [(3,.lp (0+1+1) 0)]:=by simp [zal,below,tr]
  have hst:stepZ ks (.mk o2 t2 a2 m2)=((foldE stepW ks (tparts a2)).1,none):=rfl
  have htr:=stepW_true (tparts a2) ks
  rw [hst]
  unfold lsY at hb0 ⊢
  (repeat' ((conv=>whnf);(first|refine DrawN.mk' [] ?_|fail)));all_goals (conv=>whnf)
  refine ⟨none,_,zau Y rfl,set_loc3 rfl,?_⟩
  generalize hB:Blk.loop LoopState.busy none _ _=B
  have hBb:B.below (H.length+5):=hB▸get_below hbk
  have hv:=fun_vis H (fun n=>[.box 29 [.int .u8 o,.str s,.sl none ln lc,.sl none mn mc],mpY n,.box 182 [.mp (H.length+1)],.box 29 [.int .u8 o,.str s,.sl none ln lc,.sl none mn mc],B]) 1 2 (H.length+5) (fun _=>by simp) (fun n C hC=>by
   rcases List.mem_append.1 hC with h|h
   ·obtain ⟨j,hj⟩:=List.getElem?_of_mem h
    exact Blk.below_mono (by omega) (hcl j C hj)
   ·have:=hb0 n C
    simp only [List.mem_cons,List.not_mem_nil,or_false] at h this
    rcases h with rfl|rfl|rfl|rfl|rfl
    ·exact this (.inl rfl)
    ·exact mpY_below _ _
    ·simp [Blk.below,zaa,below]
    ·exact this (.inl rfl)
    ·exact hBb) (fun _=>rfl) (fun _=>rfl) (fun _ _=>rfl)
  have hvt:=fun X=>visitTerms_c hv (by simp) a2 (zbd hx.2.2.1) hx.2.2.2.1 ks X trivial
  rw [htr] at hvt
  generalize (foldE stepW ks (tparts a2)).1=k2 at hvt ⊢
  have hvt2:∀ Z:Heap,VCall Tryz.prog 204 [.sl none a2.length (a2.flatMap Tm.cells),.clo (.func 205) [] [.ptr (H.length+2) 0]] (((H++[.box 29 [.int .u8 o,.str s,.sl none ln lc,.sl none mn mc],mpY ks,.box 182 [.mp (H.length+1)],.box 29 [.int .u8 o,.str s,.sl none ln lc,.sl none mn mc],B])++Y)++Z) (fun r H'=>r=.bool true∧H'=((H++[.box 29 [.int .u8 o,.str s,.sl none ln lc,.sl none mn mc],mpY k2,.box 182 [.mp (H.length+1)],.box 29 [.int .u8 o,.str s,.sl none ln lc,.sl none mn mc],B])++Y)++Z):=fun Z=>by
   have:=hvt (Y++Z)
   simpa only [List.append_assoc] using this
  clear hvt
  (repeat' ((conv=>whnf);(first|refine CallN.fix _ _ _ _ (hvt2 _) (by simp) rfl ?_|refine DrawN.mk' [] ?_|fail)));all_goals (conv=>whnf)
  subst hB
  exact rnd_end (l':=[_,_,_,_]) .normal rfl rfl (hb0 k2) hbk
 ·rw [← hpr]
  generalize foldB stepZ [] (fpart f)=res at *
  obtain ⟨ps,jp⟩:=res
  simp only at hjp ⊢
  subst hjp
  unfold lsY at hso ⊢
  generalize funY f=pf at *
  (repeat' ((conv=>whnf);(first|refine CallN.det _ (hso _) ?_|refine DrawN.mk' [] ?_|fail)));all_goals (conv=>whnf)
  refine EndN.det ?_ (Wk.refl _)
  exact ⟨fun _ e=>(nomatch e),syms_below _ _⟩
end
section
attribute [local irreducible] VW VCall VO bits
theorem right_c (f:Fo) (hg:f.good) (H:Heap):VDet Tryz.prog 120 [.agg f.cells] H (.bool (jF 1 f 400).2):=by
 have h:=form_g f hg (H++[.box 29 f.cells,jB 400]) (H.length+1) 400 1 (by simp) (by omega) (by omega)
 have hce:∃ o s ln lc mn mc,f.cells=[.int .u8 (o:Nat),.str s,.sl none ln lc,.sl none mn mc]:=by
  obtain ⟨o,s,l,m,rfl⟩:=fo_ex f
  rw [Fo.cells_mk]
  exact ⟨_,_,_,_,_,_,rfl⟩
 obtain ⟨o,s,ln,lc,mn,mc,hce⟩:=hce
 rw [hce] at h ⊢
 generalize jF 1 f 400=r at *
 obtain ⟨L,b⟩:=r
 simp only at h ⊢
 have h2:VCall Tryz.prog 180 [.ptr (H.length+1) 0,.agg [.int .u8 o,.str s,.sl none ln lc,.sl none mn mc],.int .i64 (1:Nat)] (H++[.box 29 [.int .u8 o,.str s,.sl none ln lc,.sl none mn mc],jB 400]) (fun r H'=>r=.bool b∧H'=H++[.box 29 [.int .u8 o,.str s,.sl none ln lc,.sl none mn mc],jB L]):=by
  refine VCall.mono h ?_
  rintro r H' ⟨h4,h3⟩
  rw [set_loc'] at h4
  exact ⟨h3,h4⟩
 unfold jB at h2
 refine zak Tryz.E0 Tryz.mx Tryz.func120 (by kernel_rfl) rfl (Nat.le_of_ble_eq_true rfl) rfl fun hcl hbl=>?_
 (repeat' ((conv=>whnf);(first|refine CallN.fix _ _ _ 2 h2 rfl rfl ?_|refine DrawN.mk' [] ?_|fail)));all_goals (conv=>whnf)
 exact EndN.det trivial (Wk.refl _)
end
section
open Go.Shelf Go.RowKit Go.Sort
theorem insY_mem (ks:List Sym) (x y:Sym):y∈insY ks x↔y∈ks∨y=x:=by
 unfold insY
 split
 ·rename_i h
  rw [memY_iff] at h
  constructor
  ·exact .inl
  ·rintro (h1|rfl)
   ·exact h1
   ·exact h
 ·simp
theorem insY_nd (ks:List Sym) (x:Sym) (h:ks.Nodup):(insY ks x).Nodup:=by
 unfold insY
 split
 ·exact h
 ·rename_i hn
  rw [List.nodup_append]
  refine ⟨h,by simp,fun a ha b hb=>?_⟩
  simp at hb
  subst hb
  exact fun e=>hn ((memY_iff _ _).2 (e▸ha))
theorem foldY_cons (ks:List Sym) (x:Fo) (l:List Fo):(foldB stepY ks (x::l)).1=(foldB stepY (stepY ks x).1 l).1:=by
 rw [foldB_cons]
 have hn:(stepY ks x).2.isNone=true:=by cases x;rfl
 rw [hn,if_pos rfl]
def isSymP (x:Fo) (s:Sym):Prop:=match x with
 | .mk o t l _=>o=1∧s=(t,l.length)
theorem foldY_mem:∀ (l:List Fo) (ks:List Sym) (s:Sym),s∈(foldB stepY ks l).1↔s∈ks∨∃ x∈l,isSymP x s
 | [],ks,s=>by simp [foldB]
 | x::l,ks,s=>by
   rw [foldY_cons,foldY_mem l]
   have hs:s∈(stepY ks x).1↔s∈ks∨isSymP x s:=by
    obtain ⟨o,t,a,m,rfl⟩:=fo_ex x
    unfold stepY isSymP
    simp only
    split
    ·rename_i h
     rw [insY_mem]
     simp [h]
    ·rename_i h
     simp [h]
   rw [hs]
   constructor
   ·rintro ((h|h)|⟨y,hy,h⟩)
    ·exact .inl h
    ·exact .inr ⟨x,List.mem_cons_self ..,h⟩
    ·exact .inr ⟨y,List.mem_cons_of_mem _ hy,h⟩
   ·rintro (h|⟨y,hy,h⟩)
    ·exact .inl (.inl h)
    ·rcases List.mem_cons.1 hy with rfl|hy
     ·exact .inl (.inr h)
     ·exact .inr ⟨y,hy,h⟩
theorem foldY_nd:∀ (l:List Fo) (ks:List Sym),ks.Nodup→(foldB stepY ks l).1.Nodup
 | [],ks,h=>by simpa [foldB] using h
 | x::l,ks,h=>by
   rw [foldY_cons]
   refine foldY_nd l _ ?_
   obtain ⟨o,t,a,m,rfl⟩:=fo_ex x
   unfold stepY
   simp only
   split
   ·exact insY_nd _ _ h
   ·exact h
theorem predY_nd (f:Fo):(predY f).Nodup:=foldY_nd _ _ List.nodup_nil
def isSymF (x:Tm) (s:Sym):Prop:=match x with
 | .mk v t l=>v=false∧s=(t,l.length)
theorem foldW_mem:∀ (l:List Tm) (ks:List Sym) (s:Sym),s∈(foldE stepW ks l).1↔s∈ks∨∃ x∈l,isSymF x s
 | [],ks,s=>by simp [foldE]
 | x::l,ks,s=>by
   have hn:(stepW ks x).2=true:=by cases x;rfl
   rw [foldE_cons,hn,if_pos rfl,foldW_mem l]
   have hs:s∈(stepW ks x).1↔s∈ks∨isSymF x s:=by
    obtain ⟨v,t,a,rfl⟩:=tm_ex x
    unfold stepW isSymF
    simp only
    cases v with
    | true=>simp
    | false =>
      simp only [Bool.false_eq_true,if_false]
      rw [insY_mem]
      simp
   rw [hs]
   constructor
   ·rintro ((h|h)|⟨y,hy,h⟩)
    ·exact .inl h
    ·exact .inr ⟨x,List.mem_cons_self ..,h⟩
    ·exact .inr ⟨y,List.mem_cons_of_mem _ hy,h⟩
   ·rintro (h|⟨y,hy,h⟩)
    ·exact .inl (.inl h)
    ·rcases List.mem_cons.1 hy with rfl|hy
     ·exact .inl (.inr h)
     ·exact .inr ⟨y,hy,h⟩
theorem foldW_nd:∀ (l:List Tm) (ks:List Sym),ks.Nodup→(foldE stepW ks l).1.Nodup
 | [],ks,h=>by simpa [foldE] using h
 | x::l,ks,h=>by
   have hn:(stepW ks x).2=true:=by cases x;rfl
   rw [foldE_cons,hn,if_pos rfl]
   refine foldW_nd l _ ?_
   obtain ⟨v,t,a,rfl⟩:=tm_ex x
   unfold stepW
   simp only
   split
   ·exact h
   ·exact insY_nd _ _ h
theorem foldZ_cons (ks:List Sym) (x:Fo) (l:List Fo):(foldB stepZ ks (x::l)).1=(foldB stepZ (stepZ ks x).1 l).1:=by
 rw [foldB_cons]
 rfl
theorem foldZ_mem:∀ (l:List Fo) (ks:List Sym) (s:Sym),s∈(foldB stepZ ks l).1↔s∈ks∨∃ x∈l,∃ t∈tparts (targs x),isSymF t s
 | [],ks,s=>by simp [foldB]
 | x::l,ks,s=>by
   rw [foldZ_cons,foldZ_mem l]
   unfold stepZ
   simp only
   rw [foldW_mem]
   constructor
   ·rintro ((h|h)|⟨y,hy,h⟩)
    ·exact .inl h
    ·exact .inr ⟨x,List.mem_cons_self ..,h⟩
    ·exact .inr ⟨y,List.mem_cons_of_mem _ hy,h⟩
   ·rintro (h|⟨y,hy,h⟩)
    ·exact .inl (.inl h)
    ·rcases List.mem_cons.1 hy with rfl|hy
     ·exact .inl (.inr h)
     ·exact .inr ⟨y,hy,h⟩
theorem foldZ_nd:∀ (l:List Fo) (ks:List Sym),ks.Nodup→(foldB stepZ ks l).1.Nodup
 | [],ks,h=>by simpa [foldB] using h
 | x::l,ks,h=>by
   rw [foldZ_cons]
   exact foldZ_nd l _ (foldW_nd _ _ h)
theorem funY_nd (f:Fo):(funY f).Nodup:=foldZ_nd _ _ List.nodup_nil
end
section
attribute [local irreducible] VW VCall VO bits
theorem tq_parts:∀ (t:Tq) (s:Sym),(∃ x∈tpart t.tm,isSymF x s)↔t.hasC s.1 s.2
 | .vr c,s=>by
   show (∃ x∈tpart (.mk true c []),isSymF x s)↔False
   rw [tpart_mk,tparts_nil]
   simp [isSymF]
 | .cn c,s=>by
   show (∃ x∈tpart (.mk false c []),isSymF x s)↔(c=s.1∧(s.2:Int)=0)
   rw [tpart_mk,tparts_nil]
   obtain ⟨a,n⟩:=s
   simp only [List.mem_singleton,exists_eq_left,isSymF,true_and,List.length_nil,Prod.mk.injEq]
   exact ⟨fun h=>⟨h.1.symm,by omega⟩,fun h=>⟨h.1.symm,by omega⟩⟩
 | .ap c t,s=>by
   have ih:=tq_parts t s
   show (∃ x∈tpart (.mk false c [t.tm]),isSymF x s)↔((c=s.1∧(s.2:Int)=1)∨t.hasC s.1 s.2)
   rw [tpart_mk,tparts_cons,tparts_nil,List.append_nil,← ih]
   obtain ⟨a,n⟩:=s
   constructor
   ·rintro ⟨x,hx,h⟩
    rcases List.mem_cons.1 hx with rfl|hx
    ·have h:false=false∧(a,n)=(c,1):=h
     cases h.2
     exact .inl ⟨rfl,rfl⟩
    ·exact .inr ⟨x,hx,h⟩
   ·rintro (⟨h1,h2⟩|⟨x,hx,h⟩)
    ·refine ⟨_,List.mem_cons_self,?_⟩
     show false=false∧(a,n)=(c,1)
     have h2:(n:Int)=1:=h2
     have:n=1:=by omega
     subst this
     exact ⟨rfl,by rw [show c=a from h1]⟩
    ·exact ⟨x,List.mem_cons_of_mem _ hx,h⟩
theorem tqs_parts (l:List Tq) (s:Sym):(∃ x∈tparts (l.map Tq.tm),isSymF x s)↔∃ t∈l,t.hasC s.1 s.2:=by
 induction l with
 | nil=>simp [tparts_nil]
 | cons t l ih =>
   rw [List.map_cons,tparts_cons]
   constructor
   ·rintro ⟨x,hx,h⟩
    rcases List.mem_append.1 hx with hx|hx
    ·exact ⟨t,List.mem_cons_self,(tq_parts t s).1 ⟨x,hx,h⟩⟩
    ·obtain ⟨u,hu,h2⟩:=ih.1 ⟨x,hx,h⟩
     exact ⟨u,List.mem_cons_of_mem _ hu,h2⟩
   ·rintro ⟨u,hu,h⟩
    rcases List.mem_cons.1 hu with rfl|hu
    ·obtain ⟨x,hx,h2⟩:=(tq_parts u s).2 h
     exact ⟨x,List.mem_append_left _ hx,h2⟩
    ·obtain ⟨x,hx,h2⟩:=ih.2 ⟨u,hu,h⟩
     exact ⟨x,List.mem_append_right _ hx,h2⟩
theorem ex_cons {α:Type} {P:α→Prop} {a:α} {l:List α}:(∃ x∈a::l,P x)↔P a∨∃ x∈l,P x:=by
 simp
theorem ex_app {α:Type} {P:α→Prop} {l m:List α}:(∃ x∈l++m,P x)↔(∃ x∈l,P x)∨∃ x∈m,P x:=by
 constructor
 ·rintro ⟨x,hx,h⟩
  rcases List.mem_append.1 hx with hx|hx
  ·exact .inl ⟨x,hx,h⟩
  ·exact .inr ⟨x,hx,h⟩
 ·rintro (⟨x,hx,h⟩|⟨x,hx,h⟩)
  ·exact ⟨x,List.mem_append_left _ hx,h⟩
  ·exact ⟨x,List.mem_append_right _ hx,h⟩
theorem no_ex {α:Type} {P:α→Prop}:(∃ x∈([]:List α),P x)↔False:=by simp
theorem fq_partsP:∀ (p:Fq) (s:Sym),p.Ok→((∃ x∈fpart p.fo,isSymP x s)↔p.hasP s.1 s.2)
 | .at_ c l,s,_=>by
   show (∃ x∈fpart (.mk 1 c (l.map Tq.tm) []),isSymP x s)↔(c=s.1∧(s.2:Int)=l.length)
   rw [fpart_mk,fparts_nil,ex_cons,no_ex,or_false]
   obtain ⟨a,n⟩:=s
   show (1=1∧(a,n)=(c,(l.map Tq.tm).length))↔_
   rw [List.length_map]
   simp only [true_and,Prod.mk.injEq]
   exact ⟨fun h=>⟨h.1.symm,by omega⟩,fun h=>⟨h.1.symm,by omega⟩⟩
 | .fa,s,_=>by
   show (∃ x∈fpart (.mk 2 .empty [] []),isSymP x s)↔False
   rw [fpart_mk,fparts_nil,ex_cons,no_ex,or_false]
   exact ⟨fun h=>(by cases h.1),fun h=>h.elim⟩
 | .f1 a,s,h=>by
   show (∃ x∈fpart (.mk 3 .empty [] [a.fo]),isSymP x s)↔a.hasP s.1 s.2
   rw [fpart_mk,fparts_cons,fparts_nil,List.append_nil,ex_cons,fq_partsP a s h]
   exact ⟨fun h=>h.elim (fun h=>by cases h.1) id,.inr⟩
 | .f2 k a b,s,h=>by
   show (∃ x∈fpart (.mk k .empty [] [a.fo,b.fo]),isSymP x s)↔(a.hasP s.1 s.2∨b.hasP s.1 s.2)
   rw [fpart_mk,fparts_cons,fparts_cons,fparts_nil,List.append_nil,ex_cons,ex_app,fq_partsP a s h.2.1,fq_partsP b s h.2.2]
   exact ⟨fun q=>q.elim (fun q=>by have h1:k=1:=q.1;have:=h.1;omega) id,.inr⟩
 | .qn k y a,s,h=>by
   show (∃ x∈fpart (.mk k y [] [a.fo]),isSymP x s)↔a.hasP s.1 s.2
   rw [fpart_mk,fparts_cons,fparts_nil,List.append_nil,ex_cons,fq_partsP a s h.2]
   exact ⟨fun q=>q.elim (fun q=>by have h1:k=1:=q.1;have:=h.1;omega) id,.inr⟩
theorem mem_predY {p:Fq} (h:p.Ok) (s:Sym):s∈predY p.fo↔p.hasP s.1 s.2:=by
 unfold predY
 rw [foldY_mem,fq_partsP p s h]
 simp
theorem fq_partsC:∀ (p:Fq) (s:Sym),p.Ok→((∃ x∈fpart p.fo,∃ t∈tparts (targs x),isSymF t s)↔p.hasC s.1 s.2)
 | .at_ c l,s,_=>by
   show (∃ x∈fpart (.mk 1 c (l.map Tq.tm) []),∃ t∈tparts (targs x),isSymF t s)↔∃ t∈l,t.hasC s.1 s.2
   rw [fpart_mk,fparts_nil,ex_cons,no_ex,or_false]
   exact tqs_parts l s
 | .fa,s,_=>by
   show (∃ x∈fpart (.mk 2 .empty [] []),∃ t∈tparts (targs x),isSymF t s)↔False
   rw [fpart_mk,fparts_nil,ex_cons,no_ex,or_false]
   show (∃ t∈tparts [],isSymF t s)↔False
   rw [tparts_nil,no_ex]
 | .f1 a,s,h=>by
   show (∃ x∈fpart (.mk 3 .empty [] [a.fo]),∃ t∈tparts (targs x),isSymF t s)↔a.hasC s.1 s.2
   rw [fpart_mk,fparts_cons,fparts_nil,List.append_nil,ex_cons,fq_partsC a s h]
   show ((∃ t∈tparts [],isSymF t s)∨_)↔_
   rw [tparts_nil,no_ex,false_or]
 | .f2 k a b,s,h=>by
   show (∃ x∈fpart (.mk k .empty [] [a.fo,b.fo]),∃ t∈tparts (targs x),isSymF t s)↔(a.hasC s.1 s.2∨b.hasC s.1 s.2)
   rw [fpart_mk,fparts_cons,fparts_cons,fparts_nil,List.append_nil,ex_cons,ex_app,fq_partsC a s h.2.1,fq_partsC b s h.2.2]
   show ((∃ t∈tparts [],isSymF t s)∨_)↔_
   rw [tparts_nil,no_ex,false_or]
 | .qn k y a,s,h=>by
   show (∃ x∈fpart (.mk k y [] [a.fo]),∃ t∈tparts (targs x),isSymF t s)↔a.hasC s.1 s.2
   rw [fpart_mk,fparts_cons,fparts_nil,List.append_nil,ex_cons,fq_partsC a s h.2]
   show ((∃ t∈tparts [],isSymF t s)∨_)↔_
   rw [tparts_nil,no_ex,false_or]
theorem mem_funY {p:Fq} (h:p.Ok) (s:Sym):s∈funY p.fo↔p.hasC s.1 s.2:=by
 unfold funY
 rw [foldZ_mem,fq_partsC p s h]
 simp
end
section
attribute [local irreducible] VW VCall VO bits
theorem i64_size (n:Int):(enc64 n).length=1:=rfl
theorem zad (n:Nat) (l:List Int):zaa n (l.flatMap enc64):=belowL_flat _ fun x=>by simp [enc64,zaa,below]
theorem fct_size (f:Fct):f.cells.length=3:=rfl
theorem fnc_size (f:Fnc):f.cells.length=3:=rfl
theorem bnd_size (f:Bnd):f.cells.length=2:=rfl
theorem fct_below (n:Nat) (f:Fct):zaa n f.cells:=by simp [Fct.cells,zaa,below]
theorem fnc_below (n:Nat) (f:Fnc):zaa n f.cells:=by simp [Fnc.cells,zaa,below,zad]
theorem bnd_below (n:Nat) (f:Bnd):zaa n f.cells:=by simp [Bnd.cells,zaa,below]
theorem zag (n:Nat) (l:List Fct):zaa n (l.flatMap Fct.cells):=belowL_flat _ (fct_below n)
theorem zaf (n:Nat) (l:List Fnc):zaa n (l.flatMap Fnc.cells):=belowL_flat _ (fnc_below n)
theorem zah (n:Nat) (l:List Bnd):zaa n (l.flatMap Bnd.cells):=belowL_flat _ (bnd_below n)
theorem fct_ex {f x:Fct} (h:x=f):∃ a b c,x=⟨a,b,c⟩∧f.cells=[.str a,.int .i64 b,.int .i64 c]:=⟨_,_,_,rfl,by rw [← h];rfl⟩
theorem fnc_ex {f x:Fnc} (h:x=f):∃ a b c,x=⟨a,b,c⟩∧f.cells=[.str a,.int .i64 b,.sl none c.length (c.flatMap enc64)]:=⟨_,_,_,rfl,by rw [← h];rfl⟩
theorem bnd_ex {f x:Bnd} (h:x=f):∃ a b,x=⟨a,b⟩∧f.cells=[.str a,.int .i64 b]:=⟨_,_,rfl,by rw [← h];rfl⟩
theorem power_c (b:Int) (e:Nat) (hb:1≤b∧b≤3) (he:e≤10) (H:Heap):VDet Tryz.prog 93 [.int .i64 b,.int .i64 e] H (.int .i64 (b ^ e)):=by
 have hp:∀ k,k≤10→1≤b ^ k∧b ^ k≤59049:=by
  intro k hk
  have h1:∀ j:Nat,1≤b ^ j∧b ^ j≤3 ^ j:=by
   intro j
   induction j with
   | zero=>simp
   | succ j ih =>
     rw [Int.pow_succ,Int.pow_succ]
     constructor
     ·have:=Int.mul_le_mul ih.1 hb.1 (by decide) (by omega)
      omega
     ·exact Int.mul_le_mul ih.2 hb.2 (by omega) (by have:(0:Int)≤3 ^ j:=Int.pow_nonneg (by decide);omega)
  have h2:(3:Int) ^ k≤3 ^ 10:=by
   have:(3:Nat) ^ k≤3 ^ 10:=Nat.pow_le_pow_right (by decide) hk
   exact_mod_cast this
  have:=h1 k
  exact ⟨this.1,by omega⟩
 refine zak Tryz.E0 Tryz.mx Tryz.func93 (by kernel_rfl) rfl (Nat.le_of_ble_eq_true rfl) rfl fun hcl hbl=>?_
 (repeat' ((conv=>whnf);(first|refine DrawN.mk' [] ?_|fail)));all_goals (conv=>whnf)
 refine za3 Tryz.E0 Tryz.mx (σ:=Nat) (fun k=>k≤e) (fun k=>e-k) (fun k=>[(5,.v (.int .i64 (b ^ k))),(7,.v (.int .i64 k))]) (fun _=>[]) _ 0 rfl hcl [0,6] rfl (Nat.zero_le _) ⟨⟨_,rfl,Wk.of_eq (congrArg (AV.int _) (Int.pow_zero b).symm)⟩,⟨_,rfl,Wk.refl _⟩,trivial⟩ rfl (fun _ _=>rfl) ?_
 intro k hk
 rcases Nat.lt_or_ge k e with hlt|hge
 ·have h1:=hp (k+1) (by omega)
  rw [Int.pow_succ] at h1
  have h2:=Int.pow_succ b k
  (repeat' ((conv=>whnf);(first|refine IfN.dT (by omega) ?_|(refine EqN.id ?_;first|(refine EqN.addN _ _ Cst.h Cst.h ?_ ?_;· omega)|refine EqN.i64 (by omega) ?_|fail)|refine DrawN.mk' [] ?_|fail)));all_goals (conv=>whnf)
  rw [← h2]
  (refine ⟨⟨k+1,by show k+1≤_;omega,by omega,?_,.inl ⟨rfl,rfl⟩,rfl,_,rfl,?_⟩⟩;rotate_left 1;(first|exact .inl rfl|exact .inr ⟨by simp [zal,below,zaa,tr,zag,zaf,zah,zad],by simp [zap,Blk.below,zaa,below,zag,zaf,zah,zad]⟩|fail);(repeat' (first|exact trivial|refine ⟨⟨_,rfl,?_⟩,?_⟩|fail));all_goals try (first|exact Wk.refl _|exact Wk.of_eq (congrArg (AV.int _) (by omega))|fail))
 ·have:k=e:=by omega
  subst this
  (repeat' ((conv=>whnf);(first|refine IfN.dF (by omega) ?_|refine DrawN.mk' [] ?_|fail)));all_goals (conv=>whnf)
  exact EndN.det trivial (Wk.refl _)
abbrev SymI:=ByteArray×Int
def symI (x:SymI):List AV:=[.str x.1,.int .i64 x.2]
def symI0:SymI:=(.empty,0)
theorem symI_size (x:SymI):(symI x).length=2:=rfl
theorem symI_below (n:Nat) (x:SymI):zaa n (symI x):=by simp [symI,zaa,below]
theorem zac (n:Nat) (l:List SymI):zaa n (l.flatMap symI):=belowL_flat _ (symI_below n)
def cSymI (x y:SymI):Int:=andC (cmpB x.1 y.1) (cmpI x.2 y.2)
theorem nan_c (a:Int) (H:Heap):VDet Tryz.prog 241 [.int .i64 a] H (.bool false):=by
 refine zak Tryz.E0 Tryz.mx Tryz.func241 (by kernel_rfl) rfl (Nat.le_of_ble_eq_true rfl) rfl fun hcl hbl=>?_
 (repeat' ((conv=>whnf);(first|refine DrawN.mk' [] ?_|fail)));all_goals (conv=>whnf)
 exact EndN.det trivial (Wk.of_eq (by simp))
theorem cmpi_c (a b:Int) (H:Heap):VDet Tryz.prog 210 [.int .i64 a,.int .i64 b] H (.int .i64 (cmpI a b)):=by
 refine zak Tryz.E0 Tryz.mx Tryz.func210 (by kernel_rfl) rfl (Nat.le_of_ble_eq_true rfl) rfl fun hcl hbl=>?_
 (repeat' ((conv=>whnf);(first|(refine IfN.id ?_;first|refine IfN.ff rfl ?_|refine IfN.dec (fun _=>?_) (fun _=>?_)|fail)|refine CallN.det _ (nan_c _ _) ?_|refine DrawN.mk' [] ?_|fail)));all_goals (conv=>whnf)
 all_goals
  refine EndN.det trivial (Wk.of_eq (congrArg (AV.int .i64) ?_))
  unfold cmpI
  repeat' split
  all_goals omega
theorem csym_c (x y:SymI) (H:Heap):VDet Tryz.prog 149 [.agg (symI x),.agg (symI y)] H (.int .i64 (cSymI x y)):=by
 obtain ⟨a,n⟩:=x
 obtain ⟨b,m⟩:=y
 have h1:=fun H=>strCmp_c a b H
 have h2:=fun H=>cmpi_c n m H
 unfold symI cSymI andC
 simp only
 by_cases hc:cmpB a b=0
 ·rw [if_pos hc]
  rw [hc] at h1
  refine zak Tryz.E0 Tryz.mx Tryz.func149 (by kernel_rfl) rfl (Nat.le_of_ble_eq_true rfl) rfl fun hcl hbl=>?_
  (repeat' ((conv=>whnf);(first|(refine IfN.id ?_;first|refine IfN.not ?_|refine IfN.tt rfl ?_|fail)|(refine CallN.id ?_;first|refine CallN.det _ (h1 _) ?_|refine CallN.det _ (h2 _) ?_|fail)|refine DrawN.mk' [] ?_|fail)));all_goals (conv=>whnf)
  exact EndN.det trivial (Wk.refl _)
 ·rw [if_neg hc]
  generalize cmpB a b=c at *
  refine zak Tryz.E0 Tryz.mx Tryz.func149 (by kernel_rfl) rfl (Nat.le_of_ble_eq_true rfl) rfl fun hcl hbl=>?_
  (repeat' ((conv=>whnf);(first|(refine IfN.id ?_;first|refine IfN.not ?_|refine IfN.dF (by omega) ?_|fail)|refine CallN.det _ (h1 _) ?_|refine DrawN.mk' [] ?_|fail)));all_goals (conv=>whnf)
  exact EndN.det trivial (Wk.refl _)
theorem key140_c (x:Fct) (H:Heap):VDet Tryz.prog 140 [.agg x.cells] H (.agg [.str x.nm,.int .i64 x.ar]):=by
 obtain ⟨u,v,z⟩:=x
 unfold Fct.cells
 refine zak Tryz.E0 Tryz.mx Tryz.func140 (by kernel_rfl) rfl (Nat.le_of_ble_eq_true rfl) rfl fun hcl hbl=>?_
 (repeat' ((conv=>whnf);(first|refine DrawN.mk' [] ?_|fail)));all_goals (conv=>whnf)
 exact EndN.det (by simp [below,zaa]) (Wk.refl _)
theorem find139_c (l:List Fct) (hl:l.length≤4611686018427387904) (s:ByteArray) (a:Int) (H:Heap):VDet Tryz.prog 139 [.sl none l.length (l.flatMap Fct.cells),.clo (.func 140) [] [],.agg [.str s,.int .i64 a]] H (.tup [.agg ((l.find? (factP s a)).getD fct0).cells,.bool (l.find? (factP s a)).isSome]):=by
 refine zak Tryz.E0 Tryz.mx Tryz.func139 (by kernel_rfl) rfl (Nat.le_of_ble_eq_true rfl) rfl fun hcl hbl=>?_
 (repeat' ((conv=>whnf);(first|refine DrawN.mk' [] ?_|fail)));all_goals (conv=>whnf)
 refine za3 Tryz.E0 Tryz.mx (σ:=Nat) (fun k=>k≤l.length∧l.find? (factP s a)=(l.drop k).find? (factP s a)) (fun k=>l.length-k) (fun k=>[(13,.v (.int .i64 k))]) (fun _=>[.box 92 [.str s,.int .i64 a],.box 95 [.str .empty,.int .i64 0,.int .i64 0]]) _ 0 rfl hcl [1,5,6,11,12] rfl ⟨Nat.zero_le _,rfl⟩ ⟨⟨_,rfl,Wk.refl _⟩,trivial⟩ rfl (fun _ _=>rfl) ?_
 rintro k ⟨hk,hinv⟩
 rcases Nat.lt_or_ge k l.length with hlt|hge
 ·have hd:=za7 l k fct0 hlt
  rw [hd,List.find?_cons] at hinv
  obtain ⟨u,v,z,hx,e1⟩:=fct_ex (f:=l.getD k fct0) rfl
  have hke:=fun H=>key140_c (l.getD k fct0) H
  rw [e1] at hke
  cases hp:factP s a (l.getD k fct0) with
  | true =>
    rw [hp] at hinv
    rw [hx] at hp hke
    have hp2:(u.toList==s.toList&&(v==a&&true))=true:=by simpa [factP] using hp
    rw [hinv]
    (repeat' ((conv=>whnf);(first|(refine IfN.id ?_;first|refine IfN.dT (by omega) ?_|refine IfN.tt (by assumption) ?_|fail)|(refine SideN.mk ?_ ?_;· first|kernel_rfl|omega|exact List.cons_ne_nil _ _|(simp;done)|(simp;omega)|exact trivial|assumption|fail)|refine CallD.det _ (fun _ hq X=>hke _) ?_|refine SegN.nthE fct0 k rfl (by omega) fct_size e1 ?_|refine DrawN.mk' [] ?_|fail)));all_goals (conv=>whnf)
    simp only [Option.getD_some,Option.isSome_some]
    rw [e1]
    exact EndN.det (by simp [below,zaa,zad]) (Wk.refl _)
  | false =>
    rw [hp] at hinv
    rw [hx] at hp hke
    have hp2:(u.toList==s.toList&&(v==a&&true))=false:=by simpa [factP] using hp
    (repeat' ((conv=>whnf);(first|(refine IfN.id ?_;first|refine IfN.dT (by omega) ?_|refine IfN.ff (by assumption) ?_|fail)|(refine EqN.addN _ _ Cst.h Cst.h ?_ ?_;· omega)|(refine SideN.mk ?_ ?_;· first|kernel_rfl|omega|exact List.cons_ne_nil _ _|(simp;done)|(simp;omega)|exact trivial|assumption|fail)|refine CallD.det _ (fun _ hq X=>hke _) ?_|refine SegN.nthE fct0 k rfl (by omega) fct_size e1 ?_|refine DrawN.mk' [] ?_|fail)));all_goals (conv=>whnf)
    (refine ⟨⟨k+1,⟨by omega,hinv⟩,by omega,?_,.inl ⟨rfl,rfl⟩,rfl,_,rfl,?_⟩⟩;rotate_left 1;(first|exact .inl rfl|exact .inr ⟨by simp [zal,below,zaa,tr,zag,zaf,zah,zad],by simp [zap,Blk.below,zaa,below,zag,zaf,zah,zad]⟩|fail);(repeat' (first|exact trivial|refine ⟨⟨_,rfl,?_⟩,?_⟩|fail));all_goals try (first|exact Wk.refl _|exact Wk.of_eq (congrArg (AV.int _) (by omega))|fail))
 ·have:k=l.length:=by omega
  subst this
  rw [List.drop_length] at hinv
  rw [hinv]
  (repeat' ((conv=>whnf);(first|refine IfN.dF (by omega) ?_|refine DrawN.mk' [] ?_|fail)));all_goals (conv=>whnf)
  simp only [List.find?_nil,Option.getD_none,Option.isSome_none]
  unfold fct0 Fct.cells
  exact EndN.det (by simp [below,zaa]) (by simp only [List.flatMap_nil,List.length_nil];(repeat' (first|exact trivial|refine And.intro ?_ ?_|exact Wk.refl _|exact wk_sl _ _ _|exact wk_sx _ _|exact wk_nils|refine wk_agg ?_|refine wk_tup ?_|fail));done)
theorem key142_c (x:Fnc) (H:Heap):VDet Tryz.prog 142 [.agg x.cells] H (.agg [.str x.nm,.int .i64 x.ar]):=by
 obtain ⟨u,v,z⟩:=x
 unfold Fnc.cells
 refine zak Tryz.E0 Tryz.mx Tryz.func142 (by kernel_rfl) rfl (Nat.le_of_ble_eq_true rfl) rfl fun hcl hbl=>?_
 (repeat' ((conv=>whnf);(first|refine DrawN.mk' [] ?_|fail)));all_goals (conv=>whnf)
 exact EndN.det (by simp [below,zaa]) (Wk.refl _)
theorem find141_c (l:List Fnc) (hl:l.length≤4611686018427387904) (s:ByteArray) (a:Int) (H:Heap):VDet Tryz.prog 141 [.sl none l.length (l.flatMap Fnc.cells),.clo (.func 142) [] [],.agg [.str s,.int .i64 a]] H (.tup [.agg ((l.find? (funcP s a)).getD fnc0).cells,.bool (l.find? (funcP s a)).isSome]):=by
 refine zak Tryz.E0 Tryz.mx Tryz.func141 (by kernel_rfl) rfl (Nat.le_of_ble_eq_true rfl) rfl fun hcl hbl=>?_
 (repeat' ((conv=>whnf);(first|refine DrawN.mk' [] ?_|fail)));all_goals (conv=>whnf)
 refine za3 Tryz.E0 Tryz.mx (σ:=Nat) (fun k=>k≤l.length∧l.find? (funcP s a)=(l.drop k).find? (funcP s a)) (fun k=>l.length-k) (fun k=>[(13,.v (.int .i64 k))]) (fun _=>[.box 92 [.str s,.int .i64 a],.box 97 [.str .empty,.int .i64 0,.nils]]) _ 0 rfl hcl [1,5,6,11,12] rfl ⟨Nat.zero_le _,rfl⟩ ⟨⟨_,rfl,Wk.refl _⟩,trivial⟩ rfl (fun _ _=>rfl) ?_
 rintro k ⟨hk,hinv⟩
 rcases Nat.lt_or_ge k l.length with hlt|hge
 ·have hd:=za7 l k fnc0 hlt
  rw [hd,List.find?_cons] at hinv
  obtain ⟨u,v,z,hx,e1⟩:=fnc_ex (f:=l.getD k fnc0) rfl
  have hke:=fun H=>key142_c (l.getD k fnc0) H
  rw [e1] at hke
  cases hp:funcP s a (l.getD k fnc0) with
  | true =>
    rw [hp] at hinv
    rw [hx] at hp hke
    have hp2:(u.toList==s.toList&&(v==a&&true))=true:=by simpa [funcP] using hp
    rw [hinv]
    (repeat' ((conv=>whnf);(first|(refine IfN.id ?_;first|refine IfN.dT (by omega) ?_|refine IfN.tt (by assumption) ?_|fail)|(refine SideN.mk ?_ ?_;· first|kernel_rfl|omega|exact List.cons_ne_nil _ _|(simp;done)|(simp;omega)|exact trivial|assumption|fail)|refine CallD.det _ (fun _ hq X=>hke _) ?_|refine SegN.nthE fnc0 k rfl (by omega) fnc_size e1 ?_|refine DrawN.mk' [] ?_|fail)));all_goals (conv=>whnf)
    simp only [Option.getD_some,Option.isSome_some]
    rw [e1]
    exact EndN.det (by simp [below,zaa,zad]) (Wk.refl _)
  | false =>
    rw [hp] at hinv
    rw [hx] at hp hke
    have hp2:(u.toList==s.toList&&(v==a&&true))=false:=by simpa [funcP] using hp
    (repeat' ((conv=>whnf);(first|(refine IfN.id ?_;first|refine IfN.dT (by omega) ?_|refine IfN.ff (by assumption) ?_|fail)|(refine EqN.addN _ _ Cst.h Cst.h ?_ ?_;· omega)|(refine SideN.mk ?_ ?_;· first|kernel_rfl|omega|exact List.cons_ne_nil _ _|(simp;done)|(simp;omega)|exact trivial|assumption|fail)|refine CallD.det _ (fun _ hq X=>hke _) ?_|refine SegN.nthE fnc0 k rfl (by omega) fnc_size e1 ?_|refine DrawN.mk' [] ?_|fail)));all_goals (conv=>whnf)
    (refine ⟨⟨k+1,⟨by omega,hinv⟩,by omega,?_,.inl ⟨rfl,rfl⟩,rfl,_,rfl,?_⟩⟩;rotate_left 1;(first|exact .inl rfl|exact .inr ⟨by simp [zal,below,zaa,tr,zag,zaf,zah,zad],by simp [zap,Blk.below,zaa,below,zag,zaf,zah,zad]⟩|fail);(repeat' (first|exact trivial|refine ⟨⟨_,rfl,?_⟩,?_⟩|fail));all_goals try (first|exact Wk.refl _|exact Wk.of_eq (congrArg (AV.int _) (by omega))|fail))
 ·have:k=l.length:=by omega
  subst this
  rw [List.drop_length] at hinv
  rw [hinv]
  (repeat' ((conv=>whnf);(first|refine IfN.dF (by omega) ?_|refine DrawN.mk' [] ?_|fail)));all_goals (conv=>whnf)
  simp only [List.find?_nil,Option.getD_none,Option.isSome_none]
  unfold fnc0 Fnc.cells
  exact EndN.det (by simp [below,zaa]) (by simp only [List.flatMap_nil,List.length_nil];(repeat' (first|exact trivial|refine And.intro ?_ ?_|exact Wk.refl _|exact wk_sl _ _ _|exact wk_sx _ _|exact wk_nils|refine wk_agg ?_|refine wk_tup ?_|fail));done)
theorem key144_c (x:Bnd) (H:Heap):VDet Tryz.prog 144 [.agg x.cells] H (.str x.nm):=by
 obtain ⟨u,v⟩:=x
 unfold Bnd.cells
 refine zak Tryz.E0 Tryz.mx Tryz.func144 (by kernel_rfl) rfl (Nat.le_of_ble_eq_true rfl) rfl fun hcl hbl=>?_
 (repeat' ((conv=>whnf);(first|refine DrawN.mk' [] ?_|fail)));all_goals (conv=>whnf)
 exact EndN.det (by simp [below,zaa]) (Wk.refl _)
theorem find143_c (l:List Bnd) (hl:l.length≤4611686018427387904) (s:ByteArray) (H:Heap):VDet Tryz.prog 143 [.sl none l.length (l.flatMap Bnd.cells),.clo (.func 144) [] [],.str s] H (.tup [.agg ((l.find? (bindP s)).getD bnd0).cells,.bool (l.find? (bindP s)).isSome]):=by
 refine zak Tryz.E0 Tryz.mx Tryz.func143 (by kernel_rfl) rfl (Nat.le_of_ble_eq_true rfl) rfl fun hcl hbl=>?_
 (repeat' ((conv=>whnf);(first|refine DrawN.mk' [] ?_|fail)));all_goals (conv=>whnf)
 refine za3 Tryz.E0 Tryz.mx (σ:=Nat) (fun k=>k≤l.length∧l.find? (bindP s)=(l.drop k).find? (bindP s)) (fun k=>l.length-k) (fun k=>[(13,.v (.int .i64 k))]) (fun _=>[.box 99 [.str .empty,.int .i64 0]]) _ 0 rfl hcl [1,2,6,11,12] rfl ⟨Nat.zero_le _,rfl⟩ ⟨⟨_,rfl,Wk.refl _⟩,trivial⟩ rfl (fun _ _=>rfl) ?_
 rintro k ⟨hk,hinv⟩
 rcases Nat.lt_or_ge k l.length with hlt|hge
 ·have hd:=za7 l k bnd0 hlt
  rw [hd,List.find?_cons] at hinv
  obtain ⟨u,v,hx,e1⟩:=bnd_ex (f:=l.getD k bnd0) rfl
  have hke:=fun H=>key144_c (l.getD k bnd0) H
  rw [e1] at hke
  cases hp:bindP s (l.getD k bnd0) with
  | true =>
    rw [hp] at hinv
    rw [hx] at hp hke
    have hp2:(u.toList==s.toList)=true:=by simpa [bindP] using hp
    rw [hinv]
    (repeat' ((conv=>whnf);(first|(refine IfN.id ?_;first|refine IfN.dT (by omega) ?_|refine IfN.tt (by assumption) ?_|fail)|(refine SideN.mk ?_ ?_;· first|kernel_rfl|omega|exact List.cons_ne_nil _ _|(simp;done)|(simp;omega)|exact trivial|assumption|fail)|refine CallN.det _ (hke _) ?_|refine SegN.nthE bnd0 k rfl (by omega) bnd_size e1 ?_|refine DrawN.mk' [] ?_|fail)));all_goals (conv=>whnf)
    simp only [Option.getD_some,Option.isSome_some]
    rw [e1]
    exact EndN.det (by simp [below,zaa,zad]) (Wk.refl _)
  | false =>
    rw [hp] at hinv
    rw [hx] at hp hke
    have hp2:(u.toList==s.toList)=false:=by simpa [bindP] using hp
    (repeat' ((conv=>whnf);(first|(refine IfN.id ?_;first|refine IfN.dT (by omega) ?_|refine IfN.ff (by assumption) ?_|fail)|(refine EqN.addN _ _ Cst.h Cst.h ?_ ?_;· omega)|(refine SideN.mk ?_ ?_;· first|kernel_rfl|omega|exact List.cons_ne_nil _ _|(simp;done)|(simp;omega)|exact trivial|assumption|fail)|refine CallN.det _ (hke _) ?_|refine SegN.nthE bnd0 k rfl (by omega) bnd_size e1 ?_|refine DrawN.mk' [] ?_|fail)));all_goals (conv=>whnf)
    (refine ⟨⟨k+1,⟨by omega,hinv⟩,by omega,?_,.inl ⟨rfl,rfl⟩,rfl,_,rfl,?_⟩⟩;rotate_left 1;(first|exact .inl rfl|exact .inr ⟨by simp [zal,below,zaa,tr,zag,zaf,zah,zad],by simp [zap,Blk.below,zaa,below,zag,zaf,zah,zad]⟩|fail);(repeat' (first|exact trivial|refine ⟨⟨_,rfl,?_⟩,?_⟩|fail));all_goals try (first|exact Wk.refl _|exact Wk.of_eq (congrArg (AV.int _) (by omega))|fail))
 ·have:k=l.length:=by omega
  subst this
  rw [List.drop_length] at hinv
  rw [hinv]
  (repeat' ((conv=>whnf);(first|refine IfN.dF (by omega) ?_|refine DrawN.mk' [] ?_|fail)));all_goals (conv=>whnf)
  simp only [List.find?_nil,Option.getD_none,Option.isSome_none]
  unfold bnd0 Bnd.cells
  exact EndN.det (by simp [below,zaa]) (by simp only [List.flatMap_nil,List.length_nil];(repeat' (first|exact trivial|refine And.intro ?_ ?_|exact Wk.refl _|exact wk_sl _ _ _|exact wk_sx _ _|exact wk_nils|refine wk_agg ?_|refine wk_tup ?_|fail));done)
end
section
attribute [local irreducible] VW VCall VO bits
structure VClo (r:Val) (k:FuncId) (cs:List AV):Prop where
 c:∀ (nm:ByteArray) (H:Heap),VDet Tryz.prog k (.str nm::cs) H (.int .i64 (r nm))
 low:zaa 0 cs
theorem VClo.below {r:Val} {k:FuncId} {cs:List AV} (h:VClo r k cs) (n:Nat):zaa n cs:=zba (Nat.zero_le n) _ h.low
theorem mdl_ex (m:Mdl):∃ k s rn rc lo fn fc un uc bn bc,m.cells=[.int .u8 k,.int .i64 s,.sl none rn rc,.int .i64 lo,.sl none fn fc,.sl none un uc,.sl none bn bc]∧(∀ n,zaa n rc∧zaa n fc∧zaa n uc∧zaa n bc):=⟨_,_,_,_,_,_,_,_,_,_,_,rfl,fun n=>⟨zad n _,zag n _,zaf n _,zah n _⟩⟩
theorem with_c (k:FuncId) (cs:List AV) (hbc:∀ n,zaa n cs) (x:ByteArray) (a:Int) (H:Heap):VDet Tryz.prog 154 [.clo (.func k) [] cs,.str x,.int .i64 a] H (.clo (.func 213) [] [.rptr [.str x],.rptr [.int .i64 a],.rptr [.clo (.func k) [] cs]]):=by
 refine zak Tryz.E0 Tryz.mx Tryz.func154 (by kernel_rfl) rfl (Nat.le_of_ble_eq_true rfl) rfl fun hcl hbl=>?_
 (repeat' ((conv=>whnf);(first|refine DrawN.mk' [] ?_|fail)));all_goals (conv=>whnf)
 refine EndN.detF (u':=.clo (.func 213) [] [.rptr [.str x],.rptr [.int .i64 a],.rptr [.clo (.func k) [] cs]]) ?_ ?_ (Wk.refl _)
 ·simp [below,zaa,fnBelow,hbc]
 ·repeat' (first|exact FrzL.nil|refine FrzL.cons ?_ ?_|refine Frz.sx ?_|refine Frz.clo ?_ ?_|refine Frz.agg ?_|refine Frz.tup ?_|refine Frz.ptr rfl rfl (FrzL.refl _)|refine Frz.ms (by exact rfl) (by exact rfl) (FrzL.refl _)|exact Frz.refl _|fail)
theorem with1_c {r:Val} {k:FuncId} {cs:List AV} (hv:VClo r k cs) (x:ByteArray) (a:Int):VClo (upd r x a) 213 [.rptr [.str x],.rptr [.int .i64 a],.rptr [.clo (.func k) [] cs]]:=by
 refine ⟨fun nm H=>?_,by simp [below,zaa,fnBelow,hv.low]⟩
 have hc:=fun H=>hv.c nm H
 have hbc:=hv.below
 unfold upd
 by_cases hx:nm=x
 ·rw [if_pos hx]
  have hx2:(nm.toList==x.toList)=true:=ba_eq.2 hx
  refine zak Tryz.E0 Tryz.mx Tryz.func213 (by kernel_rfl) rfl (Nat.le_of_ble_eq_true rfl) rfl fun hcl hbl=>?_
  (repeat' ((conv=>whnf);(first|refine IfN.tt (by assumption) ?_|refine DrawN.mk' [] ?_|fail)));all_goals (conv=>whnf)
  exact EndN.det trivial (Wk.refl _)
 ·rw [if_neg hx]
  have hx2:(nm.toList==x.toList)=false:=by
   rw [Bool.eq_false_iff]
   exact fun h=>hx (ba_eq.1 h)
  refine zak Tryz.E0 Tryz.mx Tryz.func213 (by kernel_rfl) rfl (Nat.le_of_ble_eq_true rfl) rfl fun hcl hbl=>?_
  (repeat' ((conv=>whnf);(first|refine IfN.ff (by assumption) ?_|refine CallN.det _ (hc _) ?_|refine DrawN.mk' [] ?_|fail)));all_goals (conv=>whnf)
  exact EndN.det trivial (Wk.refl _)
structure Mdl.Sm (m:Mdl):Prop where
 rel:m.rel.length≤4611686018427387904
 facts:m.facts.length≤1000000
 funcs:m.funcs.length≤1000000
 binds:m.binds.length≤1000000
 vals:∀ f∈m.funcs,f.vl.length≤4611686018427387904
theorem valuesOf_c (m:Mdl) (H:Heap):VDet Tryz.prog 76 [.agg m.cells] H (.clo (.func 155) [] [.rptr m.cells]):=by
 obtain ⟨k,s,rn,rc,lo,fn,fc,un,uc,bn,bc,hc,hb⟩:=mdl_ex m
 rw [hc]
 refine zak Tryz.E0 Tryz.mx Tryz.func76 (by kernel_rfl) rfl (Nat.le_of_ble_eq_true rfl) rfl fun hcl hbl=>?_
 (repeat' ((conv=>whnf);(first|refine DrawN.mk' [] ?_|fail)));all_goals (conv=>whnf)
 refine EndN.detF (u':=.clo (.func 155) [] [.rptr [.int .u8 k,.int .i64 s,.sl none rn rc,.int .i64 lo,.sl none fn fc,.sl none un uc,.sl none bn bc]]) ?_ ?_ (Wk.refl _)
 ·simp [below,zaa,fnBelow,hb]
 ·repeat' (first|exact FrzL.nil|refine FrzL.cons ?_ ?_|refine Frz.sx ?_|refine Frz.clo ?_ ?_|refine Frz.agg ?_|refine Frz.tup ?_|refine Frz.ptr rfl rfl (FrzL.refl _)|refine Frz.ms (by exact rfl) (by exact rfl) (FrzL.refl _)|exact Frz.refl _|fail)
theorem values_c (m:Mdl) (hm:m.Sm):VClo (bindF m) 155 [.rptr m.cells]:=by
 refine ⟨fun nm H=>?_,?_⟩
 ·have hf:=fun H=>find143_c m.binds (by have:=hm.binds;omega) nm H
  unfold bindF
  obtain ⟨u,v,hx,e1⟩:=bnd_ex (f:=(m.binds.find? (bindP nm)).getD bnd0) rfl
  rw [e1] at hf
  rw [hx] at *
  generalize (m.binds.find? (bindP nm)).isSome=b at *
  unfold Mdl.cells
  refine zak Tryz.E0 Tryz.mx Tryz.func155 (by kernel_rfl) rfl (Nat.le_of_ble_eq_true rfl) rfl fun hcl hbl=>?_
  (repeat' ((conv=>whnf);(first|refine CallN.det _ (hf _) ?_|refine DrawN.mk' [] ?_|fail)));all_goals (conv=>whnf)
  exact EndN.det trivial (Wk.refl _)
 ·obtain ⟨k,s,rn,rc,lo,fn,fc,un,uc,bn,bc,hc,hb⟩:=mdl_ex m
  rw [hc]
  simp [below,zaa,fnBelow,hb]
end
section
attribute [local irreducible] VW VCall VO bits
theorem value_c (m:Mdl) (hm:m.Sm) (n:Nat) (hv:VM m n):∀ (t:Tq) {r:Val} {k:FuncId} {cs:List AV},VClo r k cs→(∀ x,t.hasV x→0≤r x∧r x<n)→(∀ s a,t.hasC s a→hasFnc m s a)→∀ H,VDet Tryz.prog 119 [.agg m.cells,.agg t.tm.cells,.clo (.func k) [] cs] H (.int .i64 (tv m r t))
 | .vr s,r,k,cs,hc,h1,h2,H=>by
   have hcc:=fun H=>hc.c s H
   have hbc:=hc.below
   obtain ⟨e1,e2,e3,e4,e5,e6,e7,e8,e9,e10,e11,hmc,hb⟩:=mdl_ex m
   rw [hmc]
   show VDet Tryz.prog 119 [_,.agg (Tm.mk true s []).cells,_] H (.int .i64 (r s))
   rw [Tm.cells_mk]
   simp only [List.length_nil,List.flatMap_nil]
   refine zak Tryz.E0 Tryz.mx Tryz.func119 (by kernel_rfl) rfl (Nat.le_of_ble_eq_true rfl) rfl fun hcl hbl=>?_
   (repeat' ((conv=>whnf);(first|refine IfN.tt rfl ?_|refine CallN.det _ (hcc _) ?_|refine DrawN.mk' [] ?_|fail)));all_goals (conv=>whnf)
   exact EndN.det trivial (Wk.refl _)
 | .cn s,r,k,cs,hc,h1,h2,H=>by
   have hbc:=hc.below
   have hhas:=h2 s 0 ⟨rfl,rfl⟩
   obtain ⟨q1,-,q3⟩:=func_in hhas
   obtain ⟨-,hl,-⟩:=hv.funcs _ q1
   rw [q3] at hl
   have hl:(funcF m s 0).vl.length=1:=hl
   have hf:=fun H=>find141_c m.funcs (by have:=hm.funcs;omega) s 0 H
   have htv:tv m r (.cn s)=(funcF m s 0).vl.getD 0 0:=rfl
   have hff:(m.funcs.find? (funcP s 0)).getD fnc0=funcF m s 0:=rfl
   rw [hff] at hf
   rw [htv]
   generalize (m.funcs.find? (funcP s 0)).isSome=b at *
   generalize funcF m s 0=F at *
   obtain ⟨u,v,z⟩:=F
   simp only at hl ⊢
   show VDet Tryz.prog 119 [_,.agg (Tm.mk false s []).cells,_] H _
   rw [Tm.cells_mk]
   unfold Mdl.cells
   unfold Fnc.cells at hf
   simp only [List.length_nil,List.flatMap_nil] at *
   have ez:enc64 (z.getD 0 0)=[.int .i64 (z.getD 0 0)]:=rfl
   refine zak Tryz.E0 Tryz.mx Tryz.func119 (by kernel_rfl) rfl (Nat.le_of_ble_eq_true rfl) rfl fun hcl hbl=>?_
   (repeat' ((conv=>whnf);(first|(refine IfN.id ?_;first|refine IfN.tt rfl ?_|refine IfN.ff rfl ?_|fail)|(refine SideN.mk ?_ ?_;· first|kernel_rfl|omega|exact List.cons_ne_nil _ _|(simp;done)|(simp;omega)|exact trivial|assumption|fail)|refine CallN.det _ (hf _) ?_|refine SegN.nthE 0 0 rfl (by omega) i64_size ez ?_|refine DrawN.mk' [] ?_|fail)));all_goals (conv=>whnf)
   exact EndN.det trivial (Wk.refl _)
 | .ap s t,r,k,cs,hc,h1,h2,H=>by
   have hbc:=hc.below
   have hhas:=h2 s 1 (.inl ⟨rfl,rfl⟩)
   have ih:=value_c m hm n hv t hc h1 fun s a h=>h2 s a (.inr h)
   have hin:=tv_in hv t h1 fun s a h=>h2 s a (.inr h)
   obtain ⟨q1,-,q3⟩:=func_in hhas
   obtain ⟨-,hl,-⟩:=hv.funcs _ q1
   rw [q3] at hl
   have hl:(funcF m s 1).vl.length=n:=hl.trans (Nat.pow_one n)
   have hf:=fun H=>find141_c m.funcs (by have:=hm.funcs;omega) s 1 H
   have htv:tv m r (.ap s t)=(funcF m s 1).vl.getD (tv m r t).toNat 0:=rfl
   have hff:(m.funcs.find? (funcP s 1)).getD fnc0=funcF m s 1:=rfl
   rw [hff] at hf
   rw [htv]
   generalize (m.funcs.find? (funcP s 1)).isSome=b at *
   generalize funcF m s 1=F at *
   obtain ⟨u,v,z⟩:=F
   simp only at hl ⊢
   show VDet Tryz.prog 119 [_,.agg (Tm.mk false s [t.tm]).cells,_] H _
   rw [Tm.cells_mk]
   unfold Mdl.cells at *
   unfold Fnc.cells at hf
   obtain ⟨i,hi⟩:∃ i:Nat,tv m r t=i:=⟨(tv m r t).toNat,by omega⟩
   rw [hi] at ih hin ⊢
   rw [Int.toNat_natCast]
   have ez:enc64 (z.getD i 0)=[.int .i64 (z.getD i 0)]:=rfl
   have ht1:Tm.cells (([t.tm]:List Tm).getD 0 (Tm.mk false .empty []))=t.tm.cells:=rfl
   obtain ⟨w1,w2,w3,w4,hw⟩:∃ w1 w2 w3 w4,t.tm.cells=[.bool w1,.str w2,.sl none w3 w4]:=by
    cases t.tm with
    | mk a b c=>exact ⟨_,_,_,_,Tm.cells_mk a b c⟩
   rw [hw] at ih ht1
   simp only [List.length_cons,List.length_nil] at *
   refine zak Tryz.E0 Tryz.mx Tryz.func119 (by kernel_rfl) rfl (Nat.le_of_ble_eq_true rfl) rfl fun hcl hbl=>?_
   (repeat' ((conv=>whnf);(first|refine IfN.ff rfl ?_|(refine SideN.mk ?_ ?_;· first|kernel_rfl|omega|exact List.cons_ne_nil _ _|(simp;done)|(simp;omega)|exact trivial|assumption|fail)|refine CallN.det _ (hf _) ?_|refine CallD.det _ (fun _ hq X=>ih _) ?_|refine SegN.nthE 0 i rfl (by omega) i64_size ez ?_|refine SegN.nthE (Tm.mk false .empty []) 0 rfl (by simp) tm_size ht1 ?_|refine DrawN.mk' [] ?_|fail)));all_goals (conv=>whnf)
   exact EndN.det trivial (Wk.refl _)
end
section
attribute [local irreducible] VW VCall VO bits
theorem take_snocD {α:Type} (l:List α) (d:α) (k:Nat) (h:k<l.length):l.take (k+1)=l.take k++[l.getD k d]:=by
 rw [List.take_succ_eq_append_getElem h]
 simp [List.getElem?_eq_getElem h]
theorem bit_iff (T B:Nat):((T >>> B) &&& 1=1)↔T.testBit B=true:=by
 unfold Nat.testBit
 rw [Nat.and_comm 1,Nat.and_one_is_mod]
 rcases Nat.mod_two_eq_zero_or_one (T >>> B) with h|h <;> rw [h] <;> simp
theorem bitF_snoc (n:Int) (l:List Int) (v:Int):bitF n (l++[v])=bitF n l * n+v:=by
 unfold bitF
 rw [List.foldl_append]
 rfl
theorem bitF_bd {n:Nat} (hn:0<n∧n≤3) (l:List Int) (h:∀ v∈l,0≤v∧v<n) (hl:l.length≤2):0≤bitF n l∧bitF n l≤8:=by
 rw [bit_num n l fun v hv=>(h v hv).1]
 have h1:=num_lt hn.1 (l.map Int.toNat) fun v hv=>by
  obtain ⟨u,hu,rfl⟩:=List.mem_map.1 hv
  have:=h u hu
  omega
 rw [List.length_map] at h1
 have h2:n ^ l.length≤3 ^ 2:=Nat.le_trans (Nat.pow_le_pow_left hn.2 _) (Nat.pow_le_pow_right (by decide) hl)
 omega
theorem atom_c (m:Mdl) (hm:m.Sm) (n:Nat) (hv:VM m n) (s:ByteArray) (l:List Tq) (hl2:l.length≤2) {r:Val} {k:FuncId} {cs:List AV} (hc:VClo r k cs) (h1:∀ t∈l,∀ x,t.hasV x→0≤r x∧r x<n) (h2:∀ t∈l,∀ s a,t.hasC s a→hasFnc m s a) (h3:hasFct m s l.length) (H:Heap):VDet Tryz.prog 153 [.agg m.cells,.agg (Fq.at_ s l).fo.cells,.clo (.func k) [] cs] H (.bool (av m r s l)):=by
 have hbc:=hc.below
 obtain ⟨q1,-,q3⟩:=fact_in h3
 obtain ⟨-,ht0,ht1⟩:=hv.facts _ q1
 rw [q3] at ht1
 have hf:=fun H=>find139_c m.facts (by have:=hm.facts;omega) s l.length H
 have hff:(m.facts.find? (factP s l.length)).getD fct0=factF m s l.length:=rfl
 rw [hff] at hf
 have hav:av m r s l=bitAt (factF m s l.length).tr (bitF m.size (l.map (tv m r))):=rfl
 rw [hav]
 have htv:∀ t∈l,∀ H,VDet Tryz.prog 119 [.agg m.cells,.agg t.tm.cells,.clo (.func k) [] cs] H (.int .i64 (tv m r t)):=fun t ht=>value_c m hm n hv t hc (h1 t ht) (h2 t ht)
 have hin:∀ t∈l,0≤tv m r t∧tv m r t<n:=fun t ht=>tv_in hv t (h1 t ht) (h2 t ht)
 have hns:=hv.size
 have hn3:0<n∧n≤3:=⟨hv.pos,hv.le⟩
 have hpow:n ^ l.length≤9:=Nat.le_trans (Nat.pow_le_pow_left hn3.2 _) (Nat.le_trans (Nat.pow_le_pow_right (by decide) hl2) (by decide:3 ^ 2≤9))
 have hp2:2 ^ n ^ l.length≤2 ^ 9:=Nat.pow_le_pow_right (by decide) hpow
 simp only [Int.toNat_natCast] at ht1
 generalize (m.facts.find? (factP s l.length)).isSome=b at *
 generalize factF m s l.length=F at *
 obtain ⟨u,v,z⟩:=F
 obtain ⟨T,hT⟩:∃ T:Nat,z=T:=⟨z.toNat,by simp only at ht0;omega⟩
 subst hT
 simp only [Int.toNat_natCast] at ht1
 have hTb:T<512:=Nat.lt_of_lt_of_le ht1 hp2
 unfold Fct.cells at hf
 simp only at hf ⊢
 show VDet Tryz.prog 153 [_,.agg (Fo.mk 1 s (l.map Tq.tm) []).cells,_] H _
 rw [Fo.cells_mk]
 unfold Mdl.cells at *
 simp only [hns] at htv ⊢
 simp only [List.length_nil,List.flatMap_nil,List.length_map] at *
 have hbd:∀ j,j≤l.length→0≤bitF n ((l.take j).map (tv m r))∧bitF n ((l.take j).map (tv m r))≤8:=fun j hj=>bitF_bd hn3 _ (fun v hv2=>by
  obtain ⟨t,ht,rfl⟩:=List.mem_map.1 hv2
  exact hin t (List.mem_of_mem_take ht)) (by rw [List.length_map,List.length_take];omega)
 refine zak Tryz.E0 Tryz.mx Tryz.func153 (by kernel_rfl) rfl (Nat.le_of_ble_eq_true rfl) rfl fun hcl hbl=>?_
 (repeat' ((conv=>whnf);(first|refine CallN.det _ (hf _) ?_|refine DrawN.mk' [] ?_|fail)));all_goals (conv=>whnf)
 refine za3 Tryz.E0 Tryz.mx (σ:=Nat) (fun j=>j≤l.length) (fun j=>l.length-j) (fun j=>[(9,.v (.int .i64 (bitF n ((l.take j).map (tv m r))))),(27,.v (.int .i64 j))]) (fun _=>_) _ 0 rfl hcl [2,3,7,25,26] rfl (Nat.zero_le _) ⟨⟨_,rfl,Wk.refl _⟩,⟨_,rfl,Wk.refl _⟩,trivial⟩ rfl (fun _ _=>rfl) ?_
 intro j hj
 rcases Nat.lt_or_ge j l.length with hlt|hge
 ·have hts:=take_snocD l (Tq.vr .empty) j hlt
  have htm:=zas l j (.vr .empty) hlt
  have hvt:=htv _ htm
  have hit:=hin _ htm
  have h0:=hbd j hj
  have h5:=hbd (j+1) (by omega)
  have hst:bitF n ((l.take (j+1)).map (tv m r))=bitF n ((l.take j).map (tv m r)) * n+tv m r (l.getD j (.vr .empty)):=by
   rw [hts,List.map_append,← bitF_snoc]
   rfl
  have hg:(l.map Tq.tm).getD j (Tm.mk false .empty [])=(l.getD j (.vr .empty)).tm:=by
   simp [List.getElem?_eq_getElem hlt]
  obtain ⟨w1,w2,w3,w4,hw⟩:∃ w1 w2 w3 w4,((l.map Tq.tm).getD j (Tm.mk false .empty [])).cells=[.bool w1,.str w2,.sl none w3 w4]:=by
   cases ((l.map Tq.tm).getD j (Tm.mk false .empty [])) with
   | mk a b c=>exact ⟨_,_,_,_,Tm.cells_mk a b c⟩
  rw [← hg,hw] at hvt
  rw [hst] at h5
  generalize tv m r (l.getD j (.vr .empty))=vt at *
  generalize hB:bitF n ((l.take j).map (tv m r))=B at *
  have hmul:0≤B * (n:Int)∧B * (n:Int)≤8:=by
   constructor
   ·exact Int.mul_nonneg h0.1 (by omega)
   ·omega
  (repeat' ((conv=>whnf);(first|refine IfN.dT (by omega) ?_|(refine EqN.id ?_;first|(refine EqN.addN _ _ Cst.h Cst.h ?_ ?_;· omega)|refine EqN.i64 (by omega) ?_|fail)|(refine SideN.mk ?_ ?_;· first|kernel_rfl|omega|exact List.cons_ne_nil _ _|(simp;done)|(simp;omega)|exact trivial|assumption|fail)|refine CallD.det _ (fun _ hq X=>hvt _) ?_|refine SegN.nthE (Tm.mk false .empty []) j rfl (by rw [List.length_map];omega) tm_size hw ?_|refine DrawN.mk' [] ?_|fail)));all_goals (conv=>whnf)
  rw [← hst]
  (refine ⟨⟨j+1,by show j+1≤_;omega,by omega,?_,.inl ⟨rfl,rfl⟩,rfl,_,rfl,?_⟩⟩;rotate_left 1;(first|exact .inl rfl|exact .inr ⟨by simp [zal,below,zaa,tr,zag,zaf,zah,zad,zai,zaj,hbc],by simp [zap,Blk.below,zaa,below,zag,zaf,zah,zad,zai,zaj,hbc]⟩|fail);(repeat' (first|exact trivial|refine ⟨⟨_,rfl,?_⟩,?_⟩|fail));all_goals try (first|exact Wk.refl _|exact Wk.of_eq (congrArg (AV.int _) (by omega))|fail))
 ·have:j=l.length:=by omega
  subst this
  have h0:=hbd l.length hj
  rw [List.take_length] at h0 ⊢
  obtain ⟨B,hB⟩:∃ B:Nat,bitF n (l.map (tv m r))=B:=⟨(bitF n (l.map (tv m r))).toNat,by omega⟩
  rw [hB] at h0 ⊢
  have hbt:bitAt (T:Int) (B:Int)=T.testBit B:=by
   unfold bitAt
   rw [Int.toNat_natCast,Int.toNat_natCast]
  rw [hbt]
  have hbi:=bit_iff T B
  (repeat' ((conv=>whnf);(first|refine IfN.dF (by omega) ?_|(refine EqN.id ?_;first|(refine EqN.and _ _ Cst.h Cst.h ?_ ?_;· (repeat' (first|omega|refine And.intro ?_ ?_|exact za4 (by omega)|exact bnd_andr (by omega)|refine bnd_or ?_ ?_|refine bnd_or31 ?_ ?_|refine bnd_xor ?_ ?_|refine bnd_xor31 ?_ ?_|refine bnd_shr ?_|refine bnd_shl ?_ ?_|refine bnd_mod ?_|refine za4 ?_|fail)))|(refine EqN.shrN _ _ Cst.h Cst.h rfl ?_ ?_;· (repeat' (first|omega|refine And.intro ?_ ?_|exact za4 (by omega)|exact bnd_andr (by omega)|refine bnd_or ?_ ?_|refine bnd_or31 ?_ ?_|refine bnd_xor ?_ ?_|refine bnd_xor31 ?_ ?_|refine bnd_shr ?_|refine bnd_shl ?_ ?_|refine bnd_mod ?_|refine za4 ?_|fail)))|fail)|(refine SideN.mk ?_ ?_;· first|kernel_rfl|omega|exact List.cons_ne_nil _ _|(simp;done)|(simp;omega)|exact trivial|assumption|fail)|refine DrawN.mk' [] ?_|fail)));all_goals (conv=>whnf)
  refine EndN.det trivial (Wk.of_eq (congrArg AV.bool ?_))
  rw [Bool.eq_iff_iff,beq_iff_eq,← hbi]
  omega
end
section
attribute [local irreducible] VW VCall VO bits
theorem fo_ex4 (f:Fo):∃ a b c1 c d1 d,f.cells=[.int .u8 (a:Nat),.str b,.sl none c1 c,.sl none d1 d]∧∀ n,zaa n c∧zaa n d:=by
 cases f with
 | mk a b c d=>exact ⟨_,_,_,_,_,_,Fo.cells_mk a b c d,fun n=>⟨zai n c,zaj n d⟩⟩
theorem part_c (mc:List AV) (hmx:∃ e1 e2 e3 e4 e5 e6 e7 e8 e9 e10 e11,mc=[.int .u8 e1,.int .i64 e2,.sl none e3 e4,.int .i64 e5,.sl none e6 e7,.sl none e8 e9,.sl none e10 e11]) (op:Nat) (x:ByteArray) (tn:Nat) (tc:List AV) (l:List Fo) (hl:l.length≤2) (cv:AV) (i:Nat) (hi:i<l.length) (v:Bool) (hc:∀ H,VDet Tryz.prog 75 [.agg mc,.agg (l.getD i fo0).cells,cv] H (.bool v)) (hcv:∃ k cs,cv=.clo (.func k) [] cs) (H:Heap) (p1 p2 p3:Nat) (h1:H[p1]? = some (.box 37 mc)) (h2:H[p2]? = some (.box 29 [.int .u8 op,.str x,.sl none tn tc,.sl none l.length (l.flatMap Fo.cells)])) (h3:H[p3]? = some (.box 121 [cv])):VDet Tryz.prog 152 [.int .i64 i,.ptr p1 0,.ptr p2 0,.ptr p3 0] H (.bool v):=by
 obtain ⟨e1,e2,e3,e4,e5,e6,e7,e8,e9,e10,e11,rfl⟩:=hmx
 obtain ⟨k,cs,rfl⟩:=hcv
 obtain ⟨a,b,c1,c,d1,d,hw,hb⟩:=fo_ex4 (l.getD i fo0)
 rw [hw] at hc
 refine zak Tryz.E0 Tryz.mx Tryz.func152 (by kernel_rfl) rfl (Nat.le_of_ble_eq_true rfl) rfl fun hcl hbl=>?_
 (repeat' ((conv=>whnf);(first|(refine SideN.mk ?_ ?_;· first|kernel_rfl|omega|exact List.cons_ne_nil _ _|(simp;done)|(simp;omega)|exact trivial|assumption|fail)|refine CallD.det _ (fun _ hq X=>hc _) ?_|refine SegN.nthE fo0 i rfl (by omega) fo_size hw ?_|refine PtrN.base _ (by (repeat' (first|assumption|exact zau _ rfl|exact zar rfl|refine zaw (B':=?_) ?_|refine zan ?_|fail))) ?_|refine DrawN.mk' [] ?_|fail)));all_goals (conv=>whnf)
 exact EndN.det trivial (Wk.refl _)
def HoldP (m:Mdl) (n:Nat) (p:Fq):Prop:=∀ {r:Val} {k:FuncId} {cs:List AV},VClo r k cs→(∀ x,p.free x→0≤r x∧r x<n)→(∀ s a,p.hasC s a→hasFnc m s a)→(∀ s a,p.hasP s a→hasFct m s a)→∀ H,VDet Tryz.prog 75 [.agg m.cells,.agg p.fo.cells,.clo (.func k) [] cs] H (.bool (hv m p r))
theorem holds_at (m:Mdl) (hm:m.Sm) (n:Nat) (hvm:VM m n) (s:ByteArray) (l:List Tq) (hok:l.length≤2):HoldP m n (.at_ s l):=by
 intro r k cs hc h1 h2 h3 H
 have hat:=atom_c m hm n hvm s l hok hc (fun t ht x hx=>h1 x ⟨t,ht,hx⟩) (fun t ht s a h=>h2 s a ⟨t,ht,h⟩) (h3 s _ ⟨rfl,rfl⟩)
 have hbc:=hc.below
 obtain ⟨e1,e2,e3,e4,e5,e6,e7,e8,e9,e10,e11,hmc,hb⟩:=mdl_ex m
 rw [hmc] at hat ⊢
 show VDet Tryz.prog 75 [_,.agg (Fo.mk 1 s (l.map Tq.tm) []).cells,_] H (.bool (av m r s l))
 have hat:∀ H,VDet Tryz.prog 153 [_,.agg (Fo.mk 1 s (l.map Tq.tm) []).cells,_] H (.bool (av m r s l)):=hat
 rw [Fo.cells_mk] at hat ⊢
 generalize av m r s l=v at *
 refine zak Tryz.E0 Tryz.mx Tryz.func75 (by kernel_rfl) rfl (Nat.le_of_ble_eq_true rfl) rfl fun hcl hbl=>?_
 (repeat' ((conv=>whnf);(first|refine IfN.tt rfl ?_|refine CallN.det _ (hat _) ?_|refine DrawN.mk' [] ?_|fail)));all_goals (conv=>whnf)
 exact EndN.det trivial (Wk.refl _)
theorem holds_fa (m:Mdl) (n:Nat):HoldP m n .fa:=by
 intro r k cs hc h1 h2 h3 H
 have hbc:=hc.below
 obtain ⟨e1,e2,e3,e4,e5,e6,e7,e8,e9,e10,e11,hmc,hb⟩:=mdl_ex m
 rw [hmc]
 show VDet Tryz.prog 75 [_,.agg (Fo.mk 2 .empty [] []).cells,_] H (.bool false)
 rw [Fo.cells_mk]
 refine zak Tryz.E0 Tryz.mx Tryz.func75 (by kernel_rfl) rfl (Nat.le_of_ble_eq_true rfl) rfl fun hcl hbl=>?_
 (repeat' ((conv=>whnf);(first|refine IfN.ff rfl ?_|refine DrawN.mk' [] ?_|fail)));all_goals (conv=>whnf)
 exact EndN.det trivial (Wk.refl _)
theorem holds_f1 (m:Mdl) (n:Nat) (a:Fq) (ih:HoldP m n a):HoldP m n (.f1 a):=by
 intro r k cs hc h1 h2 h3 H
 have iha:=ih hc h1 h2 h3
 have hbc:=hc.below
 obtain ⟨e1,e2,e3,e4,e5,e6,e7,e8,e9,e10,e11,hmc,hb⟩:=mdl_ex m
 rw [hmc] at iha ⊢
 have hp:=fun H2=>part_c [.int .u8 e1,.int .i64 e2,.sl none e3 e4,.int .i64 e5,.sl none e6 e7,.sl none e8 e9,.sl none e10 e11] ⟨_,_,_,_,_,_,_,_,_,_,_,rfl⟩ 3 .empty 0 [] [a.fo] (by simp) (.clo (.func k) [] cs) 0 (by simp) (hv m a r) iha ⟨_,_,rfl⟩ (H++([.box 37 [.int .u8 e1,.int .i64 e2,.sl none e3 e4,.int .i64 e5,.sl none e6 e7,.sl none e8 e9,.sl none e10 e11],.box 29 [.int .u8 (3:Nat),.str .empty,.sl none 0 [],.sl none ([a.fo]:List Fo).length (([a.fo]:List Fo).flatMap Fo.cells)],.box 121 [.clo (.func k) [] cs]]++H2)) (H.length+0) (H.length+1) (H.length+2) (zar rfl) (zar rfl) (zar rfl)
 show VDet Tryz.prog 75 [_,.agg (Fo.mk 3 .empty [] [a.fo]).cells,_] H (.bool (!hv m a r))
 rw [Fo.cells_mk]
 generalize hv m a r=v at *
 refine zak Tryz.E0 Tryz.mx Tryz.func75 (by kernel_rfl) rfl (Nat.le_of_ble_eq_true rfl) rfl fun hcl hbl=>?_
 (repeat' ((conv=>whnf);(first|(refine IfN.id ?_;first|refine IfN.tt rfl ?_|refine IfN.ff rfl ?_|fail)|refine CallN.det _ (hp _) ?_|refine DrawN.mk' [] ?_|fail)));all_goals (conv=>whnf)
 exact EndN.det trivial (Wk.refl _)
theorem holds_f2 (m:Mdl) (n:Nat) (op:Nat) (hop:op=4∨op=5∨op=6∨op=7) (a b:Fq) (iha:HoldP m n a) (ihb:HoldP m n b):HoldP m n (.f2 op a b):=by
 intro r k cs hc h1 h2 h3 H
 have iha:=iha hc (fun x h=>h1 x (.inl h)) (fun s a h=>h2 s a (.inl h)) (fun s a h=>h3 s a (.inl h))
 have ihb:=ihb hc (fun x h=>h1 x (.inr h)) (fun s a h=>h2 s a (.inr h)) (fun s a h=>h3 s a (.inr h))
 have hbc:=hc.below
 obtain ⟨e1,e2,e3,e4,e5,e6,e7,e8,e9,e10,e11,hmc,hb⟩:=mdl_ex m
 rw [hmc] at iha ihb ⊢
 have hp:=fun H2=>part_c [.int .u8 e1,.int .i64 e2,.sl none e3 e4,.int .i64 e5,.sl none e6 e7,.sl none e8 e9,.sl none e10 e11] ⟨_,_,_,_,_,_,_,_,_,_,_,rfl⟩ op .empty 0 [] [a.fo,b.fo] (by simp) (.clo (.func k) [] cs) 0 (by simp) (hv m a r) iha ⟨_,_,rfl⟩ (H++([.box 37 [.int .u8 e1,.int .i64 e2,.sl none e3 e4,.int .i64 e5,.sl none e6 e7,.sl none e8 e9,.sl none e10 e11],.box 29 [.int .u8 (op:Nat),.str .empty,.sl none 0 [],.sl none ([a.fo,b.fo]:List Fo).length (([a.fo,b.fo]:List Fo).flatMap Fo.cells)],.box 121 [.clo (.func k) [] cs]]++H2)) (H.length+0) (H.length+1) (H.length+2) (zar rfl) (zar rfl) (zar rfl)
 have hq0:=fun H2=>part_c [.int .u8 e1,.int .i64 e2,.sl none e3 e4,.int .i64 e5,.sl none e6 e7,.sl none e8 e9,.sl none e10 e11] ⟨_,_,_,_,_,_,_,_,_,_,_,rfl⟩ op .empty 0 [] [a.fo,b.fo] (by simp) (.clo (.func k) [] cs) 1 (by simp) (hv m b r) ihb ⟨_,_,rfl⟩ (H++([.box 37 [.int .u8 e1,.int .i64 e2,.sl none e3 e4,.int .i64 e5,.sl none e6 e7,.sl none e8 e9,.sl none e10 e11],.box 29 [.int .u8 (op:Nat),.str .empty,.sl none 0 [],.sl none ([a.fo,b.fo]:List Fo).length (([a.fo,b.fo]:List Fo).flatMap Fo.cells)],.box 121 [.clo (.func k) [] cs]]++H2)) (H.length+0) (H.length+1) (H.length+2) (zar rfl) (zar rfl) (zar rfl)
 show VDet Tryz.prog 75 [_,.agg (Fo.mk op .empty [] [a.fo,b.fo]).cells,_] H (.bool (op2 op (hv m a r) (hv m b r)))
 rw [Fo.cells_mk]
 generalize hv m a r=va at *
 generalize hv m b r=vb at *
 unfold op2
 rcases hop with rfl|rfl|rfl|rfl <;> cases va <;> cases vb
 all_goals
  refine zak Tryz.E0 Tryz.mx Tryz.func75 (by kernel_rfl) rfl (Nat.le_of_ble_eq_true rfl) rfl fun hcl hbl=>?_
  (repeat' ((conv=>whnf);(first|(refine IfN.id ?_;first|refine IfN.not ?_|refine IfN.tt rfl ?_|refine IfN.ff rfl ?_|fail)|(refine CallN.id ?_;first|refine CallN.det _ (hp _) ?_|refine CallN.det _ (hq0 _) ?_|fail)|refine DrawN.mk' [] ?_|fail)));all_goals (conv=>whnf)
  exact EndN.det trivial (Wk.refl _)
theorem holds_qn (m:Mdl) (n:Nat) (hvm:VM m n) (op:Nat) (hop:op=8∨op=9) (x:ByteArray) (a:Fq) (iha:HoldP m n a):HoldP m n (.qn op x a):=by
 intro r k cs hc h1 h2 h3 H
 have ih:∀ i:Nat,i<n→∀ H,VDet Tryz.prog 75 [.agg m.cells,.agg a.fo.cells,.clo (.func 213) [] [.rptr [.str x],.rptr [.int .i64 i],.rptr [.clo (.func k) [] cs]]] H (.bool (hv m a (upd r x i))):=fun i hi=>iha (with1_c hc x i) (fun y hy=>by
  unfold upd
  split
  ·omega
  ·rename_i hn
   exact h1 y ⟨hy,hn⟩) h2 h3
 have hwi:=fun (i:Nat) H=>with_c k cs hc.below x i H
 have hbc:=hc.below
 have hes:hv m (.qn op x a) r=if op=8 then (List.range n).all fun i=>hv m a (upd r x i) else (List.range n).any fun i=>hv m a (upd r x i):=by
  have e:m.size.toNat=n:=by rw [hvm.size,Int.toNat_natCast]
  show (if op=8 then (List.range m.size.toNat).all (fun i=>hv m a (upd r x i)) else (List.range m.size.toNat).any (fun i=>hv m a (upd r x i)))=_
  rw [e]
 rw [hes]
 have hsz:=hvm.size
 have hn3:=hvm.le
 have hmc:m.cells=[.int .u8 m.kind,.int .i64 m.size,.sl none m.rel.length (m.rel.flatMap enc64),.int .i64 m.loop,.sl none m.facts.length (m.facts.flatMap Fct.cells),.sl none m.funcs.length (m.funcs.flatMap Fnc.cells),.sl none m.binds.length (m.binds.flatMap Bnd.cells)]:=rfl
 rw [hmc,hsz] at ih
 rw [hmc,hsz]
 show VDet Tryz.prog 75 [_,.agg (Fo.mk op x [] [a.fo]).cells,_] H _
 rw [Fo.cells_mk]
 obtain ⟨w1,w2,w3,w4,w5,w6,hw,hb⟩:=fo_ex4 a.fo
 rw [hw] at ih
 have e0:(([a.fo]:List Fo).getD 0 fo0).cells=[.int .u8 (w1:Nat),.str w2,.sl none w3 w4,.sl none w5 w6]:=hw
 generalize hf:(fun i:Nat=>hv m a (upd r x i))=f at *
 have hfi:∀ i:Nat,hv m a (upd r x i)=f i:=fun i=>by rw [← hf]
 simp only [hfi] at ih
 rcases hop with rfl|rfl
 ·rw [if_pos rfl]
  refine zak Tryz.E0 Tryz.mx Tryz.func75 (by kernel_rfl) rfl (Nat.le_of_ble_eq_true rfl) rfl fun hcl hbl=>?_
  (repeat' ((conv=>whnf);(first|(refine IfN.id ?_;first|refine IfN.tt rfl ?_|refine IfN.ff rfl ?_|fail)|refine DrawN.mk' [] ?_|fail)));all_goals (conv=>whnf)
  refine za3 Tryz.E0 Tryz.mx (σ:=Nat) (fun j=>j≤n∧∀ i,i<j→f i=true) (fun j=>n-j) (fun j=>[(64,.v (.int .i64 j))]) (fun _=>_) _ 0 rfl hcl [3,4,5,8,63] rfl ⟨Nat.zero_le _,fun i h=>by omega⟩ ⟨⟨_,rfl,Wk.refl _⟩,trivial⟩ rfl (fun _ _=>rfl) ?_
  rintro j ⟨hj,hinv⟩
  rcases Nat.lt_or_ge j n with hlt|hge
  ·have ih:=ih j hlt
   have hwi:=hwi j
   cases hfj:f j
   ·rw [hfj] at ih
    have hall:(List.range n).all f=false:=by
     rw [Bool.eq_false_iff]
     intro h
     rw [List.all_eq_true] at h
     have:=h j (List.mem_range.2 hlt)
     rw [hfj] at this
     cases this
    rw [hall]
    (repeat' ((conv=>whnf);(first|(refine IfN.id ?_;first|refine IfN.tt rfl ?_|refine IfN.dT (by omega) ?_|fail)|(refine SideN.mk ?_ ?_;· first|kernel_rfl|omega|exact List.cons_ne_nil _ _|(simp;done)|(simp;omega)|exact trivial|assumption|fail)|(refine CallD.id ?_;first|refine CallD.det _ (fun _ hq X=>ih _) ?_|refine CallD.det _ (fun _ hq X=>hwi _) ?_|fail)|refine SegN.nthE fo0 0 rfl (by simp) fo_size e0 ?_|refine DrawN.mk' [] ?_|fail)));all_goals (conv=>whnf)
    exact EndN.det trivial (Wk.of_eq rfl)
   ·rw [hfj] at ih
    (repeat' ((conv=>whnf);(first|(refine IfN.id ?_;first|refine IfN.ff rfl ?_|refine IfN.dT (by omega) ?_|fail)|(refine EqN.addN _ _ Cst.h Cst.h ?_ ?_;· omega)|(refine SideN.mk ?_ ?_;· first|kernel_rfl|omega|exact List.cons_ne_nil _ _|(simp;done)|(simp;omega)|exact trivial|assumption|fail)|(refine CallD.id ?_;first|refine CallD.det _ (fun _ hq X=>ih _) ?_|refine CallD.det _ (fun _ hq X=>hwi _) ?_|fail)|refine SegN.nthE fo0 0 rfl (by simp) fo_size e0 ?_|refine DrawN.mk' [] ?_|fail)));all_goals (conv=>whnf)
    (refine ⟨⟨j+1,⟨by omega,fun i hi=>by rcases Nat.lt_or_ge i j with h|h;(· exact hinv i h);(· rw [show i=j by omega];exact hfj)⟩,by omega,?_,.inl ⟨rfl,rfl⟩,rfl,_,rfl,?_⟩⟩;rotate_left 1;(first|exact .inl rfl|exact .inr ⟨by simp [zal,below,zaa,tr,zag,zaf,zah,zad,zai,zaj,hbc,hb],by simp [zap,Blk.below,zaa,below,zag,zaf,zah,zad,zai,zaj,hbc,hb]⟩|fail);(repeat' (first|exact trivial|refine ⟨⟨_,rfl,?_⟩,?_⟩|fail));all_goals try (first|exact Wk.refl _|exact Wk.of_eq (congrArg (AV.int _) (by omega))|fail))
  ·have hall:(List.range n).all f=true:=by
    rw [List.all_eq_true]
    exact fun i hi=>hinv i (by have:=List.mem_range.1 hi;omega)
   rw [hall]
   have:j=n:=by omega
   subst this
   (repeat' ((conv=>whnf);(first|refine IfN.dF (by omega) ?_|refine DrawN.mk' [] ?_|fail)));all_goals (conv=>whnf)
   exact EndN.det trivial (Wk.of_eq rfl)
 ·rw [if_neg (by decide)]
  refine zak Tryz.E0 Tryz.mx Tryz.func75 (by kernel_rfl) rfl (Nat.le_of_ble_eq_true rfl) rfl fun hcl hbl=>?_
  (repeat' ((conv=>whnf);(first|(refine IfN.id ?_;first|refine IfN.tt rfl ?_|refine IfN.ff rfl ?_|fail)|refine DrawN.mk' [] ?_|fail)));all_goals (conv=>whnf)
  refine za3 Tryz.E0 Tryz.mx (σ:=Nat) (fun j=>j≤n∧∀ i,i<j→f i=false) (fun j=>n-j) (fun j=>[(64,.v (.int .i64 j))]) (fun _=>_) _ 0 rfl hcl [3,4,5,8,63] rfl ⟨Nat.zero_le _,fun i h=>by omega⟩ ⟨⟨_,rfl,Wk.refl _⟩,trivial⟩ rfl (fun _ _=>rfl) ?_
  rintro j ⟨hj,hinv⟩
  rcases Nat.lt_or_ge j n with hlt|hge
  ·have ih:=ih j hlt
   have hwi:=hwi j
   cases hfj:f j
   rotate_left
   ·rw [hfj] at ih
    have hany:(List.range n).any f=true:=List.any_eq_true.2 ⟨j,List.mem_range.2 hlt,hfj⟩
    rw [hany]
    (repeat' ((conv=>whnf);(first|(refine IfN.id ?_;first|refine IfN.tt rfl ?_|refine IfN.dT (by omega) ?_|fail)|(refine SideN.mk ?_ ?_;· first|kernel_rfl|omega|exact List.cons_ne_nil _ _|(simp;done)|(simp;omega)|exact trivial|assumption|fail)|(refine CallD.id ?_;first|refine CallD.det _ (fun _ hq X=>ih _) ?_|refine CallD.det _ (fun _ hq X=>hwi _) ?_|fail)|refine SegN.nthE fo0 0 rfl (by simp) fo_size e0 ?_|refine DrawN.mk' [] ?_|fail)));all_goals (conv=>whnf)
    exact EndN.det trivial (Wk.of_eq rfl)
   ·rw [hfj] at ih
    (repeat' ((conv=>whnf);(first|(refine IfN.id ?_;first|refine IfN.ff rfl ?_|refine IfN.dT (by omega) ?_|fail)|(refine EqN.addN _ _ Cst.h Cst.h ?_ ?_;· omega)|(refine SideN.mk ?_ ?_;· first|kernel_rfl|omega|exact List.cons_ne_nil _ _|(simp;done)|(simp;omega)|exact trivial|assumption|fail)|(refine CallD.id ?_;first|refine CallD.det _ (fun _ hq X=>ih _) ?_|refine CallD.det _ (fun _ hq X=>hwi _) ?_|fail)|refine SegN.nthE fo0 0 rfl (by simp) fo_size e0 ?_|refine DrawN.mk' [] ?_|fail)));all_goals (conv=>whnf)
    (refine ⟨⟨j+1,⟨by omega,fun i hi=>by rcases Nat.lt_or_ge i j with h|h;(· exact hinv i h);(· rw [show i=j by omega];exact hfj)⟩,by omega,?_,.inl ⟨rfl,rfl⟩,rfl,_,rfl,?_⟩⟩;rotate_left 1;(first|exact .inl rfl|exact .inr ⟨by simp [zal,below,zaa,tr,zag,zaf,zah,zad,zai,zaj,hbc,hb],by simp [zap,Blk.below,zaa,below,zag,zaf,zah,zad,zai,zaj,hbc,hb]⟩|fail);(repeat' (first|exact trivial|refine ⟨⟨_,rfl,?_⟩,?_⟩|fail));all_goals try (first|exact Wk.refl _|exact Wk.of_eq (congrArg (AV.int _) (by omega))|fail))
  ·have hany:(List.range n).any f=false:=by
    rw [Bool.eq_false_iff]
    intro h
    obtain ⟨i,hi,hfi2⟩:=List.any_eq_true.1 h
    rw [hinv i (by have:=List.mem_range.1 hi;omega)] at hfi2
    cases hfi2
   rw [hany]
   have:j=n:=by omega
   subst this
   (repeat' ((conv=>whnf);(first|refine IfN.dF (by omega) ?_|refine DrawN.mk' [] ?_|fail)));all_goals (conv=>whnf)
   exact EndN.det trivial (Wk.of_eq rfl)
theorem holds_c (m:Mdl) (hm:m.Sm) (n:Nat) (hvm:VM m n):∀ p:Fq,p.Ok→HoldP m n p
 | .at_ s l,h=>holds_at m hm n hvm s l h
 | .fa,_=>holds_fa m n
 | .f1 a,h=>holds_f1 m n a (holds_c m hm n hvm a h)
 | .f2 k a b,h=>holds_f2 m n k h.1 a b (holds_c m hm n hvm a h.2.1) (holds_c m hm n hvm b h.2.2)
 | .qn k x a,h=>holds_qn m n hvm k h.1 x a (holds_c m hm n hvm a h.2)
end
section
attribute [local irreducible] VW VCall VO bits
theorem tm_ex4 (f:Tm):∃ a b c1 c,f.cells=[.bool a,.str b,.sl none c1 c]∧∀ n,zaa n c:=by
 cases f with
 | mk a b c=>exact ⟨_,_,_,_,Tm.cells_mk a b c,fun n=>zai n c⟩
def TrP (x:Tm):Prop:=∀ H,VDet Tryz.prog 118 [.agg x.cells] H (.bool (tmR x))
theorem all_take {α:Type} {p:α→Bool} {l:List α} {k:Nat} (d:α) (hk:k<l.length) (h:∀ y∈l.take k,p y=true) (hx:p (l.getD k d)=true):∀ y∈l.take (k+1),p y=true:=by
 intro y hy
 rw [take_snocD l d k hk] at hy
 rcases List.mem_append.1 hy with hy|hy
 ·exact h y hy
 ·rw [List.mem_singleton.1 hy]
  exact hx
theorem all_no {α:Type} {p:α→Bool} {l:List α} {k:Nat} (d:α) (hk:k<l.length) (hx:p (l.getD k d)=false):l.all p=false:=by
 rw [Bool.eq_false_iff]
 intro h
 rw [List.all_eq_true] at h
 rw [h _ (zas l k d hk)] at hx
 cases hx
theorem tr_step (v:Bool) (s:ByteArray) (l:List Tm) (hll:l.length≤9223372036854775807) (ih:∀ x∈l,TrP x):TrP (.mk v s l):=by
 intro H
 have hr:tmR (.mk v s l)=(decide (l.length≤1)&&l.all tmR):=by
  rw [← tmRs_all]
  unfold tmR
  rfl
 rw [hr,Tm.cells_mk]
 by_cases h1:l.length≤1
 ·rw [decide_eq_true h1,Bool.true_and]
  refine zak Tryz.E0 Tryz.mx Tryz.func118 (by kernel_rfl) rfl (Nat.le_of_ble_eq_true rfl) rfl fun hcl hbl=>?_
  (repeat' ((conv=>whnf);(first|refine IfN.dF (by omega) ?_|refine DrawN.mk' [] ?_|fail)));all_goals (conv=>whnf)
  refine za3 Tryz.E0 Tryz.mx (σ:=Nat) (fun k=>k≤l.length∧∀ y∈l.take k,tmR y=true) (fun k=>l.length-k) (fun k=>[(12,.v (.int .i64 k))]) (fun _=>_) _ 0 rfl hcl [10,11] rfl ⟨Nat.zero_le _,fun y hy=>(by cases hy)⟩ ⟨⟨_,rfl,Wk.refl _⟩,trivial⟩ rfl (fun _ _=>rfl) ?_
  rintro k ⟨hk,hinv⟩
  rcases Nat.lt_or_ge k l.length with hlt|hge
  ·have hc:=ih _ (zas l k tm0 hlt)
   unfold TrP at hc
   obtain ⟨w1,w2,w3,w4,hw,hb⟩:=tm_ex4 (l.getD k tm0)
   rw [hw] at hc
   cases ht:tmR (l.getD k tm0) <;> rw [ht] at hc
   ·rw [all_no tm0 hlt ht]
    (repeat' ((conv=>whnf);(first|(refine IfN.id ?_;first|refine IfN.not ?_|refine IfN.ff rfl ?_|refine IfN.dT (by omega) ?_|fail)|(refine SideN.mk ?_ ?_;· first|kernel_rfl|omega|exact List.cons_ne_nil _ _|(simp;done)|(simp;omega)|exact trivial|assumption|fail)|refine CallN.det _ (hc _) ?_|refine SegN.nthE tm0 k rfl (by omega) tm_size hw ?_|refine DrawN.mk' [] ?_|fail)));all_goals (conv=>whnf)
    exact EndN.det trivial (Wk.refl _)
   ·(repeat' ((conv=>whnf);(first|(refine IfN.id ?_;first|refine IfN.not ?_|refine IfN.tt rfl ?_|refine IfN.dT (by omega) ?_|fail)|(refine EqN.addN _ _ Cst.h Cst.h ?_ ?_;· omega)|(refine SideN.mk ?_ ?_;· first|kernel_rfl|omega|exact List.cons_ne_nil _ _|(simp;done)|(simp;omega)|exact trivial|assumption|fail)|refine CallN.det _ (hc _) ?_|refine SegN.nthE tm0 k rfl (by omega) tm_size hw ?_|refine DrawN.mk' [] ?_|fail)));all_goals (conv=>whnf)
    (refine ⟨⟨k+1,⟨by omega,all_take tm0 hlt hinv ht⟩,by omega,?_,.inl ⟨rfl,rfl⟩,rfl,_,rfl,?_⟩⟩;rotate_left 1;(first|exact .inl rfl|exact .inr ⟨by simp [zal,below,zaa,tr,zag,zaf,zah,zad,zai,zaj,hb],by simp [zap,Blk.below,zaa,below,zag,zaf,zah,zad,zai,zaj,hb]⟩|fail);(repeat' (first|exact trivial|refine ⟨⟨_,rfl,?_⟩,?_⟩|fail));all_goals try (first|exact Wk.refl _|exact Wk.of_eq (congrArg (AV.int _) (by omega))|fail))
  ·have:k=l.length:=by omega
   subst this
   rw [List.take_length] at hinv
   rw [List.all_eq_true.2 hinv]
   (repeat' ((conv=>whnf);(first|refine IfN.dF (by omega) ?_|refine DrawN.mk' [] ?_|fail)));all_goals (conv=>whnf)
   exact EndN.det trivial (Wk.refl _)
 ·rw [decide_eq_false h1,Bool.false_and]
  generalize l.flatMap Tm.cells=lc at *
  refine zak Tryz.E0 Tryz.mx Tryz.func118 (by kernel_rfl) rfl (Nat.le_of_ble_eq_true rfl) rfl fun hcl hbl=>?_
  (repeat' ((conv=>whnf);(first|refine IfN.dT (by omega) ?_|refine DrawN.mk' [] ?_|fail)));all_goals (conv=>whnf)
  exact EndN.det trivial (Wk.refl _)
mutual
theorem tr_c:∀ x:Tm,x.good→TrP x
 | .mk v s l,h=>tr_step v s l (zbd h.2.1) (trs_all l h.2.2)
theorem trs_all:∀ l:List Tm,Tm.goodL l→∀ x∈l,TrP x
 | [],_,x,hx=>by cases hx
 | y::l,h,x,hx=>by
   rcases List.mem_cons.1 hx with e|hx
   ·rw [e]
    exact tr_c y h.1
   ·exact trs_all l h.2 x hx
end
def FrP (x:Fo):Prop:=∀ H,VDet Tryz.prog 121 [.agg x.cells] H (.bool (foR x))
theorem fr_step (op:Nat) (s:ByteArray) (l:List Tm) (m:List Fo) (hop:op≤255) (hll:l.length≤9223372036854775807) (hml:m.length≤9223372036854775807) (iht:∀ x∈l,TrP x) (ih:∀ x∈m,FrP x):FrP (.mk op s l m):=by
 intro H
 have hr:foR (.mk op s l m)=(decide (1≤op∧op≤9∧l.length≤2)&&(l.all tmR&&m.all foR)):=by
  rw [← tmRs_all,← foRs_all]
  unfold foR
  rfl
 rw [hr,Fo.cells_mk]
 by_cases h1:1≤op∧op≤9∧l.length≤2
 ·rw [decide_eq_true h1,Bool.true_and]
  refine zak Tryz.E0 Tryz.mx Tryz.func121 (by kernel_rfl) rfl (Nat.le_of_ble_eq_true rfl) rfl fun hcl hbl=>?_
  (repeat' ((conv=>whnf);(first|refine IfN.dF (by omega) ?_|refine DrawN.mk' [] ?_|fail)));all_goals (conv=>whnf)
  refine za3 Tryz.E0 Tryz.mx (σ:=Nat) (fun k=>k≤l.length∧∀ y∈l.take k,tmR y=true) (fun k=>l.length-k) (fun k=>[(24,.v (.int .i64 k))]) (fun _=>_) _ 0 rfl hcl [1,22,23] rfl ⟨Nat.zero_le _,fun y hy=>(by cases hy)⟩ ⟨⟨_,rfl,Wk.refl _⟩,trivial⟩ rfl (fun _ _=>rfl) ?_
  rintro k ⟨hk,hinv⟩
  rcases Nat.lt_or_ge k l.length with hlt|hge
  ·have hc:=iht _ (zas l k tm0 hlt)
   unfold TrP at hc
   obtain ⟨w1,w2,w3,w4,hw,hb⟩:=tm_ex4 (l.getD k tm0)
   rw [hw] at hc
   cases ht:tmR (l.getD k tm0) <;> rw [ht] at hc
   ·rw [all_no tm0 hlt ht,Bool.false_and]
    (repeat' ((conv=>whnf);(first|(refine IfN.id ?_;first|refine IfN.not ?_|refine IfN.ff rfl ?_|refine IfN.dT (by omega) ?_|fail)|(refine SideN.mk ?_ ?_;· first|kernel_rfl|omega|exact List.cons_ne_nil _ _|(simp;done)|(simp;omega)|exact trivial|assumption|fail)|refine CallN.det _ (hc _) ?_|refine SegN.nthE tm0 k rfl (by omega) tm_size hw ?_|refine DrawN.mk' [] ?_|fail)));all_goals (conv=>whnf)
    exact EndN.det trivial (Wk.refl _)
   ·(repeat' ((conv=>whnf);(first|(refine IfN.id ?_;first|refine IfN.not ?_|refine IfN.tt rfl ?_|refine IfN.dT (by omega) ?_|fail)|(refine EqN.addN _ _ Cst.h Cst.h ?_ ?_;· omega)|(refine SideN.mk ?_ ?_;· first|kernel_rfl|omega|exact List.cons_ne_nil _ _|(simp;done)|(simp;omega)|exact trivial|assumption|fail)|refine CallN.det _ (hc _) ?_|refine SegN.nthE tm0 k rfl (by omega) tm_size hw ?_|refine DrawN.mk' [] ?_|fail)));all_goals (conv=>whnf)
    (refine ⟨⟨k+1,⟨by omega,all_take tm0 hlt hinv ht⟩,by omega,?_,.inl ⟨rfl,rfl⟩,rfl,_,rfl,?_⟩⟩;rotate_left 1;(first|exact .inl rfl|exact .inr ⟨by simp [zal,below,zaa,tr,zag,zaf,zah,zad,zai,zaj,hb],by simp [zap,Blk.below,zaa,below,zag,zaf,zah,zad,zai,zaj,hb]⟩|fail);(repeat' (first|exact trivial|refine ⟨⟨_,rfl,?_⟩,?_⟩|fail));all_goals try (first|exact Wk.refl _|exact Wk.of_eq (congrArg (AV.int _) (by omega))|fail))
  ·have:k=l.length:=by omega
   subst this
   rw [List.take_length] at hinv
   rw [List.all_eq_true.2 hinv,Bool.true_and]
   (repeat' ((conv=>whnf);(first|refine IfN.dF (by omega) ?_|refine DrawN.mk' [] ?_|fail)));all_goals (conv=>whnf)
   refine za3 Tryz.E0 Tryz.mx (σ:=Nat) (fun k=>k≤m.length∧∀ y∈m.take k,foR y=true) (fun k=>m.length-k) (fun k=>[(35,.v (.int .i64 k))]) (fun _=>_) _ 0 rfl hcl [33,34] rfl ⟨Nat.zero_le _,fun y hy=>(by cases hy)⟩ ⟨⟨_,rfl,Wk.refl _⟩,trivial⟩ rfl (fun _ _=>rfl) ?_
   rintro k ⟨hk,hinv⟩
   rcases Nat.lt_or_ge k m.length with hlt|hge
   ·have hc:=ih _ (zas m k fo0 hlt)
    unfold FrP at hc
    obtain ⟨w1,w2,w3,w4,w5,w6,hw,hb⟩:=fo_ex4 (m.getD k fo0)
    rw [hw] at hc
    cases ht:foR (m.getD k fo0) <;> rw [ht] at hc
    ·rw [all_no fo0 hlt ht]
     (repeat' ((conv=>whnf);(first|(refine IfN.id ?_;first|refine IfN.not ?_|refine IfN.ff rfl ?_|refine IfN.dT (by omega) ?_|fail)|(refine SideN.mk ?_ ?_;· first|kernel_rfl|omega|exact List.cons_ne_nil _ _|(simp;done)|(simp;omega)|exact trivial|assumption|fail)|refine CallN.det _ (hc _) ?_|refine SegN.nthE fo0 k rfl (by omega) fo_size hw ?_|refine DrawN.mk' [] ?_|fail)));all_goals (conv=>whnf)
     exact EndN.det trivial (Wk.refl _)
    ·(repeat' ((conv=>whnf);(first|(refine IfN.id ?_;first|refine IfN.not ?_|refine IfN.tt rfl ?_|refine IfN.dT (by omega) ?_|fail)|(refine EqN.addN _ _ Cst.h Cst.h ?_ ?_;· omega)|(refine SideN.mk ?_ ?_;· first|kernel_rfl|omega|exact List.cons_ne_nil _ _|(simp;done)|(simp;omega)|exact trivial|assumption|fail)|refine CallN.det _ (hc _) ?_|refine SegN.nthE fo0 k rfl (by omega) fo_size hw ?_|refine DrawN.mk' [] ?_|fail)));all_goals (conv=>whnf)
     (refine ⟨⟨k+1,⟨by omega,all_take fo0 hlt hinv ht⟩,by omega,?_,.inl ⟨rfl,rfl⟩,rfl,_,rfl,?_⟩⟩;rotate_left 1;(first|exact .inl rfl|exact .inr ⟨by simp [zal,below,zaa,tr,zag,zaf,zah,zad,zai,zaj,hb],by simp [zap,Blk.below,zaa,below,zag,zaf,zah,zad,zai,zaj,hb]⟩|fail);(repeat' (first|exact trivial|refine ⟨⟨_,rfl,?_⟩,?_⟩|fail));all_goals try (first|exact Wk.refl _|exact Wk.of_eq (congrArg (AV.int _) (by omega))|fail))
   ·have:k=m.length:=by omega
    subst this
    rw [List.take_length] at hinv
    rw [List.all_eq_true.2 hinv]
    (repeat' ((conv=>whnf);(first|refine IfN.dF (by omega) ?_|refine DrawN.mk' [] ?_|fail)));all_goals (conv=>whnf)
    exact EndN.det trivial (Wk.refl _)
 ·rw [decide_eq_false h1,Bool.false_and]
  have hb:=fun n=>zaj n m
  have hb2:=fun n=>zai n l
  generalize l.flatMap Tm.cells=lc at *
  generalize m.flatMap Fo.cells=mc at *
  by_cases q1:op<1
  ·refine zak Tryz.E0 Tryz.mx Tryz.func121 (by kernel_rfl) rfl (Nat.le_of_ble_eq_true rfl) rfl fun hcl hbl=>?_
   (repeat' ((conv=>whnf);(first|refine IfN.dT (by omega) ?_|refine DrawN.mk' [] ?_|fail)));all_goals (conv=>whnf)
   exact EndN.det trivial (Wk.refl _)
  ·by_cases q2:9<op
   ·refine zak Tryz.E0 Tryz.mx Tryz.func121 (by kernel_rfl) rfl (Nat.le_of_ble_eq_true rfl) rfl fun hcl hbl=>?_
    (repeat' ((conv=>whnf);(first|(refine IfN.id ?_;first|refine IfN.dT (by omega) ?_|refine IfN.dF (by omega) ?_|fail)|refine DrawN.mk' [] ?_|fail)));all_goals (conv=>whnf)
    exact EndN.det trivial (Wk.refl _)
   ·have q3:2<l.length:=by omega
    refine zak Tryz.E0 Tryz.mx Tryz.func121 (by kernel_rfl) rfl (Nat.le_of_ble_eq_true rfl) rfl fun hcl hbl=>?_
    (repeat' ((conv=>whnf);(first|(refine IfN.id ?_;first|refine IfN.dT (by omega) ?_|refine IfN.dF (by omega) ?_|fail)|refine DrawN.mk' [] ?_|fail)));all_goals (conv=>whnf)
    exact EndN.det trivial (Wk.refl _)
mutual
theorem fr_c:∀ x:Fo,x.good→FrP x
 | .mk op s l m,h=>fr_step op s l m h.1 (zbd h.2.2.1) (zbd h.2.2.2.2.1) (trs_all l h.2.2.2.1) (frs_all m h.2.2.2.2.2)
theorem frs_all:∀ l:List Fo,Fo.goodL l→∀ x∈l,FrP x
 | [],_,x,hx=>by cases hx
 | y::l,h,x,hx=>by
   rcases List.mem_cons.1 hx with e|hx
   ·rw [e]
    exact fr_c y h.1
   ·exact frs_all l h.2 x hx
end
def rightF (f:Fo):Bool:=(jF 1 f 400).2&&foR f
theorem rightQ_c (f:Fo) (hg:f.good) (H:Heap):VDet Tryz.prog 59 [.agg f.cells] H (.bool (rightF f)):=by
 have h1:=fun H=>right_c f hg H
 have h2:∀ H,VDet Tryz.prog 121 [.agg f.cells] H (.bool (foR f)):=fun H=>fr_c f hg H
 unfold rightF
 obtain ⟨a,b,c1,c,d1,d,hw,hb⟩:=fo_ex4 f
 rw [hw] at h1 h2 ⊢
 generalize foR f=u at *
 cases hj:(jF 1 f 400).2 <;> rw [hj] at h1
 ·rw [Bool.false_and]
  refine zak Tryz.E0 Tryz.mx Tryz.func59 (by kernel_rfl) rfl (Nat.le_of_ble_eq_true rfl) rfl fun hcl hbl=>?_
  (repeat' ((conv=>whnf);(first|refine IfN.ff rfl ?_|refine CallN.det _ (h1 _) ?_|refine DrawN.mk' [] ?_|fail)));all_goals (conv=>whnf)
  exact EndN.det trivial (Wk.refl _)
 ·rw [Bool.true_and]
  refine zak Tryz.E0 Tryz.mx Tryz.func59 (by kernel_rfl) rfl (Nat.le_of_ble_eq_true rfl) rfl fun hcl hbl=>?_
  (repeat' ((conv=>whnf);(first|refine IfN.tt rfl ?_|(refine CallN.id ?_;first|refine CallN.det _ (h1 _) ?_|refine CallN.det _ (h2 _) ?_|fail)|refine DrawN.mk' [] ?_|fail)));all_goals (conv=>whnf)
  exact EndN.det trivial (Wk.refl _)
def isQ (op:Nat):Bool:=decide (op=8∨op=9)
theorem quant_c (op:Nat) (hop:op≤255) (s:ByteArray) (n1:Nat) (c1:List AV) (n2:Nat) (c2:List AV) (H:Heap):VDet Tryz.prog 77 [.agg [.int .u8 op,.str s,.sl none n1 c1,.sl none n2 c2]] H (.bool (isQ op)):=by
 unfold isQ
 by_cases h8:op=8
 ·subst h8
  refine zak Tryz.E0 Tryz.mx Tryz.func77 (by kernel_rfl) rfl (Nat.le_of_ble_eq_true rfl) rfl fun hcl hbl=>?_
  (repeat' ((conv=>whnf);(first|refine IfN.tt rfl ?_|refine DrawN.mk' [] ?_|fail)));all_goals (conv=>whnf)
  exact EndN.det trivial (Wk.of_eq rfl)
 ·by_cases h9:op=9
  ·subst h9
   refine zak Tryz.E0 Tryz.mx Tryz.func77 (by kernel_rfl) rfl (Nat.le_of_ble_eq_true rfl) rfl fun hcl hbl=>?_
   (repeat' ((conv=>whnf);(first|refine IfN.ff rfl ?_|refine DrawN.mk' [] ?_|fail)));all_goals (conv=>whnf)
   exact EndN.det trivial (Wk.of_eq rfl)
  ·rw [decide_eq_false (by omega)]
   have e8:((op:Int)==8)=false:=by rw [Bool.eq_false_iff,Ne,beq_iff_eq];omega
   have e9:((op:Int)==9)=false:=by rw [Bool.eq_false_iff,Ne,beq_iff_eq];omega
   refine zak Tryz.E0 Tryz.mx Tryz.func77 (by kernel_rfl) rfl (Nat.le_of_ble_eq_true rfl) rfl fun hcl hbl=>?_
   (repeat' ((conv=>whnf);(first|refine IfN.dF (by omega) ?_|refine DrawN.mk' [] ?_|fail)));all_goals (conv=>whnf)
   exact EndN.det trivial (Wk.of_eq (by rw [e9]))
def RankP (p:Fq):Prop:=rankF p≤100→∀ H,VDet Tryz.prog 19 [.agg p.fo.cells] H (.int .i64 (rankF p:Nat))
theorem rank_0 (op:Nat) (hop:op≤255) (hq:isQ op=false) (s:ByteArray) (l:List Tm) (H:Heap):VDet Tryz.prog 19 [.agg (Fo.mk op s l []).cells] H (.int .i64 0):=by
 have hqc:=fun H=>quant_c op hop s l.length (l.flatMap Tm.cells) 0 [] H
 rw [Fo.cells_mk]
 rw [hq] at hqc
 generalize hlc:l.flatMap Tm.cells=lc at *
 have hb:∀ n,zaa n lc:=fun n=>hlc▸zai n l
 simp only [List.length_nil,List.flatMap_nil]
 refine zak Tryz.E0 Tryz.mx Tryz.func19 (by kernel_rfl) rfl (Nat.le_of_ble_eq_true rfl) rfl fun hcl hbl=>?_
 (repeat' ((conv=>whnf);(first|refine DrawN.mk' [] ?_|fail)));all_goals (conv=>whnf)
 refine LoopN.rounds Tryz.E0 Tryz.mx 1 rfl ?_
 (repeat' ((conv=>whnf);(first|refine IfN.ff rfl ?_|refine CallN.det _ (hqc _) ?_|refine DrawN.mk' [] ?_|fail)));all_goals (conv=>whnf)
 exact EndN.det trivial (Wk.refl _)
theorem rank_1 (op:Nat) (hop:op≤255) (s:ByteArray) (a:Fo) (v:Nat) (hv:v≤100) (ha:∀ H,VDet Tryz.prog 19 [.agg a.cells] H (.int .i64 v)) (H:Heap):VDet Tryz.prog 19 [.agg (Fo.mk op s [] [a]).cells] H (.int .i64 ((if isQ op then v+1 else v:Nat):Int)):=by
 have hqc:=fun H=>quant_c op hop s 0 [] ([a]:List Fo).length (([a]:List Fo).flatMap Fo.cells) H
 rw [Fo.cells_mk]
 obtain ⟨w1,w2,w3,w4,w5,w6,hw,hb⟩:=fo_ex4 a
 rw [hw] at ha
 have e0:(([a]:List Fo).getD 0 fo0).cells=[.int .u8 (w1:Nat),.str w2,.sl none w3 w4,.sl none w5 w6]:=hw
 have hmx:max (0:Int) (v:Nat)=(v:Nat):=by omega
 cases hq:isQ op <;> rw [hq] at hqc
 ·refine zak Tryz.E0 Tryz.mx Tryz.func19 (by kernel_rfl) rfl (Nat.le_of_ble_eq_true rfl) rfl fun hcl hbl=>?_
  (repeat' ((conv=>whnf);(first|refine DrawN.mk' [] ?_|fail)));all_goals (conv=>whnf)
  refine LoopN.rounds Tryz.E0 Tryz.mx 2 rfl ?_
  (repeat' ((conv=>whnf);(first|(refine IfN.id ?_;first|refine IfN.tt rfl ?_|refine IfN.ff rfl ?_|fail)|(refine EqN.addN _ _ Cst.h Cst.h ?_ ?_;· omega)|(refine SideN.mk ?_ ?_;· first|kernel_rfl|omega|exact List.cons_ne_nil _ _|(simp;done)|(simp;omega)|exact trivial|assumption|fail)|(refine CallN.id ?_;first|refine CallN.det _ (hqc _) ?_|refine CallN.det _ (ha _) ?_|fail)|refine SegN.nthE fo0 0 rfl (by simp) fo_size e0 ?_|refine DrawN.mk' [] ?_|fail)));all_goals (conv=>whnf)
  exact EndN.det trivial (Wk.of_eq (congrArg (AV.int _) (by simp)))
 ·refine zak Tryz.E0 Tryz.mx Tryz.func19 (by kernel_rfl) rfl (Nat.le_of_ble_eq_true rfl) rfl fun hcl hbl=>?_
  (repeat' ((conv=>whnf);(first|refine DrawN.mk' [] ?_|fail)));all_goals (conv=>whnf)
  refine LoopN.rounds Tryz.E0 Tryz.mx 2 rfl ?_
  (repeat' ((conv=>whnf);(first|(refine IfN.id ?_;first|refine IfN.tt rfl ?_|refine IfN.ff rfl ?_|fail)|(refine EqN.id ?_;first|(refine EqN.addN _ _ Cst.h Cst.h ?_ ?_;· omega)|refine EqN.i64 (by omega) ?_|fail)|(refine SideN.mk ?_ ?_;· first|kernel_rfl|omega|exact List.cons_ne_nil _ _|(simp;done)|(simp;omega)|exact trivial|assumption|fail)|(refine CallN.id ?_;first|refine CallN.det _ (hqc _) ?_|refine CallN.det _ (ha _) ?_|fail)|refine SegN.nthE fo0 0 rfl (by simp) fo_size e0 ?_|refine DrawN.mk' [] ?_|fail)));all_goals (conv=>whnf)
  exact EndN.det trivial (Wk.of_eq (congrArg (AV.int _) (by simp)))
theorem rank_2 (op:Nat) (hop:op≤255) (hq:isQ op=false) (s:ByteArray) (a b:Fo) (v u:Nat) (hv:v≤100) (hu:u≤100) (ha:∀ H,VDet Tryz.prog 19 [.agg a.cells] H (.int .i64 v)) (hb0:∀ H,VDet Tryz.prog 19 [.agg b.cells] H (.int .i64 u)) (H:Heap):VDet Tryz.prog 19 [.agg (Fo.mk op s [] [a,b]).cells] H (.int .i64 ((max v u:Nat):Int)):=by
 have hqc:=fun H=>quant_c op hop s 0 [] ([a,b]:List Fo).length (([a,b]:List Fo).flatMap Fo.cells) H
 rw [Fo.cells_mk]
 rw [hq] at hqc
 obtain ⟨w1,w2,w3,w4,w5,w6,hw,hb⟩:=fo_ex4 a
 obtain ⟨v1,v2,v3,v4,v5,v6,hw2,hb2⟩:=fo_ex4 b
 rw [hw] at ha
 rw [hw2] at hb0
 have e0:(([a,b]:List Fo).getD 0 fo0).cells=[.int .u8 (w1:Nat),.str w2,.sl none w3 w4,.sl none w5 w6]:=hw
 have e1:(([a,b]:List Fo).getD 1 fo0).cells=[.int .u8 (v1:Nat),.str v2,.sl none v3 v4,.sl none v5 v6]:=hw2
 refine zak Tryz.E0 Tryz.mx Tryz.func19 (by kernel_rfl) rfl (Nat.le_of_ble_eq_true rfl) rfl fun hcl hbl=>?_
 (repeat' ((conv=>whnf);(first|refine DrawN.mk' [] ?_|fail)));all_goals (conv=>whnf)
 refine LoopN.rounds Tryz.E0 Tryz.mx 3 rfl ?_
 (repeat' ((conv=>whnf);(first|(refine IfN.id ?_;first|refine IfN.tt rfl ?_|refine IfN.ff rfl ?_|fail)|(refine EqN.addN _ _ Cst.h Cst.h ?_ ?_;· omega)|(refine SideN.mk ?_ ?_;· first|kernel_rfl|omega|exact List.cons_ne_nil _ _|(simp;done)|(simp;omega)|exact trivial|assumption|fail)|(refine CallN.id ?_;first|refine CallN.det _ (hqc _) ?_|refine CallN.det _ (ha _) ?_|refine CallN.det _ (hb0 _) ?_|fail)|refine SegN.nthE fo0 0 rfl (by simp) fo_size e0 ?_|refine SegN.nthE fo0 1 rfl (by simp) fo_size e1 ?_|refine DrawN.mk' [] ?_|fail)));all_goals (conv=>whnf)
 exact EndN.det trivial (Wk.of_eq (congrArg (AV.int _) (by omega)))
theorem rank_c:∀ p:Fq,p.Ok→RankP p
 | .at_ s l,_=>fun _ H=>rank_0 1 (by decide) rfl s (l.map Tq.tm) H
 | .fa,_=>fun _ H=>rank_0 2 (by decide) rfl .empty [] H
 | .f1 a,h=>fun hr H=>rank_1 3 (by decide) .empty a.fo (rankF a) hr (rank_c a h hr) H
 | .f2 k a b,h=>fun hr H=>by
   have hr:max (rankF a) (rankF b)≤100:=hr
   refine rank_2 k (by have:=h.1;omega) ?_ .empty a.fo b.fo (rankF a) (rankF b) (by omega) (by omega) (rank_c a h.2.1 (by omega)) (rank_c b h.2.2 (by omega)) H
   rcases h.1 with rfl|rfl|rfl|rfl <;> rfl
 | .qn k x a,h=>fun hr H=>by
   have hr:rankF a+1≤100:=hr
   have:=rank_1 k (by have:=h.1;omega) x a.fo (rankF a) (by omega) (rank_c a h.2 (by omega)) H
   rw [show isQ k=true by rcases h.1 with rfl|rfl <;> rfl] at this
   exact this
theorem rank_bd:∀ (p:Fq) (d:Nat) (L:Int),p.Ok→(jF d p.fo L).2=true→rankF p+d≤41
 | .at_ s l,d,L,_,h=>by
   unfold Fq.fo jF at h
   split at h
   ·cases h
   ·show 0+d≤41
    omega
 | .fa,d,L,_,h=>by
   unfold Fq.fo jF at h
   split at h
   ·cases h
   ·show 0+d≤41
    omega
 | .f1 a,d,L,hok,h=>by
   unfold Fq.fo jF at h
   split at h
   ·cases h
   ·split at h
    ·cases h
    ·split at h
     ·cases h
     ·split at h
      ·obtain ⟨M,hM⟩:=jFs_true h a.fo (by simp)
       have h1:=rank_bd a _ M hok hM
       show rankF a+d≤41
       omega
      ·cases h
 | .f2 k a b,d,L,hok,h=>by
   unfold Fq.fo jF at h
   split at h
   ·cases h
   ·split at h
    ·cases h
    ·split at h
     ·cases h
     ·split at h
      ·obtain ⟨M,hM⟩:=jFs_true h a.fo (by simp)
       obtain ⟨N,hN⟩:=jFs_true h b.fo (by simp)
       have h1:=rank_bd a _ M hok.2.1 hM
       have h2:=rank_bd b _ N hok.2.2 hN
       show max (rankF a) (rankF b)+d≤41
       omega
      ·cases h
 | .qn k x a,d,L,hok,h=>by
   unfold Fq.fo jF at h
   split at h
   ·cases h
   ·split at h
    ·cases h
    ·split at h
     ·cases h
     ·split at h
      ·obtain ⟨M,hM⟩:=jFs_true h a.fo (by simp)
       have h1:=rank_bd a _ M hok.2 hM
       show rankF a+1+d≤41
       omega
      ·cases h
end
section
attribute [local irreducible] VW VCall VO bits
def encS (s:ByteArray):List AV:=[.str s]
theorem encS_size (s:ByteArray):(encS s).length=1:=rfl
theorem zae (n:Nat) (l:List ByteArray):zaa n (l.flatMap encS):=belowL_flat _ fun x=>by simp [encS,zaa,below]
def incA {α:Type} (c:α→α→Int) (p:α→Bool) (d:α) (l:List α) (i:Nat):Bool:=p (l.getD i d)&&(decide (i=0) || decide (c (l.getD (i-1) d) (l.getD i d)<0))
def incF {α:Type} (c:α→α→Int) (p:α→Bool) (d:α) (l:List α):Bool:=(List.range l.length).all (incA c p d l)
theorem inc_no {α:Type} {c:α→α→Int} {p:α→Bool} {d:α} {l:List α} {k:Nat} (hk:k<l.length) (h:incA c p d l k=false):incF c p d l=false:=by
 rw [Bool.eq_false_iff]
 intro q
 unfold incF at q
 rw [List.all_eq_true] at q
 rw [q k (List.mem_range.2 hk)] at h
 cases h
theorem inc_all {α:Type} {c:α→α→Int} {p:α→Bool} {d:α} {l:List α} (h:∀ i,i<l.length→incA c p d l i=true):incF c p d l=true:=by
 unfold incF
 rw [List.all_eq_true]
 exact fun i hi=>h i (List.mem_range.1 hi)
theorem inc164_c (l:List SymI) (hl:l.length≤4611686018427387904) (G:FuncId) (p:SymI→Bool) (hR:∀ x∈l,∀ H,VDet Tryz.prog G [.agg (symI x)] H (.bool (p x))) (hC:∀ x y H,VDet Tryz.prog 149 [.agg (symI x),.agg (symI y)] H (.int .i64 (cSymI x y))) (H:Heap):VDet Tryz.prog 164 [.sl none l.length (l.flatMap symI),.clo (.func 149) [] [],.clo (.func G) [] []] H (.bool (incF cSymI p symI0 l)):=by
 refine zak Tryz.E0 Tryz.mx Tryz.func164 (by kernel_rfl) rfl (Nat.le_of_ble_eq_true rfl) rfl fun hcl hbl=>?_
 (repeat' ((conv=>whnf);(first|refine DrawN.mk' [] ?_|fail)));all_goals (conv=>whnf)
 refine za3 Tryz.E0 Tryz.mx (σ:=Nat) (fun k=>k≤l.length∧∀ i,i<k→incA cSymI p symI0 l i=true) (fun k=>l.length-k) (fun k=>[(11,.v (.int .i64 k))]) (fun _=>_) _ 0 rfl hcl [0,1,2,9,10] rfl ⟨Nat.zero_le _,fun i h=>by omega⟩ ⟨⟨_,rfl,Wk.refl _⟩,trivial⟩ rfl (fun _ _=>rfl) ?_
 rintro k ⟨hk,hinv⟩
 rcases Nat.lt_or_ge k l.length with hlt|hge
 ·have hr:=hR _ (zas l k symI0 hlt)
  have hc:=hC (l.getD (k-1) symI0) (l.getD k symI0)
  have hA:incA cSymI p symI0 l k=(p (l.getD k symI0)&&(decide (k=0) || decide (cSymI (l.getD (k-1) symI0) (l.getD k symI0)<0))):=rfl
  have hstep:incA cSymI p symI0 l k=true→∀ i,i<k+1→incA cSymI p symI0 l i=true:=fun h i hi=>by
   rcases Nat.lt_or_ge i k with h2|h2
   ·exact hinv i h2
   ·rw [show i=k by omega]
    exact h
  generalize cSymI (l.getD (k-1) symI0) (l.getD k symI0)=cv at *
  generalize p (l.getD k symI0)=pk at hr hA
  obtain ⟨u,v,hx⟩:∃ u v,symI (l.getD k symI0)=[.str u,.int .i64 v]:=⟨_,_,rfl⟩
  obtain ⟨u2,v2,hy⟩:∃ u2 v2,symI (l.getD (k-1) symI0)=[.str u2,.int .i64 v2]:=⟨_,_,rfl⟩
  rw [hx] at hr;rw [hx,hy] at hc
  cases pk
  ·rw [Bool.false_and] at hA
   rw [inc_no hlt hA]
   (repeat' ((conv=>whnf);(first|(refine IfN.id ?_;first|refine IfN.not ?_|refine IfN.ff rfl ?_|refine IfN.dT (by omega) ?_|fail)|(refine SideN.mk ?_ ?_;· first|kernel_rfl|omega|exact List.cons_ne_nil _ _|(simp;done)|(simp;omega)|exact trivial|assumption|fail)|refine CallD.det _ (fun _ hq X=>hr _) ?_|refine SegN.nthE symI0 k rfl (by omega) symI_size hx ?_|refine DrawN.mk' [] ?_|fail)));all_goals (conv=>whnf)
   exact EndN.det trivial (Wk.refl _)
  ·rw [Bool.true_and] at hA
   by_cases hk0:k=0
   ·rw [decide_eq_true hk0,Bool.true_or] at hA
    subst hk0
    (repeat' ((conv=>whnf);(first|(refine IfN.id ?_;first|refine IfN.not ?_|refine IfN.tt rfl ?_|refine IfN.ff rfl ?_|refine IfN.dT (by omega) ?_|fail)|(refine EqN.addN _ _ Cst.h Cst.h ?_ ?_;· omega)|(refine SideN.mk ?_ ?_;· first|kernel_rfl|omega|exact List.cons_ne_nil _ _|(simp;done)|(simp;omega)|exact trivial|assumption|fail)|refine CallD.det _ (fun _ hq X=>hr _) ?_|refine SegN.nthE symI0 0 rfl (by omega) symI_size hx ?_|refine DrawN.mk' [] ?_|fail)));all_goals (conv=>whnf)
    (refine ⟨⟨0+1,⟨by omega,hstep hA⟩,by omega,?_,.inl ⟨rfl,rfl⟩,rfl,_,rfl,?_⟩⟩;rotate_left 1;(first|exact .inl rfl|exact .inr ⟨by simp [zal,below,zaa,tr,zag,zaf,zah,zad,zai,zaj,zac,zae],by simp [zap,Blk.below,zaa,below,zag,zaf,zah,zad,zai,zaj,zac,zae]⟩|fail);(repeat' (first|exact trivial|refine ⟨⟨_,rfl,?_⟩,?_⟩|fail));all_goals try (first|exact Wk.refl _|exact Wk.of_eq (congrArg (AV.int _) (by omega))|fail))
   ·rw [decide_eq_false hk0,Bool.false_or] at hA
    by_cases hcv:cv<0
    ·rw [decide_eq_true hcv] at hA
     (repeat' ((conv=>whnf);(first|(refine IfN.id ?_;first|refine IfN.not ?_|refine IfN.tt rfl ?_|refine IfN.dT (by omega) ?_|refine IfN.dF (by omega) ?_|fail)|(refine EqN.id ?_;first|(refine EqN.addN _ _ Cst.h Cst.h ?_ ?_;· omega)|(refine EqN.subN _ _ Cst.h Cst.h ?_ ?_;· omega)|fail)|(refine SideN.mk ?_ ?_;· first|kernel_rfl|omega|exact List.cons_ne_nil _ _|(simp;done)|(simp;omega)|exact trivial|assumption|fail)|(refine CallD.id ?_;first|refine CallD.det _ (fun _ hq X=>hr _) ?_|refine CallD.det _ (fun _ hq X=>hc _) ?_|fail)|refine SegN.nthE symI0 k rfl (by omega) symI_size hx ?_|refine SegN.nthE symI0 (k-1) (by omega) (by omega) symI_size hy ?_|refine DrawN.mk' [] ?_|fail)));all_goals (conv=>whnf)
     (refine ⟨⟨k+1,⟨by omega,hstep hA⟩,by omega,?_,.inl ⟨rfl,rfl⟩,rfl,_,rfl,?_⟩⟩;rotate_left 1;(first|exact .inl rfl|exact .inr ⟨by simp [zal,below,zaa,tr,zag,zaf,zah,zad,zai,zaj,zac,zae],by simp [zap,Blk.below,zaa,below,zag,zaf,zah,zad,zai,zaj,zac,zae]⟩|fail);(repeat' (first|exact trivial|refine ⟨⟨_,rfl,?_⟩,?_⟩|fail));all_goals try (first|exact Wk.refl _|exact Wk.of_eq (congrArg (AV.int _) (by omega))|fail))
    ·rw [decide_eq_false hcv] at hA
     rw [inc_no hlt hA]
     (repeat' ((conv=>whnf);(first|(refine IfN.id ?_;first|refine IfN.not ?_|refine IfN.tt rfl ?_|refine IfN.dT (by omega) ?_|fail)|(refine EqN.subN _ _ Cst.h Cst.h ?_ ?_;· omega)|(refine SideN.mk ?_ ?_;· first|kernel_rfl|omega|exact List.cons_ne_nil _ _|(simp;done)|(simp;omega)|exact trivial|assumption|fail)|(refine CallD.id ?_;first|refine CallD.det _ (fun _ hq X=>hr _) ?_|refine CallD.det _ (fun _ hq X=>hc _) ?_|fail)|refine SegN.nthE symI0 k rfl (by omega) symI_size hx ?_|refine SegN.nthE symI0 (k-1) (by omega) (by omega) symI_size hy ?_|refine DrawN.mk' [] ?_|fail)));all_goals (conv=>whnf)
     exact EndN.det trivial (Wk.refl _)
 ·have:k=l.length:=by omega
  subst this
  rw [inc_all hinv]
  (repeat' ((conv=>whnf);(first|refine IfN.dF (by omega) ?_|refine DrawN.mk' [] ?_|fail)));all_goals (conv=>whnf)
  exact EndN.det trivial (Wk.refl _)
theorem inc165_c (l:List ByteArray) (hl:l.length≤4611686018427387904) (G:FuncId) (p:ByteArray→Bool) (hR:∀ x∈l,∀ H,VDet Tryz.prog G [.str x] H (.bool (p x))) (hC:∀ x y H,VDet Tryz.prog 151 [.str x,.str y] H (.int .i64 (cmpB x y))) (H:Heap):VDet Tryz.prog 165 [.sl none l.length (l.flatMap encS),.clo (.func 151) [] [],.clo (.func G) [] []] H (.bool (incF cmpB p .empty l)):=by
 refine zak Tryz.E0 Tryz.mx Tryz.func165 (by kernel_rfl) rfl (Nat.le_of_ble_eq_true rfl) rfl fun hcl hbl=>?_
 (repeat' ((conv=>whnf);(first|refine DrawN.mk' [] ?_|fail)));all_goals (conv=>whnf)
 refine za3 Tryz.E0 Tryz.mx (σ:=Nat) (fun k=>k≤l.length∧∀ i,i<k→incA cmpB p .empty l i=true) (fun k=>l.length-k) (fun k=>[(11,.v (.int .i64 k))]) (fun _=>_) _ 0 rfl hcl [0,1,2,9,10] rfl ⟨Nat.zero_le _,fun i h=>by omega⟩ ⟨⟨_,rfl,Wk.refl _⟩,trivial⟩ rfl (fun _ _=>rfl) ?_
 rintro k ⟨hk,hinv⟩
 rcases Nat.lt_or_ge k l.length with hlt|hge
 ·have hr:=hR _ (zas l k .empty hlt)
  have hc:=hC (l.getD (k-1) .empty) (l.getD k .empty)
  have hA:incA cmpB p .empty l k=(p (l.getD k .empty)&&(decide (k=0) || decide (cmpB (l.getD (k-1) .empty) (l.getD k .empty)<0))):=rfl
  have hstep:incA cmpB p .empty l k=true→∀ i,i<k+1→incA cmpB p .empty l i=true:=fun h i hi=>by
   rcases Nat.lt_or_ge i k with h2|h2
   ·exact hinv i h2
   ·rw [show i=k by omega]
    exact h
  generalize cmpB (l.getD (k-1) .empty) (l.getD k .empty)=cv at *
  generalize p (l.getD k .empty)=pk at hr hA
  obtain ⟨u,hx⟩:∃ u,encS (l.getD k .empty)=[.str u]:=⟨_,rfl⟩
  obtain ⟨u2,hy⟩:∃ u2,encS (l.getD (k-1) .empty)=[.str u2]:=⟨_,rfl⟩
  have hxe:l.getD k .empty=u:=by cases hx;rfl
  have hye:l.getD (k-1) .empty=u2:=by cases hy;rfl
  rw [hxe] at hr;rw [hxe,hye] at hc
  cases pk
  ·rw [Bool.false_and] at hA
   rw [inc_no hlt hA]
   (repeat' ((conv=>whnf);(first|(refine IfN.id ?_;first|refine IfN.not ?_|refine IfN.ff rfl ?_|refine IfN.dT (by omega) ?_|fail)|(refine SideN.mk ?_ ?_;· first|kernel_rfl|omega|exact List.cons_ne_nil _ _|(simp;done)|(simp;omega)|exact trivial|assumption|fail)|refine CallN.det _ (hr _) ?_|refine SegN.nthE .empty k rfl (by omega) encS_size hx ?_|refine DrawN.mk' [] ?_|fail)));all_goals (conv=>whnf)
   exact EndN.det trivial (Wk.refl _)
  ·rw [Bool.true_and] at hA
   by_cases hk0:k=0
   ·rw [decide_eq_true hk0,Bool.true_or] at hA
    subst hk0
    (repeat' ((conv=>whnf);(first|(refine IfN.id ?_;first|refine IfN.not ?_|refine IfN.tt rfl ?_|refine IfN.ff rfl ?_|refine IfN.dT (by omega) ?_|fail)|(refine EqN.addN _ _ Cst.h Cst.h ?_ ?_;· omega)|(refine SideN.mk ?_ ?_;· first|kernel_rfl|omega|exact List.cons_ne_nil _ _|(simp;done)|(simp;omega)|exact trivial|assumption|fail)|refine CallN.det _ (hr _) ?_|refine SegN.nthE .empty 0 rfl (by omega) encS_size hx ?_|refine DrawN.mk' [] ?_|fail)));all_goals (conv=>whnf)
    (refine ⟨⟨0+1,⟨by omega,hstep hA⟩,by omega,?_,.inl ⟨rfl,rfl⟩,rfl,_,rfl,?_⟩⟩;rotate_left 1;(first|exact .inl rfl|exact .inr ⟨by simp [zal,below,zaa,tr,zag,zaf,zah,zad,zai,zaj,zac,zae],by simp [zap,Blk.below,zaa,below,zag,zaf,zah,zad,zai,zaj,zac,zae]⟩|fail);(repeat' (first|exact trivial|refine ⟨⟨_,rfl,?_⟩,?_⟩|fail));all_goals try (first|exact Wk.refl _|exact Wk.of_eq (congrArg (AV.int _) (by omega))|fail))
   ·rw [decide_eq_false hk0,Bool.false_or] at hA
    by_cases hcv:cv<0
    ·rw [decide_eq_true hcv] at hA
     (repeat' ((conv=>whnf);(first|(refine IfN.id ?_;first|refine IfN.not ?_|refine IfN.tt rfl ?_|refine IfN.dT (by omega) ?_|refine IfN.dF (by omega) ?_|fail)|(refine EqN.id ?_;first|(refine EqN.addN _ _ Cst.h Cst.h ?_ ?_;· omega)|(refine EqN.subN _ _ Cst.h Cst.h ?_ ?_;· omega)|fail)|(refine SideN.mk ?_ ?_;· first|kernel_rfl|omega|exact List.cons_ne_nil _ _|(simp;done)|(simp;omega)|exact trivial|assumption|fail)|(refine CallN.id ?_;first|refine CallN.det _ (hr _) ?_|refine CallN.det _ (hc _) ?_|fail)|refine SegN.nthE .empty k rfl (by omega) encS_size hx ?_|refine SegN.nthE .empty (k-1) (by omega) (by omega) encS_size hy ?_|refine DrawN.mk' [] ?_|fail)));all_goals (conv=>whnf)
     (refine ⟨⟨k+1,⟨by omega,hstep hA⟩,by omega,?_,.inl ⟨rfl,rfl⟩,rfl,_,rfl,?_⟩⟩;rotate_left 1;(first|exact .inl rfl|exact .inr ⟨by simp [zal,below,zaa,tr,zag,zaf,zah,zad,zai,zaj,zac,zae],by simp [zap,Blk.below,zaa,below,zag,zaf,zah,zad,zai,zaj,zac,zae]⟩|fail);(repeat' (first|exact trivial|refine ⟨⟨_,rfl,?_⟩,?_⟩|fail));all_goals try (first|exact Wk.refl _|exact Wk.of_eq (congrArg (AV.int _) (by omega))|fail))
    ·rw [decide_eq_false hcv] at hA
     rw [inc_no hlt hA]
     (repeat' ((conv=>whnf);(first|(refine IfN.id ?_;first|refine IfN.not ?_|refine IfN.tt rfl ?_|refine IfN.dT (by omega) ?_|fail)|(refine EqN.subN _ _ Cst.h Cst.h ?_ ?_;· omega)|(refine SideN.mk ?_ ?_;· first|kernel_rfl|omega|exact List.cons_ne_nil _ _|(simp;done)|(simp;omega)|exact trivial|assumption|fail)|(refine CallN.id ?_;first|refine CallN.det _ (hr _) ?_|refine CallN.det _ (hc _) ?_|fail)|refine SegN.nthE .empty k rfl (by omega) encS_size hx ?_|refine SegN.nthE .empty (k-1) (by omega) (by omega) encS_size hy ?_|refine DrawN.mk' [] ?_|fail)));all_goals (conv=>whnf)
     exact EndN.det trivial (Wk.refl _)
 ·have:k=l.length:=by omega
  subst this
  rw [inc_all hinv]
  (repeat' ((conv=>whnf);(first|refine IfN.dF (by omega) ?_|refine DrawN.mk' [] ?_|fail)));all_goals (conv=>whnf)
  exact EndN.det trivial (Wk.refl _)
def predO (x:SymI):Bool:=isPred x.1&&(decide (0≤x.2)&&decide (x.2≤2))
def funcO (x:SymI):Bool:=isFun x.1&&(decide (0≤x.2)&&decide (x.2≤1))
theorem predO_c (x:SymI) (hs:x.1.size≤9223372036854775807) (H:Heap):VDet Tryz.prog 161 [.agg (symI x)] H (.bool (predO x)):=by
 obtain ⟨s,a⟩:=x
 have hc:=fun H=>predicate_g s hs H
 unfold predO symI
 simp only
 generalize isPred s=b at *
 cases b
 ·rw [Bool.false_and]
  refine zak Tryz.E0 Tryz.mx Tryz.func161 (by kernel_rfl) rfl (Nat.le_of_ble_eq_true rfl) rfl fun hcl hbl=>?_
  (repeat' ((conv=>whnf);(first|refine IfN.ff rfl ?_|refine CallN.det _ (hc _) ?_|refine DrawN.mk' [] ?_|fail)));all_goals (conv=>whnf)
  exact EndN.det trivial (Wk.refl _)
 ·rw [Bool.true_and]
  by_cases h1:0≤a
  ·by_cases h2:a≤2
   ·rw [decide_eq_true h1,decide_eq_true h2]
    refine zak Tryz.E0 Tryz.mx Tryz.func161 (by kernel_rfl) rfl (Nat.le_of_ble_eq_true rfl) rfl fun hcl hbl=>?_
    (repeat' ((conv=>whnf);(first|(refine IfN.id ?_;first|refine IfN.tt rfl ?_|refine IfN.dT (by omega) ?_|fail)|refine CallN.det _ (hc _) ?_|refine DrawN.mk' [] ?_|fail)));all_goals (conv=>whnf)
    exact EndN.det trivial (Wk.of_eq (congrArg AV.bool (by simp;omega)))
   ·rw [decide_eq_true h1,decide_eq_false h2]
    refine zak Tryz.E0 Tryz.mx Tryz.func161 (by kernel_rfl) rfl (Nat.le_of_ble_eq_true rfl) rfl fun hcl hbl=>?_
    (repeat' ((conv=>whnf);(first|(refine IfN.id ?_;first|refine IfN.tt rfl ?_|refine IfN.dT (by omega) ?_|fail)|refine CallN.det _ (hc _) ?_|refine DrawN.mk' [] ?_|fail)));all_goals (conv=>whnf)
    exact EndN.det trivial (Wk.of_eq (congrArg AV.bool (by simp;omega)))
  ·rw [decide_eq_false h1,Bool.false_and]
   refine zak Tryz.E0 Tryz.mx Tryz.func161 (by kernel_rfl) rfl (Nat.le_of_ble_eq_true rfl) rfl fun hcl hbl=>?_
   (repeat' ((conv=>whnf);(first|(refine IfN.id ?_;first|refine IfN.tt rfl ?_|refine IfN.dF (by omega) ?_|fail)|refine CallN.det _ (hc _) ?_|refine DrawN.mk' [] ?_|fail)));all_goals (conv=>whnf)
   exact EndN.det trivial (Wk.of_eq (congrArg AV.bool (by simp;try omega)))
theorem funcO_c (x:SymI) (hs:x.1.size≤9223372036854775807) (H:Heap):VDet Tryz.prog 162 [.agg (symI x)] H (.bool (funcO x)):=by
 obtain ⟨s,a⟩:=x
 have hc:=fun H=>function_g s hs H
 unfold funcO symI
 simp only
 generalize isFun s=b at *
 cases b
 ·rw [Bool.false_and]
  refine zak Tryz.E0 Tryz.mx Tryz.func162 (by kernel_rfl) rfl (Nat.le_of_ble_eq_true rfl) rfl fun hcl hbl=>?_
  (repeat' ((conv=>whnf);(first|refine IfN.ff rfl ?_|refine CallN.det _ (hc _) ?_|refine DrawN.mk' [] ?_|fail)));all_goals (conv=>whnf)
  exact EndN.det trivial (Wk.refl _)
 ·rw [Bool.true_and]
  by_cases h1:0≤a
  ·by_cases h2:a≤1
   ·rw [decide_eq_true h1,decide_eq_true h2]
    refine zak Tryz.E0 Tryz.mx Tryz.func162 (by kernel_rfl) rfl (Nat.le_of_ble_eq_true rfl) rfl fun hcl hbl=>?_
    (repeat' ((conv=>whnf);(first|(refine IfN.id ?_;first|refine IfN.tt rfl ?_|refine IfN.dT (by omega) ?_|fail)|refine CallN.det _ (hc _) ?_|refine DrawN.mk' [] ?_|fail)));all_goals (conv=>whnf)
    exact EndN.det trivial (Wk.of_eq (congrArg AV.bool (by simp;omega)))
   ·rw [decide_eq_true h1,decide_eq_false h2]
    refine zak Tryz.E0 Tryz.mx Tryz.func162 (by kernel_rfl) rfl (Nat.le_of_ble_eq_true rfl) rfl fun hcl hbl=>?_
    (repeat' ((conv=>whnf);(first|(refine IfN.id ?_;first|refine IfN.tt rfl ?_|refine IfN.dT (by omega) ?_|fail)|refine CallN.det _ (hc _) ?_|refine DrawN.mk' [] ?_|fail)));all_goals (conv=>whnf)
    exact EndN.det trivial (Wk.of_eq (congrArg AV.bool (by simp;omega)))
  ·rw [decide_eq_false h1,Bool.false_and]
   refine zak Tryz.E0 Tryz.mx Tryz.func162 (by kernel_rfl) rfl (Nat.le_of_ble_eq_true rfl) rfl fun hcl hbl=>?_
   (repeat' ((conv=>whnf);(first|(refine IfN.id ?_;first|refine IfN.tt rfl ?_|refine IfN.dF (by omega) ?_|fail)|refine CallN.det _ (hc _) ?_|refine DrawN.mk' [] ?_|fail)));all_goals (conv=>whnf)
   exact EndN.det trivial (Wk.of_eq (congrArg AV.bool (by simp;try omega)))
structure Sig where
 preds:List SymI
 funcs:List SymI
 vars:List ByteArray
def Sig.cells (s:Sig):List AV:=[.sl none s.preds.length (s.preds.flatMap symI),.sl none s.funcs.length (s.funcs.flatMap symI),.sl none s.vars.length (s.vars.flatMap encS)]
def sigR (s:Sig):Bool:=incF cSymI predO symI0 s.preds&&(incF cSymI funcO symI0 s.funcs&&incF cmpB isVar .empty s.vars)
structure Sig.Sm (s:Sig):Prop where
 preds:s.preds.length≤1000000
 funcs:s.funcs.length≤1000000
 vars:s.vars.length≤1000000
 np:∀ x∈s.preds,x.1.size≤9223372036854775807
 nf:∀ x∈s.funcs,x.1.size≤9223372036854775807
 nv:∀ x∈s.vars,x.size≤9223372036854775807
theorem sigR_c (s:Sig) (hs:s.Sm) (H:Heap):VDet Tryz.prog 85 [.agg s.cells] H (.bool (sigR s)):=by
 have h1:=fun H=>inc164_c s.preds (by have:=hs.preds;omega) 161 predO (fun x hx H=>predO_c x (hs.np x hx) H) csym_c H
 have h2:=fun H=>inc164_c s.funcs (by have:=hs.funcs;omega) 162 funcO (fun x hx H=>funcO_c x (hs.nf x hx) H) csym_c H
 have h3:=fun H=>inc165_c s.vars (by have:=hs.vars;omega) 166 isVar (fun x hx H=>variable_g x (hs.nv x hx) H) strCmp_c H
 unfold sigR Sig.cells
 generalize incF cSymI predO symI0 s.preds=b1 at *
 generalize incF cSymI funcO symI0 s.funcs=b2 at *
 generalize incF cmpB isVar .empty s.vars=b3 at *
 cases b1 <;> cases b2
 all_goals
  refine zak Tryz.E0 Tryz.mx Tryz.func85 (by kernel_rfl) rfl (Nat.le_of_ble_eq_true rfl) rfl fun hcl hbl=>?_
  (repeat' ((conv=>whnf);(first|(refine IfN.id ?_;first|refine IfN.tt rfl ?_|refine IfN.ff rfl ?_|fail)|(refine CallN.id ?_;first|refine CallN.det _ (h1 _) ?_|refine CallN.det _ (h2 _) ?_|refine CallN.det _ (h3 _) ?_|fail)|refine DrawN.mk' [] ?_|fail)));all_goals (conv=>whnf)
  exact EndN.det trivial (Wk.refl _)
def sigM (m:Mdl):Sig:=⟨m.facts.map fun f=>(f.nm,f.ar),m.funcs.map fun f=>(f.nm,f.ar),m.binds.map Bnd.nm⟩
theorem sigM_c (m:Mdl) (hm:m.Sm) (H:Heap):VDet Tryz.prog 103 [.agg m.cells] H (.agg (sigM m).cells):=by
 have hfl:=hm.facts
 have hul:=hm.funcs
 have hbl2:=hm.binds
 have hmc:m.cells=[.int .u8 m.kind,.int .i64 m.size,.sl none m.rel.length (m.rel.flatMap enc64),.int .i64 m.loop,.sl none m.facts.length (m.facts.flatMap Fct.cells),.sl none m.funcs.length (m.funcs.flatMap Fnc.cells),.sl none m.binds.length (m.binds.flatMap Bnd.cells)]:=rfl
 rw [hmc]
 refine zak Tryz.E0 Tryz.mx Tryz.func103 (by kernel_rfl) rfl (Nat.le_of_ble_eq_true rfl) rfl fun hcl hbl=>?_
 (repeat' ((conv=>whnf);(first|refine DrawN.mk' [] ?_|fail)));all_goals (conv=>whnf)
 refine LoopN.tokB 2 0 92 2 rfl rfl rfl rfl rfl rfl ?_
 refine za3 Tryz.E0 Tryz.mx (σ:=Nat) (fun k=>k≤m.facts.length) (fun k=>m.facts.length-k) (fun k=>[(13,.v (.int .i64 k))]) (fun k=>[.box 37 [.int .u8 m.kind,.int .i64 m.size,.sl none m.rel.length (m.rel.flatMap enc64),.int .i64 m.loop,.sl none m.facts.length (m.facts.flatMap Fct.cells),.sl none m.funcs.length (m.funcs.flatMap Fnc.cells),.sl none m.binds.length (m.binds.flatMap Bnd.cells)],.box 58 [.nils,.nils,.nils],.box 58 [.sl (some (H.length+3)) k (((m.facts.map fun f=>(f.nm,f.ar)).take k).flatMap symI),.nils,.nils],.tok 92 2 (((m.facts.map fun f=>(f.nm,f.ar)).take k).flatMap symI).length]) _ 0 rfl hcl [1,2,3,11,12] rfl (Nat.zero_le _) ⟨⟨_,rfl,Wk.refl _⟩,trivial⟩ rfl (fun _ _=>rfl) ?_
 intro k hk
 rcases Nat.lt_or_ge k m.facts.length with hlt|hge
 ·obtain ⟨u,v,z,hx,e1⟩:=fct_ex (f:=m.facts.getD k fct0) rfl
  have hns:((m.facts.map fun f=>(f.nm,f.ar)).take (k+1)).flatMap symI=((m.facts.map fun f=>(f.nm,f.ar)).take k).flatMap symI++[.str u,.int .i64 v]:=by
   rw [take_snocD _ symI0 k (by rw [List.length_map];exact hlt),List.flatMap_append]
   have:(m.facts.map fun f=>(f.nm,f.ar)).getD k symI0=(u,v):=by
    have hg:m.facts[k]=⟨u,v,z⟩:=by
     rw [← hx]
     simp [List.getElem?_eq_getElem hlt]
    simp [List.getElem?_eq_getElem hlt,hg]
   rw [this]
   rfl
  have hml:(((m.facts.map fun f=>(f.nm,f.ar)).take k).flatMap symI).length=k * 2:=by
   rw [zaq symI_size,List.length_take,List.length_map,Nat.min_eq_left hk]
  have hbt:(k+1) * 24≤140737488355328:=by omega
  have hmx:k+1≤maxLen:=Nat.le_trans (show k+1≤1000001 by omega) (by decide)
  (repeat' ((conv=>whnf);(first|refine IfN.dT (by omega) ?_|(refine EqN.addN _ _ Cst.h Cst.h ?_ ?_;· omega)|(refine SideN.mk ?_ ?_;· first|kernel_rfl|omega|exact List.cons_ne_nil _ _|(simp;done)|(simp;omega)|exact trivial|assumption|fail)|refine SegN.nthE fct0 k rfl (by omega) fct_size e1 ?_|refine SideN.mk ⟨rfl,rfl,rfl,hbt,hmx⟩ ?_|refine PtrN.loc _ rfl ?_|refine DrawN.mk' [] ?_|fail)));all_goals (conv=>whnf)
  rw [← hns]
  (refine ⟨⟨k+1,by show k+1≤_;omega,by omega,?_,.inl ⟨rfl,rfl⟩,rfl,_,rfl,?_⟩⟩;rotate_left 1;(first|exact .inl rfl|exact .inr ⟨by simp [zal,below,zaa,tr,zag,zaf,zah,zad,zai,zaj,zac,zae],by simp [zap,Blk.below,zaa,below,zag,zaf,zah,zad,zai,zaj,zac,zae]⟩|fail);(repeat' (first|exact trivial|refine ⟨⟨_,rfl,?_⟩,?_⟩|fail));all_goals try (first|exact Wk.refl _|exact Wk.of_eq (congrArg (AV.int _) (by omega))|fail))
 ·have:k=m.facts.length:=by omega
  subst this
  rw [List.take_of_length_le (by rw [List.length_map];exact Nat.le_refl _)]
  (repeat' ((conv=>whnf);(first|refine IfN.dF (by omega) ?_|refine DrawN.mk' [] ?_|fail)));all_goals (conv=>whnf)
  refine LoopN.tokB 2 1 92 2 rfl rfl rfl rfl rfl rfl ?_
  refine za3 Tryz.E0 Tryz.mx (σ:=Nat) (fun k=>k≤m.funcs.length) (fun k=>m.funcs.length-k) (fun k=>[(31,.v (.int .i64 k))]) (fun k=>[.box 37 [.int .u8 m.kind,.int .i64 m.size,.sl none m.rel.length (m.rel.flatMap enc64),.int .i64 m.loop,.sl none m.facts.length (m.facts.flatMap Fct.cells),.sl none m.funcs.length (m.funcs.flatMap Fnc.cells),.sl none m.binds.length (m.binds.flatMap Bnd.cells)],.box 58 [.nils,.nils,.nils],.box 58 [.sl (some (H.length+3)) m.facts.length ((m.facts.map fun f=>(f.nm,f.ar)).flatMap symI),.sl (some (H.length+4)) k (((m.funcs.map fun f=>(f.nm,f.ar)).take k).flatMap symI),.nils],.tok 92 2 ((m.facts.map fun f=>(f.nm,f.ar)).flatMap symI).length,.tok 92 2 (((m.funcs.map fun f=>(f.nm,f.ar)).take k).flatMap symI).length]) _ 0 rfl hcl [1,2,3,29,30] rfl (Nat.zero_le _) ⟨⟨_,rfl,Wk.refl _⟩,trivial⟩ rfl (fun _ _=>rfl) ?_
  intro k hk
  rcases Nat.lt_or_ge k m.funcs.length with hlt|hge
  ·obtain ⟨u,v,z,hx,e1⟩:=fnc_ex (f:=m.funcs.getD k fnc0) rfl
   have hns:((m.funcs.map fun f=>(f.nm,f.ar)).take (k+1)).flatMap symI=((m.funcs.map fun f=>(f.nm,f.ar)).take k).flatMap symI++[.str u,.int .i64 v]:=by
    rw [take_snocD _ symI0 k (by rw [List.length_map];exact hlt),List.flatMap_append]
    have:(m.funcs.map fun f=>(f.nm,f.ar)).getD k symI0=(u,v):=by
     have hg:m.funcs[k]=⟨u,v,z⟩:=by
      rw [← hx]
      simp [List.getElem?_eq_getElem hlt]
     simp [List.getElem?_eq_getElem hlt,hg]
    rw [this]
    rfl
   have hml:(((m.funcs.map fun f=>(f.nm,f.ar)).take k).flatMap symI).length=k * 2:=by
    rw [zaq symI_size,List.length_take,List.length_map,Nat.min_eq_left hk]
   have hbt:(k+1) * 24≤140737488355328:=by omega
   have hmx:k+1≤maxLen:=Nat.le_trans (show k+1≤1000001 by omega) (by decide)
   (repeat' ((conv=>whnf);(first|refine IfN.dT (by omega) ?_|(refine EqN.addN _ _ Cst.h Cst.h ?_ ?_;· omega)|(refine SideN.mk ?_ ?_;· first|kernel_rfl|omega|exact List.cons_ne_nil _ _|(simp;done)|(simp;omega)|exact trivial|assumption|fail)|refine SegN.nthE fnc0 k rfl (by omega) fnc_size e1 ?_|refine SideN.mk ⟨rfl,rfl,rfl,hbt,hmx⟩ ?_|refine PtrN.loc _ rfl ?_|refine DrawN.mk' [] ?_|fail)));all_goals (conv=>whnf)
   rw [← hns]
   (refine ⟨⟨k+1,by show k+1≤_;omega,by omega,?_,.inl ⟨rfl,rfl⟩,rfl,_,rfl,?_⟩⟩;rotate_left 1;(first|exact .inl rfl|exact .inr ⟨by simp [zal,below,zaa,tr,zag,zaf,zah,zad,zai,zaj,zac,zae],by simp [zap,Blk.below,zaa,below,zag,zaf,zah,zad,zai,zaj,zac,zae]⟩|fail);(repeat' (first|exact trivial|refine ⟨⟨_,rfl,?_⟩,?_⟩|fail));all_goals try (first|exact Wk.refl _|exact Wk.of_eq (congrArg (AV.int _) (by omega))|fail))
  ·have:k=m.funcs.length:=by omega
   subst this
   rw [List.take_of_length_le (by rw [List.length_map];exact Nat.le_refl _)]
   (repeat' ((conv=>whnf);(first|refine IfN.dF (by omega) ?_|refine DrawN.mk' [] ?_|fail)));all_goals (conv=>whnf)
   refine LoopN.tokB 2 2 9 1 rfl rfl rfl rfl rfl rfl ?_
   refine za3 Tryz.E0 Tryz.mx (σ:=Nat) (fun k=>k≤m.binds.length) (fun k=>m.binds.length-k) (fun k=>[(49,.v (.int .i64 k))]) (fun k=>[.box 37 [.int .u8 m.kind,.int .i64 m.size,.sl none m.rel.length (m.rel.flatMap enc64),.int .i64 m.loop,.sl none m.facts.length (m.facts.flatMap Fct.cells),.sl none m.funcs.length (m.funcs.flatMap Fnc.cells),.sl none m.binds.length (m.binds.flatMap Bnd.cells)],.box 58 [.nils,.nils,.nils],.box 58 [.sl (some (H.length+3)) m.facts.length ((m.facts.map fun f=>(f.nm,f.ar)).flatMap symI),.sl (some (H.length+4)) m.funcs.length ((m.funcs.map fun f=>(f.nm,f.ar)).flatMap symI),.sl (some (H.length+5)) k (((m.binds.map Bnd.nm).take k).flatMap encS)],.tok 92 2 ((m.facts.map fun f=>(f.nm,f.ar)).flatMap symI).length,.tok 92 2 ((m.funcs.map fun f=>(f.nm,f.ar)).flatMap symI).length,.tok 9 1 (((m.binds.map Bnd.nm).take k).flatMap encS).length]) _ 0 rfl hcl [2,3,47,48] rfl (Nat.zero_le _) ⟨⟨_,rfl,Wk.refl _⟩,trivial⟩ rfl (fun _ _=>rfl) ?_
   intro k hk
   rcases Nat.lt_or_ge k m.binds.length with hlt|hge
   ·obtain ⟨u,v,hx,e1⟩:=bnd_ex (f:=m.binds.getD k bnd0) rfl
    have hns:((m.binds.map Bnd.nm).take (k+1)).flatMap encS=((m.binds.map Bnd.nm).take k).flatMap encS++[.str u]:=by
     rw [take_snocD _ .empty k (by rw [List.length_map];exact hlt),List.flatMap_append]
     have:(m.binds.map Bnd.nm).getD k .empty=u:=by
      have hg:m.binds[k]=⟨u,v⟩:=by
       rw [← hx]
       simp [List.getElem?_eq_getElem hlt]
      simp [List.getElem?_eq_getElem hlt,hg]
     rw [this]
     rfl
    have hml:(((m.binds.map Bnd.nm).take k).flatMap encS).length=k * 1:=by
     rw [zaq encS_size,List.length_take,List.length_map,Nat.min_eq_left hk]
    have hbt:(k+1) * 16≤140737488355328:=by omega
    have hmx:k+1≤maxLen:=Nat.le_trans (show k+1≤1000001 by omega) (by decide)
    (repeat' ((conv=>whnf);(first|refine IfN.dT (by omega) ?_|(refine EqN.addN _ _ Cst.h Cst.h ?_ ?_;· omega)|(refine SideN.mk ?_ ?_;· first|kernel_rfl|omega|exact List.cons_ne_nil _ _|(simp;done)|(simp;omega)|exact trivial|assumption|fail)|refine SegN.nthE bnd0 k rfl (by omega) bnd_size e1 ?_|refine SideN.mk ⟨rfl,rfl,rfl,hbt,hmx⟩ ?_|refine PtrN.loc _ rfl ?_|refine DrawN.mk' [] ?_|fail)));all_goals (conv=>whnf)
    rw [← hns]
    (refine ⟨⟨k+1,by show k+1≤_;omega,by omega,?_,.inl ⟨rfl,rfl⟩,rfl,_,rfl,?_⟩⟩;rotate_left 1;(first|exact .inl rfl|exact .inr ⟨by simp [zal,below,zaa,tr,zag,zaf,zah,zad,zai,zaj,zac,zae],by simp [zap,Blk.below,zaa,below,zag,zaf,zah,zad,zai,zaj,zac,zae]⟩|fail);(repeat' (first|exact trivial|refine ⟨⟨_,rfl,?_⟩,?_⟩|fail));all_goals try (first|exact Wk.refl _|exact Wk.of_eq (congrArg (AV.int _) (by omega))|fail))
   ·have:k=m.binds.length:=by omega
    subst this
    rw [List.take_of_length_le (by rw [List.length_map];exact Nat.le_refl _)]
    (repeat' ((conv=>whnf);(first|refine IfN.dF (by omega) ?_|refine DrawN.mk' [] ?_|fail)));all_goals (conv=>whnf)
    refine EndN.det (by simp [below,zaa,Sig.cells,sigM,zac,zae]) ?_
    unfold Sig.cells sigM
    simp only [List.length_map]
    (repeat' (first|exact trivial|refine And.intro ?_ ?_|exact Wk.refl _|exact wk_sl _ _ _|exact wk_sx _ _|exact wk_nils|refine wk_agg ?_|refine wk_tup ?_|fail));done
end
section
attribute [local irreducible] VW VCall VO bits
def elB (n a:Int):Bool:=decide (0≤a)&&decide (a<n)
def okFct (n:Int) (f:Fct):Bool:=decide (0≤f.tr)&&decide (f.tr<(2 ^ n.toNat ^ f.ar.toNat:Nat))
def okFnc (n:Int) (f:Fnc):Bool:=decide (f.vl.length=n.toNat ^ f.ar.toNat)&&f.vl.all (elB n)
def okBnd (n:Int) (b:Bnd):Bool:=elB n b.at_
def shape (m:Mdl):Prop:=m.kind=2∧1≤m.size∧m.size≤3∧m.rel.length=0∧m.loop=0
instance (m:Mdl):Decidable (shape m):=by unfold shape;exact inferInstance
def validM (m:Mdl):Bool:=decide (shape m)&&(sigR (sigM m)&&(m.facts.all (okFct m.size)&&(m.funcs.all (okFnc m.size)&&m.binds.all (okBnd m.size))))
structure Mdl.Nm (m:Mdl):Prop where
 f:∀ x∈m.facts,x.nm.size≤9223372036854775807
 u:∀ x∈m.funcs,x.nm.size≤9223372036854775807
 b:∀ x∈m.binds,x.nm.size≤9223372036854775807
theorem sigM_sm {m:Mdl} (hm:m.Sm) (hn:m.Nm):(sigM m).Sm:=by
 refine ⟨by show (m.facts.map _).length≤_;rw [List.length_map];exact hm.facts,by show (m.funcs.map _).length≤_;rw [List.length_map];exact hm.funcs,by show (m.binds.map _).length≤_;rw [List.length_map];exact hm.binds,fun x hx=>?_,fun x hx=>?_,fun x hx=>?_⟩
 ·obtain ⟨f,hf,rfl⟩:=List.mem_map.1 hx
  exact hn.f f hf
 ·obtain ⟨f,hf,rfl⟩:=List.mem_map.1 hx
  exact hn.u f hf
 ·obtain ⟨f,hf,rfl⟩:=List.mem_map.1 hx
  exact hn.b f hf
theorem inc_p {α:Type} {c:α→α→Int} {p:α→Bool} {d:α} {l:List α} (h:incF c p d l=true):∀ x∈l,p x=true:=by
 intro x hx
 obtain ⟨i,hi,rfl⟩:=List.getElem_of_mem hx
 unfold incF at h
 rw [List.all_eq_true] at h
 have:=h i (List.mem_range.2 hi)
 unfold incA at this
 rw [Bool.and_eq_true] at this
 have h1:=this.1
 simpa [List.getElem?_eq_getElem hi] using h1
theorem powN_c (n e:Nat) (hn:1≤n∧n≤3) (he:e≤10) (H:Heap):VDet Tryz.prog 93 [.int .i64 n,.int .i64 e] H (.int .i64 ((n ^ e:Nat):Int)):=by
 have:=power_c n e (by omega) he H
 rwa [show ((n ^ e:Nat):Int)=(n:Int) ^ e from Int.natCast_pow n e]
theorem el_c {n:Int} (mc:List AV) (hmx:∃ e1 e3 e4 e5 e6 e7 e8 e9 e10 e11,mc=[.int .u8 e1,.int .i64 n,.sl none e3 e4,.int .i64 e5,.sl none e6 e7,.sl none e8 e9,.sl none e10 e11]) (a:Int) (H:Heap) (p:Nat) (hp:H[p]? = some (.box 37 mc)):VDet Tryz.prog 115 [.int .i64 a,.ptr p 0] H (.bool (elB n a)):=by
 obtain ⟨e1,e3,e4,e5,e6,e7,e8,e9,e10,e11,rfl⟩:=hmx
 unfold elB
 by_cases h:0≤a
 ·rw [decide_eq_true h,Bool.true_and]
  refine zak Tryz.E0 Tryz.mx Tryz.func115 (by kernel_rfl) rfl (Nat.le_of_ble_eq_true rfl) rfl fun hcl hbl=>?_
  (repeat' ((conv=>whnf);(first|refine IfN.dT (by omega) ?_|refine PtrN.base _ (by (repeat' (first|assumption|exact zau _ rfl|exact zar rfl|refine zaw (B':=?_) ?_|refine zan ?_|fail))) ?_|refine DrawN.mk' [] ?_|fail)));all_goals (conv=>whnf)
  exact EndN.det trivial (Wk.refl _)
 ·rw [decide_eq_false h,Bool.false_and]
  refine zak Tryz.E0 Tryz.mx Tryz.func115 (by kernel_rfl) rfl (Nat.le_of_ble_eq_true rfl) rfl fun hcl hbl=>?_
  (repeat' ((conv=>whnf);(first|refine IfN.dF (by omega) ?_|refine DrawN.mk' [] ?_|fail)));all_goals (conv=>whnf)
  exact EndN.det trivial (Wk.of_eq (congrArg AV.bool (by simp;try omega)))
theorem valid_no {m:Mdl} (hm:m.Sm) (hn:m.Nm) (h:shape m→sigR (sigM m)=false) (H:Heap):VDet Tryz.prog 53 [.agg m.cells] H (.bool false):=by
 have h1:=fun H=>sigM_c m hm H
 have h2:=fun H=>sigR_c (sigM m) (sigM_sm hm hn) H
 obtain ⟨a1,a2,a3,a4,a5,a6,hsc,hsb⟩:∃ a1 a2 a3 a4 a5 a6,(sigM m).cells=[.sl none a1 a2,.sl none a3 a4,.sl none a5 a6]∧∀ n,zaa n a2∧zaa n a4∧zaa n a6:=⟨_,_,_,_,_,_,rfl,fun n=>⟨zac n _,zac n _,zae n _⟩⟩
 rw [hsc] at h1 h2
 have hmc:m.cells=[.int .u8 m.kind,.int .i64 m.size,.sl none m.rel.length (m.rel.flatMap enc64),.int .i64 m.loop,.sl none m.facts.length (m.facts.flatMap Fct.cells),.sl none m.funcs.length (m.funcs.flatMap Fnc.cells),.sl none m.binds.length (m.binds.flatMap Bnd.cells)]:=rfl
 rw [hmc] at h1 ⊢
 by_cases q1:m.kind=2
 ·by_cases q2:m.size<1
  ·refine zak Tryz.E0 Tryz.mx Tryz.func53 (by kernel_rfl) rfl (Nat.le_of_ble_eq_true rfl) rfl fun hcl hbl=>?_
   (repeat' ((conv=>whnf);(first|(refine IfN.id ?_;first|refine IfN.not ?_|refine IfN.dT (by omega) ?_|fail)|refine DrawN.mk' [] ?_|fail)));all_goals (conv=>whnf)
   exact EndN.det trivial (Wk.refl _)
  ·by_cases q3:3<m.size
   ·refine zak Tryz.E0 Tryz.mx Tryz.func53 (by kernel_rfl) rfl (Nat.le_of_ble_eq_true rfl) rfl fun hcl hbl=>?_
    (repeat' ((conv=>whnf);(first|(refine IfN.id ?_;first|refine IfN.not ?_|refine IfN.dT (by omega) ?_|refine IfN.dF (by omega) ?_|fail)|refine DrawN.mk' [] ?_|fail)));all_goals (conv=>whnf)
    exact EndN.det trivial (Wk.refl _)
   ·by_cases q4:0<m.rel.length
    ·refine zak Tryz.E0 Tryz.mx Tryz.func53 (by kernel_rfl) rfl (Nat.le_of_ble_eq_true rfl) rfl fun hcl hbl=>?_
     (repeat' ((conv=>whnf);(first|(refine IfN.id ?_;first|refine IfN.not ?_|refine IfN.dT (by omega) ?_|refine IfN.dF (by omega) ?_|fail)|refine DrawN.mk' [] ?_|fail)));all_goals (conv=>whnf)
     exact EndN.det trivial (Wk.refl _)
    ·by_cases q5:m.loop=0
     ·rw [h ⟨q1,by omega,by omega,by omega,q5⟩] at h2
      refine zak Tryz.E0 Tryz.mx Tryz.func53 (by kernel_rfl) rfl (Nat.le_of_ble_eq_true rfl) rfl fun hcl hbl=>?_
      (repeat' ((conv=>whnf);(first|(refine IfN.id ?_;first|refine IfN.not ?_|refine IfN.ff rfl ?_|refine IfN.dT (by omega) ?_|refine IfN.dF (by omega) ?_|fail)|(refine CallN.id ?_;first|refine CallN.det _ (h1 _) ?_|refine CallN.det _ (h2 _) ?_|fail)|refine DrawN.mk' [] ?_|fail)));all_goals (conv=>whnf)
      exact EndN.det trivial (Wk.refl _)
     ·refine zak Tryz.E0 Tryz.mx Tryz.func53 (by kernel_rfl) rfl (Nat.le_of_ble_eq_true rfl) rfl fun hcl hbl=>?_
      (repeat' ((conv=>whnf);(first|(refine IfN.id ?_;first|refine IfN.not ?_|refine IfN.dT (by omega) ?_|refine IfN.dF (by omega) ?_|fail)|refine DrawN.mk' [] ?_|fail)));all_goals (conv=>whnf)
      exact EndN.det trivial (Wk.refl _)
 ·refine zak Tryz.E0 Tryz.mx Tryz.func53 (by kernel_rfl) rfl (Nat.le_of_ble_eq_true rfl) rfl fun hcl hbl=>?_
  (repeat' ((conv=>whnf);(first|(refine IfN.id ?_;first|refine IfN.not ?_|refine IfN.dF (by omega) ?_|fail)|refine DrawN.mk' [] ?_|fail)));all_goals (conv=>whnf)
  exact EndN.det trivial (Wk.refl _)
theorem valid_c (m:Mdl) (hm:m.Sm) (hn:m.Nm) (H:Heap):VDet Tryz.prog 53 [.agg m.cells] H (.bool (validM m)):=by
 by_cases hs:shape m∧sigR (sigM m)=true
 case neg =>
  have:validM m=false:=by
   unfold validM
   by_cases h1:shape m
   ·have:sigR (sigM m)=false:=by
     rw [Bool.eq_false_iff]
     exact fun h=>hs ⟨h1,h⟩
    rw [this,Bool.false_and,Bool.and_false]
   ·rw [decide_eq_false h1,Bool.false_and]
  rw [this]
  exact valid_no hm hn (fun h1=>by
   rw [Bool.eq_false_iff]
   exact fun h=>hs ⟨h1,h⟩) H
 obtain ⟨⟨q1,q2,q3,q4,q5⟩,hsr⟩:=hs
 have hV:validM m=(m.facts.all (okFct m.size)&&(m.funcs.all (okFnc m.size)&&m.binds.all (okBnd m.size))):=by
  unfold validM
  rw [decide_eq_true (show shape m from ⟨q1,q2,q3,q4,q5⟩),hsr,Bool.true_and,Bool.true_and]
 rw [hV]
 have hsr2:=hsr
 unfold sigR at hsr2
 rw [Bool.and_eq_true,Bool.and_eq_true] at hsr2
 have hpa:∀ f∈m.facts,0≤f.ar∧f.ar≤2:=fun f hf=>by
  have:=inc_p hsr2.1 (f.nm,f.ar) (List.mem_map.2 ⟨f,hf,rfl⟩)
  unfold predO at this
  simp only [Bool.and_eq_true,decide_eq_true_eq] at this
  exact this.2
 have hfa:∀ f∈m.funcs,0≤f.ar∧f.ar≤1:=fun f hf=>by
  have:=inc_p hsr2.2.1 (f.nm,f.ar) (List.mem_map.2 ⟨f,hf,rfl⟩)
  unfold funcO at this
  simp only [Bool.and_eq_true,decide_eq_true_eq] at this
  exact this.2
 obtain ⟨n,hnn⟩:∃ n:Nat,m.size=n:=⟨m.size.toNat,by omega⟩
 have h1:=fun H=>sigM_c m hm H
 have h2:=fun H=>sigR_c (sigM m) (sigM_sm hm hn) H
 rw [hsr] at h2
 obtain ⟨a1,a2,a3,a4,a5,a6,hsc,hsb⟩:∃ a1 a2 a3 a4 a5 a6,(sigM m).cells=[.sl none a1 a2,.sl none a3 a4,.sl none a5 a6]∧∀ n,zaa n a2∧zaa n a4∧zaa n a6:=⟨_,_,_,_,_,_,rfl,fun n=>⟨zac n _,zac n _,zae n _⟩⟩
 rw [hsc] at h1 h2
 have hmc:m.cells=[.int .u8 m.kind,.int .i64 m.size,.sl none m.rel.length (m.rel.flatMap enc64),.int .i64 m.loop,.sl none m.facts.length (m.facts.flatMap Fct.cells),.sl none m.funcs.length (m.funcs.flatMap Fnc.cells),.sl none m.binds.length (m.binds.flatMap Bnd.cells)]:=rfl
 have hfl:=hm.facts
 have hul:=hm.funcs
 have hbl2:=hm.binds
 have hvl:=hm.vals
 rw [hmc,q1,hnn] at h1
 rw [hmc,q1,hnn]
 have hn3:1≤n∧n≤3:=by omega
 have hpow:=fun e he H=>powN_c n e hn3 he H
 have hel:=fun a H2=>el_c (n:=(n:Int)) [.int .u8 2,.int .i64 n,.sl none m.rel.length (m.rel.flatMap enc64),.int .i64 m.loop,.sl none m.facts.length (m.facts.flatMap Fct.cells),.sl none m.funcs.length (m.funcs.flatMap Fnc.cells),.sl none m.binds.length (m.binds.flatMap Bnd.cells)] ⟨_,_,_,_,_,_,_,_,_,_,rfl⟩ a (H++([.box 37 [.int .u8 2,.int .i64 n,.sl none m.rel.length (m.rel.flatMap enc64),.int .i64 m.loop,.sl none m.facts.length (m.facts.flatMap Fct.cells),.sl none m.funcs.length (m.funcs.flatMap Fnc.cells),.sl none m.binds.length (m.binds.flatMap Bnd.cells)]]++H2)) (H.length+0) (zar rfl)
 refine zak Tryz.E0 Tryz.mx Tryz.func53 (by kernel_rfl) rfl (Nat.le_of_ble_eq_true rfl) rfl fun hcl hbl=>?_
 (repeat' ((conv=>whnf);(first|(refine IfN.id ?_;first|refine IfN.not ?_|refine IfN.tt rfl ?_|refine IfN.dT (by omega) ?_|refine IfN.dF (by omega) ?_|fail)|(refine CallN.id ?_;first|refine CallN.det _ (h1 _) ?_|refine CallN.det _ (h2 _) ?_|fail)|refine DrawN.mk' [] ?_|fail)));all_goals (conv=>whnf)
 refine za3 Tryz.E0 Tryz.mx (σ:=Nat) (fun k=>k≤m.facts.length∧∀ y∈m.facts.take k,okFct n y=true) (fun k=>m.facts.length-k) (fun k=>[(46,.v (.int .i64 k))]) (fun _=>_) _ 0 rfl hcl [1,3,44,45] rfl ⟨Nat.zero_le _,fun y hy=>(by cases hy)⟩ ⟨⟨_,rfl,Wk.refl _⟩,trivial⟩ rfl (fun _ _=>rfl) ?_
 rintro k ⟨hk,hinv⟩
 rcases Nat.lt_or_ge k m.facts.length with hlt|hge
 ·obtain ⟨u,v,z,hx,e1⟩:=fct_ex (f:=m.facts.getD k fct0) rfl
  have har:=hpa _ (zas m.facts k fct0 hlt)
  rw [hx] at har
  obtain ⟨e,he⟩:∃ e:Nat,v=e:=⟨v.toNat,by simp only at har;omega⟩
  subst he
  simp only at har
  have hpe:=hpow e (by omega)
  have hne:n ^ e≤9:=Nat.le_trans (Nat.pow_le_pow_left hn3.2 _) (Nat.le_trans (Nat.pow_le_pow_right (by decide) (show e≤2 by omega)) (by decide:3 ^ 2≤9))
  have h512:2 ^ n ^ e≤512:=Nat.pow_le_pow_right (by decide) hne
  have hok:okFct n (m.facts.getD k fct0)=(decide (0≤z)&&decide (z<(2 ^ n ^ e:Nat))):=by
   rw [hx]
   unfold okFct
   simp only [Int.toNat_natCast]
  have hsh:1 <<< n ^ e=2 ^ n ^ e:=Nat.one_shiftLeft _
  by_cases z0:0≤z
  ·by_cases z1:z<(2 ^ n ^ e:Nat)
   ·rw [decide_eq_true z0,decide_eq_true z1] at hok
    (repeat' ((conv=>whnf);(first|(refine IfN.id ?_;first|refine IfN.dT (by omega) ?_|refine IfN.dF (by omega) ?_|fail)|(refine EqN.id ?_;first|(refine EqN.shlN _ _ Cst.h Cst.h rfl ?_ ?_ ?_;(· (repeat' (first|omega|refine And.intro ?_ ?_|exact za4 (by omega)|exact bnd_andr (by omega)|refine bnd_or ?_ ?_|refine bnd_or31 ?_ ?_|refine bnd_xor ?_ ?_|refine bnd_xor31 ?_ ?_|refine bnd_shr ?_|refine bnd_shl ?_ ?_|refine bnd_mod ?_|refine za4 ?_|fail)));(· (repeat' (first|omega|refine And.intro ?_ ?_|exact za4 (by omega)|exact bnd_andr (by omega)|refine bnd_or ?_ ?_|refine bnd_or31 ?_ ?_|refine bnd_xor ?_ ?_|refine bnd_xor31 ?_ ?_|refine bnd_shr ?_|refine bnd_shl ?_ ?_|refine bnd_mod ?_|refine za4 ?_|fail))))|(refine EqN.addN _ _ Cst.h Cst.h ?_ ?_;· omega)|fail)|(refine SideN.mk ?_ ?_;· first|kernel_rfl|omega|exact List.cons_ne_nil _ _|(simp;done)|(simp;omega)|exact trivial|assumption|fail)|refine CallD.det _ (fun _ hq X=>hpe _) ?_|refine SegN.nthE fct0 k rfl (by omega) fct_size e1 ?_|refine DrawN.mk' [] ?_|fail)));all_goals (conv=>whnf)
    (refine ⟨⟨k+1,⟨by omega,all_take fct0 hlt hinv hok⟩,by omega,?_,.inl ⟨rfl,rfl⟩,rfl,_,rfl,?_⟩⟩;rotate_left 1;(first|exact .inl rfl|exact .inr ⟨by simp [zal,below,zaa,tr,zag,zaf,zah,zad,zai,zaj,zac,zae],by simp [zap,Blk.below,zaa,below,zag,zaf,zah,zad,zai,zaj,zac,zae]⟩|fail);(repeat' (first|exact trivial|refine ⟨⟨_,rfl,?_⟩,?_⟩|fail));all_goals try (first|exact Wk.refl _|exact Wk.of_eq (congrArg (AV.int _) (by omega))|fail))
   ·rw [decide_eq_true z0,decide_eq_false z1] at hok
    rw [all_no fct0 hlt hok,Bool.false_and]
    (repeat' ((conv=>whnf);(first|(refine IfN.id ?_;first|refine IfN.dT (by omega) ?_|refine IfN.dF (by omega) ?_|fail)|(refine EqN.shlN _ _ Cst.h Cst.h rfl ?_ ?_ ?_;(· (repeat' (first|omega|refine And.intro ?_ ?_|exact za4 (by omega)|exact bnd_andr (by omega)|refine bnd_or ?_ ?_|refine bnd_or31 ?_ ?_|refine bnd_xor ?_ ?_|refine bnd_xor31 ?_ ?_|refine bnd_shr ?_|refine bnd_shl ?_ ?_|refine bnd_mod ?_|refine za4 ?_|fail)));(· (repeat' (first|omega|refine And.intro ?_ ?_|exact za4 (by omega)|exact bnd_andr (by omega)|refine bnd_or ?_ ?_|refine bnd_or31 ?_ ?_|refine bnd_xor ?_ ?_|refine bnd_xor31 ?_ ?_|refine bnd_shr ?_|refine bnd_shl ?_ ?_|refine bnd_mod ?_|refine za4 ?_|fail))))|(refine SideN.mk ?_ ?_;· first|kernel_rfl|omega|exact List.cons_ne_nil _ _|(simp;done)|(simp;omega)|exact trivial|assumption|fail)|refine CallD.det _ (fun _ hq X=>hpe _) ?_|refine SegN.nthE fct0 k rfl (by omega) fct_size e1 ?_|refine DrawN.mk' [] ?_|fail)));all_goals (conv=>whnf)
    exact EndN.det trivial (Wk.refl _)
  ·rw [decide_eq_false z0] at hok
   rw [all_no fct0 hlt hok,Bool.false_and]
   (repeat' ((conv=>whnf);(first|refine IfN.dT (by omega) ?_|(refine SideN.mk ?_ ?_;· first|kernel_rfl|omega|exact List.cons_ne_nil _ _|(simp;done)|(simp;omega)|exact trivial|assumption|fail)|refine SegN.nthE fct0 k rfl (by omega) fct_size e1 ?_|refine DrawN.mk' [] ?_|fail)));all_goals (conv=>whnf)
   exact EndN.det trivial (Wk.refl _)
 ·have hke:k=m.facts.length:=by omega
  subst hke
  rw [List.take_length] at hinv
  rw [List.all_eq_true.2 hinv,Bool.true_and]
  (repeat' ((conv=>whnf);(first|refine IfN.dF (by omega) ?_|refine DrawN.mk' [] ?_|fail)));all_goals (conv=>whnf)
  refine za3 Tryz.E0 Tryz.mx (σ:=Nat) (fun k=>k≤m.funcs.length∧∀ y∈m.funcs.take k,okFnc n y=true) (fun k=>m.funcs.length-k) (fun k=>[(68,.v (.int .i64 k))]) (fun _=>_) _ 0 rfl hcl [1,3,66,67] rfl ⟨Nat.zero_le _,fun y hy=>(by cases hy)⟩ ⟨⟨_,rfl,Wk.refl _⟩,trivial⟩ rfl (fun _ _=>rfl) ?_
  rintro k ⟨hk,hinv⟩
  rcases Nat.lt_or_ge k m.funcs.length with hlt|hge
  ·obtain ⟨u,v,z,hx,e1⟩:=fnc_ex (f:=m.funcs.getD k fnc0) rfl
   have har:=hfa _ (zas m.funcs k fnc0 hlt)
   have hzl:=hvl _ (zas m.funcs k fnc0 hlt)
   rw [hx] at har hzl
   obtain ⟨e,he⟩:∃ e:Nat,v=e:=⟨v.toNat,by simp only at har;omega⟩
   subst he
   simp only at har hzl
   have hpe:=hpow e (by omega)
   have hok:okFnc n (m.funcs.getD k fnc0)=(decide (z.length=n ^ e)&&z.all (elB n)):=by
    rw [hx]
    unfold okFnc
    simp only [Int.toNat_natCast]
   by_cases hzn:z.length=n ^ e
   ·rw [decide_eq_true hzn,Bool.true_and] at hok
    (repeat' ((conv=>whnf);(first|(refine IfN.id ?_;first|refine IfN.not ?_|refine IfN.dT (by omega) ?_|fail)|(refine SideN.mk ?_ ?_;· first|kernel_rfl|omega|exact List.cons_ne_nil _ _|(simp;done)|(simp;omega)|exact trivial|assumption|fail)|refine CallD.det _ (fun _ hq X=>hpe _) ?_|refine SegN.nthE fnc0 k rfl (by omega) fnc_size e1 ?_|refine DrawN.mk' [] ?_|fail)));all_goals (conv=>whnf)
    refine za3 Tryz.E0 Tryz.mx (σ:=Nat) (fun j=>j≤z.length∧∀ y∈z.take j,elB n y=true) (fun j=>z.length-j) (fun j=>[(84,.v (.int .i64 j))]) (fun _=>_) _ 0 rfl hcl [1,3,66,67,68,82,83] rfl ⟨Nat.zero_le _,fun y hy=>(by cases hy)⟩ ⟨⟨_,rfl,Wk.refl _⟩,trivial⟩ rfl (fun _ _=>rfl) ?_
    rintro j ⟨hj,hinj⟩
    rcases Nat.lt_or_ge j z.length with hjl|hjg
    ·obtain ⟨a,ha⟩:∃ a,a=z.getD j 0:=⟨_,rfl⟩
     have ez:enc64 (z.getD j 0)=[.int .i64 a]:=by rw [ha];rfl
     have hea:=fun H2=>hel a H2
     cases hb:elB n a <;> rw [hb] at hea
     ·rw [all_no (p:=elB n) 0 hjl (by rw [← ha];exact hb)] at hok
      rw [all_no fnc0 hlt hok,Bool.false_and]
      (repeat' ((conv=>whnf);(first|(refine IfN.id ?_;first|refine IfN.not ?_|refine IfN.ff rfl ?_|refine IfN.dT (by omega) ?_|fail)|(refine SideN.mk ?_ ?_;· first|kernel_rfl|omega|exact List.cons_ne_nil _ _|(simp;done)|(simp;omega)|exact trivial|assumption|fail)|refine CallN.det _ (hea _) ?_|refine SegN.nthE 0 j rfl (by omega) i64_size ez ?_|refine DrawN.mk' [] ?_|fail)));all_goals (conv=>whnf)
      exact EndN.det trivial (Wk.refl _)
     ·(repeat' ((conv=>whnf);(first|(refine IfN.id ?_;first|refine IfN.not ?_|refine IfN.tt rfl ?_|refine IfN.dT (by omega) ?_|fail)|(refine EqN.addN _ _ Cst.h Cst.h ?_ ?_;· omega)|(refine SideN.mk ?_ ?_;· first|kernel_rfl|omega|exact List.cons_ne_nil _ _|(simp;done)|(simp;omega)|exact trivial|assumption|fail)|refine CallN.det _ (hea _) ?_|refine SegN.nthE 0 j rfl (by omega) i64_size ez ?_|refine DrawN.mk' [] ?_|fail)));all_goals (conv=>whnf)
      (refine ⟨⟨j+1,⟨by omega,all_take 0 hjl hinj (by rw [← ha];exact hb)⟩,by omega,?_,.inl ⟨rfl,rfl⟩,rfl,_,rfl,?_⟩⟩;rotate_left 1;(first|exact .inl rfl|exact .inr ⟨by simp [zal,below,zaa,tr,zag,zaf,zah,zad,zai,zaj,zac,zae],by simp [zap,Blk.below,zaa,below,zag,zaf,zah,zad,zai,zaj,zac,zae]⟩|fail);(repeat' (first|exact trivial|refine ⟨⟨_,rfl,?_⟩,?_⟩|fail));all_goals try (first|exact Wk.refl _|exact Wk.of_eq (congrArg (AV.int _) (by omega))|fail))
    ·have hje:j=z.length:=by omega
     subst hje
     rw [List.take_length] at hinj
     rw [List.all_eq_true.2 hinj] at hok
     (repeat' ((conv=>whnf);(first|refine IfN.dF (by omega) ?_|(refine EqN.addN _ _ Cst.h Cst.h ?_ ?_;· omega)|refine DrawN.mk' [] ?_|fail)));all_goals (conv=>whnf)
     (refine ⟨⟨k+1,⟨by omega,all_take fnc0 hlt hinv hok⟩,by omega,?_,.inr ?_,rfl,_,rfl,?_⟩⟩;rotate_left 2;(first|exact .inl rfl|exact .inr ⟨by simp [zal,below,zaa,tr,zag,zaf,zah,zad,zai,zaj,zac,zae],by simp [zap,Blk.below,zaa,below,zag,zaf,zah,zad,zai,zaj,zac,zae]⟩|fail);all_goals (repeat' (first|exact trivial|refine ⟨⟨_,rfl,?_⟩,?_⟩|fail));all_goals try (first|exact Wk.refl _|exact Wk.of_eq (congrArg (AV.int _) (by omega))|fail))
   ·rw [decide_eq_false hzn,Bool.false_and] at hok
    rw [all_no fnc0 hlt hok,Bool.false_and]
    (repeat' ((conv=>whnf);(first|(refine IfN.id ?_;first|refine IfN.not ?_|refine IfN.dT (by omega) ?_|refine IfN.dF (by omega) ?_|fail)|(refine SideN.mk ?_ ?_;· first|kernel_rfl|omega|exact List.cons_ne_nil _ _|(simp;done)|(simp;omega)|exact trivial|assumption|fail)|refine CallD.det _ (fun _ hq X=>hpe _) ?_|refine SegN.nthE fnc0 k rfl (by omega) fnc_size e1 ?_|refine DrawN.mk' [] ?_|fail)));all_goals (conv=>whnf)
    exact EndN.det trivial (Wk.refl _)
  ·have hke:k=m.funcs.length:=by omega
   subst hke
   rw [List.take_length] at hinv
   rw [List.all_eq_true.2 hinv,Bool.true_and]
   (repeat' ((conv=>whnf);(first|refine IfN.dF (by omega) ?_|refine DrawN.mk' [] ?_|fail)));all_goals (conv=>whnf)
   refine za3 Tryz.E0 Tryz.mx (σ:=Nat) (fun k=>k≤m.binds.length∧∀ y∈m.binds.take k,okBnd n y=true) (fun k=>m.binds.length-k) (fun k=>[(97,.v (.int .i64 k))]) (fun _=>_) _ 0 rfl hcl [3,95,96] rfl ⟨Nat.zero_le _,fun y hy=>(by cases hy)⟩ ⟨⟨_,rfl,Wk.refl _⟩,trivial⟩ rfl (fun _ _=>rfl) ?_
   rintro k ⟨hk,hinv⟩
   rcases Nat.lt_or_ge k m.binds.length with hlt|hge
   ·obtain ⟨u,v,hx,e1⟩:=bnd_ex (f:=m.binds.getD k bnd0) rfl
    have hea:=fun H2=>hel v H2
    have hok:okBnd n (m.binds.getD k bnd0)=elB n v:=by
     rw [hx]
     rfl
    cases hb:elB n v <;> rw [hb] at hea hok
    ·rw [all_no bnd0 hlt hok]
     (repeat' ((conv=>whnf);(first|(refine IfN.id ?_;first|refine IfN.not ?_|refine IfN.ff rfl ?_|refine IfN.dT (by omega) ?_|fail)|(refine SideN.mk ?_ ?_;· first|kernel_rfl|omega|exact List.cons_ne_nil _ _|(simp;done)|(simp;omega)|exact trivial|assumption|fail)|refine CallN.det _ (hea _) ?_|refine SegN.nthE bnd0 k rfl (by omega) bnd_size e1 ?_|refine DrawN.mk' [] ?_|fail)));all_goals (conv=>whnf)
     exact EndN.det trivial (Wk.refl _)
    ·(repeat' ((conv=>whnf);(first|(refine IfN.id ?_;first|refine IfN.not ?_|refine IfN.tt rfl ?_|refine IfN.dT (by omega) ?_|fail)|(refine EqN.addN _ _ Cst.h Cst.h ?_ ?_;· omega)|(refine SideN.mk ?_ ?_;· first|kernel_rfl|omega|exact List.cons_ne_nil _ _|(simp;done)|(simp;omega)|exact trivial|assumption|fail)|refine CallN.det _ (hea _) ?_|refine SegN.nthE bnd0 k rfl (by omega) bnd_size e1 ?_|refine DrawN.mk' [] ?_|fail)));all_goals (conv=>whnf)
     (refine ⟨⟨k+1,⟨by omega,all_take bnd0 hlt hinv hok⟩,by omega,?_,.inl ⟨rfl,rfl⟩,rfl,_,rfl,?_⟩⟩;rotate_left 1;(first|exact .inl rfl|exact .inr ⟨by simp [zal,below,zaa,tr,zag,zaf,zah,zad,zai,zaj,zac,zae],by simp [zap,Blk.below,zaa,below,zag,zaf,zah,zad,zai,zaj,zac,zae]⟩|fail);(repeat' (first|exact trivial|refine ⟨⟨_,rfl,?_⟩,?_⟩|fail));all_goals try (first|exact Wk.refl _|exact Wk.of_eq (congrArg (AV.int _) (by omega))|fail))
   ·have hke:k=m.binds.length:=by omega
    subst hke
    rw [List.take_length] at hinv
    rw [List.all_eq_true.2 hinv]
    (repeat' ((conv=>whnf);(first|refine IfN.dF (by omega) ?_|refine DrawN.mk' [] ?_|fail)));all_goals (conv=>whnf)
    exact EndN.det trivial (Wk.refl _)
end
section
attribute [local irreducible] VW VCall VO bits
instance baDec:DecidableEq ByteArray:=fun a b=>if h:a.data=b.data then isTrue (by cases a;cases b;simp only at h;rw [h]) else isFalse fun e=>h (by rw [e])
def mpG (ks:List ByteArray):Blk:=.mp (ks.map fun c=>.str c) (ks.map fun _=>.bool true)
def bdG (ks:List ByteArray) (c:ByteArray→Int):Blk:=.mp (ks.map fun c=>.str c) (ks.map fun b=>.int .i64 (c b))
def memG (c:ByteArray) (ks:List ByteArray):Bool:=ks.any fun d=>decide (d=c)
theorem memG_iff (c:ByteArray) (ks:List ByteArray):memG c ks=true↔c∈ks:=by
 unfold memG
 rw [List.any_eq_true]
 exact ⟨fun ⟨d,hd,e⟩=>of_decide_eq_true e▸hd,fun h=>⟨c,h,decide_eq_true rfl⟩⟩
def insG (ks:List ByteArray) (c:ByteArray):List ByteArray:=if memG c ks=true then ks else ks++[c]
theorem strK_below (n:Nat) (ks:List ByteArray):zaa n (ks.map fun c=>AV.str c):=by
 induction ks with
 | nil=>trivial
 | cons c l ih=>exact ⟨trivial,ih⟩
theorem mpG_below (n:Nat) (ks:List ByteArray):(mpG ks).below n:=by
 simp only [mpG,Blk.below]
 refine ⟨strK_below n ks,?_⟩
 induction ks with
 | nil=>trivial
 | cons c l ih=>exact ⟨trivial,ih⟩
theorem bdG_below (n:Nat) (ks:List ByteArray) (f:ByteArray→Int):(bdG ks f).below n:=by
 simp only [bdG,Blk.below]
 refine ⟨strK_below n ks,?_⟩
 induction ks with
 | nil=>trivial
 | cons c l ih=>exact ⟨trivial,ih⟩
theorem ba_beqG (a b:ByteArray):(a.toList==b.toList)=decide (a=b):=by
 apply Bool.eq_iff_iff.2
 rw [decide_eq_true_eq]
 exact ba_eq
theorem mfindG (c:ByteArray):∀ ks:List ByteArray,(c∈ks→∃ j,j<ks.length∧ks[j]? = some c∧mfind (eqV Tryz.kn Tryz.T 20 9) (.str c) (ks.map fun c=>.str c)=some (some j))∧(c ∉ ks→mfind (eqV Tryz.kn Tryz.T 20 9) (.str c) (ks.map fun c=>.str c)=some none)
 | []=>⟨fun h=>by simp at h,fun _=>rfl⟩
 | d::ks=>by
   have he:eqV Tryz.kn Tryz.T 20 9 (.str c) (.str d)=some (decide (c=d)):=by
    show some (c.toList==d.toList)=_
    rw [ba_beqG]
   obtain ⟨h1,h2⟩:=mfindG c ks
   simp only [List.map_cons,mfind,he]
   by_cases hcd:c=d
   ·subst hcd
    simp only [decide_true]
    exact ⟨fun _=>⟨0,by simp,rfl,rfl⟩,fun h=>absurd (List.mem_cons_self) h⟩
   ·have hb:decide (c=d)=false:=by simpa using hcd
    simp only [hb]
    refine ⟨fun h=>?_,fun h=>?_⟩
    ·obtain ⟨j,e1,e2,e3⟩:=h1 ((List.mem_cons.1 h).resolve_left hcd)
     exact ⟨j+1,by simpa using e1,by simpa using e2,by rw [e3]⟩
    ·rw [h2 fun q=>h (List.mem_cons_of_mem _ q)]
theorem putG (c:ByteArray) (ks:List ByteArray):MPut (eqV Tryz.kn Tryz.T 20 9) (ks.map fun c=>.str c) (ks.map fun _=>.bool true) (.str c) (.bool true) ((insG ks c).map fun c=>.str c) ((insG ks c).map fun _=>.bool true):=by
 obtain ⟨h1,h2⟩:=mfindG c ks
 unfold insG
 by_cases h:c∈ks
 ·rw [if_pos ((memG_iff c ks).2 h)]
  obtain ⟨j,e1,e2,e3⟩:=h1 h
  have:=MPut.old (vs:=ks.map fun _=>AV.bool true) (v:=.bool true) j e3 (by rw [List.getElem?_map,e2];rfl)
  have hs:(ks.map fun _=>AV.bool true).set j (.bool true)=ks.map fun _=>.bool true:=by
   apply List.ext_getElem?
   intro i
   rw [List.getElem?_set]
   split
   ·rename_i hi
    subst hi
    simp [e1]
   ·rfl
  rwa [hs] at this
 ·rw [if_neg fun e=>h ((memG_iff c ks).1 e)]
  have:=MPut.new (vs:=ks.map fun _=>AV.bool true) (v:=.bool true) (h2 h)
  simpa using this
theorem mem_insG (ks:List ByteArray) (c d:ByteArray):c∈insG ks d↔c∈ks∨c=d:=by
 unfold insG
 split
 ·rename_i h
  exact ⟨.inl,fun h2=>h2.elim id fun e=>e▸(memG_iff d ks).1 h⟩
 ·simp
theorem nd_insG (ks:List ByteArray) (d:ByteArray) (h:ks.Nodup):(insG ks d).Nodup:=by
 unfold insG
 split
 ·exact h
 ·rename_i hn
  refine List.nodup_append.2 ⟨h,by simp,fun a ha b hb=>?_⟩
  rw [List.mem_singleton.1 hb]
  exact fun e=>hn ((memG_iff _ _).2 (e▸ha))
def updC (c:ByteArray→Int) (x:ByteArray) (a:Int):ByteArray→Int:=fun y=>if y=x then a else c y
theorem bdG_val (c:ByteArray→Int) (ks:List ByteArray) (j:Nat) (x:ByteArray) (h:ks[j]? = some x):(ks.map fun b=>AV.int .i64 (c b))[j]? = some (.int .i64 (c x)):=by
 rw [List.getElem?_map,h]
 rfl
theorem putC (c:ByteArray→Int) (x:ByteArray) (a:Int) (ks:List ByteArray) (hnd:ks.Nodup):MPut (eqV Tryz.kn Tryz.T 20 9) (ks.map fun c=>.str c) (ks.map fun b=>.int .i64 (c b)) (.str x) (.int .i64 a) ((insG ks x).map fun c=>.str c) ((insG ks x).map fun b=>.int .i64 (updC c x a b)):=by
 obtain ⟨h1,h2⟩:=mfindG x ks
 unfold insG
 by_cases h:x∈ks
 ·rw [if_pos ((memG_iff x ks).2 h)]
  obtain ⟨j,e1,e2,e3⟩:=h1 h
  have:=MPut.old (vs:=ks.map fun b=>AV.int .i64 (c b)) (v:=.int .i64 a) j e3 (by rw [List.getElem?_map,e2];rfl)
  have hs:(ks.map fun b=>AV.int .i64 (c b)).set j (.int .i64 a)=ks.map fun b=>.int .i64 (updC c x a b):=by
   apply List.ext_getElem?
   intro i
   rw [List.getElem?_set]
   split
   ·rename_i hi
    subst hi
    rw [bdG_val _ ks _ x e2,if_pos (by simpa using e1)]
    unfold updC
    rw [if_pos rfl]
   ·rename_i hi
    rw [List.getElem?_map,List.getElem?_map]
    cases hk:ks[i]? with
    | none=>rfl
    | some y =>
      have:y≠x:=fun e=>hi (by
       have hj:=(List.getElem?_eq_some_iff.1 e2)
       have hi2:=(List.getElem?_eq_some_iff.1 hk)
       exact (List.getElem_inj hnd).1 (by rw [hj.2,hi2.2,e]))
      simp only [Option.map_some,updC,if_neg this]
  rwa [hs] at this
 ·rw [if_neg fun e=>h ((memG_iff x ks).1 e)]
  have:=MPut.new (vs:=ks.map fun b=>AV.int .i64 (c b)) (v:=.int .i64 a) (h2 h)
  have hs:((ks++[x]).map fun b=>AV.int .i64 (updC c x a b))=(ks.map fun b=>AV.int .i64 (c b))++[.int .i64 a]:=by
   rw [List.map_append]
   congr 1
   ·refine List.map_congr_left fun y hy=>?_
    have hne:y≠x:=fun e=>h (by rw [← e];exact hy)
    unfold updC
    rw [if_neg hne]
   ·show [AV.int .i64 (updC c x a x)]=_
    unfold updC
    rw [if_pos rfl]
  rw [hs,List.map_append]
  exact this
mutual
def frT (c:ByteArray→Int) (ns:List ByteArray):Tm→List ByteArray
 | .mk v s l=>frTs c (if v=true∧c s=0 then insG ns s else ns) l
def frTs (c:ByteArray→Int) (ns:List ByteArray):List Tm→List ByteArray
 | []=>ns
 | x::l=>frTs c (frT c ns x) l
end
theorem frTs_nil (c:ByteArray→Int) (ns:List ByteArray):frTs c ns []=ns:=by unfold frTs;rfl
theorem frTs_cons (c:ByteArray→Int) (ns:List ByteArray) (x:Tm) (l:List Tm):frTs c ns (x::l)=frTs c (frT c ns x) l:=by rw [frTs.eq_def]
theorem frT_mk (c:ByteArray→Int) (ns:List ByteArray) (v:Bool) (s:ByteArray) (l:List Tm):frT c ns (.mk v s l)=frTs c (if v=true∧c s=0 then insG ns s else ns) l:=by rw [frT.eq_def]
def FrTP (x:Tm):Prop:=∀ (H:Heap) (i j:Nat) (bs:List ByteArray) (c:ByteArray→Int) (ns:List ByteArray),i≠j→(∀ s,s ∉ bs→c s=0)→H[i]? = some (bdG bs c)→H[j]? = some (mpG ns)→VCall Tryz.prog 206 [.agg x.cells,.mp i,.mp j] H (setR H j (mpG (frT c ns x)) (.tup []))
theorem frt_step (v:Bool) (s:ByteArray) (l:List Tm) (hll:l.length≤9223372036854775807) (ih:∀ x∈l,FrTP x):FrTP (.mk v s l):=by
 intro H i j bs c ns hij hcz hi hj
 rw [Tm.cells_mk,frT_mk]
 have hib:∀ B,(H.set j B)[i]? = some (bdG bs c):=fun B=>by rw [List.getElem?_set_ne (Ne.symm hij),hi]
 have hi0:=hi
 have hj0:=hj
 unfold bdG at hi
 unfold mpG at hj
 obtain ⟨f1,f2⟩:=mfindG s bs
 cases v
 ·simp only [Bool.false_eq_true,false_and,if_false]
  refine za8 Tryz.E0 Tryz.mx Tryz.func206 (by kernel_rfl) rfl (Nat.le_of_ble_eq_true rfl) rfl fun hcl hbl=>?_
  (repeat' ((conv=>whnf);(first|refine IfN.ff rfl ?_|refine DrawN.mk' [] ?_|fail)));all_goals (conv=>whnf)
  refine loop_B Tryz.E0 Tryz.mx (σ:=Nat×List ByteArray) (fun p=>p.1≤l.length∧frTs c (ns) l=frTs c p.2 (l.drop p.1)) (fun p=>l.length-p.1) (fun p=>[(23,.v (.int .i64 p.1))]) (fun p=>H.set j (mpG p.2)) (fun _=>_) _ (0,(ns)) (fun p _=>by simp) (fun p _=>closed_set hcl j _ (mpG_below _ _)) [1,2,21,22] rfl ⟨Nat.zero_le _,rfl⟩ ⟨⟨_,rfl,Wk.refl _⟩,trivial⟩ (set_self hj0).symm rfl (fun _ _=>rfl) ?_
  rintro ⟨k,N⟩ ⟨hk,hq⟩
  simp only at hk hq
  have hNl:(H.set j (mpG N)).length=H.length:=by simp
  by_cases hlt:k<l.length
  ·have hmem:=zas l k tm0 hlt
   rw [za7 l k tm0 hlt,frTs_cons] at hq
   have hx:=fun X=>ih _ hmem (H.set j (mpG N)++X) i j bs c N hij hcz (zan (hib _)) (zan (zaw hj0))
   obtain ⟨w1,w2,w3,w4,hw,hwb⟩:=tm_ex4 (l.getD k tm0)
   rw [hw] at hx
   generalize hr2:frT c N (l.getD k tm0)=N' at *
   generalize hB2:mpG N'=B2 at *
   (repeat' ((conv=>whnf);(first|refine IfN.dT (by omega) ?_|(refine EqN.addN _ _ Cst.h Cst.h ?_ ?_;· omega)|(refine SideN.mk ?_ ?_;· first|kernel_rfl|omega|exact List.cons_ne_nil _ _|(simp;done)|(simp;omega)|exact trivial|assumption|fail)|refine SegN.nthE tm0 k rfl hlt tm_size hw ?_|refine CallN.setB j _ _ _ _ (zaw hj0) (by simp) rfl (hx _) (List.set_set ..) ?_|refine DrawN.mk' [] ?_|fail)));all_goals (conv=>whnf)
   subst hB2
   (refine ⟨⟨(k+1,N'),⟨by simp only;omega,hq⟩,by omega,?_,.inl ⟨rfl,rfl⟩,rfl,_,rfl,?_⟩⟩;rotate_left 1;(first|exact .inl rfl|exact .inr ⟨by simp [zal,below,zaa,tr,zag,zaf,zah,zad,zai,zaj,zac,zae],by simp [zap,Blk.below,zaa,below,zag,zaf,zah,zad,zai,zaj,zac,zae]⟩|fail);(repeat' (first|exact trivial|refine ⟨⟨_,rfl,?_⟩,?_⟩|fail));all_goals try (first|exact Wk.refl _|exact Wk.of_eq (congrArg (AV.int _) (by omega))|fail))
  ·have hke:k=l.length:=by omega
   subst hke
   rw [List.drop_length,frTs_nil] at hq
   rw [hq]
   (repeat' ((conv=>whnf);(first|refine IfN.dF (by omega) ?_|refine DrawN.mk' [] ?_|fail)));all_goals (conv=>whnf)
   exact EndN.setB (mpG_below _ _) trivial (Wk.refl _)
 ·simp only [true_and]
  by_cases hm:s∈bs
  ·obtain ⟨jx,e1,e2,e3⟩:=f1 hm
   have e4:=bdG_val c bs jx s e2
   by_cases hz:c s=0
   ·rw [if_pos hz]
    rw [hz] at e4
    refine za8 Tryz.E0 Tryz.mx Tryz.func206 (by kernel_rfl) rfl (Nat.le_of_ble_eq_true rfl) rfl fun hcl hbl=>?_
    (repeat' ((conv=>whnf);(first|refine IfN.tt rfl ?_|refine SetN.mk _ rfl ?_|refine RelN.mk [_] [] ⟨⟨_,rfl⟩,jx,e3,e4⟩ ?_|refine RelN.mk _ _ ⟨⟨_,rfl⟩,putG s ns⟩ ?_|refine PtrN.base _ (by (repeat' (first|assumption|exact zau _ rfl|exact zar rfl|refine zaw (B':=?_) ?_|refine zan ?_|fail))) ?_|refine DrawN.mk' [] ?_|fail)));all_goals (conv=>whnf)
    refine loop_B Tryz.E0 Tryz.mx (σ:=Nat×List ByteArray) (fun p=>p.1≤l.length∧frTs c (insG ns s) l=frTs c p.2 (l.drop p.1)) (fun p=>l.length-p.1) (fun p=>[(23,.v (.int .i64 p.1))]) (fun p=>H.set j (mpG p.2)) (fun _=>_) _ (0,(insG ns s)) (fun p _=>by simp) (fun p _=>closed_set hcl j _ (mpG_below _ _)) [1,2,21,22] rfl ⟨Nat.zero_le _,rfl⟩ ⟨⟨_,rfl,Wk.refl _⟩,trivial⟩ rfl rfl (fun _ _=>rfl) ?_
    rintro ⟨k,N⟩ ⟨hk,hq⟩
    simp only at hk hq
    have hNl:(H.set j (mpG N)).length=H.length:=by simp
    by_cases hlt:k<l.length
    ·have hmem:=zas l k tm0 hlt
     rw [za7 l k tm0 hlt,frTs_cons] at hq
     have hx:=fun X=>ih _ hmem (H.set j (mpG N)++X) i j bs c N hij hcz (zan (hib _)) (zan (zaw hj0))
     obtain ⟨w1,w2,w3,w4,hw,hwb⟩:=tm_ex4 (l.getD k tm0)
     rw [hw] at hx
     generalize hr2:frT c N (l.getD k tm0)=N' at *
     generalize hB2:mpG N'=B2 at *
     (repeat' ((conv=>whnf);(first|refine IfN.dT (by omega) ?_|(refine EqN.addN _ _ Cst.h Cst.h ?_ ?_;· omega)|(refine SideN.mk ?_ ?_;· first|kernel_rfl|omega|exact List.cons_ne_nil _ _|(simp;done)|(simp;omega)|exact trivial|assumption|fail)|refine SegN.nthE tm0 k rfl hlt tm_size hw ?_|refine CallN.setB j _ _ _ _ (zaw hj0) (by simp) rfl (hx _) (List.set_set ..) ?_|refine DrawN.mk' [] ?_|fail)));all_goals (conv=>whnf)
     subst hB2
     (refine ⟨⟨(k+1,N'),⟨by simp only;omega,hq⟩,by omega,?_,.inl ⟨rfl,rfl⟩,rfl,_,rfl,?_⟩⟩;rotate_left 1;(first|exact .inl rfl|exact .inr ⟨by simp [zal,below,zaa,tr,zag,zaf,zah,zad,zai,zaj,zac,zae],by simp [zap,Blk.below,zaa,below,zag,zaf,zah,zad,zai,zaj,zac,zae]⟩|fail);(repeat' (first|exact trivial|refine ⟨⟨_,rfl,?_⟩,?_⟩|fail));all_goals try (first|exact Wk.refl _|exact Wk.of_eq (congrArg (AV.int _) (by omega))|fail))
    ·have hke:k=l.length:=by omega
     subst hke
     rw [List.drop_length,frTs_nil] at hq
     rw [hq]
     (repeat' ((conv=>whnf);(first|refine IfN.dF (by omega) ?_|refine DrawN.mk' [] ?_|fail)));all_goals (conv=>whnf)
     exact EndN.setB (mpG_below _ _) trivial (Wk.refl _)
   ·rw [if_neg hz]
    refine za8 Tryz.E0 Tryz.mx Tryz.func206 (by kernel_rfl) rfl (Nat.le_of_ble_eq_true rfl) rfl fun hcl hbl=>?_
    (repeat' ((conv=>whnf);(first|(refine IfN.id ?_;first|refine IfN.tt rfl ?_|refine IfN.dF (by omega) ?_|fail)|refine RelN.mk [_] [] ⟨⟨_,rfl⟩,jx,e3,e4⟩ ?_|refine PtrN.base _ (by (repeat' (first|assumption|exact zau _ rfl|exact zar rfl|refine zaw (B':=?_) ?_|refine zan ?_|fail))) ?_|refine DrawN.mk' [] ?_|fail)));all_goals (conv=>whnf)
    refine loop_B Tryz.E0 Tryz.mx (σ:=Nat×List ByteArray) (fun p=>p.1≤l.length∧frTs c (ns) l=frTs c p.2 (l.drop p.1)) (fun p=>l.length-p.1) (fun p=>[(23,.v (.int .i64 p.1))]) (fun p=>H.set j (mpG p.2)) (fun _=>_) _ (0,(ns)) (fun p _=>by simp) (fun p _=>closed_set hcl j _ (mpG_below _ _)) [1,2,21,22] rfl ⟨Nat.zero_le _,rfl⟩ ⟨⟨_,rfl,Wk.refl _⟩,trivial⟩ (set_self hj0).symm rfl (fun _ _=>rfl) ?_
    rintro ⟨k,N⟩ ⟨hk,hq⟩
    simp only at hk hq
    have hNl:(H.set j (mpG N)).length=H.length:=by simp
    by_cases hlt:k<l.length
    ·have hmem:=zas l k tm0 hlt
     rw [za7 l k tm0 hlt,frTs_cons] at hq
     have hx:=fun X=>ih _ hmem (H.set j (mpG N)++X) i j bs c N hij hcz (zan (hib _)) (zan (zaw hj0))
     obtain ⟨w1,w2,w3,w4,hw,hwb⟩:=tm_ex4 (l.getD k tm0)
     rw [hw] at hx
     generalize hr2:frT c N (l.getD k tm0)=N' at *
     generalize hB2:mpG N'=B2 at *
     (repeat' ((conv=>whnf);(first|refine IfN.dT (by omega) ?_|(refine EqN.addN _ _ Cst.h Cst.h ?_ ?_;· omega)|(refine SideN.mk ?_ ?_;· first|kernel_rfl|omega|exact List.cons_ne_nil _ _|(simp;done)|(simp;omega)|exact trivial|assumption|fail)|refine SegN.nthE tm0 k rfl hlt tm_size hw ?_|refine CallN.setB j _ _ _ _ (zaw hj0) (by simp) rfl (hx _) (List.set_set ..) ?_|refine DrawN.mk' [] ?_|fail)));all_goals (conv=>whnf)
     subst hB2
     (refine ⟨⟨(k+1,N'),⟨by simp only;omega,hq⟩,by omega,?_,.inl ⟨rfl,rfl⟩,rfl,_,rfl,?_⟩⟩;rotate_left 1;(first|exact .inl rfl|exact .inr ⟨by simp [zal,below,zaa,tr,zag,zaf,zah,zad,zai,zaj,zac,zae],by simp [zap,Blk.below,zaa,below,zag,zaf,zah,zad,zai,zaj,zac,zae]⟩|fail);(repeat' (first|exact trivial|refine ⟨⟨_,rfl,?_⟩,?_⟩|fail));all_goals try (first|exact Wk.refl _|exact Wk.of_eq (congrArg (AV.int _) (by omega))|fail))
    ·have hke:k=l.length:=by omega
     subst hke
     rw [List.drop_length,frTs_nil] at hq
     rw [hq]
     (repeat' ((conv=>whnf);(first|refine IfN.dF (by omega) ?_|refine DrawN.mk' [] ?_|fail)));all_goals (conv=>whnf)
     exact EndN.setB (mpG_below _ _) trivial (Wk.refl _)
  ·rw [if_pos (hcz s hm)]
   refine za8 Tryz.E0 Tryz.mx Tryz.func206 (by kernel_rfl) rfl (Nat.le_of_ble_eq_true rfl) rfl fun hcl hbl=>?_
   (repeat' ((conv=>whnf);(first|refine IfN.tt rfl ?_|refine SetN.mk _ rfl ?_|refine RelN.mk [] [] ⟨⟨_,rfl⟩,f2 hm⟩ ?_|refine RelN.mk _ _ ⟨⟨_,rfl⟩,putG s ns⟩ ?_|refine PtrN.base _ (by (repeat' (first|assumption|exact zau _ rfl|exact zar rfl|refine zaw (B':=?_) ?_|refine zan ?_|fail))) ?_|refine DrawN.mk' [] ?_|fail)));all_goals (conv=>whnf)
   refine loop_B Tryz.E0 Tryz.mx (σ:=Nat×List ByteArray) (fun p=>p.1≤l.length∧frTs c (insG ns s) l=frTs c p.2 (l.drop p.1)) (fun p=>l.length-p.1) (fun p=>[(23,.v (.int .i64 p.1))]) (fun p=>H.set j (mpG p.2)) (fun _=>_) _ (0,(insG ns s)) (fun p _=>by simp) (fun p _=>closed_set hcl j _ (mpG_below _ _)) [1,2,21,22] rfl ⟨Nat.zero_le _,rfl⟩ ⟨⟨_,rfl,Wk.refl _⟩,trivial⟩ rfl rfl (fun _ _=>rfl) ?_
   rintro ⟨k,N⟩ ⟨hk,hq⟩
   simp only at hk hq
   have hNl:(H.set j (mpG N)).length=H.length:=by simp
   by_cases hlt:k<l.length
   ·have hmem:=zas l k tm0 hlt
    rw [za7 l k tm0 hlt,frTs_cons] at hq
    have hx:=fun X=>ih _ hmem (H.set j (mpG N)++X) i j bs c N hij hcz (zan (hib _)) (zan (zaw hj0))
    obtain ⟨w1,w2,w3,w4,hw,hwb⟩:=tm_ex4 (l.getD k tm0)
    rw [hw] at hx
    generalize hr2:frT c N (l.getD k tm0)=N' at *
    generalize hB2:mpG N'=B2 at *
    (repeat' ((conv=>whnf);(first|refine IfN.dT (by omega) ?_|(refine EqN.addN _ _ Cst.h Cst.h ?_ ?_;· omega)|(refine SideN.mk ?_ ?_;· first|kernel_rfl|omega|exact List.cons_ne_nil _ _|(simp;done)|(simp;omega)|exact trivial|assumption|fail)|refine SegN.nthE tm0 k rfl hlt tm_size hw ?_|refine CallN.setB j _ _ _ _ (zaw hj0) (by simp) rfl (hx _) (List.set_set ..) ?_|refine DrawN.mk' [] ?_|fail)));all_goals (conv=>whnf)
    subst hB2
    (refine ⟨⟨(k+1,N'),⟨by simp only;omega,hq⟩,by omega,?_,.inl ⟨rfl,rfl⟩,rfl,_,rfl,?_⟩⟩;rotate_left 1;(first|exact .inl rfl|exact .inr ⟨by simp [zal,below,zaa,tr,zag,zaf,zah,zad,zai,zaj,zac,zae],by simp [zap,Blk.below,zaa,below,zag,zaf,zah,zad,zai,zaj,zac,zae]⟩|fail);(repeat' (first|exact trivial|refine ⟨⟨_,rfl,?_⟩,?_⟩|fail));all_goals try (first|exact Wk.refl _|exact Wk.of_eq (congrArg (AV.int _) (by omega))|fail))
   ·have hke:k=l.length:=by omega
    subst hke
    rw [List.drop_length,frTs_nil] at hq
    rw [hq]
    (repeat' ((conv=>whnf);(first|refine IfN.dF (by omega) ?_|refine DrawN.mk' [] ?_|fail)));all_goals (conv=>whnf)
    exact EndN.setB (mpG_below _ _) trivial (Wk.refl _)
mutual
theorem frt_c:∀ x:Tm,x.good→FrTP x
 | .mk v s l,h=>frt_step v s l (zbd h.2.1) (frts_all l h.2.2)
theorem frts_all:∀ l:List Tm,Tm.goodL l→∀ x∈l,FrTP x
 | [],_,x,hx=>by cases hx
 | y::l,h,x,hx=>by
   rcases List.mem_cons.1 hx with e|hx
   ·rw [e]
    exact frt_c y h.1
   ·exact frts_all l h.2 x hx
end
end
end Go.Proofs.YtgdmldelijeaoaaGreatDoor
