/- A text of the proof: the parts TB41, TF41, YB41, RA41, AB41, AC41, AD41, AE41, AF41, AG41, AH41, AI41, AJ41, VF41. -/
import Derived.Test.YtgdmldelijeaoaaGreatDoorK8
set_option linter.unusedSimpArgs false
set_option linter.unusedVariables false
set_option maxHeartbeats 8000000
namespace Go.Proofs.YtgdmldelijeaoaaGreatDoor
open Go.Vsi
section
def stepW (ks:List Sym) (x:Tm):List Sym×Bool:=match x with
 | .mk v s l=>(if v=true then ks else insY ks (s,l.length),true)
theorem stepW_true (l:List Tm):∀ ks,(foldE stepW ks l).2=true:=by
 induction l with
 | nil=>intro ks;rfl
 | cons x l ih =>
   intro ks
   rw [zc7]
   have hn:(stepW ks x).2=true:=by cases x;rfl
   rw [hn,if_pos rfl]
   exact ih _
def stepZ (ks:List Sym) (x:Fo):List Sym×Option Code:=((foldE stepW ks (tparts (targs x))).1,none)
def funY (f:Fo):List Sym:=(foldB stepZ [] (fpart f)).1
theorem stepZ_none (l:List Fo):∀ ks,(foldB stepZ ks l).2=none:=by
 induction l with
 | nil=>intro ks;rfl
 | cons x l ih =>
   intro ks
   rw [zfa]
   have hn:(stepZ ks x).2.isNone=true:=rfl
   rw [hn,if_pos rfl]
   exact ih _
attribute [local irreducible] VW VCall VO bits
theorem clo49_c (x:Tm) (ks:List Sym) (H:Heap) (i p:Nat) (hi:H[i]? = some (mpY ks)) (hp:H[p]? = some (.box 182 [.mp i])) :
  VCall Tryz.prog 205 [.agg x.cells,.ptr p 0] H (setR H i (mpY (stepW ks x).1) (.bool true)):=by
 obtain ⟨v,s,l,rfl⟩:=tm_ex x
 have hst:(stepW ks (.mk v s l)).1=if v=true then ks else insY ks (s,l.length):=rfl
 rw [zav,hst]
 have hput:=putY (s,l.length) ks
 unfold mpY at hi ⊢
 cases v with
 | true =>
   simp only [if_true]
   refine fdG Tryz.func205 ⟨rfl,rfl,rfl⟩ fun hcl hbl=>?_
   (repeat' ((conv=>whnf);(first|(refine yai ?_;first|refine yas ?_|refine yaq rfl ?_|fail)|fail)));conv=>whnf
   exact EndN.same hi trivial (yae _)
 | false =>
   simp only [yba,if_false]
   refine fdG Tryz.func205 ⟨rfl,rfl,rfl⟩ fun hcl hbl=>?_
   (repeat' ((conv=>whnf);(first|(refine yai ?_;first|refine yas ?_|refine yau rfl ?_|fail)|refine yeh _ rfl ?_|refine ydt _ _ ⟨⟨_,rfl⟩,hput⟩ ?_|refine ych _ (by (repeat' (first|assumption|exact zbc _ rfl|exact za2 rfl|refine za9 (B':=?_) ?_|refine zat ?_|fail))) ?_|fail)));conv=>whnf
   exact za0 (zgh _ _) trivial (yae _)
theorem fun_vis (base:Heap) (ls:List Sym→Heap) (a b N:Nat) (hN:∀ n,(base++ls n).length=N) (low:∀ n,∀ B∈base++ls n,B.below N) (ha:∀ n,lget (ls n) a=some (mpY n)) (hb:∀ n,lget (ls n) b=some (.box 182 [.mp (base.length+a)])) (hset:∀ n m,(ls n).set a (mpY m)=ls m) :
  Vis (.func 205) [.ptr (base.length+b) 0] Tm.cells Tm.good (fun n=>base++ls n) N (fun _=>True) (fun _=>True) stepW:=by
 refine ⟨fun _ _=>trivial,fun n _=>hN n,fun n _=>low n,fun _ _ _ _=>⟨trivial,fun _=>trivial⟩,fun n x Y _ _=>?_⟩
 have h:=clo49_c x n ((base++ls n)++Y) (base.length+a) (base.length+b) (zbc Y (ha n)) (zbc Y (hb n))
 refine VCall.mono h ?_
 rintro r H' ⟨rfl,rfl⟩
 have ht:(stepW n x).2=true:=by cases x;rfl
 refine ⟨by rw [ht],?_⟩
 rw [zd2 (ha n),hset]
theorem func_c (f:Fo) (hg:f.good) (hn:(funY f).length≤1000000000000) (H:Heap):VDet Tryz.prog 146 [.agg f.cells] H (.sl none (funY f).length ((sortY (funY f)).flatMap symC)):=by
 have hw:=walk_c f (H++[.box 29 f.cells,mpY [],.box 182 [.mp (H.length+1)]])
 rw [ya6] at hw
 have hce:∃ o s ln lc mn mc,f.cells=[.int .u8 (o:Nat),.str s,.sl none ln lc,.sl none mn mc]:=by
  obtain ⟨o,s,l,m,rfl⟩:=fo_ex f
  rw [zaq]
  exact ⟨_,_,_,_,_,_,rfl⟩
 obtain ⟨o,s,ln,lc,mn,mc,hce⟩:=hce
 have hjp:=stepZ_none (fpart f) []
 have hpr:funY f=(foldB stepZ [] (fpart f)).1:=rfl
 rw [hce] at hw ⊢
 have hso:=fun X=>sorted47_c (H++(lsY H.length [.int .u8 o,.str s,.sl none ln lc,.sl none mn mc] (mpY (funY f))++X)) (H.length+1) (funY f) hn (by simp [lsY])
 refine fdD Tryz.func146 ⟨rfl,rfl,rfl⟩ fun hcl hbl=>?_
 (repeat' ((conv=>whnf);(first|refine yek _ _ _ 4 hw rfl rfl rfl ?_|fail)));conv=>whnf
 refine range_walk clo_good f hg rfl hcl rfl [3] _ rfl (by decide) rfl (by simp [zaw,below,tr])
  (fun ks:List Sym=>lsY H.length [.int .u8 o,.str s,.sl none ln lc,.sl none mn mc] (mpY ks)) (fun _=>True) (fun _=>True) stepZ [] trivial rfl 3 (by rw [hce];rfl) (fun _ h=>h) (fun _ _=>rfl) ?_ (fun _ _ h hx=>⟨trivial,fun _=>trivial⟩) ?_ ?_
 ·intro ks _ B hB
  have h:=zgi H.length f ks (H.length+5) (by omega) B
  rw [hce] at h
  exact h hB
 ·intro ks x Y _ hx
  obtain ⟨o2,t2,a2,m2,rfl⟩:=fo_ex x
  rw [zaq]
  have hb0:=fun ks=>zgi H.length f ks (H.length+5) (by omega)
  rw [hce] at hb0
  have hbk:zaw H.length (H.length+5) [(3,.lp (0+1+1) 0)]:=by simp [zaw,below,tr]
  have hst:stepZ ks (.mk o2 t2 a2 m2)=((foldE stepW ks (tparts a2)).1,none):=rfl
  have htr:=stepW_true (tparts a2) ks
  rw [hst]
  unfold lsY at hb0 ⊢
  conv=>whnf
  refine ⟨none,_,zbc Y rfl,zd2 rfl,?_⟩
  generalize hB:Blk.loop LoopState.busy none _ _=B
  have hBb:B.below (H.length+5):=hB▸ze9 hbk
  have hv:=fun_vis H (fun n=>[.box 29 [.int .u8 o,.str s,.sl none ln lc,.sl none mn mc],mpY n,.box 182 [.mp (H.length+1)],.box 29 [.int .u8 o,.str s,.sl none ln lc,.sl none mn mc],B]) 1 2 (H.length+5) (fun _=>by simp) (fun n C hC=>by
   rcases ybl.1 hC with h|h
   ·obtain ⟨j,hj⟩:=ycy h
    exact ydp (by omega) (hcl j C hj)
   ·have:=hb0 n C
    simp only [yay,yc5,or_false] at h this
    rcases h with rfl|rfl|rfl|rfl|rfl
    ·exact this (.inl rfl)
    ·exact zgh _ _
    ·simp [Blk.below,zab,below]
    ·exact this (.inl rfl)
    ·exact hBb) (fun _=>rfl) (fun _=>rfl) (fun _ _=>rfl)
  have hvt:=fun X=>visitTerms_c hv (by simp) a2 (zaz hx.2.2.1) hx.2.2.2.1 ks X trivial
  rw [htr] at hvt
  generalize (foldE stepW ks (tparts a2)).1=k2 at hvt ⊢
  have hvt2:∀ Z:Heap,VCall Tryz.prog 204 [.sl none a2.length (a2.flatMap Tm.cells),.clo (.func 205) [] [.ptr (H.length+2) 0]] (((H++[.box 29 [.int .u8 o,.str s,.sl none ln lc,.sl none mn mc],mpY ks,.box 182 [.mp (H.length+1)],.box 29 [.int .u8 o,.str s,.sl none ln lc,.sl none mn mc],B])++Y)++Z) (fun r H'=>r=.bool true∧H'=((H++[.box 29 [.int .u8 o,.str s,.sl none ln lc,.sl none mn mc],mpY k2,.box 182 [.mp (H.length+1)],.box 29 [.int .u8 o,.str s,.sl none ln lc,.sl none mn mc],B])++Y)++Z):=fun Z=>by
   have:=hvt (Y++Z)
   simpa only [ybf] using this
  clear hvt
  (repeat' ((conv=>whnf);(first|refine ycv _ _ _ _ (hvt2 _) (by simp) rfl ?_|fail)));conv=>whnf
  subst hB
  exact rnd_end (l':=[_,_,_,_]) .normal rfl rfl (hb0 k2) hbk
 ·rw [← hpr]
  generalize foldB stepZ [] (fpart f)=res at *
  obtain ⟨ps,jp⟩:=res
  simp only at hjp ⊢
  subst hjp
  unfold lsY at hso ⊢
  generalize funY f=pf at *
  (repeat' ((conv=>whnf);(first|refine yab _ (hso _) ?_|fail)));conv=>whnf
  refine ya2 ?_ (yae _)
  exact ⟨fun _ e=>(nomatch e),zca _ _⟩
end
section
attribute [local irreducible] VW VCall VO bits
theorem right_c (f:Fo) (hg:f.good) (H:Heap):VDet Tryz.prog 120 [.agg f.cells] H (.bool (jF 1 f 400).2):=by
 have h:=form_g f hg (H++[.box 29 f.cells,jB 400]) (H.length+1) 400 1 (by simp) (by omega) (by omega)
 have hce:∃ o s ln lc mn mc,f.cells=[.int .u8 (o:Nat),.str s,.sl none ln lc,.sl none mn mc]:=by
  obtain ⟨o,s,l,m,rfl⟩:=fo_ex f
  rw [zaq]
  exact ⟨_,_,_,_,_,_,rfl⟩
 obtain ⟨o,s,ln,lc,mn,mc,hce⟩:=hce
 rw [hce] at h ⊢
 generalize jF 1 f 400=r at *
 obtain ⟨L,b⟩:=r
 simp only at h ⊢
 have h2:VCall Tryz.prog 180 [.ptr (H.length+1) 0,.agg [.int .u8 o,.str s,.sl none ln lc,.sl none mn mc],.int .i64 (1:Nat)] (H++[.box 29 [.int .u8 o,.str s,.sl none ln lc,.sl none mn mc],jB 400]) (fun r H'=>r=.bool b∧H'=H++[.box 29 [.int .u8 o,.str s,.sl none ln lc,.sl none mn mc],jB L]):=by
  refine VCall.mono h ?_
  rintro r H' ⟨h4,h3⟩
  rw [zeg] at h4
  exact ⟨h3,h4⟩
 unfold jB at h2
 refine fdD Tryz.func120 ⟨rfl,rfl,rfl⟩ fun hcl hbl=>?_
 (repeat' ((conv=>whnf);(first|refine ycv _ _ _ 2 h2 rfl rfl ?_|fail)));conv=>whnf
 exact eT trivial
end
section
open Go.Shelf Go.RowKit Go.Sort
theorem insY_mem (ks:List Sym) (x y:Sym):y∈insY ks x↔y∈ks∨y=x:=by
 unfold insY
 split
 ·rename_i h
  rw [zh7] at h
  constructor
  ·exact .inl
  ·rintro (h1|rfl)
   ·exact h1
   ·exact h
 ·simp
theorem insY_nd (ks:List Sym) (x:Sym) (h:ks.Nodup):(insY ks x).Nodup:=by
 unfold insY
 split
 ·exact h
 ·rename_i hn
  rw [List.nodup_append]
  refine ⟨h,by simp,fun a ha b hb=>?_⟩
  simp at hb
  subst hb
  exact fun e=>hn ((zh7 _ _).2 (e▸ha))
theorem foldY_cons (ks:List Sym) (x:Fo) (l:List Fo):(foldB stepY ks (x::l)).1=(foldB stepY (stepY ks x).1 l).1:=by
 rw [zfa]
 have hn:(stepY ks x).2.isNone=true:=by cases x;rfl
 rw [hn,if_pos rfl]
def zia (x:Fo) (s:Sym):Prop:=match x with
 | .mk o t l _=>o=1∧s=(t,l.length)
theorem foldY_mem:∀ (l:List Fo) (ks:List Sym) (s:Sym),s∈(foldB stepY ks l).1↔s∈ks∨∃ x∈l,zia x s
 | [],ks,s=>by simp [foldB]
 | x::l,ks,s=>by
   rw [foldY_cons,foldY_mem l]
   have hs:s∈(stepY ks x).1↔s∈ks∨zia x s:=by
    obtain ⟨o,t,a,m,rfl⟩:=fo_ex x
    unfold stepY zia
    simp only
    split
    ·rename_i h
     rw [insY_mem]
     simp [h]
    ·rename_i h
     simp [h]
   rw [hs]
   constructor
   ·rintro ((h|h)|⟨y,hy,h⟩)
    ·exact .inl h
    ·exact .inr ⟨x,ybd ..,h⟩
    ·exact .inr ⟨y,ya5 _ hy,h⟩
   ·rintro (h|⟨y,hy,h⟩)
    ·exact .inl (.inl h)
    ·rcases yay.1 hy with rfl|hy
     ·exact .inl (.inr h)
     ·exact .inr ⟨y,hy,h⟩
theorem foldY_nd:∀ (l:List Fo) (ks:List Sym),ks.Nodup→(foldB stepY ks l).1.Nodup
 | [],ks,h=>by simpa [foldB] using h
 | x::l,ks,h=>by
   rw [foldY_cons]
   refine foldY_nd l _ ?_
   obtain ⟨o,t,a,m,rfl⟩:=fo_ex x
   unfold stepY
   simp only
   split
   ·exact insY_nd _ _ h
   ·exact h
theorem predY_nd (f:Fo):(predY f).Nodup:=foldY_nd _ _ ydx
def zda (x:Tm) (s:Sym):Prop:=match x with
 | .mk v t l=>v=false∧s=(t,l.length)
theorem foldW_mem:∀ (l:List Tm) (ks:List Sym) (s:Sym),s∈(foldE stepW ks l).1↔s∈ks∨∃ x∈l,zda x s
 | [],ks,s=>by simp [foldE]
 | x::l,ks,s=>by
   have hn:(stepW ks x).2=true:=by cases x;rfl
   rw [zc7,hn,if_pos rfl,foldW_mem l]
   have hs:s∈(stepW ks x).1↔s∈ks∨zda x s:=by
    obtain ⟨v,t,a,rfl⟩:=tm_ex x
    unfold stepW zda
    simp only
    cases v with
    | true=>simp
    | false =>
      simp only [yba,if_false]
      rw [insY_mem]
      simp
   rw [hs]
   constructor
   ·rintro ((h|h)|⟨y,hy,h⟩)
    ·exact .inl h
    ·exact .inr ⟨x,ybd ..,h⟩
    ·exact .inr ⟨y,ya5 _ hy,h⟩
   ·rintro (h|⟨y,hy,h⟩)
    ·exact .inl (.inl h)
    ·rcases yay.1 hy with rfl|hy
     ·exact .inl (.inr h)
     ·exact .inr ⟨y,hy,h⟩
theorem foldW_nd:∀ (l:List Tm) (ks:List Sym),ks.Nodup→(foldE stepW ks l).1.Nodup
 | [],ks,h=>by simpa [foldE] using h
 | x::l,ks,h=>by
   have hn:(stepW ks x).2=true:=by cases x;rfl
   rw [zc7,hn,if_pos rfl]
   refine foldW_nd l _ ?_
   obtain ⟨v,t,a,rfl⟩:=tm_ex x
   unfold stepW
   simp only
   split
   ·exact h
   ·exact insY_nd _ _ h
theorem foldZ_cons (ks:List Sym) (x:Fo) (l:List Fo):(foldB stepZ ks (x::l)).1=(foldB stepZ (stepZ ks x).1 l).1:=by
 rw [zfa]
 rfl
theorem foldZ_mem:∀ (l:List Fo) (ks:List Sym) (s:Sym),s∈(foldB stepZ ks l).1↔s∈ks∨∃ x∈l,∃ t∈tparts (targs x),zda t s
 | [],ks,s=>by simp [foldB]
 | x::l,ks,s=>by
   rw [foldZ_cons,foldZ_mem l]
   unfold stepZ
   simp only
   rw [foldW_mem]
   constructor
   ·rintro ((h|h)|⟨y,hy,h⟩)
    ·exact .inl h
    ·exact .inr ⟨x,ybd ..,h⟩
    ·exact .inr ⟨y,ya5 _ hy,h⟩
   ·rintro (h|⟨y,hy,h⟩)
    ·exact .inl (.inl h)
    ·rcases yay.1 hy with rfl|hy
     ·exact .inl (.inr h)
     ·exact .inr ⟨y,hy,h⟩
theorem foldZ_nd:∀ (l:List Fo) (ks:List Sym),ks.Nodup→(foldB stepZ ks l).1.Nodup
 | [],ks,h=>by simpa [foldB] using h
 | x::l,ks,h=>by
   rw [foldZ_cons]
   exact foldZ_nd l _ (foldW_nd _ _ h)
theorem funY_nd (f:Fo):(funY f).Nodup:=foldZ_nd _ _ ydx
end
section
attribute [local irreducible] VW VCall VO bits
theorem tq_parts:∀ (t:Tq) (s:Sym),(∃ x∈tpart t.tm,zda x s)↔t.hasC s.1 s.2
 | .vr c,s=>by
   show (∃ x∈tpart (.mk true c []),zda x s)↔False
   rw [zhv,zcx]
   simp [zda]
 | .cn c,s=>by
   show (∃ x∈tpart (.mk false c []),zda x s)↔(c=s.1∧(s.2:Int)=0)
   rw [zhv,zcx]
   obtain ⟨a,n⟩:=s
   simp only [yaz,exists_eq_left,zda,true_and,ybg,ycf]
   exact ⟨fun h=>⟨h.1.symm,by omega⟩,fun h=>⟨h.1.symm,by omega⟩⟩
 | .ap c t,s=>by
   have ih:=tq_parts t s
   show (∃ x∈tpart (.mk false c [t.tm]),zda x s)↔((c=s.1∧(s.2:Int)=1)∨t.hasC s.1 s.2)
   rw [zhv,zfd,zcx,yat,← ih]
   obtain ⟨a,n⟩:=s
   constructor
   ·rintro ⟨x,hx,h⟩
    rcases yay.1 hx with rfl|hx
    ·have h:false=false∧(a,n)=(c,1):=h
     cases h.2
     exact .inl ⟨rfl,rfl⟩
    ·exact .inr ⟨x,hx,h⟩
   ·rintro (⟨h1,h2⟩|⟨x,hx,h⟩)
    ·refine ⟨_,ybd,?_⟩
     show false=false∧(a,n)=(c,1)
     have h2:(n:Int)=1:=h2
     have:n=1:=by omega
     subst this
     exact ⟨rfl,by rw [show c=a from h1]⟩
    ·exact ⟨x,ya5 _ hx,h⟩
theorem tqs_parts (l:List Tq) (s:Sym):(∃ x∈tparts (l.map Tq.tm),zda x s)↔∃ t∈l,t.hasC s.1 s.2:=by
 induction l with
 | nil=>simp [zcx]
 | cons t l ih =>
   rw [yb4,zfd]
   constructor
   ·rintro ⟨x,hx,h⟩
    rcases ybl.1 hx with hx|hx
    ·exact ⟨t,ybd,(tq_parts t s).1 ⟨x,hx,h⟩⟩
    ·obtain ⟨u,hu,h2⟩:=ih.1 ⟨x,hx,h⟩
     exact ⟨u,ya5 _ hu,h2⟩
   ·rintro ⟨u,hu,h⟩
    rcases yay.1 hu with rfl|hu
    ·obtain ⟨x,hx,h2⟩:=(tq_parts u s).2 h
     exact ⟨x,List.mem_append_left _ hx,h2⟩
    ·obtain ⟨x,hx,h2⟩:=ih.2 ⟨u,hu,h⟩
     exact ⟨x,List.mem_append_right _ hx,h2⟩
theorem zed {α:Type} {P:α→Prop} {a:α} {l:List α}:(∃ x∈a::l,P x)↔P a∨∃ x∈l,P x:=by
 simp
theorem ex_app {α:Type} {P:α→Prop} {l m:List α}:(∃ x∈l++m,P x)↔(∃ x∈l,P x)∨∃ x∈m,P x:=by
 constructor
 ·rintro ⟨x,hx,h⟩
  rcases ybl.1 hx with hx|hx
  ·exact .inl ⟨x,hx,h⟩
  ·exact .inr ⟨x,hx,h⟩
 ·rintro (⟨x,hx,h⟩|⟨x,hx,h⟩)
  ·exact ⟨x,List.mem_append_left _ hx,h⟩
  ·exact ⟨x,List.mem_append_right _ hx,h⟩
theorem no_ex {α:Type} {P:α→Prop}:(∃ x∈([]:List α),P x)↔False:=by simp
theorem zgm:∀ (p:Fq) (s:Sym),p.Ok→((∃ x∈fpart p.fo,zia x s)↔p.hasP s.1 s.2)
 | .at_ c l,s,_=>by
   show (∃ x∈fpart (.mk 1 c (l.map Tq.tm) []),zia x s)↔(c=s.1∧(s.2:Int)=l.length)
   rw [zcz,zb1,zed,no_ex,or_false]
   obtain ⟨a,n⟩:=s
   show (1=1∧(a,n)=(c,(l.map Tq.tm).length))↔_
   rw [yav]
   simp only [true_and,ycf]
   exact ⟨fun h=>⟨h.1.symm,by omega⟩,fun h=>⟨h.1.symm,by omega⟩⟩
 | .fa,s,_=>by
   show (∃ x∈fpart (.mk 2 .empty [] []),zia x s)↔False
   rw [zcz,zb1,zed,no_ex,or_false]
   exact ⟨fun h=>(by cases h.1),fun h=>h.elim⟩
 | .f1 a,s,h=>by
   show (∃ x∈fpart (.mk 3 .empty [] [a.fo]),zia x s)↔a.hasP s.1 s.2
   rw [zcz,zce,zb1,yat,zed,zgm a s h]
   exact ⟨fun h=>h.elim (fun h=>by cases h.1) id,.inr⟩
 | .f2 k a b,s,h=>by
   show (∃ x∈fpart (.mk k .empty [] [a.fo,b.fo]),zia x s)↔(a.hasP s.1 s.2∨b.hasP s.1 s.2)
   rw [zcz,zce,zce,zb1,yat,zed,ex_app,zgm a s h.2.1,zgm b s h.2.2]
   exact ⟨fun q=>q.elim (fun q=>by have h1:k=1:=q.1;have:=h.1;omega) id,.inr⟩
 | .qn k y a,s,h=>by
   show (∃ x∈fpart (.mk k y [] [a.fo]),zia x s)↔a.hasP s.1 s.2
   rw [zcz,zce,zb1,yat,zed,zgm a s h.2]
   exact ⟨fun q=>q.elim (fun q=>by have h1:k=1:=q.1;have:=h.1;omega) id,.inr⟩
theorem zh5 {p:Fq} (h:p.Ok) (s:Sym):s∈predY p.fo↔p.hasP s.1 s.2:=by
 unfold predY
 rw [foldY_mem,zgm p s h]
 simp
theorem zgn:∀ (p:Fq) (s:Sym),p.Ok→((∃ x∈fpart p.fo,∃ t∈tparts (targs x),zda t s)↔p.hasC s.1 s.2)
 | .at_ c l,s,_=>by
   show (∃ x∈fpart (.mk 1 c (l.map Tq.tm) []),∃ t∈tparts (targs x),zda t s)↔∃ t∈l,t.hasC s.1 s.2
   rw [zcz,zb1,zed,no_ex,or_false]
   exact tqs_parts l s
 | .fa,s,_=>by
   show (∃ x∈fpart (.mk 2 .empty [] []),∃ t∈tparts (targs x),zda t s)↔False
   rw [zcz,zb1,zed,no_ex,or_false]
   show (∃ t∈tparts [],zda t s)↔False
   rw [zcx,no_ex]
 | .f1 a,s,h=>by
   show (∃ x∈fpart (.mk 3 .empty [] [a.fo]),∃ t∈tparts (targs x),zda t s)↔a.hasC s.1 s.2
   rw [zcz,zce,zb1,yat,zed,zgn a s h]
   show ((∃ t∈tparts [],zda t s)∨_)↔_
   rw [zcx,no_ex,false_or]
 | .f2 k a b,s,h=>by
   show (∃ x∈fpart (.mk k .empty [] [a.fo,b.fo]),∃ t∈tparts (targs x),zda t s)↔(a.hasC s.1 s.2∨b.hasC s.1 s.2)
   rw [zcz,zce,zce,zb1,yat,zed,ex_app,zgn a s h.2.1,zgn b s h.2.2]
   show ((∃ t∈tparts [],zda t s)∨_)↔_
   rw [zcx,no_ex,false_or]
 | .qn k y a,s,h=>by
   show (∃ x∈fpart (.mk k y [] [a.fo]),∃ t∈tparts (targs x),zda t s)↔a.hasC s.1 s.2
   rw [zcz,zce,zb1,yat,zed,zgn a s h.2]
   show ((∃ t∈tparts [],zda t s)∨_)↔_
   rw [zcx,no_ex,false_or]
theorem mem_funY {p:Fq} (h:p.Ok) (s:Sym):s∈funY p.fo↔p.hasC s.1 s.2:=by
 unfold funY
 rw [foldZ_mem,zgn p s h]
 simp
theorem zcu (n:Int):(enc64 n).length=1:=rfl
theorem zam (n:Nat) (l:List Int):zab n (l.flatMap enc64):=zbl _ fun x=>by simp [enc64,zab,below]
theorem zbr (f:Fct):f.cells.length=3:=rfl
theorem zbw (f:Fnc):f.cells.length=3:=rfl
theorem zbs (f:Bnd):f.cells.length=2:=rfl
theorem fct_below (n:Nat) (f:Fct):zab n f.cells:=by simp [Fct.cells,zab,below]
theorem fnc_below (n:Nat) (f:Fnc):zab n f.cells:=by simp [Fnc.cells,zab,below,zam]
theorem bnd_below (n:Nat) (f:Bnd):zab n f.cells:=by simp [Bnd.cells,zab,below]
theorem zah (n:Nat) (l:List Fct):zab n (l.flatMap Fct.cells):=zbl _ (fct_below n)
theorem zak (n:Nat) (l:List Fnc):zab n (l.flatMap Fnc.cells):=zbl _ (fnc_below n)
theorem zai (n:Nat) (l:List Bnd):zab n (l.flatMap Bnd.cells):=zbl _ (bnd_below n)
theorem zhc {f x:Fct} (h:x=f):∃ a b c,x=⟨a,b,c⟩∧f.cells=[.str a,.int .i64 b,.int .i64 c]:=⟨_,_,_,rfl,by rw [← h];rfl⟩
theorem zha {f x:Fnc} (h:x=f):∃ a b c,x=⟨a,b,c⟩∧f.cells=[.str a,.int .i64 b,.sl none c.length (c.flatMap enc64)]:=⟨_,_,_,rfl,by rw [← h];rfl⟩
theorem zf4 {f x:Bnd} (h:x=f):∃ a b,x=⟨a,b⟩∧f.cells=[.str a,.int .i64 b]:=⟨_,_,rfl,by rw [← h];rfl⟩
theorem power_c (b:Int) (e:Nat) (hb:1≤b∧b≤3) (he:e≤10) (H:Heap):VDet Tryz.prog 93 [.int .i64 b,.int .i64 e] H (.int .i64 (b ^ e)):=by
 have hp:∀ k,k≤10→1≤b ^ k∧b ^ k≤59049:=by
  intro k hk
  have h1:∀ j:Nat,1≤b ^ j∧b ^ j≤3 ^ j:=by
   intro j
   induction j with
   | zero=>simp
   | succ j ih =>
     rw [yd3,yd3]
     constructor
     ·have:=Int.mul_le_mul ih.1 hb.1 (by decide) (by omega)
      omega
     ·exact Int.mul_le_mul ih.2 hb.2 (by omega) (by have:(0:Int)≤3 ^ j:=Int.pow_nonneg (by decide);omega)
  have h2:(3:Int) ^ k≤3 ^ 10:=by
   have:(3:Nat) ^ k≤3 ^ 10:=ycb (by decide) hk
   exact_mod_cast this
  have:=h1 k
  exact ⟨this.1,by omega⟩
 refine fdD Tryz.func93 ⟨rfl,rfl,rfl⟩ fun hcl hbl=>?_
 conv=>whnf
 refine zax Tryz.E0 zag (σ:=Nat) (fun k=>k≤e) (fun k=>e-k) (fun k=>[(5,.v (.int .i64 (b ^ k))),(7,.v (.int .i64 k))]) (fun _=>[]) _ 0 rfl hcl [0,6] rfl (yah _) ⟨⟨_,rfl,zaf (congrArg (AV.int _) (Int.pow_zero b).symm)⟩,⟨_,rfl,yae _⟩,trivial⟩ rfl (fun _ _=>rfl) ?_
 intro k hk
 rcases yag k e with hlt|hge
 ·have h1:=hp (k+1) (by omega)
  rw [yd3] at h1
  have h2:=yd3 b k
  (repeat' ((conv=>whnf);(first|refine yar (by omega) ?_|(refine yc0 ?_;first|(refine zad _ _ Cst.h Cst.h ?_ ?_;· omega)|refine yco (by omega) ?_|fail)|fail)));conv=>whnf
  rw [← h2]
  (refine ⟨⟨k+1,by show k+1≤_;omega,by omega,?_,.inl ⟨rfl,rfl⟩,rfl,_,rfl,?_⟩⟩;rotate_left 1;exact .inl rfl;exact ⟨⟨_,rfl,yae _⟩,⟨_,rfl,yae _⟩,trivial⟩)
 ·have:k=e:=by omega
  subst this
  (repeat' ((conv=>whnf);(first|refine ya1 (by omega) ?_|fail)));conv=>whnf
  exact eT trivial
abbrev SymI:=ByteArray×Int
def symI (x:SymI):List AV:=[.str x.1,.int .i64 x.2]
def symI0:SymI:=(.empty,0)
theorem za6 (x:SymI):(symI x).length=2:=rfl
theorem symI_below (n:Nat) (x:SymI):zab n (symI x):=by simp [symI,zab,below]
theorem zaj (n:Nat) (l:List SymI):zab n (l.flatMap symI):=zbl _ (symI_below n)
def cSymI (x y:SymI):Int:=andC (cmpB x.1 y.1) (cmpI x.2 y.2)
theorem nan_c (a:Int) (H:Heap):VDet Tryz.prog 241 [.int .i64 a] H (.bool false):=by
 refine fdD Tryz.func241 ⟨rfl,rfl,rfl⟩ fun hcl hbl=>?_
 conv=>whnf
 exact ya2 trivial (zaf (by simp))
theorem cmpi_c (a b:Int) (H:Heap):VDet Tryz.prog 210 [.int .i64 a,.int .i64 b] H (.int .i64 (cmpI a b)):=by
 refine fdD Tryz.func210 ⟨rfl,rfl,rfl⟩ fun hcl hbl=>?_
 (repeat' ((conv=>whnf);(first|(refine yai ?_;first|refine yau rfl ?_|refine zcy (fun _=>?_) (fun _=>?_)|fail)|refine yab _ (nan_c _ _) ?_|fail)));all_goals (conv=>whnf)
 all_goals
  refine ya2 trivial (zaf (congrArg (AV.int .i64) ?_))
  unfold cmpI
  repeat' split
  all_goals omega
theorem csym_c (x y:SymI) (H:Heap):VDet Tryz.prog 149 [.agg (symI x),.agg (symI y)] H (.int .i64 (cSymI x y)):=by
 obtain ⟨a,n⟩:=x
 obtain ⟨b,m⟩:=y
 have h1:=fun H=>strCmp_c a b H
 have h2:=fun H=>cmpi_c n m H
 unfold symI cSymI andC
 simp only
 by_cases hc:cmpB a b=0
 ·rw [if_pos hc]
  rw [hc] at h1
  refine fdD Tryz.func149 ⟨rfl,rfl,rfl⟩ fun hcl hbl=>?_
  (repeat' ((conv=>whnf);(first|(refine yai ?_;first|refine yas ?_|refine yaq rfl ?_|fail)|(refine ybm ?_;first|refine yab _ (h1 _) ?_|refine yab _ (h2 _) ?_|fail)|fail)));conv=>whnf
  exact eT trivial
 ·rw [if_neg hc]
  generalize cmpB a b=c at *
  refine fdD Tryz.func149 ⟨rfl,rfl,rfl⟩ fun hcl hbl=>?_
  (repeat' ((conv=>whnf);(first|(refine yai ?_;first|refine yas ?_|refine ya1 (by omega) ?_|fail)|refine yab _ (h1 _) ?_|fail)));conv=>whnf
  exact eT trivial
theorem key140_c (x:Fct) (H:Heap):VDet Tryz.prog 140 [.agg x.cells] H (.agg [.str x.nm,.int .i64 x.ar]):=by
 obtain ⟨u,v,z⟩:=x
 unfold Fct.cells
 refine fdD Tryz.func140 ⟨rfl,rfl,rfl⟩ fun hcl hbl=>?_
 conv=>whnf
 exact eT (by simp [below,zab])
theorem find139_c (l:List Fct) (hl:l.length≤4611686018427387904) (s:ByteArray) (a:Int) (H:Heap):VDet Tryz.prog 139 [.sl none l.length (l.flatMap Fct.cells),.clo (.func 140) [] [],.agg [.str s,.int .i64 a]] H (.tup [.agg ((l.find? (factP s a)).getD fct0).cells,.bool (l.find? (factP s a)).isSome]):=by
 refine fdD Tryz.func139 ⟨rfl,rfl,rfl⟩ fun hcl hbl=>?_
 conv=>whnf
 refine zax Tryz.E0 zag (σ:=Nat) (fun k=>k≤l.length∧l.find? (factP s a)=(l.drop k).find? (factP s a)) (fun k=>l.length-k) (fun k=>[(13,.v (.int .i64 k))]) (fun _=>[.box 92 [.str s,.int .i64 a],.box 95 [.str .empty,.int .i64 0,.int .i64 0]]) _ 0 rfl hcl [1,5,6,11,12] rfl ⟨yah _,rfl⟩ ⟨⟨_,rfl,yae _⟩,trivial⟩ rfl (fun _ _=>rfl) ?_
 rintro k ⟨hk,hinv⟩
 rcases yag k l.length with hlt|hge
 ·have hd:=zbn l k fct0 hlt
  rw [hd,yc8] at hinv
  obtain ⟨u,v,z,hx,e1⟩:=zhc (f:=l.getD k fct0) rfl
  have hke:=fun H=>key140_c (l.getD k fct0) H
  rw [e1] at hke
  cases hp:factP s a (l.getD k fct0) with
  | true =>
    rw [hp] at hinv
    rw [hx] at hp hke
    have hp2:(u.toList==s.toList&&(v==a&&true))=true:=by simpa [factP] using hp
    rw [hinv]
    (repeat' ((conv=>whnf);(first|(refine yai ?_;first|refine yar (by omega) ?_|refine yaq (by assumption) ?_|fail)|(refine yaf ?_ ?_;· first|kernel_rfl|omega|exact yaa _ _|fail)|refine yan _ (fun _ hq X=>hke _) ?_|refine zaa fct0 k rfl (by omega) zbr e1 ?_|refine zae [] ?_|fail)));conv=>whnf
    simp only [yc4,ydr]
    rw [e1]
    exact eT (by simp [below,zab,zam])
  | false =>
    rw [hp] at hinv
    rw [hx] at hp hke
    have hp2:(u.toList==s.toList&&(v==a&&true))=false:=by simpa [factP] using hp
    (repeat' ((conv=>whnf);(first|(refine yai ?_;first|refine yar (by omega) ?_|refine yau (by assumption) ?_|fail)|(refine zad _ _ Cst.h Cst.h ?_ ?_;· omega)|(refine yaf ?_ ?_;· first|kernel_rfl|omega|exact yaa _ _|fail)|refine yan _ (fun _ hq X=>hke _) ?_|refine zaa fct0 k rfl (by omega) zbr e1 ?_|refine zae [] ?_|fail)));conv=>whnf
    (refine ⟨⟨k+1,⟨by omega,hinv⟩,by omega,?_,.inl ⟨rfl,rfl⟩,rfl,_,rfl,?_⟩⟩;rotate_left 1;exact .inr ⟨by simp [zaw,below,zab,tr,zah,zak,zai,zam],by simp [zbe,Blk.below,zab,below,zah,zak,zai,zam]⟩;exact ⟨⟨_,rfl,yae _⟩,trivial⟩)
 ·have:k=l.length:=by omega
  subst this
  rw [ybo] at hinv
  rw [hinv]
  (repeat' ((conv=>whnf);(first|refine ya1 (by omega) ?_|fail)));conv=>whnf
  simp only [List.find?_nil,ydz,yds]
  unfold fct0 Fct.cells
  exact ya2 (by simp [below,zab]) (by simp only [ybh,ybg];exact yae _)
theorem key142_c (x:Fnc) (H:Heap):VDet Tryz.prog 142 [.agg x.cells] H (.agg [.str x.nm,.int .i64 x.ar]):=by
 obtain ⟨u,v,z⟩:=x
 unfold Fnc.cells
 refine fdD Tryz.func142 ⟨rfl,rfl,rfl⟩ fun hcl hbl=>?_
 conv=>whnf
 exact eT (by simp [below,zab])
theorem find141_c (l:List Fnc) (hl:l.length≤4611686018427387904) (s:ByteArray) (a:Int) (H:Heap):VDet Tryz.prog 141 [.sl none l.length (l.flatMap Fnc.cells),.clo (.func 142) [] [],.agg [.str s,.int .i64 a]] H (.tup [.agg ((l.find? (funcP s a)).getD fnc0).cells,.bool (l.find? (funcP s a)).isSome]):=by
 refine fdD Tryz.func141 ⟨rfl,rfl,rfl⟩ fun hcl hbl=>?_
 conv=>whnf
 refine zax Tryz.E0 zag (σ:=Nat) (fun k=>k≤l.length∧l.find? (funcP s a)=(l.drop k).find? (funcP s a)) (fun k=>l.length-k) (fun k=>[(13,.v (.int .i64 k))]) (fun _=>[.box 92 [.str s,.int .i64 a],.box 97 [.str .empty,.int .i64 0,.nils]]) _ 0 rfl hcl [1,5,6,11,12] rfl ⟨yah _,rfl⟩ ⟨⟨_,rfl,yae _⟩,trivial⟩ rfl (fun _ _=>rfl) ?_
 rintro k ⟨hk,hinv⟩
 rcases yag k l.length with hlt|hge
 ·have hd:=zbn l k fnc0 hlt
  rw [hd,yc8] at hinv
  obtain ⟨u,v,z,hx,e1⟩:=zha (f:=l.getD k fnc0) rfl
  have hke:=fun H=>key142_c (l.getD k fnc0) H
  rw [e1] at hke
  cases hp:funcP s a (l.getD k fnc0) with
  | true =>
    rw [hp] at hinv
    rw [hx] at hp hke
    have hp2:(u.toList==s.toList&&(v==a&&true))=true:=by simpa [funcP] using hp
    rw [hinv]
    (repeat' ((conv=>whnf);(first|(refine yai ?_;first|refine yar (by omega) ?_|refine yaq (by assumption) ?_|fail)|(refine yaf ?_ ?_;· first|kernel_rfl|omega|exact yaa _ _|fail)|refine yan _ (fun _ hq X=>hke _) ?_|refine zaa fnc0 k rfl (by omega) zbw e1 ?_|refine zae [] ?_|fail)));conv=>whnf
    simp only [yc4,ydr]
    rw [e1]
    exact eT (by simp [below,zab,zam])
  | false =>
    rw [hp] at hinv
    rw [hx] at hp hke
    have hp2:(u.toList==s.toList&&(v==a&&true))=false:=by simpa [funcP] using hp
    (repeat' ((conv=>whnf);(first|(refine yai ?_;first|refine yar (by omega) ?_|refine yau (by assumption) ?_|fail)|(refine zad _ _ Cst.h Cst.h ?_ ?_;· omega)|(refine yaf ?_ ?_;· first|kernel_rfl|omega|exact yaa _ _|fail)|refine yan _ (fun _ hq X=>hke _) ?_|refine zaa fnc0 k rfl (by omega) zbw e1 ?_|refine zae [] ?_|fail)));conv=>whnf
    (refine ⟨⟨k+1,⟨by omega,hinv⟩,by omega,?_,.inl ⟨rfl,rfl⟩,rfl,_,rfl,?_⟩⟩;rotate_left 1;exact .inr ⟨by simp [zaw,below,zab,tr,zah,zak,zai,zam],by simp [zbe,Blk.below,zab,below,zah,zak,zai,zam]⟩;exact ⟨⟨_,rfl,yae _⟩,trivial⟩)
 ·have:k=l.length:=by omega
  subst this
  rw [ybo] at hinv
  rw [hinv]
  (repeat' ((conv=>whnf);(first|refine ya1 (by omega) ?_|fail)));conv=>whnf
  simp only [List.find?_nil,ydz,yds]
  unfold fnc0 Fnc.cells
  exact ya2 (by simp [below,zab]) (by simp only [ybh,ybg];(repeat' (first|exact trivial|refine yb6 ?_ ?_|exact yae _|exact zc0|refine zb9 ?_|refine wk_tup ?_|fail));done)
theorem key144_c (x:Bnd) (H:Heap):VDet Tryz.prog 144 [.agg x.cells] H (.str x.nm):=by
 obtain ⟨u,v⟩:=x
 unfold Bnd.cells
 refine fdD Tryz.func144 ⟨rfl,rfl,rfl⟩ fun hcl hbl=>?_
 conv=>whnf
 exact eT (by simp [below,zab])
theorem find143_c (l:List Bnd) (hl:l.length≤4611686018427387904) (s:ByteArray) (H:Heap):VDet Tryz.prog 143 [.sl none l.length (l.flatMap Bnd.cells),.clo (.func 144) [] [],.str s] H (.tup [.agg ((l.find? (bindP s)).getD bnd0).cells,.bool (l.find? (bindP s)).isSome]):=by
 refine fdD Tryz.func143 ⟨rfl,rfl,rfl⟩ fun hcl hbl=>?_
 conv=>whnf
 refine zax Tryz.E0 zag (σ:=Nat) (fun k=>k≤l.length∧l.find? (bindP s)=(l.drop k).find? (bindP s)) (fun k=>l.length-k) (fun k=>[(13,.v (.int .i64 k))]) (fun _=>[.box 99 [.str .empty,.int .i64 0]]) _ 0 rfl hcl [1,2,6,11,12] rfl ⟨yah _,rfl⟩ ⟨⟨_,rfl,yae _⟩,trivial⟩ rfl (fun _ _=>rfl) ?_
 rintro k ⟨hk,hinv⟩
 rcases yag k l.length with hlt|hge
 ·have hd:=zbn l k bnd0 hlt
  rw [hd,yc8] at hinv
  obtain ⟨u,v,hx,e1⟩:=zf4 (f:=l.getD k bnd0) rfl
  have hke:=fun H=>key144_c (l.getD k bnd0) H
  rw [e1] at hke
  cases hp:bindP s (l.getD k bnd0) with
  | true =>
    rw [hp] at hinv
    rw [hx] at hp hke
    have hp2:(u.toList==s.toList)=true:=by simpa [bindP] using hp
    rw [hinv]
    (repeat' ((conv=>whnf);(first|(refine yai ?_;first|refine yar (by omega) ?_|refine yaq (by assumption) ?_|fail)|(refine yaf ?_ ?_;· first|omega|exact yaa _ _|fail)|refine yab _ (hke _) ?_|refine zaa bnd0 k rfl (by omega) zbs e1 ?_|fail)));conv=>whnf
    simp only [yc4,ydr]
    rw [e1]
    exact eT (by simp [below,zab,zam])
  | false =>
    rw [hp] at hinv
    rw [hx] at hp hke
    have hp2:(u.toList==s.toList)=false:=by simpa [bindP] using hp
    (repeat' ((conv=>whnf);(first|(refine yai ?_;first|refine yar (by omega) ?_|refine yau (by assumption) ?_|fail)|(refine zad _ _ Cst.h Cst.h ?_ ?_;· omega)|(refine yaf ?_ ?_;· first|omega|exact yaa _ _|fail)|refine yab _ (hke _) ?_|refine zaa bnd0 k rfl (by omega) zbs e1 ?_|fail)));conv=>whnf
    (refine ⟨⟨k+1,⟨by omega,hinv⟩,by omega,?_,.inl ⟨rfl,rfl⟩,rfl,_,rfl,?_⟩⟩;rotate_left 1;exact .inr ⟨by simp [zaw,below,zab,tr,zah,zak,zai,zam],by simp [zbe,Blk.below,zab,below,zah,zak,zai,zam]⟩;exact ⟨⟨_,rfl,yae _⟩,trivial⟩)
 ·have:k=l.length:=by omega
  subst this
  rw [ybo] at hinv
  rw [hinv]
  (repeat' ((conv=>whnf);(first|refine ya1 (by omega) ?_|fail)));conv=>whnf
  simp only [List.find?_nil,ydz,yds]
  unfold bnd0 Bnd.cells
  exact ya2 (by simp [below,zab]) (by simp only [ybh,ybg];exact yae _)
structure VClo (r:Val) (k:FuncId) (cs:List AV):Prop where
 c:∀ (nm:ByteArray) (H:Heap),VDet Tryz.prog k (.str nm::cs) H (.int .i64 (r nm))
 low:zab 0 cs
theorem VClo.below {r:Val} {k:FuncId} {cs:List AV} (h:VClo r k cs) (n:Nat):zab n cs:=zbg (yah n) _ h.low
theorem zdq (m:Mdl):∃ k s rn rc lo fn fc un uc bn bc,m.cells=[.int .u8 k,.int .i64 s,.sl none rn rc,.int .i64 lo,.sl none fn fc,.sl none un uc,.sl none bn bc]∧(∀ n,zab n rc∧zab n fc∧zab n uc∧zab n bc):=⟨_,_,_,_,_,_,_,_,_,_,_,rfl,fun n=>⟨zam n _,zah n _,zak n _,zai n _⟩⟩
theorem with_c (k:FuncId) (cs:List AV) (hbc:∀ n,zab n cs) (x:ByteArray) (a:Int) (H:Heap):VDet Tryz.prog 154 [.clo (.func k) [] cs,.str x,.int .i64 a] H (.clo (.func 213) [] [.rptr [.str x],.rptr [.int .i64 a],.rptr [.clo (.func k) [] cs]]):=by
 refine fdD Tryz.func154 ⟨rfl,rfl,rfl⟩ fun hcl hbl=>?_
 conv=>whnf
 refine ydy (u':=.clo (.func 213) [] [.rptr [.str x],.rptr [.int .i64 a],.rptr [.clo (.func k) [] cs]]) ?_ ?_ (yae _)
 ·simp [below,zab,zec,hbc]
 ·(repeat' (first|exact FrzL.nil|refine FrzL.cons ?_ ?_|refine Frz.clo ?_ ?_|refine Frz.ptr rfl rfl (ydu _)|fail))
theorem with1_c {r:Val} {k:FuncId} {cs:List AV} (hv:VClo r k cs) (x:ByteArray) (a:Int):VClo (upd r x a) 213 [.rptr [.str x],.rptr [.int .i64 a],.rptr [.clo (.func k) [] cs]]:=by
 refine ⟨fun nm H=>?_,by simp [below,zab,zec,hv.low]⟩
 have hc:=fun H=>hv.c nm H
 have hbc:=hv.below
 unfold upd
 by_cases hx:nm=x
 ·rw [if_pos hx]
  have hx2:(nm.toList==x.toList)=true:=ba_eq.2 hx
  refine fdD Tryz.func213 ⟨rfl,rfl,rfl⟩ fun hcl hbl=>?_
  (repeat' ((conv=>whnf);(first|refine yaq (by assumption) ?_|fail)));conv=>whnf
  exact eT trivial
 ·rw [if_neg hx]
  have hx2:(nm.toList==x.toList)=false:=by
   rw [ybj]
   exact fun h=>hx (ba_eq.1 h)
  refine fdD Tryz.func213 ⟨rfl,rfl,rfl⟩ fun hcl hbl=>?_
  (repeat' ((conv=>whnf);(first|refine yau (by assumption) ?_|refine yab _ (hc _) ?_|fail)));conv=>whnf
  exact eT trivial
structure Mdl.Sm (m:Mdl):Prop where
 rel:m.rel.length≤4611686018427387904
 facts:m.facts.length≤1000000
 funcs:m.funcs.length≤1000000
 binds:m.binds.length≤1000000
 vals:∀ f∈m.funcs,f.vl.length≤4611686018427387904
theorem valuesOf_c (m:Mdl) (H:Heap):VDet Tryz.prog 76 [.agg m.cells] H (.clo (.func 155) [] [.rptr m.cells]):=by
 obtain ⟨k,s,rn,rc,lo,fn,fc,un,uc,bn,bc,hc,hb⟩:=zdq m
 rw [hc]
 refine fdD Tryz.func76 ⟨rfl,rfl,rfl⟩ fun hcl hbl=>?_
 conv=>whnf
 refine ydy (u':=.clo (.func 155) [] [.rptr [.int .u8 k,.int .i64 s,.sl none rn rc,.int .i64 lo,.sl none fn fc,.sl none un uc,.sl none bn bc]]) ?_ ?_ (yae _)
 ·simp [below,zab,zec,hb]
 ·(repeat' (first|exact FrzL.nil|refine FrzL.cons ?_ ?_|refine Frz.clo ?_ ?_|refine Frz.ptr rfl rfl (ydu _)|fail))
theorem values_c (m:Mdl) (hm:m.Sm):VClo (bindF m) 155 [.rptr m.cells]:=by
 refine ⟨fun nm H=>?_,?_⟩
 ·have hf:=fun H=>find143_c m.binds (by have:=hm.binds;omega) nm H
  unfold bindF
  obtain ⟨u,v,hx,e1⟩:=zf4 (f:=(m.binds.find? (bindP nm)).getD bnd0) rfl
  rw [e1] at hf
  rw [hx] at *
  generalize (m.binds.find? (bindP nm)).isSome=b at *
  unfold Mdl.cells
  refine fdD Tryz.func155 ⟨rfl,rfl,rfl⟩ fun hcl hbl=>?_
  (repeat' ((conv=>whnf);(first|refine yab _ (hf _) ?_|fail)));conv=>whnf
  exact eT trivial
 ·obtain ⟨k,s,rn,rc,lo,fn,fc,un,uc,bn,bc,hc,hb⟩:=zdq m
  rw [hc]
  simp [below,zab,zec,hb]
theorem value_c (m:Mdl) (hm:m.Sm) (n:Nat) (hv:VM m n):∀ (t:Tq) {r:Val} {k:FuncId} {cs:List AV},VClo r k cs→(∀ x,t.hasV x→0≤r x∧r x<n)→(∀ s a,t.hasC s a→zgl m s a)→∀ H,VDet Tryz.prog 119 [.agg m.cells,.agg t.tm.cells,.clo (.func k) [] cs] H (.int .i64 (tv m r t))
 | .vr s,r,k,cs,hc,h1,h2,H=>by
   have hcc:=fun H=>hc.c s H
   have hbc:=hc.below
   obtain ⟨e1,e2,e3,e4,e5,e6,e7,e8,e9,e10,e11,hmc,hb⟩:=zdq m
   rw [hmc]
   show VDet Tryz.prog 119 [_,.agg (Tm.mk true s []).cells,_] H (.int .i64 (r s))
   rw [zav]
   simp only [ybg,ybh]
   refine fdD Tryz.func119 ⟨rfl,rfl,rfl⟩ fun hcl hbl=>?_
   (repeat' ((conv=>whnf);(first|refine yaq rfl ?_|refine yab _ (hcc _) ?_|fail)));conv=>whnf
   exact eT trivial
 | .cn s,r,k,cs,hc,h1,h2,H=>by
   have hbc:=hc.below
   have hhas:=h2 s 0 ⟨rfl,rfl⟩
   obtain ⟨q1,-,q3⟩:=func_in hhas
   obtain ⟨-,hl,-⟩:=hv.funcs _ q1
   rw [q3] at hl
   have hl:(funcF m s 0).vl.length=1:=hl
   have hf:=fun H=>find141_c m.funcs (by have:=hm.funcs;omega) s 0 H
   have htv:tv m r (.cn s)=(funcF m s 0).vl.getD 0 0:=rfl
   have hff:(m.funcs.find? (funcP s 0)).getD fnc0=funcF m s 0:=rfl
   rw [hff] at hf
   rw [htv]
   generalize (m.funcs.find? (funcP s 0)).isSome=b at *
   generalize funcF m s 0=F at *
   obtain ⟨u,v,z⟩:=F
   simp only at hl ⊢
   show VDet Tryz.prog 119 [_,.agg (Tm.mk false s []).cells,_] H _
   rw [zav]
   unfold Mdl.cells
   unfold Fnc.cells at hf
   simp only [ybg,ybh] at *
   have ez:enc64 (z.getD 0 0)=[.int .i64 (z.getD 0 0)]:=rfl
   refine fdD Tryz.func119 ⟨rfl,rfl,rfl⟩ fun hcl hbl=>?_
   (repeat' ((conv=>whnf);(first|(refine yai ?_;first|refine yaq rfl ?_|refine yau rfl ?_|fail)|(refine yaf ?_ ?_;· first|omega|exact yaa _ _|fail)|refine yab _ (hf _) ?_|refine zaa 0 0 rfl (by omega) zcu ez ?_|fail)));conv=>whnf
   exact eT trivial
 | .ap s t,r,k,cs,hc,h1,h2,H=>by
   have hbc:=hc.below
   have hhas:=h2 s 1 (.inl ⟨rfl,rfl⟩)
   have ih:=value_c m hm n hv t hc h1 fun s a h=>h2 s a (.inr h)
   have hin:=tv_in hv t h1 fun s a h=>h2 s a (.inr h)
   obtain ⟨q1,-,q3⟩:=func_in hhas
   obtain ⟨-,hl,-⟩:=hv.funcs _ q1
   rw [q3] at hl
   have hl:(funcF m s 1).vl.length=n:=hl.trans (Nat.pow_one n)
   have hf:=fun H=>find141_c m.funcs (by have:=hm.funcs;omega) s 1 H
   have htv:tv m r (.ap s t)=(funcF m s 1).vl.getD (tv m r t).toNat 0:=rfl
   have hff:(m.funcs.find? (funcP s 1)).getD fnc0=funcF m s 1:=rfl
   rw [hff] at hf
   rw [htv]
   generalize (m.funcs.find? (funcP s 1)).isSome=b at *
   generalize funcF m s 1=F at *
   obtain ⟨u,v,z⟩:=F
   simp only at hl ⊢
   show VDet Tryz.prog 119 [_,.agg (Tm.mk false s [t.tm]).cells,_] H _
   rw [zav]
   unfold Mdl.cells at *
   unfold Fnc.cells at hf
   obtain ⟨i,hi⟩:∃ i:Nat,tv m r t=i:=⟨(tv m r t).toNat,by omega⟩
   rw [hi] at ih hin ⊢
   rw [ybp]
   have ez:enc64 (z.getD i 0)=[.int .i64 (z.getD i 0)]:=rfl
   have ht1:Tm.cells (([t.tm]:List Tm).getD 0 (Tm.mk false .empty []))=t.tm.cells:=rfl
   obtain ⟨w1,w2,w3,w4,hw⟩:∃ w1 w2 w3 w4,t.tm.cells=[.bool w1,.str w2,.sl none w3 w4]:=by
    cases t.tm with
    | mk a b c=>exact ⟨_,_,_,_,zav a b c⟩
   rw [hw] at ih ht1
   simp only [ybu,ybg] at *
   refine fdD Tryz.func119 ⟨rfl,rfl,rfl⟩ fun hcl hbl=>?_
   (repeat' ((conv=>whnf);(first|refine yau rfl ?_|(refine yaf ?_ ?_;· first|kernel_rfl|omega|exact yaa _ _|fail)|refine yab _ (hf _) ?_|refine yan _ (fun _ hq X=>ih _) ?_|refine zaa 0 i rfl (by omega) zcu ez ?_|refine zaa (Tm.mk false .empty []) 0 rfl (by simp) zba ht1 ?_|refine zae [] ?_|fail)));conv=>whnf
   exact eT trivial
theorem zbm {α:Type} (l:List α) (d:α) (k:Nat) (h:k<l.length):l.take (k+1)=l.take k++[l.getD k d]:=by
 rw [yec h]
 simp [yal h]
theorem bit_iff (T B:Nat):((T >>> B) &&& 1=1)↔T.testBit B=true:=by
 unfold Nat.testBit
 rw [Nat.and_comm 1,Nat.and_one_is_mod]
 rcases Nat.mod_two_eq_zero_or_one (T >>> B) with h|h <;> rw [h] <;> simp
theorem bitF_snoc (n:Int) (l:List Int) (v:Int):bitF n (l++[v])=bitF n l * n+v:=by
 unfold bitF
 rw [List.foldl_append]
 rfl
theorem bitF_bd {n:Nat} (hn:0<n∧n≤3) (l:List Int) (h:∀ v∈l,0≤v∧v<n) (hl:l.length≤2):0≤bitF n l∧bitF n l≤8:=by
 rw [bit_num n l fun v hv=>(h v hv).1]
 have h1:=num_lt hn.1 (l.map Int.toNat) fun v hv=>by
  obtain ⟨u,hu,rfl⟩:=ybx.1 hv
  have:=h u hu
  omega
 rw [yav] at h1
 have h2:n ^ l.length≤3 ^ 2:=ybk (yd0 hn.2 _) (ycb (by decide) hl)
 omega
theorem atom_c (m:Mdl) (hm:m.Sm) (n:Nat) (hv:VM m n) (s:ByteArray) (l:List Tq) (hl2:l.length≤2) {r:Val} {k:FuncId} {cs:List AV} (hc:VClo r k cs) (h1:∀ t∈l,∀ x,t.hasV x→0≤r x∧r x<n) (h2:∀ t∈l,∀ s a,t.hasC s a→zgl m s a) (h3:hasFct m s l.length) (H:Heap):VDet Tryz.prog 153 [.agg m.cells,.agg (Fq.at_ s l).fo.cells,.clo (.func k) [] cs] H (.bool (av m r s l)):=by
 have hbc:=hc.below
 obtain ⟨q1,-,q3⟩:=fact_in h3
 obtain ⟨-,ht0,ht1⟩:=hv.facts _ q1
 rw [q3] at ht1
 have hf:=fun H=>find139_c m.facts (by have:=hm.facts;omega) s l.length H
 have hff:(m.facts.find? (factP s l.length)).getD fct0=factF m s l.length:=rfl
 rw [hff] at hf
 have hav:av m r s l=bitAt (factF m s l.length).tr (bitF m.size (l.map (tv m r))):=rfl
 rw [hav]
 have htv:∀ t∈l,∀ H,VDet Tryz.prog 119 [.agg m.cells,.agg t.tm.cells,.clo (.func k) [] cs] H (.int .i64 (tv m r t)):=fun t ht=>value_c m hm n hv t hc (h1 t ht) (h2 t ht)
 have hin:∀ t∈l,0≤tv m r t∧tv m r t<n:=fun t ht=>tv_in hv t (h1 t ht) (h2 t ht)
 have hns:=hv.size
 have hn3:0<n∧n≤3:=⟨hv.pos,hv.le⟩
 have hpow:n ^ l.length≤9:=ybk (yd0 hn3.2 _) (ybk (ycb (by decide) hl2) (by decide:3 ^ 2≤9))
 have hp2:2 ^ n ^ l.length≤2 ^ 9:=ycb (by decide) hpow
 simp only [ybp] at ht1
 generalize (m.facts.find? (factP s l.length)).isSome=b at *
 generalize factF m s l.length=F at *
 obtain ⟨u,v,z⟩:=F
 obtain ⟨T,hT⟩:∃ T:Nat,z=T:=⟨z.toNat,by simp only at ht0;omega⟩
 subst hT
 simp only [ybp] at ht1
 have hTb:T<512:=ybz ht1 hp2
 unfold Fct.cells at hf
 simp only at hf ⊢
 show VDet Tryz.prog 153 [_,.agg (Fo.mk 1 s (l.map Tq.tm) []).cells,_] H _
 rw [zaq]
 unfold Mdl.cells at *
 simp only [hns] at htv ⊢
 simp only [ybg,ybh,yav] at *
 have hbd:∀ j,j≤l.length→0≤bitF n ((l.take j).map (tv m r))∧bitF n ((l.take j).map (tv m r))≤8:=fun j hj=>bitF_bd hn3 _ (fun v hv2=>by
  obtain ⟨t,ht,rfl⟩:=ybx.1 hv2
  exact hin t (yei ht)) (by rw [yav,ycm];omega)
 refine fdD Tryz.func153 ⟨rfl,rfl,rfl⟩ fun hcl hbl=>?_
 (repeat' ((conv=>whnf);(first|refine yab _ (hf _) ?_|fail)));conv=>whnf
 refine zax Tryz.E0 zag (σ:=Nat) (fun j=>j≤l.length) (fun j=>l.length-j) (fun j=>[(9,.v (.int .i64 (bitF n ((l.take j).map (tv m r))))),(27,.v (.int .i64 j))]) (fun _=>_) _ 0 rfl hcl [2,3,7,25,26] rfl (yah _) ⟨⟨_,rfl,yae _⟩,⟨_,rfl,yae _⟩,trivial⟩ rfl (fun _ _=>rfl) ?_
 intro j hj
 rcases yag j l.length with hlt|hge
 ·have hts:=zbm l (Tq.vr .empty) j hlt
  have htm:=zar l j (.vr .empty) hlt
  have hvt:=htv _ htm
  have hit:=hin _ htm
  have h0:=hbd j hj
  have h5:=hbd (j+1) (by omega)
  have hst:bitF n ((l.take (j+1)).map (tv m r))=bitF n ((l.take j).map (tv m r)) * n+tv m r (l.getD j (.vr .empty)):=by
   rw [hts,yd7,← bitF_snoc]
   rfl
  have hg:(l.map Tq.tm).getD j (Tm.mk false .empty [])=(l.getD j (.vr .empty)).tm:=by
   simp [yal hlt]
  obtain ⟨w1,w2,w3,w4,hw⟩:∃ w1 w2 w3 w4,((l.map Tq.tm).getD j (Tm.mk false .empty [])).cells=[.bool w1,.str w2,.sl none w3 w4]:=by
   cases ((l.map Tq.tm).getD j (Tm.mk false .empty [])) with
   | mk a b c=>exact ⟨_,_,_,_,zav a b c⟩
  rw [← hg,hw] at hvt
  rw [hst] at h5
  generalize tv m r (l.getD j (.vr .empty))=vt at *
  generalize hB:bitF n ((l.take j).map (tv m r))=B at *
  have hmul:0≤B * (n:Int)∧B * (n:Int)≤8:=by
   constructor
   ·exact Int.mul_nonneg h0.1 (by omega)
   ·omega
  (repeat' ((conv=>whnf);(first|refine yar (by omega) ?_|(refine yc0 ?_;first|(refine zad _ _ Cst.h Cst.h ?_ ?_;· omega)|refine yco (by omega) ?_|fail)|(refine yaf ?_ ?_;· first|kernel_rfl|omega|exact yaa _ _|fail)|refine yan _ (fun _ hq X=>hvt _) ?_|refine zaa (Tm.mk false .empty []) j rfl (by rw [yav];omega) zba hw ?_|refine zae [] ?_|fail)));conv=>whnf
  rw [← hst]
  (refine ⟨⟨j+1,by show j+1≤_;omega,by omega,?_,.inl ⟨rfl,rfl⟩,rfl,_,rfl,?_⟩⟩;rotate_left 1;exact .inr ⟨by simp [zaw,below,zab,tr,zah,zak,zai,zam,zal,zan,hbc],by simp [zbe,Blk.below,zab,below,zah,zak,zai,zam,zal,zan,hbc]⟩;exact ⟨⟨_,rfl,yae _⟩,⟨_,rfl,yae _⟩,trivial⟩)
 ·have:j=l.length:=by omega
  subst this
  have h0:=hbd l.length hj
  rw [ya3] at h0 ⊢
  obtain ⟨B,hB⟩:∃ B:Nat,bitF n (l.map (tv m r))=B:=⟨(bitF n (l.map (tv m r))).toNat,by omega⟩
  rw [hB] at h0 ⊢
  have hbt:bitAt (T:Int) (B:Int)=T.testBit B:=by
   unfold bitAt
   rw [ybp,ybp]
  rw [hbt]
  have hbi:=bit_iff T B
  (repeat' ((conv=>whnf);(first|refine ya1 (by omega) ?_|(refine yc0 ?_;first|(refine EqN.and _ _ Cst.h Cst.h ?_ ?_;· (repeat' (first|omega|refine yb6 ?_ ?_|exact za1 (by omega)|exact zby (by omega)|refine zdc ?_ ?_|refine zbx ?_ ?_|refine zcf ?_ ?_|refine zbj ?_ ?_|refine zcg ?_|refine zch ?_ ?_|refine zci ?_|refine za1 ?_|fail)))|(refine EqN.shrN _ _ Cst.h Cst.h rfl ?_ ?_;· (repeat' (first|omega|refine yb6 ?_ ?_|exact za1 (by omega)|exact zby (by omega)|refine zdc ?_ ?_|refine zbx ?_ ?_|refine zcf ?_ ?_|refine zbj ?_ ?_|refine zcg ?_|refine zch ?_ ?_|refine zci ?_|refine za1 ?_|fail)))|fail)|refine yaf (by omega) ?_|fail)));conv=>whnf
  refine ya2 trivial (zaf (congrArg AV.bool ?_))
  rw [ycd,beq_iff_eq,← hbi]
  omega
theorem zbz (f:Fo):∃ a b c1 c d1 d,f.cells=[.int .u8 (a:Nat),.str b,.sl none c1 c,.sl none d1 d]∧∀ n,zab n c∧zab n d:=by
 cases f with
 | mk a b c d=>exact ⟨_,_,_,_,_,_,zaq a b c d,fun n=>⟨zal n c,zan n d⟩⟩
theorem part_c (mc:List AV) (hmx:∃ e1 e2 e3 e4 e5 e6 e7 e8 e9 e10 e11,mc=[.int .u8 e1,.int .i64 e2,.sl none e3 e4,.int .i64 e5,.sl none e6 e7,.sl none e8 e9,.sl none e10 e11]) (op:Nat) (x:ByteArray) (tn:Nat) (tc:List AV) (l:List Fo) (hl:l.length≤2) (cv:AV) (i:Nat) (hi:i<l.length) (v:Bool) (hc:∀ H,VDet Tryz.prog 75 [.agg mc,.agg (l.getD i fo0).cells,cv] H (.bool v)) (hcv:∃ k cs,cv=.clo (.func k) [] cs) (H:Heap) (p1 p2 p3:Nat) (h1:H[p1]? = some (.box 37 mc)) (h2:H[p2]? = some (.box 29 [.int .u8 op,.str x,.sl none tn tc,.sl none l.length (l.flatMap Fo.cells)])) (h3:H[p3]? = some (.box 121 [cv])):VDet Tryz.prog 152 [.int .i64 i,.ptr p1 0,.ptr p2 0,.ptr p3 0] H (.bool v):=by
 obtain ⟨e1,e2,e3,e4,e5,e6,e7,e8,e9,e10,e11,rfl⟩:=hmx
 obtain ⟨k,cs,rfl⟩:=hcv
 obtain ⟨a,b,c1,c,d1,d,hw,hb⟩:=zbz (l.getD i fo0)
 rw [hw] at hc
 refine fdD Tryz.func152 ⟨rfl,rfl,rfl⟩ fun hcl hbl=>?_
 (repeat' ((conv=>whnf);(first|(refine yaf ?_ ?_;· first|kernel_rfl|omega|exact yaa _ _|fail)|refine yan _ (fun _ hq X=>hc _) ?_|refine zaa fo0 i rfl (by omega) za4 hw ?_|refine ych _ (by (repeat' (first|assumption|exact zbc _ rfl|exact za2 rfl|refine za9 (B':=?_) ?_|refine zat ?_|fail))) ?_|refine zae [] ?_|fail)));conv=>whnf
 exact eT trivial
def HoldP (m:Mdl) (n:Nat) (p:Fq):Prop:=∀ {r:Val} {k:FuncId} {cs:List AV},VClo r k cs→(∀ x,p.free x→0≤r x∧r x<n)→(∀ s a,p.hasC s a→zgl m s a)→(∀ s a,p.hasP s a→hasFct m s a)→∀ H,VDet Tryz.prog 75 [.agg m.cells,.agg p.fo.cells,.clo (.func k) [] cs] H (.bool (hv m p r))
theorem holds_at (m:Mdl) (hm:m.Sm) (n:Nat) (hvm:VM m n) (s:ByteArray) (l:List Tq) (hok:l.length≤2):HoldP m n (.at_ s l):=by
 intro r k cs hc h1 h2 h3 H
 have hat:=atom_c m hm n hvm s l hok hc (fun t ht x hx=>h1 x ⟨t,ht,hx⟩) (fun t ht s a h=>h2 s a ⟨t,ht,h⟩) (h3 s _ ⟨rfl,rfl⟩)
 have hbc:=hc.below
 obtain ⟨e1,e2,e3,e4,e5,e6,e7,e8,e9,e10,e11,hmc,hb⟩:=zdq m
 rw [hmc] at hat ⊢
 show VDet Tryz.prog 75 [_,.agg (Fo.mk 1 s (l.map Tq.tm) []).cells,_] H (.bool (av m r s l))
 have hat:∀ H,VDet Tryz.prog 153 [_,.agg (Fo.mk 1 s (l.map Tq.tm) []).cells,_] H (.bool (av m r s l)):=hat
 rw [zaq] at hat ⊢
 generalize av m r s l=v at *
 refine fdD Tryz.func75 ⟨rfl,rfl,rfl⟩ fun hcl hbl=>?_
 (repeat' ((conv=>whnf);(first|refine yaq rfl ?_|refine yab _ (hat _) ?_|fail)));conv=>whnf
 exact eT trivial
theorem holds_fa (m:Mdl) (n:Nat):HoldP m n .fa:=by
 intro r k cs hc h1 h2 h3 H
 have hbc:=hc.below
 obtain ⟨e1,e2,e3,e4,e5,e6,e7,e8,e9,e10,e11,hmc,hb⟩:=zdq m
 rw [hmc]
 show VDet Tryz.prog 75 [_,.agg (Fo.mk 2 .empty [] []).cells,_] H (.bool false)
 rw [zaq]
 refine fdD Tryz.func75 ⟨rfl,rfl,rfl⟩ fun hcl hbl=>?_
 (repeat' ((conv=>whnf);(first|refine yau rfl ?_|fail)));conv=>whnf
 exact eT trivial
theorem holds_f1 (m:Mdl) (n:Nat) (a:Fq) (ih:HoldP m n a):HoldP m n (.f1 a):=by
 intro r k cs hc h1 h2 h3 H
 have iha:=ih hc h1 h2 h3
 have hbc:=hc.below
 obtain ⟨e1,e2,e3,e4,e5,e6,e7,e8,e9,e10,e11,hmc,hb⟩:=zdq m
 rw [hmc] at iha ⊢
 have hp:=fun H2=>part_c [.int .u8 e1,.int .i64 e2,.sl none e3 e4,.int .i64 e5,.sl none e6 e7,.sl none e8 e9,.sl none e10 e11] ⟨_,_,_,_,_,_,_,_,_,_,_,rfl⟩ 3 .empty 0 [] [a.fo] (by simp) (.clo (.func k) [] cs) 0 (by simp) (hv m a r) iha ⟨_,_,rfl⟩ (H++([.box 37 [.int .u8 e1,.int .i64 e2,.sl none e3 e4,.int .i64 e5,.sl none e6 e7,.sl none e8 e9,.sl none e10 e11],.box 29 [.int .u8 (3:Nat),.str .empty,.sl none 0 [],.sl none ([a.fo]:List Fo).length (([a.fo]:List Fo).flatMap Fo.cells)],.box 121 [.clo (.func k) [] cs]]++H2)) (H.length+0) (H.length+1) (H.length+2) (za2 rfl) (za2 rfl) (za2 rfl)
 show VDet Tryz.prog 75 [_,.agg (Fo.mk 3 .empty [] [a.fo]).cells,_] H (.bool (!hv m a r))
 rw [zaq]
 generalize hv m a r=v at *
 refine fdD Tryz.func75 ⟨rfl,rfl,rfl⟩ fun hcl hbl=>?_
 (repeat' ((conv=>whnf);(first|(refine yai ?_;first|refine yaq rfl ?_|refine yau rfl ?_|fail)|refine yab _ (hp _) ?_|fail)));conv=>whnf
 exact eT trivial
theorem holds_f2 (m:Mdl) (n:Nat) (op:Nat) (hop:op=4∨op=5∨op=6∨op=7) (a b:Fq) (iha:HoldP m n a) (ihb:HoldP m n b):HoldP m n (.f2 op a b):=by
 intro r k cs hc h1 h2 h3 H
 have iha:=iha hc (fun x h=>h1 x (.inl h)) (fun s a h=>h2 s a (.inl h)) (fun s a h=>h3 s a (.inl h))
 have ihb:=ihb hc (fun x h=>h1 x (.inr h)) (fun s a h=>h2 s a (.inr h)) (fun s a h=>h3 s a (.inr h))
 have hbc:=hc.below
 obtain ⟨e1,e2,e3,e4,e5,e6,e7,e8,e9,e10,e11,hmc,hb⟩:=zdq m
 rw [hmc] at iha ihb ⊢
 have hp:=fun H2=>part_c [.int .u8 e1,.int .i64 e2,.sl none e3 e4,.int .i64 e5,.sl none e6 e7,.sl none e8 e9,.sl none e10 e11] ⟨_,_,_,_,_,_,_,_,_,_,_,rfl⟩ op .empty 0 [] [a.fo,b.fo] (by simp) (.clo (.func k) [] cs) 0 (by simp) (hv m a r) iha ⟨_,_,rfl⟩ (H++([.box 37 [.int .u8 e1,.int .i64 e2,.sl none e3 e4,.int .i64 e5,.sl none e6 e7,.sl none e8 e9,.sl none e10 e11],.box 29 [.int .u8 (op:Nat),.str .empty,.sl none 0 [],.sl none ([a.fo,b.fo]:List Fo).length (([a.fo,b.fo]:List Fo).flatMap Fo.cells)],.box 121 [.clo (.func k) [] cs]]++H2)) (H.length+0) (H.length+1) (H.length+2) (za2 rfl) (za2 rfl) (za2 rfl)
 have hq0:=fun H2=>part_c [.int .u8 e1,.int .i64 e2,.sl none e3 e4,.int .i64 e5,.sl none e6 e7,.sl none e8 e9,.sl none e10 e11] ⟨_,_,_,_,_,_,_,_,_,_,_,rfl⟩ op .empty 0 [] [a.fo,b.fo] (by simp) (.clo (.func k) [] cs) 1 (by simp) (hv m b r) ihb ⟨_,_,rfl⟩ (H++([.box 37 [.int .u8 e1,.int .i64 e2,.sl none e3 e4,.int .i64 e5,.sl none e6 e7,.sl none e8 e9,.sl none e10 e11],.box 29 [.int .u8 (op:Nat),.str .empty,.sl none 0 [],.sl none ([a.fo,b.fo]:List Fo).length (([a.fo,b.fo]:List Fo).flatMap Fo.cells)],.box 121 [.clo (.func k) [] cs]]++H2)) (H.length+0) (H.length+1) (H.length+2) (za2 rfl) (za2 rfl) (za2 rfl)
 show VDet Tryz.prog 75 [_,.agg (Fo.mk op .empty [] [a.fo,b.fo]).cells,_] H (.bool (op2 op (hv m a r) (hv m b r)))
 rw [zaq]
 generalize hv m a r=va at *
 generalize hv m b r=vb at *
 unfold op2
 rcases hop with rfl|rfl|rfl|rfl <;> cases va <;> cases vb
 all_goals
  refine fdD Tryz.func75 ⟨rfl,rfl,rfl⟩ fun hcl hbl=>?_
  (repeat' ((conv=>whnf);(first|(refine yai ?_;first|refine yas ?_|refine yaq rfl ?_|refine yau rfl ?_|fail)|(refine ybm ?_;first|refine yab _ (hp _) ?_|refine yab _ (hq0 _) ?_|fail)|fail)));all_goals (conv=>whnf)
  exact eT trivial
theorem holds_qn (m:Mdl) (n:Nat) (hvm:VM m n) (op:Nat) (hop:op=8∨op=9) (x:ByteArray) (a:Fq) (iha:HoldP m n a):HoldP m n (.qn op x a):=by
 intro r k cs hc h1 h2 h3 H
 have ih:∀ i:Nat,i<n→∀ H,VDet Tryz.prog 75 [.agg m.cells,.agg a.fo.cells,.clo (.func 213) [] [.rptr [.str x],.rptr [.int .i64 i],.rptr [.clo (.func k) [] cs]]] H (.bool (hv m a (upd r x i))):=fun i hi=>iha (with1_c hc x i) (fun y hy=>by
  unfold upd
  split
  ·omega
  ·rename_i hn
   exact h1 y ⟨hy,hn⟩) h2 h3
 have hwi:=fun (i:Nat) H=>with_c k cs hc.below x i H
 have hbc:=hc.below
 have hes:hv m (.qn op x a) r=if op=8 then (List.range n).all fun i=>hv m a (upd r x i) else (List.range n).any fun i=>hv m a (upd r x i):=by
  have e:m.size.toNat=n:=by rw [hvm.size,ybp]
  show (if op=8 then (List.range m.size.toNat).all (fun i=>hv m a (upd r x i)) else (List.range m.size.toNat).any (fun i=>hv m a (upd r x i)))=_
  rw [e]
 rw [hes]
 have hsz:=hvm.size
 have hn3:=hvm.le
 have hmc:m.cells=[.int .u8 m.kind,.int .i64 m.size,.sl none m.rel.length (m.rel.flatMap enc64),.int .i64 m.loop,.sl none m.facts.length (m.facts.flatMap Fct.cells),.sl none m.funcs.length (m.funcs.flatMap Fnc.cells),.sl none m.binds.length (m.binds.flatMap Bnd.cells)]:=rfl
 rw [hmc,hsz] at ih
 rw [hmc,hsz]
 show VDet Tryz.prog 75 [_,.agg (Fo.mk op x [] [a.fo]).cells,_] H _
 rw [zaq]
 obtain ⟨w1,w2,w3,w4,w5,w6,hw,hb⟩:=zbz a.fo
 rw [hw] at ih
 have e0:(([a.fo]:List Fo).getD 0 fo0).cells=[.int .u8 (w1:Nat),.str w2,.sl none w3 w4,.sl none w5 w6]:=hw
 generalize hf:(fun i:Nat=>hv m a (upd r x i))=f at *
 have hfi:∀ i:Nat,hv m a (upd r x i)=f i:=fun i=>by rw [← hf]
 simp only [hfi] at ih
 rcases hop with rfl|rfl
 ·rw [if_pos rfl]
  refine fdD Tryz.func75 ⟨rfl,rfl,rfl⟩ fun hcl hbl=>?_
  (repeat' ((conv=>whnf);(first|(refine yai ?_;first|refine yaq rfl ?_|refine yau rfl ?_|fail)|fail)));conv=>whnf
  refine zax Tryz.E0 zag (σ:=Nat) (fun j=>j≤n∧∀ i,i<j→f i=true) (fun j=>n-j) (fun j=>[(64,.v (.int .i64 j))]) (fun _=>_) _ 0 rfl hcl [3,4,5,8,63] rfl ⟨yah _,fun i h=>by omega⟩ ⟨⟨_,rfl,yae _⟩,trivial⟩ rfl (fun _ _=>rfl) ?_
  rintro j ⟨hj,hinv⟩
  rcases yag j n with hlt|hge
  ·have ih:=ih j hlt
   have hwi:=hwi j
   cases hfj:f j
   ·rw [hfj] at ih
    have hall:(List.range n).all f=false:=by
     rw [ybj]
     intro h
     rw [yao] at h
     have:=h j (ybv.2 hlt)
     rw [hfj] at this
     cases this
    rw [hall]
    (repeat' ((conv=>whnf);(first|(refine yai ?_;first|refine yaq rfl ?_|refine yar (by omega) ?_|fail)|(refine yaf ?_ ?_;· first|kernel_rfl|exact yaa _ _|(simp;done)|fail)|(refine yck ?_;first|refine yan _ (fun _ hq X=>ih _) ?_|refine yan _ (fun _ hq X=>hwi _) ?_|fail)|refine zaa fo0 0 rfl (by simp) za4 e0 ?_|refine zae [] ?_|fail)));conv=>whnf
    exact ya2 trivial (zaf rfl)
   ·rw [hfj] at ih
    (repeat' ((conv=>whnf);(first|(refine yai ?_;first|refine yau rfl ?_|refine yar (by omega) ?_|fail)|(refine zad _ _ Cst.h Cst.h ?_ ?_;· omega)|(refine yaf ?_ ?_;· first|kernel_rfl|exact yaa _ _|(simp;done)|fail)|(refine yck ?_;first|refine yan _ (fun _ hq X=>ih _) ?_|refine yan _ (fun _ hq X=>hwi _) ?_|fail)|refine zaa fo0 0 rfl (by simp) za4 e0 ?_|refine zae [] ?_|fail)));conv=>whnf
    (refine ⟨⟨j+1,⟨by omega,fun i hi=>by rcases yag i j with h|h;(· exact hinv i h);(· rw [show i=j by omega];exact hfj)⟩,by omega,?_,.inl ⟨rfl,rfl⟩,rfl,_,rfl,?_⟩⟩;rotate_left 1;exact .inl rfl;exact ⟨⟨_,rfl,yae _⟩,trivial⟩)
  ·have hall:(List.range n).all f=true:=by
    rw [yao]
    exact fun i hi=>hinv i (by have:=ybv.1 hi;omega)
   rw [hall]
   have:j=n:=by omega
   subst this
   (repeat' ((conv=>whnf);(first|refine ya1 (by omega) ?_|fail)));conv=>whnf
   exact ya2 trivial (zaf rfl)
 ·rw [if_neg (by decide)]
  refine fdD Tryz.func75 ⟨rfl,rfl,rfl⟩ fun hcl hbl=>?_
  (repeat' ((conv=>whnf);(first|(refine yai ?_;first|refine yaq rfl ?_|refine yau rfl ?_|fail)|fail)));conv=>whnf
  refine zax Tryz.E0 zag (σ:=Nat) (fun j=>j≤n∧∀ i,i<j→f i=false) (fun j=>n-j) (fun j=>[(64,.v (.int .i64 j))]) (fun _=>_) _ 0 rfl hcl [3,4,5,8,63] rfl ⟨yah _,fun i h=>by omega⟩ ⟨⟨_,rfl,yae _⟩,trivial⟩ rfl (fun _ _=>rfl) ?_
  rintro j ⟨hj,hinv⟩
  rcases yag j n with hlt|hge
  ·have ih:=ih j hlt
   have hwi:=hwi j
   cases hfj:f j
   rotate_left
   ·rw [hfj] at ih
    have hany:(List.range n).any f=true:=ydc.2 ⟨j,ybv.2 hlt,hfj⟩
    rw [hany]
    (repeat' ((conv=>whnf);(first|(refine yai ?_;first|refine yaq rfl ?_|refine yar (by omega) ?_|fail)|(refine yaf ?_ ?_;· first|kernel_rfl|exact yaa _ _|(simp;done)|fail)|(refine yck ?_;first|refine yan _ (fun _ hq X=>ih _) ?_|refine yan _ (fun _ hq X=>hwi _) ?_|fail)|refine zaa fo0 0 rfl (by simp) za4 e0 ?_|refine zae [] ?_|fail)));conv=>whnf
    exact ya2 trivial (zaf rfl)
   ·rw [hfj] at ih
    (repeat' ((conv=>whnf);(first|(refine yai ?_;first|refine yau rfl ?_|refine yar (by omega) ?_|fail)|(refine zad _ _ Cst.h Cst.h ?_ ?_;· omega)|(refine yaf ?_ ?_;· first|kernel_rfl|exact yaa _ _|(simp;done)|fail)|(refine yck ?_;first|refine yan _ (fun _ hq X=>ih _) ?_|refine yan _ (fun _ hq X=>hwi _) ?_|fail)|refine zaa fo0 0 rfl (by simp) za4 e0 ?_|refine zae [] ?_|fail)));conv=>whnf
    (refine ⟨⟨j+1,⟨by omega,fun i hi=>by rcases yag i j with h|h;(· exact hinv i h);(· rw [show i=j by omega];exact hfj)⟩,by omega,?_,.inl ⟨rfl,rfl⟩,rfl,_,rfl,?_⟩⟩;rotate_left 1;exact .inl rfl;exact ⟨⟨_,rfl,yae _⟩,trivial⟩)
  ·have hany:(List.range n).any f=false:=by
    rw [ybj]
    intro h
    obtain ⟨i,hi,hfi2⟩:=ydc.1 h
    rw [hinv i (by have:=ybv.1 hi;omega)] at hfi2
    cases hfi2
   rw [hany]
   have:j=n:=by omega
   subst this
   (repeat' ((conv=>whnf);(first|refine ya1 (by omega) ?_|fail)));conv=>whnf
   exact ya2 trivial (zaf rfl)
theorem holds_c (m:Mdl) (hm:m.Sm) (n:Nat) (hvm:VM m n):∀ p:Fq,p.Ok→HoldP m n p
 | .at_ s l,h=>holds_at m hm n hvm s l h
 | .fa,_=>holds_fa m n
 | .f1 a,h=>holds_f1 m n a (holds_c m hm n hvm a h)
 | .f2 k a b,h=>holds_f2 m n k h.1 a b (holds_c m hm n hvm a h.2.1) (holds_c m hm n hvm b h.2.2)
 | .qn k x a,h=>holds_qn m n hvm k h.1 x a (holds_c m hm n hvm a h.2)
theorem zc1 (f:Tm):∃ a b c1 c,f.cells=[.bool a,.str b,.sl none c1 c]∧∀ n,zab n c:=by
 cases f with
 | mk a b c=>exact ⟨_,_,_,_,zav a b c,fun n=>zal n c⟩
def TrP (x:Tm):Prop:=∀ H,VDet Tryz.prog 118 [.agg x.cells] H (.bool (tmR x))
theorem zbt {α:Type} {p:α→Bool} {l:List α} {k:Nat} (d:α) (hk:k<l.length) (h:∀ y∈l.take k,p y=true) (hx:p (l.getD k d)=true):∀ y∈l.take (k+1),p y=true:=by
 intro y hy
 rw [zbm l d k hk] at hy
 rcases ybl.1 hy with hy|hy
 ·exact h y hy
 ·rw [yaz.1 hy]
  exact hx
theorem zcj {α:Type} {p:α→Bool} {l:List α} {k:Nat} (d:α) (hk:k<l.length) (hx:p (l.getD k d)=false):l.all p=false:=by
 rw [ybj]
 intro h
 rw [yao] at h
 rw [h _ (zar l k d hk)] at hx
 cases hx
theorem tr_step (v:Bool) (s:ByteArray) (l:List Tm) (hll:l.length≤9223372036854775807) (ih:∀ x∈l,TrP x):TrP (.mk v s l):=by
 intro H
 have hr:tmR (.mk v s l)=(decide (l.length≤1)&&l.all tmR):=by
  rw [← zef]
  unfold tmR
  rfl
 rw [hr,zav]
 by_cases h1:l.length≤1
 ·rw [decide_eq_true h1,ya9]
  refine fdD Tryz.func118 ⟨rfl,rfl,rfl⟩ fun hcl hbl=>?_
  (repeat' ((conv=>whnf);(first|refine ya1 (by omega) ?_|fail)));conv=>whnf
  refine zax Tryz.E0 zag (σ:=Nat) (fun k=>k≤l.length∧∀ y∈l.take k,tmR y=true) (fun k=>l.length-k) (fun k=>[(12,.v (.int .i64 k))]) (fun _=>_) _ 0 rfl hcl [10,11] rfl ⟨yah _,fun y hy=>(by cases hy)⟩ ⟨⟨_,rfl,yae _⟩,trivial⟩ rfl (fun _ _=>rfl) ?_
  rintro k ⟨hk,hinv⟩
  rcases yag k l.length with hlt|hge
  ·have hc:=ih _ (zar l k tm0 hlt)
   unfold TrP at hc
   obtain ⟨w1,w2,w3,w4,hw,hb⟩:=zc1 (l.getD k tm0)
   rw [hw] at hc
   cases ht:tmR (l.getD k tm0) <;> rw [ht] at hc
   ·rw [zcj tm0 hlt ht]
    (repeat' ((conv=>whnf);(first|(refine yai ?_;first|refine yas ?_|refine yau rfl ?_|refine yar (by omega) ?_|fail)|(refine yaf ?_ ?_;· first|omega|exact yaa _ _|fail)|refine yab _ (hc _) ?_|refine zaa tm0 k rfl (by omega) zba hw ?_|fail)));conv=>whnf
    exact eT trivial
   ·(repeat' ((conv=>whnf);(first|(refine yai ?_;first|refine yas ?_|refine yaq rfl ?_|refine yar (by omega) ?_|fail)|(refine zad _ _ Cst.h Cst.h ?_ ?_;· omega)|(refine yaf ?_ ?_;· first|omega|exact yaa _ _|fail)|refine yab _ (hc _) ?_|refine zaa tm0 k rfl (by omega) zba hw ?_|fail)));conv=>whnf
    (refine ⟨⟨k+1,⟨by omega,zbt tm0 hlt hinv ht⟩,by omega,?_,.inl ⟨rfl,rfl⟩,rfl,_,rfl,?_⟩⟩;rotate_left 1;exact .inr ⟨by simp [zaw,below,zab,tr,zah,zak,zai,zam,zal,zan,hb],by simp [zbe,Blk.below,zab,below,zah,zak,zai,zam,zal,zan,hb]⟩;exact ⟨⟨_,rfl,yae _⟩,trivial⟩)
  ·have:k=l.length:=by omega
   subst this
   rw [ya3] at hinv
   rw [yao.2 hinv]
   (repeat' ((conv=>whnf);(first|refine ya1 (by omega) ?_|fail)));conv=>whnf
   exact eT trivial
 ·rw [decide_eq_false h1,ya0]
  generalize l.flatMap Tm.cells=lc at *
  refine fdD Tryz.func118 ⟨rfl,rfl,rfl⟩ fun hcl hbl=>?_
  (repeat' ((conv=>whnf);(first|refine yar (by omega) ?_|fail)));conv=>whnf
  exact eT trivial
mutual
theorem tr_c:∀ x:Tm,x.good→TrP x
 | .mk v s l,h=>tr_step v s l (zaz h.2.1) (trs_all l h.2.2)
theorem trs_all:∀ l:List Tm,Tm.goodL l→∀ x∈l,TrP x
 | [],_,x,hx=>by cases hx
 | y::l,h,x,hx=>by
   rcases yay.1 hx with e|hx
   ·rw [e]
    exact tr_c y h.1
   ·exact trs_all l h.2 x hx
end
def FrP (x:Fo):Prop:=∀ H,VDet Tryz.prog 121 [.agg x.cells] H (.bool (foR x))
theorem fr_step (op:Nat) (s:ByteArray) (l:List Tm) (m:List Fo) (hop:op≤255) (hll:l.length≤9223372036854775807) (hml:m.length≤9223372036854775807) (iht:∀ x∈l,TrP x) (ih:∀ x∈m,FrP x):FrP (.mk op s l m):=by
 intro H
 have hr:foR (.mk op s l m)=(decide (1≤op∧op≤9∧l.length≤2)&&(l.all tmR&&m.all foR)):=by
  rw [← zef,← foRs_all]
  unfold foR
  rfl
 rw [hr,zaq]
 by_cases h1:1≤op∧op≤9∧l.length≤2
 ·rw [decide_eq_true h1,ya9]
  refine fdD Tryz.func121 ⟨rfl,rfl,rfl⟩ fun hcl hbl=>?_
  (repeat' ((conv=>whnf);(first|refine ya1 (by omega) ?_|fail)));conv=>whnf
  refine zax Tryz.E0 zag (σ:=Nat) (fun k=>k≤l.length∧∀ y∈l.take k,tmR y=true) (fun k=>l.length-k) (fun k=>[(24,.v (.int .i64 k))]) (fun _=>_) _ 0 rfl hcl [1,22,23] rfl ⟨yah _,fun y hy=>(by cases hy)⟩ ⟨⟨_,rfl,yae _⟩,trivial⟩ rfl (fun _ _=>rfl) ?_
  rintro k ⟨hk,hinv⟩
  rcases yag k l.length with hlt|hge
  ·have hc:=iht _ (zar l k tm0 hlt)
   unfold TrP at hc
   obtain ⟨w1,w2,w3,w4,hw,hb⟩:=zc1 (l.getD k tm0)
   rw [hw] at hc
   cases ht:tmR (l.getD k tm0) <;> rw [ht] at hc
   ·rw [zcj tm0 hlt ht,ya0]
    (repeat' ((conv=>whnf);(first|(refine yai ?_;first|refine yas ?_|refine yau rfl ?_|refine yar (by omega) ?_|fail)|(refine yaf ?_ ?_;· first|omega|exact yaa _ _|fail)|refine yab _ (hc _) ?_|refine zaa tm0 k rfl (by omega) zba hw ?_|fail)));conv=>whnf
    exact eT trivial
   ·(repeat' ((conv=>whnf);(first|(refine yai ?_;first|refine yas ?_|refine yaq rfl ?_|refine yar (by omega) ?_|fail)|(refine zad _ _ Cst.h Cst.h ?_ ?_;· omega)|(refine yaf ?_ ?_;· first|omega|exact yaa _ _|fail)|refine yab _ (hc _) ?_|refine zaa tm0 k rfl (by omega) zba hw ?_|fail)));conv=>whnf
    (refine ⟨⟨k+1,⟨by omega,zbt tm0 hlt hinv ht⟩,by omega,?_,.inl ⟨rfl,rfl⟩,rfl,_,rfl,?_⟩⟩;rotate_left 1;exact .inr ⟨by simp [zaw,below,zab,tr,zah,zak,zai,zam,zal,zan,hb],by simp [zbe,Blk.below,zab,below,zah,zak,zai,zam,zal,zan,hb]⟩;exact ⟨⟨_,rfl,yae _⟩,trivial⟩)
  ·have:k=l.length:=by omega
   subst this
   rw [ya3] at hinv
   rw [yao.2 hinv,ya9]
   (repeat' ((conv=>whnf);(first|refine ya1 (by omega) ?_|fail)));conv=>whnf
   refine zax Tryz.E0 zag (σ:=Nat) (fun k=>k≤m.length∧∀ y∈m.take k,foR y=true) (fun k=>m.length-k) (fun k=>[(35,.v (.int .i64 k))]) (fun _=>_) _ 0 rfl hcl [33,34] rfl ⟨yah _,fun y hy=>(by cases hy)⟩ ⟨⟨_,rfl,yae _⟩,trivial⟩ rfl (fun _ _=>rfl) ?_
   rintro k ⟨hk,hinv⟩
   rcases yag k m.length with hlt|hge
   ·have hc:=ih _ (zar m k fo0 hlt)
    unfold FrP at hc
    obtain ⟨w1,w2,w3,w4,w5,w6,hw,hb⟩:=zbz (m.getD k fo0)
    rw [hw] at hc
    cases ht:foR (m.getD k fo0) <;> rw [ht] at hc
    ·rw [zcj fo0 hlt ht]
     (repeat' ((conv=>whnf);(first|(refine yai ?_;first|refine yas ?_|refine yau rfl ?_|refine yar (by omega) ?_|fail)|(refine yaf ?_ ?_;· first|omega|exact yaa _ _|fail)|refine yab _ (hc _) ?_|refine zaa fo0 k rfl (by omega) za4 hw ?_|fail)));conv=>whnf
     exact eT trivial
    ·(repeat' ((conv=>whnf);(first|(refine yai ?_;first|refine yas ?_|refine yaq rfl ?_|refine yar (by omega) ?_|fail)|(refine zad _ _ Cst.h Cst.h ?_ ?_;· omega)|(refine yaf ?_ ?_;· first|omega|exact yaa _ _|fail)|refine yab _ (hc _) ?_|refine zaa fo0 k rfl (by omega) za4 hw ?_|fail)));conv=>whnf
     (refine ⟨⟨k+1,⟨by omega,zbt fo0 hlt hinv ht⟩,by omega,?_,.inl ⟨rfl,rfl⟩,rfl,_,rfl,?_⟩⟩;rotate_left 1;exact .inr ⟨by simp [zaw,below,zab,tr,zah,zak,zai,zam,zal,zan,hb],by simp [zbe,Blk.below,zab,below,zah,zak,zai,zam,zal,zan,hb]⟩;exact ⟨⟨_,rfl,yae _⟩,trivial⟩)
   ·have:k=m.length:=by omega
    subst this
    rw [ya3] at hinv
    rw [yao.2 hinv]
    (repeat' ((conv=>whnf);(first|refine ya1 (by omega) ?_|fail)));conv=>whnf
    exact eT trivial
 ·rw [decide_eq_false h1,ya0]
  have hb:=fun n=>zan n m
  have hb2:=fun n=>zal n l
  generalize l.flatMap Tm.cells=lc at *
  generalize m.flatMap Fo.cells=mc at *
  by_cases q1:op<1
  ·refine fdD Tryz.func121 ⟨rfl,rfl,rfl⟩ fun hcl hbl=>?_
   (repeat' ((conv=>whnf);(first|refine yar (by omega) ?_|fail)));conv=>whnf
   exact eT trivial
  ·by_cases q2:9<op
   ·refine fdD Tryz.func121 ⟨rfl,rfl,rfl⟩ fun hcl hbl=>?_
    (repeat' ((conv=>whnf);(first|(refine yai ?_;first|refine yar (by omega) ?_|refine ya1 (by omega) ?_|fail)|fail)));conv=>whnf
    exact eT trivial
   ·have q3:2<l.length:=by omega
    refine fdD Tryz.func121 ⟨rfl,rfl,rfl⟩ fun hcl hbl=>?_
    (repeat' ((conv=>whnf);(first|(refine yai ?_;first|refine yar (by omega) ?_|refine ya1 (by omega) ?_|fail)|fail)));conv=>whnf
    exact eT trivial
mutual
theorem fr_c:∀ x:Fo,x.good→FrP x
 | .mk op s l m,h=>fr_step op s l m h.1 (zaz h.2.2.1) (zaz h.2.2.2.2.1) (trs_all l h.2.2.2.1) (frs_all m h.2.2.2.2.2)
theorem frs_all:∀ l:List Fo,Fo.goodL l→∀ x∈l,FrP x
 | [],_,x,hx=>by cases hx
 | y::l,h,x,hx=>by
   rcases yay.1 hx with e|hx
   ·rw [e]
    exact fr_c y h.1
   ·exact frs_all l h.2 x hx
end
def zee (f:Fo):Bool:=(jF 1 f 400).2&&foR f
theorem rightQ_c (f:Fo) (hg:f.good) (H:Heap):VDet Tryz.prog 59 [.agg f.cells] H (.bool (zee f)):=by
 have h1:=fun H=>right_c f hg H
 have h2:∀ H,VDet Tryz.prog 121 [.agg f.cells] H (.bool (foR f)):=fun H=>fr_c f hg H
 unfold zee
 obtain ⟨a,b,c1,c,d1,d,hw,hb⟩:=zbz f
 rw [hw] at h1 h2 ⊢
 generalize foR f=u at *
 cases hj:(jF 1 f 400).2 <;> rw [hj] at h1
 ·rw [ya0]
  refine fdD Tryz.func59 ⟨rfl,rfl,rfl⟩ fun hcl hbl=>?_
  (repeat' ((conv=>whnf);(first|refine yau rfl ?_|refine yab _ (h1 _) ?_|fail)));conv=>whnf
  exact eT trivial
 ·rw [ya9]
  refine fdD Tryz.func59 ⟨rfl,rfl,rfl⟩ fun hcl hbl=>?_
  (repeat' ((conv=>whnf);(first|refine yaq rfl ?_|(refine ybm ?_;first|refine yab _ (h1 _) ?_|refine yab _ (h2 _) ?_|fail)|fail)));conv=>whnf
  exact eT trivial
theorem fq_right {f:Fo} (h:zee f=true):∃ p:Fq,p.Ok∧f=p.fo:=by
 unfold zee at h
 rw [yak] at h
 exact fq_of f 1 400 h.1 h.2
def isQ (op:Nat):Bool:=decide (op=8∨op=9)
theorem quant_c (op:Nat) (hop:op≤255) (s:ByteArray) (n1:Nat) (c1:List AV) (n2:Nat) (c2:List AV) (H:Heap):VDet Tryz.prog 77 [.agg [.int .u8 op,.str s,.sl none n1 c1,.sl none n2 c2]] H (.bool (isQ op)):=by
 unfold isQ
 by_cases h8:op=8
 ·subst h8
  refine fdD Tryz.func77 ⟨rfl,rfl,rfl⟩ fun hcl hbl=>?_
  (repeat' ((conv=>whnf);(first|refine yaq rfl ?_|fail)));conv=>whnf
  exact ya2 trivial (zaf rfl)
 ·by_cases h9:op=9
  ·subst h9
   refine fdD Tryz.func77 ⟨rfl,rfl,rfl⟩ fun hcl hbl=>?_
   (repeat' ((conv=>whnf);(first|refine yau rfl ?_|fail)));conv=>whnf
   exact ya2 trivial (zaf rfl)
  ·rw [decide_eq_false (by omega)]
   have e8:((op:Int)==8)=false:=by rw [ybj,Ne,beq_iff_eq];omega
   have e9:((op:Int)==9)=false:=by rw [ybj,Ne,beq_iff_eq];omega
   refine fdD Tryz.func77 ⟨rfl,rfl,rfl⟩ fun hcl hbl=>?_
   (repeat' ((conv=>whnf);(first|refine ya1 (by omega) ?_|fail)));conv=>whnf
   exact ya2 trivial (zaf (by rw [e9]))
def RankP (p:Fq):Prop:=rankF p≤100→∀ H,VDet Tryz.prog 19 [.agg p.fo.cells] H (.int .i64 (rankF p:Nat))
theorem rank_0 (op:Nat) (hop:op≤255) (hq:isQ op=false) (s:ByteArray) (l:List Tm) (H:Heap):VDet Tryz.prog 19 [.agg (Fo.mk op s l []).cells] H (.int .i64 0):=by
 have hqc:=fun H=>quant_c op hop s l.length (l.flatMap Tm.cells) 0 [] H
 rw [zaq]
 rw [hq] at hqc
 generalize hlc:l.flatMap Tm.cells=lc at *
 have hb:∀ n,zab n lc:=fun n=>hlc▸zal n l
 simp only [ybg,ybh]
 refine fdD Tryz.func19 ⟨rfl,rfl,rfl⟩ fun hcl hbl=>?_
 conv=>whnf
 refine ybe Tryz.E0 zag 1 rfl ?_
 (repeat' ((conv=>whnf);(first|refine yau rfl ?_|refine yab _ (hqc _) ?_|fail)));conv=>whnf
 exact eT trivial
theorem rank_1 (op:Nat) (hop:op≤255) (s:ByteArray) (a:Fo) (v:Nat) (hv:v≤100) (ha:∀ H,VDet Tryz.prog 19 [.agg a.cells] H (.int .i64 v)) (H:Heap):VDet Tryz.prog 19 [.agg (Fo.mk op s [] [a]).cells] H (.int .i64 ((if isQ op then v+1 else v:Nat):Int)):=by
 have hqc:=fun H=>quant_c op hop s 0 [] ([a]:List Fo).length (([a]:List Fo).flatMap Fo.cells) H
 rw [zaq]
 obtain ⟨w1,w2,w3,w4,w5,w6,hw,hb⟩:=zbz a
 rw [hw] at ha
 have e0:(([a]:List Fo).getD 0 fo0).cells=[.int .u8 (w1:Nat),.str w2,.sl none w3 w4,.sl none w5 w6]:=hw
 have hmx:max (0:Int) (v:Nat)=(v:Nat):=by omega
 cases hq:isQ op <;> rw [hq] at hqc
 ·refine fdD Tryz.func19 ⟨rfl,rfl,rfl⟩ fun hcl hbl=>?_
  conv=>whnf
  refine ybe Tryz.E0 zag 2 rfl ?_
  (repeat' ((conv=>whnf);(first|(refine yai ?_;first|refine yaq rfl ?_|refine yau rfl ?_|fail)|(refine zad _ _ Cst.h Cst.h ?_ ?_;· omega)|(refine yaf ?_ ?_;· first|exact yaa _ _|(simp;done)|fail)|(refine ybm ?_;first|refine yab _ (hqc _) ?_|refine yab _ (ha _) ?_|fail)|refine zaa fo0 0 rfl (by simp) za4 e0 ?_|fail)));conv=>whnf
  exact ya2 trivial (zaf (congrArg (AV.int _) (by simp)))
 ·refine fdD Tryz.func19 ⟨rfl,rfl,rfl⟩ fun hcl hbl=>?_
  conv=>whnf
  refine ybe Tryz.E0 zag 2 rfl ?_
  (repeat' ((conv=>whnf);(first|(refine yai ?_;first|refine yaq rfl ?_|refine yau rfl ?_|fail)|(refine yc0 ?_;first|(refine zad _ _ Cst.h Cst.h ?_ ?_;· omega)|refine yco (by omega) ?_|fail)|(refine yaf ?_ ?_;· first|exact yaa _ _|(simp;done)|fail)|(refine ybm ?_;first|refine yab _ (hqc _) ?_|refine yab _ (ha _) ?_|fail)|refine zaa fo0 0 rfl (by simp) za4 e0 ?_|fail)));conv=>whnf
  exact ya2 trivial (zaf (congrArg (AV.int _) (by simp)))
theorem rank_2 (op:Nat) (hop:op≤255) (hq:isQ op=false) (s:ByteArray) (a b:Fo) (v u:Nat) (hv:v≤100) (hu:u≤100) (ha:∀ H,VDet Tryz.prog 19 [.agg a.cells] H (.int .i64 v)) (hb0:∀ H,VDet Tryz.prog 19 [.agg b.cells] H (.int .i64 u)) (H:Heap):VDet Tryz.prog 19 [.agg (Fo.mk op s [] [a,b]).cells] H (.int .i64 ((max v u:Nat):Int)):=by
 have hqc:=fun H=>quant_c op hop s 0 [] ([a,b]:List Fo).length (([a,b]:List Fo).flatMap Fo.cells) H
 rw [zaq]
 rw [hq] at hqc
 obtain ⟨w1,w2,w3,w4,w5,w6,hw,hb⟩:=zbz a
 obtain ⟨v1,v2,v3,v4,v5,v6,hw2,hb2⟩:=zbz b
 rw [hw] at ha
 rw [hw2] at hb0
 have e0:(([a,b]:List Fo).getD 0 fo0).cells=[.int .u8 (w1:Nat),.str w2,.sl none w3 w4,.sl none w5 w6]:=hw
 have e1:(([a,b]:List Fo).getD 1 fo0).cells=[.int .u8 (v1:Nat),.str v2,.sl none v3 v4,.sl none v5 v6]:=hw2
 refine fdD Tryz.func19 ⟨rfl,rfl,rfl⟩ fun hcl hbl=>?_
 conv=>whnf
 refine ybe Tryz.E0 zag 3 rfl ?_
 (repeat' ((conv=>whnf);(first|(refine yai ?_;first|refine yaq rfl ?_|refine yau rfl ?_|fail)|(refine zad _ _ Cst.h Cst.h ?_ ?_;· omega)|(refine yaf ?_ ?_;· first|exact yaa _ _|(simp;done)|fail)|(refine ybm ?_;first|refine yab _ (hqc _) ?_|refine yab _ (ha _) ?_|refine yab _ (hb0 _) ?_|fail)|refine zaa fo0 0 rfl (by simp) za4 e0 ?_|refine zaa fo0 1 rfl (by simp) za4 e1 ?_|fail)));conv=>whnf
 exact ya2 trivial (zaf (congrArg (AV.int _) (by omega)))
theorem rank_c:∀ p:Fq,p.Ok→RankP p
 | .at_ s l,_=>fun _ H=>rank_0 1 (by decide) rfl s (l.map Tq.tm) H
 | .fa,_=>fun _ H=>rank_0 2 (by decide) rfl .empty [] H
 | .f1 a,h=>fun hr H=>rank_1 3 (by decide) .empty a.fo (rankF a) hr (rank_c a h hr) H
 | .f2 k a b,h=>fun hr H=>by
   have hr:max (rankF a) (rankF b)≤100:=hr
   refine rank_2 k (by have:=h.1;omega) ?_ .empty a.fo b.fo (rankF a) (rankF b) (by omega) (by omega) (rank_c a h.2.1 (by omega)) (rank_c b h.2.2 (by omega)) H
   rcases h.1 with rfl|rfl|rfl|rfl <;> rfl
 | .qn k x a,h=>fun hr H=>by
   have hr:rankF a+1≤100:=hr
   have:=rank_1 k (by have:=h.1;omega) x a.fo (rankF a) (by omega) (rank_c a h.2 (by omega)) H
   rw [show isQ k=true by rcases h.1 with rfl|rfl <;> rfl] at this
   exact this
theorem rank_bd:∀ (p:Fq) (d:Nat) (L:Int),p.Ok→(jF d p.fo L).2=true→rankF p+d≤41
 | .at_ s l,d,L,_,h=>by
   unfold Fq.fo jF at h
   split at h
   ·cases h
   ·show 0+d≤41
    omega
 | .fa,d,L,_,h=>by
   unfold Fq.fo jF at h
   split at h
   ·cases h
   ·show 0+d≤41
    omega
 | .f1 a,d,L,hok,h=>by
   unfold Fq.fo jF at h
   split at h
   ·cases h
   ·split at h
    ·cases h
    ·split at h
     ·cases h
     ·split at h
      ·obtain ⟨M,hM⟩:=zgz h a.fo (by simp)
       have h1:=rank_bd a _ M hok hM
       show rankF a+d≤41
       omega
      ·cases h
 | .f2 k a b,d,L,hok,h=>by
   unfold Fq.fo jF at h
   split at h
   ·cases h
   ·split at h
    ·cases h
    ·split at h
     ·cases h
     ·split at h
      ·obtain ⟨M,hM⟩:=zgz h a.fo (by simp)
       obtain ⟨N,hN⟩:=zgz h b.fo (by simp)
       have h1:=rank_bd a _ M hok.2.1 hM
       have h2:=rank_bd b _ N hok.2.2 hN
       show max (rankF a) (rankF b)+d≤41
       omega
      ·cases h
 | .qn k x a,d,L,hok,h=>by
   unfold Fq.fo jF at h
   split at h
   ·cases h
   ·split at h
    ·cases h
    ·split at h
     ·cases h
     ·split at h
      ·obtain ⟨M,hM⟩:=zgz h a.fo (by simp)
       have h1:=rank_bd a _ M hok.2 hM
       show rankF a+1+d≤41
       omega
      ·cases h
def encS (s:ByteArray):List AV:=[.str s]
theorem zb4 (s:ByteArray):(encS s).length=1:=rfl
theorem zao (n:Nat) (l:List ByteArray):zab n (l.flatMap encS):=zbl _ fun x=>by simp [encS,zab,below]
def incA {α:Type} (c:α→α→Int) (p:α→Bool) (d:α) (l:List α) (i:Nat):Bool:=p (l.getD i d)&&(decide (i=0) || decide (c (l.getD (i-1) d) (l.getD i d)<0))
def incF {α:Type} (c:α→α→Int) (p:α→Bool) (d:α) (l:List α):Bool:=(List.range l.length).all (incA c p d l)
theorem zer {α:Type} {c:α→α→Int} {p:α→Bool} {d:α} {l:List α} {k:Nat} (hk:k<l.length) (h:incA c p d l k=false):incF c p d l=false:=by
 rw [ybj]
 intro q
 unfold incF at q
 rw [yao] at q
 rw [q k (ybv.2 hk)] at h
 cases h
theorem inc_all {α:Type} {c:α→α→Int} {p:α→Bool} {d:α} {l:List α} (h:∀ i,i<l.length→incA c p d l i=true):incF c p d l=true:=by
 unfold incF
 rw [yao]
 exact fun i hi=>h i (ybv.1 hi)
theorem inc164_c (l:List SymI) (hl:l.length≤4611686018427387904) (G:FuncId) (p:SymI→Bool) (hR:∀ x∈l,∀ H,VDet Tryz.prog G [.agg (symI x)] H (.bool (p x))) (hC:∀ x y H,VDet Tryz.prog 149 [.agg (symI x),.agg (symI y)] H (.int .i64 (cSymI x y))) (H:Heap):VDet Tryz.prog 164 [.sl none l.length (l.flatMap symI),.clo (.func 149) [] [],.clo (.func G) [] []] H (.bool (incF cSymI p symI0 l)):=by
 refine fdD Tryz.func164 ⟨rfl,rfl,rfl⟩ fun hcl hbl=>?_
 conv=>whnf
 refine zax Tryz.E0 zag (σ:=Nat) (fun k=>k≤l.length∧∀ i,i<k→incA cSymI p symI0 l i=true) (fun k=>l.length-k) (fun k=>[(11,.v (.int .i64 k))]) (fun _=>_) _ 0 rfl hcl [0,1,2,9,10] rfl ⟨yah _,fun i h=>by omega⟩ ⟨⟨_,rfl,yae _⟩,trivial⟩ rfl (fun _ _=>rfl) ?_
 rintro k ⟨hk,hinv⟩
 rcases yag k l.length with hlt|hge
 ·have hr:=hR _ (zar l k symI0 hlt)
  have hc:=hC (l.getD (k-1) symI0) (l.getD k symI0)
  have hA:incA cSymI p symI0 l k=(p (l.getD k symI0)&&(decide (k=0) || decide (cSymI (l.getD (k-1) symI0) (l.getD k symI0)<0))):=rfl
  have hstep:incA cSymI p symI0 l k=true→∀ i,i<k+1→incA cSymI p symI0 l i=true:=fun h i hi=>by
   rcases yag i k with h2|h2
   ·exact hinv i h2
   ·rw [show i=k by omega]
    exact h
  generalize cSymI (l.getD (k-1) symI0) (l.getD k symI0)=cv at *
  generalize p (l.getD k symI0)=pk at hr hA
  obtain ⟨u,v,hx⟩:∃ u v,symI (l.getD k symI0)=[.str u,.int .i64 v]:=⟨_,_,rfl⟩
  obtain ⟨u2,v2,hy⟩:∃ u2 v2,symI (l.getD (k-1) symI0)=[.str u2,.int .i64 v2]:=⟨_,_,rfl⟩
  rw [hx] at hr;rw [hx,hy] at hc
  cases pk
  ·rw [ya0] at hA
   rw [zer hlt hA]
   (repeat' ((conv=>whnf);(first|(refine yai ?_;first|refine yas ?_|refine yau rfl ?_|refine yar (by omega) ?_|fail)|(refine yaf ?_ ?_;· first|kernel_rfl|omega|exact yaa _ _|fail)|refine yan _ (fun _ hq X=>hr _) ?_|refine zaa symI0 k rfl (by omega) za6 hx ?_|refine zae [] ?_|fail)));conv=>whnf
   exact eT trivial
  ·rw [ya9] at hA
   by_cases hk0:k=0
   ·rw [decide_eq_true hk0,Bool.true_or] at hA
    subst hk0
    (repeat' ((conv=>whnf);(first|(refine yai ?_;first|refine yas ?_|refine yaq rfl ?_|refine yau rfl ?_|refine yar (by omega) ?_|fail)|(refine zad _ _ Cst.h Cst.h ?_ ?_;· omega)|(refine yaf ?_ ?_;· first|kernel_rfl|omega|exact yaa _ _|fail)|refine yan _ (fun _ hq X=>hr _) ?_|refine zaa symI0 0 rfl (by omega) za6 hx ?_|refine zae [] ?_|fail)));conv=>whnf
    (refine ⟨⟨0+1,⟨by omega,hstep hA⟩,by omega,?_,.inl ⟨rfl,rfl⟩,rfl,_,rfl,?_⟩⟩;rotate_left 1;exact .inr ⟨by simp [zaw,below,zab,tr,zah,zak,zai,zam,zal,zan,zaj,zao],by simp [zbe,Blk.below,zab,below,zah,zak,zai,zam,zal,zan,zaj,zao]⟩;exact ⟨⟨_,rfl,yae _⟩,trivial⟩)
   ·rw [decide_eq_false hk0,yej] at hA
    by_cases hcv:cv<0
    ·rw [decide_eq_true hcv] at hA
     (repeat' ((conv=>whnf);(first|(refine yai ?_;first|refine yas ?_|refine yaq rfl ?_|refine yar (by omega) ?_|refine ya1 (by omega) ?_|fail)|(refine yc0 ?_;first|(refine zad _ _ Cst.h Cst.h ?_ ?_;· omega)|(refine zb5 _ _ Cst.h Cst.h ?_ ?_;· omega)|fail)|(refine yaf ?_ ?_;· first|kernel_rfl|omega|exact yaa _ _|fail)|(refine yck ?_;first|refine yan _ (fun _ hq X=>hr _) ?_|refine yan _ (fun _ hq X=>hc _) ?_|fail)|refine zaa symI0 k rfl (by omega) za6 hx ?_|refine zaa symI0 (k-1) (by omega) (by omega) za6 hy ?_|refine zae [] ?_|fail)));conv=>whnf
     (refine ⟨⟨k+1,⟨by omega,hstep hA⟩,by omega,?_,.inl ⟨rfl,rfl⟩,rfl,_,rfl,?_⟩⟩;rotate_left 1;exact .inr ⟨by simp [zaw,below,zab,tr,zah,zak,zai,zam,zal,zan,zaj,zao],by simp [zbe,Blk.below,zab,below,zah,zak,zai,zam,zal,zan,zaj,zao]⟩;exact ⟨⟨_,rfl,yae _⟩,trivial⟩)
    ·rw [decide_eq_false hcv] at hA
     rw [zer hlt hA]
     (repeat' ((conv=>whnf);(first|(refine yai ?_;first|refine yas ?_|refine yaq rfl ?_|refine yar (by omega) ?_|fail)|(refine zb5 _ _ Cst.h Cst.h ?_ ?_;· omega)|(refine yaf ?_ ?_;· first|kernel_rfl|omega|exact yaa _ _|fail)|(refine yck ?_;first|refine yan _ (fun _ hq X=>hr _) ?_|refine yan _ (fun _ hq X=>hc _) ?_|fail)|refine zaa symI0 k rfl (by omega) za6 hx ?_|refine zaa symI0 (k-1) (by omega) (by omega) za6 hy ?_|refine zae [] ?_|fail)));conv=>whnf
     exact eT trivial
 ·have:k=l.length:=by omega
  subst this
  rw [inc_all hinv]
  (repeat' ((conv=>whnf);(first|refine ya1 (by omega) ?_|fail)));conv=>whnf
  exact eT trivial
theorem inc165_c (l:List ByteArray) (hl:l.length≤4611686018427387904) (G:FuncId) (p:ByteArray→Bool) (hR:∀ x∈l,∀ H,VDet Tryz.prog G [.str x] H (.bool (p x))) (hC:∀ x y H,VDet Tryz.prog 151 [.str x,.str y] H (.int .i64 (cmpB x y))) (H:Heap):VDet Tryz.prog 165 [.sl none l.length (l.flatMap encS),.clo (.func 151) [] [],.clo (.func G) [] []] H (.bool (incF cmpB p .empty l)):=by
 refine fdD Tryz.func165 ⟨rfl,rfl,rfl⟩ fun hcl hbl=>?_
 conv=>whnf
 refine zax Tryz.E0 zag (σ:=Nat) (fun k=>k≤l.length∧∀ i,i<k→incA cmpB p .empty l i=true) (fun k=>l.length-k) (fun k=>[(11,.v (.int .i64 k))]) (fun _=>_) _ 0 rfl hcl [0,1,2,9,10] rfl ⟨yah _,fun i h=>by omega⟩ ⟨⟨_,rfl,yae _⟩,trivial⟩ rfl (fun _ _=>rfl) ?_
 rintro k ⟨hk,hinv⟩
 rcases yag k l.length with hlt|hge
 ·have hr:=hR _ (zar l k .empty hlt)
  have hc:=hC (l.getD (k-1) .empty) (l.getD k .empty)
  have hA:incA cmpB p .empty l k=(p (l.getD k .empty)&&(decide (k=0) || decide (cmpB (l.getD (k-1) .empty) (l.getD k .empty)<0))):=rfl
  have hstep:incA cmpB p .empty l k=true→∀ i,i<k+1→incA cmpB p .empty l i=true:=fun h i hi=>by
   rcases yag i k with h2|h2
   ·exact hinv i h2
   ·rw [show i=k by omega]
    exact h
  generalize cmpB (l.getD (k-1) .empty) (l.getD k .empty)=cv at *
  generalize p (l.getD k .empty)=pk at hr hA
  obtain ⟨u,hx⟩:∃ u,encS (l.getD k .empty)=[.str u]:=⟨_,rfl⟩
  obtain ⟨u2,hy⟩:∃ u2,encS (l.getD (k-1) .empty)=[.str u2]:=⟨_,rfl⟩
  have hxe:l.getD k .empty=u:=by cases hx;rfl
  have hye:l.getD (k-1) .empty=u2:=by cases hy;rfl
  rw [hxe] at hr;rw [hxe,hye] at hc
  cases pk
  ·rw [ya0] at hA
   rw [zer hlt hA]
   (repeat' ((conv=>whnf);(first|(refine yai ?_;first|refine yas ?_|refine yau rfl ?_|refine yar (by omega) ?_|fail)|(refine yaf ?_ ?_;· first|omega|exact yaa _ _|fail)|refine yab _ (hr _) ?_|refine zaa .empty k rfl (by omega) zb4 hx ?_|fail)));conv=>whnf
   exact eT trivial
  ·rw [ya9] at hA
   by_cases hk0:k=0
   ·rw [decide_eq_true hk0,Bool.true_or] at hA
    subst hk0
    (repeat' ((conv=>whnf);(first|(refine yai ?_;first|refine yas ?_|refine yaq rfl ?_|refine yau rfl ?_|refine yar (by omega) ?_|fail)|(refine zad _ _ Cst.h Cst.h ?_ ?_;· omega)|(refine yaf ?_ ?_;· first|omega|exact yaa _ _|fail)|refine yab _ (hr _) ?_|refine zaa .empty 0 rfl (by omega) zb4 hx ?_|fail)));conv=>whnf
    (refine ⟨⟨0+1,⟨by omega,hstep hA⟩,by omega,?_,.inl ⟨rfl,rfl⟩,rfl,_,rfl,?_⟩⟩;rotate_left 1;exact .inl rfl;exact ⟨⟨_,rfl,yae _⟩,trivial⟩)
   ·rw [decide_eq_false hk0,yej] at hA
    by_cases hcv:cv<0
    ·rw [decide_eq_true hcv] at hA
     (repeat' ((conv=>whnf);(first|(refine yai ?_;first|refine yas ?_|refine yaq rfl ?_|refine yar (by omega) ?_|refine ya1 (by omega) ?_|fail)|(refine yc0 ?_;first|(refine zad _ _ Cst.h Cst.h ?_ ?_;· omega)|(refine zb5 _ _ Cst.h Cst.h ?_ ?_;· omega)|fail)|(refine yaf ?_ ?_;· first|omega|exact yaa _ _|fail)|(refine ybm ?_;first|refine yab _ (hr _) ?_|refine yab _ (hc _) ?_|fail)|refine zaa .empty k rfl (by omega) zb4 hx ?_|refine zaa .empty (k-1) (by omega) (by omega) zb4 hy ?_|fail)));conv=>whnf
     (refine ⟨⟨k+1,⟨by omega,hstep hA⟩,by omega,?_,.inl ⟨rfl,rfl⟩,rfl,_,rfl,?_⟩⟩;rotate_left 1;exact .inl rfl;exact ⟨⟨_,rfl,yae _⟩,trivial⟩)
    ·rw [decide_eq_false hcv] at hA
     rw [zer hlt hA]
     (repeat' ((conv=>whnf);(first|(refine yai ?_;first|refine yas ?_|refine yaq rfl ?_|refine yar (by omega) ?_|fail)|(refine zb5 _ _ Cst.h Cst.h ?_ ?_;· omega)|(refine yaf ?_ ?_;· first|omega|exact yaa _ _|fail)|(refine ybm ?_;first|refine yab _ (hr _) ?_|refine yab _ (hc _) ?_|fail)|refine zaa .empty k rfl (by omega) zb4 hx ?_|refine zaa .empty (k-1) (by omega) (by omega) zb4 hy ?_|fail)));conv=>whnf
     exact eT trivial
 ·have:k=l.length:=by omega
  subst this
  rw [inc_all hinv]
  (repeat' ((conv=>whnf);(first|refine ya1 (by omega) ?_|fail)));conv=>whnf
  exact eT trivial
def predO (x:SymI):Bool:=ze8 x.1&&(decide (0≤x.2)&&decide (x.2≤2))
def funcO (x:SymI):Bool:=isFun x.1&&(decide (0≤x.2)&&decide (x.2≤1))
theorem predO_c (x:SymI) (hs:x.1.size≤9223372036854775807) (H:Heap):VDet Tryz.prog 161 [.agg (symI x)] H (.bool (predO x)):=by
 obtain ⟨s,a⟩:=x
 have hc:=fun H=>predicate_g s hs H
 unfold predO symI
 simp only
 generalize ze8 s=b at *
 cases b
 ·rw [ya0]
  refine fdD Tryz.func161 ⟨rfl,rfl,rfl⟩ fun hcl hbl=>?_
  (repeat' ((conv=>whnf);(first|refine yau rfl ?_|refine yab _ (hc _) ?_|fail)));conv=>whnf
  exact eT trivial
 ·rw [ya9]
  by_cases h1:0≤a
  ·by_cases h2:a≤2
   ·rw [decide_eq_true h1,decide_eq_true h2]
    refine fdD Tryz.func161 ⟨rfl,rfl,rfl⟩ fun hcl hbl=>?_
    (repeat' ((conv=>whnf);(first|(refine yai ?_;first|refine yaq rfl ?_|refine yar (by omega) ?_|fail)|refine yab _ (hc _) ?_|fail)));conv=>whnf
    exact ya2 trivial (zaf (congrArg AV.bool (by simp;omega)))
   ·rw [decide_eq_true h1,decide_eq_false h2]
    refine fdD Tryz.func161 ⟨rfl,rfl,rfl⟩ fun hcl hbl=>?_
    (repeat' ((conv=>whnf);(first|(refine yai ?_;first|refine yaq rfl ?_|refine yar (by omega) ?_|fail)|refine yab _ (hc _) ?_|fail)));conv=>whnf
    exact ya2 trivial (zaf (congrArg AV.bool (by simp;omega)))
  ·rw [decide_eq_false h1,ya0]
   refine fdD Tryz.func161 ⟨rfl,rfl,rfl⟩ fun hcl hbl=>?_
   (repeat' ((conv=>whnf);(first|(refine yai ?_;first|refine yaq rfl ?_|refine ya1 (by omega) ?_|fail)|refine yab _ (hc _) ?_|fail)));conv=>whnf
   exact ya2 trivial (zaf (congrArg AV.bool (by simp;try omega)))
theorem funcO_c (x:SymI) (hs:x.1.size≤9223372036854775807) (H:Heap):VDet Tryz.prog 162 [.agg (symI x)] H (.bool (funcO x)):=by
 obtain ⟨s,a⟩:=x
 have hc:=fun H=>function_g s hs H
 unfold funcO symI
 simp only
 generalize isFun s=b at *
 cases b
 ·rw [ya0]
  refine fdD Tryz.func162 ⟨rfl,rfl,rfl⟩ fun hcl hbl=>?_
  (repeat' ((conv=>whnf);(first|refine yau rfl ?_|refine yab _ (hc _) ?_|fail)));conv=>whnf
  exact eT trivial
 ·rw [ya9]
  by_cases h1:0≤a
  ·by_cases h2:a≤1
   ·rw [decide_eq_true h1,decide_eq_true h2]
    refine fdD Tryz.func162 ⟨rfl,rfl,rfl⟩ fun hcl hbl=>?_
    (repeat' ((conv=>whnf);(first|(refine yai ?_;first|refine yaq rfl ?_|refine yar (by omega) ?_|fail)|refine yab _ (hc _) ?_|fail)));conv=>whnf
    exact ya2 trivial (zaf (congrArg AV.bool (by simp;omega)))
   ·rw [decide_eq_true h1,decide_eq_false h2]
    refine fdD Tryz.func162 ⟨rfl,rfl,rfl⟩ fun hcl hbl=>?_
    (repeat' ((conv=>whnf);(first|(refine yai ?_;first|refine yaq rfl ?_|refine yar (by omega) ?_|fail)|refine yab _ (hc _) ?_|fail)));conv=>whnf
    exact ya2 trivial (zaf (congrArg AV.bool (by simp;omega)))
  ·rw [decide_eq_false h1,ya0]
   refine fdD Tryz.func162 ⟨rfl,rfl,rfl⟩ fun hcl hbl=>?_
   (repeat' ((conv=>whnf);(first|(refine yai ?_;first|refine yaq rfl ?_|refine ya1 (by omega) ?_|fail)|refine yab _ (hc _) ?_|fail)));conv=>whnf
   exact ya2 trivial (zaf (congrArg AV.bool (by simp;try omega)))
structure Sig where
 preds:List SymI
 funcs:List SymI
 vars:List ByteArray
def Sig.cells (s:Sig):List AV:=[.sl none s.preds.length (s.preds.flatMap symI),.sl none s.funcs.length (s.funcs.flatMap symI),.sl none s.vars.length (s.vars.flatMap encS)]
def sigR (s:Sig):Bool:=incF cSymI predO symI0 s.preds&&(incF cSymI funcO symI0 s.funcs&&incF cmpB isVar .empty s.vars)
structure Sig.Sm (s:Sig):Prop where
 preds:s.preds.length≤1000000
 funcs:s.funcs.length≤1000000
 vars:s.vars.length≤1000000
 np:∀ x∈s.preds,x.1.size≤9223372036854775807
 nf:∀ x∈s.funcs,x.1.size≤9223372036854775807
 nv:∀ x∈s.vars,x.size≤9223372036854775807
theorem sigR_c (s:Sig) (hs:s.Sm) (H:Heap):VDet Tryz.prog 85 [.agg s.cells] H (.bool (sigR s)):=by
 have h1:=fun H=>inc164_c s.preds (by have:=hs.preds;omega) 161 predO (fun x hx H=>predO_c x (hs.np x hx) H) csym_c H
 have h2:=fun H=>inc164_c s.funcs (by have:=hs.funcs;omega) 162 funcO (fun x hx H=>funcO_c x (hs.nf x hx) H) csym_c H
 have h3:=fun H=>inc165_c s.vars (by have:=hs.vars;omega) 166 isVar (fun x hx H=>zgs x (hs.nv x hx) H) strCmp_c H
 unfold sigR Sig.cells
 generalize incF cSymI predO symI0 s.preds=b1 at *
 generalize incF cSymI funcO symI0 s.funcs=b2 at *
 generalize incF cmpB isVar .empty s.vars=b3 at *
 cases b1 <;> cases b2
 all_goals
  refine fdD Tryz.func85 ⟨rfl,rfl,rfl⟩ fun hcl hbl=>?_
  (repeat' ((conv=>whnf);(first|(refine yai ?_;first|refine yaq rfl ?_|refine yau rfl ?_|fail)|(refine ybm ?_;first|refine yab _ (h1 _) ?_|refine yab _ (h2 _) ?_|refine yab _ (h3 _) ?_|fail)|fail)));all_goals (conv=>whnf)
  exact eT trivial
def sigM (m:Mdl):Sig:=⟨m.facts.map fun f=>(f.nm,f.ar),m.funcs.map fun f=>(f.nm,f.ar),m.binds.map Bnd.nm⟩
theorem sigM_c (m:Mdl) (hm:m.Sm) (H:Heap):VDet Tryz.prog 103 [.agg m.cells] H (.agg (sigM m).cells):=by
 have hfl:=hm.facts
 have hul:=hm.funcs
 have hbl2:=hm.binds
 have hmc:m.cells=[.int .u8 m.kind,.int .i64 m.size,.sl none m.rel.length (m.rel.flatMap enc64),.int .i64 m.loop,.sl none m.facts.length (m.facts.flatMap Fct.cells),.sl none m.funcs.length (m.funcs.flatMap Fnc.cells),.sl none m.binds.length (m.binds.flatMap Bnd.cells)]:=rfl
 rw [hmc]
 refine fdD Tryz.func103 ⟨rfl,rfl,rfl⟩ fun hcl hbl=>?_
 conv=>whnf
 refine ydv 2 0 92 2 rfl rfl rfl rfl rfl rfl ?_
 refine zax Tryz.E0 zag (σ:=Nat) (fun k=>k≤m.facts.length) (fun k=>m.facts.length-k) (fun k=>[(13,.v (.int .i64 k))]) (fun k=>[.box 37 [.int .u8 m.kind,.int .i64 m.size,.sl none m.rel.length (m.rel.flatMap enc64),.int .i64 m.loop,.sl none m.facts.length (m.facts.flatMap Fct.cells),.sl none m.funcs.length (m.funcs.flatMap Fnc.cells),.sl none m.binds.length (m.binds.flatMap Bnd.cells)],.box 58 [.nils,.nils,.nils],.box 58 [.sl (some (H.length+3)) k (((m.facts.map fun f=>(f.nm,f.ar)).take k).flatMap symI),.nils,.nils],.tok 92 2 (((m.facts.map fun f=>(f.nm,f.ar)).take k).flatMap symI).length]) _ 0 rfl hcl [1,2,3,11,12] rfl (yah _) ⟨⟨_,rfl,yae _⟩,trivial⟩ rfl (fun _ _=>rfl) ?_
 intro k hk
 rcases yag k m.facts.length with hlt|hge
 ·obtain ⟨u,v,z,hx,e1⟩:=zhc (f:=m.facts.getD k fct0) rfl
  have hns:((m.facts.map fun f=>(f.nm,f.ar)).take (k+1)).flatMap symI=((m.facts.map fun f=>(f.nm,f.ar)).take k).flatMap symI++[.str u,.int .i64 v]:=by
   rw [zbm _ symI0 k (by rw [yav];exact hlt),yb0]
   have:(m.facts.map fun f=>(f.nm,f.ar)).getD k symI0=(u,v):=by
    have hg:m.facts[k]=⟨u,v,z⟩:=by
     rw [← hx]
     simp [yal hlt]
    simp [yal hlt,hg]
   rw [this]
   rfl
  have hml:(((m.facts.map fun f=>(f.nm,f.ar)).take k).flatMap symI).length=k * 2:=by
   rw [zbh za6,ycm,yav,ycl hk]
  have hbt:(k+1) * 24≤140737488355328:=by omega
  have hmx:k+1≤maxLen:=ybk (show k+1≤1000001 by omega) (by decide)
  (repeat' ((conv=>whnf);(first|refine yar (by omega) ?_|(refine zad _ _ Cst.h Cst.h ?_ ?_;· omega)|(refine yaf ?_ ?_;· first|omega|exact yaa _ _|fail)|refine zaa fct0 k rfl (by omega) zbr e1 ?_|refine yaf ⟨rfl,rfl,rfl,hbt,hmx⟩ ?_|refine yce _ rfl ?_|fail)));conv=>whnf
  rw [← hns]
  (refine ⟨⟨k+1,by show k+1≤_;omega,by omega,?_,.inl ⟨rfl,rfl⟩,rfl,_,rfl,?_⟩⟩;rotate_left 1;exact .inr ⟨by simp [zaw,below,zab,tr,zah,zak,zai,zam,zal,zan,zaj,zao],by simp [zbe,Blk.below,zab,below,zah,zak,zai,zam,zal,zan,zaj,zao]⟩;exact ⟨⟨_,rfl,yae _⟩,trivial⟩)
 ·have:k=m.facts.length:=by omega
  subst this
  rw [yca (by rw [yav];exact yax _)]
  (repeat' ((conv=>whnf);(first|refine ya1 (by omega) ?_|fail)));conv=>whnf
  refine ydv 2 1 92 2 rfl rfl rfl rfl rfl rfl ?_
  refine zax Tryz.E0 zag (σ:=Nat) (fun k=>k≤m.funcs.length) (fun k=>m.funcs.length-k) (fun k=>[(31,.v (.int .i64 k))]) (fun k=>[.box 37 [.int .u8 m.kind,.int .i64 m.size,.sl none m.rel.length (m.rel.flatMap enc64),.int .i64 m.loop,.sl none m.facts.length (m.facts.flatMap Fct.cells),.sl none m.funcs.length (m.funcs.flatMap Fnc.cells),.sl none m.binds.length (m.binds.flatMap Bnd.cells)],.box 58 [.nils,.nils,.nils],.box 58 [.sl (some (H.length+3)) m.facts.length ((m.facts.map fun f=>(f.nm,f.ar)).flatMap symI),.sl (some (H.length+4)) k (((m.funcs.map fun f=>(f.nm,f.ar)).take k).flatMap symI),.nils],.tok 92 2 ((m.facts.map fun f=>(f.nm,f.ar)).flatMap symI).length,.tok 92 2 (((m.funcs.map fun f=>(f.nm,f.ar)).take k).flatMap symI).length]) _ 0 rfl hcl [1,2,3,29,30] rfl (yah _) ⟨⟨_,rfl,yae _⟩,trivial⟩ rfl (fun _ _=>rfl) ?_
  intro k hk
  rcases yag k m.funcs.length with hlt|hge
  ·obtain ⟨u,v,z,hx,e1⟩:=zha (f:=m.funcs.getD k fnc0) rfl
   have hns:((m.funcs.map fun f=>(f.nm,f.ar)).take (k+1)).flatMap symI=((m.funcs.map fun f=>(f.nm,f.ar)).take k).flatMap symI++[.str u,.int .i64 v]:=by
    rw [zbm _ symI0 k (by rw [yav];exact hlt),yb0]
    have:(m.funcs.map fun f=>(f.nm,f.ar)).getD k symI0=(u,v):=by
     have hg:m.funcs[k]=⟨u,v,z⟩:=by
      rw [← hx]
      simp [yal hlt]
     simp [yal hlt,hg]
    rw [this]
    rfl
   have hml:(((m.funcs.map fun f=>(f.nm,f.ar)).take k).flatMap symI).length=k * 2:=by
    rw [zbh za6,ycm,yav,ycl hk]
   have hbt:(k+1) * 24≤140737488355328:=by omega
   have hmx:k+1≤maxLen:=ybk (show k+1≤1000001 by omega) (by decide)
   (repeat' ((conv=>whnf);(first|refine yar (by omega) ?_|(refine zad _ _ Cst.h Cst.h ?_ ?_;· omega)|(refine yaf ?_ ?_;· first|omega|exact yaa _ _|fail)|refine zaa fnc0 k rfl (by omega) zbw e1 ?_|refine yaf ⟨rfl,rfl,rfl,hbt,hmx⟩ ?_|refine yce _ rfl ?_|fail)));conv=>whnf
   rw [← hns]
   (refine ⟨⟨k+1,by show k+1≤_;omega,by omega,?_,.inl ⟨rfl,rfl⟩,rfl,_,rfl,?_⟩⟩;rotate_left 1;exact .inr ⟨by simp [zaw,below,zab,tr,zah,zak,zai,zam,zal,zan,zaj,zao],by simp [zbe,Blk.below,zab,below,zah,zak,zai,zam,zal,zan,zaj,zao]⟩;exact ⟨⟨_,rfl,yae _⟩,trivial⟩)
  ·have:k=m.funcs.length:=by omega
   subst this
   rw [yca (by rw [yav];exact yax _)]
   (repeat' ((conv=>whnf);(first|refine ya1 (by omega) ?_|fail)));conv=>whnf
   refine ydv 2 2 9 1 rfl rfl rfl rfl rfl rfl ?_
   refine zax Tryz.E0 zag (σ:=Nat) (fun k=>k≤m.binds.length) (fun k=>m.binds.length-k) (fun k=>[(49,.v (.int .i64 k))]) (fun k=>[.box 37 [.int .u8 m.kind,.int .i64 m.size,.sl none m.rel.length (m.rel.flatMap enc64),.int .i64 m.loop,.sl none m.facts.length (m.facts.flatMap Fct.cells),.sl none m.funcs.length (m.funcs.flatMap Fnc.cells),.sl none m.binds.length (m.binds.flatMap Bnd.cells)],.box 58 [.nils,.nils,.nils],.box 58 [.sl (some (H.length+3)) m.facts.length ((m.facts.map fun f=>(f.nm,f.ar)).flatMap symI),.sl (some (H.length+4)) m.funcs.length ((m.funcs.map fun f=>(f.nm,f.ar)).flatMap symI),.sl (some (H.length+5)) k (((m.binds.map Bnd.nm).take k).flatMap encS)],.tok 92 2 ((m.facts.map fun f=>(f.nm,f.ar)).flatMap symI).length,.tok 92 2 ((m.funcs.map fun f=>(f.nm,f.ar)).flatMap symI).length,.tok 9 1 (((m.binds.map Bnd.nm).take k).flatMap encS).length]) _ 0 rfl hcl [2,3,47,48] rfl (yah _) ⟨⟨_,rfl,yae _⟩,trivial⟩ rfl (fun _ _=>rfl) ?_
   intro k hk
   rcases yag k m.binds.length with hlt|hge
   ·obtain ⟨u,v,hx,e1⟩:=zf4 (f:=m.binds.getD k bnd0) rfl
    have hns:((m.binds.map Bnd.nm).take (k+1)).flatMap encS=((m.binds.map Bnd.nm).take k).flatMap encS++[.str u]:=by
     rw [zbm _ .empty k (by rw [yav];exact hlt),yb0]
     have:(m.binds.map Bnd.nm).getD k .empty=u:=by
      have hg:m.binds[k]=⟨u,v⟩:=by
       rw [← hx]
       simp [yal hlt]
      simp [yal hlt,hg]
     rw [this]
     rfl
    have hml:(((m.binds.map Bnd.nm).take k).flatMap encS).length=k * 1:=by
     rw [zbh zb4,ycm,yav,ycl hk]
    have hbt:(k+1) * 16≤140737488355328:=by omega
    have hmx:k+1≤maxLen:=ybk (show k+1≤1000001 by omega) (by decide)
    (repeat' ((conv=>whnf);(first|refine yar (by omega) ?_|(refine zad _ _ Cst.h Cst.h ?_ ?_;· omega)|(refine yaf ?_ ?_;· first|omega|exact yaa _ _|fail)|refine zaa bnd0 k rfl (by omega) zbs e1 ?_|refine yaf ⟨rfl,rfl,rfl,hbt,hmx⟩ ?_|refine yce _ rfl ?_|fail)));conv=>whnf
    rw [← hns]
    (refine ⟨⟨k+1,by show k+1≤_;omega,by omega,?_,.inl ⟨rfl,rfl⟩,rfl,_,rfl,?_⟩⟩;rotate_left 1;exact .inr ⟨by simp [zaw,below,zab,tr,zah,zak,zai,zam,zal,zan,zaj,zao],by simp [zbe,Blk.below,zab,below,zah,zak,zai,zam,zal,zan,zaj,zao]⟩;exact ⟨⟨_,rfl,yae _⟩,trivial⟩)
   ·have:k=m.binds.length:=by omega
    subst this
    rw [yca (by rw [yav];exact yax _)]
    (repeat' ((conv=>whnf);(first|refine ya1 (by omega) ?_|fail)));conv=>whnf
    refine ya2 (by simp [below,zab,Sig.cells,sigM,zaj,zao]) ?_
    unfold Sig.cells sigM
    simp only [yav]
    (repeat' (first|exact trivial|refine yb6 ?_ ?_|exact wk_sl _ _ _|refine zb9 ?_|fail));done
def elB (n a:Int):Bool:=decide (0≤a)&&decide (a<n)
def okFct (n:Int) (f:Fct):Bool:=decide (0≤f.tr)&&decide (f.tr<(2 ^ n.toNat ^ f.ar.toNat:Nat))
def okFnc (n:Int) (f:Fnc):Bool:=decide (f.vl.length=n.toNat ^ f.ar.toNat)&&f.vl.all (elB n)
def okBnd (n:Int) (b:Bnd):Bool:=elB n b.at_
def shape (m:Mdl):Prop:=m.kind=2∧1≤m.size∧m.size≤3∧m.rel.length=0∧m.loop=0
instance (m:Mdl):Decidable (shape m):=by unfold shape;exact inferInstance
def zb0 (m:Mdl):Bool:=decide (shape m)&&(sigR (sigM m)&&(m.facts.all (okFct m.size)&&(m.funcs.all (okFnc m.size)&&m.binds.all (okBnd m.size))))
structure Mdl.Nm (m:Mdl):Prop where
 f:∀ x∈m.facts,x.nm.size≤9223372036854775807
 u:∀ x∈m.funcs,x.nm.size≤9223372036854775807
 b:∀ x∈m.binds,x.nm.size≤9223372036854775807
theorem sigM_sm {m:Mdl} (hm:m.Sm) (hn:m.Nm):(sigM m).Sm:=by
 refine ⟨by show (m.facts.map _).length≤_;rw [yav];exact hm.facts,by show (m.funcs.map _).length≤_;rw [yav];exact hm.funcs,by show (m.binds.map _).length≤_;rw [yav];exact hm.binds,fun x hx=>?_,fun x hx=>?_,fun x hx=>?_⟩
 ·obtain ⟨f,hf,rfl⟩:=ybx.1 hx
  exact hn.f f hf
 ·obtain ⟨f,hf,rfl⟩:=ybx.1 hx
  exact hn.u f hf
 ·obtain ⟨f,hf,rfl⟩:=ybx.1 hx
  exact hn.b f hf
theorem inc_p {α:Type} {c:α→α→Int} {p:α→Bool} {d:α} {l:List α} (h:incF c p d l=true):∀ x∈l,p x=true:=by
 intro x hx
 obtain ⟨i,hi,rfl⟩:=yd1 hx
 unfold incF at h
 rw [yao] at h
 have:=h i (ybv.2 hi)
 unfold incA at this
 rw [yak] at this
 have h1:=this.1
 simpa [yal hi] using h1
theorem powN_c (n e:Nat) (hn:1≤n∧n≤3) (he:e≤10) (H:Heap):VDet Tryz.prog 93 [.int .i64 n,.int .i64 e] H (.int .i64 ((n ^ e:Nat):Int)):=by
 have:=power_c n e (by omega) he H
 rwa [show ((n ^ e:Nat):Int)=(n:Int) ^ e from Int.natCast_pow n e]
theorem el_c {n:Int} (mc:List AV) (hmx:∃ e1 e3 e4 e5 e6 e7 e8 e9 e10 e11,mc=[.int .u8 e1,.int .i64 n,.sl none e3 e4,.int .i64 e5,.sl none e6 e7,.sl none e8 e9,.sl none e10 e11]) (a:Int) (H:Heap) (p:Nat) (hp:H[p]? = some (.box 37 mc)):VDet Tryz.prog 115 [.int .i64 a,.ptr p 0] H (.bool (elB n a)):=by
 obtain ⟨e1,e3,e4,e5,e6,e7,e8,e9,e10,e11,rfl⟩:=hmx
 unfold elB
 by_cases h:0≤a
 ·rw [decide_eq_true h,ya9]
  refine fdD Tryz.func115 ⟨rfl,rfl,rfl⟩ fun hcl hbl=>?_
  (repeat' ((conv=>whnf);(first|refine yar (by omega) ?_|refine ych _ (by (repeat' (first|assumption|exact zbc _ rfl|exact za2 rfl|refine za9 (B':=?_) ?_|refine zat ?_|fail))) ?_|fail)));conv=>whnf
  exact eT trivial
 ·rw [decide_eq_false h,ya0]
  refine fdD Tryz.func115 ⟨rfl,rfl,rfl⟩ fun hcl hbl=>?_
  (repeat' ((conv=>whnf);(first|refine ya1 (by omega) ?_|fail)));conv=>whnf
  exact ya2 trivial (zaf (congrArg AV.bool (by simp;try omega)))
theorem valid_no {m:Mdl} (hm:m.Sm) (hn:m.Nm) (h:shape m→sigR (sigM m)=false) (H:Heap):VDet Tryz.prog 53 [.agg m.cells] H (.bool false):=by
 have h1:=fun H=>sigM_c m hm H
 have h2:=fun H=>sigR_c (sigM m) (sigM_sm hm hn) H
 obtain ⟨a1,a2,a3,a4,a5,a6,hsc,hsb⟩:∃ a1 a2 a3 a4 a5 a6,(sigM m).cells=[.sl none a1 a2,.sl none a3 a4,.sl none a5 a6]∧∀ n,zab n a2∧zab n a4∧zab n a6:=⟨_,_,_,_,_,_,rfl,fun n=>⟨zaj n _,zaj n _,zao n _⟩⟩
 rw [hsc] at h1 h2
 have hmc:m.cells=[.int .u8 m.kind,.int .i64 m.size,.sl none m.rel.length (m.rel.flatMap enc64),.int .i64 m.loop,.sl none m.facts.length (m.facts.flatMap Fct.cells),.sl none m.funcs.length (m.funcs.flatMap Fnc.cells),.sl none m.binds.length (m.binds.flatMap Bnd.cells)]:=rfl
 rw [hmc] at h1 ⊢
 by_cases q1:m.kind=2
 ·by_cases q2:m.size<1
  ·refine fdD Tryz.func53 ⟨rfl,rfl,rfl⟩ fun hcl hbl=>?_
   (repeat' ((conv=>whnf);(first|(refine yai ?_;first|refine yas ?_|refine yar (by omega) ?_|fail)|fail)));conv=>whnf
   exact eT trivial
  ·by_cases q3:3<m.size
   ·refine fdD Tryz.func53 ⟨rfl,rfl,rfl⟩ fun hcl hbl=>?_
    (repeat' ((conv=>whnf);(first|(refine yai ?_;first|refine yas ?_|refine yar (by omega) ?_|refine ya1 (by omega) ?_|fail)|fail)));conv=>whnf
    exact eT trivial
   ·by_cases q4:0<m.rel.length
    ·refine fdD Tryz.func53 ⟨rfl,rfl,rfl⟩ fun hcl hbl=>?_
     (repeat' ((conv=>whnf);(first|(refine yai ?_;first|refine yas ?_|refine yar (by omega) ?_|refine ya1 (by omega) ?_|fail)|fail)));conv=>whnf
     exact eT trivial
    ·by_cases q5:m.loop=0
     ·rw [h ⟨q1,by omega,by omega,by omega,q5⟩] at h2
      refine fdD Tryz.func53 ⟨rfl,rfl,rfl⟩ fun hcl hbl=>?_
      (repeat' ((conv=>whnf);(first|(refine yai ?_;first|refine yas ?_|refine yau rfl ?_|refine yar (by omega) ?_|refine ya1 (by omega) ?_|fail)|(refine ybm ?_;first|refine yab _ (h1 _) ?_|refine yab _ (h2 _) ?_|fail)|fail)));conv=>whnf
      exact eT trivial
     ·refine fdD Tryz.func53 ⟨rfl,rfl,rfl⟩ fun hcl hbl=>?_
      (repeat' ((conv=>whnf);(first|(refine yai ?_;first|refine yas ?_|refine yar (by omega) ?_|refine ya1 (by omega) ?_|fail)|fail)));conv=>whnf
      exact eT trivial
 ·refine fdD Tryz.func53 ⟨rfl,rfl,rfl⟩ fun hcl hbl=>?_
  (repeat' ((conv=>whnf);(first|(refine yai ?_;first|refine yas ?_|refine ya1 (by omega) ?_|fail)|fail)));conv=>whnf
  exact eT trivial
theorem zf5 (m:Mdl) (hm:m.Sm) (hn:m.Nm) (H:Heap):VDet Tryz.prog 53 [.agg m.cells] H (.bool (zb0 m)):=by
 by_cases hs:shape m∧sigR (sigM m)=true
 case neg =>
  have:zb0 m=false:=by
   unfold zb0
   by_cases h1:shape m
   ·have:sigR (sigM m)=false:=by
     rw [ybj]
     exact fun h=>hs ⟨h1,h⟩
    rw [this,ya0,yc6]
   ·rw [decide_eq_false h1,ya0]
  rw [this]
  exact valid_no hm hn (fun h1=>by
   rw [ybj]
   exact fun h=>hs ⟨h1,h⟩) H
 obtain ⟨⟨q1,q2,q3,q4,q5⟩,hsr⟩:=hs
 have hV:zb0 m=(m.facts.all (okFct m.size)&&(m.funcs.all (okFnc m.size)&&m.binds.all (okBnd m.size))):=by
  unfold zb0
  rw [decide_eq_true (show shape m from ⟨q1,q2,q3,q4,q5⟩),hsr,ya9,ya9]
 rw [hV]
 have hsr2:=hsr
 unfold sigR at hsr2
 rw [yak,yak] at hsr2
 have hpa:∀ f∈m.facts,0≤f.ar∧f.ar≤2:=fun f hf=>by
  have:=inc_p hsr2.1 (f.nm,f.ar) (ybx.2 ⟨f,hf,rfl⟩)
  unfold predO at this
  simp only [yak,decide_eq_true_eq] at this
  exact this.2
 have hfa:∀ f∈m.funcs,0≤f.ar∧f.ar≤1:=fun f hf=>by
  have:=inc_p hsr2.2.1 (f.nm,f.ar) (ybx.2 ⟨f,hf,rfl⟩)
  unfold funcO at this
  simp only [yak,decide_eq_true_eq] at this
  exact this.2
 obtain ⟨n,hnn⟩:∃ n:Nat,m.size=n:=⟨m.size.toNat,by omega⟩
 have h1:=fun H=>sigM_c m hm H
 have h2:=fun H=>sigR_c (sigM m) (sigM_sm hm hn) H
 rw [hsr] at h2
 obtain ⟨a1,a2,a3,a4,a5,a6,hsc,hsb⟩:∃ a1 a2 a3 a4 a5 a6,(sigM m).cells=[.sl none a1 a2,.sl none a3 a4,.sl none a5 a6]∧∀ n,zab n a2∧zab n a4∧zab n a6:=⟨_,_,_,_,_,_,rfl,fun n=>⟨zaj n _,zaj n _,zao n _⟩⟩
 rw [hsc] at h1 h2
 have hmc:m.cells=[.int .u8 m.kind,.int .i64 m.size,.sl none m.rel.length (m.rel.flatMap enc64),.int .i64 m.loop,.sl none m.facts.length (m.facts.flatMap Fct.cells),.sl none m.funcs.length (m.funcs.flatMap Fnc.cells),.sl none m.binds.length (m.binds.flatMap Bnd.cells)]:=rfl
 have hfl:=hm.facts
 have hul:=hm.funcs
 have hbl2:=hm.binds
 have hvl:=hm.vals
 rw [hmc,q1,hnn] at h1
 rw [hmc,q1,hnn]
 have hn3:1≤n∧n≤3:=by omega
 have hpow:=fun e he H=>powN_c n e hn3 he H
 have hel:=fun a H2=>el_c (n:=(n:Int)) [.int .u8 2,.int .i64 n,.sl none m.rel.length (m.rel.flatMap enc64),.int .i64 m.loop,.sl none m.facts.length (m.facts.flatMap Fct.cells),.sl none m.funcs.length (m.funcs.flatMap Fnc.cells),.sl none m.binds.length (m.binds.flatMap Bnd.cells)] ⟨_,_,_,_,_,_,_,_,_,_,rfl⟩ a (H++([.box 37 [.int .u8 2,.int .i64 n,.sl none m.rel.length (m.rel.flatMap enc64),.int .i64 m.loop,.sl none m.facts.length (m.facts.flatMap Fct.cells),.sl none m.funcs.length (m.funcs.flatMap Fnc.cells),.sl none m.binds.length (m.binds.flatMap Bnd.cells)]]++H2)) (H.length+0) (za2 rfl)
 refine fdD Tryz.func53 ⟨rfl,rfl,rfl⟩ fun hcl hbl=>?_
 (repeat' ((conv=>whnf);(first|(refine yai ?_;first|refine yas ?_|refine yaq rfl ?_|refine yar (by omega) ?_|refine ya1 (by omega) ?_|fail)|(refine ybm ?_;first|refine yab _ (h1 _) ?_|refine yab _ (h2 _) ?_|fail)|fail)));conv=>whnf
 refine zax Tryz.E0 zag (σ:=Nat) (fun k=>k≤m.facts.length∧∀ y∈m.facts.take k,okFct n y=true) (fun k=>m.facts.length-k) (fun k=>[(46,.v (.int .i64 k))]) (fun _=>_) _ 0 rfl hcl [1,3,44,45] rfl ⟨yah _,fun y hy=>(by cases hy)⟩ ⟨⟨_,rfl,yae _⟩,trivial⟩ rfl (fun _ _=>rfl) ?_
 rintro k ⟨hk,hinv⟩
 rcases yag k m.facts.length with hlt|hge
 ·obtain ⟨u,v,z,hx,e1⟩:=zhc (f:=m.facts.getD k fct0) rfl
  have har:=hpa _ (zar m.facts k fct0 hlt)
  rw [hx] at har
  obtain ⟨e,he⟩:∃ e:Nat,v=e:=⟨v.toNat,by simp only at har;omega⟩
  subst he
  simp only at har
  have hpe:=hpow e (by omega)
  have hne:n ^ e≤9:=ybk (yd0 hn3.2 _) (ybk (ycb (by decide) (show e≤2 by omega)) (by decide:3 ^ 2≤9))
  have h512:2 ^ n ^ e≤512:=ycb (by decide) hne
  have hok:okFct n (m.facts.getD k fct0)=(decide (0≤z)&&decide (z<(2 ^ n ^ e:Nat))):=by
   rw [hx]
   unfold okFct
   simp only [ybp]
  have hsh:1 <<< n ^ e=2 ^ n ^ e:=Nat.one_shiftLeft _
  by_cases z0:0≤z
  ·by_cases z1:z<(2 ^ n ^ e:Nat)
   ·rw [decide_eq_true z0,decide_eq_true z1] at hok
    (repeat' ((conv=>whnf);(first|(refine yai ?_;first|refine yar (by omega) ?_|refine ya1 (by omega) ?_|fail)|(refine yc0 ?_;first|(refine zf0 _ _ Cst.h Cst.h rfl ?_ ?_ ?_;(· (repeat' (first|omega|refine yb6 ?_ ?_|exact za1 (by omega)|exact zby (by omega)|refine zdc ?_ ?_|refine zbx ?_ ?_|refine zcf ?_ ?_|refine zbj ?_ ?_|refine zcg ?_|refine zch ?_ ?_|refine zci ?_|refine za1 ?_|fail)));(· (repeat' (first|omega|refine yb6 ?_ ?_|exact za1 (by omega)|exact zby (by omega)|refine zdc ?_ ?_|refine zbx ?_ ?_|refine zcf ?_ ?_|refine zbj ?_ ?_|refine zcg ?_|refine zch ?_ ?_|refine zci ?_|refine za1 ?_|fail))))|(refine zad _ _ Cst.h Cst.h ?_ ?_;· omega)|fail)|(refine yaf ?_ ?_;· first|kernel_rfl|omega|exact yaa _ _|fail)|refine yan _ (fun _ hq X=>hpe _) ?_|refine zaa fct0 k rfl (by omega) zbr e1 ?_|refine zae [] ?_|fail)));conv=>whnf
    (refine ⟨⟨k+1,⟨by omega,zbt fct0 hlt hinv hok⟩,by omega,?_,.inl ⟨rfl,rfl⟩,rfl,_,rfl,?_⟩⟩;rotate_left 1;exact .inr ⟨by simp [zaw,below,zab,tr,zah,zak,zai,zam,zal,zan,zaj,zao],by simp [zbe,Blk.below,zab,below,zah,zak,zai,zam,zal,zan,zaj,zao]⟩;exact ⟨⟨_,rfl,yae _⟩,trivial⟩)
   ·rw [decide_eq_true z0,decide_eq_false z1] at hok
    rw [zcj fct0 hlt hok,ya0]
    (repeat' ((conv=>whnf);(first|(refine yai ?_;first|refine yar (by omega) ?_|refine ya1 (by omega) ?_|fail)|(refine zf0 _ _ Cst.h Cst.h rfl ?_ ?_ ?_;(· (repeat' (first|omega|refine yb6 ?_ ?_|exact za1 (by omega)|exact zby (by omega)|refine zdc ?_ ?_|refine zbx ?_ ?_|refine zcf ?_ ?_|refine zbj ?_ ?_|refine zcg ?_|refine zch ?_ ?_|refine zci ?_|refine za1 ?_|fail)));(· (repeat' (first|omega|refine yb6 ?_ ?_|exact za1 (by omega)|exact zby (by omega)|refine zdc ?_ ?_|refine zbx ?_ ?_|refine zcf ?_ ?_|refine zbj ?_ ?_|refine zcg ?_|refine zch ?_ ?_|refine zci ?_|refine za1 ?_|fail))))|(refine yaf ?_ ?_;· first|kernel_rfl|omega|exact yaa _ _|fail)|refine yan _ (fun _ hq X=>hpe _) ?_|refine zaa fct0 k rfl (by omega) zbr e1 ?_|refine zae [] ?_|fail)));conv=>whnf
    exact eT trivial
  ·rw [decide_eq_false z0] at hok
   rw [zcj fct0 hlt hok,ya0]
   (repeat' ((conv=>whnf);(first|refine yar (by omega) ?_|(refine yaf ?_ ?_;· first|kernel_rfl|omega|exact yaa _ _|fail)|refine zaa fct0 k rfl (by omega) zbr e1 ?_|refine zae [] ?_|fail)));conv=>whnf
   exact eT trivial
 ·have hke:k=m.facts.length:=by omega
  subst hke
  rw [ya3] at hinv
  rw [yao.2 hinv,ya9]
  (repeat' ((conv=>whnf);(first|refine ya1 (by omega) ?_|fail)));conv=>whnf
  refine zax Tryz.E0 zag (σ:=Nat) (fun k=>k≤m.funcs.length∧∀ y∈m.funcs.take k,okFnc n y=true) (fun k=>m.funcs.length-k) (fun k=>[(68,.v (.int .i64 k))]) (fun _=>_) _ 0 rfl hcl [1,3,66,67] rfl ⟨yah _,fun y hy=>(by cases hy)⟩ ⟨⟨_,rfl,yae _⟩,trivial⟩ rfl (fun _ _=>rfl) ?_
  rintro k ⟨hk,hinv⟩
  rcases yag k m.funcs.length with hlt|hge
  ·obtain ⟨u,v,z,hx,e1⟩:=zha (f:=m.funcs.getD k fnc0) rfl
   have har:=hfa _ (zar m.funcs k fnc0 hlt)
   have hzl:=hvl _ (zar m.funcs k fnc0 hlt)
   rw [hx] at har hzl
   obtain ⟨e,he⟩:∃ e:Nat,v=e:=⟨v.toNat,by simp only at har;omega⟩
   subst he
   simp only at har hzl
   have hpe:=hpow e (by omega)
   have hok:okFnc n (m.funcs.getD k fnc0)=(decide (z.length=n ^ e)&&z.all (elB n)):=by
    rw [hx]
    unfold okFnc
    simp only [ybp]
   by_cases hzn:z.length=n ^ e
   ·rw [decide_eq_true hzn,ya9] at hok
    (repeat' ((conv=>whnf);(first|(refine yai ?_;first|refine yas ?_|refine yar (by omega) ?_|fail)|(refine yaf ?_ ?_;· first|kernel_rfl|omega|exact yaa _ _|fail)|refine yan _ (fun _ hq X=>hpe _) ?_|refine zaa fnc0 k rfl (by omega) zbw e1 ?_|refine zae [] ?_|fail)));conv=>whnf
    refine zax Tryz.E0 zag (σ:=Nat) (fun j=>j≤z.length∧∀ y∈z.take j,elB n y=true) (fun j=>z.length-j) (fun j=>[(84,.v (.int .i64 j))]) (fun _=>_) _ 0 rfl hcl [1,3,66,67,68,82,83] rfl ⟨yah _,fun y hy=>(by cases hy)⟩ ⟨⟨_,rfl,yae _⟩,trivial⟩ rfl (fun _ _=>rfl) ?_
    rintro j ⟨hj,hinj⟩
    rcases yag j z.length with hjl|hjg
    ·obtain ⟨a,ha⟩:∃ a,a=z.getD j 0:=⟨_,rfl⟩
     have ez:enc64 (z.getD j 0)=[.int .i64 a]:=by rw [ha];rfl
     have hea:=fun H2=>hel a H2
     cases hb:elB n a <;> rw [hb] at hea
     ·rw [zcj (p:=elB n) 0 hjl (by rw [← ha];exact hb)] at hok
      rw [zcj fnc0 hlt hok,ya0]
      (repeat' ((conv=>whnf);(first|(refine yai ?_;first|refine yas ?_|refine yau rfl ?_|refine yar (by omega) ?_|fail)|(refine yaf ?_ ?_;· first|omega|exact yaa _ _|fail)|refine yab _ (hea _) ?_|refine zaa 0 j rfl (by omega) zcu ez ?_|fail)));conv=>whnf
      exact eT trivial
     ·(repeat' ((conv=>whnf);(first|(refine yai ?_;first|refine yas ?_|refine yaq rfl ?_|refine yar (by omega) ?_|fail)|(refine zad _ _ Cst.h Cst.h ?_ ?_;· omega)|(refine yaf ?_ ?_;· first|omega|exact yaa _ _|fail)|refine yab _ (hea _) ?_|refine zaa 0 j rfl (by omega) zcu ez ?_|fail)));conv=>whnf
      (refine ⟨⟨j+1,⟨by omega,zbt 0 hjl hinj (by rw [← ha];exact hb)⟩,by omega,?_,.inl ⟨rfl,rfl⟩,rfl,_,rfl,?_⟩⟩;rotate_left 1;exact .inl rfl;exact ⟨⟨_,rfl,yae _⟩,trivial⟩)
    ·have hje:j=z.length:=by omega
     subst hje
     rw [ya3] at hinj
     rw [yao.2 hinj] at hok
     (repeat' ((conv=>whnf);(first|refine ya1 (by omega) ?_|(refine zad _ _ Cst.h Cst.h ?_ ?_;· omega)|fail)));conv=>whnf
     (refine ⟨⟨k+1,⟨by omega,zbt fnc0 hlt hinv hok⟩,by omega,?_,.inr ?_,rfl,_,rfl,?_⟩⟩;rotate_left 2;exact .inr ⟨by simp [zaw,below,zab,tr,zah,zak,zai,zam,zal,zan,zaj,zao],by simp [zbe,Blk.below,zab,below,zah,zak,zai,zam,zal,zan,zaj,zao]⟩;all_goals (repeat' (first|exact trivial|refine ⟨⟨_,rfl,?_⟩,?_⟩|fail));all_goals exact yae _)
   ·rw [decide_eq_false hzn,ya0] at hok
    rw [zcj fnc0 hlt hok,ya0]
    (repeat' ((conv=>whnf);(first|(refine yai ?_;first|refine yas ?_|refine yar (by omega) ?_|refine ya1 (by omega) ?_|fail)|(refine yaf ?_ ?_;· first|kernel_rfl|omega|exact yaa _ _|fail)|refine yan _ (fun _ hq X=>hpe _) ?_|refine zaa fnc0 k rfl (by omega) zbw e1 ?_|refine zae [] ?_|fail)));conv=>whnf
    exact eT trivial
  ·have hke:k=m.funcs.length:=by omega
   subst hke
   rw [ya3] at hinv
   rw [yao.2 hinv,ya9]
   (repeat' ((conv=>whnf);(first|refine ya1 (by omega) ?_|fail)));conv=>whnf
   refine zax Tryz.E0 zag (σ:=Nat) (fun k=>k≤m.binds.length∧∀ y∈m.binds.take k,okBnd n y=true) (fun k=>m.binds.length-k) (fun k=>[(97,.v (.int .i64 k))]) (fun _=>_) _ 0 rfl hcl [3,95,96] rfl ⟨yah _,fun y hy=>(by cases hy)⟩ ⟨⟨_,rfl,yae _⟩,trivial⟩ rfl (fun _ _=>rfl) ?_
   rintro k ⟨hk,hinv⟩
   rcases yag k m.binds.length with hlt|hge
   ·obtain ⟨u,v,hx,e1⟩:=zf4 (f:=m.binds.getD k bnd0) rfl
    have hea:=fun H2=>hel v H2
    have hok:okBnd n (m.binds.getD k bnd0)=elB n v:=by
     rw [hx]
     rfl
    cases hb:elB n v <;> rw [hb] at hea hok
    ·rw [zcj bnd0 hlt hok]
     (repeat' ((conv=>whnf);(first|(refine yai ?_;first|refine yas ?_|refine yau rfl ?_|refine yar (by omega) ?_|fail)|(refine yaf ?_ ?_;· first|omega|exact yaa _ _|fail)|refine yab _ (hea _) ?_|refine zaa bnd0 k rfl (by omega) zbs e1 ?_|fail)));conv=>whnf
     exact eT trivial
    ·(repeat' ((conv=>whnf);(first|(refine yai ?_;first|refine yas ?_|refine yaq rfl ?_|refine yar (by omega) ?_|fail)|(refine zad _ _ Cst.h Cst.h ?_ ?_;· omega)|(refine yaf ?_ ?_;· first|omega|exact yaa _ _|fail)|refine yab _ (hea _) ?_|refine zaa bnd0 k rfl (by omega) zbs e1 ?_|fail)));conv=>whnf
     (refine ⟨⟨k+1,⟨by omega,zbt bnd0 hlt hinv hok⟩,by omega,?_,.inl ⟨rfl,rfl⟩,rfl,_,rfl,?_⟩⟩;rotate_left 1;exact .inr ⟨by simp [zaw,below,zab,tr,zah,zak,zai,zam,zal,zan,zaj,zao],by simp [zbe,Blk.below,zab,below,zah,zak,zai,zam,zal,zan,zaj,zao]⟩;exact ⟨⟨_,rfl,yae _⟩,trivial⟩)
   ·have hke:k=m.binds.length:=by omega
    subst hke
    rw [ya3] at hinv
    rw [yao.2 hinv]
    (repeat' ((conv=>whnf);(first|refine ya1 (by omega) ?_|fail)));conv=>whnf
    exact eT trivial
instance baDec:DecidableEq ByteArray:=fun a b=>if h:a.data=b.data then isTrue (by cases a;cases b;simp only at h;rw [h]) else isFalse fun e=>h (by rw [e])
def mpG (ks:List ByteArray):Blk:=.mp (ks.map fun c=>.str c) (ks.map fun _=>.bool true)
def bdG (ks:List ByteArray) (c:ByteArray→Int):Blk:=.mp (ks.map fun c=>.str c) (ks.map fun b=>.int .i64 (c b))
def memG (c:ByteArray) (ks:List ByteArray):Bool:=ks.any fun d=>decide (d=c)
theorem zfo (c:ByteArray) (ks:List ByteArray):memG c ks=true↔c∈ks:=by
 unfold memG
 rw [ydc]
 exact ⟨fun ⟨d,hd,e⟩=>of_decide_eq_true e▸hd,fun h=>⟨c,h,decide_eq_true rfl⟩⟩
def insG (ks:List ByteArray) (c:ByteArray):List ByteArray:=if memG c ks=true then ks else ks++[c]
theorem strK_below (n:Nat) (ks:List ByteArray):zab n (ks.map fun c=>AV.str c):=by
 induction ks with
 | nil=>trivial
 | cons c l ih=>exact ⟨trivial,ih⟩
theorem zb3 (n:Nat) (ks:List ByteArray):(mpG ks).below n:=by
 simp only [mpG,Blk.below]
 refine ⟨strK_below n ks,?_⟩
 induction ks with
 | nil=>trivial
 | cons c l ih=>exact ⟨trivial,ih⟩
theorem zfc (n:Nat) (ks:List ByteArray) (f:ByteArray→Int):(bdG ks f).below n:=by
 simp only [bdG,Blk.below]
 refine ⟨strK_below n ks,?_⟩
 induction ks with
 | nil=>trivial
 | cons c l ih=>exact ⟨trivial,ih⟩
theorem ba_beqG (a b:ByteArray):(a.toList==b.toList)=decide (a=b):=by
 apply ycd.2
 rw [decide_eq_true_eq]
 exact ba_eq
theorem mfindG (c:ByteArray):∀ ks:List ByteArray,(c∈ks→∃ j,j<ks.length∧ks[j]? = some c∧mfind (eqV Tryz.kn Tryz.T 20 9) (.str c) (ks.map fun c=>.str c)=some (some j))∧(c ∉ ks→mfind (eqV Tryz.kn Tryz.T 20 9) (.str c) (ks.map fun c=>.str c)=some none)
 | []=>⟨fun h=>by simp at h,fun _=>rfl⟩
 | d::ks=>by
   have he:eqV Tryz.kn Tryz.T 20 9 (.str c) (.str d)=some (decide (c=d)):=by
    show some (c.toList==d.toList)=_
    rw [ba_beqG]
   obtain ⟨h1,h2⟩:=mfindG c ks
   simp only [yb4,mfind,he]
   by_cases hcd:c=d
   ·subst hcd
    simp only [decide_true]
    exact ⟨fun _=>⟨0,by simp,rfl,rfl⟩,fun h=>absurd (ybd) h⟩
   ·have hb:decide (c=d)=false:=by simpa using hcd
    simp only [hb]
    refine ⟨fun h=>?_,fun h=>?_⟩
    ·obtain ⟨j,e1,e2,e3⟩:=h1 ((yay.1 h).resolve_left hcd)
     exact ⟨j+1,by simpa using e1,by simpa using e2,by rw [e3]⟩
    ·rw [h2 fun q=>h (ya5 _ q)]
theorem putG (c:ByteArray) (ks:List ByteArray):MPut (eqV Tryz.kn Tryz.T 20 9) (ks.map fun c=>.str c) (ks.map fun _=>.bool true) (.str c) (.bool true) ((insG ks c).map fun c=>.str c) ((insG ks c).map fun _=>.bool true):=by
 obtain ⟨h1,h2⟩:=mfindG c ks
 unfold insG
 by_cases h:c∈ks
 ·rw [if_pos ((zfo c ks).2 h)]
  obtain ⟨j,e1,e2,e3⟩:=h1 h
  have:=MPut.old (vs:=ks.map fun _=>AV.bool true) (v:=.bool true) j e3 (by rw [ya8,e2];rfl)
  have hs:(ks.map fun _=>AV.bool true).set j (.bool true)=ks.map fun _=>.bool true:=by
   apply ybt
   intro i
   rw [yaw]
   split
   ·rename_i hi
    subst hi
    simp [e1]
   ·rfl
  rwa [hs] at this
 ·rw [if_neg fun e=>h ((zfo c ks).1 e)]
  have:=MPut.new (vs:=ks.map fun _=>AV.bool true) (v:=.bool true) (h2 h)
  simpa using this
theorem zgx (ks:List ByteArray) (c d:ByteArray):c∈insG ks d↔c∈ks∨c=d:=by
 unfold insG
 split
 ·rename_i h
  exact ⟨.inl,fun h2=>h2.elim id fun e=>e▸(zfo d ks).1 h⟩
 ·simp
theorem nd_insG (ks:List ByteArray) (d:ByteArray) (h:ks.Nodup):(insG ks d).Nodup:=by
 unfold insG
 split
 ·exact h
 ·rename_i hn
  refine List.nodup_append.2 ⟨h,by simp,fun a ha b hb=>?_⟩
  rw [yaz.1 hb]
  exact fun e=>hn ((zfo _ _).2 (e▸ha))
def updC (c:ByteArray→Int) (x:ByteArray) (a:Int):ByteArray→Int:=fun y=>if y=x then a else c y
theorem bdG_val (c:ByteArray→Int) (ks:List ByteArray) (j:Nat) (x:ByteArray) (h:ks[j]? = some x):(ks.map fun b=>AV.int .i64 (c b))[j]? = some (.int .i64 (c x)):=by
 rw [ya8,h]
 rfl
theorem putC (c:ByteArray→Int) (x:ByteArray) (a:Int) (ks:List ByteArray) (hnd:ks.Nodup):MPut (eqV Tryz.kn Tryz.T 20 9) (ks.map fun c=>.str c) (ks.map fun b=>.int .i64 (c b)) (.str x) (.int .i64 a) ((insG ks x).map fun c=>.str c) ((insG ks x).map fun b=>.int .i64 (updC c x a b)):=by
 obtain ⟨h1,h2⟩:=mfindG x ks
 unfold insG
 by_cases h:x∈ks
 ·rw [if_pos ((zfo x ks).2 h)]
  obtain ⟨j,e1,e2,e3⟩:=h1 h
  have:=MPut.old (vs:=ks.map fun b=>AV.int .i64 (c b)) (v:=.int .i64 a) j e3 (by rw [ya8,e2];rfl)
  have hs:(ks.map fun b=>AV.int .i64 (c b)).set j (.int .i64 a)=ks.map fun b=>.int .i64 (updC c x a b):=by
   apply ybt
   intro i
   rw [yaw]
   split
   ·rename_i hi
    subst hi
    rw [bdG_val _ ks _ x e2,if_pos (by simpa using e1)]
    unfold updC
    rw [if_pos rfl]
   ·rename_i hi
    rw [ya8,ya8]
    cases hk:ks[i]? with
    | none=>rfl
    | some y =>
      have:y≠x:=fun e=>hi (by
       have hj:=(yac.1 e2)
       have hi2:=(yac.1 hk)
       exact (List.getElem_inj hnd).1 (by rw [hj.2,hi2.2,e]))
      simp only [ybc,updC,if_neg this]
  rwa [hs] at this
 ·rw [if_neg fun e=>h ((zfo x ks).1 e)]
  have:=MPut.new (vs:=ks.map fun b=>AV.int .i64 (c b)) (v:=.int .i64 a) (h2 h)
  have hs:((ks++[x]).map fun b=>AV.int .i64 (updC c x a b))=(ks.map fun b=>AV.int .i64 (c b))++[.int .i64 a]:=by
   rw [yd7]
   congr 1
   ·refine List.map_congr_left fun y hy=>?_
    have hne:y≠x:=fun e=>h (by rw [← e];exact hy)
    unfold updC
    rw [if_neg hne]
   ·show [AV.int .i64 (updC c x a x)]=_
    unfold updC
    rw [if_pos rfl]
  rw [hs,yd7]
  exact this
mutual
def frT (c:ByteArray→Int) (ns:List ByteArray):Tm→List ByteArray
 | .mk v s l=>frTs c (if v=true∧c s=0 then insG ns s else ns) l
def frTs (c:ByteArray→Int) (ns:List ByteArray):List Tm→List ByteArray
 | []=>ns
 | x::l=>frTs c (frT c ns x) l
end
theorem zcw (c:ByteArray→Int) (ns:List ByteArray):frTs c ns []=ns:=by unfold frTs;rfl
theorem zdt (c:ByteArray→Int) (ns:List ByteArray) (x:Tm) (l:List Tm):frTs c ns (x::l)=frTs c (frT c ns x) l:=by rw [frTs.eq_def]
theorem frT_mk (c:ByteArray→Int) (ns:List ByteArray) (v:Bool) (s:ByteArray) (l:List Tm):frT c ns (.mk v s l)=frTs c (if v=true∧c s=0 then insG ns s else ns) l:=by rw [frT.eq_def]
def FrTP (x:Tm):Prop:=∀ (H:Heap) (i j:Nat) (bs:List ByteArray) (c:ByteArray→Int) (ns:List ByteArray),i≠j→(∀ s,s ∉ bs→c s=0)→H[i]? = some (bdG bs c)→H[j]? = some (mpG ns)→VCall Tryz.prog 206 [.agg x.cells,.mp i,.mp j] H (setR H j (mpG (frT c ns x)) (.tup []))
theorem frt_step (v:Bool) (s:ByteArray) (l:List Tm) (hll:l.length≤9223372036854775807) (ih:∀ x∈l,FrTP x):FrTP (.mk v s l):=by
 intro H i j bs c ns hij hcz hi hj
 rw [zav,frT_mk]
 have hib:∀ B,(H.set j B)[i]? = some (bdG bs c):=fun B=>by rw [ydw (yc1 hij),hi]
 have hi0:=hi
 have hj0:=hj
 unfold bdG at hi
 unfold mpG at hj
 obtain ⟨f1,f2⟩:=mfindG s bs
 cases v
 ·simp only [yba,false_and,if_false]
  refine fdG Tryz.func206 ⟨rfl,rfl,rfl⟩ fun hcl hbl=>?_
  (repeat' ((conv=>whnf);(first|refine yau rfl ?_|fail)));conv=>whnf
  refine zd8 Tryz.E0 zag (σ:=Nat×List ByteArray) (fun p=>p.1≤l.length∧frTs c (ns) l=frTs c p.2 (l.drop p.1)) (fun p=>l.length-p.1) (fun p=>[(23,.v (.int .i64 p.1))]) (fun p=>H.set j (mpG p.2)) (fun _=>_) _ (0,(ns)) (fun p _=>by simp) (fun p _=>zcq hcl j _ (zb3 _ _)) [1,2,21,22] rfl ⟨yah _,rfl⟩ ⟨⟨_,rfl,yae _⟩,trivial⟩ (zfk hj0).symm rfl (fun _ _=>rfl) ?_
  rintro ⟨k,N⟩ ⟨hk,hq⟩
  simp only at hk hq
  have hNl:(H.set j (mpG N)).length=H.length:=by simp
  by_cases hlt:k<l.length
  ·have hmem:=zar l k tm0 hlt
   rw [zbn l k tm0 hlt,zdt] at hq
   have hx:=fun X=>ih _ hmem (H.set j (mpG N)++X) i j bs c N hij hcz (zat (hib _)) (zat (za9 hj0))
   obtain ⟨w1,w2,w3,w4,hw,hwb⟩:=zc1 (l.getD k tm0)
   rw [hw] at hx
   generalize hr2:frT c N (l.getD k tm0)=N' at *
   generalize hB2:mpG N'=B2 at *
   (repeat' ((conv=>whnf);(first|refine yar (by omega) ?_|(refine zad _ _ Cst.h Cst.h ?_ ?_;· omega)|(refine yaf ?_ ?_;· first|omega|exact yaa _ _|fail)|refine zaa tm0 k rfl hlt zba hw ?_|refine zay j _ _ _ _ (za9 hj0) (by simp) rfl (hx _) (ycn ..) ?_|fail)));conv=>whnf
   subst hB2
   (refine ⟨⟨(k+1,N'),⟨by simp only;omega,hq⟩,by omega,?_,.inl ⟨rfl,rfl⟩,rfl,_,rfl,?_⟩⟩;rotate_left 1;exact .inr ⟨by simp [zaw,below,zab,tr,zah,zak,zai,zam,zal,zan,zaj,zao],by simp [zbe,Blk.below,zab,below,zah,zak,zai,zam,zal,zan,zaj,zao]⟩;exact ⟨⟨_,rfl,yae _⟩,trivial⟩)
  ·have hke:k=l.length:=by omega
   subst hke
   rw [ybo,zcw] at hq
   rw [hq]
   (repeat' ((conv=>whnf);(first|refine ya1 (by omega) ?_|fail)));conv=>whnf
   exact za0 (zb3 _ _) trivial (yae _)
 ·simp only [true_and]
  by_cases hm:s∈bs
  ·obtain ⟨jx,e1,e2,e3⟩:=f1 hm
   have e4:=bdG_val c bs jx s e2
   by_cases hz:c s=0
   ·rw [if_pos hz]
    rw [hz] at e4
    refine fdG Tryz.func206 ⟨rfl,rfl,rfl⟩ fun hcl hbl=>?_
    (repeat' ((conv=>whnf);(first|refine yaq rfl ?_|refine yeh _ rfl ?_|refine ydt [_] [] ⟨⟨_,rfl⟩,jx,e3,e4⟩ ?_|refine ydt _ _ ⟨⟨_,rfl⟩,putG s ns⟩ ?_|refine ych _ (by (repeat' (first|assumption|exact zbc _ rfl|exact za2 rfl|refine za9 (B':=?_) ?_|refine zat ?_|fail))) ?_|fail)));conv=>whnf
    refine zd8 Tryz.E0 zag (σ:=Nat×List ByteArray) (fun p=>p.1≤l.length∧frTs c (insG ns s) l=frTs c p.2 (l.drop p.1)) (fun p=>l.length-p.1) (fun p=>[(23,.v (.int .i64 p.1))]) (fun p=>H.set j (mpG p.2)) (fun _=>_) _ (0,(insG ns s)) (fun p _=>by simp) (fun p _=>zcq hcl j _ (zb3 _ _)) [1,2,21,22] rfl ⟨yah _,rfl⟩ ⟨⟨_,rfl,yae _⟩,trivial⟩ rfl rfl (fun _ _=>rfl) ?_
    rintro ⟨k,N⟩ ⟨hk,hq⟩
    simp only at hk hq
    have hNl:(H.set j (mpG N)).length=H.length:=by simp
    by_cases hlt:k<l.length
    ·have hmem:=zar l k tm0 hlt
     rw [zbn l k tm0 hlt,zdt] at hq
     have hx:=fun X=>ih _ hmem (H.set j (mpG N)++X) i j bs c N hij hcz (zat (hib _)) (zat (za9 hj0))
     obtain ⟨w1,w2,w3,w4,hw,hwb⟩:=zc1 (l.getD k tm0)
     rw [hw] at hx
     generalize hr2:frT c N (l.getD k tm0)=N' at *
     generalize hB2:mpG N'=B2 at *
     (repeat' ((conv=>whnf);(first|refine yar (by omega) ?_|(refine zad _ _ Cst.h Cst.h ?_ ?_;· omega)|(refine yaf ?_ ?_;· first|omega|exact yaa _ _|fail)|refine zaa tm0 k rfl hlt zba hw ?_|refine zay j _ _ _ _ (za9 hj0) (by simp) rfl (hx _) (ycn ..) ?_|fail)));conv=>whnf
     subst hB2
     (refine ⟨⟨(k+1,N'),⟨by simp only;omega,hq⟩,by omega,?_,.inl ⟨rfl,rfl⟩,rfl,_,rfl,?_⟩⟩;rotate_left 1;exact .inr ⟨by simp [zaw,below,zab,tr,zah,zak,zai,zam,zal,zan,zaj,zao],by simp [zbe,Blk.below,zab,below,zah,zak,zai,zam,zal,zan,zaj,zao]⟩;exact ⟨⟨_,rfl,yae _⟩,trivial⟩)
    ·have hke:k=l.length:=by omega
     subst hke
     rw [ybo,zcw] at hq
     rw [hq]
     (repeat' ((conv=>whnf);(first|refine ya1 (by omega) ?_|fail)));conv=>whnf
     exact za0 (zb3 _ _) trivial (yae _)
   ·rw [if_neg hz]
    refine fdG Tryz.func206 ⟨rfl,rfl,rfl⟩ fun hcl hbl=>?_
    (repeat' ((conv=>whnf);(first|(refine yai ?_;first|refine yaq rfl ?_|refine ya1 (by omega) ?_|fail)|refine ydt [_] [] ⟨⟨_,rfl⟩,jx,e3,e4⟩ ?_|refine ych _ (by (repeat' (first|assumption|exact zbc _ rfl|exact za2 rfl|refine za9 (B':=?_) ?_|refine zat ?_|fail))) ?_|fail)));conv=>whnf
    refine zd8 Tryz.E0 zag (σ:=Nat×List ByteArray) (fun p=>p.1≤l.length∧frTs c (ns) l=frTs c p.2 (l.drop p.1)) (fun p=>l.length-p.1) (fun p=>[(23,.v (.int .i64 p.1))]) (fun p=>H.set j (mpG p.2)) (fun _=>_) _ (0,(ns)) (fun p _=>by simp) (fun p _=>zcq hcl j _ (zb3 _ _)) [1,2,21,22] rfl ⟨yah _,rfl⟩ ⟨⟨_,rfl,yae _⟩,trivial⟩ (zfk hj0).symm rfl (fun _ _=>rfl) ?_
    rintro ⟨k,N⟩ ⟨hk,hq⟩
    simp only at hk hq
    have hNl:(H.set j (mpG N)).length=H.length:=by simp
    by_cases hlt:k<l.length
    ·have hmem:=zar l k tm0 hlt
     rw [zbn l k tm0 hlt,zdt] at hq
     have hx:=fun X=>ih _ hmem (H.set j (mpG N)++X) i j bs c N hij hcz (zat (hib _)) (zat (za9 hj0))
     obtain ⟨w1,w2,w3,w4,hw,hwb⟩:=zc1 (l.getD k tm0)
     rw [hw] at hx
     generalize hr2:frT c N (l.getD k tm0)=N' at *
     generalize hB2:mpG N'=B2 at *
     (repeat' ((conv=>whnf);(first|refine yar (by omega) ?_|(refine zad _ _ Cst.h Cst.h ?_ ?_;· omega)|(refine yaf ?_ ?_;· first|omega|exact yaa _ _|fail)|refine zaa tm0 k rfl hlt zba hw ?_|refine zay j _ _ _ _ (za9 hj0) (by simp) rfl (hx _) (ycn ..) ?_|fail)));conv=>whnf
     subst hB2
     (refine ⟨⟨(k+1,N'),⟨by simp only;omega,hq⟩,by omega,?_,.inl ⟨rfl,rfl⟩,rfl,_,rfl,?_⟩⟩;rotate_left 1;exact .inr ⟨by simp [zaw,below,zab,tr,zah,zak,zai,zam,zal,zan,zaj,zao],by simp [zbe,Blk.below,zab,below,zah,zak,zai,zam,zal,zan,zaj,zao]⟩;exact ⟨⟨_,rfl,yae _⟩,trivial⟩)
    ·have hke:k=l.length:=by omega
     subst hke
     rw [ybo,zcw] at hq
     rw [hq]
     (repeat' ((conv=>whnf);(first|refine ya1 (by omega) ?_|fail)));conv=>whnf
     exact za0 (zb3 _ _) trivial (yae _)
  ·rw [if_pos (hcz s hm)]
   refine fdG Tryz.func206 ⟨rfl,rfl,rfl⟩ fun hcl hbl=>?_
   (repeat' ((conv=>whnf);(first|refine yaq rfl ?_|refine yeh _ rfl ?_|refine ydt [] [] ⟨⟨_,rfl⟩,f2 hm⟩ ?_|refine ydt _ _ ⟨⟨_,rfl⟩,putG s ns⟩ ?_|refine ych _ (by (repeat' (first|assumption|exact zbc _ rfl|exact za2 rfl|refine za9 (B':=?_) ?_|refine zat ?_|fail))) ?_|fail)));conv=>whnf
   refine zd8 Tryz.E0 zag (σ:=Nat×List ByteArray) (fun p=>p.1≤l.length∧frTs c (insG ns s) l=frTs c p.2 (l.drop p.1)) (fun p=>l.length-p.1) (fun p=>[(23,.v (.int .i64 p.1))]) (fun p=>H.set j (mpG p.2)) (fun _=>_) _ (0,(insG ns s)) (fun p _=>by simp) (fun p _=>zcq hcl j _ (zb3 _ _)) [1,2,21,22] rfl ⟨yah _,rfl⟩ ⟨⟨_,rfl,yae _⟩,trivial⟩ rfl rfl (fun _ _=>rfl) ?_
   rintro ⟨k,N⟩ ⟨hk,hq⟩
   simp only at hk hq
   have hNl:(H.set j (mpG N)).length=H.length:=by simp
   by_cases hlt:k<l.length
   ·have hmem:=zar l k tm0 hlt
    rw [zbn l k tm0 hlt,zdt] at hq
    have hx:=fun X=>ih _ hmem (H.set j (mpG N)++X) i j bs c N hij hcz (zat (hib _)) (zat (za9 hj0))
    obtain ⟨w1,w2,w3,w4,hw,hwb⟩:=zc1 (l.getD k tm0)
    rw [hw] at hx
    generalize hr2:frT c N (l.getD k tm0)=N' at *
    generalize hB2:mpG N'=B2 at *
    (repeat' ((conv=>whnf);(first|refine yar (by omega) ?_|(refine zad _ _ Cst.h Cst.h ?_ ?_;· omega)|(refine yaf ?_ ?_;· first|omega|exact yaa _ _|fail)|refine zaa tm0 k rfl hlt zba hw ?_|refine zay j _ _ _ _ (za9 hj0) (by simp) rfl (hx _) (ycn ..) ?_|fail)));conv=>whnf
    subst hB2
    (refine ⟨⟨(k+1,N'),⟨by simp only;omega,hq⟩,by omega,?_,.inl ⟨rfl,rfl⟩,rfl,_,rfl,?_⟩⟩;rotate_left 1;exact .inr ⟨by simp [zaw,below,zab,tr,zah,zak,zai,zam,zal,zan,zaj,zao],by simp [zbe,Blk.below,zab,below,zah,zak,zai,zam,zal,zan,zaj,zao]⟩;exact ⟨⟨_,rfl,yae _⟩,trivial⟩)
   ·have hke:k=l.length:=by omega
    subst hke
    rw [ybo,zcw] at hq
    rw [hq]
    (repeat' ((conv=>whnf);(first|refine ya1 (by omega) ?_|fail)));conv=>whnf
    exact za0 (zb3 _ _) trivial (yae _)
mutual
theorem frt_c:∀ x:Tm,x.good→FrTP x
 | .mk v s l,h=>frt_step v s l (zaz h.2.1) (frts_all l h.2.2)
theorem frts_all:∀ l:List Tm,Tm.goodL l→∀ x∈l,FrTP x
 | [],_,x,hx=>by cases hx
 | y::l,h,x,hx=>by
   rcases yay.1 hx with e|hx
   ·rw [e]
    exact frt_c y h.1
   ·exact frts_all l h.2 x hx
end
theorem rin_c (c:UInt8) (a b:Nat) (x y:Int) (hx:x=a) (hy:y=b) (H:Heap):VDet Tryz.prog 219 [.int .u8 c.toNat,.int .u8 x,.int .u8 y] H (.bool (inR a b c)):=by
 refine fdD Tryz.func219 ⟨rfl,rfl,rfl⟩ fun hcl hbl=>?_
 (repeat' ((conv=>whnf);(first|refine zcy (fun _=>?_) (fun _=>?_)|fail)));all_goals (conv=>whnf)
 all_goals (refine ya2 trivial (zaf (congrArg AV.bool (ycd.2 ?_)));simp only [inR,yak,decide_eq_true_eq,yba,false_iff];omega)
def refQ (dg:Bool) (c:UInt8):Bool:=inR 48 57 c || (!dg&&(inR 65 90 c || inR 97 122 c))
def letB (dg:Bool) (s:ByteArray):Bool:=decide (1≤s.size∧s.size≤16)&&(List.range' 1 (s.size-1)).all fun i=>refQ dg (bt s i)
theorem letB_no {dg:Bool} {s:ByteArray} {k:Nat} (h1:1≤k) (h2:k<s.size) (h:refQ dg (bt s k)=false):letB dg s=false:=by
 unfold letB
 have:((List.range' 1 (s.size-1)).all fun i=>refQ dg (bt s i))=false:=by
  apply ybj.2
  intro hA
  have:=yao.1 hA k (List.mem_range'.2 ⟨k-1,by omega,by omega⟩)
  rw [h] at this
  cases this
 rw [this,yc6]
theorem letB_yes {dg:Bool} {s:ByteArray} (h:∀ i,1≤i→i<s.size→refQ dg (bt s i)=true):letB dg s=decide (1≤s.size∧s.size≤16):=by
 unfold letB
 have:((List.range' 1 (s.size-1)).all fun i=>refQ dg (bt s i))=true:=by
  rw [yao]
  intro i hi
  obtain ⟨j,hj,rfl⟩:=List.mem_range'.1 hi
  exact h _ (by omega) (by omega)
 rw [this,Bool.and_true]
theorem letters_t (s:ByteArray) (hs:s.size≤9223372036854775807) (H:Heap):VDet Tryz.prog 218 [.str s,.bool true] H (.bool (letB true s)):=by
 refine fdD Tryz.func218 ⟨rfl,rfl,rfl⟩ fun hcl hbl=>?_
 conv=>whnf
 refine zax Tryz.E0 zag (σ:=Nat) (fun k=>1≤k∧(k≤s.size∨k=1)∧∀ i,1≤i→i<k→refQ true (bt s i)=true) (fun k=>s.size-k) (fun k=>[(5,.v (.int .i64 k))]) (fun _=>[]) _ 1 rfl hcl [0,1] rfl ⟨yax _,.inr rfl,fun i h1 h2=>by omega⟩ ⟨⟨_,rfl,yae _⟩,trivial⟩ rfl (fun _ _=>rfl) ?_
 rintro k ⟨hk1,hk,hall⟩
 clear hbl
 by_cases hlt:k<s.size
 ·have hbk:=bt_get s k hlt k rfl
  have r1:=rin_c (bt s k) 48 57 48 57 rfl rfl
  have r2:=rin_c (bt s k) 65 90 65 90 rfl rfl
  have r3:=rin_c (bt s k) 97 122 97 122 rfl rfl
  have hq:refQ true (bt s k)=(inR 48 57 (bt s k) || (!true&&(inR 65 90 (bt s k) || inR 97 122 (bt s k)))):=rfl
  generalize inR 48 57 (bt s k)=b1 at *
  generalize inR 65 90 (bt s k)=b2 at *
  generalize inR 97 122 (bt s k)=b3 at *
  cases b1 with
  | true =>
    (repeat' ((conv=>whnf);(first|(refine yai ?_;first|refine yas ?_|refine yaq rfl ?_|refine yar (by omega) ?_|fail)|(refine zad _ _ Cst.h Cst.h ?_ ?_;· omega)|refine yaf (by omega) ?_|refine yab _ (r1 _) ?_|refine yeb _ hbk ?_|fail)));conv=>whnf
    (refine ⟨⟨k+1,⟨by omega,by omega,fun i h3 h4=>by
     by_cases e:i=k
     ·rw [e];exact hq
     ·exact hall i h3 (by omega)⟩,by omega,?_,.inl ⟨rfl,rfl⟩,rfl,_,rfl,?_⟩⟩;rotate_left 1;exact .inl rfl;exact ⟨⟨_,rfl,yae _⟩,trivial⟩)
  | false =>
    (repeat' ((conv=>whnf);(first|(refine yai ?_;first|refine yas ?_|refine yaq rfl ?_|refine yau rfl ?_|refine yar (by omega) ?_|fail)|refine yaf (by omega) ?_|refine yab _ (r1 _) ?_|refine yeb _ hbk ?_|fail)));conv=>whnf
    rw [letB_no hk1 hlt hq]
    exact eT trivial
 ·rw [letB_yes (fun i h1 h2=>hall i h1 (by omega))]
  by_cases h0:1≤s.size∧s.size≤16
  ·rw [decide_eq_true h0]
   (repeat' ((conv=>whnf);(first|(refine yai ?_;first|refine yar (by omega) ?_|refine ya1 (by omega) ?_|fail)|fail)));conv=>whnf
   exact ya2 trivial (zaf (congrArg AV.bool (decide_eq_true (by omega))))
  ·rw [decide_eq_false h0]
   (repeat' ((conv=>whnf);(first|(refine yai ?_;first|refine ya1 (by omega) ?_|refine zcy (fun _=>?_) (fun _=>?_)|fail)|fail)));all_goals (conv=>whnf)
   all_goals first|exact eT trivial|exact ya2 trivial (zaf (congrArg AV.bool (decide_eq_false (by omega))))
theorem letters_f (s:ByteArray) (hs:s.size≤9223372036854775807) (H:Heap):VDet Tryz.prog 218 [.str s,.bool false] H (.bool (letB false s)):=by
 refine fdD Tryz.func218 ⟨rfl,rfl,rfl⟩ fun hcl hbl=>?_
 conv=>whnf
 refine zax Tryz.E0 zag (σ:=Nat) (fun k=>1≤k∧(k≤s.size∨k=1)∧∀ i,1≤i→i<k→refQ false (bt s i)=true) (fun k=>s.size-k) (fun k=>[(5,.v (.int .i64 k))]) (fun _=>[]) _ 1 rfl hcl [0,1] rfl ⟨yax _,.inr rfl,fun i h1 h2=>by omega⟩ ⟨⟨_,rfl,yae _⟩,trivial⟩ rfl (fun _ _=>rfl) ?_
 rintro k ⟨hk1,hk,hall⟩
 clear hbl
 by_cases hlt:k<s.size
 ·have hbk:=bt_get s k hlt k rfl
  have r1:=rin_c (bt s k) 48 57 48 57 rfl rfl
  have r2:=rin_c (bt s k) 65 90 65 90 rfl rfl
  have r3:=rin_c (bt s k) 97 122 97 122 rfl rfl
  have hq:refQ false (bt s k)=(inR 48 57 (bt s k) || (!false&&(inR 65 90 (bt s k) || inR 97 122 (bt s k)))):=rfl
  generalize inR 48 57 (bt s k)=b1 at *
  generalize inR 65 90 (bt s k)=b2 at *
  generalize inR 97 122 (bt s k)=b3 at *
  cases b1 with
  | true =>
    (repeat' ((conv=>whnf);(first|(refine yai ?_;first|refine yas ?_|refine yaq rfl ?_|refine yar (by omega) ?_|fail)|(refine zad _ _ Cst.h Cst.h ?_ ?_;· omega)|refine yaf (by omega) ?_|refine yab _ (r1 _) ?_|refine yeb _ hbk ?_|fail)));conv=>whnf
    (refine ⟨⟨k+1,⟨by omega,by omega,fun i h3 h4=>by
     by_cases e:i=k
     ·rw [e];exact hq
     ·exact hall i h3 (by omega)⟩,by omega,?_,.inl ⟨rfl,rfl⟩,rfl,_,rfl,?_⟩⟩;rotate_left 1;exact .inl rfl;exact ⟨⟨_,rfl,yae _⟩,trivial⟩)
  | false =>
    cases b2 with
    | true =>
      (repeat' ((conv=>whnf);(first|(refine yai ?_;first|refine yas ?_|refine yaq rfl ?_|refine yau rfl ?_|refine yar (by omega) ?_|fail)|(refine zad _ _ Cst.h Cst.h ?_ ?_;· omega)|refine yaf (by omega) ?_|(refine ybm ?_;first|refine yab _ (r1 _) ?_|refine yab _ (r2 _) ?_|fail)|refine yeb _ hbk ?_|fail)));conv=>whnf
      (refine ⟨⟨k+1,⟨by omega,by omega,fun i h3 h4=>by
       by_cases e:i=k
       ·rw [e];exact hq
       ·exact hall i h3 (by omega)⟩,by omega,?_,.inl ⟨rfl,rfl⟩,rfl,_,rfl,?_⟩⟩;rotate_left 1;exact .inl rfl;exact ⟨⟨_,rfl,yae _⟩,trivial⟩)
    | false =>
      cases b3 with
      | true =>
        (repeat' ((conv=>whnf);(first|(refine yai ?_;first|refine yas ?_|refine yaq rfl ?_|refine yau rfl ?_|refine yar (by omega) ?_|fail)|(refine zad _ _ Cst.h Cst.h ?_ ?_;· omega)|refine yaf (by omega) ?_|(refine ybm ?_;first|refine yab _ (r1 _) ?_|refine yab _ (r2 _) ?_|refine yab _ (r3 _) ?_|fail)|refine yeb _ hbk ?_|fail)));conv=>whnf
        (refine ⟨⟨k+1,⟨by omega,by omega,fun i h3 h4=>by
         by_cases e:i=k
         ·rw [e];exact hq
         ·exact hall i h3 (by omega)⟩,by omega,?_,.inl ⟨rfl,rfl⟩,rfl,_,rfl,?_⟩⟩;rotate_left 1;exact .inl rfl;exact ⟨⟨_,rfl,yae _⟩,trivial⟩)
      | false =>
        (repeat' ((conv=>whnf);(first|(refine yai ?_;first|refine yas ?_|refine yau rfl ?_|refine yar (by omega) ?_|fail)|refine yaf (by omega) ?_|(refine ybm ?_;first|refine yab _ (r1 _) ?_|refine yab _ (r2 _) ?_|refine yab _ (r3 _) ?_|fail)|refine yeb _ hbk ?_|fail)));conv=>whnf
        rw [letB_no hk1 hlt hq]
        exact eT trivial
 ·rw [letB_yes (fun i h1 h2=>hall i h1 (by omega))]
  by_cases h0:1≤s.size∧s.size≤16
  ·rw [decide_eq_true h0]
   (repeat' ((conv=>whnf);(first|(refine yai ?_;first|refine yar (by omega) ?_|refine ya1 (by omega) ?_|fail)|fail)));conv=>whnf
   exact ya2 trivial (zaf (congrArg AV.bool (decide_eq_true (by omega))))
  ·rw [decide_eq_false h0]
   (repeat' ((conv=>whnf);(first|(refine yai ?_;first|refine ya1 (by omega) ?_|refine zcy (fun _=>?_) (fun _=>?_)|fail)|fail)));all_goals (conv=>whnf)
   all_goals first|exact eT trivial|exact ya2 trivial (zaf (congrArg AV.bool (decide_eq_false (by omega))))
theorem letB_size {dg:Bool} {s:ByteArray} (h:letB dg s=true):1≤s.size:=by
 unfold letB at h
 rw [yak,decide_eq_true_eq] at h
 exact h.1.1
theorem res_at {s:ByteArray} (h:isRes s=true):isCap (bt s 0)=false∧(isDig (bt s 1)=false∧2≤s.size):=by
 unfold isRes wordE at h
 simp only [ba_beqG,Bool.or_eq_true,decide_eq_true_eq] at h
 rcases h with h|h|h|h|h|h <;> subst h <;> decide
theorem refQ_f (c:UInt8):refQ false c=isAln c:=by
 unfold refQ isAln isSml isCap isDig
 cases inR 48 57 c <;> cases inR 65 90 c <;> cases inR 97 122 c <;> rfl
theorem refQ_t (c:UInt8):refQ true c=isDig c:=by
 unfold refQ isDig
 cases inR 48 57 c <;> rfl
theorem isPred_let (s:ByteArray):ze8 s=(letB false s&&isCap (bt s 0)):=by
 unfold ze8 nameB letB
 simp only [refQ_f]
 cases hr:isRes s with
 | false=>generalize (List.all _ _)=a;cases a <;> cases isCap (bt s 0) <;> simp
 | true=>rw [(res_at hr).1];simp
theorem isVar_let (s:ByteArray):isVar s=(letB true s&&isVa1 (bt s 0)):=by
 unfold isVar nameB
 cases hr:isRes s with
 | false =>
   unfold letB
   simp only [refQ_t]
   generalize (List.all _ _)=a
   cases a <;> cases isVa1 (bt s 0) <;> simp
 | true =>
   have h:=res_at hr
   rw [letB_no (yax 1) (by omega) ((refQ_t _).trans h.2.1)]
   simp
def isR5 (s:ByteArray):Bool:=wordE s #[97,108,108] || (wordE s #[115,111,109,101] || (wordE s #[102,97,108,115,101] || (wordE s #[110,101,120,116] || wordE s #[97,108,119,97,121,115])))
theorem isFun_let (s:ByteArray):isFun s=(!isR5 s&&(letB false s&&isFu1 (bt s 0))):=by
 have e:isRes s=(isR5 s || wordE s #[117,110,116,105,108]):=by
  unfold isRes isR5
  simp only [Bool.or_assoc]
 have hu:wordE s #[117,110,116,105,108]=true→isFu1 (bt s 0)=false:=by
  intro h
  unfold wordE at h
  rw [ba_beqG,decide_eq_true_eq] at h
  subst h
  decide
 unfold isFun nameB letB
 simp only [refQ_f]
 rw [e]
 generalize (List.all _ _)=a
 cases isR5 s with
 | true=>simp
 | false =>
   cases hw:wordE s #[117,110,116,105,108] with
   | true=>rw [hu hw];simp
   | false=>cases a <;> cases isFu1 (bt s 0) <;> simp
theorem refPred_c (s:ByteArray) (hs:s.size≤9223372036854775807) (H:Heap):VDet Tryz.prog 167 [.str s] H (.bool (ze8 s)):=by
 rw [isPred_let]
 have hl:=letters_f s hs
 have h1:letB false s=true→s[(0:Int).toNat]? = some (bt s 0):=fun h=>bt_get s 0 (letB_size h) 0 rfl
 have r1:∀ H,VDet Tryz.prog 219 [.int .u8 (bt s 0).toNat,.int .u8 65,.int .u8 90] H (.bool (isCap (bt s 0))):=rin_c (bt s 0) 65 90 65 90 rfl rfl
 generalize letB false s=b1 at *
 generalize isCap (bt s 0)=b2 at *
 cases b1 with
 | true =>
   have hb0:=h1 rfl
   refine fdD Tryz.func167 ⟨rfl,rfl,rfl⟩ fun hcl hbl=>?_
   (repeat' ((conv=>whnf);(first|refine yaq rfl ?_|refine yaf (by omega) ?_|(refine ybm ?_;first|refine yab _ (hl _) ?_|refine yab _ (r1 _) ?_|fail)|refine yeb _ hb0 ?_|fail)));conv=>whnf
   all_goals exact eT trivial
 | false =>
   refine fdD Tryz.func167 ⟨rfl,rfl,rfl⟩ fun hcl hbl=>?_
   (repeat' ((conv=>whnf);(first|refine yau rfl ?_|refine yab _ (hl _) ?_|fail)));conv=>whnf
   exact eT trivial
theorem refVar_c (s:ByteArray) (hs:s.size≤9223372036854775807) (H:Heap):VDet Tryz.prog 170 [.str s] H (.bool (isVar s)):=by
 rw [isVar_let]
 have hl:=letters_t s hs
 have h1:letB true s=true→s[(0:Int).toNat]? = some (bt s 0):=fun h=>bt_get s 0 (letB_size h) 0 rfl
 have r1:∀ H,VDet Tryz.prog 219 [.int .u8 (bt s 0).toNat,.int .u8 117,.int .u8 122] H (.bool (isVa1 (bt s 0))):=rin_c (bt s 0) 117 122 117 122 rfl rfl
 generalize letB true s=b1 at *
 generalize isVa1 (bt s 0)=b2 at *
 cases b1 with
 | true =>
   have hb0:=h1 rfl
   refine fdD Tryz.func170 ⟨rfl,rfl,rfl⟩ fun hcl hbl=>?_
   (repeat' ((conv=>whnf);(first|refine yaq rfl ?_|refine yaf (by omega) ?_|(refine ybm ?_;first|refine yab _ (hl _) ?_|refine yab _ (r1 _) ?_|fail)|refine yeb _ hb0 ?_|fail)));conv=>whnf
   all_goals exact eT trivial
 | false =>
   refine fdD Tryz.func170 ⟨rfl,rfl,rfl⟩ fun hcl hbl=>?_
   (repeat' ((conv=>whnf);(first|refine yau rfl ?_|refine yab _ (hl _) ?_|fail)));conv=>whnf
   exact eT trivial
theorem refFun_c (s:ByteArray) (hs:s.size≤9223372036854775807) (H:Heap):VDet Tryz.prog 169 [.str s] H (.bool (isFun s)):=by
 rw [isFun_let]
 unfold isR5
 have hl:=letters_f s hs
 have h1:letB false s=true→s[(0:Int).toNat]? = some (bt s 0):=fun h=>bt_get s 0 (letB_size h) 0 rfl
 have r1:∀ H,VDet Tryz.prog 219 [.int .u8 (bt s 0).toNat,.int .u8 97,.int .u8 116] H (.bool (isFu1 (bt s 0))):=rin_c (bt s 0) 97 116 97 116 rfl rfl
 have e1:(s.toList==(ByteArray.mk #[97,108,108]).toList)=wordE s #[97,108,108]:=rfl
 have e2:(s.toList==(ByteArray.mk #[115,111,109,101]).toList)=wordE s #[115,111,109,101]:=rfl
 have e3:(s.toList==(ByteArray.mk #[102,97,108,115,101]).toList)=wordE s #[102,97,108,115,101]:=rfl
 have e4:(s.toList==(ByteArray.mk #[110,101,120,116]).toList)=wordE s #[110,101,120,116]:=rfl
 have e5:(s.toList==(ByteArray.mk #[97,108,119,97,121,115]).toList)=wordE s #[97,108,119,97,121,115]:=rfl
 generalize wordE s #[97,108,108]=w1 at *
 generalize wordE s #[115,111,109,101]=w2 at *
 generalize wordE s #[102,97,108,115,101]=w3 at *
 generalize wordE s #[110,101,120,116]=w4 at *
 generalize wordE s #[97,108,119,97,121,115]=w5 at *
 generalize letB false s=b1 at *
 generalize isFu1 (bt s 0)=b2 at *
 cases w1 with
 | true =>
   refine fdD Tryz.func169 ⟨rfl,rfl,rfl⟩ fun hcl hbl=>?_
   (repeat' ((conv=>whnf);(first|refine yaq e1 ?_|fail)));conv=>whnf
   exact eT trivial
 | false =>
   cases w2 with
   | true =>
     refine fdD Tryz.func169 ⟨rfl,rfl,rfl⟩ fun hcl hbl=>?_
     (repeat' ((conv=>whnf);(first|(refine yai ?_;first|refine yau e1 ?_|refine yaq e2 ?_|fail)|fail)));conv=>whnf
     exact eT trivial
   | false =>
     cases w3 with
     | true =>
       refine fdD Tryz.func169 ⟨rfl,rfl,rfl⟩ fun hcl hbl=>?_
       (repeat' ((conv=>whnf);(first|(refine yai ?_;first|refine yau e1 ?_|refine yau e2 ?_|refine yaq e3 ?_|fail)|fail)));conv=>whnf
       exact eT trivial
     | false =>
       cases w4 with
       | true =>
         refine fdD Tryz.func169 ⟨rfl,rfl,rfl⟩ fun hcl hbl=>?_
         (repeat' ((conv=>whnf);(first|(refine yai ?_;first|refine yau e1 ?_|refine yau e2 ?_|refine yau e3 ?_|refine yaq e4 ?_|fail)|fail)));conv=>whnf
         exact eT trivial
       | false =>
         cases w5 with
         | true =>
           refine fdD Tryz.func169 ⟨rfl,rfl,rfl⟩ fun hcl hbl=>?_
           (repeat' ((conv=>whnf);(first|(refine yai ?_;first|refine yau e1 ?_|refine yau e2 ?_|refine yau e3 ?_|refine yau e4 ?_|refine yaq e5 ?_|fail)|fail)));conv=>whnf
           exact eT trivial
         | false =>
           cases b1 with
           | true =>
             have hb0:=h1 rfl
             refine fdD Tryz.func169 ⟨rfl,rfl,rfl⟩ fun hcl hbl=>?_
             (repeat' ((conv=>whnf);(first|(refine yai ?_;first|refine yau e1 ?_|refine yau e2 ?_|refine yau e3 ?_|refine yau e4 ?_|refine yau e5 ?_|refine yaq rfl ?_|fail)|refine yaf (by omega) ?_|(refine ybm ?_;first|refine yab _ (hl _) ?_|refine yab _ (r1 _) ?_|fail)|refine yeb _ hb0 ?_|fail)));conv=>whnf
             all_goals exact eT trivial
           | false =>
             refine fdD Tryz.func169 ⟨rfl,rfl,rfl⟩ fun hcl hbl=>?_
             (repeat' ((conv=>whnf);(first|(refine yai ?_;first|refine yau e1 ?_|refine yau e2 ?_|refine yau e3 ?_|refine yau e4 ?_|refine yau e5 ?_|refine yau rfl ?_|fail)|refine yab _ (hl _) ?_|fail)));conv=>whnf
             exact eT trivial
end
end Go.Proofs.YtgdmldelijeaoaaGreatDoor
