/- A text of the proof: the parts R12, R13, R14, R16, R19, R20, R21, R22, R23, R24, R25. -/
import Derived.DefersIn
import Derived.Test.YtgdmldelijeaoaaGreatDoorK4
set_option linter.unusedSimpArgs false
set_option linter.unusedVariables false
/-! text R12 -/
namespace Go.Vsi
theorem HRel.newTok [Glob] {g:G} {w:World} {hp:Hp} (h:HRel g w hp) (e:TypeId) (sz len:Nat) (Tk0:Tk) (hl:Tk0.len=len) (hs:Tk0.sz=sz)
  (hb:(Tk0.base=none∧len=0∧Tk0.cap=0)∨∃ b cs,Tk0.base=some b∧w.heap[b]? = some (.cells cs e (0,0))∧cs.size=Tk0.cap * sz∧Tk0.cap≤maxLen∧len≤cs.size∧∀ o,len≤o→g.own b o)
  (hinj:∀ (i:Nat) B b,hp.all[i]? = some B→Tk0.base=some b→locs g i B≠some b) :
  ∃ g',g'.ok g.n∧g'.tk g.n=Tk0∧HRel g' w ⟨hp.base,hp.k+1,hp.loc++[.tok e sz len]⟩∧Ext g w g' w:=by
 let g':G:={ n:=g.n+1,blk:=g.blk,tk:=fun i=>if i=g.n then Tk0 else g.tk i,own:=g.own,pend:=g.pend }
 have htk':∀ i,i<g.n→g'.tk i=g.tk i:=fun i hi=>by
  show (if i=g.n then _ else _)=_
  rw [if_neg (by omega)]
 have htk:g'.tk g.n=Tk0:=by show (if g.n=g.n then _ else _)=_;rw [if_pos rfl]
 have hnp:¬ g.pend g.n:=fun hp'=>Nat.lt_irrefl g.n (by have:=(List.getElem?_eq_some_iff.1 (h.pend _ hp')).1;rw [Hp.all_length h] at this;exact this)
 have hx:Ext g w g' w:=⟨Nat.le_succ _,fun _ _ h=>h,fun i hi=>⟨Nat.lt_succ_of_lt hi.1,hi.2⟩,fun _ _=>rfl,fun i hi=>.inl (htk' i hi.1),fun _ _ _ h=>h,rfl,rfl,rfl,(by first|exact Nat.le_refl _|exact Nat.le_succ _|(simp;done)),Nat.le_refl _,fun _ _ _=>rfl,fun _ ds _ _ hb=>⟨ds,hb,rfl,fun _ _=>rfl⟩⟩
 have hlen:=Hp.all_length h
 have hall:(⟨hp.base,hp.k+1,hp.loc++[.tok e sz len]⟩:Hp).all=hp.all++[.tok e sz len]:=by simp [Hp.all]
 have key:∀ (i:Nat) (B:Blk),(hp.all++[.tok e sz len])[i]? = some B→(i<g.n∧hp.all[i]? = some B)∨(i=g.n∧B=.tok e sz len):=by
  intro i B hi
  rcases Nat.lt_or_ge i hp.all.length with hlt|hge
  ·rw [List.getElem?_append_left hlt] at hi
   exact .inl ⟨by omega,hi⟩
  ·rw [List.getElem?_append_right hge] at hi
   have h0:i=hp.all.length:=by
    have:=(List.getElem?_eq_some_iff.1 hi).1
    simp at this;omega
   subst h0
   simp at hi
   exact .inr ⟨hlen,hi.symm⟩
 refine ⟨g',⟨Nat.lt_succ_self _,hnp⟩,htk,⟨?_,by simp [h.k],?_,h.lt,fun i hi=>?_,?_,fun pp hpp=>MRel.ext hx _ _ _ (h.glob pp hpp)⟩,hx⟩
 ·show g.n+1=_
  rw [h.n];simp [Nat.add_assoc]
 ·intro i B hi
  rw [hall] at hi
  rcases key i B hi with ⟨h1,h2⟩|⟨rfl,rfl⟩
  ·exact (h.rel i B h2).keep hx (at_ok h h2) (fun _ _=>rfl) (htk' i h1) (fun _ _ _ ho=>ho)
  ·refine ⟨by rw [htk];exact hl,by rw [htk];exact hs,?_⟩
   rw [htk]
   exact hb
 ·have:=h.pend i hi
  rw [hall,List.getElem?_append_left (List.getElem?_eq_some_iff.1 this).1,this]
 ·intro i j B C b hi hj hb hc
  rw [hall] at hi hj
  have hold:∀ (i:Nat) (B:Blk),i<g.n→hp.all[i]? = some B→locs g' i B=locs g i B:=fun i B hi hB=>locs_keep hx (at_ok h hB) (htk' i hi)
  rcases key i B hi with ⟨i1,i2⟩|⟨rfl,rfl⟩
  ·rw [hold i B i1 i2] at hb
   rcases key j C hj with ⟨j1,j2⟩|⟨rfl,rfl⟩
   ·rw [hold j C j1 j2] at hc
    exact h.inj i j B C b i2 j2 hb hc
   ·simp only [locs,htk] at hc
    exact absurd hb (hinj i B b i2 hc)
  ·simp only [locs,htk] at hb
   rcases key j C hj with ⟨j1,j2⟩|⟨rfl,rfl⟩
   ·rw [hold j C j1 j2] at hc
    exact absurd hc (hinj j C b j2 hb)
   ·rfl
section
variable {P:Program} {N:FN} {n0:Nat} {T:TypeId→Option TI} {kn:TypeId→Nat}
end
theorem EqN.remC {m n:Nat} {x y:Int} {k:Int→Prop} (c:Nat) (hx:x=m) (hy:y=n) (h:m % n=c) (a:k c):EqN (x.tmod y) k:=by
 subst hx hy
 refine ⟨c,?_,a⟩
 rw [Int.tmod_eq_emod_of_nonneg (by omega),← h]
 simp
end Go.Vsi
/-! text R13 -/
namespace Go.Vsi
def G.bare (g:G):G:={ g with own:=fun _ _=>False }
theorem bare_extV (g:G) (w:World):ExtV g w g.bare w :=
 ⟨fun _ h=>h,fun _ _=>rfl,fun _ _=>.inl rfl,fun hc _=>⟨hc,fun q=>q⟩,fun hb _=>⟨hb,fun _ q=>q⟩⟩
mutual
inductive Lend (H:Heap):AV→AV→Prop where
 | refl (v:AV):Lend H v v
 | ptr {i o:Nat} {t:TypeId} {l l' l'':List AV}:H[i]? = some (.box t l)→dropC o l=some l'→LendL H l' l''→Lend H (.ptr i o) (.rptr l'')
 | ms {i o n:Nat} {t:TypeId} {l l' l'':List AV}:H[i]? = some (.box t l)→dropC o l=some l'→LendL H l' l''→Lend H (.ms i o n) (.sl none n l'')
 | vs {i n sz:Nat} {e:TypeId} {l l':List AV}:H[i]? = some (.vec e sz l)→l.length=n * sz→LendL H l l'→Lend H (.vs i n) (.sl none n l')
 | agg {l l':List AV}:LendL H l l'→Lend H (.agg l) (.agg l')
 | tup {l l':List AV}:LendL H l l'→Lend H (.tup l) (.tup l')
inductive LendL (H:Heap):List AV→List AV→Prop where
 | nil:LendL H [] []
 | cons {v v':AV} {l l':List AV}:Lend H v v'→LendL H l l'→LendL H (v::l) (v'::l')
end
theorem LendL.refl {H:Heap}:∀ l:List AV,LendL H l l
 | []=>.nil
 | v::l=>.cons (.refl v) (LendL.refl l)
mutual
theorem Lend.rel [Glob] {g:G} {w:World} {H:Heap} (hH:HRel g w (Hp.of H)):∀ {v v':AV},Lend H v v'→∀ c,VRel g w v c→VRel g.bare w v' c
 | _,_,.refl v,c,h=>VRel.extV (bare_extV _ _) v c h
 | _,_,@Lend.ptr _ i o t l l' l'' h1 h2 h3,c,h=>by
   simp only [VRel] at h ⊢
   obtain ⟨hok,rfl⟩:=h
   obtain ⟨cs,e1,e2,e3⟩:=hH.rel i _ (by simpa [Hp.of,Hp.all] using h1)
   obtain ⟨hd1,hd2⟩:=dropC_eq _ _ _ h2
   have e2':=e2.drop o
   rw [hd1] at e2'
   have e4:=LendL.rel hH h3 _ e2'
   refine ⟨_,_,rfl,MRel.mk fun q v hq=>?_⟩
   obtain ⟨c',q1,q2⟩:=e4.get hq
   rw [List.getElem?_drop] at q1
   exact ⟨c',cell_iff.2 ⟨cs,t,_,e1,by simpa using q1⟩,q2,fun ho=>ho⟩
 | _,_,@Lend.ms _ i o n t l l' l'' h1 h2 h3,c,h=>by
   simp only [VRel] at h ⊢
   obtain ⟨hok,cap,hn,rfl⟩:=h
   obtain ⟨cs,e1,e2,e3⟩:=hH.rel i _ (by simpa [Hp.of,Hp.all] using h1)
   obtain ⟨hd1,hd2⟩:=dropC_eq _ _ _ h2
   have e2':=e2.drop o
   rw [hd1] at e2'
   have e4:=LendL.rel hH h3 _ e2'
   refine ⟨_,_,rfl,hn,.inr ⟨_,_,rfl,MRel.mk fun q v hq=>?_⟩,fun t e=>by cases e⟩
   obtain ⟨c',q1,q2⟩:=e4.get hq
   rw [List.getElem?_drop] at q1
   exact ⟨c',cell_iff.2 ⟨cs,t,_,e1,by simpa using q1⟩,q2,fun ho=>ho⟩
 | _,_,@Lend.vs _ i n sz e l l' h1 h2 h3,c,h=>by
   simp only [VRel] at h ⊢
   obtain ⟨hok,hle,A,cap,rfl,hnc,hA⟩:=h
   obtain ⟨r1,r2,r3⟩:=hH.rel i _ (by simpa [Hp.of,Hp.all] using h1)
   obtain ⟨hA,-⟩:=hA (by rw [r1,r2,h2])
   refine ⟨_,_,rfl,hnc,?_,fun t e=>by cases e⟩
   rcases r3 with ⟨-,q,-⟩|⟨b,cs,q1,q2,q3,q4,q5,q6,q7⟩
   ·subst q
    cases h3
    exact .inl rfl
   ·right
    rw [q1] at hA
    have e4:=LendL.rel hH h3 _ q6
    refine ⟨b,0,hA,MRel.mk fun q v hq=>?_⟩
    obtain ⟨c',p1,p2⟩:=e4.get hq
    rw [List.getElem?_take] at p1
    split at p1
    ·exact ⟨c',cell_iff.2 ⟨cs,e,_,q2,by simpa using p1⟩,p2,fun ho=>ho⟩
    ·cases p1
 | _,_,.agg h1,c,h=>by
   simp only [VRel] at h ⊢
   obtain ⟨cs,hc,e1⟩:=h
   exact ⟨cs,hc,LendL.rel hH h1 _ e1⟩
 | _,_,.tup h1,c,h=>by
   simp only [VRel] at h ⊢
   obtain ⟨cs,hc,e1⟩:=h
   exact ⟨cs,hc,LendL.rel hH h1 _ e1⟩
theorem LendL.rel [Glob] {g:G} {w:World} {H:Heap} (hH:HRel g w (Hp.of H)):∀ {l l':List AV},LendL H l l'→∀ cs,LRel g w l cs→LRel g.bare w l' cs
 | _,_,.nil,cs,h=>by simpa [LRel] using h
 | _,_,.cons h1 h2,cs,h=>by
   simp only [LRel] at h ⊢
   obtain ⟨c,r,hc,e1,e2⟩:=h
   exact ⟨c,r,hc,Lend.rel hH h1 _ e1,LendL.rel hH h2 _ e2⟩
end
mutual
def flatV:AV→Bool
 | .bool _=>true
 | .int _ _=>true
 | .str _=>true
 | .nilp=>true
 | .nilf=>true
 | .nili=>true
 | .nils=>true
 | .nilm=>true
 | .agg l=>flatL l
 | .tup l=>flatL l
 | _=>false
def flatL:List AV→Bool
 | []=>true
 | v::l=>flatV v&&flatL l
end
mutual
theorem flat_rel {g g':G} {w:World}:∀ {v:AV},flatV v=true→∀ {c},VRel g' w v c→VRel g w v c
 | .bool _,_,_,h=>by simpa [VRel] using h
 | .int _ _,_,_,h=>by simpa [VRel] using h
 | .str _,_,_,h=>by simpa [VRel] using h
 | .nilp,_,_,h=>by simpa [VRel] using h
 | .nilf,_,_,h=>by simpa [VRel] using h
 | .nili,_,_,h=>by simpa [VRel] using h
 | .nils,_,_,h=>by simpa [VRel] using h
 | .nilm,_,_,h=>by simpa [VRel] using h
 | .agg l,hf,_,h=>by
   simp only [VRel] at h ⊢
   obtain ⟨cs,hc,e⟩:=h
   exact ⟨cs,hc,flat_relL (by simpa [flatV] using hf) e⟩
 | .tup l,hf,_,h=>by
   simp only [VRel] at h ⊢
   obtain ⟨cs,hc,e⟩:=h
   exact ⟨cs,hc,flat_relL (by simpa [flatV] using hf) e⟩
theorem flat_relL {g g':G} {w:World}:∀ {l:List AV},flatL l=true→∀ {cs},LRel g' w l cs→LRel g w l cs
 | [],_,_,h=>by simpa [LRel] using h
 | v::l,hf,_,h=>by
   simp only [flatL,Bool.and_eq_true] at hf
   simp only [LRel] at h ⊢
   obtain ⟨c,r,hc,e1,e2⟩:=h
   exact ⟨c,r,hc,flat_rel hf.1 e1,flat_relL hf.2 e2⟩
end
theorem VDet.lend [Glob] {P:Program} {F:FuncId} {as as':List AV} {H:Heap} {v:AV} (h:∀ H,VDet P F as' H v) (hl:LendL H as as') (hv:flatV v=true):VDet P F as H v:=by
 refine ⟨(h []).1,fun g w cs hH hL=>?_⟩
 have hlen:g.n=H.length:=by have:=hH.n;simpa [Hp.of] using this
 have hH1:HRel g.bare w (Hp.of (List.replicate H.length .dead)):=by
  have hrep:∀ (i:Nat) B,(List.replicate H.length Blk.dead)[i]? = some B→B=.dead:=fun i B hi=>by
   rw [List.getElem?_replicate] at hi
   split at hi
   ·cases hi;rfl
   ·cases hi
  refine ⟨by simp [Hp.of,G.bare,hlen],rfl,fun i B hi=>?_,fun _ _ q=>q.elim,fun i hi=>?_,fun i j B C b hi _ hb _=>?_,fun p hp=>MRel.extV (bare_extV g w) _ _ _ (hH.glob p hp)⟩
  ·rw [hrep i B (by simpa [Hp.of,Hp.all] using hi)];trivial
  ·have:=hH.pend i hi
   have hi':i<H.length:=by simpa [Hp.of,Hp.all] using (List.getElem?_eq_some_iff.1 this).1
   simp [Hp.of,Hp.all,List.getElem?_replicate,hi']
  ·rw [hrep i B (by simpa [Hp.of,Hp.all] using hi)] at hb;cases hb
 refine ((h _).2 g.bare w cs hH1 (LendL.rel hH hl _ hL)).mono ?_
 rintro e w' ⟨r,H',g',c,rfl,⟨rfl,rfl⟩,-,hv',hx'⟩
 have hsame:∀ b,b<w.heap.size→w'.heap[b]? = w.heap[b]? := fun b hb=>hx'.same b hb fun _ q=>q
 have hx:Ext g w g w':=⟨Nat.le_refl _,fun _ _ h=>h,fun _ h=>h,fun _ _=>rfl,fun _ _=>.inl rfl,fun _ _ _ h=>h,hx'.os,hx'.tape,hx'.output,hx'.drawn,hx'.size,fun b hb _=>hsame b hb,fun b cs t fz hb=>⟨cs,by rw [hsame b (lt_size hb)];exact hb,rfl,fun _ _=>rfl⟩⟩
 exact ⟨_,H,g,c,rfl,⟨rfl,rfl⟩,hH.keepAll hx hsame,flat_rel hv hv',hx⟩
end Go.Vsi
/-! text R14 -/
namespace Go.Vsi
theorem OrN.natL {i:Int} {k:Nat→Prop} {B:Prop} (h:NatN i k):OrN (NatN i k) B:=.l h
end Go.Vsi
/-! text R16 -/
namespace Go.Vsi
theorem HRel.split [Glob] {g:G} {w:World} {H loc:Heap} (h:HRel g w (Hp.of (H++loc))):HRel g w ⟨H,loc.length,loc⟩ :=
 ⟨by rw [h.n];simp [Hp.of],rfl,by simpa [Hp.of,Hp.all] using h.rel,h.lt,by simpa [Hp.of,Hp.all] using h.pend,by simpa [Hp.of,Hp.all] using h.inj,h.glob⟩
theorem wk_tokVec (t:Nat):Wk (.sl (some t) 0 []) (.vs t 0):=fun g w c h=>by
 simp only [VRel] at h ⊢
 obtain ⟨A,cap,rfl,hn,-,ht⟩:=h
 obtain ⟨h1,h2,h3⟩:=ht t rfl
 refine ⟨h1,by omega,A,cap,rfl,hn,fun e=>?_⟩
 obtain ⟨q1,q2,-⟩:=h3 (by simpa using e)
 exact ⟨q1,q2⟩
theorem HRel.tokVec [Glob] {g:G} {w:World} {base:Heap} {k:Nat} {loc:Heap} {j:Nat} {e:TypeId} {sz:Nat} (h:HRel g w ⟨base,k,loc⟩) (hj:loc[j]? = some (.tok e sz 0)):HRel g w ⟨base,k,loc.set j (.vec e sz [])⟩:=by
 have hat:(⟨base,k,loc⟩:Hp).all[base.length+j]? = some (.tok e sz 0):=at_loc (by rw [lget_eq];exact hj)
 have key:∀ (i:Nat) (B:Blk),(⟨base,k,loc.set j (.vec e sz [])⟩:Hp).all[i]? = some B→(i=base.length+j∧B=.vec e sz [])∨(⟨base,k,loc⟩:Hp).all[i]? = some B:=by
  intro i B hi
  unfold Hp.all at hi ⊢
  simp only at hi ⊢
  rcases Nat.lt_or_ge i base.length with hlt|hge
  ·rw [List.getElem?_append_left hlt] at hi ⊢
   exact .inr hi
  ·rw [List.getElem?_append_right hge] at hi ⊢
   rw [List.getElem?_set] at hi
   split at hi
   ·rename_i e1
    split at hi
    ·cases hi;exact .inl ⟨by omega,rfl⟩
    ·cases hi
   ·exact .inr hi
 refine ⟨h.n,by simpa using h.k,fun i B hi=>?_,h.lt,fun i hi=>?_,fun i1 i2 B C b h1 h2 hb hc=>?_,h.glob⟩
 ·rcases key i B hi with ⟨rfl,rfl⟩|h'
  ·obtain ⟨e1,e2,e3⟩:=h.rel _ _ hat
   refine ⟨e1,e2,?_⟩
   rcases e3 with ⟨q1,-,q3⟩|⟨b,cs,q1,q2,q3,q4,q5,q6⟩
   ·exact .inl ⟨q1,rfl,q3⟩
   ·exact .inr ⟨b,cs,q1,q2,q3,q4,by simp,by simp [LRel],fun o=>q6 o (Nat.zero_le _)⟩
  ·exact h.rel i B h'
 ·have hd:=h.pend i hi
  unfold Hp.all at hd ⊢
  simp only at hd ⊢
  rcases Nat.lt_or_ge i base.length with hlt|hge
  ·rw [List.getElem?_append_left hlt] at hd ⊢
   exact hd
  ·rw [List.getElem?_append_right hge] at hd ⊢
   rw [List.getElem?_set]
   split
   ·rename_i e1
    rw [← e1,hj] at hd
    cases hd
   ·exact hd
 ·have key2:∀ (i:Nat) (B:Blk),(⟨base,k,loc.set j (.vec e sz [])⟩:Hp).all[i]? = some B→∀ b,locs g i B=some b→∃ B',(⟨base,k,loc⟩:Hp).all[i]? = some B'∧locs g i B'=some b:=by
   intro i B hi b hb
   rcases key i B hi with ⟨rfl,rfl⟩|h'
   ·exact ⟨_,hat,hb⟩
   ·exact ⟨B,h',hb⟩
  obtain ⟨B',p1,p2⟩:=key2 i1 B h1 b hb
  obtain ⟨C',p3,p4⟩:=key2 i2 C h2 b hc
  exact h.inj i1 i2 B' C' b p1 p3 p2 p4
section
variable {P:Program} {N:FN} {n0:Nat} {T:TypeId→Option TI} {kn:TypeId→Nat}
theorem LoopN.tokVec [Glob] (t j:Nat) (e:TypeId) (sz:Nat) {c:Code} {Q:QR} {top bot:RE} {base:Heap} {k:Nat} {loc loc':Heap} (hv:rget2 top bot t=some (.v (.sl (some (n0+j)) 0 []))) (hl:lget loc j=some (.tok e sz 0)) (hs:lset loc j (.vec e sz [])=some loc')
  (h:LoopN P kn T N n0 c Q ((t,.v (.vs (n0+j) 0))::top) bot base k loc'):LoopN P kn T N n0 c Q top bot base k loc:=by
 refine ⟨fun g w a hH hE=>?_⟩
 obtain ⟨e1,-⟩:=lset_eq _ _ _ _ hs
 subst e1
 rw [lget_eq] at hl
 refine h.h g w a (hH.tokVec hl) ⟨hE.1,fun s=>?_,hE.ro,hE.glob⟩
 simp only [List.cons_append,trE]
 by_cases hs:t=s
 ·subst hs
  rw [get_put_same]
  have h0:=hE.rel t
  rw [rget2_get hv] at h0
  exact wk_tokVec _ _ _ _ h0
 ·rw [get_put_ne _ _ hs]
  exact hE.rel s
end
theorem WkL.mrel {g:G} {w:World}:∀ {l l':List AV} {b o:Nat},WkL l l'→MRel g w l b o→MRel g w l' b o
 | [],[],_,_,_,h=>h
 | v::l,v'::l',b,o,hw,h=>by
   simp only [MRel] at h ⊢
   obtain ⟨⟨c,h1,h2,h3⟩,h4⟩:=h
   exact ⟨⟨c,h1,hw.1 _ _ _ h2,h3⟩,WkL.mrel hw.2 h4⟩
 | [],_::_,_,_,hw,_=>hw.elim
 | _::_,[],_,_,hw,_=>hw.elim
theorem WkL.id:∀ l:List AV,WkL l l
 | []=>trivial
 | v::l=>⟨Wk.refl v,WkL.id l⟩
theorem WkL.app:∀ {a a' b b':List AV},WkL a a'→WkL b b'→WkL (a++b) (a'++b')
 | [],[],_,_,_,h=>h
 | _::_,_::_,_,_,h1,h=>⟨h1.1,WkL.app h1.2 h⟩
 | [],_::_,_,_,h1,_=>h1.elim
 | _::_,[],_,_,h1,_=>h1.elim
theorem wk_slL {tok:Option Nat} {n:Nat} {l l':List AV} (h:WkL l l'):Wk (.sl tok n l) (.sl none n l'):=fun g w c hr=>by
 simp only [VRel] at hr ⊢
 obtain ⟨A,cap,h1,h2,h3,-⟩:=hr
 refine ⟨A,cap,h1,h2,?_,fun t e=>by cases e⟩
 rcases h3 with h3|⟨b,o,h3,h4⟩
 ·subst h3
  cases l' with
  | nil=>exact .inl rfl
  | cons v l'=>exact h.elim
 ·exact .inr ⟨b,o,h3,h.mrel h4⟩
theorem Wk.trans {a b c:AV} (h:Wk a b) (k:Wk b c):Wk a c:=fun g w x hx=>k g w x (h g w x hx)
end Go.Vsi
/-! text R19 -/
namespace Go.Vsi
section
variable {P:Program} {N:FN} {n0:Nat} {T:TypeId→Option TI} {kn:TypeId→Nat}
end
end Go.Vsi
/-! text R20 -/
namespace Go.Vsi
end Go.Vsi
/-! text R21 -/
namespace Go.Vsi
variable {P:Program} {kn:TypeId→Nat} {T:TypeId→Option TI}
def VX [Glob] (P:Program) (N:FN) (g0:G) (w0:World) (c:Code) (K:Exit→Act→World→Prop) (env:Env) (hp:Hp):Prop :=
 ∀ g w a,HRel g w hp→ERel N g w env a→Ext g0 w0 g w→DRel w0 [] g w a.defers→c.wpIn (FR none) 0 P K a w
def nx (f:RE→RE→Heap→Nat→Heap→Prop):QR:=fun e top bot base k loc=>match e with
 | .normal=>f top bot base k loc
 | _=>False
theorem vx_piece [Glob] (he:Env0 P T kn) (hm:P.follows .mixedOrders=true) {m n0:Nat} {g0:G} {w0:World} {x y:Code} {K:Exit→Act→World→Prop} {f:RE→RE→Heap→Nat→Heap→Prop} {top bot:RE} {base:Heap} {k:Nat} {loc:Heap}
  (h:wpC P kn T ⟨m,none⟩ n0 x (nx f) top bot base k loc) (hn:base.length=n0) (hy:∀ top bot base k loc,base.length=n0→f top bot base k loc→VX P ⟨m,none⟩ g0 w0 y K (trE n0 (top++bot)) ⟨base,k,loc⟩) :
  VX P ⟨m,none⟩ g0 w0 (.seq x y) K (trE n0 (top++bot)) ⟨base,k,loc⟩:=by
 intro g w a hH hE hX hD
 have hw:=wpC_sound he hm x _ _ _ _ _ _ hn h
 refine wpIn_seq (Code.wpIn_mono ?_ (hw g w a hH hE))
 rintro e a' w' ⟨env',hp',g',⟨top',bot',base',k',loc',hap,rfl,hbl,hq⟩,hH',hE',hx,hds⟩
 cases e with
 | normal=>exact hy top' bot' base' k' loc' hbl hq g' w' a' hH' ⟨hE'.1,fun s=>hap s _ _ _ (hE'.rel s),hE'.ro,hE'.glob⟩ (hX.trans hx) (hD.trans hx hX.size hds)
 | _=>exact hq.elim
theorem opIn_defer {P:Program} {fo:Option Nat} {o:Oper} {a:Act} {w w':World} {K:Act→World→Prop} {Q:Exit→Act→World→Prop} {d:Deferred} (hfo:fo=none) (h:(execOp a.eval o).run P w=.ok (.defer d) w') (k:K ({ a with defers:=d::a.defers }.put o.dst undef) w'):o.wpIn (FR fo) 0 P a w K Q:=by
 subst hfo
 refine ⟨fun _ _=>trivial,?_⟩
 rw [FR_round,Oper.semAt_none,h]
 exact k
def VDfr [Glob] (P:Program) (F:FuncId) (as:List AV) (H H':Heap):Prop :=
 ∀ g w (xs:Array Value),HRel g w (Hp.of H)→LRel g w as xs.toList→CallsDIn (FR none) 0 P F xs .returning w fun e u' w'=>∃ g' v,e=.returned v∧u'=.returning∧HRel g' w' (Hp.of H')∧Ext g w g' w'
theorem dfr_region [Glob] (he:Env0 P T kn) {F:FuncId} {fn:Func} {id:Nat} {ops:List Oper} {args:List AV} {H H':Heap} (hf:P.funcs[F]? = some fn) (hb:fn.body=some (.region id ops.toArray false)) (hres:fn.results.toList=[])
  (hN:args.length≤fn.ntmps) {re:RE} (hre:argO 0 args=some re)
  (h:Closed H→belowL H.length args→wpC P kn T ⟨fn.ntmps,none⟩ H.length (.region id ops.toArray false) (nx fun _ _ base _ loc=>base++loc=H') re [] H 0 []):VDfr P F args H H':=by
 obtain rfl:=argO_eq _ _ _ hre
 intro g w xs hH hl
 have hgn:g.n=H.length:=by rw [hH.n];simp [Hp.of]
 have h:=h (closed_of hH) (hgn▸LRel.below _ _ hl)
 refine (callsDIn_of_wp (u:=.returning) (R:=fun e w'=>∃ g' v,e=.returned v∧HRel g' w' (Hp.of H')∧Ext g w g' w') hf hb trivial ?_ rfl).mono ?_
 ·have ho:=wpO_sound (N:=⟨fn.ntmps,none⟩) (Q:=fun env hp=>∃ top base k loc,env=trE H.length (top++[])∧hp=⟨base,k,loc⟩∧base++loc=H') he (fun top base k loc _ hq=>⟨top,base,k,loc,rfl,rfl,hq⟩) ops _ H 0 [] rfl h
  refine wpIn_region_lit (ho g w g w _ _ hH ?_ (Ext.refl g w) ?_)
  ·have:=argEnv_rel hl hN hH.glob
   rw [List.append_nil,argRE_tr]
   exact this
  ·rintro env' hp' g' a' w' ⟨top,base,k,loc,rfl,rfl,rfl⟩ h1 h2 h3 h4
   refine ⟨h4,.tuple #[],?_,g',_,rfl,?_,h3⟩
   ·have:fn.results=#[]:=by
     have:=congrArg List.toArray hres
     simpa using this
    simp [results,this]
   ·have:=h1.of
    exact this
 ·rintro e u' w' ⟨rfl,g',v,h1,h2,h3⟩
  exact ⟨g',v,h1,rfl,h2,h3⟩
theorem leaves_tail {P:Program} {fn:Func} {tmps:Array Value} {R:Ending→World→Prop} {ds:List Deferred}:∀ {rs:List Nat} {w:World},rs.Nodup→(∀ r∈rs,w.heap[r]? = some (.deferred (some []))) →
  LeavesInM (FR none) 0 P fn tmps R ds .returning (shutAll rs w)→LeavesInM (FR none) 0 P fn tmps R (rs.map mark++ds) .returning w
 | [],w,_,_,h=>h
 | r::rs,w,hn,hm,h=>by
   rw [List.nodup_cons] at hn
   refine ⟨by simp,.inl ⟨r,_,rfl,run_takeDeferred (hm r (List.mem_cons_self ..)),?_⟩⟩
   exact leaves_tail hn.2 (fun q hq=>by rw [shut_other (fun e:q=r=>hn.1 (e▸hq))];exact hm q (List.mem_cons_of_mem _ hq)) h
structure DEnd [Glob] (P:Program) (G:FuncId) (as:List AV) (H:Heap) (R:AV→Heap→Prop) (base loc:Heap):Prop where
 ex:∃ B loc3,VDfr P G as (base++loc) (B++loc3)∧B.length=H.length∧(∀ (i:Nat) C,B[i]? = some C→H[i]? = some C∨C.below H.length)∧R (.tup []) B
theorem fn_defer [Glob] (he:Env0 P T kn) (hm:P.follows .mixedOrders=true) {F G:FuncId} {fn fg:Func} {R0 X2 R6 R7 TAIL:Code} {q t id:Nat} {mk df:Oper} {cs:List Operand} {args:List AV} {H:Heap} {R:AV→Heap→Prop} (hf:P.funcs[F]? = some fn) (hnm:(fn.name == "runtime.NumGoroutine")=false)
  (hb:fn.body=some (.seq R0 (.seq X2 (.seq (.seq R6 (.cond (.tmp q) (.seq R7 (.region id [mk,df].toArray false)) .skip)) TAIL)))) (hres:fn.results.toList=[])
  (hg:P.funcs[G]? = some fg) (hgn:fg.name ≠ "runtime.NumGoroutine") (hgb:fg.body≠none)
  (hmk:mk.op=.makeFunc (.func G) ([]:List Operand).toArray cs.toArray) (hmd:mk.dst=some t) (hmg:mk.guard=none) (hdo:df.op=.defer { callee:=.value (.tmp t),args:=#[],argTypes:=#[] }) (hdd:df.dst=none) (hdg:df.guard=none) (ht:Nat.blt t fn.ntmps=true)
  (hN:args.length≤fn.ntmps) {re:RE} (hre:argO 0 args=some re)
  (h:Closed H→belowL H.length args→wpC P kn T ⟨fn.ntmps,none⟩ H.length R0 (nx fun top bot base k loc=>wpC P kn T ⟨fn.ntmps,none⟩ H.length X2 (nx fun top bot base k loc=>wpC P kn T ⟨fn.ntmps,none⟩ H.length R6 (nx fun top bot base k loc=>get (trE H.length (top++bot)) q=.bool true∧wpC P kn T ⟨fn.ntmps,none⟩ H.length R7 (nx fun top bot base k loc=>∃ as,cs.map (ev (trE H.length (top++bot)))=as∧wpC P kn T ⟨fn.ntmps,none⟩ H.length TAIL (nx fun _ _ base2 _ loc2=>DEnd P G as H R base2 loc2) ((t,.v (.clo (.func G) [] as))::top) bot base k loc) top bot base k loc) top bot base k loc) top bot base k loc) re [] H 0 []):VCall P F args H R:=by
 obtain rfl:=argO_eq _ _ _ hre
 refine ⟨⟨fn,hf,hnm,by simp [hb]⟩,fun g0 w0 as hH hl=>calls_of_FR (o:=none) (n:=0) (callsIn_of_wp_marks hf hb trivial ?_ rfl)⟩
 have hgn0:g0.n=H.length:=by rw [hH.n];simp [Hp.of]
 have h:=h (closed_of hH) (hgn0▸LRel.below _ _ hl)
 have key:VX P ⟨fn.ntmps,none⟩ g0 w0 _ _ (trE H.length (argRE 0 args++[])) ⟨H,0,[]⟩ :=
  vx_piece he hm (y:=.seq X2 (.seq (.seq R6 (.cond (.tmp q) (.seq R7 (.region id [mk,df].toArray false)) .skip)) TAIL)) (K:=bodyPostM (FR none) 0 P fn fun e w'=>∃ r H' g'' c',e=.returned c'∧R r H'∧HRel g'' w' (Hp.of H')∧VRel g'' w' r c'∧Ext g0 w0 g'' w') h rfl
   fun top bot base k loc hn h=>vx_piece he hm h hn fun top bot base k loc hn h=>by
    intro g w a hH2 hE hX hD
    refine wpIn_seq ?_
    refine vx_piece he hm h hn (y:=.cond (.tmp q) (.seq R7 (.region id [mk,df].toArray false)) .skip) ?_ g w a hH2 hE hX hD
    rintro top bot base k loc hn ⟨hq,h⟩ g w a hH2 hE hX hD
    refine wpIn_cond_true ?_ ?_
    ·have:=hE.rel q
     rw [hq] at this
     simpa [VRel,Act.eval] using this
    refine vx_piece he hm h hn ?_ g w a hH2 hE hX hD
    rintro top bot base k loc hn ⟨as',has,h⟩ g w a hH2 hE hX hD
    refine wpIn_region_lit ?_
    have hst:=st_func (P:=P) (N:=⟨fn.ntmps,none⟩) (hp:=⟨base,k,loc⟩) (env:=trE H.length (top++bot)) (o:=mk) hmk
    obtain ⟨c,g',w',hr,hH',hv,hx'⟩:=hst g w a hH2 hE
    unfold wpListIn
    rw [if_pos (by unfold Region.wanted;rw [hmg])]
    refine opIn_value hr ?_
    rw [hmd]
    unfold wpListIn
    rw [if_pos (by unfold Region.wanted;rw [hdg])]
    have hE':=(hE.ext hx').put (v:=.clo (.func G) ([].map (ev (trE H.length (top++bot)))) (cs.map (ev (trE H.length (top++bot))))) ht hv
    rw [has] at hE'
    have h5:=hE'.rel t
    have hgt:get ((t,AV.clo (.func G) ([].map (ev (trE H.length (top++bot)))) as')::trE H.length (top++bot)) t=.clo (.func G) [] as':=by simp [get]
    rw [hgt] at h5
    simp only [VRel] at h5
    obtain ⟨-,cf,cc,hcv,hcf,hcc⟩:=h5
    have hex:(execOp (a.put (some t) c).eval df).run P w'=.ok (.defer { target:=.fn (.func G) cc,args:=cf }) w':=by
     simp [execOp,hdo,resolve,Deferred.ofValue,Act.eval,hcv,fnG]
    refine opIn_defer rfl hex ?_
    rw [hdd]
    show TAIL.wpIn (FR none) 0 P _ _ w'
    have hw:=wpC_sound he hm TAIL _ _ _ _ _ _ hn h g' w' { (a.put (some t) c) with defers:={ target:=.fn (.func G) cc,args:=cf }::a.defers } hH' ⟨hE'.1,hE'.rel,hE'.ro,hE'.glob⟩
    refine Code.wpIn_mono ?_ hw
    rintro e a3 w3 ⟨env',hp',g3,⟨top',bot',base2,k2,loc2,hap,rfl,hbl,hq⟩,hH3,hE3,hx3,hds3⟩
    cases e with
    | normal =>
      obtain ⟨B,loc3,hdf,hBl,hBlow,hR⟩:=DEnd.ex hq
      obtain ⟨rs1,e1,nd1,f1⟩:=hds3
      show LeavesInM (FR none) 0 P fn a3.tmps _ a3.defers .returning w3
      rw [e1]
      obtain ⟨x1,x2,x3⟩:=shutAll_ok nd1 (fun r hr=>⟨(f1 r hr).1,(f1 r hr).2.1⟩) hx3
      refine leaves_tail nd1 (fun r hr=>(f1 r hr).2.1) ?_
      have hH4:=(x3 _ hH3).of
      refine ⟨by simp,.inr ⟨FR_depth _ _,.func G,cc,G,cf++cc,rfl,by simp [invoke,callFunc,hg,hgn,hgb],fun _ _=>trivial,?_⟩⟩
      have hla:LRel g3 (shutAll rs1 w3) as' (cf++cc).toList:=by
       rw [Array.toList_append]
       have:=(LRel.ext x1 _ _ hcf).append (LRel.ext x1 _ _ hcc)
       simpa using this
      refine (hdf g3 (shutAll rs1 w3) (cf++cc) hH4 hla).mono ?_
      rintro e u' w5 ⟨g5,v,rfl,rfl,hH5,hx5⟩
      show LeavesInM (FR none) 0 P fn a3.tmps _ a.defers .returning w5
      have hX5:Ext g w g5 w5:=(hx'.trans x1).trans hx5
      obtain ⟨rs0,e0,nd0,f0⟩:=hD.ext hX5
      rw [e0,List.append_nil]
      obtain ⟨y1,y2,y3⟩:=shutAll_ok nd0 (fun r hr=>⟨(f0 r hr).1,(f0 r hr).2.1⟩) (hX.trans hX5)
      have hH6:=(y3 _ hH5).split
      refine leaves_marks nd0 (fun r hr=>(f0 r hr).2.1) ⟨.tuple #[],?_,.tup [],B,(g5.frz B.length loc3).cut H.length,.tuple #[],rfl,hR,HRel.frz hH6 hH hBl hBlow,?_,y1.frz.cut (by omega)⟩
      ·have:fn.results=#[]:=by
        have:=congrArg List.toArray hres
        simpa using this
       simp [results,this]
      ·simp [VRel,LRel]
    | exit i=>exact hq.elim
    | goto i=>exact hq.elim
    | ret=>exact hq.elim
    | panic i=>exact hq.elim
    | outgrown=>exact hq.elim
 have hE0:=argEnv_rel hl hN hH.glob
 refine key g0 w0 _ hH ?_ (Ext.refl g0 w0) (DRel.refl _ _ _ _)
 rw [List.append_nil,argRE_tr]
 exact hE0
end Go.Vsi
/-! text R22 -/
namespace Go.Vsi
theorem wkL_len:∀ {l l':List AV},WkL l l'→l.length=l'.length
 | [],[],_=>rfl
 | _::_,_::_,h=>congrArg (·+1) (wkL_len h.2)
 | [],_::_,h=>h.elim
 | _::_,[],h=>h.elim
structure RoundTW {σ:Type} (inv:σ→Prop) (ms:σ→Nat) (st:σ→RE) (lc:σ→Heap) (bk:RE) (n0:Nat) (base:Heap) (k:Nat) (t:Nat) (e:TypeId) (sz:Nat) (num:σ→Nat) (cl:σ→List AV) (m:Nat) (top bot:RE) (base':Heap) (loc':Heap):Prop where
 h:∃ s' x n l L,inv s'∧ms s'<m∧subR n0 top bot (st s')∧subR n0 top bot bk∧base'=base∧rget2 top bot t=some (.v (.sl (some (n0+x)) n l))∧n=num s'∧WkL l (cl s')∧k≤x∧lget loc' x=some (.tok e sz L)∧L=l.length∧(∃ ex,loc'=lc s'++ex)∧belowRE n0 (n0+k) (st s')∧belowH (n0+k) (lc s')∧belowL (n0+k) (cl s')
def roundTWQ {σ:Type} (inv:σ→Prop) (ms:σ→Nat) (st:σ→RE) (lc:σ→Heap) (bk:RE) (n0:Nat) (base:Heap) (k:Nat) (t:Nat) (e:TypeId) (sz:Nat) (num:σ→Nat) (cl:σ→List AV) (m:Nat) (Q:QR):QR:=fun x top bot base' k' loc'=>match x with
 | .normal=>RoundTW inv ms st lc bk n0 base k t e sz num cl m top bot base' loc'
 | x=>Q x top bot base' k' loc'
section
variable {P:Program} {N:FN} {n0:Nat} {T:TypeId→Option TI} {kn:TypeId→Nat}
theorem loop_TW [Glob] (he:Env0 P T kn) (hm:P.follows .mixedOrders=true) {σ:Type} (inv:σ→Prop) (ms:σ→Nat) (st:σ→RE) (lc:σ→Heap) (bk:RE) (s0:σ) (t:Nat) (e:TypeId) (sz:Nat) (num:σ→Nat) (cl:σ→List AV) {c:Code} {Q:QR} {top bot:RE} {base:Heap} {k:Nat} {loc:Heap}
  (hn:base.length=n0) (hcl:Closed base) (ts:List Nat) (hbk:pickO ts top bot=some bk) (h0:inv s0) (hst:subR n0 top bot (st s0)) (hloc:loc=lc s0) (hlen:∀ s,inv s→(lc s).length=k)
  (hv:rget2 top bot t=some (.v .nils)) (hnum:num s0=0) (hcl0:cl s0=[])
  (round:∀ s,inv s→wpC P kn T N n0 c (roundTWQ inv ms st lc bk n0 base k t e sz num cl (ms s) Q) ((t,.v (.sl (some (n0+k)) (num s) (cl s)))::st s) bk base (k+1) (lc s++[.tok e sz (cl s).length])):LoopN P kn T N n0 c Q top bot base k loc:=by
 refine ⟨?_⟩
 subst hloc hn
 intro g w a hH hE
 have hgn:g.n=base.length+k:=by rw [hH.n]
 have hbkb:∀ s v,rgetO bk s=some v→below (base.length+k) (tr base.length v):=by
  intro s v hv
  have h1:=rget2_get (n0:=base.length) (pickO_get hbk hv)
  have h2:=VRel.below _ _ (hE.rel s)
  rw [h1,hgn] at h2
  exact h2
 let tv:σ→RG:=fun s=>.v (.sl (some (base.length+k)) (num s) (cl s))
 let J:Nat→Act→World→Prop:=fun n a' w'=>∃ s g',inv s∧ms s=n∧HRel g' w' ⟨base,k+1,lc s++[.tok e sz (cl s).length]⟩∧ERel N g' w' (trE base.length (((t,tv s)::st s)++bk)) a'∧Ext g w g' w'∧DRel w a.defers g' w' a'.defers
 have hget:∀ (l bk:RE) (s:Nat),get (trE base.length (l++bk)) s=match rgetO l s with
   | some v=>tr base.length v
   | none=>match rgetO bk s with
     | some v=>tr base.length v
     | none=>.junk:=by
  intro l bk s
  rw [trE_append]
  cases hl:rgetO l s with
  | some v=>simp only;exact rgetO_get hl _
  | none =>
    simp only
    rw [rgetO_none hl]
    cases hb:rgetO bk s with
    | some v=>simp only;have:=rgetO_get (n0:=base.length) hb [];simpa using this
    | none=>simp only;have:=rgetO_none (n0:=base.length) hb [];simp only [List.append_nil] at this;rw [this];rfl
 have hgetT:∀ (s:σ) (u:Nat),get (trE base.length (((t,tv s)::st s)++bk)) u=if t=u then .sl (some (base.length+k)) (num s) (cl s) else get (trE base.length (st s++bk)) u:=by
  intro s u
  by_cases hu:t=u
  ·subst hu
   rw [if_pos rfl]
   simp only [List.cons_append,trE]
   rw [get_put_same]
   rfl
  ·rw [if_neg hu]
   simp only [List.cons_append,trE]
   rw [get_put_ne _ _ hu]
 -- the owner of the nil slice
 obtain ⟨g1,f1,f2,f3,f4⟩:=hH.nilTok e sz
 simp only at f3
 have hnil:VRel g1 w (.sl (some (base.length+k)) 0 []) (a.tmps.getD t undef):=by
  have h1:=hE.rel t
  rw [rget2_get hv] at h1
  simp only [tr,VRel] at h1
  rw [h1]
  simp only [VRel]
  refine ⟨none,0,rfl,Nat.le_refl _,.inl trivial,fun u hu=>?_⟩
  cases hu
  rw [← hgn]
  refine ⟨f1,by simp,fun _=>?_⟩
  rw [f2]
  simp
 refine LoopWp.inv (fun a' w'=>∃ n,J n a' w') (fun a' w'=>by classical exact if h:∃ n,J n a' w' then Classical.choose (least h) else 0) ⟨ms s0,s0,g1,h0,rfl,?_,⟨hE.1,fun s=>?_,fun i hi=>f4.ok i (hE.ro i hi),fun p hp=>MRel.ext f4 _ _ _ (hE.glob p hp)⟩,f4,DRel.refl _ _ _ _⟩ ?_
 ·rw [hcl0];exact f3
 ·rw [hgetT]
  by_cases hs:t=s
  ·subst hs
   rw [if_pos rfl,hnum,hcl0]
   exact hnil
  ·rw [if_neg hs,hget]
   cases hl:rgetO (st s0) s with
   | some v=>simp only;exact VRel.ext f4 _ _ (subR_get hst hl _ _ _ (hE.rel s))
   | none =>
     simp only
     cases hb:rgetO bk s with
     | some v=>simp only;rw [← rget2_get (n0:=base.length) (pickO_get hbk hb)];exact VRel.ext f4 _ _ (hE.rel s)
     | none=>simp [VRel]
 intro a1 w1 hex
 have hJ:=(Classical.choose_spec (least hex)).1
 obtain ⟨s1,g2,hI1,hms1,hH1,hE1,hx1,hd1⟩:=hJ
 have hr:=wpC_sound he hm c _ _ _ _ _ _ rfl (round s1 hI1) g2 w1 a1 hH1 hE1
 rw [hE.fo hx1] at hr
 refine Code.wpIn_mono ?_ hr
 rintro ex a2 w2 ⟨env2,hp2,g3,⟨top2,bot2,base2,k2,loc2,hap,rfl,hn2,q⟩,hH2,hE2,hx2,hd2⟩
 have other:ex≠.normal→Q ex top2 bot2 base2 k2 loc2→Lift N (LS base.length Q) g w a.defers ex a2 w2:=fun _ hq =>
  ⟨env2,_,g3,⟨top2,bot2,base2,k2,loc2,hap,rfl,hn2,hq⟩,hH2,hE2,hx1.trans hx2,hd1.trans hx2 hx1.size hd2⟩
 cases ex with
 | normal =>
   obtain ⟨s',x,n,l,L,hi',hms',hsub,hsb,rfl,hsl,rfl,hwl,hkx,hx,rfl,⟨lx,rfl⟩,hb1,hb2,hb3⟩:=q
   have hlc:=hlen s' hi'
   have hll:l.length=(cl s').length:=wkL_len hwl
   rw [hll] at hx
   have hcut:=hH2.cutLoc hlc hcl hb2
   have hxc:=(hx1.trans hx2).cut (n:=base2.length+k) (Nat.le_of_eq hgn)
   -- the block that the slice is cut from
   have hxat:(⟨base2,k2,lc s'++lx⟩:Hp).all[base2.length+x]? = some (.tok e sz (cl s').length):=at_loc hx
   obtain ⟨b1,b2,b3⟩:=hH2.rel _ _ hxat
   have hnc:(g3.cut (base2.length+k)).n=base2.length+k:=rfl
   obtain ⟨g4,p1,p2,p3,p4⟩:=hcut.newTok e sz (cl s').length (g3.tk (base2.length+x)) b1 b2 b3 (fun i B b hB hbb hloc=>by
    have hlt:i<(base2++lc s').length:=(List.getElem?_eq_some_iff.1 hB).1
    have hB2:(⟨base2,k2,lc s'++lx⟩:Hp).all[i]? = some B:=by
     have e0:(⟨base2,k2,lc s'++lx⟩:Hp).all=(base2++lc s')++lx:=by simp [Hp.all]
     rw [e0,List.getElem?_append_left hlt]
     exact hB
    have hl1:locs g3 i B=some b:=by rw [← hloc];cases B <;> rfl
    have:=hH2.inj i (base2.length+x) B _ b hB2 hxat hl1 (by simp only [locs];exact hbb)
    simp only [List.length_append,hlc] at hlt
    omega)
   rw [hnc] at p1 p2
   simp only at p3
   have hxe:=hxc.trans p4
   have hval:∀ v c,VRel g3 w2 v c→below (base2.length+k) v→VRel g4 w2 v c:=fun v c h1 h2=>VRel.ext p4 _ _ (VRel.cut _ _ h1 h2)
   have hE3:ERel N g4 w2 (trE base2.length (((t,tv s')::st s')++bk)) a2:=by
    refine ⟨hE2.1,fun s=>?_,fun i hi=>hxe.ok i (hE.ro i hi),fun p hp=>MRel.ext hxe _ _ _ (hE.glob p hp)⟩
    have h2:=hap s _ _ _ (hE2.rel s)
    rw [hgetT]
    by_cases hs:t=s
    ·subst hs
     rw [if_pos rfl]
     rw [rget2_get hsl] at h2
     simp only [tr,VRel] at h2 ⊢
     obtain ⟨A,cap,q1,q2,q3,q4⟩:=h2
     refine ⟨A,cap,q1,q2,?_,fun u hu=>?_⟩
     ·rcases q3 with q3|⟨b,o,q3,q5⟩
      ·exact .inl (List.length_eq_zero_iff.1 (by rw [← hll,q3];rfl))
      ·exact .inr ⟨b,o,q3,MRel.ext p4 _ _ _ (MRel.cut _ _ _ (hwl.mrel q5) hb3)⟩
     ·cases hu
      obtain ⟨u1,u2,u3⟩:=q4 _ rfl
      refine ⟨p1,?_,?_⟩
      ·rw [p2,← hll];exact u2
      ·rw [p2,← hll];exact u3
    ·rw [if_neg hs,hget]
     cases hl:rgetO (st s') s with
     | some v=>simp only;exact hval _ _ (subR_get hsub hl _ _ _ h2) (belowRE_get hb1 hl)
     | none =>
       simp only
       cases hb:rgetO bk s with
       | none=>simp [VRel]
       | some v=>simp only;exact hval _ _ (subR_get hsb hb _ _ _ h2) (hbkb s v hb)
   have hex2:∃ m,m<ms s1∧J m a2 w2:=by
    refine ⟨ms s',hms',s',g4,hi',rfl,p3,hE3,hxe,?_⟩
    obtain ⟨rs,d1,d2,d3⟩:=hd1.trans hx2 hx1.size hd2
    have hdc:DRel w a.defers (g3.cut (base2.length+k)) w2 a2.defers:=⟨rs,d1,d2,d3⟩
    exact hdc.ext p4
   obtain ⟨m,hmlt,hJm⟩:=hex2
   have hex2:∃ n,J n a2 w2:=⟨m,hJm⟩
   refine ⟨hex2,?_⟩
   simp only [hex,hex2,dif_pos]
   refine Nat.lt_of_le_of_lt ((Classical.choose_spec (least hex2)).2 m hJm) ?_
   rw [hms1] at hmlt
   exact hmlt
 | exit i=>exact other (by simp) q
 | goto l=>exact other (by simp) q
 | ret=>exact other (by simp) q
 | panic ch=>exact other (by simp) q
 | outgrown=>exact other (by simp) q
end
end Go.Vsi
/-! text R23 -/
namespace Go.Vsi
theorem HRel.frzVec [Glob] {g:G} {w:World} {base:Heap} {k:Nat} {loc:Heap} {i j o n:Nat} {bt e:TypeId} {sz:Nat} {l L:List AV} (h:HRel g w ⟨base,k,loc⟩)
  (hi:loc[i]? = some (.box bt L)) (ho:L[o]? = some (.vs (base.length+j) n)) (hj:loc[j]? = some (.vec e (sz+1) l)) (hl:l.length=n * (sz+1)) :
  ∃ g',HRel g' w ⟨base,k,(loc.set j .dead).set i (.box bt (L.set o (.sl none n l)))⟩∧Ext g w g' w:=by
 have hati:(⟨base,k,loc⟩:Hp).all[base.length+i]? = some (.box bt L):=at_loc (by rw [lget_eq];exact hi)
 have hatj:(⟨base,k,loc⟩:Hp).all[base.length+j]? = some (.vec e (sz+1) l):=at_loc (by rw [lget_eq];exact hj)
 have hij:i≠j:=fun e1=>by rw [e1,hj] at hi;cases hi
 let g':G:={ n:=g.n,blk:=g.blk,tk:=g.tk,own:=fun b o=>g.own b o∧(g.tk (base.length+j)).base≠some b,pend:=g.pend }
 have hx:Ext g w g' w:=⟨Nat.le_refl _,fun _ _ h=>h,fun _ h=>h,fun _ _=>rfl,fun _ _=>.inl rfl,fun _ _ _ h=>h.1,rfl,rfl,rfl,Nat.le_refl _,Nat.le_refl _,fun _ _ _=>rfl,fun _ cs _ _ h=>⟨cs,h,rfl,fun _ _=>rfl⟩⟩
 have key:∀ (q:Nat) (B:Blk),(⟨base,k,(loc.set j .dead).set i (.box bt (L.set o (.sl none n l)))⟩:Hp).all[q]? = some B→(q=base.length+i∧B=.box bt (L.set o (.sl none n l)))∨(q=base.length+j∧B=.dead)∨(q≠base.length+i∧q≠base.length+j∧(⟨base,k,loc⟩:Hp).all[q]? = some B):=by
  intro q B hq
  unfold Hp.all at hq ⊢
  simp only at hq ⊢
  rcases Nat.lt_or_ge q base.length with hlt|hge
  ·rw [List.getElem?_append_left hlt] at hq ⊢
   exact .inr (.inr ⟨by omega,by omega,hq⟩)
  ·rw [List.getElem?_append_right hge] at hq ⊢
   rw [List.getElem?_set] at hq
   split at hq
   ·rename_i e1
    split at hq
    ·cases hq;exact .inl ⟨by omega,rfl⟩
    ·cases hq
   ·rename_i e1
    rw [List.getElem?_set] at hq
    split at hq
    ·rename_i e2
     split at hq
     ·cases hq;exact .inr (.inl ⟨by omega,rfl⟩)
     ·cases hq
    ·rename_i e2
     exact .inr (.inr ⟨by omega,by omega,hq⟩)
 have hown:∀ (q:Nat) (B:Blk),q≠base.length+j→(⟨base,k,loc⟩:Hp).all[q]? = some B→∀ b o,locs g q B=some b→g.own b o→g'.own b o:=by
  intro q B hne hq b o hb hgo
  refine ⟨hgo,fun hbj=>hne ?_⟩
  exact h.inj q _ B _ b hq hatj hb (by simpa only [locs] using hbj)
 refine ⟨g',⟨h.n,by simpa using h.k,fun q B hq=>?_,fun b o hb=>h.lt b o hb.1,fun q hq=>?_,fun q1 q2 B C b h1 h2 hb hc=>?_,fun pp hpp=>MRel.ext hx _ _ _ (h.glob pp hpp)⟩,hx⟩
 ·rcases key q B hq with ⟨rfl,rfl⟩|⟨rfl,rfl⟩|⟨hne1,hne2,h'⟩
  ·obtain ⟨cs,h1,h2,h3⟩:=h.rel _ _ hati
   refine ⟨cs,h1,?_,fun oo=>hown _ _ (by omega) hati _ oo rfl (h3 oo)⟩
   refine LRel.mk (by simp [h2.length]) fun q v c hv hc=>?_
   rw [List.getElem?_set] at hv
   by_cases hoq:o=q
   ·subst hoq
    simp only [if_true] at hv
    split at hv
    ·cases hv
     obtain ⟨c',q1,q2⟩:=h2.get ho
     rw [q1] at hc
     cases hc
     simp only [VRel] at q2 ⊢
     obtain ⟨-,-,A,cap,rfl,hcap,hA⟩:=q2
     obtain ⟨b1,b2,b3⟩:=h.rel _ _ hatj
     refine ⟨A,cap,rfl,hcap,?_,fun t e1=>by cases e1⟩
     rcases b3 with ⟨-,hnil,-⟩|⟨b,ds,p1,p2,p3,p4,p5,p6,p7⟩
     ·exact .inl hnil
     ·obtain ⟨hA1,-⟩:=hA (by rw [b1,b2];exact hl)
      refine .inr ⟨b,0,by rw [hA1,p1];rfl,MRel.mk fun q v hv=>?_⟩
      obtain ⟨c,r1,r2⟩:=p6.get hv
      rw [List.getElem?_take] at r1
      split at r1
      ·refine ⟨c,?_,VRel.ext hx _ _ r2,fun hh=>hh.2 p1⟩
       rw [Nat.zero_add]
       exact cell_iff.2 ⟨ds,e,_,p2,by simpa using r1⟩
      ·cases r1
    ·cases hv
   ·rw [if_neg hoq] at hv
    obtain ⟨c',q1,q2⟩:=h2.get hv
    rw [q1] at hc;cases hc
    exact VRel.ext hx _ _ q2
  ·trivial
  ·exact (h.rel q B h').keep hx (at_ok h h') (fun _ _=>rfl) rfl (hown q B hne2 h')
 ·have hd:=h.pend q hq
  have hq1:q≠base.length+i:=fun e1=>by rw [e1,hati] at hd;cases hd
  have hq2:q≠base.length+j:=fun e1=>by rw [e1,hatj] at hd;cases hd
  unfold Hp.all at hd ⊢
  simp only at hd ⊢
  rcases Nat.lt_or_ge q base.length with hlt|hge
  ·rw [List.getElem?_append_left hlt] at hd ⊢
   exact hd
  ·rw [List.getElem?_append_right hge] at hd ⊢
   rw [List.getElem?_set,if_neg (by omega),List.getElem?_set,if_neg (by omega)]
   exact hd
 ·have key2:∀ (q:Nat) (B:Blk),(⟨base,k,(loc.set j .dead).set i (.box bt (L.set o (.sl none n l)))⟩:Hp).all[q]? = some B→∀ b,locs g' q B=some b→∃ B',(⟨base,k,loc⟩:Hp).all[q]? = some B'∧locs g q B'=some b:=by
   intro q B hq b hb
   rcases key q B hq with ⟨rfl,rfl⟩|⟨rfl,rfl⟩|⟨-,-,h'⟩
   ·exact ⟨_,hati,hb⟩
   ·cases hb
   ·refine ⟨B,h',?_⟩
    cases B <;> exact hb
  obtain ⟨B',p1,p2⟩:=key2 q1 B h1 b hb
  obtain ⟨C',p3,p4⟩:=key2 q2 C h2 b hc
  exact h.inj q1 q2 B' C' b p1 p3 p2 p4
section
variable {P:Program} {N:FN} {n0:Nat} {T:TypeId→Option TI} {kn:TypeId→Nat}
theorem LoopN.frzVec [Glob] (i j o n:Nat) (e:TypeId) (sz:Nat) (l:List AV) {c:Code} {Q:QR} {top bot:RE} {base:Heap} {k:Nat} {loc loc1 loc':Heap} {bt:TypeId} {L L':List AV} (hn:base.length=n0)
  (hb:lget loc i=some (.box bt L)) (hv:lget L o=some (.vs (n0+j) n)) (hj:lget loc j=some (.vec e (sz+1) l)) (hl:l.length=n * (sz+1))
  (hs:lset L o (.sl none n l)=some L') (h1:lset loc j .dead=some loc1) (h2:lset loc1 i (.box bt L')=some loc')
  (h:LoopN P kn T N n0 c Q top bot base k loc'):LoopN P kn T N n0 c Q top bot base k loc:=by
 refine ⟨fun g w a hH hE=>?_⟩
 obtain ⟨e1,-⟩:=lset_eq _ _ _ _ hs
 obtain ⟨e2,-⟩:=lset_eq _ _ _ _ h1
 obtain ⟨e3,-⟩:=lset_eq _ _ _ _ h2
 subst e1
 subst e2
 subst e3
 subst hn
 rw [lget_eq] at hb hv hj
 obtain ⟨g1,f3,f4⟩:=hH.frzVec hb hv hj hl
 rw [← hE.fo f4]
 exact LoopWp.mono (h.h g1 w a f3 (hE.ext f4)) (fun _ _ _ hl=>Lift.of_later f4 (DRel.refl _ _ _ _) hl)
theorem CallD.setWL [Glob] {base loc:Heap} {W:List Nat} {F:FuncId} {as:List AV} {loc0 b1:Heap} {K:AV→Prop} {K3 K4:AV→Heap→Nat→Heap→Prop} (j:Nat) (B:Blk) (v:AV) (loc2:Heap) (hj:inW W j=true) (hs:lset loc j B=some loc2) (hn:b1.length=n0) (h:VCall P F as (b1++loc) (setR (b1++loc) (b1.length+j) B v)) (a:K4 v b1 0 loc2):CallD W P (.func F) as n0 base loc0 b1 loc K K3 K4 :=
 .setW j B v loc2 hj hs (VCall.mono h fun r H' hr=>by
  obtain ⟨rfl,rfl⟩:=hr
  exact ⟨rfl,by rw [(lset_eq _ _ _ _ hs).1,set_loc']⟩) hn a
end
end Go.Vsi
/-! text R24 -/
namespace Go.Vsi
class Cst (x:Int) (n:outParam Nat):Prop where
 h:x=(n:Int)
instance cstN (n:Nat):Cst ((n:Nat):Int) n:=⟨rfl⟩
instance:Cst 0 0:=⟨rfl⟩
instance:Cst 1 1:=⟨rfl⟩
instance:Cst 2 2:=⟨rfl⟩
instance:Cst 3 3:=⟨rfl⟩
instance:Cst 4 4:=⟨rfl⟩
instance:Cst 5 5:=⟨rfl⟩
instance:Cst 6 6:=⟨rfl⟩
instance:Cst 7 7:=⟨rfl⟩
instance:Cst 8 8:=⟨rfl⟩
instance:Cst 14 14:=⟨rfl⟩
instance:Cst 15 15:=⟨rfl⟩
instance:Cst 25 25:=⟨rfl⟩
instance:Cst 30 30:=⟨rfl⟩
instance:Cst 31 31:=⟨rfl⟩
end Go.Vsi
/-! text R25 -/
namespace Go.Vsi
end Go.Vsi
