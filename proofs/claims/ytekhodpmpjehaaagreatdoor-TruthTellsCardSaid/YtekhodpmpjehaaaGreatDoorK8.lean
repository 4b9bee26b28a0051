/- A text of the proof: the parts SG10y, SH10y, SI10y, SJ10y, Y10y, SK10y, SL10y, SM10y, SN10y, SO10y, SP10y, A10y, J10y, N10y, Q10y, RA10y, RB10y, RC10y, RD10y, SQ10y, SR10y, RE10y, RF10y, RG10y, SS10y, ST10y, RH10y, RI10y, RJ10y, RL10y, RO10y, BA10y. -/
import Derived.Shelf.SlIter.Nil
import Derived.Shelf.SortM.Plain
import Derived.Shelf.SortM.SortNone
import Derived.Shelf.Spec.SlicesGrow
import Derived.Test.YtekhodpmpjehaaaGreatDoorK7
set_option linter.unusedSimpArgs false
set_option linter.unusedVariables false
set_option maxHeartbeats 8000000
namespace Go.Proofs.YtekhodpmpjehaaaGreatDoor
open Go.Vsi
section
def inR (a b:Nat) (c:UInt8):Bool:=decide (a≤c.toNat)&&decide (c.toNat≤b)
def isCap:UInt8→Bool:=inR 65 90
def isSml:UInt8→Bool:=inR 97 122
def isDig:UInt8→Bool:=inR 48 57
def isAln (c:UInt8):Bool:=isSml c || (isCap c || isDig c)
def isVa1:UInt8→Bool:=inR 117 122
def isFu1:UInt8→Bool:=inR 97 116
def wordE (s:ByteArray) (l:Array UInt8):Bool:=s.toList==(ByteArray.mk l).toList
def isRes (s:ByteArray):Bool:=wordE s #[97,108,108] || (wordE s #[115,111,109,101] || (wordE s #[102,97,108,115,101] || (wordE s #[110,101,120,116] || (wordE s #[97,108,119,97,121,115] || wordE s #[117,110,116,105,108]))))
def bt (s:ByteArray) (i:Nat):UInt8:=s.data.toList.getD i 0
def nameB (p q:UInt8→Bool) (s:ByteArray):Bool:=decide (1≤s.size∧s.size≤16)&&(!isRes s&&(p (bt s 0)&&(List.range' 1 (s.size-1)).all fun i=>q (bt s i)))
def zd1:ByteArray→Bool:=nameB isCap isAln
def isVar:ByteArray→Bool:=nameB isVa1 isDig
def isFun:ByteArray→Bool:=nameB isFu1 isAln
theorem bt_get (s:ByteArray) (i:Nat) (h:i<s.size) (j:Int) (hj:j=i):s[j.toNat]? = some (bt s i):=by
 subst hj
 rw [Int.toNat_natCast]
 have h2:i<s.data.toList.length:=by simpa using h
 have:s[i]? = s.data[i]? := by
  rw [getElem?_pos s i h]
  rw [Array.getElem?_eq_getElem (show i<s.data.size from h)]
  rfl
 rw [this]
 unfold bt
 rw [List.getD_eq_getElem?_getD,List.getElem?_eq_getElem h2]
 simp
attribute [local irreducible] VW VCall VO
def CharC (F:Nat) (p:UInt8→Bool):Prop:=∀ (c:UInt8) (H:Heap),VDet Tryz.prog F [.int .u8 c.toNat] H (.bool (p c))
theorem capital_g:CharC 104 isCap:=by
 intro c H
 refine fdD Tryz.func104 ⟨rfl,rfl,rfl⟩ fun hcl hbl=>?_
 (repeat' ((conv=>whnf);(first|refine za9 (fun _=>?_) (fun _=>?_)|fail)));all_goals (conv=>whnf)
 all_goals (refine EndN.det trivial (zab (congrArg AV.bool (Bool.eq_iff_iff.2 ?_)));simp only [isCap,inR,Bool.and_eq_true,decide_eq_true_eq,Bool.false_eq_true,false_iff];omega)
theorem small_g:CharC 128 isSml:=by
 intro c H
 refine fdD Tryz.func128 ⟨rfl,rfl,rfl⟩ fun hcl hbl=>?_
 (repeat' ((conv=>whnf);(first|refine za9 (fun _=>?_) (fun _=>?_)|fail)));all_goals (conv=>whnf)
 all_goals (refine EndN.det trivial (zab (congrArg AV.bool (Bool.eq_iff_iff.2 ?_)));simp only [isSml,inR,Bool.and_eq_true,decide_eq_true_eq,Bool.false_eq_true,false_iff];omega)
theorem digit_g:CharC 129 isDig:=by
 intro c H
 refine fdD Tryz.func129 ⟨rfl,rfl,rfl⟩ fun hcl hbl=>?_
 (repeat' ((conv=>whnf);(first|refine za9 (fun _=>?_) (fun _=>?_)|fail)));all_goals (conv=>whnf)
 all_goals (refine EndN.det trivial (zab (congrArg AV.bool (Bool.eq_iff_iff.2 ?_)));simp only [isDig,inR,Bool.and_eq_true,decide_eq_true_eq,Bool.false_eq_true,false_iff];omega)
theorem va1_g:CharC 146 isVa1:=by
 intro c H
 refine fdD Tryz.func146 ⟨rfl,rfl,rfl⟩ fun hcl hbl=>?_
 (repeat' ((conv=>whnf);(first|refine za9 (fun _=>?_) (fun _=>?_)|fail)));all_goals (conv=>whnf)
 all_goals (refine EndN.det trivial (zab (congrArg AV.bool (Bool.eq_iff_iff.2 ?_)));simp only [isVa1,inR,Bool.and_eq_true,decide_eq_true_eq,Bool.false_eq_true,false_iff];omega)
theorem fu1_g:CharC 151 isFu1:=by
 intro c H
 refine fdD Tryz.func151 ⟨rfl,rfl,rfl⟩ fun hcl hbl=>?_
 (repeat' ((conv=>whnf);(first|refine za9 (fun _=>?_) (fun _=>?_)|fail)));all_goals (conv=>whnf)
 all_goals (refine EndN.det trivial (zab (congrArg AV.bool (Bool.eq_iff_iff.2 ?_)));simp only [isFu1,inR,Bool.and_eq_true,decide_eq_true_eq,Bool.false_eq_true,false_iff];omega)
theorem alnum_g:CharC 105 isAln:=by
 intro c H
 have h1:=small_g c
 have h2:=capital_g c
 have h3:=digit_g c
 unfold isAln
 generalize isSml c=a at *
 generalize isCap c=b at *
 generalize isDig c=d at *
 refine fdD Tryz.func105 ⟨rfl,rfl,rfl⟩ fun hcl hbl=>?_
 (repeat' ((conv=>whnf);(first|(refine IfN.mk ?_ ?_ <;> intro _)|(refine CallN.id ?_;first|refine CallN.det _ (h1 _) ?_|refine CallN.det _ (h2 _) ?_|refine CallN.det _ (h3 _) ?_|fail)|fail)));all_goals (conv=>whnf)
 all_goals exact EndN.det trivial (zab (by simp_all))
theorem reserved_g (s:ByteArray) (H:Heap):VDet Tryz.prog 127 [.str s] H (.bool (isRes s)):=by
 unfold isRes
 have e1:(s.toList==(ByteArray.mk #[97,108,108]).toList)=wordE s #[97,108,108]:=rfl
 have e2:(s.toList==(ByteArray.mk #[115,111,109,101]).toList)=wordE s #[115,111,109,101]:=rfl
 have e3:(s.toList==(ByteArray.mk #[102,97,108,115,101]).toList)=wordE s #[102,97,108,115,101]:=rfl
 have e4:(s.toList==(ByteArray.mk #[110,101,120,116]).toList)=wordE s #[110,101,120,116]:=rfl
 have e5:(s.toList==(ByteArray.mk #[97,108,119,97,121,115]).toList)=wordE s #[97,108,119,97,121,115]:=rfl
 have e6:(s.toList==(ByteArray.mk #[117,110,116,105,108]).toList)=wordE s #[117,110,116,105,108]:=rfl
 generalize wordE s #[97,108,108]=b1 at *
 generalize wordE s #[115,111,109,101]=b2 at *
 generalize wordE s #[102,97,108,115,101]=b3 at *
 generalize wordE s #[110,101,120,116]=b4 at *
 generalize wordE s #[97,108,119,97,121,115]=b5 at *
 generalize wordE s #[117,110,116,105,108]=b6 at *
 cases b1
 ·cases b2
  ·cases b3
   ·cases b4
    ·cases b5
     ·cases b6
      ·refine fdD Tryz.func127 ⟨rfl,rfl,rfl⟩ fun hcl hbl=>?_
       (repeat' ((conv=>whnf);(first|(refine IfN.id ?_;first|refine IfN.ff e1 ?_|refine IfN.ff e2 ?_|refine IfN.ff e3 ?_|refine IfN.ff e4 ?_|refine IfN.ff e5 ?_|refine IfN.ff e6 ?_|fail)|fail)));conv=>whnf
       exact eT trivial
      ·refine fdD Tryz.func127 ⟨rfl,rfl,rfl⟩ fun hcl hbl=>?_
       (repeat' ((conv=>whnf);(first|(refine IfN.id ?_;first|refine IfN.ff e1 ?_|refine IfN.ff e2 ?_|refine IfN.ff e3 ?_|refine IfN.ff e4 ?_|refine IfN.ff e5 ?_|refine IfN.tt e6 ?_|fail)|fail)));conv=>whnf
       exact eT trivial
     ·refine fdD Tryz.func127 ⟨rfl,rfl,rfl⟩ fun hcl hbl=>?_
      (repeat' ((conv=>whnf);(first|(refine IfN.id ?_;first|refine IfN.ff e1 ?_|refine IfN.ff e2 ?_|refine IfN.ff e3 ?_|refine IfN.ff e4 ?_|refine IfN.tt e5 ?_|fail)|fail)));conv=>whnf
      exact eT trivial
    ·refine fdD Tryz.func127 ⟨rfl,rfl,rfl⟩ fun hcl hbl=>?_
     (repeat' ((conv=>whnf);(first|(refine IfN.id ?_;first|refine IfN.ff e1 ?_|refine IfN.ff e2 ?_|refine IfN.ff e3 ?_|refine IfN.tt e4 ?_|fail)|fail)));conv=>whnf
     exact eT trivial
   ·refine fdD Tryz.func127 ⟨rfl,rfl,rfl⟩ fun hcl hbl=>?_
    (repeat' ((conv=>whnf);(first|(refine IfN.id ?_;first|refine IfN.ff e1 ?_|refine IfN.ff e2 ?_|refine IfN.tt e3 ?_|fail)|fail)));conv=>whnf
    exact eT trivial
  ·refine fdD Tryz.func127 ⟨rfl,rfl,rfl⟩ fun hcl hbl=>?_
   (repeat' ((conv=>whnf);(first|(refine IfN.id ?_;first|refine IfN.ff e1 ?_|refine IfN.tt e2 ?_|fail)|fail)));conv=>whnf
   exact eT trivial
 ·refine fdD Tryz.func127 ⟨rfl,rfl,rfl⟩ fun hcl hbl=>?_
  (repeat' ((conv=>whnf);(first|refine IfN.tt e1 ?_|fail)));conv=>whnf
  exact eT trivial
theorem check_g (F1 F2:Nat) (p q:UInt8→Bool) (h1:CharC F1 p) (h2:CharC F2 q) (s:ByteArray) (hs:s.size≤9223372036854775807) (H:Heap):VDet Tryz.prog 126 [.str s,.rptr [.clo (.func F1) [] []],.rptr [.clo (.func F2) [] []]] H (.bool (nameB p q s)):=by
 have hr:=reserved_g s
 unfold nameB
 by_cases h0:1≤s.size∧s.size≤16
 ·rw [decide_eq_true h0,Bool.true_and]
  have hb0:=bt_get s 0 (by omega) 0 rfl
  have hp:=h1 (bt s 0)
  generalize isRes s=r at *
  cases r with
  | true =>
    refine fdD Tryz.func126 ⟨rfl,rfl,rfl⟩ fun hcl hbl=>?_
    (repeat' ((conv=>whnf);(first|(refine IfN.id ?_;first|refine IfN.tt rfl ?_|refine zaj (by omega) ?_|fail)|refine SideN.mk (by kernel_rfl) ?_|refine CallD.det _ (fun _ hq X=>hr _) ?_|refine zap [] ?_|fail)));conv=>whnf
    exact eT trivial
  | false =>
    cases hpb:p (bt s 0) with
    | false =>
      rw [hpb] at hp
      refine fdD Tryz.func126 ⟨rfl,rfl,rfl⟩ fun hcl hbl=>?_
      (repeat' ((conv=>whnf);(first|(refine IfN.id ?_;first|refine IfN.not ?_|refine IfN.ff rfl ?_|refine zaj (by omega) ?_|fail)|(refine SideN.mk ?_ ?_;· first|kernel_rfl|omega|fail)|(refine CallD.id ?_;first|refine CallD.det _ (fun _ hq X=>hr _) ?_|refine CallD.det _ (fun _ hq X=>hp _) ?_|fail)|refine ByteN.mk _ hb0 ?_|refine zap [] ?_|fail)));conv=>whnf
      exact eT trivial
    | true =>
      rw [hpb] at hp
      refine fdD Tryz.func126 ⟨rfl,rfl,rfl⟩ fun hcl hbl=>?_
      (repeat' ((conv=>whnf);(first|(refine IfN.id ?_;first|refine IfN.not ?_|refine IfN.tt rfl ?_|refine IfN.ff rfl ?_|refine zaj (by omega) ?_|fail)|(refine SideN.mk ?_ ?_;· first|kernel_rfl|omega|fail)|(refine CallD.id ?_;first|refine CallD.det _ (fun _ hq X=>hr _) ?_|refine CallD.det _ (fun _ hq X=>hp _) ?_|fail)|refine ByteN.mk _ hb0 ?_|refine zap [] ?_|fail)));conv=>whnf
      refine zau Tryz.E0 zak (σ:=Nat) (fun k=>1≤k∧k≤s.size∧∀ i,1≤i→i<k→q (bt s i)=true) (fun k=>s.size-k) (fun k=>[(5,.v (.int .i64 k))]) (fun _=>[]) _ 1 rfl hcl [0,2] rfl ⟨Nat.le_refl _,by omega,fun i h1 h2=>by omega⟩ ⟨⟨_,rfl,Wk.refl _⟩,trivial⟩ rfl (fun _ _=>rfl) ?_
      rintro k ⟨hk1,hk,hall⟩
      clear hbl
      by_cases hlt:k<s.size
      ·have hbk:=bt_get s k hlt k rfl
       have hcq:=h2 (bt s k)
       cases hqb:q (bt s k) with
       | true =>
         rw [hqb] at hcq
         (repeat' ((conv=>whnf);(first|(refine IfN.id ?_;first|refine IfN.not ?_|refine IfN.tt rfl ?_|refine IfN.dT (by omega) ?_|fail)|(refine zad _ _ Cst.h Cst.h ?_ ?_;· omega)|(refine SideN.mk ?_ ?_;· first|kernel_rfl|omega|fail)|refine CallD.det _ (fun _ hq X=>hcq _) ?_|refine ByteN.mk _ hbk ?_|refine zap [] ?_|fail)));conv=>whnf
         (refine ⟨⟨k+1,⟨by omega,by omega,fun i h3 h4=>by
          by_cases e:i=k
          ·rw [e];exact hqb
          ·exact hall i h3 (by omega)⟩,by omega,?_,.inl ⟨rfl,rfl⟩,rfl,_,rfl,?_⟩⟩;rotate_left 1;exact .inl rfl;exact ⟨⟨_,rfl,Wk.refl _⟩,trivial⟩)
       | false =>
         rw [hqb] at hcq
         (repeat' ((conv=>whnf);(first|(refine IfN.id ?_;first|refine IfN.not ?_|refine IfN.ff rfl ?_|refine IfN.dT (by omega) ?_|fail)|(refine SideN.mk ?_ ?_;· first|kernel_rfl|omega|fail)|refine CallD.det _ (fun _ hq X=>hcq _) ?_|refine ByteN.mk _ hbk ?_|refine zap [] ?_|fail)));conv=>whnf
         refine EndN.det trivial (zab ?_)
         have:((List.range' 1 (s.size-1)).all fun i=>q (bt s i))=false:=by
          apply Bool.eq_false_iff.2
          intro hA
          have:=List.all_eq_true.1 hA k (List.mem_range'.2 ⟨k-1,by omega,by omega⟩)
          rw [hqb] at this
          cases this
         rw [this]
         rfl
      ·have:((List.range' 1 (s.size-1)).all fun i=>q (bt s i))=true:=by
        rw [List.all_eq_true]
        intro i hi
        obtain ⟨j,hj,rfl⟩:=List.mem_range'.1 hi
        exact hall _ (by omega) (by omega)
       rw [this]
       (repeat' ((conv=>whnf);(first|refine zaj (by omega) ?_|fail)));conv=>whnf
       exact eT trivial
 ·rw [decide_eq_false h0,Bool.false_and]
  refine fdD Tryz.func126 ⟨rfl,rfl,rfl⟩ fun hcl hbl=>?_
  (repeat' ((conv=>whnf);(first|(refine IfN.id ?_;first|refine IfN.dT (by omega) ?_|refine za9 (fun _=>?_) (fun _=>?_)|fail)|refine SideN.mk (by kernel_rfl) ?_|refine zap [] ?_|fail)));all_goals (conv=>whnf)
  all_goals exact eT trivial
end
section
def jB (L:Int):Blk:=.box 121 [.bool false,.int .i64 L,.int .i64 40]
theorem zfz (L:Int) (n:Nat):(jB L).below n:=by simp [jB,Blk.below,zae,below]
mutual
def jT (d:Nat):Tm→Int→Int×Bool
 | .mk v s l,L=>if ¬ (1≤L∧d≤40) then (L-1,false) else if v then (L-1,decide (l.length=0)&&isVar s) else if l.length≤4∧isFun s=true then jTs (d+1) l (L-1) else (L-1,false)
def jTs (d:Nat):List Tm→Int→Int×Bool
 | [],L=>(L,true)
 | x::l,L=>match jT d x L with
   | (M,true)=>jTs d l M
   | (M,false)=>(M,false)
end
mutual
theorem jT_bd (d:Nat):∀ (x:Tm) (L:Int),0≤L→-1≤(jT d x L).1∧(jT d x L).1≤L∧((jT d x L).2=true→0≤(jT d x L).1)
 | .mk v s l,L,h=>by
   unfold jT
   split
   ·exact ⟨by simp only;omega,by simp only;omega,fun h=>by cases h⟩
   ·split
    ·exact ⟨by simp only;omega,by simp only;omega,fun _=>by simp only;omega⟩
    ·split
     ·have:=jTs_bd (d+1) l (L-1) (by omega)
      exact ⟨this.1,by omega,this.2.2⟩
     ·exact ⟨by simp only;omega,by simp only;omega,fun h=>by cases h⟩
theorem jTs_bd (d:Nat):∀ (l:List Tm) (L:Int),0≤L→-1≤(jTs d l L).1∧(jTs d l L).1≤L∧((jTs d l L).2=true→0≤(jTs d l L).1)
 | [],L,h=>by unfold jTs;exact ⟨by simp only;omega,by simp only;omega,fun _=>h⟩
 | x::l,L,h=>by
   have h1:=jT_bd d x L h
   unfold jTs
   split
   ·rename_i M hM
    rw [hM] at h1
    have h2:=jTs_bd d l M (h1.2.2 rfl)
    exact ⟨h2.1,by have:=h1.2.1;simp only at this;omega,h2.2.2⟩
   ·rename_i M hM
    rw [hM] at h1
    exact ⟨h1.1,h1.2.1,fun h=>by cases h⟩
end
theorem zah {α:Type} {f:α→List AV} {sz:Nat} {l:List α} {i:Int} {k:List AV→Prop} {c:List AV} (d:α) (m:Nat) (hi:i=m) (hm:m<l.length) (hsz:∀ x,(f x).length=sz) (e:f (l.getD m d)=c) (h:k c):SegN (l.flatMap f) (i.toNat * sz) k :=
 zba d m hi hm hsz (e▸h)
theorem zcb:∀ x:Tm,x.cells.length=3
 | .mk v s l=>by rw [zbb];rfl
theorem set_self {H:Heap} {i:Nat} {B:Blk} (h:H[i]? = some B):H.set i B=H:=by
 apply List.ext_getElem?
 intro j
 rw [List.getElem?_set]
 split
 ·rename_i e
  subst e
  split
  ·exact h.symm
  ·rename_i hlt
   rw [List.getElem?_eq_none (by omega)] at h
   cases h
 ·rfl
theorem zek {H:Heap} (h:zf8 H) (i:Nat) (B:Blk) (hB:B.below H.length):zf8 (H.set i B):=by
 intro j C hj
 rw [List.length_set]
 rw [List.getElem?_set] at hj
 split at hj
 ·split at hj
  ·cases hj;exact hB
  ·cases hj
 ·exact h j C hj
theorem zfo {α:Type} (l:List α) (k:Nat) (d:α) (h:k<l.length):l.drop k=l.getD k d::l.drop (k+1):=by
 rw [List.drop_eq_getElem_cons h]
 simp [List.getD_eq_getElem?_getD,List.getElem?_eq_getElem h]
theorem zam {α:Type} (l:List α) (k:Nat) (d:α) (h:k<l.length):l.getD k d∈l:=by
 rw [show l.getD k d=l[k] by simp [List.getD_eq_getElem?_getD,List.getElem?_eq_getElem h]]
 exact List.getElem_mem h
theorem jTs_nil (d:Nat) (L:Int):jTs d [] L=(L,true):=by unfold jTs;rfl
theorem jTs_cons (d:Nat) (x:Tm) (l:List Tm) (L:Int):jTs d (x::l) L=if (jT d x L).2 then jTs d l (jT d x L).1 else ((jT d x L).1,false):=by
 rw [jTs.eq_def]
 simp only
 split
 ·rename_i M h;rw [h];rfl
 ·rename_i M h;rw [h];rfl
attribute [local irreducible] VW VCall VO bits
theorem node_g (H:Heap) (i:Nat) (L:Int) (d:Nat) (hi:H[i]? = some (jB L)) (hL:0≤L∧L≤400) (hd:d≤41):VCall Tryz.prog 106 [.ptr i 0,.int .i64 d] H (setR H i (jB (L-1)) (.bool (decide (1≤L∧d≤40)))):=by
 unfold jB at hi ⊢
 by_cases h:1≤L∧d≤40
 ·rw [decide_eq_true h]
  refine fdG Tryz.func106 ⟨rfl,rfl,rfl⟩ fun hcl hbl=>?_
  (repeat' ((conv=>whnf);(first|refine IfN.dT (by omega) ?_|refine EqN.i64 (by omega) ?_|refine SetN.mk _ rfl ?_|refine PtrN.base _ (by (repeat' (first|assumption|exact zgk _ rfl|exact zdf rfl|refine zcq (B':=?_) ?_|refine zca ?_|fail))) ?_|fail)));conv=>whnf
  all_goals exact za6 (by simp [Blk.below,zae,below]) trivial (zab (by simp;try omega))
 ·rw [decide_eq_false h]
  refine fdG Tryz.func106 ⟨rfl,rfl,rfl⟩ fun hcl hbl=>?_
  (repeat' ((conv=>whnf);(first|refine za9 (fun _=>?_) (fun _=>?_)|refine EqN.i64 (by omega) ?_|refine SetN.mk _ rfl ?_|refine PtrN.base _ (by (repeat' (first|assumption|exact zgk _ rfl|exact zdf rfl|refine zcq (B':=?_) ?_|refine zca ?_|fail))) ?_|fail)));all_goals (conv=>whnf)
  all_goals exact za6 (by simp [Blk.below,zae,below]) trivial (zab (by simp;try omega))
def TermP (x:Tm):Prop:=∀ (H:Heap) (i:Nat) (L:Int) (d:Nat),H[i]? = some (jB L)→0≤L∧L≤400→d≤41→VCall Tryz.prog 133 [.ptr i 0,.agg x.cells,.int .i64 d] H (setR H i (jB (jT d x L).1) (.bool (jT d x L).2))
def TermsP (l:List Tm):Prop:=∀ (H:Heap) (i:Nat) (L:Int) (d:Nat),H[i]? = some (jB L)→0≤L∧L≤400→d≤41→VCall Tryz.prog 109 [.ptr i 0,.sl none l.length (l.flatMap Tm.cells),.int .i64 d] H (setR H i (jB (jTs d l L).1) (.bool (jTs d l L).2))
theorem terms_g (l:List Tm) (hlen:l.length≤9223372036854775807) (hl:∀ x∈l,TermP x):TermsP l:=by
 intro H i L d hi hL hd
 refine fdG Tryz.func109 ⟨rfl,rfl,rfl⟩ fun hcl hbl=>?_
 conv=>whnf
 refine loop_B Tryz.E0 zak (σ:=Nat×Int) (fun p=>p.1≤l.length∧(0≤p.2∧p.2≤400)∧jTs d l L=jTs d (l.drop p.1) p.2) (fun p=>l.length-p.1) (fun p=>[(11,.v (.int .i64 p.1))]) (fun p=>H.set i (jB p.2)) (fun _=>[]) _ (0,L) (fun p _=>by simp) (fun p _=>zek hcl i _ (zfz _ _)) [0,2,9,10] rfl ⟨Nat.zero_le _,hL,rfl⟩ ⟨⟨_,rfl,Wk.refl _⟩,trivial⟩ (set_self hi).symm rfl (fun _ _=>rfl) ?_
 rintro ⟨k,M⟩ ⟨hk,hM,hj⟩
 simp only at hk hM hj
 have hN:(H.set i (jB M)).length=H.length:=by simp
 by_cases hlt:k<l.length
 ·have hmem:=zam l k (Tm.mk false .empty []) hlt
  rw [zfo l k (Tm.mk false .empty []) hlt] at hj
  have hx:=fun X=>hl _ hmem (H.set i (jB M)++X) i M d (zca (zcq hi)) hM hd
  have hbd:=jT_bd d (l.getD k (Tm.mk false .empty [])) M hM.1
  rw [jTs_cons] at hj
  obtain ⟨v,s,ar,hxe⟩:∃ v s ar,l.getD k (Tm.mk false .empty [])=Tm.mk v s ar:=by
   cases l.getD k (Tm.mk false .empty []) with
   | mk v s ar=>exact ⟨v,s,ar,rfl⟩
  have hce:(l.getD k (Tm.mk false .empty [])).cells=[.bool v,.str s,.sl none ar.length (ar.flatMap Tm.cells)]:=by rw [hxe,zbb]
  rw [hce] at hx
  generalize hr:jT d (l.getD k (Tm.mk false .empty [])) M=r at *
  obtain ⟨M',b⟩:=r
  simp only at hx hbd hj
  generalize hB2:jB M'=B2 at *
  cases b with
  | true =>
    (repeat' ((conv=>whnf);(first|(refine IfN.id ?_;first|refine IfN.not ?_|refine IfN.tt rfl ?_|refine IfN.dT (by omega) ?_|fail)|(refine zad _ _ Cst.h Cst.h ?_ ?_;· omega)|(refine SideN.mk ?_ ?_;· first|omega|exact List.cons_ne_nil _ _|fail)|refine zah (Tm.mk false .empty []) k rfl hlt zcb hce ?_|refine zax i _ _ _ _ (zcq hi) (by simp) rfl (hx _) (List.set_set ..) ?_|fail)));conv=>whnf
    subst hB2
    (refine ⟨⟨(k+1,M'),⟨by simp only;omega,⟨hbd.2.2 rfl,by simp only;omega⟩,by simpa using hj⟩,by omega,?_,.inl ⟨rfl,rfl⟩,rfl,_,rfl,?_⟩⟩;rotate_left 1;exact .inr ⟨by simp [zc3,below,zae,tr,and_self],by simp [zdw,Blk.below,zae,below,and_self]⟩;exact ⟨⟨_,rfl,Wk.refl _⟩,trivial⟩)
  | false =>
    (repeat' ((conv=>whnf);(first|(refine IfN.id ?_;first|refine IfN.not ?_|refine IfN.ff rfl ?_|refine IfN.dT (by omega) ?_|fail)|(refine SideN.mk ?_ ?_;· first|omega|exact List.cons_ne_nil _ _|fail)|refine zah (Tm.mk false .empty []) k rfl hlt zcb hce ?_|refine zax i _ _ _ _ (zcq hi) (by simp) rfl (hx _) (List.set_set ..) ?_|fail)));conv=>whnf
    subst hB2
    simp only [Bool.false_eq_true,if_false] at hj
    rw [hj]
    exact za6 (zfz _ _) trivial (Wk.refl _)
 ·have hke:k=l.length:=by omega
  subst hke
  rw [List.drop_length,jTs_nil] at hj
  rw [hj]
  (repeat' ((conv=>whnf);(first|refine zaj (by omega) ?_|fail)));conv=>whnf
  exact za6 (zfz _ _) trivial (Wk.refl _)
end
section
attribute [local irreducible] VW VCall VO bits
theorem checkerV (H:Heap):VDet Tryz.prog 103 [.clo (.func 146) [] [],.clo (.func 129) [] []] H (.clo (.func 126) [] [.rptr [.clo (.func 146) [] []],.rptr [.clo (.func 129) [] []]]):=by
 refine fdD Tryz.func103 ⟨rfl,rfl,rfl⟩ fun hcl hbl=>?_
 conv=>whnf
 refine EndN.detF ?_ ?_ (Wk.refl _)
 ·simp [below,zae,ze0]
 ·(repeat' (first|exact FrzL.nil|refine FrzL.cons ?_ ?_|refine Frz.clo ?_ ?_|refine Frz.ptr rfl rfl (FrzL.refl _)|fail))
theorem checkerF (H:Heap):VDet Tryz.prog 103 [.clo (.func 151) [] [],.clo (.func 105) [] []] H (.clo (.func 126) [] [.rptr [.clo (.func 151) [] []],.rptr [.clo (.func 105) [] []]]):=by
 refine fdD Tryz.func103 ⟨rfl,rfl,rfl⟩ fun hcl hbl=>?_
 conv=>whnf
 refine EndN.detF ?_ ?_ (Wk.refl _)
 ·simp [below,zae,ze0]
 ·(repeat' (first|exact FrzL.nil|refine FrzL.cons ?_ ?_|refine Frz.clo ?_ ?_|refine Frz.ptr rfl rfl (FrzL.refl _)|fail))
theorem checkerP (H:Heap):VDet Tryz.prog 103 [.clo (.func 104) [] [],.clo (.func 105) [] []] H (.clo (.func 126) [] [.rptr [.clo (.func 104) [] []],.rptr [.clo (.func 105) [] []]]):=by
 refine fdD Tryz.func103 ⟨rfl,rfl,rfl⟩ fun hcl hbl=>?_
 conv=>whnf
 refine EndN.detF ?_ ?_ (Wk.refl _)
 ·simp [below,zae,ze0]
 ·(repeat' (first|exact FrzL.nil|refine FrzL.cons ?_ ?_|refine Frz.clo ?_ ?_|refine Frz.ptr rfl rfl (FrzL.refl _)|fail))
theorem variable_g (s:ByteArray) (hs:s.size≤9223372036854775807) (H:Heap):VDet Tryz.prog 130 [.str s] H (.bool (isVar s)):=by
 have h:=check_g _ _ isVa1 isDig va1_g digit_g s hs
 unfold isVar
 generalize nameB isVa1 isDig s=b at *
 refine fdD Tryz.func130 ⟨rfl,rfl,rfl⟩ fun hcl hbl=>?_
 (repeat' ((conv=>whnf);(first|(refine CallN.id ?_;first|refine CallN.det _ (checkerV _) ?_|refine CallN.det _ (h _) ?_|fail)|fail)));conv=>whnf
 exact eT trivial
theorem function_g (s:ByteArray) (hs:s.size≤9223372036854775807) (H:Heap):VDet Tryz.prog 148 [.str s] H (.bool (isFun s)):=by
 have h:=check_g _ _ isFu1 isAln fu1_g alnum_g s hs
 unfold isFun
 generalize nameB isFu1 isAln s=b at *
 refine fdD Tryz.func148 ⟨rfl,rfl,rfl⟩ fun hcl hbl=>?_
 (repeat' ((conv=>whnf);(first|(refine CallN.id ?_;first|refine CallN.det _ (checkerF _) ?_|refine CallN.det _ (h _) ?_|fail)|fail)));conv=>whnf
 exact eT trivial
theorem predicate_g (s:ByteArray) (hs:s.size≤9223372036854775807) (H:Heap):VDet Tryz.prog 82 [.str s] H (.bool (zd1 s)):=by
 have h:=check_g _ _ isCap isAln capital_g alnum_g s hs
 unfold zd1
 generalize nameB isCap isAln s=b at *
 refine fdD Tryz.func82 ⟨rfl,rfl,rfl⟩ fun hcl hbl=>?_
 (repeat' ((conv=>whnf);(first|(refine CallN.id ?_;first|refine CallN.det _ (checkerP _) ?_|refine CallN.det _ (h _) ?_|fail)|fail)));conv=>whnf
 exact eT trivial
theorem term_step (v:Bool) (s:ByteArray) (l:List Tm) (hs:s.size≤9223372036854775807) (hl:TermsP l):TermP (.mk v s l):=by
 intro H i L d hi hL hd
 have hn:=fun X=>node_g (H++X) i L d (zca hi) hL hd
 have hv:=variable_g s hs
 have hf:=function_g s hs
 rw [zbb]
 unfold jT
 by_cases h:1≤L∧d≤40
 ·rw [if_neg (not_not_intro h)]
  rw [decide_eq_true h] at hn
  have ht:=fun X=>hl (H.set i (jB (L-1))++X) i (L-1) (d+1) (zca (zcq hi)) (by omega) (by omega)
  generalize isVar s=bv at *
  generalize isFun s=bf at *
  generalize hr:jTs (d+1) l (L-1)=r at *
  obtain ⟨M,b⟩:=r
  simp only at ht
  generalize l.flatMap Tm.cells=lc at *
  generalize l.length=n at *
  unfold jB at hi hn ht ⊢
  cases v with
  | true =>
    simp only [if_true]
    cases bv with
    | true =>
      refine fdG Tryz.func133 ⟨rfl,rfl,rfl⟩ fun hcl hbl=>?_
      (repeat' ((conv=>whnf);(first|(refine IfN.id ?_;first|refine IfN.not ?_|refine IfN.tt rfl ?_|refine za9 (fun _=>?_) (fun _=>?_)|fail)|refine CallN.det _ (hv _) ?_|refine zax i _ _ _ _ hi rfl rfl (hn _) rfl ?_|fail)));all_goals (conv=>whnf)
      all_goals exact za6 (by simp [Blk.below,zae,below]) trivial (zab (by simp;try omega))
    | false =>
      refine fdG Tryz.func133 ⟨rfl,rfl,rfl⟩ fun hcl hbl=>?_
      (repeat' ((conv=>whnf);(first|(refine IfN.id ?_;first|refine IfN.not ?_|refine IfN.tt rfl ?_|refine IfN.ff rfl ?_|refine za9 (fun _=>?_) (fun _=>?_)|fail)|refine CallN.det _ (hv _) ?_|refine zax i _ _ _ _ hi rfl rfl (hn _) rfl ?_|refine PtrN.base _ (by (repeat' (first|assumption|exact zgk _ rfl|exact zdf rfl|refine zcq (B':=?_) ?_|refine zca ?_|fail))) ?_|fail)));all_goals (conv=>whnf)
      all_goals exact za6 (by simp [Blk.below,zae,below]) trivial (zab (by simp;try omega))
  | false =>
    simp only [Bool.false_eq_true,if_false]
    by_cases h4:n≤4∧bf=true
    ·obtain ⟨h4,rfl⟩:=h4
     rw [if_pos ⟨h4,rfl⟩]
     refine fdG Tryz.func133 ⟨rfl,rfl,rfl⟩ fun hcl hbl=>?_
     (repeat' ((conv=>whnf);(first|(refine IfN.id ?_;first|refine IfN.not ?_|refine IfN.tt rfl ?_|refine IfN.ff rfl ?_|refine IfN.dT (by omega) ?_|fail)|(refine zad _ _ Cst.h Cst.h ?_ ?_;· omega)|refine CallN.det _ (hf _) ?_|refine zax i _ _ _ _ hi rfl rfl (hn _) rfl ?_|refine zax i _ _ _ _ (zcq hi) (by simp) rfl (ht _) (List.set_set ..) ?_|fail)));conv=>whnf
     all_goals exact za6 (by simp [Blk.below,zae,below]) trivial (zab (by simp;try omega))
    ·rw [if_neg h4]
     cases bf with
     | true =>
       have h4:¬ n≤4:=fun e=>h4 ⟨e,rfl⟩
       refine fdG Tryz.func133 ⟨rfl,rfl,rfl⟩ fun hcl hbl=>?_
       (repeat' ((conv=>whnf);(first|(refine IfN.id ?_;first|refine IfN.not ?_|refine IfN.tt rfl ?_|refine IfN.ff rfl ?_|refine zaj (by omega) ?_|fail)|refine zax i _ _ _ _ hi rfl rfl (hn _) rfl ?_|fail)));conv=>whnf
       all_goals exact za6 (by simp [Blk.below,zae,below]) trivial (zab (by simp;try omega))
     | false =>
       refine fdG Tryz.func133 ⟨rfl,rfl,rfl⟩ fun hcl hbl=>?_
       (repeat' ((conv=>whnf);(first|(refine IfN.id ?_;first|refine IfN.not ?_|refine IfN.tt rfl ?_|refine IfN.ff rfl ?_|refine za9 (fun _=>?_) (fun _=>?_)|fail)|refine CallN.det _ (hf _) ?_|refine zax i _ _ _ _ hi rfl rfl (hn _) rfl ?_|fail)));all_goals (conv=>whnf)
       all_goals exact za6 (by simp [Blk.below,zae,below]) trivial (zab (by simp;try omega))
 ·rw [if_pos h]
  rw [decide_eq_false h] at hn
  unfold jB at hi hn ⊢
  refine fdG Tryz.func133 ⟨rfl,rfl,rfl⟩ fun hcl hbl=>?_
  (repeat' ((conv=>whnf);(first|(refine IfN.id ?_;first|refine IfN.not ?_|refine IfN.ff rfl ?_|fail)|refine zax i _ _ _ _ hi rfl rfl (hn _) rfl ?_|fail)));conv=>whnf
  exact za6 (by simp [Blk.below,zae,below]) trivial (Wk.refl _)
mutual
theorem term_g:∀ x:Tm,x.good→TermP x
 | .mk v s l,h=>term_step v s l (by have:=h.1;exact za4 this) (terms_g l (za4 h.2.1) (terms_all l h.2.2))
theorem terms_all:∀ l:List Tm,Tm.goodL l→∀ x∈l,TermP x
 | [],_,x,h=>by cases h
 | y::l,hg,x,h=>by
   have h1:=term_g y hg.1
   have h2:=terms_all l hg.2
   rcases List.mem_cons.1 h with e|h
   ·exact e▸h1
   ·exact h2 x h
end
end
section
def encR (r:Bool×Bool×Nat×Nat×Nat):List AV:=[.bool r.1,.bool r.2.1,.int .u8 r.2.2.1,.int .i64 r.2.2.2.1,.int .i64 r.2.2.2.2]
def rowsL:List (Bool×Bool×Nat×Nat×Nat):=[(false,false,0,0,0),(true,true,1,4,0),(true,true,0,0,0),(true,true,0,0,1),(true,true,0,0,2),(true,true,0,0,2),(true,true,0,0,2),(true,true,0,0,2),(true,true,2,0,1),(true,true,2,0,1),(true,true,0,0,1),(true,true,0,0,1),(true,true,0,0,1),(true,true,0,0,1),(true,true,0,0,2),(false,true,3,0,0),(false,true,3,2,0)]
def row0:Bool×Bool×Nat×Nat×Nat:=(false,false,0,0,0)
def rowK (op:Nat):Bool:=(rowsL.getD op row0).1
def rowN (op:Nat):Nat:=(rowsL.getD op row0).2.2.1
def rowA (op:Nat):Nat:=(rowsL.getD op row0).2.2.2.1
def rowS (op:Nat):Nat:=(rowsL.getD op row0).2.2.2.2
theorem row_ok:∀ op,op<17→(rowsL.getD op row0).1=true→(rowN op=0∨rowN op=1∨rowN op=2)∧op≠16∧rowA op≤4∧rowS op≤2:=by decide
def zej (s:ByteArray):Bool:=s.toList==ByteArray.empty.toList
def zfj (k:Nat) (s:ByteArray):Bool:=if k=1 then zd1 s else if k=2 then isVar s else zej s
mutual
def jF (d:Nat):Fo→Int→Int×Bool
 | .mk op s l m,L=>if ¬ (1≤L∧d≤40)∨17≤op then (L-1,false) else if rowK op=false then (L-1,false) else if ¬ (zfj (rowN op) s=true∧l.length≤rowA op∧m.length=rowS op) then (L-1,false) else
   if (jTs (d+1) l (L-1)).2 then jFs (d+1) m (jTs (d+1) l (L-1)).1 else ((jTs (d+1) l (L-1)).1,false)
def jFs (d:Nat):List Fo→Int→Int×Bool
 | [],L=>(L,true)
 | x::l,L=>if (jF d x L).2 then jFs d l (jF d x L).1 else ((jF d x L).1,false)
end
theorem jFs_nil (d:Nat) (L:Int):jFs d [] L=(L,true):=by unfold jFs;rfl
theorem jFs_cons (d:Nat) (x:Fo) (l:List Fo) (L:Int):jFs d (x::l) L=if (jF d x L).2 then jFs d l (jF d x L).1 else ((jF d x L).1,false):=by rw [jFs.eq_def]
mutual
theorem jF_bd (d:Nat):∀ (x:Fo) (L:Int),0≤L→-1≤(jF d x L).1∧(jF d x L).1≤L∧((jF d x L).2=true→0≤(jF d x L).1)
 | .mk op s l m,L,h=>by
   unfold jF
   split
   ·exact ⟨by simp only;omega,by simp only;omega,fun h=>by cases h⟩
   ·rename_i h1
    split
    ·exact ⟨by simp only;omega,by simp only;omega,fun h=>by cases h⟩
    ·split
     ·exact ⟨by simp only;omega,by simp only;omega,fun h=>by cases h⟩
     ·have ht:=jTs_bd (d+1) l (L-1) (by omega)
      split
      ·rename_i hb
       have:=jFs_bd (d+1) m _ (ht.2.2 hb)
       exact ⟨this.1,by omega,this.2.2⟩
      ·exact ⟨ht.1,by simp only;omega,fun h=>by cases h⟩
theorem jFs_bd (d:Nat):∀ (l:List Fo) (L:Int),0≤L→-1≤(jFs d l L).1∧(jFs d l L).1≤L∧((jFs d l L).2=true→0≤(jFs d l L).1)
 | [],L,h=>by rw [jFs_nil];exact ⟨by simp only;omega,by simp only;omega,fun _=>h⟩
 | x::l,L,h=>by
   have h1:=jF_bd d x L h
   rw [jFs_cons]
   split
   ·rename_i hb
    have h2:=jFs_bd d l _ (h1.2.2 hb)
    exact ⟨h2.1,by omega,h2.2.2⟩
   ·exact ⟨h1.1,h1.2.1,fun h=>by cases h⟩
end
theorem zf4 {l l':List AV} {o:Nat} {k:List AV→Prop} (h:l=l') (a:SegN l' o k):SegN l o k:=h▸a
theorem za1:∀ x:Fo,x.cells.length=4
 | .mk op s l m=>by rw [zaf];rfl
attribute [local irreducible] VW VCall VO bits
mutual
theorem tm_below (n:Nat):∀ x:Tm,zae n x.cells
 | .mk v s l=>by
   rw [zbb]
   have:=zaz n l
   simp [zae,below,this]
theorem zaz (n:Nat):∀ l:List Tm,zae n (l.flatMap Tm.cells)
 | []=>trivial
 | x::l=>by
   rw [List.flatMap_cons]
   exact (zaq _ _).2 ⟨tm_below n x,zaz n l⟩
end
mutual
theorem fo_below (n:Nat):∀ x:Fo,zae n x.cells
 | .mk op s l m=>by
   rw [zaf]
   have:=zaz n l
   have:=zar n m
   simp [zae,below, *]
theorem zar (n:Nat):∀ l:List Fo,zae n (l.flatMap Fo.cells)
 | []=>trivial
 | x::l=>by
   rw [List.flatMap_cons]
   exact (zaq _ _).2 ⟨fo_below n x,zar n l⟩
end
theorem named_g (k:Nat) (hk:k=0∨k=1∨k=2) (s:ByteArray) (hs:s.size≤9223372036854775807) (H:Heap):VDet Tryz.prog 107 [.int .u8 k,.str s] H (.bool (zfj k s)):=by
 have hp:=predicate_g s hs
 have hv:=variable_g s hs
 have he:(s.toList==ByteArray.empty.toList)=zej s:=rfl
 unfold zfj
 rcases hk with rfl|rfl|rfl
 ·simp only [show ¬ (0:Nat)=1 by decide,show ¬ (0:Nat)=2 by decide,if_false]
  refine fdD Tryz.func107 ⟨rfl,rfl,rfl⟩ fun hcl hbl=>?_
  (repeat' ((conv=>whnf);(first|refine IfN.ff rfl ?_|fail)));conv=>whnf
  exact EndN.det trivial (zab (by rw [← he];rfl))
 ·simp only [if_true]
  refine fdD Tryz.func107 ⟨rfl,rfl,rfl⟩ fun hcl hbl=>?_
  (repeat' ((conv=>whnf);(first|refine IfN.tt rfl ?_|refine CallN.det _ (hp _) ?_|fail)));conv=>whnf
  exact eT trivial
 ·simp only [show ¬ (2:Nat)=1 by decide,if_false,if_true]
  refine fdD Tryz.func107 ⟨rfl,rfl,rfl⟩ fun hcl hbl=>?_
  (repeat' ((conv=>whnf);(first|(refine IfN.id ?_;first|refine IfN.tt rfl ?_|refine IfN.ff rfl ?_|fail)|refine CallN.det _ (hv _) ?_|fail)));conv=>whnf
  exact eT trivial
theorem rows_eq:(Tryz.gl[2]).2=rowsL.flatMap encR:=by kernel_rfl
def FormP (x:Fo):Prop:=∀ (H:Heap) (i:Nat) (L:Int) (d:Nat),H[i]? = some (jB L)→0≤L∧L≤400→d≤41→VCall Tryz.prog 83 [.ptr i 0,.agg x.cells,.int .i64 d] H (setR H i (jB (jF d x L).1) (.bool (jF d x L).2))
theorem form_step (op:Nat) (s:ByteArray) (l:List Tm) (m:List Fo) (hop:op≤255) (hs:s.size≤9223372036854775807) (hll:l.length≤9223372036854775807) (hml:m.length≤9223372036854775807) (hl:TermsP l) (hm:∀ x∈m,FormP x):FormP (.mk op s l m):=by
 intro H i L d hi hL hd
 have hn:=fun X=>node_g (H++X) i L d (zca hi) hL hd
 rw [zaf]
 unfold jF
 by_cases h:¬ (1≤L∧d≤40)∨17≤op
 ·rw [if_pos h]
  by_cases h1:1≤L∧d≤40
  ·rw [decide_eq_true h1] at hn
   have h17:17≤op:=by omega
   generalize l.flatMap Tm.cells=lc at *
   generalize m.flatMap Fo.cells=mc at *
   unfold jB at hi hn ⊢
   refine fdG Tryz.func83 ⟨rfl,rfl,rfl⟩ fun hcl hbl=>?_
   (repeat' ((conv=>whnf);(first|(refine IfN.id ?_;first|refine IfN.not ?_|refine IfN.tt rfl ?_|refine IfN.dT (by omega) ?_|fail)|refine EqN.i64 (by omega) ?_|refine zax i _ _ _ _ hi rfl rfl (hn _) rfl ?_|fail)));conv=>whnf
   exact za6 (by simp [Blk.below,zae,below]) trivial (Wk.refl _)
  ·rw [decide_eq_false h1] at hn
   generalize l.flatMap Tm.cells=lc at *
   generalize m.flatMap Fo.cells=mc at *
   unfold jB at hi hn ⊢
   refine fdG Tryz.func83 ⟨rfl,rfl,rfl⟩ fun hcl hbl=>?_
   (repeat' ((conv=>whnf);(first|(refine IfN.id ?_;first|refine IfN.not ?_|refine IfN.ff rfl ?_|fail)|refine zax i _ _ _ _ hi rfl rfl (hn _) rfl ?_|fail)));conv=>whnf
   exact za6 (by simp [Blk.below,zae,below]) trivial (Wk.refl _)
 ·rw [if_neg h]
  have h1:1≤L∧d≤40:=by omega
  have h17:op<17:=by omega
  rw [decide_eq_true h1] at hn
  have hrow:=row_ok op h17
  have hname:=fun (hk:rowN op=0∨rowN op=1∨rowN op=2)=>named_g (rowN op) hk s hs
  have hrc:encR (rowsL.getD op row0)=[.bool (rowK op),.bool (rowsL.getD op row0).2.1,.int .u8 (rowN op),.int .i64 (rowA op),.int .i64 (rowS op)]:=rfl
  have hrk:(rowsL.getD op row0).1=rowK op:=rfl
  rw [hrk] at hrow
  have ht:=fun X=>hl (H.set i (jB (L-1))++X) i (L-1) (d+1) (zca (zcq hi)) (by omega) (by omega)
  have htb:=jTs_bd (d+1) l (L-1) (by omega)
  generalize (rowsL.getD op row0).2.1=rsch at *
  generalize rowK op=rk at *
  generalize rowN op=rn at *
  generalize rowA op=ra at *
  generalize rowS op=rs at *
  generalize zfj rn s=nok at *
  generalize hr:jTs (d+1) l (L-1)=r at *
  obtain ⟨M,b⟩:=r
  simp only at ht htb
  have h16:rk=true→op≠16:=fun e=>(hrow e).2.1
  cases rk with
  | false =>
    rw [if_pos rfl]
    generalize l.flatMap Tm.cells=lc at *
    generalize m.flatMap Fo.cells=mc at *
    unfold jB at hi hn ⊢
    refine fdG Tryz.func83 ⟨rfl,rfl,rfl⟩ fun hcl hbl=>?_
    (repeat' ((conv=>whnf);(first|(refine IfN.id ?_;first|refine IfN.not ?_|refine IfN.tt rfl ?_|refine IfN.ff rfl ?_|refine zaj (by omega) ?_|fail)|refine EqN.i64 (by omega) ?_|refine SideN.mk (by omega) ?_|refine zax i _ _ _ _ hi rfl rfl (hn _) rfl ?_|refine zf4 rows_eq (zah row0 op rfl h17 (fun _=>rfl) hrc ?_)|refine PtrN.base _ (by (repeat' (first|assumption|exact zgk _ rfl|exact zdf rfl|refine zcq (B':=?_) ?_|refine zca ?_|fail))) ?_|fail)));conv=>whnf
    exact za6 (by simp [Blk.below,zae,below]) trivial (Wk.refl _)
  | true =>
    simp only [Bool.true_eq_false,if_false]
    have h16:=h16 rfl
    have hname:=hname (hrow rfl).1
    have hra:=(hrow rfl).2.2.1
    by_cases h2:nok=true∧l.length≤ra∧m.length=rs
    ·rw [if_neg (not_not_intro h2)]
     obtain ⟨rfl,h3,h4⟩:=h2
     cases b with
     | false =>
       simp only [Bool.false_eq_true,if_false]
       generalize l.flatMap Tm.cells=lc at *
       generalize m.flatMap Fo.cells=mc at *
       unfold jB at hi hn ht ⊢
       refine fdG Tryz.func83 ⟨rfl,rfl,rfl⟩ fun hcl hbl=>?_
       (repeat' ((conv=>whnf);(first|(refine IfN.id ?_;first|refine IfN.not ?_|refine IfN.tt rfl ?_|refine IfN.ff rfl ?_|refine IfN.dT (by omega) ?_|refine zaj (by omega) ?_|fail)|(refine EqN.id ?_;first|(refine zad _ _ Cst.h Cst.h ?_ ?_;· omega)|refine EqN.i64 (by omega) ?_|fail)|refine SideN.mk (by omega) ?_|refine CallN.det _ (hname _) ?_|refine zax i _ _ _ _ hi rfl rfl (hn _) rfl ?_|refine zf4 rows_eq (zah row0 op rfl h17 (fun _=>rfl) hrc ?_)|refine zax i _ _ _ _ (zcq hi) (by simp) rfl (ht _) (List.set_set ..) ?_|fail)));conv=>whnf
       exact za6 (by simp [Blk.below,zae,below]) trivial (Wk.refl _)
     | true =>
       simp only [if_true]
       have hMb:=htb.2.2 rfl
       have hmc:∀ n,zae n (m.flatMap Fo.cells):=fun n=>zar n m
       have hi':=hi
       unfold jB at hi hn ht
       refine fdG Tryz.func83 ⟨rfl,rfl,rfl⟩ fun hcl hbl=>?_
       (repeat' ((conv=>whnf);(first|(refine IfN.id ?_;first|refine IfN.not ?_|refine IfN.tt rfl ?_|refine IfN.dT (by omega) ?_|refine zaj (by omega) ?_|fail)|(refine EqN.id ?_;first|(refine zad _ _ Cst.h Cst.h ?_ ?_;· omega)|refine EqN.i64 (by omega) ?_|fail)|refine SideN.mk (by omega) ?_|refine CallN.det _ (hname _) ?_|refine zax i _ _ _ _ hi rfl rfl (hn _) rfl ?_|refine zf4 rows_eq (zah row0 op rfl h17 (fun _=>rfl) hrc ?_)|refine zax i _ _ _ _ (zcq hi) (by simp) rfl (ht _) (List.set_set ..) ?_|fail)));conv=>whnf
       refine loop_B Tryz.E0 zak (σ:=Nat×Int) (fun p=>p.1≤m.length∧(0≤p.2∧p.2≤400)∧jFs (d+1) m M=jFs (d+1) (m.drop p.1) p.2) (fun p=>m.length-p.1) (fun p=>[(79,.v (.int .i64 p.1))]) (fun p=>H.set i (jB p.2)) (fun _=>_) _ (0,M) (fun p _=>by simp) (fun p _=>zek hcl i _ (zfz _ _)) [0,2,77,78] rfl ⟨Nat.zero_le _,⟨hMb,by omega⟩,rfl⟩ ⟨⟨_,rfl,Wk.refl _⟩,trivial⟩ rfl rfl (fun _ _=>rfl) ?_
       rintro ⟨k,N⟩ ⟨hk,hN,hj⟩
       simp only at hk hN hj
       have hNl:(H.set i (jB N)).length=H.length:=by simp
       by_cases hlt:k<m.length
       ·have hmem:=zam m k (Fo.mk 0 .empty [] []) hlt
        rw [zfo m k (Fo.mk 0 .empty [] []) hlt] at hj
        have hx:=fun X=>hm _ hmem (H.set i (jB N)++X) i N (d+1) (zca (zcq hi')) hN (by omega)
        have hbd:=jF_bd (d+1) (m.getD k (Fo.mk 0 .empty [] [])) N hN.1
        rw [jFs_cons] at hj
        obtain ⟨o2,s2,l2,m2,hxe⟩:∃ o2 s2 l2 m2,m.getD k (Fo.mk 0 .empty [] [])=Fo.mk o2 s2 l2 m2:=by
         cases m.getD k (Fo.mk 0 .empty [] []) with
         | mk o2 s2 l2 m2=>exact ⟨o2,s2,l2,m2,rfl⟩
        have hce:(m.getD k (Fo.mk 0 .empty [] [])).cells=[.int .u8 o2,.str s2,.sl none l2.length (l2.flatMap Tm.cells),.sl none m2.length (m2.flatMap Fo.cells)]:=by rw [hxe,zaf]
        rw [hce] at hx
        generalize hr2:jF (d+1) (m.getD k (Fo.mk 0 .empty [] [])) N=r2 at *
        obtain ⟨N',b2⟩:=r2
        simp only at hx hbd hj
        generalize hB2:jB N'=B2 at *
        cases b2 with
        | true =>
          (repeat' ((conv=>whnf);(first|(refine IfN.id ?_;first|refine IfN.not ?_|refine IfN.tt rfl ?_|refine IfN.dT (by omega) ?_|fail)|(refine zad _ _ Cst.h Cst.h ?_ ?_;· omega)|(refine SideN.mk ?_ ?_;· first|omega|exact List.cons_ne_nil _ _|fail)|refine zah (Fo.mk 0 .empty [] []) k rfl hlt za1 hce ?_|refine zax i _ _ _ _ (zcq hi') (by simp) rfl (hx _) (List.set_set ..) ?_|fail)));conv=>whnf
          subst hB2
          (refine ⟨⟨(k+1,N'),⟨by simp only;omega,⟨hbd.2.2 rfl,by simp only;omega⟩,by simpa using hj⟩,by omega,?_,.inl ⟨rfl,rfl⟩,rfl,_,rfl,?_⟩⟩;rotate_left 1;exact .inr ⟨by simp [zc3,below,zae,tr,zaz,zar],by simp [zdw,Blk.below,zae,below,zaz,zar]⟩;exact ⟨⟨_,rfl,Wk.refl _⟩,trivial⟩)
        | false =>
          (repeat' ((conv=>whnf);(first|(refine IfN.id ?_;first|refine IfN.not ?_|refine IfN.ff rfl ?_|refine IfN.dT (by omega) ?_|fail)|(refine zad _ _ Cst.h Cst.h ?_ ?_;· omega)|(refine SideN.mk ?_ ?_;· first|omega|exact List.cons_ne_nil _ _|fail)|refine zah (Fo.mk 0 .empty [] []) k rfl hlt za1 hce ?_|refine zax i _ _ _ _ (zcq hi') (by simp) rfl (hx _) (List.set_set ..) ?_|fail)));conv=>whnf
          subst hB2
          simp only [Bool.false_eq_true,if_false] at hj
          rw [hj]
          exact za6 (zfz _ _) trivial (Wk.refl _)
       ·have hke:k=m.length:=by omega
        subst hke
        rw [List.drop_length,jFs_nil] at hj
        rw [hj]
        (repeat' ((conv=>whnf);(first|refine zaj (by omega) ?_|fail)));conv=>whnf
        exact za6 (zfz _ _) trivial (Wk.refl _)
    ·rw [if_pos h2]
     generalize l.flatMap Tm.cells=lc at *
     generalize m.flatMap Fo.cells=mc at *
     generalize l.length=ln at *
     generalize m.length=mn at *
     unfold jB at hi hn ⊢
     cases nok with
     | false =>
       refine fdG Tryz.func83 ⟨rfl,rfl,rfl⟩ fun hcl hbl=>?_
       (repeat' ((conv=>whnf);(first|(refine IfN.id ?_;first|refine IfN.not ?_|refine IfN.tt rfl ?_|refine IfN.ff rfl ?_|refine zaj (by omega) ?_|fail)|refine EqN.i64 (by omega) ?_|refine SideN.mk (by omega) ?_|refine CallN.det _ (hname _) ?_|refine zax i _ _ _ _ hi rfl rfl (hn _) rfl ?_|refine zf4 rows_eq (zah row0 op rfl h17 (fun _=>rfl) hrc ?_)|fail)));conv=>whnf
       exact za6 (by simp [Blk.below,zae,below]) trivial (Wk.refl _)
     | true =>
       by_cases h3:ln≤ra
       ·have h4:¬ mn=rs:=fun e=>h2 ⟨rfl,h3,e⟩
        refine fdG Tryz.func83 ⟨rfl,rfl,rfl⟩ fun hcl hbl=>?_
        (repeat' ((conv=>whnf);(first|(refine IfN.id ?_;first|refine IfN.not ?_|refine IfN.tt rfl ?_|refine zaj (by omega) ?_|fail)|refine EqN.i64 (by omega) ?_|refine SideN.mk (by omega) ?_|refine CallN.det _ (hname _) ?_|refine zax i _ _ _ _ hi rfl rfl (hn _) rfl ?_|refine zf4 rows_eq (zah row0 op rfl h17 (fun _=>rfl) hrc ?_)|fail)));conv=>whnf
        exact za6 (by simp [Blk.below,zae,below]) trivial (Wk.refl _)
       ·refine fdG Tryz.func83 ⟨rfl,rfl,rfl⟩ fun hcl hbl=>?_
        (repeat' ((conv=>whnf);(first|(refine IfN.id ?_;first|refine IfN.not ?_|refine IfN.tt rfl ?_|refine IfN.dT (by omega) ?_|refine zaj (by omega) ?_|fail)|refine EqN.i64 (by omega) ?_|refine SideN.mk (by omega) ?_|refine CallN.det _ (hname _) ?_|refine zax i _ _ _ _ hi rfl rfl (hn _) rfl ?_|refine zf4 rows_eq (zah row0 op rfl h17 (fun _=>rfl) hrc ?_)|fail)));conv=>whnf
        exact za6 (by simp [Blk.below,zae,below]) trivial (Wk.refl _)
mutual
theorem form_g:∀ x:Fo,x.good→FormP x
 | .mk op s l m,h=>form_step op s l m h.1 (za4 h.2.1) (za4 h.2.2.1) (za4 h.2.2.2.2.1) (terms_g l (za4 h.2.2.1) (terms_all l h.2.2.2.1)) (forms_all m h.2.2.2.2.2)
theorem forms_all:∀ l:List Fo,Fo.goodL l→∀ x∈l,FormP x
 | [],_,x,h=>by cases h
 | y::l,hg,x,h=>by
   have h1:=form_g y hg.1
   have h2:=forms_all l hg.2
   rcases List.mem_cons.1 h with e|h
   ·exact e▸h1
   ·exact h2 x h
end
end
end Go.Proofs.YtekhodpmpjehaaaGreatDoor
namespace Go.Proofs.YtekhodpmpjehaaaGreatDoor
section
open Go.Shelf
def Tryz.keys46_ren:Go.Shelf.Ren:=⟨fun|7=>46|10=>77|n=>n,fun|23=>76|26=>9|3=>4|28=>80|0=>0|27=>79|33=>113|4=>4|n=>n,fun|n=>n⟩
theorem Tryz.keys46:Go.Proofs.SlLaysZ.n7 Tryz.prog Tryz.keys46_ren:={
 mixed:=by kernel_rfl
 f7:=⟨Tryz.f46.name,by decide,Tryz.func46.trans (congrArg some (by kernel_rfl))⟩
 f10:=⟨Tryz.f77.name,by decide,Tryz.func77.trans (congrArg some (by kernel_rfl))⟩
 t0:=Tryz.underlying0
 a0:=Tryz.isAgg0
 z0:=Tryz.sizeOf0
 v0:=Tryz.zeroValue0
 t4:=Tryz.underlying4
 a4:=Tryz.isAgg4
 z4:=Tryz.sizeOf4
 v4:=Tryz.zeroValue4
 t23:=Tryz.underlying76
 a23:=Tryz.isAgg76
 z23:=Tryz.sizeOf76
 v23:=Tryz.zeroValue76
 t26:=Tryz.underlying9
 a26:=Tryz.isAgg9
 z26:=Tryz.sizeOf9
 v26:=Tryz.zeroValue9
 t27:=Tryz.underlying79
 a27:=Tryz.isAgg79
 z27:=Tryz.sizeOf79
 v27:=Tryz.zeroValue79
 t28:=Tryz.underlying80
 a28:=Tryz.isAgg80
 z28:=Tryz.sizeOf80
 v28:=Tryz.zeroValue80
 t33:=Tryz.underlying113
 a33:=Tryz.isAgg113
 z33:=Tryz.sizeOf113
 v33:=Tryz.zeroValue113 }
def Tryz.sorted45_ren:Go.Shelf.Ren:=⟨fun|6=>45|8=>75|9=>76|11=>99|13=>101|12=>100|23=>124|24=>125|14=>115|15=>116|16=>117|17=>118|18=>119|19=>120|20=>121|21=>122|22=>123|25=>140|26=>141|27=>142|28=>143|29=>144|30=>145|31=>149|n=>n,fun|26=>9|28=>80|24=>33|0=>0|3=>3|37=>112|48=>157|50=>72|4=>4|40=>149|39=>148|45=>154|5=>5|9=>9|51=>161|55=>164|57=>166|58=>167|33=>113|n=>n,fun|n=>n⟩
theorem Tryz.sorted45:Go.Proofs.SlLaysZ.n6 Tryz.prog Tryz.sorted45_ren:={
 mixed:=by kernel_rfl
 f6:=⟨Tryz.f45.name,by decide,Tryz.func45.trans (congrArg some (by kernel_rfl))⟩
 f8:=⟨Tryz.f75.name,by decide,Tryz.func75.trans (congrArg some (by kernel_rfl))⟩
 f11:=⟨Tryz.f99.name,by decide,Tryz.func99.trans (congrArg some (by kernel_rfl))⟩
 t0:=Tryz.underlying0
 a0:=Tryz.isAgg0
 z0:=Tryz.sizeOf0
 v0:=Tryz.zeroValue0
 t24:=Tryz.underlying33
 a24:=Tryz.isAgg33
 z24:=Tryz.sizeOf33
 v24:=Tryz.zeroValue33
 t26:=Tryz.underlying9
 a26:=Tryz.isAgg9
 z26:=Tryz.sizeOf9
 v26:=Tryz.zeroValue9
 t28:=Tryz.underlying80
 a28:=Tryz.isAgg80
 z28:=Tryz.sizeOf80
 v28:=Tryz.zeroValue80
 i26:=by kernel_rfl }
def Tryz.sort76_ren:Go.Shelf.Ren:=⟨fun|6=>76|8=>101|9=>100|19=>124|20=>125|21=>115|22=>116|23=>117|24=>118|25=>119|26=>120|27=>121|28=>122|29=>123|36=>140|31=>141|32=>142|37=>143|38=>144|39=>145|41=>149|n=>n,fun|27=>33|29=>9|3=>3|32=>112|26=>33|0=>0|44=>157|46=>72|4=>4|36=>149|35=>148|41=>154|5=>5|9=>9|53=>161|57=>164|63=>166|64=>167|n=>n,fun|n=>n⟩
theorem Tryz.sort76:Go.Proofs.SlLaysM.n6 Tryz.prog Tryz.sort76_ren:={
 mixed:=by kernel_rfl
 f6:=⟨Tryz.f76.name,by decide,Tryz.func76.trans (congrArg some (by kernel_rfl))⟩
 f8:=Tryz.func101.trans (congrArg some (by kernel_rfl))
 f9:=⟨Tryz.f100.name,by decide,Tryz.func100.trans (congrArg some (by kernel_rfl))⟩
 f19:=Tryz.func124.trans (congrArg some (by kernel_rfl))
 f20:=Tryz.func125.trans (congrArg some (by kernel_rfl))
 f21:=⟨Tryz.f115.name,by decide,Tryz.func115.trans (congrArg some (by kernel_rfl))⟩
 f22:=⟨Tryz.f116.name,by decide,Tryz.func116.trans (congrArg some (by kernel_rfl))⟩
 f23:=⟨Tryz.f117.name,by decide,Tryz.func117.trans (congrArg some (by kernel_rfl))⟩
 f24:=⟨Tryz.f118.name,by decide,Tryz.func118.trans (congrArg some (by kernel_rfl))⟩
 f25:=⟨Tryz.f119.name,by decide,Tryz.func119.trans (congrArg some (by kernel_rfl))⟩
 f26:=⟨Tryz.f120.name,by decide,Tryz.func120.trans (congrArg some (by kernel_rfl))⟩
 f27:=⟨Tryz.f121.name,by decide,Tryz.func121.trans (congrArg some (by kernel_rfl))⟩
 f28:=⟨Tryz.f122.name,by decide,Tryz.func122.trans (congrArg some (by kernel_rfl))⟩
 f29:=⟨Tryz.f123.name,by decide,Tryz.func123.trans (congrArg some (by kernel_rfl))⟩
 f31:=Tryz.func141.trans (congrArg some (by kernel_rfl))
 f32:=Tryz.func142.trans (congrArg some (by kernel_rfl))
 f36:=⟨Tryz.f140.name,by decide,Tryz.func140.trans (congrArg some (by kernel_rfl))⟩
 f37:=⟨Tryz.f143.name,by decide,Tryz.func143.trans (congrArg some (by kernel_rfl))⟩
 f38:=⟨Tryz.f144.name,by decide,Tryz.func144.trans (congrArg some (by kernel_rfl))⟩
 f39:=⟨Tryz.f145.name,by decide,Tryz.func145.trans (congrArg some (by kernel_rfl))⟩
 f41:=⟨Tryz.f149.name,by decide,Tryz.func149.trans (congrArg some (by kernel_rfl))⟩
 t0:=Tryz.underlying0
 a0:=Tryz.isAgg0
 z0:=Tryz.sizeOf0
 v0:=Tryz.zeroValue0
 t3:=Tryz.underlying3
 a3:=Tryz.isAgg3
 z3:=Tryz.sizeOf3
 v3:=Tryz.zeroValue3
 t4:=Tryz.underlying4
 a4:=Tryz.isAgg4
 z4:=Tryz.sizeOf4
 v4:=Tryz.zeroValue4
 t5:=Tryz.underlying5
 a5:=Tryz.isAgg5
 z5:=Tryz.sizeOf5
 v5:=Tryz.zeroValue5
 t9:=Tryz.underlying9
 a9:=Tryz.isAgg9
 z9:=Tryz.sizeOf9
 v9:=Tryz.zeroValue9
 t26:=Tryz.underlying33
 a26:=Tryz.isAgg33
 z26:=Tryz.sizeOf33
 v26:=Tryz.zeroValue33
 t27:=Tryz.underlying33
 a27:=Tryz.isAgg33
 z27:=Tryz.sizeOf33
 v27:=Tryz.zeroValue33
 t29:=Tryz.underlying9
 a29:=Tryz.isAgg9
 z29:=Tryz.sizeOf9
 v29:=Tryz.zeroValue9
 t32:=Tryz.underlying112
 a32:=Tryz.isAgg112
 z32:=Tryz.sizeOf112
 v32:=Tryz.zeroValue112
 t35:=Tryz.underlying148
 a35:=Tryz.isAgg148
 z35:=Tryz.sizeOf148
 v35:=Tryz.zeroValue148
 t36:=Tryz.underlying149
 a36:=Tryz.isAgg149
 z36:=Tryz.sizeOf149
 v36:=Tryz.zeroValue149
 t41:=Tryz.underlying154
 a41:=Tryz.isAgg154
 z41:=Tryz.sizeOf154
 v41:=Tryz.zeroValue154
 t44:=Tryz.underlying157
 a44:=Tryz.isAgg157
 z44:=Tryz.sizeOf157
 v44:=Tryz.zeroValue157
 t46:=Tryz.underlying72
 a46:=Tryz.isAgg72
 z46:=Tryz.sizeOf72
 v46:=Tryz.zeroValue72
 t53:=Tryz.underlying161
 a53:=Tryz.isAgg161
 z53:=Tryz.sizeOf161
 v53:=Tryz.zeroValue161
 t57:=Tryz.underlying164
 a57:=Tryz.isAgg164
 z57:=Tryz.sizeOf164
 v57:=Tryz.zeroValue164
 t63:=Tryz.underlying166
 a63:=Tryz.isAgg166
 z63:=Tryz.sizeOf166
 v63:=Tryz.zeroValue166
 t64:=Tryz.underlying167
 a64:=Tryz.isAgg167
 z64:=Tryz.sizeOf167
 v64:=Tryz.zeroValue167 }
def Tryz.grow74_ren:Go.Shelf.Ren:=⟨fun|4=>74|n=>n,fun|22=>22|25=>40|3=>3|4=>4|9=>9|20=>20|0=>0|n=>n,fun|n=>n⟩
theorem Tryz.grow74:Go.Proofs.Lays8.n4 Tryz.prog Tryz.grow74_ren:={
 mixed:=by kernel_rfl
 f4:=⟨Tryz.f74.name,by decide,Tryz.func74.trans (congrArg some (by kernel_rfl))⟩
 t0:=Tryz.underlying0
 a0:=Tryz.isAgg0
 z0:=Tryz.sizeOf0
 v0:=Tryz.zeroValue0
 t3:=Tryz.underlying3
 a3:=Tryz.isAgg3
 z3:=Tryz.sizeOf3
 v3:=Tryz.zeroValue3
 t4:=Tryz.underlying4
 a4:=Tryz.isAgg4
 z4:=Tryz.sizeOf4
 v4:=Tryz.zeroValue4
 t9:=Tryz.underlying9
 a9:=Tryz.isAgg9
 z9:=Tryz.sizeOf9
 v9:=Tryz.zeroValue9
 t20:=Tryz.underlying20
 a20:=Tryz.isAgg20
 z20:=Tryz.sizeOf20
 v20:=Tryz.zeroValue20
 t22:=Tryz.underlying22
 a22:=Tryz.isAgg22
 z22:=Tryz.sizeOf22
 v22:=Tryz.zeroValue22 }
end
end Go.Proofs.YtekhodpmpjehaaaGreatDoor
namespace Go.Proofs.YtekhodpmpjehaaaGreatDoor
open Go.Vsi
section
open Go.Maps Go.Sort Go.Shelf Go.RowKit
open Go.WideElems (Fit rg)
open Go.WideShapes (sorted_perm)
attribute [local irreducible] VW VCall VO bits
instance baDec:DecidableEq ByteArray:=fun a b=>if h:a.data=b.data then isTrue (by cases a;cases b;simp only at h;rw [h]) else isFalse fun e=>h (by rw [e])
def mpG (ks:List ByteArray):Blk:=.mp (ks.map fun c=>.str c) (ks.map fun _=>.bool true)
def memG (c:ByteArray) (ks:List ByteArray):Bool:=ks.any fun d=>decide (d=c)
theorem zdj (c:ByteArray) (ks:List ByteArray):memG c ks=true↔c∈ks:=by
 unfold memG
 rw [List.any_eq_true]
 exact ⟨fun ⟨d,hd,e⟩=>of_decide_eq_true e▸hd,fun h=>⟨c,h,decide_eq_true rfl⟩⟩
def insG (ks:List ByteArray) (c:ByteArray):List ByteArray:=if memG c ks=true then ks else ks++[c]
mutual
def addG (ks:List ByteArray):Fo→List ByteArray
 | .mk op s _ m=>addGs (if op=1 then insG ks s else ks) m
def addGs (ks:List ByteArray):List Fo→List ByteArray
 | []=>ks
 | x::l=>addGs (addG ks x) l
end
theorem zbz (ks:List ByteArray):addGs ks []=ks:=by unfold addGs;rfl
theorem zbr (ks:List ByteArray) (x:Fo) (l:List Fo):addGs ks (x::l)=addGs (addG ks x) l:=by rw [addGs.eq_def]
theorem zgv (n:Nat) (ks:List ByteArray):(mpG ks).below n:=by
 simp only [mpG,Blk.below]
 refine ⟨?_,?_⟩
 ·induction ks with
  | nil=>trivial
  | cons c l ih=>exact ⟨trivial,ih⟩
 ·induction ks with
  | nil=>trivial
  | cons c l ih=>exact ⟨trivial,ih⟩
theorem ba_eq {a b:ByteArray} (h:a.toList=b.toList):a=b:=by
 rw [ByteArray.toList_eq,ByteArray.toList_eq] at h
 cases a
 cases b
 congr 1
 exact Array.toList_inj.1 h
theorem zfb (a b:ByteArray):(a.toList==b.toList)=decide (a=b):=by
 apply Bool.eq_iff_iff.2
 rw [beq_iff_eq,decide_eq_true_eq]
 exact ⟨ba_eq,fun h=>by rw [h]⟩
theorem mfindG (c:ByteArray):∀ ks:List ByteArray,(c∈ks→∃ j,j<ks.length∧ks[j]? = some c∧mfind (eqV Tryz.kn Tryz.T 20 9) (.str c) (ks.map fun c=>.str c)=some (some j))∧(c ∉ ks→mfind (eqV Tryz.kn Tryz.T 20 9) (.str c) (ks.map fun c=>.str c)=some none)
 | []=>⟨fun h=>by simp at h,fun _=>rfl⟩
 | d::ks=>by
   have he:eqV Tryz.kn Tryz.T 20 9 (.str c) (.str d)=some (decide (c=d)):=by
    show some (c.toList==d.toList)=_
    rw [zfb]
   obtain ⟨h1,h2⟩:=mfindG c ks
   simp only [List.map_cons,mfind,he]
   by_cases hcd:c=d
   ·subst hcd
    simp only [decide_true]
    exact ⟨fun _=>⟨0,by simp,rfl,rfl⟩,fun h=>absurd (List.mem_cons_self) h⟩
   ·have hb:decide (c=d)=false:=by simpa using hcd
    simp only [hb]
    refine ⟨fun h=>?_,fun h=>?_⟩
    ·obtain ⟨j,e1,e2,e3⟩:=h1 ((List.mem_cons.1 h).resolve_left hcd)
     exact ⟨j+1,by simpa using e1,by simpa using e2,by rw [e3]⟩
    ·rw [h2 fun q=>h (List.mem_cons_of_mem _ q)]
theorem putG (c:ByteArray) (ks:List ByteArray):MPut (eqV Tryz.kn Tryz.T 20 9) (ks.map fun c=>.str c) (ks.map fun _=>.bool true) (.str c) (.bool true) ((insG ks c).map fun c=>.str c) ((insG ks c).map fun _=>.bool true):=by
 obtain ⟨h1,h2⟩:=mfindG c ks
 unfold insG
 by_cases h:c∈ks
 ·rw [if_pos ((zdj c ks).2 h)]
  obtain ⟨j,e1,e2,e3⟩:=h1 h
  have:=MPut.old (vs:=ks.map fun _=>AV.bool true) (v:=.bool true) j e3 (by rw [List.getElem?_map,e2];rfl)
  have hs:(ks.map fun _=>AV.bool true).set j (.bool true)=ks.map fun _=>.bool true:=by
   apply List.ext_getElem?
   intro i
   rw [List.getElem?_set]
   split
   ·rename_i hi
    subst hi
    simp [e1]
   ·rfl
  rwa [hs] at this
 ·rw [if_neg fun e=>h ((zdj c ks).1 e)]
  have:=MPut.new (vs:=ks.map fun _=>AV.bool true) (v:=.bool true) (h2 h)
  simpa using this
def AddP (x:Fo):Prop:=∀ (H:Heap) (i:Nat) (ks:List ByteArray),H[i]? = some (mpG ks)→VCall Tryz.prog 44 [.agg x.cells,.mp i] H (setR H i (mpG (addG ks x)) (.tup []))
theorem add_step (op:Nat) (s:ByteArray) (l:List Tm) (m:List Fo) (hml:m.length≤9223372036854775807) (hm:∀ x∈m,AddP x):AddP (.mk op s l m):=by
 intro H i ks hi
 rw [zaf]
 unfold addG
 by_cases h1:op=1
 ·subst h1
  rw [if_pos rfl]
  have hi0:=hi
  unfold mpG at hi
  refine fdG Tryz.func44 ⟨rfl,rfl,rfl⟩ fun hcl hbl=>?_
  (repeat' ((conv=>whnf);(first|refine IfN.tt rfl ?_|refine PtrN.base _ (by (repeat' (first|assumption|exact zgk _ rfl|exact zdf rfl|refine zcq (B':=?_) ?_|refine zca ?_|fail))) ?_|fail)));conv=>whnf
  refine RelN.mk _ _ ⟨⟨_,rfl⟩,putG s ks⟩ ?_
  (repeat' ((conv=>whnf);(first|refine SetN.mk _ rfl ?_|fail)));conv=>whnf
  refine loop_B Tryz.E0 zak (σ:=Nat×List ByteArray) (fun p=>p.1≤m.length∧addGs (insG ks s) m=addGs p.2 (m.drop p.1)) (fun p=>m.length-p.1) (fun p=>[(15,.v (.int .i64 p.1))]) (fun p=>H.set i (mpG p.2)) (fun _=>_) _ (0,(insG ks s)) (fun p _=>by simp) (fun p _=>zek hcl i _ (zgv _ _)) [1,13,14] rfl ⟨Nat.zero_le _,rfl⟩ ⟨⟨_,rfl,Wk.refl _⟩,trivial⟩ rfl rfl (fun _ _=>rfl) ?_
  rintro ⟨k,N⟩ ⟨hk,hj⟩
  simp only at hk hj
  have hNl:(H.set i (mpG N)).length=H.length:=by simp
  by_cases hlt:k<m.length
  ·have hmem:=zam m k (Fo.mk 0 .empty [] []) hlt
   rw [zfo m k (Fo.mk 0 .empty [] []) hlt,zbr] at hj
   have hx:=fun X=>hm _ hmem (H.set i (mpG N)++X) i N (zca (zcq hi0))
   obtain ⟨o2,s2,l2,m2,hxe⟩:∃ o2 s2 l2 m2,m.getD k (Fo.mk 0 .empty [] [])=Fo.mk o2 s2 l2 m2:=by
    cases m.getD k (Fo.mk 0 .empty [] []) with
    | mk o2 s2 l2 m2=>exact ⟨o2,s2,l2,m2,rfl⟩
   have hce:(m.getD k (Fo.mk 0 .empty [] [])).cells=[.int .u8 o2,.str s2,.sl none l2.length (l2.flatMap Tm.cells),.sl none m2.length (m2.flatMap Fo.cells)]:=by rw [hxe,zaf]
   rw [hce] at hx
   generalize hr2:addG N (m.getD k (Fo.mk 0 .empty [] []))=N' at *
   generalize hB2:mpG N'=B2 at *
   (repeat' ((conv=>whnf);(first|refine IfN.dT (by omega) ?_|(refine zad _ _ Cst.h Cst.h ?_ ?_;· omega)|(refine SideN.mk ?_ ?_;· first|omega|exact List.cons_ne_nil _ _|fail)|refine zah (Fo.mk 0 .empty [] []) k rfl hlt za1 hce ?_|refine zax i _ _ _ _ (zcq hi0) (by simp) rfl (hx _) (List.set_set ..) ?_|fail)));conv=>whnf
   subst hB2
   (refine ⟨⟨(k+1,N'),⟨by simp only;omega,hj⟩,by omega,?_,.inl ⟨rfl,rfl⟩,rfl,_,rfl,?_⟩⟩;rotate_left 1;exact .inr ⟨by simp [zc3,below,zae,tr,zaz,zar],by simp [zdw,Blk.below,zae,below,zaz,zar]⟩;exact ⟨⟨_,rfl,Wk.refl _⟩,trivial⟩)
  ·have hke:k=m.length:=by omega
   subst hke
   rw [List.drop_length,zbz] at hj
   rw [hj]
   (repeat' ((conv=>whnf);(first|refine zaj (by omega) ?_|fail)));conv=>whnf
   exact za6 (zgv _ _) trivial (Wk.refl _)
 ·rw [if_neg h1]
  have hi0:=hi
  refine fdG Tryz.func44 ⟨rfl,rfl,rfl⟩ fun hcl hbl=>?_
  (repeat' ((conv=>whnf);(first|refine zaj (by omega) ?_|fail)));conv=>whnf
  refine loop_B Tryz.E0 zak (σ:=Nat×List ByteArray) (fun p=>p.1≤m.length∧addGs ks m=addGs p.2 (m.drop p.1)) (fun p=>m.length-p.1) (fun p=>[(15,.v (.int .i64 p.1))]) (fun p=>H.set i (mpG p.2)) (fun _=>_) _ (0,ks) (fun p _=>by simp) (fun p _=>zek hcl i _ (zgv _ _)) [1,13,14] rfl ⟨Nat.zero_le _,rfl⟩ ⟨⟨_,rfl,Wk.refl _⟩,trivial⟩ (set_self hi0).symm rfl (fun _ _=>rfl) ?_
  rintro ⟨k,N⟩ ⟨hk,hj⟩
  simp only at hk hj
  have hNl:(H.set i (mpG N)).length=H.length:=by simp
  by_cases hlt:k<m.length
  ·have hmem:=zam m k (Fo.mk 0 .empty [] []) hlt
   rw [zfo m k (Fo.mk 0 .empty [] []) hlt,zbr] at hj
   have hx:=fun X=>hm _ hmem (H.set i (mpG N)++X) i N (zca (zcq hi0))
   obtain ⟨o2,s2,l2,m2,hxe⟩:∃ o2 s2 l2 m2,m.getD k (Fo.mk 0 .empty [] [])=Fo.mk o2 s2 l2 m2:=by
    cases m.getD k (Fo.mk 0 .empty [] []) with
    | mk o2 s2 l2 m2=>exact ⟨o2,s2,l2,m2,rfl⟩
   have hce:(m.getD k (Fo.mk 0 .empty [] [])).cells=[.int .u8 o2,.str s2,.sl none l2.length (l2.flatMap Tm.cells),.sl none m2.length (m2.flatMap Fo.cells)]:=by rw [hxe,zaf]
   rw [hce] at hx
   generalize hr2:addG N (m.getD k (Fo.mk 0 .empty [] []))=N' at *
   generalize hB2:mpG N'=B2 at *
   (repeat' ((conv=>whnf);(first|refine IfN.dT (by omega) ?_|(refine zad _ _ Cst.h Cst.h ?_ ?_;· omega)|(refine SideN.mk ?_ ?_;· first|omega|exact List.cons_ne_nil _ _|fail)|refine zah (Fo.mk 0 .empty [] []) k rfl hlt za1 hce ?_|refine zax i _ _ _ _ (zcq hi0) (by simp) rfl (hx _) (List.set_set ..) ?_|fail)));conv=>whnf
   subst hB2
   (refine ⟨⟨(k+1,N'),⟨by simp only;omega,hj⟩,by omega,?_,.inl ⟨rfl,rfl⟩,rfl,_,rfl,?_⟩⟩;rotate_left 1;exact .inr ⟨by simp [zc3,below,zae,tr,zaz,zar],by simp [zdw,Blk.below,zae,below,zaz,zar]⟩;exact ⟨⟨_,rfl,Wk.refl _⟩,trivial⟩)
  ·have hke:k=m.length:=by omega
   subst hke
   rw [List.drop_length,zbz] at hj
   rw [hj]
   (repeat' ((conv=>whnf);(first|refine zaj (by omega) ?_|fail)));conv=>whnf
   exact za6 (zgv _ _) trivial (Wk.refl _)
mutual
theorem add_g:∀ x:Fo,x.good→AddP x
 | .mk op s l m,h=>add_step op s l m (za4 h.2.2.2.2.1) (adds_g m h.2.2.2.2.2)
theorem adds_g:∀ l:List Fo,Fo.goodL l→∀ x∈l,AddP x
 | [],_,x,h=>by cases h
 | y::l,hg,x,h=>by
   have h1:=add_g y hg.1
   have h2:=adds_g l hg.2
   rcases List.mem_cons.1 h with e|h
   ·exact e▸h1
   ·exact h2 x h
end
end
section
open Go.Maps Go.Sort Go.Shelf Go.RowKit
open Go.WideElems (Fit rg)
open Go.WideShapes (sorted_perm)
def encSG (s:ByteArray):List AV:=[.str s]
theorem zag (n:Nat) (l:List ByteArray):zae n (l.flatMap encSG):=zgj _ fun x=>by simp [encSG,zae,below]
theorem sorts35g (m:Nat):AnyZ.SortsIn Tryz.prog Tryz.sorted45_ren Fence.wide m :=
 ⟨fun blk off cap ss W hH hblk hsz=>callsIn_wide.2 (AnyM.slices_Sort_string Tryz.sort76 blk off cap ss W hH hblk hsz),
  fun p cap W=>callsIn_wide.2 (AnyM.slices_Sort_string_none Tryz.sort76 p cap W)⟩
def sortG (ks:List ByteArray):List ByteArray:=ks.mergeSort (fun a b=>decide (a.data.toList≤b.data.toList))
theorem ext_belowG {g:G} {w w':World} (h:Below w.heap.size w w'):Ext g w g w' :=
 ⟨Nat.le_refl _,fun _ _ h=>h,fun _ h=>h,fun _ _=>rfl,fun _ _=>.inl rfl,fun _ _ _ h=>h,h.os,h.tape,h.output,Nat.le_refl _,h.size,fun b hb _=>h.block b hb,fun b cs t fz hb=>⟨cs,by rw [h.block b (za3 hb)];exact hb,rfl,fun _ _=>rfl⟩⟩
theorem keys_ofG {g:G} {w:World}:∀ {ks:List ByteArray} {l:List Value},LRel g w (ks.map fun c=>.str c) l→l=ks.map fun c=>.string c
 | [],_,h=>by simpa [LRel] using h
 | c::ks,_,h=>by
   simp only [List.map_cons,LRel] at h
   obtain ⟨v,r,rfl,h1,h2⟩:=h
   simp only [VRel] at h1
   subst h1
   rw [keys_ofG h2]
   rfl
def keyBG:Value→List UInt8
 | .string s=>s.data.toList
 | _=>[]
def anyRG (_:Value):Option (DataW Unit×List MemPlace):=some (.nil,[])
theorem own_ofG {g:G} {w:World} {b:Nat} {es:Array MapEntry} {clk:Nat} {ks:List ByteArray} (hb:w.heap[b]? = some (.map es clk)) (hclk:clk=es.size) (hbn:∀ (j:Nat) e,es[j]? = some e→e.born=j)
  (hk:LRel g w (ks.map fun c=>.str c) (es.toList.map (·.key))) (hn:ks.Nodup) (hl:ks.length≤100000) (hsz:∀ c∈ks,c.size≤maxLen):∃ D0:DataW Unit,w.ownsMap Tryz.prog (9) anyRG b ks.length D0∧(strKeys D0).Perm (ks.map fun c=>c.data.toList)∧Maps.size D0=ks.length:=by
 have hk:=keys_ofG hk
 have hlen:es.size=ks.length:=by
  have:=congrArg List.length hk
  simpa using this
 have hu:Tryz.prog.underlying 9=some .string:=Tryz.underlying9
 have hkey:∀ x∈es.toList,∃ c∈ks,x.key=.string c:=fun x hx=>by
  have:x.key∈es.toList.map (·.key):=List.mem_map.2 ⟨x,hx,rfl⟩
  rw [hk] at this
  obtain ⟨c,hc,e⟩:=List.mem_map.1 this
  exact ⟨c,hc,e.symm⟩
 have hrd:∀ x∈es.toList,∀ c,x.key=.string c→Go.WideElems.rd Tryz.prog (9) anyRG x=some (.string (c.data.toList),.nil):=fun x hx c hc=>by
  unfold Go.WideElems.rd keyOf
  rw [hu,hc]
  simp only [mapKey,hu]
  rw [if_pos (by obtain ⟨c',h1,h2⟩:=hkey x hx;rw [hc] at h2;cases h2;exact hsz c h1)]
  rfl
 refine ⟨_,⟨es,clk,hb,⟨by rw [hlen];simp only [maxLen];omega,⟨fun x hx=>?_,?_,?_⟩,fun x hx=>?_⟩,by omega,rfl⟩,?_,?_⟩
 ·obtain ⟨j,hj⟩:=List.getElem?_of_mem hx
  rw [Array.getElem?_toList] at hj
  have h1:=hbn j x hj
  have:=(Array.getElem?_eq_some_iff.1 hj).1
  omega
 ·have:es.toList.map (·.born)=List.range es.size:=by
   apply List.ext_getElem?
   intro j
   rw [List.getElem?_map,Array.getElem?_toList]
   by_cases hj:j<es.size
   ·rw [Array.getElem?_eq_getElem hj,List.getElem?_range hj]
    simp [hbn j _ (Array.getElem?_eq_getElem hj)]
   ·rw [Array.getElem?_eq_none (by omega),List.getElem?_eq_none (by simpa using hj)]
    rfl
  rw [this]
  exact List.nodup_range
 ·rw [hk]
  exact List.pairwise_map.2 (hn.imp fun {a b} hab e=>hab (by simpa using e))
 ·obtain ⟨c,-,hc⟩:=hkey x hx
  exact ⟨_,hrd x hx c hc⟩
 ·have h1:(es.toList.map (rg Tryz.prog (9) anyRG)).map (fun p=>strOf p.1)=ks.map fun c=>c.data.toList:=by
   refine (List.map_map ..).trans ((List.map_congr_left (g:=fun x=>keyBG x.key) fun x hx=>?_).trans ?_)
   ·obtain ⟨c,-,hc⟩:=hkey x hx
    simp only [Function.comp]
    unfold rg
    rw [hrd x hx c hc,hc]
    rfl
   have h3:es.toList.map (fun x=>keyBG x.key)=(es.toList.map (·.key)).map keyBG:=by rw [List.map_map];rfl
   rw [h3,hk,List.map_map]
   rfl
  rw [← h1]
  exact (sorted_perm _).map _
 ·show (((es.toList.map (rg Tryz.prog (9) anyRG)).foldr DataW.insert []).length)=_
  rw [(sorted_perm _).length_eq]
  simp [hlen]
theorem sort_ofG {ks:List ByteArray} {ss:List (List UInt8)} (h:ss.Perm (ks.map fun c=>c.data.toList)):(ss.mergeSort fun x y=>decide (x≤y))=(sortG ks).map fun c=>c.data.toList:=by
 refine (mergeSort_of_perm h).trans ?_
 unfold sortG
 refine (List.map_mergeSort (f:=fun c:ByteArray=>c.data.toList) (r:=fun a b=>decide (a.data.toList≤b.data.toList)) (s:=leB) (l:=ks) fun a _ b _=>?_).symm
 rfl
theorem sortedG_c (H:Heap) (i p:Nat) (ks:List ByteArray) (hi:H[i]? = some (mpG ks)) (hp:H[p]? = some (.box 76 [.mp i])) (hn:ks.Nodup) (hl:ks.length≤100000) (hsz:∀ c∈ks,c.size≤maxLen) :
  VDet Tryz.prog 45 [.clo (.func 77) [] [.ptr p 0]] H (.sl none ks.length ((sortG ks).flatMap encSG)):=by
 refine ⟨⟨_,Tryz.func45,by kernel_rfl,rfl⟩,fun g w xs hH hL=>?_⟩
 obtain ⟨c,r,has,hc,hr⟩:=hL
 simp only [LRel] at hr
 subst hr
 simp only [VRel,fnG] at hc
 obtain ⟨-,f',c',rfl,hf,hc'⟩:=hc
 simp only [LRel,VRel] at hf hc'
 obtain ⟨q,r,hcl,⟨-,rfl⟩,rfl⟩:=hc'
 have hf:f'=#[]:=by simpa using congrArg List.toArray hf
 have hcl:c'=#[.pointer (some ⟨g.blk p,0,none⟩)]:=by simpa using congrArg List.toArray hcl
 have has:xs=#[.func (.func 77) f' c']:=by simpa using congrArg List.toArray has
 subst has hf hcl
 -- the map
 obtain ⟨es,clk,hb,⟨hclk,hbn⟩,hk,-,-⟩:=hH.rel i _ (by simpa [Hp.all,Hp.of] using hi)
 obtain ⟨D0,hown,hperm,hsize⟩:=own_ofG hb hclk hbn hk hn hl hsz
 -- its box
 obtain ⟨cs,hcs,hcr,-⟩:=hH.rel p _ (by simpa [Hp.all,Hp.of] using hp)
 simp only [LRel,VRel] at hcr
 obtain ⟨q,r,hcr,⟨-,rfl⟩,rfl⟩:=hcr
 have hcr:cs=#[.map (some (g.blk i))]:=by simpa using congrArg List.toArray hcr
 subst hcr
 have hseq:SeqGives Fence.wide 2 Tryz.prog 77 #[.pointer (some ⟨g.blk p,0,none⟩)] encStr (fun ss=>ss.Perm (strKeys D0)) (Maps.size D0) w :=
  AnyZ.keys_gives (ρ:=Tryz.keys46_ren) { Tryz.keys46 with } Fence.wide _ trivial rfl (by omega) (g.blk p) (g.blk i) ks.length D0 w (za3 hcs) (cell_iff.2 ⟨_,_,_,hcs,rfl⟩) hown
 have hcall:=AnyZ.sorted_in Tryz.sorted45 Fence.wide 5 trivial trivial trivial trivial rfl (by omega) (sorts35g _) (enters_of Tryz.func76 (by kernel_rfl) rfl) _ #[.pointer (some ⟨g.blk p,0,none⟩)] trivial (enters_of Tryz.func77 (by kernel_rfl) rfl) _ _ (by rw [hsize];unfold maxLen;omega) (by rw [hsize];omega) w hseq
 change CallsIn _ _ Tryz.prog 45 _ _ _ at hcall
 refine (callsIn_wide.1 hcall).mono ?_
 rintro e w' ⟨v,ss,rfl,hS,hrow,hnil,hbel⟩
 have hsort:=sort_ofG (hS.trans hperm)
 have hlen:ss.length=ks.length:=by rw [(hS.trans hperm).length_eq];simp
 rw [hsort] at hrow
 have hx:Ext g w g w':=ext_belowG hbel
 refine ⟨_,_,g,v,rfl,⟨rfl,rfl⟩,hH.keepAll hx fun b hb=>hbel.block b hb,?_,hx⟩
 have henc:((sortG ks).map fun c=>c.data.toList).map encStr=(sortG ks).map fun c=>.string c:=by
  rw [List.map_map];rfl
 rw [henc,hlen] at hrow
 simp only [VRel]
 rcases hrow.2 with ⟨rfl,h0⟩|⟨gb,cap,cur,rfl,hbase,hgb,h1,h2,h3,h4⟩
 ·have:sortG ks=[]:=by
   apply List.eq_nil_of_length_eq_zero
   have:=hrow.1
   simp at this
   omega
  rw [this,h0]
  exact ⟨none,0,rfl,Nat.le_refl _,.inl rfl,fun t e=>by cases e⟩
 ·refine ⟨_,cap,rfl,h1,.inr ⟨gb,0,rfl,MRel.mk fun j u hj=>?_⟩,fun t e=>by cases e⟩
  have hfm:(sortG ks).flatMap encSG=(sortG ks).map fun c=>.str c:=by
   exact List.map_eq_flatMap.symm
  rw [hfm,List.getElem?_map] at hj
  obtain ⟨c,hc,rfl⟩:=Option.map_eq_some_iff.1 hj
  refine ⟨.string c,cell_iff.2 ⟨cur,_,_,hgb,?_⟩,by simp [VRel],fun ho=>?_⟩
  ·have h5:=congrArg (fun l=>l[j]?) h4
   simp only [List.getElem?_map,hc,Option.map_some] at h5
   rw [List.getElem?_take] at h5
   split at h5
   ·simpa using h5
   ·cases h5
  ·have:=hH.lt _ _ ho
   omega
end
section
attribute [local irreducible] VW VCall VO bits
theorem zb7 (n:Nat):∀ ks:List ByteArray,zae n (ks.map fun c=>.str c)
 | []=>trivial
 | _::l=>⟨trivial,zb7 n l⟩
theorem zcj (n:Nat):∀ ks:List ByteArray,zae n (ks.map fun _=>.bool true)
 | []=>trivial
 | _::l=>⟨trivial,zcj n l⟩
def zao (l:List Fo):List ByteArray:=sortG (addGs [] l)
theorem insG_nodup {ks:List ByteArray} (h:ks.Nodup) (c:ByteArray):(insG ks c).Nodup:=by
 unfold insG
 split
 ·exact h
 ·rename_i hc
  refine List.nodup_append.2 ⟨h,by simp,fun a ha b hb e=>?_⟩
  simp only [List.mem_singleton] at hb
  exact hc ((zdj c ks).2 (hb▸e▸ha))
mutual
theorem addG_nodup:∀ (f:Fo) {ks:List ByteArray},ks.Nodup→(addG ks f).Nodup
 | .mk op s l m,ks,h=>by
   unfold addG
   refine zdx m ?_
   split
   ·exact insG_nodup h s
   ·exact h
theorem zdx:∀ (l:List Fo) {ks:List ByteArray},ks.Nodup→(addGs ks l).Nodup
 | [],ks,h=>by rw [zbz];exact h
 | f::l,ks,h=>by rw [zbr];exact zdx l (addG_nodup f h)
end
theorem insG_size {ks:List ByteArray} (h:∀ c∈ks,c.size≤maxLen) {c:ByteArray} (hc:c.size≤maxLen):∀ d∈insG ks c,d.size≤maxLen:=by
 intro d hd
 unfold insG at hd
 split at hd
 ·exact h d hd
 ·rcases List.mem_append.1 hd with hd|hd
  ·exact h d hd
  ·simp only [List.mem_singleton] at hd
   exact hd▸hc
mutual
theorem addG_size:∀ (f:Fo) {ks:List ByteArray},f.good→(∀ c∈ks,c.size≤maxLen)→∀ c∈addG ks f,c.size≤maxLen
 | .mk op s l m,ks,hg,h=>by
   unfold addG
   refine addGs_size m hg.2.2.2.2.2 ?_
   split
   ·exact insG_size h hg.2.1
   ·exact h
theorem addGs_size:∀ (l:List Fo) {ks:List ByteArray},Fo.goodL l→(∀ c∈ks,c.size≤maxLen)→∀ c∈addGs ks l,c.size≤maxLen
 | [],ks,_,h=>by rw [zbz];exact h
 | f::l,ks,hg,h=>by rw [zbr];exact addGs_size l hg.2 (addG_size f hg.1 h)
end
theorem addGs_take (l:List Fo) (d:Fo):∀ (ks:List ByteArray) (j:Nat),j<l.length→addG (addGs ks (l.take j)) (l.getD j d)=addGs ks (l.take (j+1)):=by
 induction l with
 | nil=>intro ks j hj;simp at hj
 | cons f l ih =>
   intro ks j hj
   cases j with
   | zero=>simp [zbr,zbz]
   | succ j =>
     simp only [List.length_cons] at hj
     simp only [List.take_succ_cons,zbr,List.getD_cons_succ]
     exact ih _ _ (by omega)
theorem keysG_c (H:Heap) (i:Nat):VCall Tryz.prog 46 [.mp i] H (fun r H'=>r=.clo (.func 77) [] [.ptr (H.length+0) 0]∧H'=H++[.box 76 [.mp i]]):=by
 refine fdG Tryz.func46 ⟨rfl,rfl,rfl⟩ fun hcl hbl=>?_
 conv=>whnf
 exact EndN.keep _ (Wk.refl _) ⟨rfl,rfl⟩
theorem atoms_g (l:List Fo) (hg:Fo.goodL l) (hlen:l.length≤9223372036854775807) (hn:(addGs [] l).length≤100000) (H:Heap):VDet Tryz.prog 10 [.sl none l.length (l.flatMap Fo.cells)] H (.sl none (zao l).length ((zao l).flatMap encSG)):=by
 refine fdD Tryz.func10 ⟨rfl,rfl,rfl⟩ fun hcl hbl=>?_
 conv=>whnf
 refine zau Tryz.E0 zak (σ:=Nat) (fun j=>j≤l.length) (fun j=>l.length-j) (fun j=>[(9,.v (.int .i64 j))]) (fun j=>[mpG (addGs [] (l.take j))]) _ 0 rfl hcl [3,7,8] rfl (Nat.zero_le _) ⟨⟨_,rfl,Wk.refl _⟩,trivial⟩ (by rw [List.take_zero,zbz];rfl) (fun _ _=>rfl) ?_
 intro j hj
 clear hbl
 by_cases hlt:j<l.length
 ·have hmem:=zam l j (Fo.mk 0 .empty [] []) hlt
  have h34:∀ (X:Heap),VCall Tryz.prog 44 [.agg (l.getD j (Fo.mk 0 .empty [] [])).cells,.mp (H.length+0)] (H++(mpG (addGs [] (l.take j))::X)) (setR (H++(mpG (addGs [] (l.take j))::X)) (H.length+0) (mpG (addGs [] (l.take (j+1)))) (.tup [])):=fun X=>by
   rw [← addGs_take l (Fo.mk 0 .empty [] []) [] j hlt]
   exact adds_g l hg _ hmem _ _ _ (by simp)
  obtain ⟨o2,s2,l2,m2,hxe⟩:∃ o2 s2 l2 m2,l.getD j (Fo.mk 0 .empty [] [])=Fo.mk o2 s2 l2 m2:=by
   cases l.getD j (Fo.mk 0 .empty [] []) with
   | mk o2 s2 l2 m2=>exact ⟨o2,s2,l2,m2,rfl⟩
  have hce:(l.getD j (Fo.mk 0 .empty [] [])).cells=[.int .u8 o2,.str s2,.sl none l2.length (l2.flatMap Tm.cells),.sl none m2.length (m2.flatMap Fo.cells)]:=by rw [hxe,zaf]
  rw [hce] at h34
  (repeat' ((conv=>whnf);(first|refine IfN.dT (by omega) ?_|(refine zad _ _ Cst.h Cst.h ?_ ?_;· omega)|(refine SideN.mk ?_ ?_;· first|omega|exact List.cons_ne_nil _ _|fail)|refine zah (Fo.mk 0 .empty [] []) j rfl hlt za1 hce ?_|refine CallN.setL 0 _ _ _ rfl rfl (h34 _) rfl ?_|fail)));conv=>whnf
  unfold mpG
  (refine ⟨⟨j+1,by omega,by omega,?_,.inl ⟨rfl,rfl⟩,rfl,_,rfl,?_⟩⟩;rotate_left 1;exact .inr ⟨by simp [zc3,below,zae,tr,zaz,zar,zag,zb7,zcj],by simp [zdw,Blk.below,zae,below,zaz,zar,zag,zb7,zcj]⟩;exact ⟨⟨_,rfl,Wk.refl _⟩,trivial⟩)
 ·obtain rfl:j=l.length:=by omega
  rw [List.take_length]
  have hs:(zao l).length=(addGs [] l).length:=by unfold zao sortG;exact List.length_mergeSort _
  have h35:=sortedG_c (H++[mpG (addGs [] l),.box 76 [.mp (H.length+0)]]) (H.length+0) ((H++[mpG (addGs [] l)]).length+0) (addGs [] l) (by simp) (by simp) (zdx l List.nodup_nil) hn (addGs_size l hg fun c h=>by simp at h)
  rw [← hs] at h35
  unfold zao at hs ⊢
  (repeat' ((conv=>whnf);(first|refine zaj (by omega) ?_|refine CallN.det _ (h35) ?_|refine zf5 _ _ _ 2 (keysG_c _ _) rfl rfl rfl ?_|fail)));conv=>whnf
  exact EndN.det ⟨fun _ e=>(nomatch e),zag _ _⟩ (Wk.refl _)
def synR (f:Fo):Bool:=(jF 1 f 400).2
theorem synRight_g' (f:Fo) (hg:f.good) (H:Heap):VDet Tryz.prog 58 [.agg f.cells] H (.bool (synR f)):=by
 have h1:=form_g f hg (H++[.box 40 f.cells,jB 400]) (H.length+1) 400 1 (zdf rfl) ⟨by omega,by omega⟩ (by omega)
 unfold synR
 generalize hr:jF 1 f 400=r at *
 obtain ⟨M,b⟩:=r
 simp only at h1 ⊢
 generalize hB:jB M=B at *
 unfold jB at h1
 obtain ⟨op,s,l,m⟩:=f
 rw [zaf] at h1 ⊢
 refine fdD Tryz.func58 ⟨rfl,rfl,rfl⟩ fun hcl hbl=>?_
 (repeat' ((conv=>whnf);(first|refine CallN.setL 1 _ _ _ rfl rfl h1 rfl ?_|fail)));conv=>whnf
 exact eT trivial
mutual
def propF:Fo→Bool
 | .mk op _ l m=>decide (1≤op∧op≤7∧l.length=0)&&propFs m
def propFs:List Fo→Bool
 | []=>true
 | x::l=>propF x&&propFs l
end
theorem propFs_all:∀ l:List Fo,propFs l=l.all propF
 | []=>by unfold propFs;rfl
 | x::l=>by
   rw [propFs.eq_def]
   simp only
   rw [List.all_cons,propFs_all l]
def PropP (x:Fo):Prop:=∀ H,VDet Tryz.prog 59 [.agg x.cells] H (.bool (propF x))
theorem prop_step (op:Nat) (s:ByteArray) (l:List Tm) (m:List Fo) (hop:op≤255) (hll:l.length≤9223372036854775807) (hml:m.length≤9223372036854775807) (hm:∀ x∈m,PropP x):PropP (.mk op s l m):=by
 intro H
 rw [zaf]
 unfold propF
 rw [propFs_all]
 by_cases h:1≤op∧op≤7∧l.length=0
 ·rw [decide_eq_true h,Bool.true_and]
  obtain ⟨h1,h2,h3⟩:=h
  refine fdD Tryz.func59 ⟨rfl,rfl,rfl⟩ fun hcl hbl=>?_
  (repeat' ((conv=>whnf);(first|refine zaj (by omega) ?_|fail)));conv=>whnf
  refine zau Tryz.E0 zak (σ:=Nat) (fun j=>j≤m.length∧∀ i,i<j→propF (m.getD i (Fo.mk 0 .empty [] []))=true) (fun j=>m.length-j) (fun j=>[(22,.v (.int .i64 j))]) (fun _=>_) _ 0 rfl hcl [20,21] rfl ⟨Nat.zero_le _,fun i hi=>by omega⟩ ⟨⟨_,rfl,Wk.refl _⟩,trivial⟩ rfl (fun _ _=>rfl) ?_
  rintro j ⟨hj,hall⟩
  clear hbl
  by_cases hlt:j<m.length
  ·have hmem:=zam m j (Fo.mk 0 .empty [] []) hlt
   have hx:=hm _ hmem
   unfold PropP at hx
   obtain ⟨o2,s2,l2,m2,hxe⟩:∃ o2 s2 l2 m2,m.getD j (Fo.mk 0 .empty [] [])=Fo.mk o2 s2 l2 m2:=by
    cases m.getD j (Fo.mk 0 .empty [] []) with
    | mk o2 s2 l2 m2=>exact ⟨o2,s2,l2,m2,rfl⟩
   have hce:(m.getD j (Fo.mk 0 .empty [] [])).cells=[.int .u8 o2,.str s2,.sl none l2.length (l2.flatMap Tm.cells),.sl none m2.length (m2.flatMap Fo.cells)]:=by rw [hxe,zaf]
   rw [hce] at hx
   cases hb:propF (m.getD j (Fo.mk 0 .empty [] [])) with
   | true =>
     rw [hb] at hx
     (repeat' ((conv=>whnf);(first|(refine IfN.id ?_;first|refine IfN.not ?_|refine IfN.tt rfl ?_|refine IfN.dT (by omega) ?_|fail)|(refine zad _ _ Cst.h Cst.h ?_ ?_;· omega)|(refine SideN.mk ?_ ?_;· first|omega|exact List.cons_ne_nil _ _|fail)|refine CallN.det _ (hx _) ?_|refine zah (Fo.mk 0 .empty [] []) j rfl hlt za1 hce ?_|fail)));conv=>whnf
     (refine ⟨⟨j+1,⟨by omega,fun i hi=>by
      by_cases e:i=j
      ·rw [e];exact hb
      ·exact hall i (by omega)⟩,by omega,?_,.inl ⟨rfl,rfl⟩,rfl,_,rfl,?_⟩⟩;rotate_left 1;exact .inr ⟨by simp [zc3,below,zae,tr,zaz,zar],by simp [zdw,Blk.below,zae,below,zaz,zar]⟩;exact ⟨⟨_,rfl,Wk.refl _⟩,trivial⟩)
   | false =>
     rw [hb] at hx
     (repeat' ((conv=>whnf);(first|(refine IfN.id ?_;first|refine IfN.not ?_|refine IfN.ff rfl ?_|refine IfN.dT (by omega) ?_|fail)|(refine SideN.mk ?_ ?_;· first|omega|exact List.cons_ne_nil _ _|fail)|refine CallN.det _ (hx _) ?_|refine zah (Fo.mk 0 .empty [] []) j rfl hlt za1 hce ?_|fail)));conv=>whnf
     have:m.all propF=false:=by
      apply Bool.eq_false_iff.2
      intro hA
      rw [List.all_eq_true.1 hA _ hmem] at hb
      cases hb
     rw [this]
     exact eT trivial
  ·have:m.all propF=true:=by
    rw [List.all_eq_true]
    intro x hx
    obtain ⟨i,hi,rfl⟩:=List.getElem_of_mem hx
    have:=hall i (by omega)
    rwa [show m.getD i (Fo.mk 0 .empty [] [])=m[i] by simp [List.getD_eq_getElem?_getD,hi]] at this
   rw [this]
   (repeat' ((conv=>whnf);(first|refine zaj (by omega) ?_|fail)));conv=>whnf
   exact eT trivial
 ·rw [decide_eq_false h,Bool.false_and]
  generalize l.flatMap Tm.cells=lc at *
  generalize m.flatMap Fo.cells=mc at *
  generalize l.length=ln at *
  generalize m.length=mn at *
  refine fdD Tryz.func59 ⟨rfl,rfl,rfl⟩ fun hcl hbl=>?_
  (repeat' ((conv=>whnf);(first|(refine IfN.id ?_;first|refine IfN.dT (by omega) ?_|refine za9 (fun _=>?_) (fun _=>?_)|fail)|fail)));all_goals (conv=>whnf)
  all_goals exact eT trivial
mutual
theorem prop_g:∀ x:Fo,x.good→PropP x
 | .mk op s l m,h=>prop_step op s l m h.1 (za4 h.2.2.1) (za4 h.2.2.2.2.1) (props_g m h.2.2.2.2.2)
theorem props_g:∀ l:List Fo,Fo.goodL l→∀ x∈l,PropP x
 | [],_,x,h=>by cases h
 | y::l,hg,x,h=>by
   have h1:=prop_g y hg.1
   have h2:=props_g l hg.2
   rcases List.mem_cons.1 h with e|h
   ·exact e▸h1
   ·exact h2 x h
end
def zbe (f:Fo):Bool:=synR f&&propF f
theorem right_g' (f:Fo) (hg:f.good) (H:Heap):VDet Tryz.prog 23 [.agg f.cells] H (.bool (zbe f)):=by
 have h1:=synRight_g' f hg
 have h2:=prop_g f hg
 unfold PropP at h2
 unfold zbe
 generalize synR f=a at *
 generalize propF f=b at *
 obtain ⟨op,s,l,m⟩:=f
 rw [zaf] at h1 h2 ⊢
 cases a with
 | true =>
   refine fdD Tryz.func23 ⟨rfl,rfl,rfl⟩ fun hcl hbl=>?_
   (repeat' ((conv=>whnf);(first|refine IfN.tt rfl ?_|(refine CallN.id ?_;first|refine CallN.det _ (h1 _) ?_|refine CallN.det _ (h2 _) ?_|fail)|fail)));conv=>whnf
   exact eT trivial
 | false =>
   refine fdD Tryz.func23 ⟨rfl,rfl,rfl⟩ fun hcl hbl=>?_
   (repeat' ((conv=>whnf);(first|refine IfN.ff rfl ?_|refine CallN.det _ (h1 _) ?_|fail)));conv=>whnf
   exact eT trivial
end
inductive Fp where
 | at (c:ByteArray)
 | fa
 | f1 (a:Fp)
 | f2 (k:Nat) (a b:Fp)
def Fp.fo:Fp→Fo
 | .at c=>.mk 1 c [] []
 | .fa=>.mk 2 .empty [] []
 | .f1 a=>.mk 3 .empty [] [a.fo]
 | .f2 k a b=>.mk k .empty [] [a.fo,b.fo]
def Fp.Ok:Fp→Prop
 | .at c=>zd1 c=true
 | .fa=>True
 | .f1 a=>a.Ok
 | .f2 k a b=>(k=4∨k=5∨k=6∨k=7)∧a.Ok∧b.Ok
theorem emptyB_eq {s:ByteArray} (h:zej s=true):s=.empty:=by
 unfold zej at h
 rw [beq_iff_eq] at h
 exact ba_eq h
theorem jFs_true {d:Nat}:∀ {l:List Fo} {L:Int},(jFs d l L).2=true→∀ x∈l,∃ M,(jF d x M).2=true
 | y::l,L,h,x,hx=>by
   rw [jFs_cons] at h
   split at h
   ·rename_i hb
    rcases List.mem_cons.1 hx with e|hx
    ·exact ⟨L,e▸hb⟩
    ·exact jFs_true h x hx
   ·cases h
theorem row_fact:∀ op,1≤op∧op≤7→rowS op=(if op≤2 then 0 else if op=3 then 1 else 2)∧rowN op=(if op=1 then 1 else 0):=by
 intro op h
 have:op=1∨op=2∨op=3∨op=4∨op=5∨op=6∨op=7:=by omega
 rcases this with rfl|rfl|rfl|rfl|rfl|rfl|rfl <;> decide
theorem fp_of:∀ (f:Fo) (d:Nat) (L:Int),(jF d f L).2=true→propF f=true→∃ p:Fp,p.Ok∧f=p.fo
 | .mk op s l m,d,L,h1,h2=>by
   unfold propF at h2
   rw [Bool.and_eq_true,decide_eq_true_eq,propFs_all,List.all_eq_true] at h2
   obtain ⟨⟨q1,q2,q3⟩,q4⟩:=h2
   unfold jF at h1
   split at h1
   ·cases h1
   ·split at h1
    ·cases h1
    ·split at h1
     ·cases h1
     ·rename_i h3
      have h3:=Classical.not_not.1 h3
      obtain ⟨r1,r2⟩:=row_fact op ⟨q1,q2⟩
      have hl:l=[]:=List.eq_nil_of_length_eq_zero q3
      split at h1
      ·have hsub:=jFs_true h1
       have hm:=h3.2.2
       rw [r1] at hm
       rw [r2] at h3
       have hs:op≠1→s=.empty:=fun e=>by
        have:=h3.1
        rw [if_neg e] at this
        exact emptyB_eq (by simpa [zfj] using this)
       have hop:op=1∨op=2∨op=3∨4≤op:=by omega
       rcases hop with rfl|rfl|rfl|h4
       ·have hm0:m=[]:=List.eq_nil_of_length_eq_zero (by simpa using hm)
        subst hm0 hl
        exact ⟨.at s,by simpa [zfj,Fp.Ok] using h3.1,rfl⟩
       ·have hm0:m=[]:=List.eq_nil_of_length_eq_zero (by simpa using hm)
        subst hm0 hl
        exact ⟨.fa,trivial,by rw [hs (by omega)];rfl⟩
       ·rw [if_neg (by omega),if_pos rfl] at hm
        match m,hm with
        | [a],_ =>
          obtain ⟨M,hM⟩:=hsub a (by simp)
          obtain ⟨p,hp1,hp2⟩:=fp_of a _ M hM (q4 a (by simp))
          subst hl
          exact ⟨.f1 p,hp1,by rw [hs (by omega),hp2];rfl⟩
       ·rw [if_neg (by omega),if_neg (by omega)] at hm
        match m,hm with
        | [a,b],_ =>
          obtain ⟨M,hM⟩:=hsub a (by simp)
          obtain ⟨N,hN⟩:=hsub b (by simp)
          obtain ⟨p,hp1,hp2⟩:=fp_of a _ M hM (q4 a (by simp))
          obtain ⟨q,hq1,hq2⟩:=fp_of b _ N hN (q4 b (by simp))
          subst hl
          exact ⟨.f2 op p q,⟨by omega,hp1,hq1⟩,by rw [hs (by omega),hp2,hq2];rfl⟩
      ·cases h1
theorem zez {f:Fo} (h:zbe f=true):∃ p:Fp,p.Ok∧f=p.fo:=by
 unfold zbe at h
 rw [Bool.and_eq_true] at h
 exact fp_of f 1 400 h.1 h.2
section
attribute [local irreducible] VW VCall VO bits
def eN:ByteArray:=.empty
def lessB (a b:ByteArray):Bool:=Op.bytesLess a.toList b.toList
def nmAt (l:List ByteArray) (i:Nat):Bool:=zd1 (l.getD i eN)&&(decide (i=0) || lessB (l.getD (i-1) eN) (l.getD i eN))
def isNmG (l:List ByteArray):Bool:=(List.range l.length).all (nmAt l)
def ixG (n:Nat):List AV:=(List.range n).map fun j:Nat=>.int .i64 (j:Int)
theorem zdr (n m:Nat):zae n (ixG m):=by
 unfold ixG
 induction List.range m with
 | nil=>trivial
 | cons x l ih=>exact ⟨trivial,ih⟩
theorem zgy (l:List ByteArray) (hlen:l.length≤9223372036854775807) (hsz:∀ c∈l,c.size≤maxLen) (H:Heap):VDet Tryz.prog 57 [.sl none l.length (l.flatMap encSG)] H (.bool (isNmG l)):=by
 refine fdD Tryz.func57 ⟨rfl,rfl,rfl⟩ fun hcl hbl=>?_
 conv=>whnf
 refine zau Tryz.E0 zak (σ:=Nat) (fun k=>k≤l.length∧∀ i,i<k→nmAt l i=true) (fun k=>l.length-k) (fun k=>[(7,.v (.int .i64 k))]) (fun _=>[]) _ 0 rfl hcl [0,5,6] rfl ⟨Nat.zero_le _,fun i hi=>by omega⟩ ⟨⟨_,rfl,Wk.refl _⟩,trivial⟩ rfl (fun _ _=>rfl) ?_
 rintro k ⟨hk,hall⟩
 clear hbl
 by_cases hlt:k<l.length
 ·have hp:=predicate_g (l.getD k eN) (za4 (hsz _ (zam l k eN hlt)))
  have hfalse:nmAt l k=false→isNmG l=false:=fun h=>by
   apply Bool.eq_false_iff.2
   intro hA
   rw [List.all_eq_true.1 hA k (List.mem_range.2 hlt)] at h
   cases h
  have hdef:nmAt l k=(zd1 (l.getD k eN)&&(decide (k=0) || lessB (l.getD (k-1) eN) (l.getD k eN))):=rfl
  have hlb:Op.bytesLess (l.getD (k-1) eN).toList (l.getD k eN).toList=lessB (l.getD (k-1) eN) (l.getD k eN):=rfl
  cases hpb:zd1 (l.getD k eN) with
  | false =>
    rw [hpb] at hp hdef
    rw [hfalse (by rw [hdef];rfl)]
    (repeat' ((conv=>whnf);(first|(refine IfN.id ?_;first|refine IfN.not ?_|refine IfN.ff rfl ?_|refine IfN.dT (by omega) ?_|fail)|(refine SideN.mk ?_ ?_;· first|omega|exact List.cons_ne_nil _ _|fail)|refine CallN.det _ (hp _) ?_|refine zba (f:=encSG) (l:=l) eN k rfl hlt (fun _=>rfl) ?_|fail)));conv=>whnf
    exact eT trivial
  | true =>
    rw [hpb] at hp hdef
    cases hlb2:lessB (l.getD (k-1) eN) (l.getD k eN) with
    | true =>
      rw [hlb2] at hlb hdef
      have hok:nmAt l k=true:=by rw [hdef];simp
      (repeat' ((conv=>whnf);(first|(refine IfN.id ?_;first|refine IfN.tt hlb ?_|refine IfN.not ?_|refine IfN.tt rfl ?_|refine IfN.dT (by omega) ?_|refine za9 (fun _=>?_) (fun _=>?_)|fail)|(refine EqN.id ?_;first|(refine zad _ _ Cst.h Cst.h ?_ ?_;· omega)|(refine zcu _ _ Cst.h Cst.h ?_ ?_;· omega)|fail)|(refine SideN.mk ?_ ?_;· first|omega|exact List.cons_ne_nil _ _|fail)|refine CallN.det _ (hp _) ?_|refine zba (f:=encSG) (l:=l) eN k rfl hlt (fun _=>rfl) ?_|refine zba (f:=encSG) (l:=l) eN (k-1) (by omega) (by omega) (fun _=>rfl) ?_|fail)));all_goals (conv=>whnf)
      all_goals (refine ⟨⟨k+1,⟨by omega,fun i hi=>by
       by_cases e:i=k
       ·rw [e];exact hok
       ·exact hall i (by omega)⟩,by omega,?_,.inl ⟨rfl,rfl⟩,rfl,_,rfl,?_⟩⟩;rotate_left 1;exact .inl rfl;exact ⟨⟨_,rfl,Wk.refl _⟩,trivial⟩)
    | false =>
      rw [hlb2] at hlb hdef
      by_cases h0:k=0
      ·have hok:nmAt l k=true:=by rw [hdef];simp [h0]
       (repeat' ((conv=>whnf);(first|(refine IfN.id ?_;first|refine IfN.not ?_|refine IfN.tt rfl ?_|refine IfN.dT (by omega) ?_|refine zaj (by omega) ?_|fail)|(refine zad _ _ Cst.h Cst.h ?_ ?_;· omega)|(refine SideN.mk ?_ ?_;· first|omega|exact List.cons_ne_nil _ _|fail)|refine CallN.det _ (hp _) ?_|refine zba (f:=encSG) (l:=l) eN k rfl hlt (fun _=>rfl) ?_|fail)));conv=>whnf
       all_goals (refine ⟨⟨k+1,⟨by omega,fun i hi=>by
        by_cases e:i=k
        ·rw [e];exact hok
        ·exact hall i (by omega)⟩,by omega,?_,.inl ⟨rfl,rfl⟩,rfl,_,rfl,?_⟩⟩;rotate_left 1;exact .inl rfl;exact ⟨⟨_,rfl,Wk.refl _⟩,trivial⟩)
      ·rw [hfalse (by rw [hdef];simp [h0])]
       (repeat' ((conv=>whnf);(first|(refine IfN.id ?_;first|refine IfN.ff hlb ?_|refine IfN.not ?_|refine IfN.tt rfl ?_|refine IfN.dT (by omega) ?_|fail)|(refine zcu _ _ Cst.h Cst.h ?_ ?_;· omega)|(refine SideN.mk ?_ ?_;· first|omega|exact List.cons_ne_nil _ _|fail)|refine CallN.det _ (hp _) ?_|refine zba (f:=encSG) (l:=l) eN k rfl hlt (fun _=>rfl) ?_|refine zba (f:=encSG) (l:=l) eN (k-1) (by omega) (by omega) (fun _=>rfl) ?_|fail)));conv=>whnf
       all_goals exact eT trivial
 ·have:isNmG l=true:=List.all_eq_true.2 fun i hi=>hall i (by have:=List.mem_range.1 hi;omega)
  rw [this]
  (repeat' ((conv=>whnf);(first|refine zaj (by omega) ?_|fail)));conv=>whnf
  exact eT trivial
theorem index_g (l:List ByteArray) (c:ByteArray) (hlen:l.length≤9223372036854775807) (H:Heap):VPure Tryz.prog 102 [.sl none l.length (l.flatMap encSG),.str c] H (fun r=>∃ i:Int,r=.int .i64 i∧(0≤i↔c∈l)):=by
 refine fdP Tryz.func102 ⟨rfl,rfl,rfl⟩ fun hcl hbl=>?_
 conv=>whnf
 refine zau Tryz.E0 zak (σ:=Nat) (fun j=>j≤l.length∧∀ i,i<j→l.getD i eN≠c) (fun j=>l.length-j) (fun j=>[(8,.v (.int .i64 j))]) (fun j=>[]) _ 0 rfl hcl [0,1,7] rfl ⟨Nat.zero_le _,fun i hi=>absurd hi (by omega)⟩ ⟨⟨_,rfl,Wk.refl _⟩,trivial⟩ rfl (fun _ _=>rfl) ?_
 intro j hj
 clear hbl
 (repeat' ((conv=>whnf);(first|(refine IfN.id ?_;first|refine za9 (fun _=>?_) (fun _=>?_)|(refine IfN.mk ?_ ?_ <;> intro _)|fail)|(refine zad _ _ Cst.h Cst.h ?_ ?_;· omega)|(refine SideN.mk ?_ ?_;· first|omega|exact List.cons_ne_nil _ _|fail)|refine zba (f:=encSG) (l:=l) eN j rfl (by omega) (fun _=>rfl) ?_|fail)));all_goals (conv=>whnf)
 ·rename_i h1 h2
  rw [zfb,decide_eq_true_eq] at h2
  refine EndN.pure (v:=.int .i64 j) trivial (Wk.refl _) ⟨j,rfl,⟨fun _=>?_,fun _=>by omega⟩⟩
  rw [h2]
  exact zam l j eN (by omega)
 ·rename_i h1 h2
  rw [zfb,decide_eq_false_iff_not] at h2
  (refine ⟨⟨j+1,⟨by omega,fun i hi=>by
   rcases Nat.lt_or_ge i j with h|h
   ·exact hj.2 i h
   ·obtain rfl:i=j:=by omega
    exact fun e=>h2 e.symm⟩,by omega,?_,.inl ⟨rfl,rfl⟩,rfl,_,rfl,?_⟩⟩;rotate_left 1;exact .inl rfl;exact ⟨⟨_,rfl,Wk.refl _⟩,trivial⟩)
 ·refine EndN.pure (v:=.int .i64 (-1)) trivial (Wk.refl _) ⟨-1,rfl,⟨fun h=>absurd h (by omega),fun hc=>?_⟩⟩
  obtain ⟨i,hi,e⟩:=List.getElem_of_mem hc
  exact absurd (by simp [List.getD_eq_getElem?_getD,hi,e]) (hj.2 i (by omega))
theorem contains_g (l:List ByteArray) (c:ByteArray) (hlen:l.length≤9223372036854775807) (H:Heap):VDet Tryz.prog 81 [.sl none l.length (l.flatMap encSG),.str c] H (.bool (memG c l)):=by
 have hm:=zdj c l
 refine fdD Tryz.func81 ⟨rfl,rfl,rfl⟩ fun hcl hbl=>?_
 (repeat' ((conv=>whnf);(first|refine CallN.pure _ rfl rfl (index_g l c hlen _) ?_|fail)));conv=>whnf
 rintro r ⟨i,rfl,hi⟩
 conv=>whnf
 refine EndN.det trivial (zab (congrArg AV.bool (Bool.eq_iff_iff.2 ?_)))
 rw [hm,← hi]
 simp
end
section
attribute [local irreducible] VW VCall VO
def hdB (c:UInt8):UInt8:=UInt8.ofNat (c.toNat / 2)
def nmL (c:UInt8):List UInt8:=if c.toNat % 2=0 then [hdB c] else [hdB c,122,57]
def nm (c:UInt8):ByteArray:=⟨(nmL c).toArray⟩
theorem zg8:∀ a b:List UInt8,Op.bytesLess a b=decide (a<b)
 | [],[]=>rfl
 | [],b::m=>by simp [Op.bytesLess]
 | a::l,[]=>by simp [Op.bytesLess]
 | a::l,b::m=>by
   simp only [Op.bytesLess,zg8 l m]
   apply Bool.eq_iff_iff.2
   simp only [Bool.or_eq_true,Bool.and_eq_true,decide_eq_true_eq,beq_iff_eq,List.cons_lt_cons_iff]
def cap (c:UInt8):Prop:=130≤c.toNat∧c.toNat≤181
end
section
attribute [local irreducible] VW VCall VO bits
def opsK:List AV:=[.int .u8 2,.int .u8 3,.int .u8 4,.int .u8 5,.int .u8 6,.int .u8 7]
def opsV:List AV:=[.clo (.func 93) [] [],.clo (.func 94) [] [],.clo (.func 95) [] [],.clo (.func 96) [] [],.clo (.func 97) [] [],.clo (.func 98) [] []]
end
section
def zal:Nat→(Nat→Bool)→Nat
 | 0,_=>0
 | n+1,g=>(g 0).toNat+2 * zal n fun i=>g (i+1)
theorem zb6:∀ (n:Nat) (g:Nat→Bool) (i:Nat),(zal n g).testBit i=(decide (i<n)&&g i)
 | 0,g,i=>by simp [zal]
 | n+1,g,0=>by
   simp only [zal,Nat.testBit_zero]
   cases g 0 <;> simp <;> omega
 | n+1,g,i+1=>by
   have h:(zal (n+1) g) / 2=zal n fun i=>g (i+1):=by
    simp only [zal]
    cases g 0 <;> simp <;> omega
   rw [Nat.testBit_succ,h,zb6]
   simp
theorem mk_lt:∀ (n:Nat) (g:Nat→Bool),zal n g<2 ^ n
 | 0,_=>by simp [zal]
 | n+1,g=>by
   have:=mk_lt n fun i=>g (i+1)
   simp only [zal,Nat.pow_succ]
   cases g 0 <;> simp <;> omega
theorem eq_mk {n x:Nat} {g:Nat→Bool} (hx:x<2 ^ n) (h:∀ i,i<n→x.testBit i=g i):x=zal n g:=by
 apply Nat.eq_of_testBit_eq
 intro i
 rw [zb6]
 by_cases hi:i<n
 ·simp [hi,h i hi]
 ·rw [Nat.testBit_lt_two_pow (Nat.lt_of_lt_of_le hx (Nat.pow_le_pow_right (by omega) (by omega)))]
  simp [hi]
theorem zdi {n:Nat} {g h:Nat→Bool} (e:∀ i,i<n→g i=h i):zal n g=zal n h :=
 eq_mk (mk_lt n g) fun i hi=>by rw [zb6];simp [hi,e i hi]
theorem wu64 {m:Nat} (h:m<2 ^ 64):IntKind.u64.wrap (m:Int)=m:=IntWalk.u64_in m (by omega)
theorem ofInt64u (m:Nat) (h:m<2 ^ 64):(BitVec.ofInt 64 (m:Int)).toNat=m:=by
 rw [BitVec.toNat_ofInt,Int.emod_eq_of_lt (by omega) (by omega)]
 simp
theorem zg9 (op:BinOp) (x y:Int):bits op .u64 x y=((match op with
   | .and=>BitVec.ofInt 64 x &&& BitVec.ofInt 64 y
   | .or=>BitVec.ofInt 64 x ||| BitVec.ofInt 64 y
   | .xor=>BitVec.ofInt 64 x ^^^ BitVec.ofInt 64 y
   | _=>BitVec.ofInt 64 x &&& ~~~BitVec.ofInt 64 y).toNat:Nat):=by
 have:∀ b:BitVec 64,IntKind.u64.wrap (b.toNat:Int)=b.toNat:=fun b=>wu64 b.isLt
 unfold bits
 cases op <;> exact this _
theorem tbU (m:Nat) (h:m<2 ^ 64) (i:Nat):(BitVec.ofInt 64 (m:Int)).toNat.testBit i=m.testBit i:=by rw [ofInt64u m h]
theorem zf1 (g h:Nat→Bool):bits .and .u64 (zal 64 g:Nat) (zal 64 h:Nat)=(zal 64 fun i=>g i&&h i:Nat):=by
 rw [zg9]
 refine congrArg Int.ofNat (eq_mk (BitVec.isLt _) fun i hi=>?_)
 simp only [BitVec.toNat_and,Nat.testBit_and,tbU _ (mk_lt 64 _),zb6,hi,decide_true,Bool.true_and]
theorem bits_or (g h:Nat→Bool):bits .or .u64 (zal 64 g:Nat) (zal 64 h:Nat)=(zal 64 fun i=>g i || h i:Nat):=by
 rw [zg9]
 refine congrArg Int.ofNat (eq_mk (BitVec.isLt _) fun i hi=>?_)
 simp only [BitVec.toNat_or,Nat.testBit_or,tbU _ (mk_lt 64 _),zb6,hi,decide_true,Bool.true_and]
theorem bits_xor (g h:Nat→Bool):bits .xor .u64 (zal 64 g:Nat) (zal 64 h:Nat)=(zal 64 fun i=>g i ^^ h i:Nat):=by
 rw [zg9]
 refine congrArg Int.ofNat (eq_mk (BitVec.isLt _) fun i hi=>?_)
 simp only [BitVec.toNat_xor,Nat.testBit_xor,tbU _ (mk_lt 64 _),zb6,hi,decide_true,Bool.true_and]
theorem bits_andNot (g h:Nat→Bool):bits .andNot .u64 (zal 64 g:Nat) (zal 64 h:Nat)=(zal 64 fun i=>g i&&!h i:Nat):=by
 rw [zg9]
 refine congrArg Int.ofNat (eq_mk (BitVec.isLt _) fun i hi=>?_)
 simp only [BitVec.toNat_and,BitVec.toNat_not,Nat.testBit_and]
 rw [Nat.sub_sub,Nat.add_comm 1,Nat.testBit_two_pow_sub_succ (BitVec.isLt _)]
 simp only [tbU _ (mk_lt 64 _),zb6,hi,decide_true,Bool.true_and]
theorem comU:comK .u64=((zal 64 fun _=>true:Nat):Int):=by decide
theorem bits_com (g:Nat→Bool):bits .xor .u64 (comK .u64) (zal 64 g:Nat)=(zal 64 fun i=>!g i:Nat):=by
 rw [comU,bits_xor]
 exact congrArg _ (zdi fun i _=>by simp)
attribute [local irreducible] VW VCall VO bits
def U (g:Nat→Bool):AV:=.int .u64 ((zal 64 g:Nat):Int)
theorem op2_c (g h:Nat→Bool) (H:Heap):VDet Tryz.prog 93 [U g,U h] H (U fun _=>false):=by
 unfold U
 refine fdD Tryz.func93 ⟨rfl,rfl,rfl⟩ fun hcl hbl=>?_
 conv=>whnf
 exact EndN.det trivial (zab (congrArg (AV.int .u64) (by decide)))
theorem op3_c (g h:Nat→Bool) (H:Heap):VDet Tryz.prog 94 [U g,U h] H (U fun i=>!g i):=by
 unfold U
 refine fdD Tryz.func94 ⟨rfl,rfl,rfl⟩ fun hcl hbl=>?_
 (repeat' ((conv=>whnf);(first|refine EqN.mk _ rfl ?_|fail)));conv=>whnf
 exact EndN.det trivial (zab (congrArg (AV.int .u64) (bits_com g)))
theorem op4_c (g h:Nat→Bool) (H:Heap):VDet Tryz.prog 95 [U g,U h] H (U fun i=>g i&&h i):=by
 unfold U
 refine fdD Tryz.func95 ⟨rfl,rfl,rfl⟩ fun hcl hbl=>?_
 (repeat' ((conv=>whnf);(first|refine EqN.mk _ rfl ?_|fail)));conv=>whnf
 exact EndN.det trivial (zab (congrArg (AV.int .u64) (zf1 g h)))
theorem op5_c (g h:Nat→Bool) (H:Heap):VDet Tryz.prog 96 [U g,U h] H (U fun i=>g i || h i):=by
 unfold U
 refine fdD Tryz.func96 ⟨rfl,rfl,rfl⟩ fun hcl hbl=>?_
 (repeat' ((conv=>whnf);(first|refine EqN.mk _ rfl ?_|fail)));conv=>whnf
 exact EndN.det trivial (zab (congrArg (AV.int .u64) (bits_or g h)))
theorem op6_c (g h:Nat→Bool) (H:Heap):VDet Tryz.prog 97 [U g,U h] H (U fun i=>!g i || h i):=by
 unfold U
 refine fdD Tryz.func97 ⟨rfl,rfl,rfl⟩ fun hcl hbl=>?_
 (repeat' ((conv=>whnf);(first|refine EqN.mk _ rfl ?_|fail)));conv=>whnf
 exact EndN.det trivial (zab (congrArg (AV.int .u64) (by rw [bits_com,bits_or])))
theorem op7_c (g h:Nat→Bool) (H:Heap):VDet Tryz.prog 98 [U g,U h] H (U fun i=>g i==h i):=by
 unfold U
 refine fdD Tryz.func98 ⟨rfl,rfl,rfl⟩ fun hcl hbl=>?_
 (repeat' ((conv=>whnf);(first|refine EqN.mk _ rfl ?_|fail)));conv=>whnf
 exact EndN.det trivial (zab (congrArg (AV.int .u64) (by
  rw [bits_xor,bits_com]
  exact congrArg _ (zdi fun i _=>by cases g i <;> cases h i <;> rfl))))
end
section
attribute [local irreducible] VW VCall VO bits
def pats:List Int:=[12297829382473034410,14757395258967641292,17361641481138401520,18374966859414961920,18446462603027742720,18446744069414584320]
theorem pats_ok:∀ b,b<6→pats.getD b 0=((zal 64 fun i=>i.testBit b:Nat):Int):=by
 intro b hb
 have:b=0∨b=1∨b=2∨b=3∨b=4∨b=5:=by omega
 rcases this with rfl|rfl|rfl|rfl|rfl|rfl <;> decide
theorem low_bit (n i b:Nat) (hi:i<64) (hb:b<6):(64 * n+i).testBit b=i.testBit b:=by
 have:=Nat.testBit_two_pow_mul_add n (i:=6) (b:=i) (by omega) b
 rw [if_pos hb] at this
 exact this
theorem high_bit (n i b:Nat) (hi:i<64) (hb:6≤b):(64 * n+i).testBit b=n.testBit (b-6):=by
 have:=Nat.testBit_two_pow_mul_add n (i:=6) (b:=i) (by omega) b
 rw [if_neg (by omega)] at this
 exact this
theorem neg_bit (m:Nat) (h:m<2 ^ 64):IntKind.u64.wrap (0-bits .and .u64 (m:Int) 1)=((zal 64 fun _=>m.testBit 0:Nat):Int):=by
 have h1:(1:Int)=((zal 64 fun i=>i==0:Nat):Int):=by decide
 have h2:m=zal 64 fun i=>m.testBit i:=eq_mk h fun _ _=>rfl
 have h3:bits .and .u64 (m:Int) 1=((zal 64 fun i=>m.testBit i&&i==0:Nat):Int):=by
  have:=zf1 (fun i=>m.testBit i) (fun i=>i==0)
  rw [← h2,← h1] at this
  exact this
 rw [h3]
 cases hb:m.testBit 0 with
 | true =>
   have:(zal 64 fun i=>m.testBit i&&i==0)=zal 64 fun i=>i==0:=zdi fun i _=>by
    cases i with
    | zero=>simp [hb]
    | succ i=>simp
   rw [this]
   decide
 | false =>
   have:(zal 64 fun i=>m.testBit i&&i==0)=zal 64 fun i=>false:=zdi fun i _=>by
    cases i with
    | zero=>simp [hb]
    | succ i=>simp
   rw [this]
   decide
def encP (p:Int):List AV:=[.int .u64 p]
theorem EqN.two (l:Nat) {k:Int→Prop} (h:l≤40) (a:k ((2 ^ l:Nat):Int)):EqN (IntKind.i64.wrap (1 * 2 ^ min ((l:Nat):Int).toNat IntKind.i64.bits)) k:=by
 refine ⟨_,?_,a⟩
 have h1:min ((l:Nat):Int).toNat IntKind.i64.bits=l:=by
  rw [Int.toNat_natCast]
  exact Nat.min_eq_left (by show l≤64;omega)
 rw [h1,Int.one_mul]
 have h2:(2:Nat) ^ l≤1099511627776:=Nat.pow_le_pow_right (n:=2) (by omega) h
 have h3:((2:Int) ^ l)=((2 ^ l:Nat):Int):=by simp
 rw [h3]
 generalize 2 ^ l=q at *
 exact w64 (by omega)
def okU (s:Nat):AV:=U fun i=>decide (i<s)
theorem okU_lo (s:Nat) (h:s<64):((zal 64 fun i=>decide (i<s):Nat):Int)=IntKind.u64.wrap (IntKind.u64.wrap (1 * 2 ^ min ((s:Nat):Int).toNat IntKind.u64.bits)-1):=by
 have:∀ s,s<64→(Int.ofNat (zal 64 fun i=>decide (i<s))==IntKind.u64.wrap (IntKind.u64.wrap (1 * 2 ^ min ((s:Nat):Int).toNat IntKind.u64.bits)-1))=true:=by
  have:(List.range 64).all (fun s=>Int.ofNat (zal 64 fun i=>decide (i<s))==IntKind.u64.wrap (IntKind.u64.wrap (1 * 2 ^ min ((s:Nat):Int).toNat IntKind.u64.bits)-1))=true:=by kernel_rfl
  intro s hs
  exact List.all_eq_true.1 this s (List.mem_range.2 hs)
 exact eq_of_beq (this s h)
theorem okU_hi (s:Nat) (h:64≤s):((zal 64 fun i=>decide (i<s):Nat):Int)=18446744073709551615:=by
 rw [zdi (h:=fun _=>true) fun i hi=>by simp;omega]
 decide
def keyG (l:List ByteArray):List AV:=l.map fun c=>.str c
def tblG (l:List ByteArray):AV:=.rptr [.rmp (keyG l) (ixG l.length),.rmp opsK opsV]
theorem zch (l:List ByteArray) (n:Nat):below n (tblG l):=by
 unfold tblG opsK opsV
 simp [below,zae,ze0,zb7,keyG,zdr]
theorem ixG_succ (n:Nat):ixG (n+1)=ixG n++[.int .i64 n]:=by
 unfold ixG
 rw [List.range_succ,List.map_append]
 rfl
theorem take_snocT {α:Type} (l:List α) (j:Nat) (d:α) (h:j<l.length):l.take (j+1)=l.take j++[l.getD j d]:=by
 rw [List.take_add_one,List.getElem?_eq_getElem h]
 simp [List.getD_eq_getElem?_getD,List.getElem?_eq_getElem h]
theorem put_ixG (l:List ByteArray) (hl:l.Nodup) (j:Nat) (h:j<l.length):MPut (eqV Tryz.kn Tryz.T 20 9) (keyG (l.take j)) (ixG j) (.str (l.getD j eN)) (.int .i64 j) (keyG (l.take (j+1))) (ixG (j+1)):=by
 have hno:l.getD j eN ∉ l.take j:=fun hm=>by
  have hd:=hl
  rw [← List.take_append_drop j l] at hd
  have:=(List.nodup_append.1 hd).2.2 _ hm (l.getD j eN) (by
   rw [zfo l j eN h]
   exact List.mem_cons_self ..)
  exact this rfl
 have:=MPut.new (vs:=ixG j) (v:=.int .i64 j) ((mfindG (l.getD j eN) (l.take j)).2 hno)
 rw [ixG_succ,take_snocT l j eN h]
 unfold keyG
 rw [List.map_append]
 exact this
theorem newTable_g (l:List ByteArray) (hl:l.Nodup) (hlen:l.length≤1000) (H:Heap):VDet Tryz.prog 73 [.sl none l.length (l.flatMap encSG)] H (tblG l):=by
 refine fdD Tryz.func73 ⟨rfl,rfl,rfl⟩ fun hcl hbl=>?_
 (repeat' ((conv=>whnf);(first|refine RelN.mk _ _ ⟨⟨_,rfl⟩,.new (by kernel_rfl)⟩ ?_|refine PtrN.loc _ rfl ?_|fail)));conv=>whnf
 refine zau Tryz.E0 zak (σ:=Nat) (fun j=>j≤l.length) (fun j=>l.length-j) (fun j=>[(13,.v (.int .i64 j))]) (fun j=>[.mp (keyG (l.take j)) (ixG j),.mp opsK opsV,.box 107 [.mp (H.length+0),.mp (H.length+1)]]) _ 0 rfl hcl [3,11,12] rfl (Nat.zero_le _) ⟨⟨_,rfl,Wk.refl _⟩,trivial⟩ rfl (fun _ _=>rfl) ?_
 intro j hj
 clear hbl
 (repeat' ((conv=>whnf);(first|refine za9 (fun _=>?_) (fun _=>?_)|(refine zad _ _ Cst.h Cst.h ?_ ?_;· omega)|(refine SideN.mk ?_ ?_;· first|omega|exact List.cons_ne_nil _ _|fail)|refine zba (f:=encSG) (l:=l) eN j rfl (by omega) (fun _=>rfl) ?_|refine RelN.mk _ _ ⟨⟨_,rfl⟩,put_ixG l hl j (by omega)⟩ ?_|refine PtrN.loc _ rfl ?_|fail)));all_goals (conv=>whnf)
 ·(refine ⟨⟨j+1,by omega,by omega,?_,.inl ⟨rfl,rfl⟩,rfl,_,rfl,?_⟩⟩;rotate_left 1;exact .inl rfl;exact ⟨⟨_,rfl,Wk.refl _⟩,trivial⟩)
 ·obtain rfl:j=l.length:=by omega
  rw [List.take_length]
  refine EndN.detF (u':=tblG l) (zch _ _) ?_ (Wk.refl _)
  unfold tblG
  refine Frz.ptr rfl rfl (FrzL.cons (Frz.mp rfl (FrzL.refl _) (FrzL.refl _)) (FrzL.cons (Frz.mp rfl (FrzL.refl _) (FrzL.refl _)) FrzL.nil))
def Fp.ev (r:ByteArray→Bool):Fp→Bool
 | .at c=>r c
 | .fa=>false
 | .f1 a=>!a.ev r
 | .f2 k a b=>if k=4 then a.ev r&&b.ev r else if k=5 then a.ev r || b.ev r else if k=6 then !a.ev r || b.ev r else a.ev r==b.ev r
def Fp.In (l:List ByteArray):Fp→Prop
 | .at c=>c∈l
 | .fa=>True
 | .f1 a=>a.In l
 | .f2 _ a b=>a.In l∧b.In l
def ixP (l:List ByteArray) (c:ByteArray):Nat:=l.findIdx fun d=>decide (c=d)
def vbG (l:List ByteArray) (v:Nat) (c:ByteArray):Bool:=v.testBit (l.length-1-ixP l c)
def blkG (l:List ByteArray) (n:Nat) (f:Fp):AV:=U fun i=>f.ev (vbG l (64 * n+i))
theorem ixP_find (c:ByteArray):∀ l:List ByteArray,c∈l→ixP l c<l.length∧mfind (eqV Tryz.kn Tryz.T 20 9) (.str c) (keyG l)=some (some (ixP l c))
 | d::l,h=>by
   have he:eqV Tryz.kn Tryz.T 20 9 (.str c) (.str d)=some (decide (c=d)):=by
    show some (c.toList==d.toList)=_
    rw [zfb]
   unfold ixP keyG
   rw [List.findIdx_cons]
   simp only [List.map_cons,mfind,he]
   by_cases hcd:c=d
   ·subst hcd
    simp
   ·have hb:decide (c=d)=false:=by simpa using hcd
    simp only [hb,cond_false,List.length_cons]
    obtain ⟨h1,h2⟩:=ixP_find c l ((List.mem_cons.1 h).resolve_left hcd)
    unfold ixP at h1 h2
    unfold keyG at h2
    exact ⟨by omega,by rw [h2]⟩
theorem ixG_get (n i:Nat) (h:i<n):(ixG n)[i]? = some (.int .i64 (i:Nat)):=by
 unfold ixG
 rw [List.getElem?_map,List.getElem?_range h]
 rfl
theorem zbi:∀ p:Fp,∃ (o:Nat) (s:ByteArray) (n:Nat) (l:List AV),p.fo.cells=[.int .u8 o,.str s,.sl none 0 [],.sl none n l]
 | .at c=>⟨1,c,0,[],by simp [Fp.fo,zaf]⟩
 | .fa=>⟨2,.empty,0,[],by simp [Fp.fo,zaf]⟩
 | .f1 a=>⟨3,.empty,1,a.fo.cells,by simp [Fp.fo,zaf]⟩
 | .f2 k a b=>⟨k,.empty,2,a.fo.cells++b.fo.cells,by simp [Fp.fo,zaf]⟩
theorem blockG_at (l:List ByteArray) (h26:l.length≤52) (c:ByteArray) (hc:c∈l) (n:Nat) (hn:n≤1000000) (H:Heap):VDet Tryz.prog 42 [tblG l,.agg (Fp.at c).fo.cells,.int .i64 n] H (blkG l n (.at c)):=by
 obtain ⟨h1,h2⟩:=ixP_find c l hc
 have h3:=ixG_get l.length (ixP l c) h1
 have hkl:(keyG l).length=l.length:=by unfold keyG;simp
 have hres:blkG l n (.at c)=.int .u64 ((zal 64 fun i=>(64 * n+i).testBit (l.length-1-ixP l c):Nat):Int):=rfl
 rw [hres]
 generalize hb:l.length-1-ixP l c=b
 have hb2:(l.length:Int)-1-(ixP l c:Nat)=(b:Nat):=by omega
 rw [show (Fp.at c).fo.cells=[.int .u8 (1:Nat),.str c,.sl none 0 [],.sl none 0 []] by simp [Fp.fo,zaf]]
 unfold tblG
 refine fdD Tryz.func42 ⟨rfl,rfl,rfl⟩ fun hcl hbl=>?_
 (repeat' ((conv=>whnf);(first|(refine IfN.id ?_;first|refine IfN.tt rfl ?_|refine za9 (fun _=>?_) (fun _=>?_)|fail)|(refine EqN.id ?_;first|(refine ze7 _ _ Cst.h Cst.h rfl ?_ ?_;· (repeat' (first|omega|refine And.intro ?_ ?_|exact zan (by omega)|exact zbd (by omega)|refine zb9 ?_ ?_|refine zbc ?_ ?_|refine zbj ?_ ?_|refine za2 ?_ ?_|refine zbk ?_|refine zbl ?_ ?_|refine zbm ?_|refine zan ?_|fail)))|(refine zcu _ _ Cst.h Cst.h ?_ ?_;· omega)|refine zhc _ _ (by first|with_reducible rfl|exact Cst.h) (by first|with_reducible rfl|exact Cst.h) ?_|refine EqN.mk _ rfl ?_|fail)|(refine SideN.mk ?_ ?_;· first|kernel_rfl|omega|fail)|refine RelN.mk [_] [] ⟨⟨_,rfl⟩,_,h2,h3⟩ ?_|refine zap [] ?_|fail)));all_goals (conv=>whnf)
 ·refine zba (f:=encP) (l:=pats) 0 ((keyG l).length-1-ixP l c) rfl (by show _<6;omega) (fun _=>rfl) ?_
  conv=>whnf
  refine EndN.det trivial (zab (congrArg (AV.int .u64) ?_))
  rw [hkl,hb,pats_ok b (by omega)]
  exact congrArg _ (zdi fun i hi=>(low_bit n i b hi (by omega)).symm)
 ·refine EndN.det trivial (zab (congrArg (AV.int .u64) ?_))
  rw [hkl,hb]
  have hm:n % (2 ^ IntKind.u64.bits:Int).natAbs=n:=Nat.mod_eq_of_lt (by show n<18446744073709551616;omega)
  rw [hm,neg_bit _ (Nat.lt_of_le_of_lt (Nat.shiftRight_le _ _) (by omega))]
  refine congrArg _ (zdi fun i hi=>?_)
  rw [high_bit n i b hi (by omega),Nat.testBit_shiftRight,Nat.add_zero]
theorem blockG_fa (l:List ByteArray) (n:Nat) (H:Heap):VDet Tryz.prog 42 [tblG l,.agg Fp.fa.fo.cells,.int .i64 n] H (blkG l n .fa):=by
 rw [show Fp.fa.fo.cells=[.int .u8 (2:Nat),.str .empty,.sl none 0 [],.sl none 0 []] by simp [Fp.fo,zaf]]
 unfold blkG tblG opsK opsV
 simp only [Fp.ev]
 have h:=op2_c (fun _=>false) (fun _=>false)
 unfold U at h ⊢
 have h0:((zal 64 fun _=>false:Nat):Int)=0:=by decide
 rw [h0] at h ⊢
 generalize keyG l=kl
 generalize ixG l.length=il
 refine fdD Tryz.func42 ⟨rfl,rfl,rfl⟩ fun hcl hbl=>?_
 (repeat' ((conv=>whnf);(first|refine IfN.ff rfl ?_|fail)));conv=>whnf
 refine LoopN.rounds Tryz.E0 zak 1 (by simp) ?_
 (repeat' ((conv=>whnf);(first|refine IfN.ff rfl ?_|refine SideN.mk (by kernel_rfl) ?_|refine CallD.det _ (fun _ hq X=>h _) ?_|refine RelN.mk [_] [] ⟨⟨_,rfl⟩,0,by kernel_rfl,rfl⟩ ?_|refine OfsN.at_ (by omega) ?_|refine zap [] ?_|fail)));conv=>whnf
 exact eT trivial
theorem blockG_f1 (l:List ByteArray) (n:Nat) (a:Fp) (ih:∀ H,VDet Tryz.prog 42 [tblG l,.agg a.fo.cells,.int .i64 n] H (blkG l n a)) (H:Heap):VDet Tryz.prog 42 [tblG l,.agg (Fp.f1 a).fo.cells,.int .i64 n] H (blkG l n (.f1 a)):=by
 have h:=op3_c (fun i=>a.ev (vbG l (64 * n+i))) (fun _=>false)
 obtain ⟨ao,an,asn,asc,hac⟩:=zbi a
 rw [show (Fp.f1 a).fo.cells=[.int .u8 (3:Nat),.str .empty,.sl none 0 [],.sl none 1 a.fo.cells] by simp [Fp.fo,zaf]]
 rw [hac] at ih ⊢
 unfold blkG tblG opsK opsV U at ih ⊢
 unfold U at h
 have h0:((zal 64 fun _=>false:Nat):Int)=0:=by decide
 rw [h0] at h
 simp only [Fp.ev]
 generalize zal 64 (fun i=>a.ev (vbG l (64 * n+i)))=ga at h ih
 generalize (zal 64 fun i=>!a.ev (vbG l (64 * n+i)))=gr at h ⊢
 generalize keyG l=kl at ih ⊢
 generalize ixG l.length=il at ih ⊢
 refine fdD Tryz.func42 ⟨rfl,rfl,rfl⟩ fun hcl hbl=>?_
 (repeat' ((conv=>whnf);(first|refine IfN.ff rfl ?_|fail)));conv=>whnf
 refine LoopN.rounds Tryz.E0 zak 2 (by simp) ?_
 (repeat' ((conv=>whnf);(first|(refine IfN.id ?_;first|refine IfN.tt rfl ?_|refine IfN.ff rfl ?_|fail)|(refine zad _ _ Cst.h Cst.h ?_ ?_;· omega)|(refine SideN.mk ?_ ?_;· first|kernel_rfl|omega|exact List.cons_ne_nil _ _|fail)|refine CallN.det _ (ih _) ?_|refine CallD.det _ (fun _ hq X=>h _) ?_|refine RelN.mk [_] [] ⟨⟨_,rfl⟩,1,by kernel_rfl,rfl⟩ ?_|refine SegN.mk _ (zb8 rfl) ?_|refine OfsN.at_ (by omega) ?_|refine zap [] ?_|fail)));conv=>whnf
 exact eT trivial
theorem blockG_f2_4 (l:List ByteArray) (n:Nat) (a b:Fp) (iha:∀ H,VDet Tryz.prog 42 [tblG l,.agg a.fo.cells,.int .i64 n] H (blkG l n a)) (ihb:∀ H,VDet Tryz.prog 42 [tblG l,.agg b.fo.cells,.int .i64 n] H (blkG l n b)) (H:Heap):VDet Tryz.prog 42 [tblG l,.agg (Fp.f2 4 a b).fo.cells,.int .i64 n] H (blkG l n (.f2 4 a b)):=by
 have h:=op4_c (fun i=>a.ev (vbG l (64 * n+i))) (fun i=>b.ev (vbG l (64 * n+i)))
 obtain ⟨ao,an,asn,asc,hac⟩:=zbi a
 obtain ⟨bo,bn,bsn,bsc,hbc⟩:=zbi b
 rw [show (Fp.f2 4 a b).fo.cells=[.int .u8 (4:Nat),.str .empty,.sl none 0 [],.sl none 2 (a.fo.cells++b.fo.cells)] by simp [Fp.fo,zaf]]
 rw [show blkG l n (.f2 4 a b)=U (fun i=>a.ev (vbG l (64 * n+i))&&b.ev (vbG l (64 * n+i))) from rfl]
 rw [hac] at iha ⊢
 rw [hbc] at ihb ⊢
 unfold blkG tblG opsK opsV U at iha ihb
 unfold tblG opsK opsV U
 unfold U at h
 generalize zal 64 (fun i=>a.ev (vbG l (64 * n+i)))=ga at h iha
 generalize zal 64 (fun i=>b.ev (vbG l (64 * n+i)))=gb at h ihb
 generalize zal 64 (fun i=>a.ev (vbG l (64 * n+i))&&b.ev (vbG l (64 * n+i)))=gr at h ⊢
 generalize keyG l=kl at iha ihb ⊢
 generalize ixG l.length=il at iha ihb ⊢
 simp only [List.cons_append,List.nil_append]
 refine fdD Tryz.func42 ⟨rfl,rfl,rfl⟩ fun hcl hbl=>?_
 (repeat' ((conv=>whnf);(first|refine IfN.ff rfl ?_|fail)));conv=>whnf
 refine LoopN.rounds Tryz.E0 zak 3 (by simp) ?_
 (repeat' ((conv=>whnf);(first|(refine IfN.id ?_;first|refine IfN.tt rfl ?_|refine IfN.ff rfl ?_|fail)|(refine zad _ _ Cst.h Cst.h ?_ ?_;· omega)|(refine SideN.mk ?_ ?_;· first|kernel_rfl|omega|exact List.cons_ne_nil _ _|fail)|(refine CallN.id ?_;first|refine CallN.det _ (iha _) ?_|refine CallN.det _ (ihb _) ?_|fail)|refine CallD.det _ (fun _ hq X=>h _) ?_|refine RelN.mk [_] [] ⟨⟨_,rfl⟩,2,by kernel_rfl,rfl⟩ ?_|refine SegN.mk _ (zb8 rfl) ?_|refine OfsN.at_ (by omega) ?_|refine zap [] ?_|fail)));conv=>whnf
 exact eT trivial
theorem blockG_f2_5 (l:List ByteArray) (n:Nat) (a b:Fp) (iha:∀ H,VDet Tryz.prog 42 [tblG l,.agg a.fo.cells,.int .i64 n] H (blkG l n a)) (ihb:∀ H,VDet Tryz.prog 42 [tblG l,.agg b.fo.cells,.int .i64 n] H (blkG l n b)) (H:Heap):VDet Tryz.prog 42 [tblG l,.agg (Fp.f2 5 a b).fo.cells,.int .i64 n] H (blkG l n (.f2 5 a b)):=by
 have h:=op5_c (fun i=>a.ev (vbG l (64 * n+i))) (fun i=>b.ev (vbG l (64 * n+i)))
 obtain ⟨ao,an,asn,asc,hac⟩:=zbi a
 obtain ⟨bo,bn,bsn,bsc,hbc⟩:=zbi b
 rw [show (Fp.f2 5 a b).fo.cells=[.int .u8 (5:Nat),.str .empty,.sl none 0 [],.sl none 2 (a.fo.cells++b.fo.cells)] by simp [Fp.fo,zaf]]
 rw [show blkG l n (.f2 5 a b)=U (fun i=>a.ev (vbG l (64 * n+i)) || b.ev (vbG l (64 * n+i))) from rfl]
 rw [hac] at iha ⊢
 rw [hbc] at ihb ⊢
 unfold blkG tblG opsK opsV U at iha ihb
 unfold tblG opsK opsV U
 unfold U at h
 generalize zal 64 (fun i=>a.ev (vbG l (64 * n+i)))=ga at h iha
 generalize zal 64 (fun i=>b.ev (vbG l (64 * n+i)))=gb at h ihb
 generalize zal 64 (fun i=>a.ev (vbG l (64 * n+i)) || b.ev (vbG l (64 * n+i)))=gr at h ⊢
 generalize keyG l=kl at iha ihb ⊢
 generalize ixG l.length=il at iha ihb ⊢
 simp only [List.cons_append,List.nil_append]
 refine fdD Tryz.func42 ⟨rfl,rfl,rfl⟩ fun hcl hbl=>?_
 (repeat' ((conv=>whnf);(first|refine IfN.ff rfl ?_|fail)));conv=>whnf
 refine LoopN.rounds Tryz.E0 zak 3 (by simp) ?_
 (repeat' ((conv=>whnf);(first|(refine IfN.id ?_;first|refine IfN.tt rfl ?_|refine IfN.ff rfl ?_|fail)|(refine zad _ _ Cst.h Cst.h ?_ ?_;· omega)|(refine SideN.mk ?_ ?_;· first|kernel_rfl|omega|exact List.cons_ne_nil _ _|fail)|(refine CallN.id ?_;first|refine CallN.det _ (iha _) ?_|refine CallN.det _ (ihb _) ?_|fail)|refine CallD.det _ (fun _ hq X=>h _) ?_|refine RelN.mk [_] [] ⟨⟨_,rfl⟩,3,by kernel_rfl,rfl⟩ ?_|refine SegN.mk _ (zb8 rfl) ?_|refine OfsN.at_ (by omega) ?_|refine zap [] ?_|fail)));conv=>whnf
 exact eT trivial
theorem blockG_f2_6 (l:List ByteArray) (n:Nat) (a b:Fp) (iha:∀ H,VDet Tryz.prog 42 [tblG l,.agg a.fo.cells,.int .i64 n] H (blkG l n a)) (ihb:∀ H,VDet Tryz.prog 42 [tblG l,.agg b.fo.cells,.int .i64 n] H (blkG l n b)) (H:Heap):VDet Tryz.prog 42 [tblG l,.agg (Fp.f2 6 a b).fo.cells,.int .i64 n] H (blkG l n (.f2 6 a b)):=by
 have h:=op6_c (fun i=>a.ev (vbG l (64 * n+i))) (fun i=>b.ev (vbG l (64 * n+i)))
 obtain ⟨ao,an,asn,asc,hac⟩:=zbi a
 obtain ⟨bo,bn,bsn,bsc,hbc⟩:=zbi b
 rw [show (Fp.f2 6 a b).fo.cells=[.int .u8 (6:Nat),.str .empty,.sl none 0 [],.sl none 2 (a.fo.cells++b.fo.cells)] by simp [Fp.fo,zaf]]
 rw [show blkG l n (.f2 6 a b)=U (fun i=>!a.ev (vbG l (64 * n+i)) || b.ev (vbG l (64 * n+i))) from rfl]
 rw [hac] at iha ⊢
 rw [hbc] at ihb ⊢
 unfold blkG tblG opsK opsV U at iha ihb
 unfold tblG opsK opsV U
 unfold U at h
 generalize zal 64 (fun i=>a.ev (vbG l (64 * n+i)))=ga at h iha
 generalize zal 64 (fun i=>b.ev (vbG l (64 * n+i)))=gb at h ihb
 generalize zal 64 (fun i=>!a.ev (vbG l (64 * n+i)) || b.ev (vbG l (64 * n+i)))=gr at h ⊢
 generalize keyG l=kl at iha ihb ⊢
 generalize ixG l.length=il at iha ihb ⊢
 simp only [List.cons_append,List.nil_append]
 refine fdD Tryz.func42 ⟨rfl,rfl,rfl⟩ fun hcl hbl=>?_
 (repeat' ((conv=>whnf);(first|refine IfN.ff rfl ?_|fail)));conv=>whnf
 refine LoopN.rounds Tryz.E0 zak 3 (by simp) ?_
 (repeat' ((conv=>whnf);(first|(refine IfN.id ?_;first|refine IfN.tt rfl ?_|refine IfN.ff rfl ?_|fail)|(refine zad _ _ Cst.h Cst.h ?_ ?_;· omega)|(refine SideN.mk ?_ ?_;· first|kernel_rfl|omega|exact List.cons_ne_nil _ _|fail)|(refine CallN.id ?_;first|refine CallN.det _ (iha _) ?_|refine CallN.det _ (ihb _) ?_|fail)|refine CallD.det _ (fun _ hq X=>h _) ?_|refine RelN.mk [_] [] ⟨⟨_,rfl⟩,4,by kernel_rfl,rfl⟩ ?_|refine SegN.mk _ (zb8 rfl) ?_|refine OfsN.at_ (by omega) ?_|refine zap [] ?_|fail)));conv=>whnf
 exact eT trivial
theorem blockG_f2_7 (l:List ByteArray) (n:Nat) (a b:Fp) (iha:∀ H,VDet Tryz.prog 42 [tblG l,.agg a.fo.cells,.int .i64 n] H (blkG l n a)) (ihb:∀ H,VDet Tryz.prog 42 [tblG l,.agg b.fo.cells,.int .i64 n] H (blkG l n b)) (H:Heap):VDet Tryz.prog 42 [tblG l,.agg (Fp.f2 7 a b).fo.cells,.int .i64 n] H (blkG l n (.f2 7 a b)):=by
 have h:=op7_c (fun i=>a.ev (vbG l (64 * n+i))) (fun i=>b.ev (vbG l (64 * n+i)))
 obtain ⟨ao,an,asn,asc,hac⟩:=zbi a
 obtain ⟨bo,bn,bsn,bsc,hbc⟩:=zbi b
 rw [show (Fp.f2 7 a b).fo.cells=[.int .u8 (7:Nat),.str .empty,.sl none 0 [],.sl none 2 (a.fo.cells++b.fo.cells)] by simp [Fp.fo,zaf]]
 rw [show blkG l n (.f2 7 a b)=U (fun i=>a.ev (vbG l (64 * n+i))==b.ev (vbG l (64 * n+i))) from rfl]
 rw [hac] at iha ⊢
 rw [hbc] at ihb ⊢
 unfold blkG tblG opsK opsV U at iha ihb
 unfold tblG opsK opsV U
 unfold U at h
 generalize zal 64 (fun i=>a.ev (vbG l (64 * n+i)))=ga at h iha
 generalize zal 64 (fun i=>b.ev (vbG l (64 * n+i)))=gb at h ihb
 generalize zal 64 (fun i=>a.ev (vbG l (64 * n+i))==b.ev (vbG l (64 * n+i)))=gr at h ⊢
 generalize keyG l=kl at iha ihb ⊢
 generalize ixG l.length=il at iha ihb ⊢
 simp only [List.cons_append,List.nil_append]
 refine fdD Tryz.func42 ⟨rfl,rfl,rfl⟩ fun hcl hbl=>?_
 (repeat' ((conv=>whnf);(first|refine IfN.ff rfl ?_|fail)));conv=>whnf
 refine LoopN.rounds Tryz.E0 zak 3 (by simp) ?_
 (repeat' ((conv=>whnf);(first|(refine IfN.id ?_;first|refine IfN.tt rfl ?_|refine IfN.ff rfl ?_|fail)|(refine zad _ _ Cst.h Cst.h ?_ ?_;· omega)|(refine SideN.mk ?_ ?_;· first|kernel_rfl|omega|exact List.cons_ne_nil _ _|fail)|(refine CallN.id ?_;first|refine CallN.det _ (iha _) ?_|refine CallN.det _ (ihb _) ?_|fail)|refine CallD.det _ (fun _ hq X=>h _) ?_|refine RelN.mk [_] [] ⟨⟨_,rfl⟩,5,by kernel_rfl,rfl⟩ ?_|refine SegN.mk _ (zb8 rfl) ?_|refine OfsN.at_ (by omega) ?_|refine zap [] ?_|fail)));conv=>whnf
 exact eT trivial
theorem zd3 (l:List ByteArray) (h26:l.length≤52) (n:Nat) (hn:n≤1000000):∀ f:Fp,f.Ok→f.In l→∀ H,VDet Tryz.prog 42 [tblG l,.agg f.fo.cells,.int .i64 n] H (blkG l n f)
 | .at c,_,h=>blockG_at l h26 c h n hn
 | .fa,_,_=>blockG_fa l n
 | .f1 a,hp,h=>blockG_f1 l n a (zd3 l h26 n hn a hp h)
 | .f2 k a b,hp,h=>by
   have iha:=zd3 l h26 n hn a hp.2.1 h.1
   have ihb:=zd3 l h26 n hn b hp.2.2 h.2
   rcases hp.1 with rfl|rfl|rfl|rfl
   ·exact blockG_f2_4 l n a b iha ihb
   ·exact blockG_f2_5 l n a b iha ihb
   ·exact blockG_f2_6 l n a b iha ihb
   ·exact blockG_f2_7 l n a b iha ihb
theorem zco (n:Nat) (hl:n≤12):2 ^ n≤4096∧1≤2 ^ n:=by
 have h2:(2:Nat) ^ n≤2 ^ 12:=Nat.pow_le_pow_right (by omega) hl
 exact ⟨h2,Nat.pos_of_ne_zero (by simp)⟩
theorem size_g (l:List ByteArray) (hl:l.length≤12) (H:Heap):VDet Tryz.prog 55 [tblG l] H (.int .i64 (2 ^ l.length:Nat)):=by
 have hkl:(keyG l).length=l.length:=by unfold keyG;simp
 unfold tblG
 refine fdD Tryz.func55 ⟨rfl,rfl,rfl⟩ fun hcl hbl=>?_
 (repeat' ((conv=>whnf);(first|refine EqN.two _ (by omega) ?_|refine SideN.mk (by omega) ?_|fail)));conv=>whnf
 exact EndN.det trivial (zab (by rw [hkl]))
theorem blocks_g (l:List ByteArray) (hl:l.length≤12) (H:Heap):VDet Tryz.prog 40 [tblG l] H (.int .i64 ((2 ^ l.length+63) / 64:Nat)):=by
 have hs:=size_g l hl
 have h2:=zco l.length hl
 generalize 2 ^ l.length=s at *
 have hb:=zch l
 generalize tblG l=t at *
 refine fdD Tryz.func40 ⟨rfl,rfl,rfl⟩ fun hcl hbl=>?_
 (repeat' ((conv=>whnf);(first|(refine EqN.id ?_;first|refine EqN.i64 (by omega) ?_|refine EqN.quo (by omega) ?_|fail)|refine SideN.mk (by omega) ?_|refine CallN.det _ (hs _) ?_|fail)));conv=>whnf
 exact EndN.det trivial (zab (by simp))
theorem valid_g (l:List ByteArray) (hl:l.length≤12) (H:Heap):VDet Tryz.prog 41 [tblG l] H (okU (2 ^ l.length)):=by
 have hs:=size_g l hl
 have h2:=zco l.length hl
 generalize 2 ^ l.length=s at *
 have hb:=zch l
 generalize tblG l=t at *
 unfold okU U
 refine fdD Tryz.func41 ⟨rfl,rfl,rfl⟩ fun hcl hbl=>?_
 (repeat' ((conv=>whnf);(first|refine za9 (fun _=>?_) (fun _=>?_)|refine EqN.mk _ rfl ?_|refine SideN.mk (by omega) ?_|refine CallN.det _ (hs _) ?_|fail)));all_goals (conv=>whnf)
 ·exact EndN.det trivial (zab (by rw [okU_hi s (by omega)]))
 ·exact EndN.det trivial (zab (by rw [okU_lo s (by omega)]))
theorem allRight_g (l:List Fo) (hg:Fo.goodL l) (hlen:l.length≤9223372036854775807) (H:Heap):VDet Tryz.prog 72 [.sl none l.length (l.flatMap Fo.cells)] H (.bool (l.all zbe)):=by
 refine fdD Tryz.func72 ⟨rfl,rfl,rfl⟩ fun hcl hbl=>?_
 conv=>whnf
 refine zau Tryz.E0 zak (σ:=Nat) (fun j=>j≤l.length∧∀ i,i<j→zbe (l.getD i (Fo.mk 0 .empty [] []))=true) (fun j=>l.length-j) (fun j=>[(7,.v (.int .i64 j))]) (fun j=>[]) _ 0 rfl hcl [5,6] rfl ⟨Nat.zero_le _,fun i hi=>by omega⟩ ⟨⟨_,rfl,Wk.refl _⟩,trivial⟩ rfl (fun _ _=>rfl) ?_
 rintro j ⟨hj,hall⟩
 clear hbl
 by_cases hlt:j<l.length
 ·have hmem:=zam l j (Fo.mk 0 .empty [] []) hlt
  have hx:=right_g' _ (Fo.goodL_mem hg _ hmem)
  obtain ⟨o2,s2,l2,m2,hxe⟩:∃ o2 s2 l2 m2,l.getD j (Fo.mk 0 .empty [] [])=Fo.mk o2 s2 l2 m2:=by
   cases l.getD j (Fo.mk 0 .empty [] []) with
   | mk o2 s2 l2 m2=>exact ⟨o2,s2,l2,m2,rfl⟩
  have hce:(l.getD j (Fo.mk 0 .empty [] [])).cells=[.int .u8 o2,.str s2,.sl none l2.length (l2.flatMap Tm.cells),.sl none m2.length (m2.flatMap Fo.cells)]:=by rw [hxe,zaf]
  rw [hce] at hx
  cases hb:zbe (l.getD j (Fo.mk 0 .empty [] [])) with
  | true =>
    rw [hb] at hx
    (repeat' ((conv=>whnf);(first|(refine IfN.id ?_;first|refine IfN.not ?_|refine IfN.tt rfl ?_|refine IfN.dT (by omega) ?_|fail)|(refine zad _ _ Cst.h Cst.h ?_ ?_;· omega)|(refine SideN.mk ?_ ?_;· first|omega|exact List.cons_ne_nil _ _|fail)|refine CallN.det _ (hx _) ?_|refine zah (Fo.mk 0 .empty [] []) j rfl hlt za1 hce ?_|fail)));conv=>whnf
    (refine ⟨⟨j+1,⟨by omega,fun i hi=>by
     by_cases e:i=j
     ·rw [e];exact hb
     ·exact hall i (by omega)⟩,by omega,?_,.inl ⟨rfl,rfl⟩,rfl,_,rfl,?_⟩⟩;rotate_left 1;exact .inr ⟨by simp [zc3,below,zae,tr,zaz,zar,zag,zb7,zcj,zdr],by simp [zdw,Blk.below,zae,below,zaz,zar,zag,zb7,zcj,zdr]⟩;exact ⟨⟨_,rfl,Wk.refl _⟩,trivial⟩)
  | false =>
    rw [hb] at hx
    (repeat' ((conv=>whnf);(first|(refine IfN.id ?_;first|refine IfN.not ?_|refine IfN.ff rfl ?_|refine IfN.dT (by omega) ?_|fail)|(refine SideN.mk ?_ ?_;· first|omega|exact List.cons_ne_nil _ _|fail)|refine CallN.det _ (hx _) ?_|refine zah (Fo.mk 0 .empty [] []) j rfl hlt za1 hce ?_|fail)));conv=>whnf
    have:l.all zbe=false:=by
     apply Bool.eq_false_iff.2
     intro hA
     rw [List.all_eq_true.1 hA _ hmem] at hb
     cases hb
    rw [this]
    exact eT trivial
 ·have:l.all zbe=true:=by
   rw [List.all_eq_true]
   intro x hx
   obtain ⟨i,hi,rfl⟩:=List.getElem_of_mem hx
   have:=hall i (by omega)
   rwa [show l.getD i (Fo.mk 0 .empty [] [])=l[i] by simp [List.getD_eq_getElem?_getD,hi]] at this
  rw [this]
  (repeat' ((conv=>whnf);(first|refine zaj (by omega) ?_|fail)));conv=>whnf
  exact eT trivial
theorem namesG_nodup (l:List Fo):(zao l).Nodup:=by
 unfold zao sortG
 exact (List.mergeSort_perm _ _).nodup_iff.2 (zdx l List.nodup_nil)
theorem zdn (l:List Fo):(zao l).length=(addGs [] l).length:=by unfold zao sortG;exact List.length_mergeSort _
def ownA (l:List Fo):AV:=if l.all zbe=false then .tup [.nilp,.int .i64 2] else if 12<(zao l).length then .tup [.nilp,.int .i64 5] else .tup [tblG (zao l),.int .i64 0]
theorem own_g (l:List Fo) (hg:Fo.goodL l) (hlen:l.length≤9223372036854775807) (hn:(addGs [] l).length≤100000) (H:Heap):VDet Tryz.prog 38 [.sl none l.length (l.flatMap Fo.cells)] H (ownA l):=by
 have h1:=allRight_g l hg hlen
 have h2:=atoms_g l hg hlen hn
 have hnd:=namesG_nodup l
 have hnl:=zdn l
 have h3:=fun h=>newTable_g (zao l) hnd (h:(zao l).length≤1000)
 have hb:=zch (zao l)
 unfold ownA
 generalize zao l=ns at *
 generalize tblG ns=t at *
 generalize l.flatMap Fo.cells=lc at *
 generalize l.all zbe=b at *
 cases b with
 | false =>
   rw [if_pos rfl]
   refine fdD Tryz.func38 ⟨rfl,rfl,rfl⟩ fun hcl hbl=>?_
   (repeat' ((conv=>whnf);(first|(refine IfN.id ?_;first|refine IfN.not ?_|refine IfN.ff rfl ?_|fail)|refine CallN.det _ (h1 _) ?_|fail)));conv=>whnf
   exact eT ⟨trivial,trivial,trivial⟩
 | true =>
   rw [if_neg (by simp)]
   by_cases h12:12<ns.length
   ·rw [if_pos h12]
    refine fdD Tryz.func38 ⟨rfl,rfl,rfl⟩ fun hcl hbl=>?_
    (repeat' ((conv=>whnf);(first|(refine IfN.id ?_;first|refine IfN.not ?_|refine IfN.tt rfl ?_|refine IfN.dT (by omega) ?_|fail)|(refine CallN.id ?_;first|refine CallN.det _ (h1 _) ?_|refine CallN.det _ (h2 _) ?_|fail)|fail)));conv=>whnf
    exact eT ⟨trivial,trivial,trivial⟩
   ·rw [if_neg h12]
    have h3:=h3 (by omega)
    refine fdD Tryz.func38 ⟨rfl,rfl,rfl⟩ fun hcl hbl=>?_
    (repeat' ((conv=>whnf);(first|(refine IfN.id ?_;first|refine IfN.not ?_|refine IfN.tt rfl ?_|refine zaj (by omega) ?_|fail)|(refine CallN.id ?_;first|refine CallN.det _ (h1 _) ?_|refine CallN.det _ (h2 _) ?_|refine CallN.det _ (h3 _) ?_|fail)|fail)));conv=>whnf
    exact EndN.det ⟨hb _,trivial,trivial⟩ (Wk.refl _)
theorem form_info:∃ i z,Tryz.prog.info? 40=some i∧i.zero=some z∧i.size=4∧i.bytes=72∧z.cells.size=4:=by
 have h:(Tryz.prog.info? 40).bind (fun i=>i.zero.map fun z=>(i.size,i.bytes,z.cells.size))=some (4,72,4):=by kernel_rfl
 cases hi:Tryz.prog.info? 40 with
 | none=>rw [hi] at h;cases h
 | some i =>
   rw [hi] at h
   cases hz:i.zero with
   | none=>simp [hz] at h
   | some z =>
     simp [hz] at h
     exact ⟨i,z,rfl,hz,h.1,h.2.1,h.2.2⟩
theorem grow_c (n:Nat) (h0:0<n) (hn:n≤1000) (H:Heap):VCall Tryz.prog 74 [.nils,.int .i64 n] H (fun r H'=>r=.sl (some (H.length+0)) 0 []∧H'=H++[.tok 40 4 0]):=by
 unfold VCall
 refine ⟨⟨_,Tryz.func74,by kernel_rfl,rfl⟩,fun g w xs hH hL=>?_⟩
 obtain ⟨i,z,hi,hz,hsz,hby,hzs⟩:=form_info
 obtain ⟨c,r,has,hc,d,r',rfl,hd,rfl⟩:=hL
 simp only [VRel] at hc hd
 subst hc hd
 have has:xs=#[.slice none 0 0,.int .i64 n]:=by simpa using congrArg List.toArray has
 subst has
 have hcall:=Any8.slices_Grow_grow Tryz.grow74 i z hi hz (by omega) none 0 0 n [] w (Nat.le_refl _) (by omega) (by rw [hby];omega) (by omega) (by simp) (fun _=>rfl) (fun a e=>by cases e)
 change Calls Tryz.prog 74 _ _ _ at hcall
 rw [show Tryz.grow74_ren.t 25=40 from rfl] at hcall
 refine hcall.mono ?_
 rintro e w' ⟨rfl,rfl⟩
 have hG:=grownCap_ge w (0+n) 0 40
 have hG2:=grownCap_le_maxLen w (0+n) 0 40 (by unfold maxLen;omega)
 generalize grownCap w (0+n) 0 40=G at hG hG2 ⊢
 have hcz:(([]:List Value).toArray++Builtin.zeroCells z.cells (0+n-0)++Builtin.zeroCells z.cells (G-(0+n))).size=G * 4:=by
  simp only [Array.size_append,size_zeroCells,hzs,List.size_toArray,List.length_nil]
  omega
 generalize (([]:List Value).toArray++Builtin.zeroCells z.cells (0+n-0)++Builtin.zeroCells z.cells (G-(0+n)))=cs at hcz ⊢
 obtain ⟨g',q1,q2,q3,q4⟩:=hH.newTok0 40 4 G cs hcz hG2
 refine ⟨_,_,g',_,rfl,⟨rfl,rfl⟩,?_,?_,q4⟩
 ·have:=q3.of
  simpa [Hp.all,Hp.of] using this
 ·simp only [VRel]
  refine ⟨_,_,rfl,Nat.zero_le _,.inl trivial,fun t ht=>?_⟩
  cases ht
  have hgn:g.n=H.length+0:=by rw [hH.n];rfl
  rw [← hgn]
  refine ⟨q1,Nat.zero_le _,fun _=>?_⟩
  rw [q2]
  exact ⟨rfl,rfl,rfl⟩
theorem grow0_c (H:Heap):VDet Tryz.prog 74 [.nils,.int .i64 (0+(0:Nat)+(0:Nat):Nat)] H .nils:=by
 unfold VDet VPure VCall
 refine ⟨⟨_,Tryz.func74,by kernel_rfl,rfl⟩,fun g w xs hH hL=>?_⟩
 obtain ⟨c,r,has,hc,d,r',rfl,hd,rfl⟩:=hL
 simp only [VRel] at hc hd
 subst hc hd
 have has:xs=#[.slice none 0 0,.int .i64 0]:=by simpa using congrArg List.toArray has
 subst has
 have hcall:=Any8.slices_Grow_room Tryz.grow74 none 0 0 0 w (Nat.le_refl _) (by omega) (by omega) (by omega)
 change Calls Tryz.prog 74 _ _ _ at hcall
 refine hcall.mono ?_
 rintro e w' ⟨rfl,rfl⟩
 exact ⟨_,_,g,_,rfl,⟨rfl,rfl⟩,hH,by simp [VRel],Ext.refl g _⟩
theorem concat0_c (H:Heap):VDet Tryz.prog 39 [.sl none 2 [.sl none 0 [],.sl none 0 []]] H (.sl none 0 []):=by
 have hg:=grow0_c
 refine fdD Tryz.func39 ⟨rfl,rfl,rfl⟩ fun hcl hbl=>?_
 conv=>whnf
 refine LoopN.rounds Tryz.E0 zak 3 rfl ?_
 (repeat' ((conv=>whnf);(first|(refine IfN.id ?_;first|refine IfN.tt rfl ?_|refine IfN.ff rfl ?_|fail)|(refine zad _ _ Cst.h Cst.h ?_ ?_;· omega)|(refine SideN.mk ?_ ?_;· first|omega|exact List.cons_ne_nil _ _|fail)|refine CallN.det _ (hg _) ?_|refine SegN.mk _ (zb8 rfl) ?_|fail)));conv=>whnf
 refine LoopN.rounds Tryz.E0 zak 3 rfl ?_
 (repeat' ((conv=>whnf);(first|(refine IfN.id ?_;first|refine IfN.tt rfl ?_|refine IfN.ff rfl ?_|fail)|(refine zad _ _ Cst.h Cst.h ?_ ?_;· omega)|(refine SideN.mk ?_ ?_;· first|omega|exact List.cons_ne_nil _ _|fail)|refine OrN.r (OrN.l (SideN.mk rfl ?_))|refine SegN.mk _ (zb8 rfl) ?_|fail)));conv=>whnf
 exact EndN.det ⟨fun _ e=>(nomatch e),trivial⟩ zdo
end
section
theorem bit_one (g:Nat→Bool) (k:Nat) (hk:k<64):(bits .and .u64 ((zal 64 g >>> k:Nat):Int) 1==1)=g k:=by
 have h1:(1:Int)=((zal 64 fun i=>i==0:Nat):Int):=by decide
 have hlt:zal 64 g >>> k<2 ^ 64:=Nat.lt_of_le_of_lt (Nat.shiftRight_le _ _) (mk_lt 64 g)
 have h2:zal 64 g >>> k=zal 64 fun i=>(zal 64 g >>> k).testBit i:=eq_mk hlt fun _ _=>rfl
 have h3:bits .and .u64 ((zal 64 g >>> k:Nat):Int) 1=((zal 64 fun i=>g k&&i==0:Nat):Int):=by
  have:=zf1 (fun i=>(zal 64 g >>> k).testBit i) (fun i=>i==0)
  rw [← h2,← h1] at this
  rw [this]
  refine congrArg _ (zdi fun i _=>?_)
  cases i with
  | zero=>rw [Nat.testBit_shiftRight,Nat.add_zero,zb6];simp [hk]
  | succ i=>simp
 rw [h3]
 cases g k <;> decide
theorem zdk (m k:Nat) (hk:k≤63):((m:Nat):Int).fdiv (2 ^ min ((k:Nat):Int).toNat IntKind.u64.bits)=((m >>> k:Nat):Int):=by
 rw [Int.toNat_natCast,Nat.min_eq_left (by show k≤64;omega),Nat.shiftRight_eq_div_pow]
 rw [Int.fdiv_eq_ediv_of_nonneg _ (Int.pow_nonneg (by omega))]
 simp
attribute [local irreducible] VW VCall VO bits
end
section
attribute [local irreducible] VW VCall VO bits
theorem lessB_iff (a b:ByteArray):lessB a b=true↔a.toList<b.toList:=by
 unfold lessB
 rw [zg8,decide_eq_true_eq]
theorem isNm_lt {l:List ByteArray} (h:isNmG l=true):∀ (k i:Nat),i<k→k<l.length→(l.getD i eN).toList<(l.getD k eN).toList
 | 0,i,hi,_=>by omega
 | k+1,i,hi,hk=>by
   have h1:=List.all_eq_true.1 h (k+1) (List.mem_range.2 hk)
   unfold nmAt at h1
   rw [Bool.and_eq_true,Bool.or_eq_true,decide_eq_true_eq,Nat.add_sub_cancel,lessB_iff] at h1
   have h2:=h1.2.resolve_left (by omega)
   rcases Nat.lt_or_ge i k with h3|h3
   ·exact List.lt_trans (isNm_lt h k i h3 (by omega)) h2
   ·obtain rfl:i=k:=by omega
    exact h2
theorem isNm_nodup {l:List ByteArray} (h:isNmG l=true):l.Nodup:=by
 unfold List.Nodup
 rw [List.pairwise_iff_getElem]
 intro i j hi hj hij e
 have:=isNm_lt h j i hij hj
 rw [show l.getD i eN=l[i] by simp [List.getD_eq_getElem?_getD,hi],show l.getD j eN=l[j] by simp [List.getD_eq_getElem?_getD,hj],e] at this
 exact List.lt_irrefl _ this
def inAll (f:Fo) (l:List ByteArray):Bool:=(zao [f]).all fun c=>memG c l
def namedA (f:Fo) (l:List ByteArray) (v:Int):AV :=
 if 12<l.length then .tup [.nilp,.int .i64 5] else if ¬ (zbe f=true∧isNmG l=true∧0≤v∧v<(2 ^ l.length:Nat)) then .tup [.nilp,.int .i64 2] else if inAll f l=false then .tup [.nilp,.int .i64 6] else .tup [tblG l,.int .i64 0]
theorem zgt (f:Fo) (hg:f.good) (hn:(addGs [] [f]).length≤100000) (l:List ByteArray) (hlen:l.length≤9223372036854775807) (hsz:∀ c∈l,c.size≤maxLen) (v:Int) (H:Heap):VDet Tryz.prog 54 [.agg f.cells,.sl none l.length (l.flatMap encSG),.int .i64 v] H (namedA f l v):=by
 have h1:=right_g' f hg
 have h2:=zgy l hlen hsz
 have h3:=atoms_g [f] ⟨hg,trivial⟩ (by simp) hn
 have hcon:=fun c=>contains_g l c hlen
 have h4:=fun (h:isNmG l=true) (h12:l.length≤1000)=>newTable_g l (isNm_nodup h) h12
 have hb:=zch l
 have hnl:=zdn [f]
 rw [show [f].flatMap Fo.cells=f.cells by simp] at h3
 unfold namedA inAll
 obtain ⟨op,s,al,m⟩:=f
 rw [zaf] at h1 h3 ⊢
 generalize zbe (Fo.mk op s al m)=br at *
 generalize zao [Fo.mk op s al m]=ns at *
 have h3:∀ H,VDet Tryz.prog 10 [.sx 1 [.int .u8 op,.str s,.sl none al.length (al.flatMap Tm.cells),.sl none m.length (m.flatMap Fo.cells)]] H (.sl none ns.length (ns.flatMap encSG)):=fun H=>zbg (h3 H) ⟨wk_sx _ _,trivial⟩
 generalize tblG l=t at *
 generalize hmb:(fun c=>memG c l)=mb at *
 have hcon:∀ c H,VDet Tryz.prog 81 [.sl none l.length (l.flatMap encSG),.str c] H (.bool (mb c)):=fun c H=>by rw [← hmb];exact hcon c H
 generalize isNmG l=bn at *
 generalize al.flatMap Tm.cells=ac at *
 generalize al.length=an at *
 generalize m.flatMap Fo.cells=mc at *
 generalize m.length=mn at *
 have hlb:=zag H.length l
 generalize l.flatMap encSG=lc at *
 clear hsz hg hmb
 by_cases h12:12<l.length
 ·rw [if_pos h12]
  generalize l.length=k at *
  refine fdD Tryz.func54 ⟨rfl,rfl,rfl⟩ fun hcl hbl=>?_
  (repeat' ((conv=>whnf);(first|refine IfN.dT (by omega) ?_|fail)));conv=>whnf
  exact eT ⟨trivial,trivial,trivial⟩
 ·rw [if_neg h12]
  have two:EqN (IntKind.i64.wrap (1 * 2 ^ min ((l.length:Nat):Int).toNat IntKind.i64.bits)) fun y=>y=((2 ^ l.length:Nat):Int):=EqN.two l.length (by omega) rfl
  obtain ⟨_,w1,rfl⟩:=two
  have hS:=zco l.length (by omega)
  generalize 2 ^ l.length=S at *
  have h4:=fun h=>h4 h (by omega)
  generalize l.length=k at *
  by_cases hok:br=true∧bn=true∧0≤v∧v<(S:Nat)
  ·rw [if_neg (not_not_intro hok)]
   obtain ⟨rfl,rfl,hv0,hv1⟩:=hok
   have h4:=h4 rfl
   refine fdD Tryz.func54 ⟨rfl,rfl,rfl⟩ fun hcl hbl=>?_
   (repeat' ((conv=>whnf);(first|(refine IfN.id ?_;first|refine IfN.not ?_|refine IfN.tt rfl ?_|refine zaj (by omega) ?_|fail)|refine EqN.mk _ w1 ?_|refine SideN.mk (by omega) ?_|(refine CallN.id ?_;first|refine CallN.det _ (h1 _) ?_|refine CallN.det _ (h2 _) ?_|refine CallN.det _ (h3 _) ?_|fail)|fail)));conv=>whnf
   refine zau Tryz.E0 zak (σ:=Nat) (fun j=>j≤ns.length∧∀ i,i<j→mb (ns.getD i eN)=true) (fun j=>ns.length-j) (fun j=>[(36,.v (.int .i64 j))]) (fun j=>_) _ 0 rfl hcl [1,34,35] rfl ⟨Nat.zero_le _,fun i hi=>by omega⟩ ⟨⟨_,rfl,Wk.refl _⟩,trivial⟩ rfl (fun _ _=>rfl) ?_
   rintro j ⟨hj,hall⟩
   clear hbl
   by_cases hlt:j<ns.length
   ·have hc:=hcon (ns.getD j eN)
    cases hb2:mb (ns.getD j eN) with
    | true =>
      rw [hb2] at hc
      (repeat' ((conv=>whnf);(first|(refine IfN.id ?_;first|refine IfN.not ?_|refine IfN.tt rfl ?_|refine IfN.dT (by omega) ?_|fail)|(refine zad _ _ Cst.h Cst.h ?_ ?_;· omega)|(refine SideN.mk ?_ ?_;· first|omega|exact List.cons_ne_nil _ _|fail)|refine CallN.det _ (hc _) ?_|refine zba (f:=encSG) (l:=ns) eN j rfl hlt (fun _=>rfl) ?_|fail)));conv=>whnf
      (refine ⟨⟨j+1,⟨by omega,fun i hi=>by
       by_cases e:i=j
       ·rw [e];exact hb2
       ·exact hall i (by omega)⟩,by omega,?_,.inl ⟨rfl,rfl⟩,rfl,_,rfl,?_⟩⟩;rotate_left 1;exact .inl rfl;exact ⟨⟨_,rfl,Wk.refl _⟩,trivial⟩)
    | false =>
      rw [hb2] at hc
      (repeat' ((conv=>whnf);(first|(refine IfN.id ?_;first|refine IfN.not ?_|refine IfN.ff rfl ?_|refine IfN.dT (by omega) ?_|fail)|(refine SideN.mk ?_ ?_;· first|omega|exact List.cons_ne_nil _ _|fail)|refine CallN.det _ (hc _) ?_|refine zba (f:=encSG) (l:=ns) eN j rfl hlt (fun _=>rfl) ?_|fail)));conv=>whnf
      have:ns.all mb=false:=by
       apply Bool.eq_false_iff.2
       intro hA
       rw [List.all_eq_true.1 hA _ (zam ns j eN hlt)] at hb2
       cases hb2
      rw [if_pos this]
      exact eT ⟨trivial,trivial,trivial⟩
   ·have:ns.all mb=true:=by
     rw [List.all_eq_true]
     intro x hx
     obtain ⟨i,hi,rfl⟩:=List.getElem_of_mem hx
     have:=hall i (by omega)
     rwa [show ns.getD i eN=ns[i] by simp [List.getD_eq_getElem?_getD,hi]] at this
    rw [if_neg (by rw [this];simp)]
    (repeat' ((conv=>whnf);(first|refine zaj (by omega) ?_|refine CallN.det _ (h4 _) ?_|fail)));conv=>whnf
    exact EndN.det ⟨hb _,trivial,trivial⟩ (Wk.refl _)
  ·rw [if_pos hok]
   cases br with
   | false =>
     refine fdD Tryz.func54 ⟨rfl,rfl,rfl⟩ fun hcl hbl=>?_
     (repeat' ((conv=>whnf);(first|(refine IfN.id ?_;first|refine IfN.not ?_|refine IfN.ff rfl ?_|refine zaj (by omega) ?_|fail)|refine CallN.det _ (h1 _) ?_|fail)));conv=>whnf
     exact eT ⟨trivial,trivial,trivial⟩
   | true =>
     cases bn with
     | false =>
       refine fdD Tryz.func54 ⟨rfl,rfl,rfl⟩ fun hcl hbl=>?_
       (repeat' ((conv=>whnf);(first|(refine IfN.id ?_;first|refine IfN.not ?_|refine IfN.tt rfl ?_|refine IfN.ff rfl ?_|refine zaj (by omega) ?_|fail)|(refine CallN.id ?_;first|refine CallN.det _ (h1 _) ?_|refine CallN.det _ (h2 _) ?_|fail)|fail)));conv=>whnf
       exact eT ⟨trivial,trivial,trivial⟩
     | true =>
       by_cases h0:v<0
       ·refine fdD Tryz.func54 ⟨rfl,rfl,rfl⟩ fun hcl hbl=>?_
        (repeat' ((conv=>whnf);(first|(refine IfN.id ?_;first|refine IfN.not ?_|refine IfN.tt rfl ?_|refine IfN.dT (by omega) ?_|refine zaj (by omega) ?_|fail)|(refine CallN.id ?_;first|refine CallN.det _ (h1 _) ?_|refine CallN.det _ (h2 _) ?_|fail)|fail)));conv=>whnf
        exact eT ⟨trivial,trivial,trivial⟩
       ·have hge:(S:Int)≤v:=by
         apply Classical.byContradiction
         intro hh
         exact hok ⟨rfl,rfl,by omega,by omega⟩
        refine fdD Tryz.func54 ⟨rfl,rfl,rfl⟩ fun hcl hbl=>?_
        (repeat' ((conv=>whnf);(first|(refine IfN.id ?_;first|refine IfN.not ?_|refine IfN.tt rfl ?_|refine IfN.dT (by omega) ?_|refine zaj (by omega) ?_|fail)|refine EqN.mk _ w1 ?_|refine SideN.mk (by omega) ?_|(refine CallN.id ?_;first|refine CallN.det _ (h1 _) ?_|refine CallN.det _ (h2 _) ?_|fail)|fail)));conv=>whnf
        exact eT ⟨trivial,trivial,trivial⟩
end
section
def opB (op:Nat) (a b:Bool):Bool:=if op=2 then false else if op=3 then !a else if op=4 then a&&b else if op=5 then a || b else if op=6 then !a || b else a==b
mutual
def evF (r:ByteArray→Bool):Fo→Bool
 | .mk op s _ m=>if op=1 then r s else opB op ((evFs r m).getD 0 false) ((evFs r m).getD 1 false)
def evFs (r:ByteArray→Bool):List Fo→List Bool
 | []=>[]
 | x::l=>evF r x::evFs r l
end
theorem zg6 (r:ByteArray→Bool):∀ p:Fp,p.Ok→evF r p.fo=p.ev r
 | .at c,_=>by unfold Fp.fo evF Fp.ev;rfl
 | .fa,_=>by unfold Fp.fo evF Fp.ev;rfl
 | .f1 a,h=>by
   unfold Fp.fo evF evFs Fp.ev
   rw [zg6 r a h]
   rfl
 | .f2 k a b,h=>by
   have h1:=zg6 r a h.2.1
   have h2:=zg6 r b h.2.2
   unfold Fp.fo evF evFs Fp.ev
   rw [h1,evFs.eq_def]
   simp only
   rw [h2]
   rcases h.1 with rfl|rfl|rfl|rfl <;> simp [opB]
def Fp.has (c:ByteArray):Fp→Prop
 | .at d=>c=d
 | .fa=>False
 | .f1 a=>a.has c
 | .f2 _ a b=>a.has c∨b.has c
theorem mem_insG (ks:List ByteArray) (c d:ByteArray):c∈insG ks d↔c∈ks∨c=d:=by
 unfold insG
 split
 ·rename_i h
  exact ⟨.inl,fun h2=>h2.elim id fun e=>e▸(zdj d ks).1 h⟩
 ·simp
theorem zfw (c:ByteArray):∀ (p:Fp) (ks:List ByteArray),p.Ok→(c∈addG ks p.fo↔c∈ks∨p.has c)
 | .at d,ks,_=>by
   unfold Fp.fo addG
   rw [if_pos rfl,zbz]
   exact mem_insG ks c d
 | .fa,ks,_=>by
   unfold Fp.fo addG
   rw [if_neg (by decide),zbz]
   simp [Fp.has]
 | .f1 a,ks,h=>by
   unfold Fp.fo addG
   rw [if_neg (by decide),zbr,zbz]
   exact zfw c a ks h
 | .f2 k a b,ks,h=>by
   unfold Fp.fo addG
   rw [if_neg (by have:=h.1;omega),zbr,zbr,zbz,zfw c b _ h.2.2,zfw c a ks h.2.1]
   simp only [Fp.has,or_assoc]
theorem in_iffP (l:List ByteArray):∀ p:Fp,p.In l↔∀ c,p.has c→c∈l
 | .at d=>⟨fun h c e=>e▸h,fun h=>h d rfl⟩
 | .fa=>⟨fun _ _ e=>e.elim,fun _=>trivial⟩
 | .f1 a=>in_iffP l a
 | .f2 _ a b=>by
   simp only [Fp.In,Fp.has,in_iffP l a,in_iffP l b]
   exact ⟨fun h c e=>e.elim (h.1 c) (h.2 c),fun h=>⟨fun c e=>h c (.inl e),fun c e=>h c (.inr e)⟩⟩
theorem mem_namesG1 (c:ByteArray) (l:List Fo):c∈zao l↔c∈addGs [] l:=by
 unfold zao sortG
 exact (List.mergeSort_perm _ _).mem_iff
theorem zfl {p:Fp} (hp:p.Ok) {l:List ByteArray} (h:inAll p.fo l=true):p.In l:=by
 rw [in_iffP]
 intro c hc
 unfold inAll at h
 have:=List.all_eq_true.1 h c ((mem_namesG1 c _).2 (by
  rw [zbr,zbz,zfw c p [] hp]
  exact .inr hc))
 exact (zdj c l).1 this
def errN (f:Fo) (l:List ByteArray) (v:Int):Int :=
 if 12<l.length then 5 else if ¬ (zbe f=true∧isNmG l=true∧0≤v∧v<(2 ^ l.length:Nat)) then 2 else if inAll f l=false then 6 else 0
theorem zgu (f:Fo) (l:List ByteArray) (v:Int):namedA f l v=if errN f l v=0 then .tup [tblG l,.int .i64 0] else .tup [.nilp,.int .i64 (errN f l v)]:=by
 unfold namedA errN
 split
 ·rfl
 ·split
  ·rfl
  ·split <;> rfl
theorem zfm {f:Fo} {l:List ByteArray} {v:Int} (h:errN f l v=0):l.length≤12∧zbe f=true∧isNmG l=true∧(0≤v∧v<(2 ^ l.length:Nat))∧inAll f l=true:=by
 unfold errN at h
 split at h
 ·cases h
 ·rename_i h1
  split at h
  ·cases h
  ·rename_i h2
   have h2:=Classical.not_not.1 h2
   split at h
   ·cases h
   ·rename_i h3
    exact ⟨by omega,h2.1,h2.2.1,h2.2.2,by simpa using h3⟩
attribute [local irreducible] VW VCall VO bits
def evalA (f:Fo) (l:List ByteArray) (v:Int):AV:=.tup [.bool (decide (errN f l v=0)&&evF (vbG l v.toNat) f),.int .i64 (errN f l v)]
theorem eval_g (f:Fo) (hg:f.good) (hn:(addGs [] [f]).length≤100000) (l:List ByteArray) (hlen:l.length≤9223372036854775807) (hsz:∀ c∈l,c.size≤maxLen) (v:Int) (H:Heap):VDet Tryz.prog 19 [.agg f.cells,.sl none l.length (l.flatMap encSG),.int .i64 v] H (evalA f l v):=by
 have h1:=zgt f hg hn l hlen hsz v
 rw [zgu] at h1
 unfold evalA
 by_cases he:errN f l v=0
 ·obtain ⟨h12,hr,hnm,⟨hv0,hv1⟩,hin⟩:=zfm he
  rw [if_pos he] at h1
  rw [he,decide_eq_true rfl,Bool.true_and]
  obtain ⟨p,hp,rfl⟩:=zez hr
  obtain ⟨n,rfl⟩:∃ n:Nat,v=n:=⟨v.toNat,by omega⟩
  rw [Int.toNat_natCast,zg6 _ p hp]
  have h2l:=zco l.length h12
  have h2:=zd3 l (by omega) (n / 64) (by omega) p hp (zfl hp hin)
  have hres:p.ev (vbG l n)=(fun i=>p.ev (vbG l (64 * (n / 64)+i))) (n % 64):=by
   show _=p.ev (vbG l (64 * (n / 64)+n % 64))
   rw [Nat.div_add_mod]
  rw [hres]
  have h2:∀ H,VDet Tryz.prog 42 [tblG l,.agg p.fo.cells,.int .i64 ((n:Int) / 64)] H (blkG l (n / 64) p):=h2
  unfold blkG U at h2
  generalize (fun i=>p.ev (vbG l (64 * (n / 64)+i)))=g at *
  have hbit:=bit_one g (n % 64) (Nat.mod_lt _ (by omega))
  obtain ⟨fo,fn,fsn,fsc,hfc⟩:=zbi p
  generalize zal 64 g=gg at *
  generalize tblG l=t at *
  rw [hfc] at h1 h2 ⊢
  generalize l.flatMap encSG=lc at *
  generalize l.length=k at *
  refine fdD Tryz.func19 ⟨rfl,rfl,rfl⟩ fun hcl hbl=>?_
  (repeat' ((conv=>whnf);(first|(refine IfN.id ?_;first|refine IfN.not ?_|refine IfN.tt rfl ?_|fail)|(refine EqN.id ?_;first|refine EqN.quo (by omega) ?_|refine EqN.rem (by omega) ?_|refine EqN.mk _ rfl ?_|fail)|refine SideN.mk (by omega) ?_|(refine CallN.id ?_;first|refine CallN.det _ (h1 _) ?_|refine CallN.det _ (h2 _) ?_|fail)|fail)));conv=>whnf
  refine EndN.det ⟨trivial,trivial,trivial⟩ (zab ?_)
  rw [← hbit,← zdk gg (n % 64) (by omega)]
  rfl
 ·rw [if_neg he] at h1
  rw [decide_eq_false he,Bool.false_and]
  generalize errN f l v=e at *
  obtain ⟨op,s,al,m⟩:=f
  rw [zaf] at h1 ⊢
  generalize l.flatMap encSG=lc at *
  generalize l.length=k at *
  generalize al.flatMap Tm.cells=ac at *
  generalize m.flatMap Fo.cells=mc at *
  refine fdD Tryz.func19 ⟨rfl,rfl,rfl⟩ fun hcl hbl=>?_
  (repeat' ((conv=>whnf);(first|refine IfN.neT he ?_|refine CallN.det _ (h1 _) ?_|fail)));conv=>whnf
  exact eT ⟨trivial,trivial,trivial⟩
end
section
attribute [local irreducible] VW VCall VO bits
def tabB (h:Nat→Bool) (S i:Nat):List AV:=(List.range S).map fun v=>.bool (decide (v<i)&&h v)
theorem tabB_below (n:Nat) (h:Nat→Bool) (S i:Nat):zae n (tabB h S i):=by
 unfold tabB
 induction List.range S with
 | nil=>trivial
 | cons x l ih=>exact ⟨trivial,ih⟩
theorem setC_one (v:AV):∀ (l:List AV) (o:Nat),o<l.length→setC l o [v]=some (l.set o v)
 | [],o,h=>absurd h (by simp)
 | x::l,0,_=>by simp [setC,replC]
 | x::l,o+1,h=>by
   simp only [setC,setC_one v l o (by simpa using h),List.set_cons_succ]
theorem set_tab (h:Nat→Bool) (S i:Nat) (hi:i<S):setC (tabB h S i) i [.bool (h i)]=some (tabB h S (i+1)):=by
 rw [setC_one _ _ _ (by unfold tabB;simpa using hi)]
 congr 1
 unfold tabB
 apply List.ext_getElem?
 intro j
 rw [List.getElem?_set]
 split
 ·rename_i e
  subst e
  simp [hi]
 ·rename_i e
  by_cases hj:j<S
  ·rw [List.getElem?_map,List.getElem?_map,List.getElem?_range hj]
   simp only [Option.map_some,Option.some.injEq,AV.bool.injEq]
   have:decide (j<i)=decide (j<i+1):=by
    rw [decide_eq_decide]
    omega
   rw [this]
  ·rw [List.getElem?_eq_none (by simpa using hj),List.getElem?_eq_none (by simpa using hj)]
theorem repC_one (v:AV):∀ n,repC n [v]=List.replicate n v
 | 0=>rfl
 | n+1=>by
   simp only [repC,repC_one v n,List.replicate_succ]
   rfl
theorem rep_tab (h:Nat→Bool) (S:Nat):repC S [.bool false]=tabB h S 0:=by
 unfold tabB
 apply List.ext_getElem?
 intro j
 rw [repC_one]
 by_cases hj:j<S
 ·rw [List.getElem?_replicate,if_pos hj,List.getElem?_map,List.getElem?_range hj]
  simp
 ·rw [List.getElem?_eq_none (by simpa using hj),List.getElem?_eq_none (by simpa using hj)]
end
section
theorem mk_zero (n:Nat) (g:Nat→Bool):zal n g=0↔∀ i,i<n→g i=false:=by
 constructor
 ·intro h i hi
  have:=zb6 n g i
  rw [h] at this
  simpa [hi] using this.symm
 ·intro h
  rw [zdi (h:=fun _=>false) h]
  clear h
  induction n with
  | zero=>rfl
  | succ n ih=>simp [zal,ih]
theorem leastB (g:Nat→Bool):∀ n,(∃ i,i<n∧g i=true)→∃ k,k<n∧g k=true∧∀ i,i<k→g i=false
 | 0,h=>by obtain ⟨i,h1,_⟩:=h;omega
 | n+1,h=>by
   by_cases hn:∃ i,i<n∧g i=true
   ·obtain ⟨k,h1,h2,h3⟩:=leastB g n hn
    exact ⟨k,by omega,h2,h3⟩
   ·obtain ⟨i,h1,h2⟩:=h
    have:i=n:=by
     rcases Nat.lt_or_ge i n with h3|h3
     ·exact absurd ⟨i,h3,h2⟩ hn
     ·omega
    subst this
    refine ⟨i,h1,h2,fun j hj=>?_⟩
    cases hg:g j with
    | false=>rfl
    | true=>exact absurd ⟨j,hj,hg⟩ hn
theorem wu64m (m:Nat):IntKind.u64.wrap (m:Int)=((m % 2 ^ 64:Nat):Int):=by
 unfold IntKind.wrap
 simp only [IntKind.signed,Bool.false_and]
 show (m:Int) % (2 ^ 64:Int)=_
 rw [Int.natCast_emod]
 rfl
theorem neg_u64 (x:Nat) (h0:0<x) (h:x<2 ^ 64):IntKind.u64.wrap (0-(x:Int))=((2 ^ 64-((x-1)+1):Nat):Int):=by
 unfold IntKind.wrap
 simp only [IntKind.signed,Bool.false_and]
 show (0-(x:Int)) % (2 ^ 64:Int)=_
 have h1:((0:Int)-(x:Int)) % (2 ^ 64:Int)=((0:Int)-(x:Int)+2 ^ 64) % (2 ^ 64:Int):=by rw [Int.add_emod_right]
 rw [h1,Int.emod_eq_of_lt (by omega) (by omega)]
 omega
theorem low_one (x k:Nat) (hx:x<2 ^ 64) (hk:k<64) (h1:x.testBit k=true) (h0:∀ i,i<k→x.testBit i=false):bits .and .u64 (x:Int) (IntKind.u64.wrap (0-(x:Int)))=((2 ^ k:Nat):Int):=by
 have hpos:0<x:=by
  rcases Nat.eq_zero_or_pos x with h|h
  ·rw [h] at h1;simp at h1
  ·exact h
 -- x=2^(k+1) * m+2^k
 obtain ⟨m,hm⟩:∃ m,x=2 ^ (k+1) * m+2 ^ k:=by
  refine ⟨x / 2 ^ (k+1),?_⟩
  have h2:x % 2 ^ (k+1)=2 ^ k:=by
   apply Nat.eq_of_testBit_eq
   intro i
   rw [Nat.testBit_mod_two_pow,Nat.testBit_two_pow]
   rcases Nat.lt_trichotomy i k with h|h|h
   ·rw [h0 i h];simp;omega
   ·subst h;simp [h1]
   ·have a:¬ i<k+1:=by omega
    have b:¬ k=i:=by omega
    simp [a,b]
  have:=Nat.div_add_mod x (2 ^ (k+1))
  omega
 have hp:2 ^ k<2 ^ (k+1):=Nat.pow_lt_pow_right (by omega) (by omega)
 have hp0:0<2 ^ k:=Nat.pos_of_ne_zero (by simp)
 have hb1:∀ i,x.testBit i=if i<k+1 then (2 ^ k).testBit i else m.testBit (i-(k+1)):=fun i=>by
  rw [hm]
  exact Nat.testBit_two_pow_mul_add m hp i
 have hb2:∀ i,(x-1).testBit i=if i<k+1 then (2 ^ k-1).testBit i else m.testBit (i-(k+1)):=fun i=>by
  have:x-1=2 ^ (k+1) * m+(2 ^ k-1):=by omega
  rw [this]
  exact Nat.testBit_two_pow_mul_add m (by omega) i
 rw [neg_u64 x hpos hx,zg9]
 refine congrArg Int.ofNat (Nat.eq_of_testBit_eq fun i=>?_)
 rw [Nat.testBit_two_pow]
 simp only [BitVec.toNat_and,Nat.testBit_and]
 rw [ofInt64u x hx,ofInt64u _ (by omega),Nat.testBit_two_pow_sub_succ (by omega),hb1,hb2]
 by_cases hi:i<k+1
 ·rw [if_pos hi,if_pos hi,Nat.testBit_two_pow,Nat.testBit_two_pow_sub_one]
  by_cases e:k=i
  ·subst e;simp;omega
  ·simp [e]
 ·rw [if_neg hi,if_neg hi]
  have:¬ k=i:=by omega
  simp only [this,decide_false]
  cases m.testBit (i-(k+1)) <;> simp
def dB (k:Nat):Nat:=2 ^ k * 285870213051353865 % 2 ^ 64
def tabTZ:List Int:=[0,1,56,2,57,49,28,3,61,58,42,50,38,29,17,4,62,47,59,36,45,43,51,22,53,39,33,30,24,18,12,5,63,55,48,27,60,41,37,16,46,35,44,21,52,32,23,11,54,26,40,15,34,20,31,10,25,14,19,9,13,8,7,6]
theorem tab_ok (k:Nat) (hk:k<64):dB k >>> 58<64∧IntKind.i64.wrap (tabTZ.getD (dB k >>> 58) 0)=k:=by
 have:(List.range 64).all (fun k=>decide (dB k >>> 58<64)&&(IntKind.i64.wrap (tabTZ.getD (dB k >>> 58) 0)==Int.ofNat k))=true:=by kernel_rfl
 have:=List.all_eq_true.1 this k (List.mem_range.2 hk)
 simp only [Bool.and_eq_true,decide_eq_true_eq] at this
 exact ⟨this.1,eq_of_beq this.2⟩
def enc8 (p:Int):List AV:=[.int .u8 p]
attribute [local irreducible] VW VCall VO bits zal
theorem tz_c (g:Nat→Bool) (k:Nat) (hk:k<64) (h1:g k=true) (h0:∀ i,i<k→g i=false) (H:Heap):VDet Tryz.prog 43 [U g] H (.int .i64 k):=by
 unfold U
 have hx:=mk_lt 64 g
 have hb:∀ i,(zal 64 g).testBit i=(decide (i<64)&&g i):=zb6 64 g
 generalize zal 64 g=x at *
 have hand:=low_one x k hx hk (by rw [hb];simp [hk,h1]) (fun i hi=>by rw [hb];simp [h0 i hi])
 have hne:x≠0:=fun e=>by have:=hb k;rw [e] at this;simp [hk,h1] at this
 have hmul:IntKind.u64.wrap (((2 ^ k:Nat):Int) * 285870213051353865)=((dB k:Nat):Int):=by
  rw [show ((2 ^ k:Nat):Int) * 285870213051353865=((2 ^ k * 285870213051353865:Nat):Int) by simp]
  exact wu64m _
 have hshr:((dB k:Nat):Int).fdiv (2 ^ min (58:Int).toNat IntKind.u64.bits)=((dB k >>> 58:Nat):Int):=zdk (dB k) 58 (by omega)
 obtain ⟨hi1,hi2⟩:=tab_ok k hk
 generalize ((2 ^ k:Nat):Int)=p2 at *
 have hne:((x:Nat):Int)≠0:=by omega
 generalize ((x:Nat):Int)=xi at *
 generalize dB k >>> 58=ix at *
 generalize ((dB k:Nat):Int)=db at *
 refine fdD Tryz.func43 ⟨rfl,rfl,rfl⟩ fun hcl hbl=>?_
 (repeat' ((conv=>whnf);(first|refine IfN.eqF hne ?_|(refine EqN.id ?_;first|refine EqN.mk _ hand ?_|refine EqN.mk _ hmul ?_|refine EqN.mk _ hshr ?_|refine EqN.mk _ hi2 ?_|refine EqN.mk _ rfl ?_|fail)|refine SideN.mk (by omega) ?_|refine zba (f:=enc8) (l:=tabTZ) 0 ix rfl hi1 (fun _=>rfl) ?_|fail)));conv=>whnf
 exact eT trivial
end
section
theorem mk_ne (g:Nat→Bool):(((zal 64 g:Nat):Int) != 0)=true↔∃ i,i<64∧g i=true:=by
 rw [bne_iff_ne]
 constructor
 ·intro h
  have h2:¬ zal 64 g=0:=fun e=>h (by rw [e];rfl)
  rw [mk_zero] at h2
  apply Classical.byContradiction
  intro hn
  refine h2 fun i hi=>?_
  cases hg:g i with
  | false=>rfl
  | true=>exact absurd ⟨i,hi,hg⟩ hn
 ·rintro ⟨i,hi,hg⟩ e
  have:zal 64 g=0:=by omega
  rw [mk_zero] at this
  rw [this i hi] at hg
  cases hg
theorem two_mod (n:Nat):2 ^ n<64∨2 ^ n % 64=0:=by
 rcases Nat.lt_or_ge n 6 with h|h
 ·refine .inl ?_
  have:n=0∨n=1∨n=2∨n=3∨n=4∨n=5:=by omega
  rcases this with rfl|rfl|rfl|rfl|rfl|rfl <;> decide
 ·refine .inr ?_
  obtain ⟨m,rfl⟩:∃ m,n=6+m:=⟨n-6,by omega⟩
  rw [Nat.pow_add]
  exact Nat.mul_mod_right _ _
theorem mk_ne' (g:Nat→Bool) (h:¬ ((zal 64 g:Nat):Int)=0):∃ i,i<64∧g i=true:=(mk_ne g).1 (bne_iff_ne.2 h)
theorem mk_eq' (g:Nat→Bool) (h:((zal 64 g:Nat):Int)=0):∀ i,i<64→g i=false:=(mk_zero 64 g).1 (by omega)
attribute [local irreducible] VW VCall VO bits zal
def falA:Option Nat→AV
 | some v=>.tup [.int .i64 v,.bool true,.int .i64 0]
 | none=>.tup [.int .i64 0,.bool false,.int .i64 0]
end
def dg (w:Nat):List Nat→Nat
 | []=>0
 | d::l=>d+2 ^ w * dg w l
def evs:List Nat→List Nat
 | []=>[]
 | [a]=>[a]
 | a::_::l=>a::evs l
def adl:List Nat→List Nat→List Nat
 | [],m=>m
 | a::l,[]=>a::l
 | a::l,b::m=>(a+b)::adl l m
theorem dg_add (w:Nat):∀ l m:List Nat,dg w l+dg w m=dg w (adl l m)
 | [],m=>by simp [adl,dg]
 | a::l,[]=>by simp [adl,dg]
 | a::l,b::m=>by
   simp only [adl,dg,← dg_add w l m,Nat.mul_add]
   omega
theorem dg_lt (w:Nat):∀ l:List Nat,(∀ d∈l,d<2 ^ w)→dg w l<2 ^ (w * l.length)
 | [],_=>by simp [dg]
 | d::l,h=>by
   have h1:=dg_lt w l fun x hx=>h x (List.mem_cons_of_mem _ hx)
   have h2:=h d (List.mem_cons_self ..)
   simp only [dg,List.length_cons]
   rw [Nat.mul_succ,Nat.add_comm (w * l.length) w,Nat.pow_add]
   calc d+2 ^ w * dg w l<2 ^ w+2 ^ w * dg w l:=by omega
    _=2 ^ w * (dg w l+1):=by rw [Nat.mul_succ,Nat.add_comm]
    _≤2 ^ w * 2 ^ (w * l.length):=Nat.mul_le_mul_left _ h1
theorem dg_shift (w:Nat) (d:Nat) (l:List Nat) (h:d<2 ^ w):dg w (d::l) >>> w=dg w l:=by
 rw [Nat.shiftRight_eq_div_pow]
 simp only [dg]
 rw [Nat.add_mul_div_left _ _ (Nat.two_pow_pos w),Nat.div_eq_of_lt h,Nat.zero_add]
theorem and_split (k a b c d:Nat) (ha:a<2 ^ k) (hc:c<2 ^ k):(a+2 ^ k * b) &&& (c+2 ^ k * d)=(a &&& c)+2 ^ k * (b &&& d):=by
 have hac:a &&& c<2 ^ k:=Nat.lt_of_le_of_lt Nat.and_le_left ha
 refine Nat.eq_of_testBit_eq fun i=>?_
 rw [Nat.testBit_and,Nat.add_comm a,Nat.add_comm c,Nat.add_comm (a &&& c),Nat.testBit_two_pow_mul_add _ ha,Nat.testBit_two_pow_mul_add _ hc,Nat.testBit_two_pow_mul_add _ hac]
 split
 ·rw [Nat.testBit_and]
 ·rw [Nat.testBit_and]
def mk2 (w n:Nat):Nat:=dg (2 * w) (List.replicate n (2 ^ w-1))
theorem dg_and (w:Nat):∀ (n:Nat) (l:List Nat),(∀ d∈l,d<2 ^ w)→l.length≤2 * n→dg w l &&& mk2 w n=dg (2 * w) (evs l)
 | _,[],_,_=>by simp [dg,evs]
 | n+1,[a],h,_=>by
   have ha:=h a (List.mem_cons_self ..)
   have hw:2 ^ w≤2 ^ (2 * w):=Nat.pow_le_pow_right (by omega) (by omega)
   have:=Nat.two_pow_pos w
   simp only [mk2,List.replicate_succ,dg,evs,Nat.mul_zero,Nat.add_zero]
   have h1:=and_split (2 * w) a 0 (2 ^ w-1) (dg (2 * w) (List.replicate n (2 ^ w-1))) (by omega) (by omega)
   rw [Nat.mul_zero,Nat.add_zero] at h1
   rw [h1,Nat.zero_and,Nat.mul_zero,Nat.add_zero,Nat.and_two_pow_sub_one_eq_mod,Nat.mod_eq_of_lt ha]
 | n+1,a::b::l,h,hl=>by
   have ha:=h a (List.mem_cons_self ..)
   have hb:=h b (List.mem_cons_of_mem _ (List.mem_cons_self ..))
   have hw:2 ^ w≤2 ^ (2 * w):=Nat.pow_le_pow_right (by omega) (by omega)
   have hp:=Nat.two_pow_pos w
   have ih:=dg_and w n l (fun d hd=>h d (List.mem_cons_of_mem _ (List.mem_cons_of_mem _ hd))) (by simp only [List.length_cons] at hl;omega)
   have hsq:2 ^ (2 * w)=2 ^ w * 2 ^ w:=by rw [Nat.two_mul,Nat.pow_add]
   have hab:a+2 ^ w * b<2 ^ (2 * w):=by
    rw [hsq]
    calc a+2 ^ w * b<2 ^ w+2 ^ w * b:=by omega
     _=2 ^ w * (b+1):=by rw [Nat.mul_succ,Nat.add_comm]
     _≤2 ^ w * 2 ^ w:=Nat.mul_le_mul_left _ hb
   simp only [mk2,List.replicate_succ,dg,evs] at ih ⊢
   rw [show a+2 ^ w * (b+2 ^ w * dg w l)=(a+2 ^ w * b)+2 ^ (2 * w) * dg w l by rw [hsq,Nat.mul_add,Nat.mul_assoc];omega]
   rw [and_split (2 * w) _ _ _ _ hab (by omega),ih,Nat.and_two_pow_sub_one_eq_mod,Nat.add_mul_mod_self_left,Nat.mod_eq_of_lt ha]
 | 0,a::l,_,hl=>by simp only [List.length_cons] at hl;omega
theorem mem_evs {d:Nat}:∀ {l:List Nat},d∈evs l→d∈l
 | [],h=>by simp [evs] at h
 | [a],h=>by simpa [evs] using h
 | a::b::l,h=>by
   simp only [evs,List.mem_cons] at h ⊢
   rcases h with h|h
   ·exact .inl h
   ·exact .inr (.inr (mem_evs h))
theorem adl_le {b c:Nat}:∀ {l m:List Nat},(∀ d∈l,d≤b)→(∀ d∈m,d≤c)→∀ d∈adl l m,d≤b+c
 | [],m,_,hm,d,hd=>by have:=hm d (by simpa [adl] using hd);omega
 | x::l,[],hl,_,d,hd=>by have:=hl d (by simpa [adl] using hd);omega
 | x::l,y::m,hl,hm,d,hd=>by
   simp only [adl,List.mem_cons] at hd
   rcases hd with rfl|hd
   ·have:=hl x (List.mem_cons_self ..);have:=hm y (List.mem_cons_self ..);omega
   ·exact adl_le (fun d hd=>hl d (List.mem_cons_of_mem _ hd)) (fun d hd=>hm d (List.mem_cons_of_mem _ hd)) d hd
theorem sum_evs:∀ l:List Nat,(evs l).sum+(evs l.tail).sum=l.sum
 | []=>rfl
 | [a]=>by simp [evs]
 | a::b::l=>by
   have:=sum_evs l
   cases l with
   | nil=>simp [evs]
   | cons c l =>
     simp only [List.tail_cons,evs,List.sum_cons] at this ⊢
     omega
theorem sum_adl:∀ l m:List Nat,(adl l m).sum=l.sum+m.sum
 | [],m=>by simp [adl]
 | a::l,[]=>by simp [adl]
 | a::l,b::m=>by simp only [adl,List.sum_cons,sum_adl l m];omega
theorem len_evs:∀ l:List Nat,(evs l).length=(l.length+1) / 2
 | []=>rfl
 | [a]=>by simp [evs]
 | a::b::l=>by simp only [evs,List.length_cons,len_evs l];omega
theorem len_adl:∀ l m:List Nat,(adl l m).length=max l.length m.length
 | [],m=>by simp [adl]
 | a::l,[]=>by simp [adl]
 | a::l,b::m=>by simp only [adl,List.length_cons,len_adl l m];omega
def prs (l:List Nat):List Nat:=adl (evs l.tail) (evs l)
theorem prs_sum (l:List Nat):(prs l).sum=l.sum:=by rw [prs,sum_adl,Nat.add_comm,sum_evs]
theorem prs_le {b:Nat} {l:List Nat} (h:∀ d∈l,d≤b):∀ d∈prs l,d≤2 * b:=fun d hd=>by
 have:=adl_le (fun d hd=>h d (List.mem_of_mem_tail (mem_evs hd))) (fun d hd=>h d (mem_evs hd)) d hd
 omega
theorem prs_len (l:List Nat) (h:1≤l.length):(prs l).length=(l.length+1) / 2:=by
 rw [prs,len_adl,len_evs,len_evs,List.length_tail]
 omega
theorem step_pr (w n:Nat) (l:List Nat) (b:Nat) (h:∀ d∈l,d≤b) (hb:b<2 ^ w) (hl:l.length=2 * n) (h1:1≤n):(dg w l >>> w &&& mk2 w n)+(dg w l &&& mk2 w n)=dg (2 * w) (prs l):=by
 have hlt:∀ d∈l,d<2 ^ w:=fun d hd=>by have:=h d hd;omega
 have hs:dg w l >>> w=dg w l.tail:=by
  cases l with
  | nil=>simp at hl;omega
  | cons a l=>exact dg_shift w a l (hlt a (List.mem_cons_self ..))
 rw [hs,dg_and w n l hlt (by omega),dg_and w n l.tail (fun d hd=>hlt d (List.mem_of_mem_tail hd)) (by rw [List.length_tail];omega),dg_add]
 rfl
theorem step_pr' (w n:Nat) (l:List Nat) (b:Nat) (h:∀ d∈l,d≤b) (hb:b+b<2 ^ w) (hl:l.length=2 * n) (h1:1≤n):dg w l >>> w+dg w l<2 ^ (w * (2 * n))∧(dg w l >>> w+dg w l) &&& mk2 w n=dg (2 * w) (evs (adl l.tail l)):=by
 have hlt:∀ d∈l,d<2 ^ w:=fun d hd=>by have:=h d hd;omega
 have hs:dg w l >>> w=dg w l.tail:=by
  cases l with
  | nil=>simp at hl;omega
  | cons a l=>exact dg_shift w a l (hlt a (List.mem_cons_self ..))
 have hle:∀ d∈adl l.tail l,d<2 ^ w:=fun d hd=>by
  have:=adl_le (fun d hd=>h d (List.mem_of_mem_tail hd)) h d hd
  omega
 have hlen:(adl l.tail l).length=2 * n:=by rw [len_adl,List.length_tail];omega
 rw [hs,dg_add]
 exact ⟨by have:=dg_lt w _ hle;rwa [hlen] at this,dg_and w n _ hle (by omega)⟩
theorem zfq (w:Nat):∀ (k:Nat) (l:List Nat),(∀ d∈l,d<2 ^ w)→k≤l.length→dg w l >>> (w * k)=dg w (l.drop k)
 | 0,l,_,_=>by simp
 | k+1,[],_,hk=>by simp at hk
 | k+1,a::l,h,hk=>by
   rw [Nat.mul_succ,Nat.add_comm,Nat.shiftRight_add,dg_shift w a l (h a (List.mem_cons_self ..)),zfq w k l (fun d hd=>h d (List.mem_cons_of_mem _ hd)) (by simpa using hk)]
   rfl
theorem bits_dg (g:Nat→Bool):zal 64 g=dg 1 ((List.range 64).map fun i=>(g i).toNat):=by
 have hb:∀ d∈(List.range 64).map fun i=>(g i).toNat,d<2 ^ 1:=fun d hd=>by
  obtain ⟨i,_,rfl⟩:=List.mem_map.1 hd
  cases g i <;> decide
 have hlt:=dg_lt 1 _ hb
 symm
 refine eq_mk (by simpa using hlt) fun i hi=>?_
 have h1:=zfq 1 i _ hb (by simp;omega)
 have h2:(dg 1 ((List.range 64).map fun i=>(g i).toNat)).testBit i=((dg 1 ((List.range 64).map fun i=>(g i).toNat)) >>> (1 * i)).testBit 0:=by
  rw [Nat.testBit_shiftRight];simp
 rw [h2,h1]
 rw [show ((List.range 64).map fun i=>(g i).toNat).drop i=(g i).toNat::((List.range 64).map fun i=>(g i).toNat).drop (i+1) by
  rw [List.drop_eq_getElem_cons (by simp;omega)]
  simp]
 simp only [dg]
 cases g i <;> simp [Nat.testBit_zero,Nat.add_mod]
theorem evs_adl:∀ (l:List Nat) (n:Nat),l.length=2 * n→(evs (adl l.tail l)).sum=l.sum
 | [],_,_=>rfl
 | [a],n,h=>by simp only [List.length_cons,List.length_nil] at h;omega
 | [a,b],_,_=>by simp [evs,adl];omega
 | [a,b,c],n,h=>by simp only [List.length_cons,List.length_nil] at h;omega
 | a::b::c::d::l,n,h=>by
   have:=evs_adl (c::d::l) (n-1) (by simp only [List.length_cons] at h ⊢;omega)
   simp only [List.tail_cons,adl,evs,List.sum_cons] at this ⊢
   omega
theorem len8 {l:List Nat} (h:l.length=8):∃ a0 a1 a2 a3 a4 a5 a6 a7,l=[a0,a1,a2,a3,a4,a5,a6,a7]:=by
 rcases l with _|⟨a0,_|⟨a1,_|⟨a2,_|⟨a3,_|⟨a4,_|⟨a5,_|⟨a6,_|⟨a7,_|⟨a8,l⟩⟩⟩⟩⟩⟩⟩⟩⟩ <;> simp only [List.length_cons,List.length_nil] at h <;> first|exact ⟨_,_,_,_,_,_,_,_,rfl⟩|omega
theorem sum8 {l:List Nat} (h:l.length=8) (hb:∀ d∈l,d≤8):l.sum≤64∧dg 8 (adl (adl (adl l (l.drop 1)) ((adl l (l.drop 1)).drop 2)) ((adl (adl l (l.drop 1)) ((adl l (l.drop 1)).drop 2)).drop 4)) % 128=l.sum∧dg 8 (adl (adl (adl l (l.drop 1)) ((adl l (l.drop 1)).drop 2)) ((adl (adl l (l.drop 1)) ((adl l (l.drop 1)).drop 2)).drop 4))<2 ^ 63:=by
 obtain ⟨a0,a1,a2,a3,a4,a5,a6,a7,rfl⟩:=len8 h
 simp only [List.mem_cons,List.not_mem_nil,or_false,forall_eq_or_imp,forall_eq] at hb
 obtain ⟨h0,h1,h2,h3,h4,h5,h6,h7⟩:=hb
 simp only [List.drop_succ_cons,List.drop_zero,adl,dg,List.sum_cons,List.sum_nil]
 refine ⟨by omega,by omega,by omega⟩
def cntB (g:Nat→Bool):Nat:=((List.range 64).map fun i=>(g i).toNat).sum
theorem ones (g:Nat→Bool):∃ x1 x2 x3 x4 x5:Nat,
  (zal 64 g >>> 1 &&& 6148914691236517205)+(zal 64 g &&& 6148914691236517205)=x1 ∧
  (x1 >>> 2 &&& 3689348814741910323)+(x1 &&& 3689348814741910323)=x2 ∧
  (x2 >>> 4+x2) &&& 1085102592571150095=x3∧x3+x3 >>> 8=x4∧x4+x4 >>> 16=x5∧(x5+x5 >>> 32) % 128=cntB g∧cntB g≤64 ∧
  x1<2 ^ 64∧x2<2 ^ 64∧x2 >>> 4+x2<2 ^ 64∧x4<2 ^ 64∧x5<2 ^ 64∧x5+x5 >>> 32<2 ^ 63:=by
 rw [bits_dg g,cntB]
 have hb:∀ d∈(List.range 64).map fun i=>(g i).toNat,d≤1:=fun d hd=>by
  obtain ⟨i,_,rfl⟩:=List.mem_map.1 hd
  cases g i <;> decide
 have hl:((List.range 64).map fun i=>(g i).toNat).length=64:=by simp
 generalize ((List.range 64).map fun i=>(g i).toNat)=l0 at *
 have e1:=step_pr 1 32 l0 1 hb (by decide) hl (by decide)
 have b1:=prs_le hb
 have n1:(prs l0).length=32:=by rw [prs_len _ (by omega),hl]
 have s1:=prs_sum l0
 rw [show mk2 1 32=6148914691236517205 by decide] at e1
 generalize prs l0=l1 at *
 have e2:=step_pr 2 16 l1 2 b1 (by decide) n1 (by decide)
 have b2:=prs_le b1
 have n2:(prs l1).length=16:=by rw [prs_len _ (by omega),n1]
 have s2:=prs_sum l1
 rw [show mk2 2 16=3689348814741910323 by decide] at e2
 have t1:dg 2 l1<2 ^ 64:=by
  have:=dg_lt 2 l1 fun d hd=>by have:=b1 d hd;omega
  rw [n1] at this;exact this
 generalize prs l1=l2 at *
 obtain ⟨t3,e3⟩:=step_pr' 4 8 l2 4 b2 (by decide) n2 (by decide)
 rw [show mk2 4 8=1085102592571150095 by decide] at e3
 have t2:dg 4 l2<2 ^ 64:=by
  have:=dg_lt 4 l2 fun d hd=>by have:=b2 d hd;omega
  rw [n2] at this;exact this
 have b3:∀ d∈evs (adl l2.tail l2),d≤8:=fun d hd=>adl_le (fun d hd=>b2 d (List.mem_of_mem_tail hd)) b2 d (mem_evs hd)
 have n3:(evs (adl l2.tail l2)).length=8:=by rw [len_evs,len_adl,List.length_tail,n2];rfl
 have s3:(evs (adl l2.tail l2)).sum=l2.sum:=evs_adl l2 8 n2
 generalize evs (adl l2.tail l2)=l3 at *
 have e4:=zfq 8 1 l3 (fun d hd=>by have:=b3 d hd;omega) (by omega)
 rw [Nat.mul_one] at e4
 have b4:∀ d∈adl l3 (l3.drop 1),d≤16:=adl_le b3 fun d hd=>b3 d (List.mem_of_mem_drop hd)
 have n4:(adl l3 (l3.drop 1)).length=8:=by rw [len_adl,List.length_drop,n3];rfl
 have e5:=zfq 8 2 (adl l3 (l3.drop 1)) (fun d hd=>by have:=b4 d hd;omega) (by omega)
 have b5:∀ d∈adl (adl l3 (l3.drop 1)) ((adl l3 (l3.drop 1)).drop 2),d≤32:=adl_le b4 fun d hd=>b4 d (List.mem_of_mem_drop hd)
 have n5:(adl (adl l3 (l3.drop 1)) ((adl l3 (l3.drop 1)).drop 2)).length=8:=by rw [len_adl,List.length_drop,n4];rfl
 have e6:=zfq 8 4 _ (fun d hd=>by have:=b5 d hd;omega) (show 4≤(adl (adl l3 (l3.drop 1)) ((adl l3 (l3.drop 1)).drop 2)).length by omega)
 have b6:∀ d∈adl (adl (adl l3 (l3.drop 1)) ((adl l3 (l3.drop 1)).drop 2)) ((adl (adl l3 (l3.drop 1)) ((adl l3 (l3.drop 1)).drop 2)).drop 4),d≤64:=adl_le b5 fun d hd=>b5 d (List.mem_of_mem_drop hd)
 have t4:dg 8 (adl l3 (l3.drop 1))<2 ^ 64:=by
  have:=dg_lt 8 _ fun d hd=>by have:=b4 d hd;omega
  rw [n4] at this;exact this
 have t5:dg 8 (adl (adl l3 (l3.drop 1)) ((adl l3 (l3.drop 1)).drop 2))<2 ^ 64:=by
  have:=dg_lt 8 _ fun d hd=>by have:=b5 d hd;omega
  rw [n5] at this;exact this
 refine ⟨dg 2 l1,dg 4 l2,dg 8 l3,dg 8 (adl l3 (l3.drop 1)),dg 8 (adl (adl l3 (l3.drop 1)) ((adl l3 (l3.drop 1)).drop 2)),e1,e2,e3,by rw [e4,dg_add],by rw [e5,dg_add],?_,?_,t1,t2,t3,t4,t5,by rw [e6,dg_add];exact (sum8 n3 b3).2.2⟩
 ·rw [e6,dg_add,(sum8 n3 b3).2.1,s3,s2,s1]
 ·rw [← s1,← s2,← s3]
  exact (sum8 n3 b3).1
section
theorem natU {m:Nat} (h:m<2 ^ 64):m=zal 64 m.testBit:=eq_mk h fun _ _=>rfl
theorem zfr {a b:Nat} (ha:a<2 ^ 64) (hb:b<2 ^ 64):bits .and .u64 (a:Int) (b:Int)=((a &&& b:Nat):Int):=by
 have h:=zf1 a.testBit b.testBit
 rw [← natU ha,← natU hb] at h
 rw [h]
 have hc:a &&& b<2 ^ 64:=Nat.lt_of_le_of_lt Nat.and_le_left ha
 refine congrArg _ (eq_mk hc fun i _=>?_).symm
 rw [Nat.testBit_and]
theorem and127 (m:Nat) (h:m<2 ^ 63):bits .and .i64 (m:Int) 127=((m % 128:Nat):Int):=by
 obtain ⟨y,e,h⟩:=EqN.and (k:=fun y=>y=((m % 128:Nat):Int)) m 127 rfl rfl ⟨by omega,by omega⟩ (by rw [show (127:Nat)=2 ^ 7-1 from rfl,Nat.and_two_pow_sub_one_eq_mod])
 rw [show (127:Int)=((127:Nat):Int) from rfl,e,h]
def cntS (S:Nat) (F:Nat→Bool):Nat:=(List.range S).countP F
theorem sum_countP (F:Nat→Bool):∀ l:List Nat,(l.map fun i=>(F i).toNat).sum=l.countP F
 | []=>rfl
 | i::l=>by
   simp only [List.map_cons,List.sum_cons,List.countP_cons,sum_countP F l]
   cases F i <;> simp <;> omega
theorem cntB_eq (F:Nat→Bool):cntB F=cntS 64 F:=sum_countP F _
theorem cntS_add (a b:Nat) (F:Nat→Bool):cntS (a+b) F=cntS a F+cntS b fun i=>F (a+i):=by
 unfold cntS
 rw [List.range_add,List.countP_append,List.countP_map]
 rfl
theorem cntS_congr {S:Nat} {F G:Nat→Bool} (h:∀ i,i<S→F i=G i):cntS S F=cntS S G :=
 List.countP_congr fun i hi=>by rw [h i (List.mem_range.1 hi)]
theorem cntS_le (S:Nat) (F:Nat→Bool):cntS S F≤S:=Nat.le_trans List.countP_le_length (by rw [List.length_range];exact Nat.le_refl _)
theorem cntS_zero {S:Nat} {F:Nat→Bool} (h:∀ i,i<S→F i=false):cntS S F=0:=by
 rw [cntS_congr h]
 unfold cntS
 simp
theorem cntS_nil (F:Nat→Bool):cntS 0 F=0:=rfl
theorem cnt_block (F:Nat→Bool) (S n:Nat) (hm:S<64∨S % 64=0) (hn:64 * n<S):cntS (min (64 * n) S) F+cntB (fun i=>F (64 * n+i)&&decide (i<S))=cntS (min (64 * (n+1)) S) F:=by
 rw [cntB_eq]
 rcases hm with h|h
 ·obtain rfl:n=0:=by omega
  have e:(64:Nat)=S+(64-S):=by omega
  rw [show min (64 * (0+1)) S=S by omega,show min (64 * 0) S=0 by omega]
  have e1:cntS 64 (fun i=>F (64 * 0+i)&&decide (i<S))=cntS (S+(64-S)) (fun i=>F (64 * 0+i)&&decide (i<S)):=by rw [← e]
  rw [e1,cntS_add,cntS_zero (S:=64-S) fun i _=>by simp]
  rw [cntS_congr (S:=S) (G:=F) fun i hi=>by simp [hi]]
  simp [cntS]
 ·rw [show min (64 * n) S=64 * n by omega,show min (64 * (n+1)) S=64 * n+64 by omega,cntS_add]
  congr 1
  exact cntS_congr fun i hi=>by simp;omega
attribute [local irreducible] VW VCall VO bits zal
theorem ones_c (g:Nat→Bool) (H:Heap):VDet Tryz.prog 56 [.int .u64 (zal 64 g:Nat)] H (.int .i64 (cntB g:Nat)):=by
 obtain ⟨x1,x2,x3,x4,x5,e1,e2,e3,e4,e5,e6,hc,t1,t2,t3,t4,t5,t6⟩:=ones g
 have t0:=mk_lt 64 g
 generalize zal 64 g=x0 at *
 have s1:((x1:Nat):Int).fdiv (2 ^ min (2:Int).toNat IntKind.u64.bits)=((x1 >>> 2:Nat):Int):=zdk x1 2 (by omega)
 have s2:((x2:Nat):Int).fdiv (2 ^ min (4:Int).toNat IntKind.u64.bits)=((x2 >>> 4:Nat):Int):=zdk x2 4 (by omega)
 have s3:((x3:Nat):Int).fdiv (2 ^ min (8:Int).toNat IntKind.u64.bits)=((x3 >>> 8:Nat):Int):=zdk x3 8 (by omega)
 have s4:((x4:Nat):Int).fdiv (2 ^ min (16:Int).toNat IntKind.u64.bits)=((x4 >>> 16:Nat):Int):=zdk x4 16 (by omega)
 have s5:((x5:Nat):Int).fdiv (2 ^ min (32:Int).toNat IntKind.u64.bits)=((x5 >>> 32:Nat):Int):=zdk x5 32 (by omega)
 have u1:IntKind.u64.wrap (bits .and .u64 ((x0 >>> 1:Nat):Int) 6148914691236517205+bits .and .u64 (x0:Int) 6148914691236517205)=(x1:Int):=by
  rw [show (6148914691236517205:Int)=((6148914691236517205:Nat):Int) from rfl,zfr (Nat.lt_of_le_of_lt (Nat.shiftRight_le ..) t0) (by omega),zfr t0 (by omega),← Int.natCast_add,e1,wu64 t1]
 have u2:IntKind.u64.wrap (bits .and .u64 ((x1 >>> 2:Nat):Int) 3689348814741910323+bits .and .u64 (x1:Int) 3689348814741910323)=(x2:Int):=by
  rw [show (3689348814741910323:Int)=((3689348814741910323:Nat):Int) from rfl,zfr (Nat.lt_of_le_of_lt (Nat.shiftRight_le ..) t1) (by omega),zfr t1 (by omega),← Int.natCast_add,e2,wu64 t2]
 have u3:bits .and .u64 (IntKind.u64.wrap (((x2 >>> 4:Nat):Int)+(x2:Int))) 1085102592571150095=(x3:Int):=by
  rw [← Int.natCast_add,wu64 t3,show (1085102592571150095:Int)=((1085102592571150095:Nat):Int) from rfl,zfr t3 (by omega),e3]
 have u4:IntKind.u64.wrap ((x3:Int)+((x3 >>> 8:Nat):Int))=(x4:Int):=by
  rw [← Int.natCast_add,e4,wu64 t4]
 have u5:IntKind.u64.wrap ((x4:Int)+((x4 >>> 16:Nat):Int))=(x5:Int):=by
  rw [← Int.natCast_add,e5,wu64 t5]
 have u6:IntKind.u64.wrap ((x5:Int)+((x5 >>> 32:Nat):Int))=((x5+x5 >>> 32:Nat):Int):=by
  rw [← Int.natCast_add,wu64 (by omega)]
 have u7:IntKind.i64.wrap ((x5+x5 >>> 32:Nat):Int)=((x5+x5 >>> 32:Nat):Int):=IntWalk.i64_in _ (by omega)
 have u8:=and127 _ t6
 rw [e6] at u8
 refine fdD Tryz.func56 ⟨rfl,rfl,rfl⟩ fun hcl hbl=>?_
 (repeat' ((conv=>whnf);(first|(refine EqN.id ?_;first|(refine ze7 _ _ Cst.h Cst.h rfl ?_ ?_;· (repeat' (first|omega|refine And.intro ?_ ?_|exact zan (by omega)|exact zbd (by omega)|refine zb9 ?_ ?_|refine zbc ?_ ?_|refine zbj ?_ ?_|refine za2 ?_ ?_|refine zbk ?_|refine zbl ?_ ?_|refine zbm ?_|refine zan ?_|fail)))|refine EqN.mk _ rfl ?_|fail)|refine SideN.mk (by omega) ?_|fail)));conv=>whnf
 refine EndN.det trivial (zab ?_)
 rw [u1,s1,u2,s2,u3,s3,u4,s4,u5,s5,u6,u7,u8]
end
section
attribute [local irreducible] VW VCall VO bits
def tm0:Tm:=.mk false .empty []
def fo0:Fo:=.mk 0 .empty [] []
def isQ (op:Nat):Bool:=decide (op=8∨op=9)
theorem zd8 {α:Type} (l:List α) (d:α) (k:Nat) (h:k<l.length):l.take (k+1)=l.take k++[l.getD k d]:=by
 rw [List.take_succ_eq_append_getElem h]
 simp [List.getElem?_eq_getElem h]
theorem zby (f:Fo):∃ a b c1 c d1 d,f.cells=[.int .u8 (a:Nat),.str b,.sl none c1 c,.sl none d1 d]∧∀ n,zae n c∧zae n d:=by
 cases f with
 | mk a b c d=>exact ⟨_,_,_,_,_,_,zaf a b c d,fun n=>⟨zaz n c,zar n d⟩⟩
theorem tm_ex4 (f:Tm):∃ a b c1 c,f.cells=[.bool a,.str b,.sl none c1 c]∧∀ n,zae n c:=by
 cases f with
 | mk a b c=>exact ⟨_,_,_,_,zbb a b c,fun n=>zaz n c⟩
theorem all_take {α:Type} {p:α→Bool} {l:List α} {k:Nat} (d:α) (hk:k<l.length) (h:∀ y∈l.take k,p y=true) (hx:p (l.getD k d)=true):∀ y∈l.take (k+1),p y=true:=by
 intro y hy
 rw [zd8 l d k hk] at hy
 rcases List.mem_append.1 hy with hy|hy
 ·exact h y hy
 ·rw [List.mem_singleton.1 hy]
  exact hx
theorem all_no {α:Type} {p:α→Bool} {l:List α} {k:Nat} (d:α) (hk:k<l.length) (hx:p (l.getD k d)=false):l.all p=false:=by
 rw [Bool.eq_false_iff]
 intro h
 rw [List.all_eq_true] at h
 rw [h _ (zam l k d hk)] at hx
 cases hx
end
end Go.Proofs.YtekhodpmpjehaaaGreatDoor
