/- A text of the proof: the parts SG41, SH41, SI41, PA41, PB41, PC41, PD41, PE41, SJ41, QA41, Y41, CA41, A41, R41c, B41, G41, K41, L41, M41, O41, Q41, R41d, R41, S41, TA41. -/
import Derived.Shelf.Small.Strs
import Derived.Shelf.SlSortCmp.NoneTotal
import Derived.Shelf.SlSortCmp.WholeK
import Derived.Test.YtgdmldelijeaoaaGreatDoorK7
set_option linter.unusedSimpArgs false
set_option linter.unusedVariables false
set_option maxHeartbeats 8000000
namespace Go.Proofs.YtgdmldelijeaoaaGreatDoor
open Go.Vsi
section
def inR (a b:Nat) (c:UInt8):Bool:=decide (a≤c.toNat)&&decide (c.toNat≤b)
def isCap:UInt8→Bool:=inR 65 90
def isSml:UInt8→Bool:=inR 97 122
def isDig:UInt8→Bool:=inR 48 57
def isAln (c:UInt8):Bool:=isSml c || (isCap c || isDig c)
def isVa1:UInt8→Bool:=inR 117 122
def isFu1:UInt8→Bool:=inR 97 116
def wordE (s:ByteArray) (l:Array UInt8):Bool:=s.toList==(ByteArray.mk l).toList
def isRes (s:ByteArray):Bool:=wordE s #[97,108,108] || (wordE s #[115,111,109,101] || (wordE s #[102,97,108,115,101] || (wordE s #[110,101,120,116] || (wordE s #[97,108,119,97,121,115] || wordE s #[117,110,116,105,108]))))
def bt (s:ByteArray) (i:Nat):UInt8:=s.data.toList.getD i 0
def nameB (p q:UInt8→Bool) (s:ByteArray):Bool:=decide (1≤s.size∧s.size≤16)&&(!isRes s&&(p (bt s 0)&&(List.range' 1 (s.size-1)).all fun i=>q (bt s i)))
def ze8:ByteArray→Bool:=nameB isCap isAln
def isVar:ByteArray→Bool:=nameB isVa1 isDig
def isFun:ByteArray→Bool:=nameB isFu1 isAln
theorem bt_get (s:ByteArray) (i:Nat) (h:i<s.size) (j:Int) (hj:j=i):s[j.toNat]? = some (bt s i):=by
 subst hj
 rw [ybp]
 have h2:i<s.data.toList.length:=by simpa using h
 have:s[i]? = s.data[i]? := by
  rw [getElem?_pos s i h]
  rw [yb1 (show i<s.data.size from h)]
  rfl
 rw [this]
 unfold bt
 rw [ybr,yal h2]
 simp
attribute [local irreducible] VW VCall VO
def CharC (F:Nat) (p:UInt8→Bool):Prop:=∀ (c:UInt8) (H:Heap),VDet Tryz.prog F [.int .u8 c.toNat] H (.bool (p c))
theorem capital_g:CharC 189 isCap:=by
 intro c H
 refine fdD Tryz.func189 ⟨rfl,rfl,rfl⟩ fun hcl hbl=>?_
 (repeat' ((conv=>whnf);(first|refine zcy (fun _=>?_) (fun _=>?_)|fail)));all_goals (conv=>whnf)
 all_goals (refine ya2 trivial (zaf (congrArg AV.bool (ycd.2 ?_)));simp only [isCap,inR,yak,decide_eq_true_eq,yba,false_iff];omega)
theorem small_g:CharC 231 isSml:=by
 intro c H
 refine fdD Tryz.func231 ⟨rfl,rfl,rfl⟩ fun hcl hbl=>?_
 (repeat' ((conv=>whnf);(first|refine zcy (fun _=>?_) (fun _=>?_)|fail)));all_goals (conv=>whnf)
 all_goals (refine ya2 trivial (zaf (congrArg AV.bool (ycd.2 ?_)));simp only [isSml,inR,yak,decide_eq_true_eq,yba,false_iff];omega)
theorem digit_g:CharC 217 isDig:=by
 intro c H
 refine fdD Tryz.func217 ⟨rfl,rfl,rfl⟩ fun hcl hbl=>?_
 (repeat' ((conv=>whnf);(first|refine zcy (fun _=>?_) (fun _=>?_)|fail)));all_goals (conv=>whnf)
 all_goals (refine ya2 trivial (zaf (congrArg AV.bool (ycd.2 ?_)));simp only [isDig,inR,yak,decide_eq_true_eq,yba,false_iff];omega)
theorem va1_g:CharC 216 isVa1:=by
 intro c H
 refine fdD Tryz.func216 ⟨rfl,rfl,rfl⟩ fun hcl hbl=>?_
 (repeat' ((conv=>whnf);(first|refine zcy (fun _=>?_) (fun _=>?_)|fail)));all_goals (conv=>whnf)
 all_goals (refine ya2 trivial (zaf (congrArg AV.bool (ycd.2 ?_)));simp only [isVa1,inR,yak,decide_eq_true_eq,yba,false_iff];omega)
theorem fu1_g:CharC 215 isFu1:=by
 intro c H
 refine fdD Tryz.func215 ⟨rfl,rfl,rfl⟩ fun hcl hbl=>?_
 (repeat' ((conv=>whnf);(first|refine zcy (fun _=>?_) (fun _=>?_)|fail)));all_goals (conv=>whnf)
 all_goals (refine ya2 trivial (zaf (congrArg AV.bool (ycd.2 ?_)));simp only [isFu1,inR,yak,decide_eq_true_eq,yba,false_iff];omega)
theorem alnum_g:CharC 190 isAln:=by
 intro c H
 have h1:=small_g c
 have h2:=capital_g c
 have h3:=digit_g c
 unfold isAln
 generalize isSml c=a at *
 generalize isCap c=b at *
 generalize isDig c=d at *
 refine fdD Tryz.func190 ⟨rfl,rfl,rfl⟩ fun hcl hbl=>?_
 (repeat' ((conv=>whnf);(first|(refine IfN.mk ?_ ?_ <;> intro _)|(refine ybm ?_;first|refine yab _ (h1 _) ?_|refine yab _ (h2 _) ?_|refine yab _ (h3 _) ?_|fail)|fail)));all_goals (conv=>whnf)
 all_goals exact ya2 trivial (zaf (by simp_all))
theorem reserved_g (s:ByteArray) (H:Heap):VDet Tryz.prog 230 [.str s] H (.bool (isRes s)):=by
 unfold isRes
 have e1:(s.toList==(ByteArray.mk #[97,108,108]).toList)=wordE s #[97,108,108]:=rfl
 have e2:(s.toList==(ByteArray.mk #[115,111,109,101]).toList)=wordE s #[115,111,109,101]:=rfl
 have e3:(s.toList==(ByteArray.mk #[102,97,108,115,101]).toList)=wordE s #[102,97,108,115,101]:=rfl
 have e4:(s.toList==(ByteArray.mk #[110,101,120,116]).toList)=wordE s #[110,101,120,116]:=rfl
 have e5:(s.toList==(ByteArray.mk #[97,108,119,97,121,115]).toList)=wordE s #[97,108,119,97,121,115]:=rfl
 have e6:(s.toList==(ByteArray.mk #[117,110,116,105,108]).toList)=wordE s #[117,110,116,105,108]:=rfl
 generalize wordE s #[97,108,108]=b1 at *
 generalize wordE s #[115,111,109,101]=b2 at *
 generalize wordE s #[102,97,108,115,101]=b3 at *
 generalize wordE s #[110,101,120,116]=b4 at *
 generalize wordE s #[97,108,119,97,121,115]=b5 at *
 generalize wordE s #[117,110,116,105,108]=b6 at *
 cases b1
 ·cases b2
  ·cases b3
   ·cases b4
    ·cases b5
     ·cases b6
      ·refine fdD Tryz.func230 ⟨rfl,rfl,rfl⟩ fun hcl hbl=>?_
       (repeat' ((conv=>whnf);(first|(refine yai ?_;first|refine yau e1 ?_|refine yau e2 ?_|refine yau e3 ?_|refine yau e4 ?_|refine yau e5 ?_|refine yau e6 ?_|fail)|fail)));conv=>whnf
       exact eT trivial
      ·refine fdD Tryz.func230 ⟨rfl,rfl,rfl⟩ fun hcl hbl=>?_
       (repeat' ((conv=>whnf);(first|(refine yai ?_;first|refine yau e1 ?_|refine yau e2 ?_|refine yau e3 ?_|refine yau e4 ?_|refine yau e5 ?_|refine yaq e6 ?_|fail)|fail)));conv=>whnf
       exact eT trivial
     ·refine fdD Tryz.func230 ⟨rfl,rfl,rfl⟩ fun hcl hbl=>?_
      (repeat' ((conv=>whnf);(first|(refine yai ?_;first|refine yau e1 ?_|refine yau e2 ?_|refine yau e3 ?_|refine yau e4 ?_|refine yaq e5 ?_|fail)|fail)));conv=>whnf
      exact eT trivial
    ·refine fdD Tryz.func230 ⟨rfl,rfl,rfl⟩ fun hcl hbl=>?_
     (repeat' ((conv=>whnf);(first|(refine yai ?_;first|refine yau e1 ?_|refine yau e2 ?_|refine yau e3 ?_|refine yaq e4 ?_|fail)|fail)));conv=>whnf
     exact eT trivial
   ·refine fdD Tryz.func230 ⟨rfl,rfl,rfl⟩ fun hcl hbl=>?_
    (repeat' ((conv=>whnf);(first|(refine yai ?_;first|refine yau e1 ?_|refine yau e2 ?_|refine yaq e3 ?_|fail)|fail)));conv=>whnf
    exact eT trivial
  ·refine fdD Tryz.func230 ⟨rfl,rfl,rfl⟩ fun hcl hbl=>?_
   (repeat' ((conv=>whnf);(first|(refine yai ?_;first|refine yau e1 ?_|refine yaq e2 ?_|fail)|fail)));conv=>whnf
   exact eT trivial
 ·refine fdD Tryz.func230 ⟨rfl,rfl,rfl⟩ fun hcl hbl=>?_
  (repeat' ((conv=>whnf);(first|refine yaq e1 ?_|fail)));conv=>whnf
  exact eT trivial
theorem check_g (F1 F2:Nat) (p q:UInt8→Bool) (h1:CharC F1 p) (h2:CharC F2 q) (s:ByteArray) (hs:s.size≤9223372036854775807) (H:Heap):VDet Tryz.prog 229 [.str s,.rptr [.clo (.func F1) [] []],.rptr [.clo (.func F2) [] []]] H (.bool (nameB p q s)):=by
 have hr:=reserved_g s
 unfold nameB
 by_cases h0:1≤s.size∧s.size≤16
 ·rw [decide_eq_true h0,ya9]
  have hb0:=bt_get s 0 (by omega) 0 rfl
  have hp:=h1 (bt s 0)
  generalize isRes s=r at *
  cases r with
  | true =>
    refine fdD Tryz.func229 ⟨rfl,rfl,rfl⟩ fun hcl hbl=>?_
    (repeat' ((conv=>whnf);(first|(refine yai ?_;first|refine yaq rfl ?_|refine ya1 (by omega) ?_|fail)|refine yaf (by kernel_rfl) ?_|refine yan _ (fun _ hq X=>hr _) ?_|refine zae [] ?_|fail)));conv=>whnf
    exact eT trivial
  | false =>
    cases hpb:p (bt s 0) with
    | false =>
      rw [hpb] at hp
      refine fdD Tryz.func229 ⟨rfl,rfl,rfl⟩ fun hcl hbl=>?_
      (repeat' ((conv=>whnf);(first|(refine yai ?_;first|refine yas ?_|refine yau rfl ?_|refine ya1 (by omega) ?_|fail)|(refine yaf ?_ ?_;· first|kernel_rfl|omega|fail)|(refine yck ?_;first|refine yan _ (fun _ hq X=>hr _) ?_|refine yan _ (fun _ hq X=>hp _) ?_|fail)|refine yeb _ hb0 ?_|refine zae [] ?_|fail)));conv=>whnf
      exact eT trivial
    | true =>
      rw [hpb] at hp
      refine fdD Tryz.func229 ⟨rfl,rfl,rfl⟩ fun hcl hbl=>?_
      (repeat' ((conv=>whnf);(first|(refine yai ?_;first|refine yas ?_|refine yaq rfl ?_|refine yau rfl ?_|refine ya1 (by omega) ?_|fail)|(refine yaf ?_ ?_;· first|kernel_rfl|omega|fail)|(refine yck ?_;first|refine yan _ (fun _ hq X=>hr _) ?_|refine yan _ (fun _ hq X=>hp _) ?_|fail)|refine yeb _ hb0 ?_|refine zae [] ?_|fail)));conv=>whnf
      refine zax Tryz.E0 zag (σ:=Nat) (fun k=>1≤k∧k≤s.size∧∀ i,1≤i→i<k→q (bt s i)=true) (fun k=>s.size-k) (fun k=>[(5,.v (.int .i64 k))]) (fun _=>[]) _ 1 rfl hcl [0,2] rfl ⟨yax _,by omega,fun i h1 h2=>by omega⟩ ⟨⟨_,rfl,yae _⟩,trivial⟩ rfl (fun _ _=>rfl) ?_
      rintro k ⟨hk1,hk,hall⟩
      clear hbl
      by_cases hlt:k<s.size
      ·have hbk:=bt_get s k hlt k rfl
       have hcq:=h2 (bt s k)
       cases hqb:q (bt s k) with
       | true =>
         rw [hqb] at hcq
         (repeat' ((conv=>whnf);(first|(refine yai ?_;first|refine yas ?_|refine yaq rfl ?_|refine yar (by omega) ?_|fail)|(refine zad _ _ Cst.h Cst.h ?_ ?_;· omega)|(refine yaf ?_ ?_;· first|kernel_rfl|omega|fail)|refine yan _ (fun _ hq X=>hcq _) ?_|refine yeb _ hbk ?_|refine zae [] ?_|fail)));conv=>whnf
         (refine ⟨⟨k+1,⟨by omega,by omega,fun i h3 h4=>by
          by_cases e:i=k
          ·rw [e];exact hqb
          ·exact hall i h3 (by omega)⟩,by omega,?_,.inl ⟨rfl,rfl⟩,rfl,_,rfl,?_⟩⟩;rotate_left 1;exact .inl rfl;exact ⟨⟨_,rfl,yae _⟩,trivial⟩)
       | false =>
         rw [hqb] at hcq
         (repeat' ((conv=>whnf);(first|(refine yai ?_;first|refine yas ?_|refine yau rfl ?_|refine yar (by omega) ?_|fail)|(refine yaf ?_ ?_;· first|kernel_rfl|omega|fail)|refine yan _ (fun _ hq X=>hcq _) ?_|refine yeb _ hbk ?_|refine zae [] ?_|fail)));conv=>whnf
         refine ya2 trivial (zaf ?_)
         have:((List.range' 1 (s.size-1)).all fun i=>q (bt s i))=false:=by
          apply ybj.2
          intro hA
          have:=yao.1 hA k (List.mem_range'.2 ⟨k-1,by omega,by omega⟩)
          rw [hqb] at this
          cases this
         rw [this]
         rfl
      ·have:((List.range' 1 (s.size-1)).all fun i=>q (bt s i))=true:=by
        rw [yao]
        intro i hi
        obtain ⟨j,hj,rfl⟩:=List.mem_range'.1 hi
        exact hall _ (by omega) (by omega)
       rw [this]
       (repeat' ((conv=>whnf);(first|refine ya1 (by omega) ?_|fail)));conv=>whnf
       exact eT trivial
 ·rw [decide_eq_false h0,ya0]
  refine fdD Tryz.func229 ⟨rfl,rfl,rfl⟩ fun hcl hbl=>?_
  (repeat' ((conv=>whnf);(first|(refine yai ?_;first|refine yar (by omega) ?_|refine zcy (fun _=>?_) (fun _=>?_)|fail)|refine yaf (by kernel_rfl) ?_|refine zae [] ?_|fail)));all_goals (conv=>whnf)
  all_goals exact eT trivial
end
section
def jB (L:Int):Blk:=.box 208 [.bool false,.int .i64 L,.int .i64 40]
theorem zg0 (L:Int) (n:Nat):(jB L).below n:=by simp [jB,Blk.below,zab,below]
mutual
def jT (d:Nat):Tm→Int→Int×Bool
 | .mk v s l,L=>if ¬ (1≤L∧d≤40) then (L-1,false) else if v then (L-1,decide (l.length=0)&&isVar s) else if l.length≤4∧isFun s=true then jTs (d+1) l (L-1) else (L-1,false)
def jTs (d:Nat):List Tm→Int→Int×Bool
 | [],L=>(L,true)
 | x::l,L=>match jT d x L with
   | (M,true)=>jTs d l M
   | (M,false)=>(M,false)
end
mutual
theorem jT_bd (d:Nat):∀ (x:Tm) (L:Int),0≤L→-1≤(jT d x L).1∧(jT d x L).1≤L∧((jT d x L).2=true→0≤(jT d x L).1)
 | .mk v s l,L,h=>by
   unfold jT
   split
   ·exact ⟨by simp only;omega,by simp only;omega,fun h=>by cases h⟩
   ·split
    ·exact ⟨by simp only;omega,by simp only;omega,fun _=>by simp only;omega⟩
    ·split
     ·have:=jTs_bd (d+1) l (L-1) (by omega)
      exact ⟨this.1,by omega,this.2.2⟩
     ·exact ⟨by simp only;omega,by simp only;omega,fun h=>by cases h⟩
theorem jTs_bd (d:Nat):∀ (l:List Tm) (L:Int),0≤L→-1≤(jTs d l L).1∧(jTs d l L).1≤L∧((jTs d l L).2=true→0≤(jTs d l L).1)
 | [],L,h=>by unfold jTs;exact ⟨by simp only;omega,by simp only;omega,fun _=>h⟩
 | x::l,L,h=>by
   have h1:=jT_bd d x L h
   unfold jTs
   split
   ·rename_i M hM
    rw [hM] at h1
    have h2:=jTs_bd d l M (h1.2.2 rfl)
    exact ⟨h2.1,by have:=h1.2.1;simp only at this;omega,h2.2.2⟩
   ·rename_i M hM
    rw [hM] at h1
    exact ⟨h1.1,h1.2.1,fun h=>by cases h⟩
end
theorem zaa {α:Type} {f:α→List AV} {sz:Nat} {l:List α} {i:Int} {k:List AV→Prop} {c:List AV} (d:α) (m:Nat) (hi:i=m) (hm:m<l.length) (hsz:∀ x,(f x).length=sz) (e:f (l.getD m d)=c) (h:k c):SegN (l.flatMap f) (i.toNat * sz) k :=
 SegN.nth d m hi hm hsz (e▸h)
theorem zba:∀ x:Tm,x.cells.length=3
 | .mk v s l=>by rw [zav];rfl
theorem zfk {H:Heap} {i:Nat} {B:Blk} (h:H[i]? = some B):H.set i B=H:=by
 apply ybt
 intro j
 rw [yaw]
 split
 ·rename_i e
  subst e
  split
  ·exact h.symm
  ·rename_i hlt
   rw [ycp (by omega)] at h
   cases h
 ·rfl
theorem zcq {H:Heap} (h:zde H) (i:Nat) (B:Blk) (hB:B.below H.length):zde (H.set i B):=by
 intro j C hj
 rw [List.length_set]
 rw [yaw] at hj
 split at hj
 ·split at hj
  ·cases hj;exact hB
  ·cases hj
 ·exact h j C hj
theorem zbn {α:Type} (l:List α) (k:Nat) (d:α) (h:k<l.length):l.drop k=l.getD k d::l.drop (k+1):=by
 rw [List.drop_eq_getElem_cons h]
 simp [ybr,yal h]
theorem zar {α:Type} (l:List α) (k:Nat) (d:α) (h:k<l.length):l.getD k d∈l:=by
 rw [show l.getD k d=l[k] by simp [ybr,yal h]]
 exact List.getElem_mem h
theorem zgk (d:Nat) (L:Int):jTs d [] L=(L,true):=by unfold jTs;rfl
theorem zh9 (d:Nat) (x:Tm) (l:List Tm) (L:Int):jTs d (x::l) L=if (jT d x L).2 then jTs d l (jT d x L).1 else ((jT d x L).1,false):=by
 rw [jTs.eq_def]
 simp only
 split
 ·rename_i M h;rw [h];rfl
 ·rename_i M h;rw [h];rfl
attribute [local irreducible] VW VCall VO bits
theorem node_g (H:Heap) (i:Nat) (L:Int) (d:Nat) (hi:H[i]? = some (jB L)) (hL:0≤L∧L≤400) (hd:d≤41):VCall Tryz.prog 220 [.ptr i 0,.int .i64 d] H (setR H i (jB (L-1)) (.bool (decide (1≤L∧d≤40)))):=by
 unfold jB at hi ⊢
 by_cases h:1≤L∧d≤40
 ·rw [decide_eq_true h]
  refine fdG Tryz.func220 ⟨rfl,rfl,rfl⟩ fun hcl hbl=>?_
  (repeat' ((conv=>whnf);(first|refine yar (by omega) ?_|refine yco (by omega) ?_|refine yeh _ rfl ?_|refine ych _ (by (repeat' (first|assumption|exact zbc _ rfl|exact za2 rfl|refine za9 (B':=?_) ?_|refine zat ?_|fail))) ?_|fail)));conv=>whnf
  all_goals exact za0 (by simp [Blk.below,zab,below]) trivial (zaf (by simp;try omega))
 ·rw [decide_eq_false h]
  refine fdG Tryz.func220 ⟨rfl,rfl,rfl⟩ fun hcl hbl=>?_
  (repeat' ((conv=>whnf);(first|refine zcy (fun _=>?_) (fun _=>?_)|refine yco (by omega) ?_|refine yeh _ rfl ?_|refine ych _ (by (repeat' (first|assumption|exact zbc _ rfl|exact za2 rfl|refine za9 (B':=?_) ?_|refine zat ?_|fail))) ?_|fail)));all_goals (conv=>whnf)
  all_goals exact za0 (by simp [Blk.below,zab,below]) trivial (zaf (by simp;try omega))
def TermP (x:Tm):Prop:=∀ (H:Heap) (i:Nat) (L:Int) (d:Nat),H[i]? = some (jB L)→0≤L∧L≤400→d≤41→VCall Tryz.prog 179 [.ptr i 0,.agg x.cells,.int .i64 d] H (setR H i (jB (jT d x L).1) (.bool (jT d x L).2))
def TermsP (l:List Tm):Prop:=∀ (H:Heap) (i:Nat) (L:Int) (d:Nat),H[i]? = some (jB L)→0≤L∧L≤400→d≤41→VCall Tryz.prog 222 [.ptr i 0,.sl none l.length (l.flatMap Tm.cells),.int .i64 d] H (setR H i (jB (jTs d l L).1) (.bool (jTs d l L).2))
theorem terms_g (l:List Tm) (hlen:l.length≤9223372036854775807) (hl:∀ x∈l,TermP x):TermsP l:=by
 intro H i L d hi hL hd
 refine fdG Tryz.func222 ⟨rfl,rfl,rfl⟩ fun hcl hbl=>?_
 conv=>whnf
 refine zd8 Tryz.E0 zag (σ:=Nat×Int) (fun p=>p.1≤l.length∧(0≤p.2∧p.2≤400)∧jTs d l L=jTs d (l.drop p.1) p.2) (fun p=>l.length-p.1) (fun p=>[(11,.v (.int .i64 p.1))]) (fun p=>H.set i (jB p.2)) (fun _=>[]) _ (0,L) (fun p _=>by simp) (fun p _=>zcq hcl i _ (zg0 _ _)) [0,2,9,10] rfl ⟨yah _,hL,rfl⟩ ⟨⟨_,rfl,yae _⟩,trivial⟩ (zfk hi).symm rfl (fun _ _=>rfl) ?_
 rintro ⟨k,M⟩ ⟨hk,hM,hj⟩
 simp only at hk hM hj
 have hN:(H.set i (jB M)).length=H.length:=by simp
 by_cases hlt:k<l.length
 ·have hmem:=zar l k (Tm.mk false .empty []) hlt
  rw [zbn l k (Tm.mk false .empty []) hlt] at hj
  have hx:=fun X=>hl _ hmem (H.set i (jB M)++X) i M d (zat (za9 hi)) hM hd
  have hbd:=jT_bd d (l.getD k (Tm.mk false .empty [])) M hM.1
  rw [zh9] at hj
  obtain ⟨v,s,ar,hxe⟩:∃ v s ar,l.getD k (Tm.mk false .empty [])=Tm.mk v s ar:=by
   cases l.getD k (Tm.mk false .empty []) with
   | mk v s ar=>exact ⟨v,s,ar,rfl⟩
  have hce:(l.getD k (Tm.mk false .empty [])).cells=[.bool v,.str s,.sl none ar.length (ar.flatMap Tm.cells)]:=by rw [hxe,zav]
  rw [hce] at hx
  generalize hr:jT d (l.getD k (Tm.mk false .empty [])) M=r at *
  obtain ⟨M',b⟩:=r
  simp only at hx hbd hj
  generalize hB2:jB M'=B2 at *
  cases b with
  | true =>
    (repeat' ((conv=>whnf);(first|(refine yai ?_;first|refine yas ?_|refine yaq rfl ?_|refine yar (by omega) ?_|fail)|(refine zad _ _ Cst.h Cst.h ?_ ?_;· omega)|(refine yaf ?_ ?_;· first|omega|exact yaa _ _|fail)|refine zaa (Tm.mk false .empty []) k rfl hlt zba hce ?_|refine zay i _ _ _ _ (za9 hi) (by simp) rfl (hx _) (ycn ..) ?_|fail)));conv=>whnf
    subst hB2
    (refine ⟨⟨(k+1,M'),⟨by simp only;omega,⟨hbd.2.2 rfl,by simp only;omega⟩,by simpa using hj⟩,by omega,?_,.inl ⟨rfl,rfl⟩,rfl,_,rfl,?_⟩⟩;rotate_left 1;exact .inr ⟨by simp [zaw,below,zab,tr,and_self],by simp [zbe,Blk.below,zab,below,and_self]⟩;exact ⟨⟨_,rfl,yae _⟩,trivial⟩)
  | false =>
    (repeat' ((conv=>whnf);(first|(refine yai ?_;first|refine yas ?_|refine yau rfl ?_|refine yar (by omega) ?_|fail)|(refine yaf ?_ ?_;· first|omega|exact yaa _ _|fail)|refine zaa (Tm.mk false .empty []) k rfl hlt zba hce ?_|refine zay i _ _ _ _ (za9 hi) (by simp) rfl (hx _) (ycn ..) ?_|fail)));conv=>whnf
    subst hB2
    simp only [yba,if_false] at hj
    rw [hj]
    exact za0 (zg0 _ _) trivial (yae _)
 ·have hke:k=l.length:=by omega
  subst hke
  rw [ybo,zgk] at hj
  rw [hj]
  (repeat' ((conv=>whnf);(first|refine ya1 (by omega) ?_|fail)));conv=>whnf
  exact za0 (zg0 _ _) trivial (yae _)
end
section
attribute [local irreducible] VW VCall VO bits
theorem checkerV (H:Heap):VDet Tryz.prog 188 [.clo (.func 216) [] [],.clo (.func 217) [] []] H (.clo (.func 229) [] [.rptr [.clo (.func 216) [] []],.rptr [.clo (.func 217) [] []]]):=by
 refine fdD Tryz.func188 ⟨rfl,rfl,rfl⟩ fun hcl hbl=>?_
 conv=>whnf
 refine ydy ?_ ?_ (yae _)
 ·simp [below,zab,zec]
 ·(repeat' (first|exact FrzL.nil|refine FrzL.cons ?_ ?_|refine Frz.clo ?_ ?_|refine Frz.ptr rfl rfl (ydu _)|fail))
theorem checkerF (H:Heap):VDet Tryz.prog 188 [.clo (.func 215) [] [],.clo (.func 190) [] []] H (.clo (.func 229) [] [.rptr [.clo (.func 215) [] []],.rptr [.clo (.func 190) [] []]]):=by
 refine fdD Tryz.func188 ⟨rfl,rfl,rfl⟩ fun hcl hbl=>?_
 conv=>whnf
 refine ydy ?_ ?_ (yae _)
 ·simp [below,zab,zec]
 ·(repeat' (first|exact FrzL.nil|refine FrzL.cons ?_ ?_|refine Frz.clo ?_ ?_|refine Frz.ptr rfl rfl (ydu _)|fail))
theorem checkerP (H:Heap):VDet Tryz.prog 188 [.clo (.func 189) [] [],.clo (.func 190) [] []] H (.clo (.func 229) [] [.rptr [.clo (.func 189) [] []],.rptr [.clo (.func 190) [] []]]):=by
 refine fdD Tryz.func188 ⟨rfl,rfl,rfl⟩ fun hcl hbl=>?_
 conv=>whnf
 refine ydy ?_ ?_ (yae _)
 ·simp [below,zab,zec]
 ·(repeat' (first|exact FrzL.nil|refine FrzL.cons ?_ ?_|refine Frz.clo ?_ ?_|refine Frz.ptr rfl rfl (ydu _)|fail))
theorem zgs (s:ByteArray) (hs:s.size≤9223372036854775807) (H:Heap):VDet Tryz.prog 166 [.str s] H (.bool (isVar s)):=by
 have h:=check_g _ _ isVa1 isDig va1_g digit_g s hs
 unfold isVar
 generalize nameB isVa1 isDig s=b at *
 refine fdD Tryz.func166 ⟨rfl,rfl,rfl⟩ fun hcl hbl=>?_
 (repeat' ((conv=>whnf);(first|(refine ybm ?_;first|refine yab _ (checkerV _) ?_|refine yab _ (h _) ?_|fail)|fail)));conv=>whnf
 exact eT trivial
theorem function_g (s:ByteArray) (hs:s.size≤9223372036854775807) (H:Heap):VDet Tryz.prog 163 [.str s] H (.bool (isFun s)):=by
 have h:=check_g _ _ isFu1 isAln fu1_g alnum_g s hs
 unfold isFun
 generalize nameB isFu1 isAln s=b at *
 refine fdD Tryz.func163 ⟨rfl,rfl,rfl⟩ fun hcl hbl=>?_
 (repeat' ((conv=>whnf);(first|(refine ybm ?_;first|refine yab _ (checkerF _) ?_|refine yab _ (h _) ?_|fail)|fail)));conv=>whnf
 exact eT trivial
theorem predicate_g (s:ByteArray) (hs:s.size≤9223372036854775807) (H:Heap):VDet Tryz.prog 134 [.str s] H (.bool (ze8 s)):=by
 have h:=check_g _ _ isCap isAln capital_g alnum_g s hs
 unfold ze8
 generalize nameB isCap isAln s=b at *
 refine fdD Tryz.func134 ⟨rfl,rfl,rfl⟩ fun hcl hbl=>?_
 (repeat' ((conv=>whnf);(first|(refine ybm ?_;first|refine yab _ (checkerP _) ?_|refine yab _ (h _) ?_|fail)|fail)));conv=>whnf
 exact eT trivial
theorem term_step (v:Bool) (s:ByteArray) (l:List Tm) (hs:s.size≤9223372036854775807) (hl:TermsP l):TermP (.mk v s l):=by
 intro H i L d hi hL hd
 have hn:=fun X=>node_g (H++X) i L d (zat hi) hL hd
 have hv:=zgs s hs
 have hf:=function_g s hs
 rw [zav]
 unfold jT
 by_cases h:1≤L∧d≤40
 ·rw [if_neg (not_not_intro h)]
  rw [decide_eq_true h] at hn
  have ht:=fun X=>hl (H.set i (jB (L-1))++X) i (L-1) (d+1) (zat (za9 hi)) (by omega) (by omega)
  generalize isVar s=bv at *
  generalize isFun s=bf at *
  generalize hr:jTs (d+1) l (L-1)=r at *
  obtain ⟨M,b⟩:=r
  simp only at ht
  generalize l.flatMap Tm.cells=lc at *
  generalize l.length=n at *
  unfold jB at hi hn ht ⊢
  cases v with
  | true =>
    simp only [if_true]
    cases bv with
    | true =>
      refine fdG Tryz.func179 ⟨rfl,rfl,rfl⟩ fun hcl hbl=>?_
      (repeat' ((conv=>whnf);(first|(refine yai ?_;first|refine yas ?_|refine yaq rfl ?_|refine zcy (fun _=>?_) (fun _=>?_)|fail)|refine yab _ (hv _) ?_|refine zay i _ _ _ _ hi rfl rfl (hn _) rfl ?_|fail)));all_goals (conv=>whnf)
      all_goals exact za0 (by simp [Blk.below,zab,below]) trivial (zaf (by simp;try omega))
    | false =>
      refine fdG Tryz.func179 ⟨rfl,rfl,rfl⟩ fun hcl hbl=>?_
      (repeat' ((conv=>whnf);(first|(refine yai ?_;first|refine yas ?_|refine yaq rfl ?_|refine yau rfl ?_|refine zcy (fun _=>?_) (fun _=>?_)|fail)|refine yab _ (hv _) ?_|refine zay i _ _ _ _ hi rfl rfl (hn _) rfl ?_|refine ych _ (by (repeat' (first|assumption|exact zbc _ rfl|exact za2 rfl|refine za9 (B':=?_) ?_|refine zat ?_|fail))) ?_|fail)));all_goals (conv=>whnf)
      all_goals exact za0 (by simp [Blk.below,zab,below]) trivial (zaf (by simp;try omega))
  | false =>
    simp only [yba,if_false]
    by_cases h4:n≤4∧bf=true
    ·obtain ⟨h4,rfl⟩:=h4
     rw [if_pos ⟨h4,rfl⟩]
     refine fdG Tryz.func179 ⟨rfl,rfl,rfl⟩ fun hcl hbl=>?_
     (repeat' ((conv=>whnf);(first|(refine yai ?_;first|refine yas ?_|refine yaq rfl ?_|refine yau rfl ?_|refine yar (by omega) ?_|fail)|(refine zad _ _ Cst.h Cst.h ?_ ?_;· omega)|refine yab _ (hf _) ?_|refine zay i _ _ _ _ hi rfl rfl (hn _) rfl ?_|refine zay i _ _ _ _ (za9 hi) (by simp) rfl (ht _) (ycn ..) ?_|fail)));conv=>whnf
     all_goals exact za0 (by simp [Blk.below,zab,below]) trivial (zaf (by simp;try omega))
    ·rw [if_neg h4]
     cases bf with
     | true =>
       have h4:¬ n≤4:=fun e=>h4 ⟨e,rfl⟩
       refine fdG Tryz.func179 ⟨rfl,rfl,rfl⟩ fun hcl hbl=>?_
       (repeat' ((conv=>whnf);(first|(refine yai ?_;first|refine yas ?_|refine yaq rfl ?_|refine yau rfl ?_|refine ya1 (by omega) ?_|fail)|refine zay i _ _ _ _ hi rfl rfl (hn _) rfl ?_|fail)));conv=>whnf
       all_goals exact za0 (by simp [Blk.below,zab,below]) trivial (zaf (by simp;try omega))
     | false =>
       refine fdG Tryz.func179 ⟨rfl,rfl,rfl⟩ fun hcl hbl=>?_
       (repeat' ((conv=>whnf);(first|(refine yai ?_;first|refine yas ?_|refine yaq rfl ?_|refine yau rfl ?_|refine zcy (fun _=>?_) (fun _=>?_)|fail)|refine yab _ (hf _) ?_|refine zay i _ _ _ _ hi rfl rfl (hn _) rfl ?_|fail)));all_goals (conv=>whnf)
       all_goals exact za0 (by simp [Blk.below,zab,below]) trivial (zaf (by simp;try omega))
 ·rw [if_pos h]
  rw [decide_eq_false h] at hn
  unfold jB at hi hn ⊢
  refine fdG Tryz.func179 ⟨rfl,rfl,rfl⟩ fun hcl hbl=>?_
  (repeat' ((conv=>whnf);(first|(refine yai ?_;first|refine yas ?_|refine yau rfl ?_|fail)|refine zay i _ _ _ _ hi rfl rfl (hn _) rfl ?_|fail)));conv=>whnf
  exact za0 (by simp [Blk.below,zab,below]) trivial (yae _)
mutual
theorem term_g:∀ x:Tm,x.good→TermP x
 | .mk v s l,h=>term_step v s l (by have:=h.1;exact zaz this) (terms_g l (zaz h.2.1) (terms_all l h.2.2))
theorem terms_all:∀ l:List Tm,Tm.goodL l→∀ x∈l,TermP x
 | [],_,x,h=>by cases h
 | y::l,hg,x,h=>by
   have h1:=term_g y hg.1
   have h2:=terms_all l hg.2
   rcases yay.1 h with e|h
   ·exact e▸h1
   ·exact h2 x h
end
end
structure Fct where
 nm:ByteArray
 ar:Int
 tr:Int
structure Fnc where
 nm:ByteArray
 ar:Int
 vl:List Int
structure Bnd where
 nm:ByteArray
 at_:Int
structure Mdl where
 kind:Int
 size:Int
 rel:List Int
 loop:Int
 facts:List Fct
 funcs:List Fnc
 binds:List Bnd
def enc64 (n:Int):List AV:=[.int .i64 n]
def Fct.cells (f:Fct):List AV:=[.str f.nm,.int .i64 f.ar,.int .i64 f.tr]
def Fnc.cells (f:Fnc):List AV:=[.str f.nm,.int .i64 f.ar,.sl none f.vl.length (f.vl.flatMap enc64)]
def Bnd.cells (b:Bnd):List AV:=[.str b.nm,.int .i64 b.at_]
def Mdl.cells (m:Mdl):List AV:=[.int .u8 m.kind,.int .i64 m.size,.sl none m.rel.length (m.rel.flatMap enc64),.int .i64 m.loop,.sl none m.facts.length (m.facts.flatMap Fct.cells),.sl none m.funcs.length (m.funcs.flatMap Fnc.cells),.sl none m.binds.length (m.binds.flatMap Bnd.cells)]
def fct0:Fct:=⟨.empty,0,0⟩
def fnc0:Fnc:=⟨.empty,0,[]⟩
def bnd0:Bnd:=⟨.empty,0⟩
def factP (s:ByteArray) (a:Int) (f:Fct):Bool:=f.nm.toList==s.toList&&f.ar==a
def funcP (s:ByteArray) (a:Int) (f:Fnc):Bool:=f.nm.toList==s.toList&&f.ar==a
def bindP (s:ByteArray) (b:Bnd):Bool:=b.nm.toList==s.toList
def factF (m:Mdl) (s:ByteArray) (a:Int):Fct:=(m.facts.find? (factP s a)).getD fct0
def funcF (m:Mdl) (s:ByteArray) (a:Int):Fnc:=(m.funcs.find? (funcP s a)).getD fnc0
def bindF (m:Mdl) (s:ByteArray):Int:=((m.binds.find? (bindP s)).getD bnd0).at_
inductive Tq where
 | vr (s:ByteArray)
 | cn (s:ByteArray)
 | ap (s:ByteArray) (t:Tq)
def Tq.tm:Tq→Tm
 | .vr s=>.mk true s []
 | .cn s=>.mk false s []
 | .ap s t=>.mk false s [t.tm]
inductive Fq where
 | at_ (s:ByteArray) (l:List Tq)
 | fa
 | f1 (a:Fq)
 | f2 (k:Nat) (a b:Fq)
 | qn (k:Nat) (x:ByteArray) (a:Fq)
def Fq.fo:Fq→Fo
 | .at_ s l=>.mk 1 s (l.map Tq.tm) []
 | .fa=>.mk 2 .empty [] []
 | .f1 a=>.mk 3 .empty [] [a.fo]
 | .f2 k a b=>.mk k .empty [] [a.fo,b.fo]
 | .qn k x a=>.mk k x [] [a.fo]
def Fq.Ok:Fq→Prop
 | .at_ _ l=>l.length≤2
 | .fa=>True
 | .f1 a=>a.Ok
 | .f2 k a b=>(k=4∨k=5∨k=6∨k=7)∧a.Ok∧b.Ok
 | .qn k _ a=>(k=8∨k=9)∧a.Ok
abbrev Val:=ByteArray→Int
def upd (r:Val) (x:ByteArray) (a:Int):Val:=fun y=>if y=x then a else r y
def tv (m:Mdl) (r:Val):Tq→Int
 | .vr s=>r s
 | .cn s=>(funcF m s 0).vl.getD 0 0
 | .ap s t=>(funcF m s 1).vl.getD (tv m r t).toNat 0
def bitF (n:Int) (l:List Int):Int:=l.foldl (fun b v=>b * n+v) 0
def bitAt (t b:Int):Bool:=t.toNat.testBit b.toNat
def av (m:Mdl) (r:Val) (s:ByteArray) (l:List Tq):Bool:=bitAt (factF m s l.length).tr (bitF m.size (l.map (tv m r)))
def op2 (k:Nat) (a b:Bool):Bool:=if k=4 then a&&b else if k=5 then a || b else if k=6 then !a || b else a==b
def hv (m:Mdl):Fq→Val→Bool
 | .at_ s l,r=>av m r s l
 | .fa,_=>false
 | .f1 a,r=>!hv m a r
 | .f2 k a b,r=>op2 k (hv m a r) (hv m b r)
 | .qn k x a,r=>if k=8 then (List.range m.size.toNat).all fun i=>hv m a (upd r x i) else (List.range m.size.toNat).any fun i=>hv m a (upd r x i)
def rankF:Fq→Nat
 | .at_ _ _=>0
 | .fa=>0
 | .f1 a=>rankF a
 | .f2 _ a b=>max (rankF a) (rankF b)
 | .qn _ _ a=>rankF a+1
def Tq.hasV (x:ByteArray):Tq→Prop
 | .vr s=>s=x
 | .cn _=>False
 | .ap _ t=>t.hasV x
def Tq.hasC (s:ByteArray) (a:Int):Tq→Prop
 | .vr _=>False
 | .cn c=>c=s∧a=0
 | .ap c t=>(c=s∧a=1)∨t.hasC s a
def Fq.free (x:ByteArray):Fq→Prop
 | .at_ _ l=>∃ t∈l,t.hasV x
 | .fa=>False
 | .f1 a=>a.free x
 | .f2 _ a b=>a.free x∨b.free x
 | .qn _ y a=>a.free x∧x≠y
def Fq.hasP (s:ByteArray) (n:Int):Fq→Prop
 | .at_ c l=>c=s∧n=l.length
 | .fa=>False
 | .f1 a=>a.hasP s n
 | .f2 _ a b=>a.hasP s n∨b.hasP s n
 | .qn _ _ a=>a.hasP s n
def Fq.hasC (s:ByteArray) (n:Int):Fq→Prop
 | .at_ _ l=>∃ t∈l,t.hasC s n
 | .fa=>False
 | .f1 a=>a.hasC s n
 | .f2 _ a b=>a.hasC s n∨b.hasC s n
 | .qn _ _ a=>a.hasC s n
theorem tv_congr {m m':Mdl} {r r':Val}:∀ t:Tq,(∀ x,t.hasV x→r x=r' x)→(∀ s a,t.hasC s a→funcF m s a=funcF m' s a)→tv m r t=tv m' r' t
 | .vr s,h1,_=>h1 s rfl
 | .cn s,_,h2=>by
   unfold tv
   rw [h2 s 0 ⟨rfl,rfl⟩]
 | .ap s t,h1,h2=>by
   unfold tv
   rw [h2 s 1 (.inl ⟨rfl,rfl⟩),tv_congr t h1 fun s a h=>h2 s a (.inr h)]
theorem zib {m m':Mdl} (hs:m.size=m'.size):∀ (f:Fq) (r r':Val),(∀ x,f.free x→r x=r' x)→(∀ s a,f.hasC s a→funcF m s a=funcF m' s a)→(∀ s a,f.hasP s a→factF m s a=factF m' s a)→hv m f r=hv m' f r'
 | .at_ s l,r,r',h1,h2,h3=>by
   unfold hv av
   rw [h3 s _ ⟨rfl,rfl⟩,hs]
   congr 2
   refine List.map_congr_left fun t ht=>tv_congr t (fun x hx=>h1 x ⟨t,ht,hx⟩) fun s a h=>h2 s a ⟨t,ht,h⟩
 | .fa,_,_,_,_,_=>rfl
 | .f1 a,r,r',h1,h2,h3=>by
   unfold hv
   rw [zib hs a r r' h1 h2 h3]
 | .f2 k a b,r,r',h1,h2,h3=>by
   unfold hv
   rw [zib hs a r r' (fun x h=>h1 x (.inl h)) (fun s n h=>h2 s n (.inl h)) (fun s n h=>h3 s n (.inl h)),zib hs b r r' (fun x h=>h1 x (.inr h)) (fun s n h=>h2 s n (.inr h)) (fun s n h=>h3 s n (.inr h))]
 | .qn k y a,r,r',h1,h2,h3=>by
   have h:∀ i:Int,hv m a (upd r y i)=hv m' a (upd r' y i):=fun i=>zib hs a _ _ (fun x hx=>by
    unfold upd
    split
    ·rfl
    ·rename_i hn
     exact h1 x ⟨hx,hn⟩) h2 h3
   unfold hv
   rw [hs]
   simp only [h]
def numN (n:Nat) (l:List Nat):Nat:=l.foldl (fun b v=>b * n+v) 0
def digN (n:Nat):Nat→Nat→List Nat
 | 0,_=>[]
 | k+1,t=>digN n k (t / n)++[t % n]
theorem numN_snoc (n:Nat) (l:List Nat) (v:Nat):numN n (l++[v])=numN n l * n+v:=by
 unfold numN
 rw [List.foldl_append]
 rfl
theorem num_lt {n:Nat} (hn:0<n) (l:List Nat) (h:∀ v∈l,v<n):numN n l<n ^ l.length:=by
 have key:∀ l:List Nat,(∀ v∈l,v<n)→numN n l.reverse<n ^ l.length:=by
  intro l
  induction l with
  | nil=>intro _;exact Nat.one_pos
  | cons v l ih =>
    intro h
    have h1:=ih fun u hu=>h u (ya5 _ hu)
    have hv:=h v ybd
    rw [List.reverse_cons,numN_snoc,ybu,Nat.pow_succ]
    calc numN n l.reverse * n+v<numN n l.reverse * n+n:=by omega
     _=(numN n l.reverse+1) * n:=by rw [Nat.succ_mul]
     _≤n ^ l.length * n:=ycg _ h1
 have:=key l.reverse fun v hv=>h v (List.mem_reverse.1 hv)
 rwa [List.reverse_reverse,List.length_reverse] at this
structure FctOk (n:Nat) (f:Fct):Prop where
 ar:f.ar=0∨f.ar=1∨f.ar=2
 tr:0≤f.tr∧f.tr.toNat<2 ^ n ^ f.ar.toNat
structure FncOk (n:Nat) (f:Fnc):Prop where
 ar:f.ar=0∨f.ar=1
 len:f.vl.length=n ^ f.ar.toNat
 lt:∀ v∈f.vl,0≤v∧v<n
structure VM (m:Mdl) (n:Nat):Prop where
 size:m.size=n
 pos:0<n
 le:n≤3
 facts:∀ f∈m.facts,FctOk n f
 funcs:∀ f∈m.funcs,FncOk n f
 binds:∀ b∈m.binds,0≤b.at_∧b.at_<n
def pa (p:List Nat) (a:Int):Int:=(p.getD a.toNat 0:Nat)
def hasFct (m:Mdl) (s:ByteArray) (a:Int):Prop:=(m.facts.find? (factP s a)).isSome=true
def zgl (m:Mdl) (s:ByteArray) (a:Int):Prop:=(m.funcs.find? (funcP s a)).isSome=true
def zic (m:Mdl) (s:ByteArray):Prop:=(m.binds.find? (bindP s)).isSome=true
theorem ba_eq {a b:ByteArray}:(a.toList==b.toList)=true↔a=b:=by
 rw [beq_iff_eq,ByteArray.toList_eq,ByteArray.toList_eq]
 constructor
 ·intro h
  obtain ⟨⟨x⟩⟩:=a
  obtain ⟨⟨y⟩⟩:=b
  simp only at h
  rw [h]
 ·rintro rfl;rfl
theorem fact_in {m:Mdl} {s:ByteArray} {a:Int} (h:hasFct m s a):factF m s a∈m.facts∧(factF m s a).nm=s∧(factF m s a).ar=a:=by
 unfold hasFct at h
 unfold factF
 obtain ⟨f,hf⟩:=yc3.1 h
 rw [hf]
 have h2:=yea hf
 unfold factP at h2
 rw [yak] at h2
 exact ⟨yct hf,ba_eq.1 h2.1,beq_iff_eq.1 h2.2⟩
theorem func_in {m:Mdl} {s:ByteArray} {a:Int} (h:zgl m s a):funcF m s a∈m.funcs∧(funcF m s a).nm=s∧(funcF m s a).ar=a:=by
 unfold zgl at h
 unfold funcF
 obtain ⟨f,hf⟩:=yc3.1 h
 rw [hf]
 have h2:=yea hf
 unfold funcP at h2
 rw [yak] at h2
 exact ⟨yct hf,ba_eq.1 h2.1,beq_iff_eq.1 h2.2⟩
theorem bind_in {m:Mdl} {s:ByteArray} (h:zic m s):∃ b∈m.binds,b.nm=s∧bindF m s=b.at_:=by
 unfold zic at h
 unfold bindF
 obtain ⟨f,hf⟩:=yc3.1 h
 rw [hf]
 have h2:=yea hf
 unfold bindP at h2
 exact ⟨f,yct hf,ba_eq.1 h2,rfl⟩
theorem tv_in {m:Mdl} {n:Nat} (hm:VM m n) {r:Val}:∀ t:Tq,(∀ x,t.hasV x→0≤r x∧r x<n)→(∀ s a,t.hasC s a→zgl m s a)→0≤tv m r t∧tv m r t<n
 | .vr s,h1,_=>h1 s rfl
 | .cn s,_,h2=>by
   obtain ⟨q1,-,q3⟩:=func_in (h2 s 0 ⟨rfl,rfl⟩)
   obtain ⟨-,hl,hv⟩:=hm.funcs _ q1
   rw [q3] at hl
   have hl:(funcF m s 0).vl.length=1:=hl
   unfold tv
   rw [ybr,yal (show 0<(funcF m s 0).vl.length by omega)]
   exact hv _ (List.getElem_mem _)
 | .ap s t,h1,h2=>by
   obtain ⟨q1,-,q3⟩:=func_in (h2 s 1 (.inl ⟨rfl,rfl⟩))
   obtain ⟨-,hl,hv⟩:=hm.funcs _ q1
   rw [q3] at hl
   have hl:(funcF m s 1).vl.length=n:=hl.trans (Nat.pow_one n)
   have ht:=tv_in hm t h1 fun s a h=>h2 s a (.inr h)
   unfold tv
   rw [ybr,yal (show (tv m r t).toNat<(funcF m s 1).vl.length by omega)]
   exact hv _ (List.getElem_mem _)
theorem bit_num (n:Nat) (l:List Int) (h:∀ v∈l,0≤v):bitF n l=(numN n (l.map Int.toNat):Nat):=by
 unfold bitF numN
 rw [List.foldl_map]
 have key:∀ (l:List Int) (b:Nat),(∀ v∈l,0≤v)→l.foldl (fun b v=>b * (n:Int)+v) (b:Int)=((l.foldl (fun b v=>b * n+v.toNat) b:Nat):Int):=by
  intro l
  induction l with
  | nil=>intro b _;rfl
  | cons v l ih =>
    intro b h
    have hv:=h v ybd
    rw [yd9,yd9,← ih _ fun u hu=>h u (ya5 _ hu)]
    congr 1
    rw [Int.natCast_add,yel,Int.toNat_of_nonneg hv]
 exact key l 0 h
section
def encR (r:Bool×Bool×Nat×Nat×Nat):List AV:=[.bool r.1,.bool r.2.1,.int .u8 r.2.2.1,.int .i64 r.2.2.2.1,.int .i64 r.2.2.2.2]
def rowsL:List (Bool×Bool×Nat×Nat×Nat):=[(false,false,0,0,0),(true,true,1,4,0),(true,true,0,0,0),(true,true,0,0,1),(true,true,0,0,2),(true,true,0,0,2),(true,true,0,0,2),(true,true,0,0,2),(true,true,2,0,1),(true,true,2,0,1),(true,true,0,0,1),(true,true,0,0,1),(true,true,0,0,1),(true,true,0,0,1),(true,true,0,0,2),(false,true,3,0,0),(false,true,3,2,0)]
def row0:Bool×Bool×Nat×Nat×Nat:=(false,false,0,0,0)
def rowK (op:Nat):Bool:=(rowsL.getD op row0).1
def rowN (op:Nat):Nat:=(rowsL.getD op row0).2.2.1
def rowA (op:Nat):Nat:=(rowsL.getD op row0).2.2.2.1
def rowS (op:Nat):Nat:=(rowsL.getD op row0).2.2.2.2
theorem row_ok:∀ op,op<17→(rowsL.getD op row0).1=true→(rowN op=0∨rowN op=1∨rowN op=2)∧op≠16∧rowA op≤4∧rowS op≤2:=by decide
def zfb (s:ByteArray):Bool:=s.toList==ByteArray.empty.toList
def zg9 (k:Nat) (s:ByteArray):Bool:=if k=1 then ze8 s else if k=2 then isVar s else zfb s
mutual
def jF (d:Nat):Fo→Int→Int×Bool
 | .mk op s l m,L=>if ¬ (1≤L∧d≤40)∨17≤op then (L-1,false) else if rowK op=false then (L-1,false) else if ¬ (zg9 (rowN op) s=true∧l.length≤rowA op∧m.length=rowS op) then (L-1,false) else
   if (jTs (d+1) l (L-1)).2 then jFs (d+1) m (jTs (d+1) l (L-1)).1 else ((jTs (d+1) l (L-1)).1,false)
def jFs (d:Nat):List Fo→Int→Int×Bool
 | [],L=>(L,true)
 | x::l,L=>if (jF d x L).2 then jFs d l (jF d x L).1 else ((jF d x L).1,false)
end
theorem zho (d:Nat) (L:Int):jFs d [] L=(L,true):=by unfold jFs;rfl
theorem zeq (d:Nat) (x:Fo) (l:List Fo) (L:Int):jFs d (x::l) L=if (jF d x L).2 then jFs d l (jF d x L).1 else ((jF d x L).1,false):=by rw [jFs.eq_def]
mutual
theorem jF_bd (d:Nat):∀ (x:Fo) (L:Int),0≤L→-1≤(jF d x L).1∧(jF d x L).1≤L∧((jF d x L).2=true→0≤(jF d x L).1)
 | .mk op s l m,L,h=>by
   unfold jF
   split
   ·exact ⟨by simp only;omega,by simp only;omega,fun h=>by cases h⟩
   ·rename_i h1
    split
    ·exact ⟨by simp only;omega,by simp only;omega,fun h=>by cases h⟩
    ·split
     ·exact ⟨by simp only;omega,by simp only;omega,fun h=>by cases h⟩
     ·have ht:=jTs_bd (d+1) l (L-1) (by omega)
      split
      ·rename_i hb
       have:=jFs_bd (d+1) m _ (ht.2.2 hb)
       exact ⟨this.1,by omega,this.2.2⟩
      ·exact ⟨ht.1,by simp only;omega,fun h=>by cases h⟩
theorem jFs_bd (d:Nat):∀ (l:List Fo) (L:Int),0≤L→-1≤(jFs d l L).1∧(jFs d l L).1≤L∧((jFs d l L).2=true→0≤(jFs d l L).1)
 | [],L,h=>by rw [zho];exact ⟨by simp only;omega,by simp only;omega,fun _=>h⟩
 | x::l,L,h=>by
   have h1:=jF_bd d x L h
   rw [zeq]
   split
   ·rename_i hb
    have h2:=jFs_bd d l _ (h1.2.2 hb)
    exact ⟨h2.1,by omega,h2.2.2⟩
   ·exact ⟨h1.1,h1.2.1,fun h=>by cases h⟩
end
theorem zg4 {l l':List AV} {o:Nat} {k:List AV→Prop} (h:l=l') (a:SegN l' o k):SegN l o k:=h▸a
theorem za4:∀ x:Fo,x.cells.length=4
 | .mk op s l m=>by rw [zaq];rfl
attribute [local irreducible] VW VCall VO bits
mutual
theorem tm_below (n:Nat):∀ x:Tm,zab n x.cells
 | .mk v s l=>by
   rw [zav]
   have:=zal n l
   simp [zab,below,this]
theorem zal (n:Nat):∀ l:List Tm,zab n (l.flatMap Tm.cells)
 | []=>trivial
 | x::l=>by
   rw [ya7]
   exact (zau _ _).2 ⟨tm_below n x,zal n l⟩
end
mutual
theorem fo_below (n:Nat):∀ x:Fo,zab n x.cells
 | .mk op s l m=>by
   rw [zaq]
   have:=zal n l
   have:=zan n m
   simp [zab,below, *]
theorem zan (n:Nat):∀ l:List Fo,zab n (l.flatMap Fo.cells)
 | []=>trivial
 | x::l=>by
   rw [ya7]
   exact (zau _ _).2 ⟨fo_below n x,zan n l⟩
end
theorem named_g (k:Nat) (hk:k=0∨k=1∨k=2) (s:ByteArray) (hs:s.size≤9223372036854775807) (H:Heap):VDet Tryz.prog 223 [.int .u8 k,.str s] H (.bool (zg9 k s)):=by
 have hp:=predicate_g s hs
 have hv:=zgs s hs
 have he:(s.toList==ByteArray.empty.toList)=zfb s:=rfl
 unfold zg9
 rcases hk with rfl|rfl|rfl
 ·simp only [show ¬ (0:Nat)=1 by decide,show ¬ (0:Nat)=2 by decide,if_false]
  refine fdD Tryz.func223 ⟨rfl,rfl,rfl⟩ fun hcl hbl=>?_
  (repeat' ((conv=>whnf);(first|refine yau rfl ?_|fail)));conv=>whnf
  exact ya2 trivial (zaf (by rw [← he];rfl))
 ·simp only [if_true]
  refine fdD Tryz.func223 ⟨rfl,rfl,rfl⟩ fun hcl hbl=>?_
  (repeat' ((conv=>whnf);(first|refine yaq rfl ?_|refine yab _ (hp _) ?_|fail)));conv=>whnf
  exact eT trivial
 ·simp only [show ¬ (2:Nat)=1 by decide,if_false,if_true]
  refine fdD Tryz.func223 ⟨rfl,rfl,rfl⟩ fun hcl hbl=>?_
  (repeat' ((conv=>whnf);(first|(refine yai ?_;first|refine yaq rfl ?_|refine yau rfl ?_|fail)|refine yab _ (hv _) ?_|fail)));conv=>whnf
  exact eT trivial
theorem rows_eq:(Tryz.gl[0]).2=rowsL.flatMap encR:=by kernel_rfl
def FormP (x:Fo):Prop:=∀ (H:Heap) (i:Nat) (L:Int) (d:Nat),H[i]? = some (jB L)→0≤L∧L≤400→d≤41→VCall Tryz.prog 180 [.ptr i 0,.agg x.cells,.int .i64 d] H (setR H i (jB (jF d x L).1) (.bool (jF d x L).2))
theorem form_step (op:Nat) (s:ByteArray) (l:List Tm) (m:List Fo) (hop:op≤255) (hs:s.size≤9223372036854775807) (hll:l.length≤9223372036854775807) (hml:m.length≤9223372036854775807) (hl:TermsP l) (hm:∀ x∈m,FormP x):FormP (.mk op s l m):=by
 intro H i L d hi hL hd
 have hn:=fun X=>node_g (H++X) i L d (zat hi) hL hd
 rw [zaq]
 unfold jF
 by_cases h:¬ (1≤L∧d≤40)∨17≤op
 ·rw [if_pos h]
  by_cases h1:1≤L∧d≤40
  ·rw [decide_eq_true h1] at hn
   have h17:17≤op:=by omega
   generalize l.flatMap Tm.cells=lc at *
   generalize m.flatMap Fo.cells=mc at *
   unfold jB at hi hn ⊢
   refine fdG Tryz.func180 ⟨rfl,rfl,rfl⟩ fun hcl hbl=>?_
   (repeat' ((conv=>whnf);(first|(refine yai ?_;first|refine yas ?_|refine yaq rfl ?_|refine yar (by omega) ?_|fail)|refine yco (by omega) ?_|refine zay i _ _ _ _ hi rfl rfl (hn _) rfl ?_|fail)));conv=>whnf
   exact za0 (by simp [Blk.below,zab,below]) trivial (yae _)
  ·rw [decide_eq_false h1] at hn
   generalize l.flatMap Tm.cells=lc at *
   generalize m.flatMap Fo.cells=mc at *
   unfold jB at hi hn ⊢
   refine fdG Tryz.func180 ⟨rfl,rfl,rfl⟩ fun hcl hbl=>?_
   (repeat' ((conv=>whnf);(first|(refine yai ?_;first|refine yas ?_|refine yau rfl ?_|fail)|refine zay i _ _ _ _ hi rfl rfl (hn _) rfl ?_|fail)));conv=>whnf
   exact za0 (by simp [Blk.below,zab,below]) trivial (yae _)
 ·rw [if_neg h]
  have h1:1≤L∧d≤40:=by omega
  have h17:op<17:=by omega
  rw [decide_eq_true h1] at hn
  have hrow:=row_ok op h17
  have hname:=fun (hk:rowN op=0∨rowN op=1∨rowN op=2)=>named_g (rowN op) hk s hs
  have hrc:encR (rowsL.getD op row0)=[.bool (rowK op),.bool (rowsL.getD op row0).2.1,.int .u8 (rowN op),.int .i64 (rowA op),.int .i64 (rowS op)]:=rfl
  have hrk:(rowsL.getD op row0).1=rowK op:=rfl
  rw [hrk] at hrow
  have ht:=fun X=>hl (H.set i (jB (L-1))++X) i (L-1) (d+1) (zat (za9 hi)) (by omega) (by omega)
  have htb:=jTs_bd (d+1) l (L-1) (by omega)
  generalize (rowsL.getD op row0).2.1=rsch at *
  generalize rowK op=rk at *
  generalize rowN op=rn at *
  generalize rowA op=ra at *
  generalize rowS op=rs at *
  generalize zg9 rn s=nok at *
  generalize hr:jTs (d+1) l (L-1)=r at *
  obtain ⟨M,b⟩:=r
  simp only at ht htb
  have h16:rk=true→op≠16:=fun e=>(hrow e).2.1
  cases rk with
  | false =>
    rw [if_pos rfl]
    generalize l.flatMap Tm.cells=lc at *
    generalize m.flatMap Fo.cells=mc at *
    unfold jB at hi hn ⊢
    refine fdG Tryz.func180 ⟨rfl,rfl,rfl⟩ fun hcl hbl=>?_
    (repeat' ((conv=>whnf);(first|(refine yai ?_;first|refine yas ?_|refine yaq rfl ?_|refine yau rfl ?_|refine ya1 (by omega) ?_|fail)|refine yco (by omega) ?_|refine yaf (by omega) ?_|refine zay i _ _ _ _ hi rfl rfl (hn _) rfl ?_|refine zg4 rows_eq (zaa row0 op rfl h17 (fun _=>rfl) hrc ?_)|refine ych _ (by (repeat' (first|assumption|exact zbc _ rfl|exact za2 rfl|refine za9 (B':=?_) ?_|refine zat ?_|fail))) ?_|fail)));conv=>whnf
    exact za0 (by simp [Blk.below,zab,below]) trivial (yae _)
  | true =>
    simp only [Bool.true_eq_false,if_false]
    have h16:=h16 rfl
    have hname:=hname (hrow rfl).1
    have hra:=(hrow rfl).2.2.1
    by_cases h2:nok=true∧l.length≤ra∧m.length=rs
    ·rw [if_neg (not_not_intro h2)]
     obtain ⟨rfl,h3,h4⟩:=h2
     cases b with
     | false =>
       simp only [yba,if_false]
       generalize l.flatMap Tm.cells=lc at *
       generalize m.flatMap Fo.cells=mc at *
       unfold jB at hi hn ht ⊢
       refine fdG Tryz.func180 ⟨rfl,rfl,rfl⟩ fun hcl hbl=>?_
       (repeat' ((conv=>whnf);(first|(refine yai ?_;first|refine yas ?_|refine yaq rfl ?_|refine yau rfl ?_|refine yar (by omega) ?_|refine ya1 (by omega) ?_|fail)|(refine yc0 ?_;first|(refine zad _ _ Cst.h Cst.h ?_ ?_;· omega)|refine yco (by omega) ?_|fail)|refine yaf (by omega) ?_|refine yab _ (hname _) ?_|refine zay i _ _ _ _ hi rfl rfl (hn _) rfl ?_|refine zg4 rows_eq (zaa row0 op rfl h17 (fun _=>rfl) hrc ?_)|refine zay i _ _ _ _ (za9 hi) (by simp) rfl (ht _) (ycn ..) ?_|fail)));conv=>whnf
       exact za0 (by simp [Blk.below,zab,below]) trivial (yae _)
     | true =>
       simp only [if_true]
       have hMb:=htb.2.2 rfl
       have hmc:∀ n,zab n (m.flatMap Fo.cells):=fun n=>zan n m
       have hi':=hi
       unfold jB at hi hn ht
       refine fdG Tryz.func180 ⟨rfl,rfl,rfl⟩ fun hcl hbl=>?_
       (repeat' ((conv=>whnf);(first|(refine yai ?_;first|refine yas ?_|refine yaq rfl ?_|refine yar (by omega) ?_|refine ya1 (by omega) ?_|fail)|(refine yc0 ?_;first|(refine zad _ _ Cst.h Cst.h ?_ ?_;· omega)|refine yco (by omega) ?_|fail)|refine yaf (by omega) ?_|refine yab _ (hname _) ?_|refine zay i _ _ _ _ hi rfl rfl (hn _) rfl ?_|refine zg4 rows_eq (zaa row0 op rfl h17 (fun _=>rfl) hrc ?_)|refine zay i _ _ _ _ (za9 hi) (by simp) rfl (ht _) (ycn ..) ?_|fail)));conv=>whnf
       refine zd8 Tryz.E0 zag (σ:=Nat×Int) (fun p=>p.1≤m.length∧(0≤p.2∧p.2≤400)∧jFs (d+1) m M=jFs (d+1) (m.drop p.1) p.2) (fun p=>m.length-p.1) (fun p=>[(79,.v (.int .i64 p.1))]) (fun p=>H.set i (jB p.2)) (fun _=>_) _ (0,M) (fun p _=>by simp) (fun p _=>zcq hcl i _ (zg0 _ _)) [0,2,77,78] rfl ⟨yah _,⟨hMb,by omega⟩,rfl⟩ ⟨⟨_,rfl,yae _⟩,trivial⟩ rfl rfl (fun _ _=>rfl) ?_
       rintro ⟨k,N⟩ ⟨hk,hN,hj⟩
       simp only at hk hN hj
       have hNl:(H.set i (jB N)).length=H.length:=by simp
       by_cases hlt:k<m.length
       ·have hmem:=zar m k (Fo.mk 0 .empty [] []) hlt
        rw [zbn m k (Fo.mk 0 .empty [] []) hlt] at hj
        have hx:=fun X=>hm _ hmem (H.set i (jB N)++X) i N (d+1) (zat (za9 hi')) hN (by omega)
        have hbd:=jF_bd (d+1) (m.getD k (Fo.mk 0 .empty [] [])) N hN.1
        rw [zeq] at hj
        obtain ⟨o2,s2,l2,m2,hxe⟩:∃ o2 s2 l2 m2,m.getD k (Fo.mk 0 .empty [] [])=Fo.mk o2 s2 l2 m2:=by
         cases m.getD k (Fo.mk 0 .empty [] []) with
         | mk o2 s2 l2 m2=>exact ⟨o2,s2,l2,m2,rfl⟩
        have hce:(m.getD k (Fo.mk 0 .empty [] [])).cells=[.int .u8 o2,.str s2,.sl none l2.length (l2.flatMap Tm.cells),.sl none m2.length (m2.flatMap Fo.cells)]:=by rw [hxe,zaq]
        rw [hce] at hx
        generalize hr2:jF (d+1) (m.getD k (Fo.mk 0 .empty [] [])) N=r2 at *
        obtain ⟨N',b2⟩:=r2
        simp only at hx hbd hj
        generalize hB2:jB N'=B2 at *
        cases b2 with
        | true =>
          (repeat' ((conv=>whnf);(first|(refine yai ?_;first|refine yas ?_|refine yaq rfl ?_|refine yar (by omega) ?_|fail)|(refine zad _ _ Cst.h Cst.h ?_ ?_;· omega)|(refine yaf ?_ ?_;· first|omega|exact yaa _ _|fail)|refine zaa (Fo.mk 0 .empty [] []) k rfl hlt za4 hce ?_|refine zay i _ _ _ _ (za9 hi') (by simp) rfl (hx _) (ycn ..) ?_|fail)));conv=>whnf
          subst hB2
          (refine ⟨⟨(k+1,N'),⟨by simp only;omega,⟨hbd.2.2 rfl,by simp only;omega⟩,by simpa using hj⟩,by omega,?_,.inl ⟨rfl,rfl⟩,rfl,_,rfl,?_⟩⟩;rotate_left 1;exact .inr ⟨by simp [zaw,below,zab,tr,zal,zan],by simp [zbe,Blk.below,zab,below,zal,zan]⟩;exact ⟨⟨_,rfl,yae _⟩,trivial⟩)
        | false =>
          (repeat' ((conv=>whnf);(first|(refine yai ?_;first|refine yas ?_|refine yau rfl ?_|refine yar (by omega) ?_|fail)|(refine zad _ _ Cst.h Cst.h ?_ ?_;· omega)|(refine yaf ?_ ?_;· first|omega|exact yaa _ _|fail)|refine zaa (Fo.mk 0 .empty [] []) k rfl hlt za4 hce ?_|refine zay i _ _ _ _ (za9 hi') (by simp) rfl (hx _) (ycn ..) ?_|fail)));conv=>whnf
          subst hB2
          simp only [yba,if_false] at hj
          rw [hj]
          exact za0 (zg0 _ _) trivial (yae _)
       ·have hke:k=m.length:=by omega
        subst hke
        rw [ybo,zho] at hj
        rw [hj]
        (repeat' ((conv=>whnf);(first|refine ya1 (by omega) ?_|fail)));conv=>whnf
        exact za0 (zg0 _ _) trivial (yae _)
    ·rw [if_pos h2]
     generalize l.flatMap Tm.cells=lc at *
     generalize m.flatMap Fo.cells=mc at *
     generalize l.length=ln at *
     generalize m.length=mn at *
     unfold jB at hi hn ⊢
     cases nok with
     | false =>
       refine fdG Tryz.func180 ⟨rfl,rfl,rfl⟩ fun hcl hbl=>?_
       (repeat' ((conv=>whnf);(first|(refine yai ?_;first|refine yas ?_|refine yaq rfl ?_|refine yau rfl ?_|refine ya1 (by omega) ?_|fail)|refine yco (by omega) ?_|refine yaf (by omega) ?_|refine yab _ (hname _) ?_|refine zay i _ _ _ _ hi rfl rfl (hn _) rfl ?_|refine zg4 rows_eq (zaa row0 op rfl h17 (fun _=>rfl) hrc ?_)|fail)));conv=>whnf
       exact za0 (by simp [Blk.below,zab,below]) trivial (yae _)
     | true =>
       by_cases h3:ln≤ra
       ·have h4:¬ mn=rs:=fun e=>h2 ⟨rfl,h3,e⟩
        refine fdG Tryz.func180 ⟨rfl,rfl,rfl⟩ fun hcl hbl=>?_
        (repeat' ((conv=>whnf);(first|(refine yai ?_;first|refine yas ?_|refine yaq rfl ?_|refine ya1 (by omega) ?_|fail)|refine yco (by omega) ?_|refine yaf (by omega) ?_|refine yab _ (hname _) ?_|refine zay i _ _ _ _ hi rfl rfl (hn _) rfl ?_|refine zg4 rows_eq (zaa row0 op rfl h17 (fun _=>rfl) hrc ?_)|fail)));conv=>whnf
        exact za0 (by simp [Blk.below,zab,below]) trivial (yae _)
       ·refine fdG Tryz.func180 ⟨rfl,rfl,rfl⟩ fun hcl hbl=>?_
        (repeat' ((conv=>whnf);(first|(refine yai ?_;first|refine yas ?_|refine yaq rfl ?_|refine yar (by omega) ?_|refine ya1 (by omega) ?_|fail)|refine yco (by omega) ?_|refine yaf (by omega) ?_|refine yab _ (hname _) ?_|refine zay i _ _ _ _ hi rfl rfl (hn _) rfl ?_|refine zg4 rows_eq (zaa row0 op rfl h17 (fun _=>rfl) hrc ?_)|fail)));conv=>whnf
        exact za0 (by simp [Blk.below,zab,below]) trivial (yae _)
mutual
theorem form_g:∀ x:Fo,x.good→FormP x
 | .mk op s l m,h=>form_step op s l m h.1 (zaz h.2.1) (zaz h.2.2.1) (zaz h.2.2.2.2.1) (terms_g l (zaz h.2.2.1) (terms_all l h.2.2.2.1)) (forms_all m h.2.2.2.2.2)
theorem forms_all:∀ l:List Fo,Fo.goodL l→∀ x∈l,FormP x
 | [],_,x,h=>by cases h
 | y::l,hg,x,h=>by
   have h1:=form_g y hg.1
   have h2:=forms_all l hg.2
   rcases yay.1 h with e|h
   ·exact e▸h1
   ·exact h2 x h
end
end
section
attribute [local irreducible] VW VCall VO bits
mutual
def tmR:Tm→Bool
 | .mk _ _ l=>decide (l.length≤1)&&tmRs l
def tmRs:List Tm→Bool
 | []=>true
 | x::l=>tmR x&&tmRs l
end
theorem zef:∀ l:List Tm,tmRs l=l.all tmR
 | []=>by unfold tmRs;rfl
 | x::l=>by
   rw [tmRs.eq_def]
   simp only [List.all_cons,zef l]
mutual
def foR:Fo→Bool
 | .mk op _ l m=>decide (1≤op∧op≤9∧l.length≤2)&&(tmRs l&&foRs m)
def foRs:List Fo→Bool
 | []=>true
 | x::l=>foR x&&foRs l
end
theorem foRs_all:∀ l:List Fo,foRs l=l.all foR
 | []=>by unfold foRs;rfl
 | x::l=>by
   rw [foRs.eq_def]
   simp only [List.all_cons,foRs_all l]
theorem jTs_true {d:Nat}:∀ {l:List Tm} {L:Int},(jTs d l L).2=true→∀ x∈l,∃ M,(jT d x M).2=true
 | y::l,L,h,x,hx=>by
   rw [zh9] at h
   split at h
   ·rename_i hb
    rcases yay.1 hx with e|hx
    ·exact ⟨L,e▸hb⟩
    ·exact jTs_true h x hx
   ·cases h
theorem zgz {d:Nat}:∀ {l:List Fo} {L:Int},(jFs d l L).2=true→∀ x∈l,∃ M,(jF d x M).2=true
 | y::l,L,h,x,hx=>by
   rw [zeq] at h
   split at h
   ·rename_i hb
    rcases yay.1 hx with e|hx
    ·exact ⟨L,e▸hb⟩
    ·exact zgz h x hx
   ·cases h
theorem tq_of:∀ (t:Tm) (d:Nat) (L:Int),(jT d t L).2=true→tmR t=true→∃ q:Tq,t=q.tm
 | .mk v s l,d,L,h1,h2=>by
   unfold tmR at h2
   rw [yak,decide_eq_true_eq,zef,yao] at h2
   obtain ⟨q1,q2⟩:=h2
   unfold jT at h1
   split at h1
   ·cases h1
   ·split at h1
    ·rename_i hv
     rw [yak,decide_eq_true_eq] at h1
     have hl:l=[]:=ya4 h1.1
     subst hl hv
     exact ⟨.vr s,rfl⟩
    ·rename_i hv
     have hv:v=false:=by simpa using hv
     subst hv
     split at h1
     ·match l,q1,q2,h1 with
      | [],_,_,_=>exact ⟨.cn s,rfl⟩
      | [a],_,q2,h1 =>
        obtain ⟨M,hM⟩:=jTs_true h1 a (by simp)
        obtain ⟨q,rfl⟩:=tq_of a _ M hM (q2 a (by simp))
        exact ⟨.ap s q,rfl⟩
     ·cases h1
theorem tqs_of:∀ l:List Tm,(∀ x∈l,∃ q:Tq,x=q.tm)→∃ m:List Tq,l=m.map Tq.tm
 | [],_=>⟨[],rfl⟩
 | x::l,h=>by
   obtain ⟨q,rfl⟩:=h x ybd
   obtain ⟨m,rfl⟩:=tqs_of l fun y hy=>h y (ya5 _ hy)
   exact ⟨q::m,rfl⟩
theorem row_fact:∀ op,1≤op∧op≤9→rowS op=(if op≤2 then 0 else if op=3∨8≤op then 1 else 2)∧rowN op=(if op=1 then 1 else if 8≤op then 2 else 0)∧(op≠1→rowA op=0):=by
 intro op h
 have:op=1∨op=2∨op=3∨op=4∨op=5∨op=6∨op=7∨op=8∨op=9:=by omega
 rcases this with rfl|rfl|rfl|rfl|rfl|rfl|rfl|rfl|rfl <;> decide
theorem emptyB_eq {s:ByteArray} (h:zfb s=true):s=.empty:=by
 unfold zfb at h
 exact ba_eq.1 h
theorem fq_of:∀ (f:Fo) (d:Nat) (L:Int),(jF d f L).2=true→foR f=true→∃ p:Fq,p.Ok∧f=p.fo
 | .mk op s l m,d,L,h1,h2=>by
   unfold foR at h2
   rw [yak,yak,decide_eq_true_eq,zef,foRs_all,yao,yao] at h2
   obtain ⟨⟨q1,q2,q3⟩,q4,q5⟩:=h2
   unfold jF at h1
   split at h1
   ·cases h1
   ·split at h1
    ·cases h1
    ·split at h1
     ·cases h1
     ·rename_i h3
      have h3:=Classical.not_not.1 h3
      obtain ⟨r1,r2,r3⟩:=row_fact op ⟨q1,q2⟩
      have hl:op≠1→l=[]:=fun e=>ya4 (by
       have:=h3.2.1
       rw [r3 e] at this
       omega)
      split at h1
      ·rename_i hts
       have hsub:=zgz h1
       have htm:=jTs_true hts
       have hm:=h3.2.2
       rw [r1] at hm
       rw [r2] at h3
       have hs:op≠1→¬ 8≤op→s=.empty:=fun e e2=>by
        have:=h3.1
        rw [if_neg e,if_neg e2] at this
        exact emptyB_eq (by simpa [zg9] using this)
       have hop:op=1∨op=2∨op=3∨(4≤op∧op≤7)∨8≤op:=by omega
       rcases hop with rfl|rfl|rfl|h4|h4
       ·have hm0:m=[]:=ya4 (by simpa using hm)
        subst hm0
        obtain ⟨k,rfl⟩:=tqs_of l fun x hx=>by
         obtain ⟨M,hM⟩:=htm x hx
         exact tq_of x _ M hM (q4 x hx)
        rw [yav] at q3
        exact ⟨.at_ s k,q3,rfl⟩
       ·have hm0:m=[]:=ya4 (by simpa using hm)
        rw [hl (by omega),hs (by omega) (by omega),hm0]
        exact ⟨.fa,trivial,rfl⟩
       ·rw [if_neg (by omega),if_pos (.inl rfl)] at hm
        rw [hl (by omega),hs (by omega) (by omega)]
        match m,hm with
        | [a],_ =>
          obtain ⟨M,hM⟩:=hsub a (by simp)
          obtain ⟨p,hp1,hp2⟩:=fq_of a _ M hM (q5 a (by simp))
          exact ⟨.f1 p,hp1,by rw [hp2];rfl⟩
       ·rw [if_neg (by omega),if_neg (by omega)] at hm
        rw [hl (by omega),hs (by omega) (by omega)]
        match m,hm with
        | [a,b],_ =>
          obtain ⟨M,hM⟩:=hsub a (by simp)
          obtain ⟨N,hN⟩:=hsub b (by simp)
          obtain ⟨p,hp1,hp2⟩:=fq_of a _ M hM (q5 a (by simp))
          obtain ⟨q,hq1,hq2⟩:=fq_of b _ N hN (q5 b (by simp))
          exact ⟨.f2 op p q,⟨by omega,hp1,hq1⟩,by rw [hp2,hq2];rfl⟩
       ·rw [if_neg (by omega),if_pos (.inr h4)] at hm
        rw [hl (by omega)]
        match m,hm with
        | [a],_ =>
          obtain ⟨M,hM⟩:=hsub a (by simp)
          obtain ⟨p,hp1,hp2⟩:=fq_of a _ M hM (q5 a (by simp))
          exact ⟨.qn op s p,⟨by omega,hp1⟩,by rw [hp2];rfl⟩
      ·cases h1
end
end Go.Proofs.YtgdmldelijeaoaaGreatDoor
namespace Go.Proofs.YtgdmldelijeaoaaGreatDoor
section
open Go.Shelf
def Tryz.cmp31_ren:Go.Shelf.Ren:=⟨fun|106=>151|213=>212|265=>243|n=>n,fun|9=>9|3=>3|n=>n,fun|n=>n⟩
theorem Tryz.cmp31:Go.Proofs.Lays.n106 Tryz.prog Tryz.cmp31_ren:={
 mixed:=by kernel_rfl
 f106:=Tryz.func151.trans (congrArg some (by kernel_rfl))
 f213:=Tryz.func212.trans (congrArg some (by kernel_rfl))
 f265:=Tryz.func243.trans (congrArg some (by kernel_rfl))
 t3:=Tryz.underlying3
 a3:=Tryz.isAgg3
 z3:=Tryz.sizeOf3
 v3:=Tryz.zeroValue3
 t9:=Tryz.underlying9
 a9:=Tryz.isAgg9
 z9:=Tryz.sizeOf9
 v9:=Tryz.zeroValue9 }
def Tryz.sortf87_ren:Go.Shelf.Ren:=⟨fun|6=>239|15=>249|14=>251|28=>263|29=>264|20=>265|21=>266|22=>267|23=>268|24=>269|25=>270|26=>271|27=>272|46=>287|47=>282|48=>283|49=>288|50=>289|57=>294|n=>n,fun|22=>56|24=>92|25=>187|3=>3|39=>194|0=>0|53=>262|55=>115|4=>4|46=>256|45=>255|50=>158|5=>5|9=>9|66=>274|70=>278|76=>284|77=>285|n=>n,fun|n=>n⟩
theorem zev:Go.Proofs.SlLaysF0.n6 Tryz.prog Tryz.sortf87_ren:={
 mixed:=by kernel_rfl
 f6:=⟨Tryz.f239.name,by decide,Tryz.func239.trans (congrArg some (by kernel_rfl))⟩
 f14:=⟨Tryz.f251.name,by decide,Tryz.func251.trans (congrArg some (by kernel_rfl))⟩
 f15:=Tryz.func249.trans (congrArg some (by kernel_rfl))
 f20:=⟨Tryz.f265.name,by decide,Tryz.func265.trans (congrArg some (by kernel_rfl))⟩
 f21:=⟨Tryz.f266.name,by decide,Tryz.func266.trans (congrArg some (by kernel_rfl))⟩
 f22:=⟨Tryz.f267.name,by decide,Tryz.func267.trans (congrArg some (by kernel_rfl))⟩
 f23:=⟨Tryz.f268.name,by decide,Tryz.func268.trans (congrArg some (by kernel_rfl))⟩
 f24:=⟨Tryz.f269.name,by decide,Tryz.func269.trans (congrArg some (by kernel_rfl))⟩
 f25:=⟨Tryz.f270.name,by decide,Tryz.func270.trans (congrArg some (by kernel_rfl))⟩
 f26:=⟨Tryz.f271.name,by decide,Tryz.func271.trans (congrArg some (by kernel_rfl))⟩
 f27:=⟨Tryz.f272.name,by decide,Tryz.func272.trans (congrArg some (by kernel_rfl))⟩
 f28:=Tryz.func263.trans (congrArg some (by kernel_rfl))
 f29:=Tryz.func264.trans (congrArg some (by kernel_rfl))
 f46:=⟨Tryz.f287.name,by decide,Tryz.func287.trans (congrArg some (by kernel_rfl))⟩
 f47:=Tryz.func282.trans (congrArg some (by kernel_rfl))
 f48:=Tryz.func283.trans (congrArg some (by kernel_rfl))
 f49:=⟨Tryz.f288.name,by decide,Tryz.func288.trans (congrArg some (by kernel_rfl))⟩
 f50:=⟨Tryz.f289.name,by decide,Tryz.func289.trans (congrArg some (by kernel_rfl))⟩
 f57:=⟨Tryz.f294.name,by decide,Tryz.func294.trans (congrArg some (by kernel_rfl))⟩
 t0:=Tryz.underlying0
 a0:=Tryz.isAgg0
 z0:=Tryz.sizeOf0
 v0:=Tryz.zeroValue0
 t3:=Tryz.underlying3
 a3:=Tryz.isAgg3
 z3:=Tryz.sizeOf3
 v3:=Tryz.zeroValue3
 t4:=Tryz.underlying4
 a4:=Tryz.isAgg4
 z4:=Tryz.sizeOf4
 v4:=Tryz.zeroValue4
 t5:=Tryz.underlying5
 a5:=Tryz.isAgg5
 z5:=Tryz.sizeOf5
 v5:=Tryz.zeroValue5
 t9:=Tryz.underlying9
 a9:=Tryz.isAgg9
 z9:=Tryz.sizeOf9
 v9:=Tryz.zeroValue9
 t22:=Tryz.underlying56
 a22:=Tryz.isAgg56
 z22:=Tryz.sizeOf56
 v22:=Tryz.zeroValue56
 t25:=Tryz.underlying187
 a25:=Tryz.isAgg187
 z25:=Tryz.sizeOf187
 v25:=Tryz.zeroValue187
 t39:=Tryz.underlying194
 a39:=Tryz.isAgg194
 z39:=Tryz.sizeOf194
 v39:=Tryz.zeroValue194
 t45:=Tryz.underlying255
 a45:=Tryz.isAgg255
 z45:=Tryz.sizeOf255
 v45:=Tryz.zeroValue255
 t46:=Tryz.underlying256
 a46:=Tryz.isAgg256
 z46:=Tryz.sizeOf256
 v46:=Tryz.zeroValue256
 t50:=Tryz.underlying158
 a50:=Tryz.isAgg158
 z50:=Tryz.sizeOf158
 v50:=Tryz.zeroValue158
 t53:=Tryz.underlying262
 a53:=Tryz.isAgg262
 z53:=Tryz.sizeOf262
 v53:=Tryz.zeroValue262
 t55:=Tryz.underlying115
 a55:=Tryz.isAgg115
 z55:=Tryz.sizeOf115
 v55:=Tryz.zeroValue115
 t66:=Tryz.underlying274
 a66:=Tryz.isAgg274
 z66:=Tryz.sizeOf274
 v66:=Tryz.zeroValue274
 t70:=Tryz.underlying278
 a70:=Tryz.isAgg278
 z70:=Tryz.sizeOf278
 v70:=Tryz.zeroValue278
 t76:=Tryz.underlying284
 a76:=Tryz.isAgg284
 z76:=Tryz.sizeOf284
 v76:=Tryz.zeroValue284
 t77:=Tryz.underlying285
 a77:=Tryz.isAgg285
 z77:=Tryz.sizeOf285
 v77:=Tryz.zeroValue285 }
end
end Go.Proofs.YtgdmldelijeaoaaGreatDoor
namespace Go.Proofs.YtgdmldelijeaoaaGreatDoor
open Go.Vsi
def cmpI (a b:Int):Int:=if a<b then -1 else if b<a then 1 else 0
def cmpB (a b:ByteArray):Int:=if a.data.toList<b.data.toList then -1 else if b.data.toList<a.data.toList then 1 else 0
def andC (c d:Int):Int:=if c=0 then d else c
structure OrdAt {α:Type} (c:α→α→Int) (a:α):Prop where
 rng:∀ b,c a b=-1∨c a b=0∨c a b=1
 anti:∀ b,c b a=- c a b
 eq:∀ b,c a b=0→a=b
 refl:c a a=0
 tr:∀ b d,c a b≤0→c b d≤0→c a d≤0∧(c a d=0→c a b=0∧c b d=0)
theorem and_rng {c d:Int} (h1:c=-1∨c=0∨c=1) (h2:d=-1∨d=0∨d=1):andC c d=-1∨andC c d=0∨andC c d=1:=by
 unfold andC;split <;> assumption
theorem and_neg (c d:Int):andC (-c) (-d)=- andC c d:=by
 unfold andC
 by_cases h:c=0
 ·rw [if_pos h,if_pos (by omega)]
 ·rw [if_neg h,if_neg (by omega)]
theorem and_zero {c d:Int}:andC c d=0↔c=0∧d=0:=by
 unfold andC;split
 ·exact ⟨fun h=>⟨by assumption,h⟩,fun h=>h.2⟩
 ·exact ⟨fun h=>absurd h (by assumption),fun h=>h.1⟩
theorem and_tr {c1 c2 c3 d1 d2 d3:Int} (hc:c1≤0→c2≤0→c3≤0∧(c3=0→c1=0∧c2=0)) (hc0:c1=0→c2=0→c3=0) (hd:c1=0→c2=0→d1≤0→d2≤0→d3≤0∧(d3=0→d1=0∧d2=0)) (h1:andC c1 d1≤0) (h2:andC c2 d2≤0) :
  andC c3 d3≤0∧(andC c3 d3=0→andC c1 d1=0∧andC c2 d2=0):=by
 unfold andC at *
 by_cases e1:c1=0
 ·by_cases e2:c2=0
  ·have e3:=hc0 e1 e2
   rw [if_pos e1] at h1 ⊢
   rw [if_pos e2] at h2 ⊢
   rw [if_pos e3]
   exact hd e1 e2 h1 h2
  ·rw [if_pos e1] at h1 ⊢
   rw [if_neg e2] at h2 ⊢
   have:=hc (by omega) h2
   have e3:c3≠0:=fun h=>e2 (this.2 h).2
   rw [if_neg e3]
   exact ⟨this.1,fun h=>absurd h e3⟩
 ·rw [if_neg e1] at h1 ⊢
  have h2':c2≤0:=by
   by_cases e2:c2=0
   ·omega
   ·rw [if_neg e2] at h2;exact h2
  have:=hc h1 h2'
  have e3:c3≠0:=fun h=>e1 (this.2 h).1
  rw [if_neg e3]
  exact ⟨this.1,fun h=>absurd h e3⟩
theorem ordI (a:Int):OrdAt cmpI a:=⟨fun b=>by unfold cmpI;split <;> (try split) <;> omega,fun b=>by unfold cmpI;repeat' split <;> omega,fun b h=>by unfold cmpI at h;split at h <;> (try split at h) <;> omega,by unfold cmpI;split <;> (try split) <;> omega,fun b d h1 h2=>by
 have ha:a≤b:=by unfold cmpI at h1;split at h1 <;> (try split at h1) <;> omega
 have hb:b≤d:=by unfold cmpI at h2;split at h2 <;> (try split at h2) <;> omega
 refine ⟨by unfold cmpI;split <;> (try split) <;> omega,fun h=>?_⟩
 have:a=d:=by unfold cmpI at h;split at h <;> (try split at h) <;> omega
 obtain rfl:a=b:=by omega
 obtain rfl:a=d:=by omega
 unfold cmpI
 simp⟩
theorem lt_asymmL {a b:List UInt8} (h:a<b):¬ b<a:=List.lt_asymm h
theorem cmpB_zero {a b:ByteArray}:cmpB a b=0↔a=b:=by
 constructor
 ·intro h
  unfold cmpB at h
  split at h
  ·cases h
  ·split at h
   ·cases h
   ·rename_i h1 h2
    have:a.data.toList=b.data.toList:=List.le_antisymm (List.not_lt.1 h2) (List.not_lt.1 h1)
    obtain ⟨⟨x⟩⟩:=a
    obtain ⟨⟨y⟩⟩:=b
    simp only at this
    rw [this]
 ·rintro rfl
  unfold cmpB
  rw [if_neg (List.lt_irrefl _),if_neg (List.lt_irrefl _)]
theorem cmpB_le {a b:ByteArray}:cmpB a b≤0↔a.data.toList≤b.data.toList:=by
 unfold cmpB
 constructor
 ·intro h
  split at h
  ·exact List.le_of_lt (by assumption)
  ·split at h
   ·omega
   ·exact List.not_lt.1 (by assumption)
 ·intro h
  split
  ·omega
  ·rw [if_neg (List.not_lt.2 h)]
   omega
theorem ordB (a:ByteArray):OrdAt cmpB a:=⟨fun b=>by unfold cmpB;split <;> (try split) <;> omega,fun b=>by
  unfold cmpB
  by_cases h1:a.data.toList<b.data.toList
  ·rw [if_neg (lt_asymmL h1),if_pos h1,if_pos h1]
   rfl
  ·rw [if_neg h1,if_neg h1]
   split <;> rfl,fun b h=>cmpB_zero.1 h,cmpB_zero.2 rfl,fun b d h1 h2=>by
 refine ⟨cmpB_le.2 (List.le_trans (cmpB_le.1 h1) (cmpB_le.1 h2)),fun h=>?_⟩
 obtain rfl:=cmpB_zero.1 h
 have:a=b:=by
  have h3:a.data.toList=b.data.toList:=List.le_antisymm (cmpB_le.1 h1) (cmpB_le.1 h2)
  obtain ⟨⟨x⟩⟩:=a
  obtain ⟨⟨y⟩⟩:=b
  simp only at h3
  rw [h3]
 subst this
 exact ⟨cmpB_zero.2 rfl,cmpB_zero.2 rfl⟩⟩
theorem ordP {α β:Type} {c:α→α→Int} {d:β→β→Int} {a:α} {b:β} (h1:OrdAt c a) (hr:∀ a,c a a=0) (h2:OrdAt d b):OrdAt (fun p q:α×β=>andC (c p.1 q.1) (d p.2 q.2)) (a,b) :=
 ⟨fun q=>and_rng (h1.rng _) (h2.rng _),fun q=>by
  show andC (c q.1 a) (d q.2 b)=- andC (c a q.1) (d b q.2)
  rw [h1.anti,h2.anti,and_neg],fun q h=>by
  obtain ⟨e1,e2⟩:=and_zero.1 h
  exact Prod.ext (h1.eq _ e1) (h2.eq _ e2),and_zero.2 ⟨h1.refl,h2.refl⟩,fun q r e1 e2=>and_tr (h1.tr _ _) (fun z1 z2=>by
   have:=h1.eq _ z1
   rw [this]
   exact z2) (fun z1 z2=>h2.tr _ _) e1 e2⟩
theorem ordF {α β:Type} {c:α→α→Int} {d:β→β→Int} (f:α→β) (hi:∀ x y,f x=f y→x=y) (he:∀ x y,c x y=d (f x) (f y)) {a:α} (h:OrdAt d (f a)):OrdAt c a :=
 ⟨fun b=>by rw [he];exact h.rng _,fun b=>by rw [he,he];exact h.anti _,fun b e=>hi _ _ (h.eq _ (by rw [← he];exact e)),by rw [he];exact h.refl,fun b e e1 e2=>by
  rw [he] at e1 e2
  rw [he,he,he]
  exact h.tr _ _ e1 e2⟩
section
theorem cmpb_eq:∀ a b:List UInt8,Lib.compareBytes a b=if a<b then -1 else if b<a then 1 else 0
 | [],[]=>by simp [Lib.compareBytes]
 | [],_::_=>by simp [Lib.compareBytes]
 | _::_,[]=>by simp [Lib.compareBytes]
 | a::xs1,b::ys1=>by
   unfold Lib.compareBytes
   rw [cmpb_eq xs1 ys1]
   simp only [List.cons_lt_cons_iff]
   by_cases h1:a<b
   ·rw [if_pos h1,if_pos (.inl h1)]
   ·rw [if_neg h1]
    by_cases h2:b<a
    ·rw [if_pos h2,if_neg (fun h=>h.elim h1 fun h=>absurd (h.1▸h2) (by simp [UInt8.lt_irrefl])),if_pos (.inl h2)]
    ·rw [if_neg h2]
     have hab:a=b:=by
      apply UInt8.toNat_inj.1
      have h1:¬ a.toNat<b.toNat:=h1
      have h2:¬ b.toNat<a.toNat:=h2
      omega
     subst hab
     simp only [h1,false_or,true_and]
theorem strCmp_c (a b:ByteArray) (H:Heap):VDet Tryz.prog 151 [.str a,.str b] H (.int .i64 (cmpB a b)):=by
 refine ⟨⟨_,Tryz.func151,by kernel_rfl,rfl⟩,fun g w xs hH hL=>?_⟩
 simp only [LRel,VRel] at hL
 obtain ⟨c,r,has,rfl,d,r2,rfl,rfl,rfl⟩:=hL
 have has:xs=#[.string a,.string b]:=by simpa using congrArg List.toArray has
 subst has
 have hc:=Any.strings_Compare Tryz.cmp31 a b w
 change Calls Tryz.prog 151 _ _ _ at hc
 refine hc.mono ?_
 rintro e w' ⟨rfl,rfl⟩
 refine ⟨_,_,g,_,rfl,⟨rfl,rfl⟩,hH,?_,ycw _ _⟩
 simp only [VRel]
 rw [cmpb_eq]
 rfl
attribute [local irreducible] VW VCall VO bits
end
end Go.Proofs.YtgdmldelijeaoaaGreatDoor
namespace Go.Proofs.YtgdmldelijeaoaaGreatDoor
section
open Go.Shelf Go.RowKit Go.Lib Go.Sort
theorem nan84_k (x:Int) (W:World):Calls Tryz.prog 241 #[.int .i64 x] W fun e w'=>e=.returned (.bool false)∧w'=W:=by
 go_enter Tryz.func241,Tryz.ntmps241
 go_wp2_with fail
 go_ret
 simp
theorem cmp62_k (x y:Int) (W:World):Calls Tryz.prog 210 #[.int .i64 x,.int .i64 y] W fun e w'=>e=.returned (.int .i64 (cmpI x y))∧w'=W:=by
 have hcon:=nan84_k
 unfold cmpI
 by_cases h1:x<y
 ·rw [if_pos h1]
  go_enter Tryz.func210,Tryz.ntmps210
  go_wp2_with (go_at_call 241;refine (hcon _ _).mono ?_;rintro e w' ⟨rfl,rfl⟩)
  all_goals (try simp [h1])
  all_goals go_ret
  all_goals exact ⟨rfl,rfl⟩
 ·rw [if_neg h1]
  by_cases h2:y<x
  ·rw [if_pos h2]
   go_enter Tryz.func210,Tryz.ntmps210
   go_wp2_with (go_at_call 241;refine (hcon _ _).mono ?_;rintro e w' ⟨rfl,rfl⟩)
   all_goals (try simp [h1,h2])
   all_goals go_ret
   all_goals exact ⟨rfl,rfl⟩
  ·rw [if_neg h2]
   go_enter Tryz.func210,Tryz.ntmps210
   go_wp2_with (go_at_call 241;refine (hcon _ _).mono ?_;rintro e w' ⟨rfl,rfl⟩)
   all_goals (try simp [h1,h2])
   all_goals go_ret
   all_goals exact ⟨rfl,rfl⟩
theorem cmp31_k (a b:ByteArray) (W:World):Calls Tryz.prog 151 #[.string a,.string b] W fun e w'=>e=.returned (.int .i64 (cmpB a b))∧w'=W:=by
 have hc:=Any.strings_Compare Tryz.cmp31 a b W
 change Calls Tryz.prog 151 _ _ _ at hc
 refine hc.mono ?_
 rintro e w' ⟨rfl,rfl⟩
 refine ⟨?_,rfl⟩
 rw [cmpb_eq]
 rfl
def symV (x:ByteArray×Nat):List Value:=[.string x.1,.int .i64 (x.2:Nat)]
def cSym (x y:ByteArray×Nat):Int:=andC (cmpB x.1 y.1) (cmpI (x.2:Nat) (y.2:Nat))
theorem clo76_k (x y:ByteArray×Nat) (W:World):Calls Tryz.prog 237 #[.agg #[.string x.1,.int .i64 (x.2:Nat)],.agg #[.string y.1,.int .i64 (y.2:Nat)]] W fun e w'=>e=.returned (.int .i64 (cSym x y))∧∃ q os',w'=grow (W.drewN q) os':=by
 have hs:=cmp31_k x.1 y.1
 have hi:=cmp62_k (x.2:Nat) (y.2:Nat)
 unfold cSym andC
 generalize cmpB x.1 y.1=c at *
 generalize cmpI (x.2:Nat) (y.2:Nat)=d at *
 by_cases h0:c=0
 ·rw [if_pos h0]
  go_enter Tryz.func237,Tryz.ntmps237
  go_wp2_with (first|(go_at_call 151;refine (hs _).mono ?_;rintro e w' ⟨rfl,rfl⟩)|(go_at_call 210;refine (hi _).mono ?_;rintro e w' ⟨rfl,rfl⟩))
  all_goals (try simp [h0])
  all_goals go_ret
  all_goals exact ⟨rfl,0,_,by rw [alloc_eq_grow,alloc_eq_grow,grow_grow];rfl⟩
 ·rw [if_neg h0]
  go_enter Tryz.func237,Tryz.ntmps237
  go_wp2_with (first|(go_at_call 151;refine (hs _).mono ?_;rintro e w' ⟨rfl,rfl⟩)|(go_at_call 210;refine (hi _).mono ?_;rintro e w' ⟨rfl,rfl⟩))
  all_goals (try simp [h0])
  all_goals go_ret
  all_goals exact ⟨rfl,0,_,by rw [alloc_eq_grow,alloc_eq_grow,grow_grow];rfl⟩
theorem clo76_lays (blk off size:Nat) (w:World):CmpLays Tryz.prog 237 #[] symV 2 cSym blk off size w :=
 fun _ _ _ _ x y=>clo76_k x y _
end
end Go.Proofs.YtgdmldelijeaoaaGreatDoor
namespace Go.Proofs.YtgdmldelijeaoaaGreatDoor
open Go.Vsi
section
attribute [local irreducible] VW VCall VO bits
def tm0:Tm:=.mk false .empty []
def fo0:Fo:=.mk 0 .empty [] []
theorem tm_ex (x:Tm):∃ v s l,x=.mk v s l:=by cases x with|mk v s l=>exact ⟨v,s,l,rfl⟩
theorem fo_ex (x:Fo):∃ o s l m,x=.mk o s l m:=by cases x with|mk o s l m=>exact ⟨o,s,l,m,rfl⟩
end
section
theorem drop_cons {α:Type} (l:List α) (d:α) (j:Nat) (h:j<l.length):l.drop j=l.getD j d::l.drop (j+1):=by
 rw [List.drop_eq_getElem_cons h]
 simp [ybr,h]
attribute [local irreducible] VW VCall VO bits
end
section
def foldE {S α:Type} (step:S→α→S×Bool):S→List α→S×Bool
 | s,[]=>(s,true)
 | s,x::l=>if (step s x).2 then foldE step (step s x).1 l else ((step s x).1,false)
theorem zc7 {S α:Type} (step:S→α→S×Bool) (s:S) (x:α) (l:List α):foldE step s (x::l)=if (step s x).2 then foldE step (step s x).1 l else ((step s x).1,false):=rfl
theorem zgo {S α:Type} (step:S→α→S×Bool):∀ (l m:List α) (s:S),foldE step s (l++m)=if (foldE step s l).2 then foldE step (foldE step s l).1 m else ((foldE step s l).1,false)
 | [],m,s=>rfl
 | x::l,m,s=>by
   rw [ycr,zc7,zc7]
   split
   ·exact zgo step l m _
   ·rfl
mutual
def tpart:Tm→List Tm
 | .mk v s l=>.mk v s l::tparts l
def tparts:List Tm→List Tm
 | []=>[]
 | x::l=>tpart x++tparts l
end
theorem zfd (x:Tm) (l:List Tm):tparts (x::l)=tpart x++tparts l:=by rw [tparts.eq_def]
theorem zcx:tparts []=[]:=by rw [tparts.eq_def]
theorem zhv (v:Bool) (s:ByteArray) (l:List Tm):tpart (.mk v s l)=.mk v s l::tparts l:=by rw [tpart.eq_def]
mutual
def fpart:Fo→List Fo
 | .mk o s l m=>.mk o s l m::fparts m
def fparts:List Fo→List Fo
 | []=>[]
 | x::l=>fpart x++fparts l
end
theorem zce (x:Fo) (l:List Fo):fparts (x::l)=fpart x++fparts l:=by rw [fparts.eq_def]
theorem zb1:fparts []=[]:=by rw [fparts.eq_def]
theorem zcz (o:Nat) (s:ByteArray) (l:List Tm) (m:List Fo):fpart (.mk o s l m)=.mk o s l m::fparts m:=by rw [fpart.eq_def]
mutual
theorem tpart_good:∀ x:Tm,x.good→∀ y∈tpart x,y.good
 | .mk v s l,h=>by
   have h1:=zhh l h.2.2
   intro y hy
   rw [zhv] at hy
   rcases yay.1 hy with e|hy
   ·exact e▸h
   ·exact h1 y hy
theorem zhh:∀ l:List Tm,Tm.goodL l→∀ y∈tparts l,y.good
 | [],_,y,hy=>by rw [zcx] at hy;cases hy
 | x::l,h,y,hy=>by
   have h1:=tpart_good x h.1
   have h2:=zhh l h.2
   rw [zfd] at hy
   rcases ybl.1 hy with hy|hy
   ·exact h1 y hy
   ·exact h2 y hy
end
structure Vis {S α:Type} (F:Fn) (cs:List AV) (cell:α→List AV) (ok:α→Prop) (hp:S→Heap) (N:Nat) (I R:S→Prop) (step:S→α→S×Bool):Prop where
 ri:∀ s,R s→I s
 len:∀ s,I s→(hp s).length=N
 low:∀ s,I s→∀ B∈hp s,B.below N
 pres:∀ s x,R s→ok x→I (step s x).1∧((step s x).2=true→R (step s x).1)
 call:∀ s x Y,R s→ok x→VFn Tryz.prog F (.agg (cell x)::cs) (hp s++Y) (fun r H'=>r=.bool (step s x).2∧H'=hp (step s x).1++Y)
theorem Vis.fold {S α:Type} {F:Fn} {cs:List AV} {cell:α→List AV} {ok:α→Prop} {hp:S→Heap} {N:Nat} {I R:S→Prop} {step:S→α→S×Bool} (h:Vis F cs cell ok hp N I R step):∀ (l:List α) (s:S),(∀ x∈l,ok x)→R s→I (foldE step s l).1∧((foldE step s l).2=true→R (foldE step s l).1)
 | [],s,_,hs=>⟨h.ri s hs,fun _=>hs⟩
 | x::l,s,hl,hs=>by
   have h1:=h.pres s x hs (hl x (ybd ..))
   rw [zc7]
   split
   ·rename_i hb
    exact Vis.fold h l _ (fun y hy=>hl y (ya5 _ hy)) (h1.2 hb)
   ·exact ⟨h1.1,fun h=>by cases h⟩
theorem Vis.closed {S α:Type} {F:Fn} {cs:List AV} {cell:α→List AV} {ok:α→Prop} {hp:S→Heap} {N:Nat} {I R:S→Prop} {step:S→α→S×Bool} (h:Vis F cs cell ok hp N I R step) {s0:S} (h0:I s0) {X:Heap} (hc:zde (hp s0++X)) (s:S) (hs:I s):zde (hp s++X):=fun j B hj=>by
 have e:(hp s++X).length=(hp s0++X).length:=by simp [h.len s hs,h.len s0 h0]
 rcases yag j (hp s).length with hlt|hge
 ·rw [yaj hlt] at hj
  exact ydp (by simp [h.len s hs]) (h.low s hs B (ycs hj))
 ·rw [yam hge] at hj
  rw [e]
  refine hc (N+(j-N)) B ?_
  rw [yam (by rw [h.len s0 h0];omega),h.len s0 h0]
  rw [h.len s hs] at hj
  rw [show N+(j-N)-N=j-N by omega]
  exact hj
attribute [local irreducible] VW VCall VO bits
def VisT {S:Type} (k:FuncId) (cs:List AV) (hp:S→Heap) (R:S→Prop) (step:S→Tm→S×Bool) (x:Tm):Prop:=∀ (v:Bool) (t:ByteArray) (l:List Tm),x=.mk v t l→∀ s X,R s→VCall Tryz.prog 204 [.sl none l.length (l.flatMap Tm.cells),.clo (.func k) [] cs] (hp s++X) (fun r H'=>r=.bool (foldE step s (tparts l)).2∧H'=hp (foldE step s (tparts l)).1++X)
theorem visTs_c {S:Type} {k:FuncId} {cs:List AV} {hp:S→Heap} {N:Nat} {I R:S→Prop} {step:S→Tm→S×Bool} (hv:Vis (.func k) cs Tm.cells Tm.good hp N I R step) (hcs:cs.length≤2) (l:List Tm) (hl:l.length≤9223372036854775807) (hg:Tm.goodL l) (h:∀ x∈l,VisT k cs hp R step x) (s0:S) (X:Heap) (hs0:R s0) :
  VCall Tryz.prog 204 [.sl none l.length (l.flatMap Tm.cells),.clo (.func k) [] cs] (hp s0++X) (fun r H'=>r=.bool (foldE step s0 (tparts l)).2∧H'=hp (foldE step s0 (tparts l)).1++X):=by
 have hI0:=hv.ri s0 hs0
 generalize hr:foldE step s0 (tparts l)=r
 refine fdG Tryz.func204 ⟨rfl,rfl,rfl⟩ fun hcl hbl=>?_
 conv=>whnf
 have hlen:∀ s,I s→(hp s++X).length=(hp s0++X).length:=fun s hs=>by simp [hv.len s hs,hv.len s0 hI0]
 refine zd8 Tryz.E0 zag (σ:=Nat×S) (fun p=>p.1≤l.length∧R p.2∧foldE step p.2 (tparts (l.drop p.1))=r) (fun p=>l.length-p.1) (fun p=>[(9,.v (.int .i64 p.1))]) (fun p=>hp p.2++X) (fun _=>[]) _ (0,s0) (fun p hp'=>hlen _ (hv.ri _ hp'.2.1)) (fun p hp'=>hv.closed hI0 hcl _ (hv.ri _ hp'.2.1)) [1,7,8] rfl ⟨yah _,hs0,hr⟩ ⟨⟨_,rfl,yae _⟩,trivial⟩ rfl rfl (fun _ _=>rfl) ?_
 rintro ⟨j,s⟩ ⟨hj,hs,hinv⟩
 simp only at hj hs hinv
 clear hbl
 by_cases hlt:j<l.length
 ·obtain ⟨v,t,a,e1⟩:=tm_ex (l.getD j tm0)
  have hgx:=Tm.goodL_mem hg _ (zar l j tm0 hlt)
  have hx:=h _ (zar l j tm0 hlt) v t a e1
  have q1:(l.getD j tm0).cells=[.bool v,.str t,.sl none a.length (a.flatMap Tm.cells)]:=by rw [e1,zav]
  rw [drop_cons l tm0 j hlt,zfd,zgo,e1,zhv,zc7] at hinv
  rw [e1] at hgx
  have hc:=fun Y=>hv.call s (.mk v t a) Y hs hgx
  have hp1:=hv.pres s (.mk v t a) hs hgx
  rw [zav] at hc
  generalize step s (.mk v t a)=st at *
  obtain ⟨s1,b1⟩:=st
  simp only at hc hp1 hinv
  have hc2:∀ Y,VFn Tryz.prog (.func k) (.agg [.bool v,.str t,.sl none a.length (a.flatMap Tm.cells)]::cs) ((hp s++X)++Y) (fun r H'=>r=.bool b1∧H'=(hp s1++X)++Y):=fun Y=>by
   have:=hc (X++Y)
   simpa only [ybf] using this
  cases b1 with
  | false =>
    simp only [yba,if_false] at hinv
    subst hinv
    (repeat' ((conv=>whnf);(first|(refine yai ?_;first|refine yas ?_|refine yau rfl ?_|refine yar (by omega) ?_|fail)|(refine yaf ?_ ?_;· first|omega|exact yaa _ _|fail)|refine zaa tm0 j rfl hlt zba q1 ?_|refine ycv _ _ _ _ (hc2 _) (hlen _ hp1.1) rfl ?_|fail)));conv=>whnf
    refine .cut (hlen _ hp1.1) (fun i B hB=>.inr ?_) ⟨_,_,.refl _,yae _,trivial,rfl,rfl⟩
    rw [← hlen _ hp1.1]
    exact hv.closed hI0 hcl _ hp1.1 i B hB
  | true =>
    simp only [if_true] at hinv
    have hR1:=hp1.2 rfl
    have hfo:=hv.fold (tparts a) s1 (zhh a hgx.2.2) hR1
    have hx2:∀ Y,VCall Tryz.prog 204 [.sl none a.length (a.flatMap Tm.cells),.clo (.func k) [] cs] ((hp s1++X)++Y) (fun r H'=>r=.bool (foldE step s1 (tparts a)).2∧H'=(hp (foldE step s1 (tparts a)).1++X)++Y):=fun Y=>by
     have:=hx s1 (X++Y) hR1
     simpa only [ybf] using this
    generalize foldE step s1 (tparts a)=st at *
    obtain ⟨s2,b2⟩:=st
    simp only at hx2 hfo hinv
    cases b2 with
    | false =>
      simp only [yba,if_false] at hinv
      subst hinv
      (repeat' ((conv=>whnf);(first|(refine yai ?_;first|refine yas ?_|refine yaq rfl ?_|refine yau rfl ?_|refine yar (by omega) ?_|fail)|(refine yaf ?_ ?_;· first|omega|exact yaa _ _|fail)|refine zaa tm0 j rfl hlt zba q1 ?_|refine ycv _ _ _ _ (hc2 _) (hlen _ hp1.1) rfl ?_|refine ycv _ _ _ _ (hx2 _) (hlen _ hfo.1) rfl ?_|fail)));conv=>whnf
      refine .cut (hlen _ hfo.1) (fun i B hB=>.inr ?_) ⟨_,_,.refl _,yae _,trivial,rfl,rfl⟩
      rw [← hlen _ hfo.1]
      exact hv.closed hI0 hcl _ hfo.1 i B hB
    | true =>
      simp only [if_true] at hinv
      (repeat' ((conv=>whnf);(first|(refine yai ?_;first|refine yas ?_|refine yaq rfl ?_|refine yar (by omega) ?_|fail)|(refine zad _ _ Cst.h Cst.h ?_ ?_;· omega)|(refine yaf ?_ ?_;· first|omega|exact yaa _ _|fail)|refine zaa tm0 j rfl hlt zba q1 ?_|refine ycv _ _ _ _ (hc2 _) (hlen _ hp1.1) rfl ?_|refine ycv _ _ _ _ (hx2 _) (hlen _ hfo.1) rfl ?_|fail)));conv=>whnf
      (refine ⟨⟨(j+1,s2),⟨by show j+1≤l.length;omega,hfo.2 rfl,hinv⟩,by omega,?_,.inl ⟨rfl,rfl⟩,rfl,_,rfl,?_⟩⟩;rotate_left 1;exact .inr ⟨by simp [zaw,below,zab,tr,zal,zan],by simp [zbe,Blk.below,zab,below,zal,zan]⟩;exact ⟨⟨_,rfl,yae _⟩,trivial⟩)
 ·rw [yda (by omega),zcx] at hinv
  subst hinv
  (repeat' ((conv=>whnf);(first|refine ya1 (by omega) ?_|fail)));conv=>whnf
  refine .cut (hlen _ (hv.ri _ hs)) (fun i B hB=>.inr ?_) ⟨_,_,.refl _,yae _,trivial,rfl,rfl⟩
  rw [← hlen _ (hv.ri _ hs)]
  exact hv.closed hI0 hcl _ (hv.ri _ hs) i B hB
mutual
theorem visT_g {S:Type} {k:FuncId} {cs:List AV} {hp:S→Heap} {N:Nat} {I R:S→Prop} {step:S→Tm→S×Bool} (hv:Vis (.func k) cs Tm.cells Tm.good hp N I R step) (hcs:cs.length≤2):∀ x:Tm,x.good→VisT k cs hp R step x
 | .mk v s l,h=>by
   have h1:=visTs_g hv hcs l h.2.2
   intro v' s' l' e st X hs
   cases e
   exact visTs_c hv hcs l (zaz h.2.1) h.2.2 h1 st X hs
theorem visTs_g {S:Type} {k:FuncId} {cs:List AV} {hp:S→Heap} {N:Nat} {I R:S→Prop} {step:S→Tm→S×Bool} (hv:Vis (.func k) cs Tm.cells Tm.good hp N I R step) (hcs:cs.length≤2):∀ l:List Tm,Tm.goodL l→∀ x∈l,VisT k cs hp R step x
 | [],_,x,h=>by cases h
 | y::l,hg,x,h=>by
   have h1:=visT_g hv hcs y hg.1
   have h2:=visTs_g hv hcs l hg.2
   rcases yay.1 h with e|h
   ·exact e▸h1
   ·exact h2 x h
end
theorem visitTerms_c {S:Type} {k:FuncId} {cs:List AV} {hp:S→Heap} {N:Nat} {I R:S→Prop} {step:S→Tm→S×Bool} (hv:Vis (.func k) cs Tm.cells Tm.good hp N I R step) (hcs:cs.length≤2) (l:List Tm) (hl:l.length≤9223372036854775807) (hg:Tm.goodL l) (s:S) (X:Heap) (hs:R s) :
  VCall Tryz.prog 204 [.sl none l.length (l.flatMap Tm.cells),.clo (.func k) [] cs] (hp s++X) (fun r H'=>r=.bool (foldE step s (tparts l)).2∧H'=hp (foldE step s (tparts l)).1++X) :=
 visTs_c hv hcs l hl hg (visTs_g hv hcs l hg) s X hs
structure Clo (ok:Fo→Prop):Prop where
 good:∀ x,ok x→x.good
 sub:∀ o s l m,ok (.mk o s l m)→∀ y∈m,ok y
mutual
theorem Clo.part {ok:Fo→Prop} (hk:Clo ok):∀ x:Fo,ok x→∀ y∈fpart x,ok y
 | .mk o s l m,h=>by
   have h1:=Clo.parts hk m (hk.sub o s l m h)
   intro y hy
   rw [zcz] at hy
   rcases yay.1 hy with e|hy
   ·exact e▸h
   ·exact h1 y hy
theorem Clo.parts {ok:Fo→Prop} (hk:Clo ok):∀ l:List Fo,(∀ x∈l,ok x)→∀ y∈fparts l,ok y
 | [],_,y,hy=>by rw [zb1] at hy;cases hy
 | x::l,h,y,hy=>by
   have h1:=Clo.part hk x (h x (ybd ..))
   have h2:=Clo.parts hk l fun z hz=>h z (ya5 _ hz)
   rw [zce] at hy
   rcases ybl.1 hy with hy|hy
   ·exact h1 y hy
   ·exact h2 y hy
end
theorem clo_good:Clo Fo.good:=⟨fun _ h=>h,fun _ _ _ _ h=>Fo.goodL_mem h.2.2.2.2.2⟩
def VisF {S:Type} (F:Fn) (hp:S→Heap) (R:S→Prop) (step:S→Fo→S×Bool) (x:Fo):Prop:=∀ s X,R s→VCall Tryz.prog 236 [.agg x.cells,.clo F [] []] (hp s++X) (fun r H'=>r=.bool (foldE step s (fpart x)).2∧H'=hp (foldE step s (fpart x)).1++X)
theorem visF_step {S:Type} {F:Fn} {hp:S→Heap} {N:Nat} {I R:S→Prop} {step:S→Fo→S×Bool} {ok:Fo→Prop} (hk:Clo ok) (hv:Vis F [] Fo.cells ok hp N I R step) (o:Nat) (t:ByteArray) (a:List Tm) (l:List Fo) (hgk:ok (Fo.mk o t a l)) (h:∀ x∈l,VisF F hp R step x):VisF F hp R step (.mk o t a l):=by
 intro s0 X hs0
 have hI0:=hv.ri s0 hs0
 have hg:=hk.good _ hgk
 have hl:=zaz hg.2.2.2.2.1
 have hc:=fun Y=>hv.call s0 (.mk o t a l) Y hs0 hgk
 have hp1:=hv.pres s0 (.mk o t a l) hs0 hgk
 rw [zcz,zc7]
 rw [zaq] at hc ⊢
 generalize step s0 (.mk o t a l)=st at *
 obtain ⟨s1,b1⟩:=st
 simp only at hc hp1 ⊢
 have hlen:∀ s,I s→(hp s++X).length=(hp s0++X).length:=fun s hs=>by simp [hv.len s hs,hv.len s0 hI0]
 have hc2:∀ Y,VFn Tryz.prog F (.agg [.int .u8 o,.str t,.sl none a.length (a.flatMap Tm.cells),.sl none l.length (l.flatMap Fo.cells)]::[]) ((hp s0++X)++Y) (fun r H'=>r=.bool b1∧H'=(hp s1++X)++Y):=fun Y=>by
  have:=hc (X++Y)
  simpa only [ybf] using this
 cases b1 with
 | false =>
   rw [if_neg (by simp)]
   simp only
   refine fdG Tryz.func236 ⟨rfl,rfl,rfl⟩ fun hcl hbl=>?_
   (repeat' ((conv=>whnf);(first|(refine yai ?_;first|refine yas ?_|refine yau rfl ?_|fail)|refine ycv _ _ _ _ (hc2 _) (hlen _ hp1.1) rfl ?_|fail)));conv=>whnf
   refine .cut (hlen _ hp1.1) (fun i B hB=>.inr ?_) ⟨_,_,.refl _,yae _,trivial,rfl,rfl⟩
   rw [← hlen _ hp1.1]
   exact hv.closed hI0 hcl _ hp1.1 i B hB
 | true =>
   rw [if_pos rfl]
   have hR1:=hp1.2 rfl
   generalize hr:foldE step s1 (fparts l)=r
   refine fdG Tryz.func236 ⟨rfl,rfl,rfl⟩ fun hcl hbl=>?_
   (repeat' ((conv=>whnf);(first|(refine yai ?_;first|refine yas ?_|refine yaq rfl ?_|fail)|refine ycv _ _ _ _ (hc2 _) (hlen _ hp1.1) rfl ?_|fail)));conv=>whnf
   refine zd8 Tryz.E0 zag (σ:=Nat×S) (fun p=>p.1≤l.length∧R p.2∧foldE step p.2 (fparts (l.drop p.1))=r) (fun p=>l.length-p.1) (fun p=>[(14,.v (.int .i64 p.1))]) (fun p=>hp p.2++X) (fun _=>[.box 29 [.int .u8 o,.str t,.sl none a.length (a.flatMap Tm.cells),.sl none l.length (l.flatMap Fo.cells)]]) _ (0,s1) (fun p hp'=>hlen _ (hv.ri _ hp'.2.1)) (fun p hp'=>hv.closed hI0 hcl _ (hv.ri _ hp'.2.1)) [1,12,13] rfl ⟨yah _,hR1,hr⟩ ⟨⟨_,rfl,yae _⟩,trivial⟩ rfl rfl (fun _ _=>rfl) ?_
   rintro ⟨j,s⟩ ⟨hj,hs,hinv⟩
   simp only at hj hs hinv
   clear hbl
   by_cases hlt:j<l.length
   ·obtain ⟨o2,t2,a2,m2,e1⟩:=fo_ex (l.getD j fo0)
    have hgx:=hk.sub _ _ _ _ hgk _ (zar l j fo0 hlt)
    have hx:=h _ (zar l j fo0 hlt)
    have q1:(l.getD j fo0).cells=[.int .u8 o2,.str t2,.sl none a2.length (a2.flatMap Tm.cells),.sl none m2.length (m2.flatMap Fo.cells)]:=by rw [e1,zaq]
    rw [drop_cons l fo0 j hlt,zce,zgo] at hinv
    have hfo:=hv.fold (fpart (l.getD j fo0)) s (hk.part _ hgx) hs
    have hx2:∀ Y,VCall Tryz.prog 236 [.agg (l.getD j fo0).cells,.clo F [] []] ((hp s++X)++Y) (fun r H'=>r=.bool (foldE step s (fpart (l.getD j fo0))).2∧H'=(hp (foldE step s (fpart (l.getD j fo0))).1++X)++Y):=fun Y=>by
     have:=hx s (X++Y) hs
     simpa only [ybf] using this
    rw [q1] at hx2
    generalize foldE step s (fpart (l.getD j fo0))=st at *
    obtain ⟨s2,b2⟩:=st
    simp only at hx2 hfo hinv
    cases b2 with
    | false =>
      simp only [yba,if_false] at hinv
      subst hinv
      (repeat' ((conv=>whnf);(first|(refine yai ?_;first|refine yas ?_|refine yau rfl ?_|refine yar (by omega) ?_|fail)|(refine yaf ?_ ?_;· first|omega|exact yaa _ _|fail)|refine zaa fo0 j rfl hlt za4 q1 ?_|refine ycv _ _ _ _ (hx2 _) (hlen _ hfo.1) rfl ?_|fail)));conv=>whnf
      refine .cut (hlen _ hfo.1) (fun i B hB=>.inr ?_) ⟨_,_,.refl _,yae _,trivial,rfl,rfl⟩
      rw [← hlen _ hfo.1]
      exact hv.closed hI0 hcl _ hfo.1 i B hB
    | true =>
      simp only [if_true] at hinv
      (repeat' ((conv=>whnf);(first|(refine yai ?_;first|refine yas ?_|refine yaq rfl ?_|refine yar (by omega) ?_|fail)|(refine zad _ _ Cst.h Cst.h ?_ ?_;· omega)|(refine yaf ?_ ?_;· first|omega|exact yaa _ _|fail)|refine zaa fo0 j rfl hlt za4 q1 ?_|refine ycv _ _ _ _ (hx2 _) (hlen _ hfo.1) rfl ?_|fail)));conv=>whnf
      (refine ⟨⟨(j+1,s2),⟨by show j+1≤l.length;omega,hfo.2 rfl,hinv⟩,by omega,?_,.inl ⟨rfl,rfl⟩,rfl,_,rfl,?_⟩⟩;rotate_left 1;exact .inr ⟨by simp [zaw,below,zab,tr,zal,zan],by simp [zbe,Blk.below,zab,below,zal,zan]⟩;exact ⟨⟨_,rfl,yae _⟩,trivial⟩)
   ·rw [yda (by omega),zb1] at hinv
    subst hinv
    (repeat' ((conv=>whnf);(first|refine ya1 (by omega) ?_|fail)));conv=>whnf
    refine .cut (hlen _ (hv.ri _ hs)) (fun i B hB=>.inr ?_) ⟨_,_,.refl _,yae _,trivial,rfl,rfl⟩
    rw [← hlen _ (hv.ri _ hs)]
    exact hv.closed hI0 hcl _ (hv.ri _ hs) i B hB
mutual
theorem visF_g {S:Type} {F:Fn} {hp:S→Heap} {N:Nat} {I R:S→Prop} {step:S→Fo→S×Bool} {ok:Fo→Prop} (hk:Clo ok) (hv:Vis F [] Fo.cells ok hp N I R step):∀ x:Fo,ok x→VisF F hp R step x
 | .mk o s l m,h=>visF_step hk hv o s l m h (visFs_g hk hv m (hk.sub _ _ _ _ h))
theorem visFs_g {S:Type} {F:Fn} {hp:S→Heap} {N:Nat} {I R:S→Prop} {step:S→Fo→S×Bool} {ok:Fo→Prop} (hk:Clo ok) (hv:Vis F [] Fo.cells ok hp N I R step):∀ l:List Fo,(∀ x∈l,ok x)→∀ x∈l,VisF F hp R step x
 | [],_,x,h=>by cases h
 | y::l,hg,x,h=>by
   have h1:=visF_g hk hv y (hg y (ybd ..))
   have h2:=visFs_g hk hv l fun z hz=>hg z (ya5 _ hz)
   rcases yay.1 h with e|h
   ·exact e▸h1
   ·exact h2 x h
end
end
section
def foldB {S α:Type} (step:S→α→S×Option Code):S→List α→S×Option Code
 | s,[]=>(s,none)
 | s,x::l=>if (step s x).2.isNone then foldB step (step s x).1 l else step s x
theorem zfa {S α:Type} (step:S→α→S×Option Code) (s:S) (x:α) (l:List α):foldB step s (x::l)=if (step s x).2.isNone then foldB step (step s x).1 l else step s x:=rfl
def stepE {S α:Type} (step:S→α→S×Option Code) (p:S×Option Code) (x:α):(S×Option Code)×Bool:=(step p.1 x,(step p.1 x).2.isNone)
theorem foldE_B {S α:Type} (step:S→α→S×Option Code):∀ (l:List α) (s:S),foldE (stepE step) (s,none) l=(foldB step s l,(foldB step s l).2.isNone)
 | [],s=>rfl
 | x::l,s=>by
   rw [zc7,zfa]
   show (if (step s x).2.isNone=true then foldE (stepE step) (step s x) l else (step s x,false))=_
   by_cases h:(step s x).2.isNone=true
   ·rw [if_pos h,if_pos h]
    have:step s x=((step s x).1,none):=by
     rw [yen] at h
     exact Prod.ext rfl h
    rw [this]
    exact foldE_B step l _
   ·rw [if_neg h,if_neg h]
    simp only [Bool.not_eq_true] at h
    rw [h]
theorem zd2 {base loc X:Heap} {j:Nat} {B B':Blk} (h:lget loc j=some B'):((base++loc)++X).set (base.length+j) B=(base++loc.set j B)++X:=by
 have hj:j<loc.length:=by
  rw [za8] at h
  exact (yac.1 h).1
 rw [ycx _ _ (by simp;omega),zeg]
abbrev lpB (n0:Nat) (bk:RE) (N:FN) (ps:Array Tmp) (assign body:Code) (st:LoopState) (jp:Option Code):Blk:=.loop st jp (trE n0 bk) ⟨N.n,ps,assign,body⟩
def stOf:Option Code→LoopState
 | none=>.ready
 | some _=>.done
abbrev rndW (n0 k:Nat) (bk:RE) (N:FN) (ps:Array Tmp) (assign body:Code) (H:Heap) (vs1:List AV) (R:AV→Heap→Prop):Prop :=
 wpC Tryz.prog Tryz.kn Tryz.T ⟨N.n,some (n0+k)⟩ H.length assign (fun e top bot base k' loc=>match e with
   | .normal=>RndB Tryz.prog Tryz.kn Tryz.T H (n0+k) (trE n0 bk) ⟨N.n,ps,assign,body⟩ R top bot base k' loc
   | _=>False) (parRE ps.toList vs1 (reB n0 bk)) [] H 0 []
theorem get_lo3 {base A Y:Heap} {j:Nat} (h:j<base.length):((base++A)++Y)[j]? = base[j]? := by
 rw [ybf,yaj h]
theorem get_hi3 {base A Y:Heap} {j n:Nat} (hn:base.length+A.length=n) (h:n≤j):((base++A)++Y)[j]? = Y[j-n]? := by
 rw [yam (by rw [ya6];omega),ya6,hn]
theorem rnd_end {base l l' Y:Heap} {k:Nat} {bk:RE} {N:FN} {ps:Array Tmp} {assign body:Code} {e:Exit} {jp:Option Code} {jp':Option Code} {b:Bool} {st:LoopState} (hx:RndEx e jp' b st) (hk:l.length=k) (hk':l'.length=k) (hb:∀ B∈l',B.below (base.length+(k+1))) (bbk:zaw base.length (base.length+(k+1)) bk) :
  RndEnd ((base++(l++[lpB base.length bk N ps assign body .ready none]))++Y) (base.length+k) (trE base.length bk) ⟨N.n,ps,assign,body⟩ (fun r H'=>r=.bool b∧H'=(base++(l'++[lpB base.length bk N ps assign body st jp']))++Y) e ((base++(l'++[lpB base.length bk N ps assign body .busy jp]))++Y):=by
 subst hk
 have hg:lget (l'++[lpB base.length bk N ps assign body .busy jp]) l.length=some (lpB base.length bk N ps assign body .busy jp):=by
  rw [za8,yam (by omega),hk',yc2]
  rfl
 refine ⟨⟨jp,jp',b,st,_,hx,zbc Y hg,zd2 hg,by simp [hk'],fun j B hj=>?_,rfl,?_⟩⟩
 ·have hs:(l'++[lpB base.length bk N ps assign body .busy jp]).set l.length (lpB base.length bk N ps assign body st jp')=l'++[lpB base.length bk N ps assign body st jp']:=by
   rw [yb7 _ _ (by omega),hk',yc2]
   rfl
  rw [hs] at hj
  rcases yag j base.length with h1|h1
  ·left
   exact (get_lo3 h1).trans ((get_lo3 h1).symm.trans hj)
  ·rcases yag j (base.length+(l.length+1)) with h2|h2
   ·right
    rw [yaj (by simp [hk'];omega),yam h1] at hj
    have hm:=ycs hj
    have q:B.below (base.length+(l.length+1)):=by
     rcases ybl.1 hm with h|h
     ·exact hb B h
     ·simp only [yaz] at h
      subst h
      exact ze9 bbk
    exact ydp (by simp only [ya6,List.length_singleton];omega) q
   ·left
    exact (get_hi3 (by simp) h2).trans ((get_hi3 (by simp [hk']) h2).symm.trans hj)
 ·have hs:(l'++[lpB base.length bk N ps assign body .busy jp]).set l.length (lpB base.length bk N ps assign body st jp')=l'++[lpB base.length bk N ps assign body st jp']:=by
   rw [yb7 _ _ (by omega),hk',yc2]
   rfl
  rw [hs]
attribute [local irreducible] VW VCall VO bits
theorem walk_c (f:Fo) (H:Heap):VCall Tryz.prog 202 [.agg f.cells] H (fun r H'=>r=.clo (.func 235) [] [.ptr (H.length+0) 0]∧H'=H++[.box 29 f.cells]):=by
 obtain ⟨o,s,l,m,rfl⟩:=fo_ex f
 rw [zaq]
 refine fdG Tryz.func202 ⟨rfl,rfl,rfl⟩ fun hcl hbl=>?_
 conv=>whnf
 exact yem _ (yae _) ⟨rfl,rfl⟩
theorem walk1_c {S:Type} {F:Fn} {hp:S→Heap} {N:Nat} {I R:S→Prop} {step:S→Fo→S×Bool} {ok:Fo→Prop} (hk:Clo ok) (hv:Vis F [] Fo.cells ok hp N I R step) (f:Fo) (hg:ok f) (s:S) (hs:R s) (i:Nat) (hi:(hp s)[i]? = some (.box 29 f.cells)) :
  VCall Tryz.prog 235 [.clo F [] [],.ptr i 0] (hp s) (fun _ H'=>H'=hp (foldE step s (fpart f)).1):=by
 have h:=visF_g hk hv f hg s [] hs
 have hf:=hv.fold (fpart f) s (hk.part f hg) hs
 have hl1:=hv.len s (hv.ri s hs)
 have hl2:=hv.len _ hf.1
 have hc0:=hv.low _ hf.1
 generalize foldE step s (fpart f)=st at *
 obtain ⟨s2,b⟩:=st
 simp only at h hf hl2 hc0 ⊢
 obtain ⟨o,t,a,m,rfl⟩:=fo_ex f
 rw [zaq] at h hi
 have hle:(hp s2).length=(hp s).length:=by rw [hl1,hl2]
 refine fdG Tryz.func235 ⟨rfl,rfl,rfl⟩ fun hcl hbl=>?_
 (repeat' ((conv=>whnf);(first|refine ycv _ _ _ _ h hle rfl ?_|refine ych _ (by (repeat' (first|assumption|exact zbc _ rfl|exact za2 rfl|refine za9 (B':=?_) ?_|refine zat ?_|fail))) ?_|fail)));conv=>whnf
 refine .cut hle (fun j B hB=>.inr ?_) ⟨_,_,.refl _,yae _,by simp [below,zab],rfl⟩
 rw [hl1]
 exact hc0 B (ycs hB)
theorem range_walk {S:Type} {ok:Fo→Prop} (hk:Clo ok) (f:Fo) (hg:ok f) {N:FN} {n0:Nat} {ps:Array Tmp} {assign body:Code} {Q:QR} {top bot:RE} {base:Heap} {k:Nat} {loc:Heap}
  (hbase:base.length=n0) (hcl:zde base) (hN:N.r=none) (ts:List Nat) (bk:RE) (hbk:pickO ts top bot=some bk)
  (hps:∀ p∈ps.toList,p<N.n) (hps1:ps.size=1) (bbk:zaw n0 (n0+(k+1)) bk)
  (ls:S→Heap) (I R:S→Prop) (stepB:S→Fo→S×Option Code) (s0:S) (hs0:R s0) (h0:loc=ls s0) (iw:Nat) (hiw:lget (ls s0) iw=some (.box 29 f.cells))
  (ri:∀ s,R s→I s) (lens:∀ s,I s→(ls s).length=k) (bls:∀ s,I s→∀ B∈ls s,B.below (n0+(k+1)))
  (pres:∀ s x,R s→ok x→I (stepB s x).1∧((stepB s x).2=none→R (stepB s x).1))
  (hy:∀ s x Y,R s→ok x→rndW n0 k bk N ps assign body ((base++(ls s++[lpB n0 bk N ps assign body .ready none]))++Y) [.agg x.cells] (fun r H'=>r=.bool (stepB s x).2.isNone∧H'=(base++(ls (stepB s x).1++[lpB n0 bk N ps assign body (stOf (stepB s x).2) (stepB s x).2]))++Y))
  (hQ:jumpN Q top bot base (k+1) (ls (foldB stepB s0 (fpart f)).1++[.dead]) (foldB stepB s0 (fpart f)).2) :
  RangeN Tryz.prog N n0 235 [] [.ptr (n0+iw) 0] ps assign body Q top bot base k loc:=by
 subst hbase h0
 let hp:S×Option Code→Heap:=fun p=>base++(ls p.1++[lpB base.length bk N ps assign body (stOf p.2) p.2])
 have hloopb:∀ st jp,(lpB base.length bk N ps assign body st jp).below (base.length+(k+1)):=fun _ _=>ze9 bbk
 have hk0:(ls s0).length=k:=lens s0 (ri s0 hs0)
 have hv:Vis (.yield (base.length+k)) [] Fo.cells ok hp (base.length+(k+1)) (fun p=>I p.1) (fun p=>R p.1∧p.2=none) (stepE stepB):=by
  refine ⟨fun p h=>ri _ h.1,fun p h=>by simp [hp,lens _ h],fun p h B hB=>?_,fun p x h hx=>?_,fun p x Y h hx=>?_⟩
  ·rcases ybl.1 hB with hB|hB
   ·obtain ⟨j,hj⟩:=ycy hB
    exact ydp (by omega) (hcl j B hj)
   ·rcases ybl.1 hB with hB|hB
    ·exact bls _ h B hB
    ·simp only [yaz] at hB
     subst hB
     exact hloopb _ _
  ·have:=pres p.1 x h.1 hx
   refine ⟨this.1,fun hb=>?_⟩
   have hb:(stepB p.1 x).2.isNone=true:=hb
   rw [yen] at hb
   exact ⟨this.2 hb,hb⟩
  ·obtain ⟨s,jp⟩:=p
   obtain ⟨h1,h2⟩:=h
   simp only at h1 h2
   subst h2
   have h3:=hy s x Y h1 hx
   have hi:((base++(ls s++[lpB base.length bk N ps assign body .ready none]))++Y)[base.length+k]? = some (lpB base.length bk N ps assign body .ready none):=by
    refine zbc Y ?_
    rw [za8,yam (by rw [lens s (ri s h1)];exact yax _),lens s (ri s h1),yc2]
    rfl
   exact round_R Tryz.E0 zag hi hps (by simp [hps1]) h3
 have hit:=walk1_c hk hv f hg (s0,none) ⟨hs0,rfl⟩ (base.length+iw) (by
  show (base++(ls s0++[_]))[base.length+iw]? = _
  refine za2 ?_
  rw [za8] at hiw ⊢
  rw [yaj (yac.1 hiw).1]
  exact hiw)
 rw [foldE_B] at hit
 have hI:=hv.fold (fpart f) (s0,none) (hk.part f hg) ⟨hs0,rfl⟩
 rw [foldE_B] at hI
 generalize foldB stepB s0 (fpart f)=res at *
 obtain ⟨s2,jp2⟩:=res
 simp only at hit hI hQ
 have hl2:=lens s2 hI.1
 refine .mk ⟨(fun i hi=>by rw [hN] at hi;cases hi),ts,bk,(fun _ H'=>H'=hp (s2,jp2)),hbk,?_,?_⟩
 ·rw [ybf]
  exact hit
 ·rintro r H' rfl
  refine ⟨base,k+1,ls s2++[lpB base.length bk N ps assign body (stOf jp2) jp2],stOf jp2,jp2,ls s2++[.dead],rfl,by simp [hl2],rfl,?_,by cases jp2 <;> simp [stOf],?_,hQ⟩
  ·rw [za8,yam (by omega),hl2,yc2];rfl
  ·rw [zd7 (by simp [hl2])]
   rw [yb7 _ _ (by omega),hl2,yc2]
   rfl
end
section
def targs:Fo→List Tm
 | .mk _ _ l _=>l
attribute [local irreducible] VW VCall VO bits
end
theorem nodup_le {α:Type} [DecidableEq α]:∀ {l m:List α},l.Nodup→(∀ x∈l,x∈m)→l.length≤m.length
 | [],m,_,_=>yah _
 | x::l,m,hd,hs=>by
   obtain ⟨a,b,rfl⟩:=List.append_of_mem (hs x (ybd ..))
   have hd':=List.nodup_cons.1 hd
   have:=nodup_le (m:=a++b) hd'.2 fun y hy=>by
    have:=hs y (ya5 _ hy)
    rcases ybl.1 this with h|h
    ·exact ybl.2 (.inl h)
    ·rcases yay.1 h with e|h
     ·exact absurd hy (e▸hd'.1)
     ·exact ybl.2 (.inr h)
   simp only [ya6,ybu] at this ⊢
   omega
noncomputable instance:DecidableEq Fo:=fun a b=>Classical.propDecidable (a=b)
section
abbrev Sym:=ByteArray×Nat
def symC (x:Sym):List AV:=[.str x.1,.int .i64 (x.2:Nat)]
def mpY (ks:List Sym):Blk:=.mp (ks.map fun x=>.agg (symC x)) (ks.map fun _=>.bool true)
theorem zdy (n:Nat):∀ ks:List Sym,zab n (ks.map fun x=>.agg (symC x))
 | []=>trivial
 | _::ks=>⟨by simp [symC,below,zab],zdy n ks⟩
theorem zdx (n:Nat):∀ ks:List Sym,zab n (ks.map fun _=>.bool true)
 | []=>trivial
 | _::ks=>⟨trivial,zdx n ks⟩
theorem zgh (n:Nat) (ks:List Sym):(mpY ks).below n:=⟨zdy n ks,zdx n ks⟩
def sym0:Sym:=(.empty,0)
theorem nodup_lt {l:List Nat} {n:Nat} (h:l.Nodup) (hl:∀ e∈l,e<n):l.length≤n:=by
 have:=nodup_le (m:=List.range n) h fun e he=>ybv.2 (hl e he)
 simpa using this
theorem zgw {α:Type} {l:List α} {e:α} (h:l.Nodup) (he:e ∉ l):(l++[e]).Nodup:=by
 rw [List.nodup_append]
 refine ⟨h,by simp,fun a ha b hb=>?_⟩
 simp at hb
 subst hb
 exact fun e=>he (e▸ha)
theorem map_get_range {α:Type} (d:α) (l:List α):(List.range l.length).map (fun i=>l.getD i d)=l:=by
 apply ybt
 intro i
 rw [ya8]
 by_cases hi:i<l.length
 ·rw [ydn hi]
  simp [hi]
 ·rw [ycp (by simpa using hi),ycp (by simpa using hi)]
  rfl
theorem seen_perm {α:Type} (d:α) {l:List α} {seen:List Nat} (h:seen.Nodup) (hlt:∀ e∈seen,e<l.length) (hall:∀ e,e<l.length→e∈seen):(seen.map fun i=>l.getD i d).Perm l:=by
 have:seen.Perm (List.range l.length):=(List.perm_ext_iff_of_nodup h List.nodup_range).2 fun e=>⟨fun he=>ybv.2 (hlt e he),fun he=>hall e (ybv.1 he)⟩
 have h2:=this.map fun i=>l.getD i d
 rwa [map_get_range] at h2
attribute [local irreducible] VW VCall VO bits
structure VisK {S:Type} (F:Fn) (hp:S→Heap) (N:Nat) (ks:List Sym) (R:Nat→S→Prop) (step:S→Sym→S):Prop where
 len:∀ n s,R n s→(hp s).length=N
 low:∀ n s,R n s→∀ B∈hp s,B.below N
 pres:∀ n s x,n<ks.length→R n s→x∈ks→R (n+1) (step s x)
 call:∀ n s x Y,n<ks.length→R n s→x∈ks→VFn Tryz.prog F [.agg (symC x)] (hp s++Y) (fun r H'=>r=.bool true∧H'=hp (step s x)++Y)
theorem keysIt_c {S:Type} {F:Fn} {hp:S→Heap} {N:Nat} {R:Nat→S→Prop} {step:S→Sym→S} {ks:List Sym} (hv:VisK F hp N ks R step)
  (s0:S) (hs0:R 0 s0) (p i:Nat) (hp1:∀ n s,R n s→(hp s)[p]? = some (.box 182 [.mp i])) (hi1:∀ n s,R n s→(hp s)[i]? = some (mpY ks)) :
  VCall Tryz.prog 240 [.clo F [] [],.ptr p 0] (hp s0) (fun _ H'=>∃ ord:List Sym,ord.Perm ks∧R ord.length (ord.foldl step s0)∧H'=hp (ord.foldl step s0)):=by
 have hpp:=hp1 0 s0 hs0
 have hii:=hi1 0 s0 hs0
 have hii2:(hp s0)[i]? = some (.mp (ks.map fun x=>.agg (symC x)) (ks.map fun _=>.bool true)):=hii
 have hlen:∀ n s,R n s→(hp s).length=(hp s0).length:=fun n s hs=>by rw [hv.len n s hs,hv.len 0 s0 hs0]
 have hcl2:∀ n s,R n s→zde (hp s):=fun n s hs j B hj=>by
  rw [hv.len n s hs]
  exact hv.low n s hs B (ycs hj)
 refine fdG Tryz.func240 ⟨rfl,rfl,rfl⟩ fun hcl hbl=>?_
 (repeat' ((conv=>whnf);(first|refine ych _ (by (repeat' (first|assumption|exact zbc _ rfl|exact za2 rfl|refine za9 (B':=?_) ?_|refine zat ?_|fail))) ?_|fail)));conv=>whnf
 refine zd8 Tryz.E0 zag (σ:=List Nat×S) (fun q=>q.1.Nodup∧(∀ e∈q.1,e<ks.length)∧R q.1.length q.2∧q.2=(q.1.map fun i=>ks.getD i sym0).foldl step s0) (fun q=>ks.length-q.1.length) (fun _=>[]) (fun q=>hp q.2) (fun q=>[.it (.mp i) (ks.map fun x=>AV.agg (symC x)).length q.1]) _ ([],s0) (fun q h=>hlen _ _ h.2.2.1) (fun q h=>hcl2 _ _ h.2.2.1) [0,5] rfl ⟨ydx,(fun e h=>absurd h (yc5)),hs0,rfl⟩ trivial rfl rfl (fun _ _=>rfl) ?_
 rintro ⟨seen,s⟩ ⟨hnd,hlt,hs,hfold⟩
 simp only at hnd hlt hs hfold
 have hii3:(hp s)[i]? = some (.mp (ks.map fun x=>.agg (symC x)) (ks.map fun _=>.bool true)):=hi1 _ s hs
 clear hbl
 (repeat' ((conv=>whnf);(first|refine yaf (by kernel_rfl) ?_|refine ych _ (by (repeat' (first|assumption|exact zbc _ rfl|exact za2 rfl|refine za9 (B':=?_) ?_|refine zat ?_|fail))) ?_|fail)));conv=>whnf
 rintro B v (⟨rfl,rfl,hall⟩|⟨e,kv,x,he,hn,hk,hx,rfl,rfl⟩)
 ·have hall:∀ e,e<ks.length→e∈seen:=fun e he=>hall e (by simpa using he)
  (repeat' ((conv=>whnf);(first|refine yau rfl ?_|fail)));conv=>whnf
  refine .cut (hlen _ _ hs) (fun j B hB=>.inr ?_) ⟨_,_,.refl _,yae _,by simp [below,zab],seen.map fun i=>ks.getD i sym0,seen_perm sym0 hnd hlt hall,by rw [← hfold,yav];exact hs,by rw [← hfold]⟩
  rw [← hlen _ _ hs]
  exact hcl2 _ _ hs j B hB
 ·have he:e<ks.length:=by simpa using he
  have hn:e ∉ seen:=hn
  have hke:ks[e]? = some (ks.getD e sym0):=by simp [he]
  have hxm:ks.getD e sym0∈ks:=ycs hke
  have hk2:kv=.agg (symC (ks.getD e sym0)):=by
   rw [ya8,hke] at hk
   simpa using hk.symm
  have hx2:x=.bool true:=by
   rw [ya8,hke] at hx
   simpa using hx.symm
  subst hk2 hx2
  have hlt2:seen.length<ks.length:=by
   have:=nodup_lt (zgw hnd hn) (n:=ks.length) (fun a ha=>by
    rcases ybl.1 ha with h|h
    ·exact hlt a h
    ·simp at h;exact h▸he)
   simp at this
   omega
  have hc:=fun Y=>hv.call _ s (ks.getD e sym0) Y hlt2 hs hxm
  have hR1:=hv.pres _ s (ks.getD e sym0) hlt2 hs hxm
  have hf2:step s (ks.getD e sym0)=((seen++[e]).map fun i=>ks.getD i sym0).foldl step s0:=by
   rw [yd7,List.foldl_append,← hfold]
   rfl
  generalize step s (ks.getD e sym0)=s1 at *
  generalize hkx:ks.getD e sym0=kx at *
  obtain ⟨nm,ar⟩:=kx
  unfold symC at *
  have hil:i<(hp s0).length+1:=by
   have:=(yac.1 hii).1
   omega
  have hg1:((seen++[e],s1):List Nat×S).fst.length=seen.length+1:=by simp
  have hg2:((seen,s):List Nat×S).fst.length=seen.length:=rfl
  (repeat' ((conv=>whnf);(first|(refine yai ?_;first|refine yas ?_|refine yaq rfl ?_|fail)|refine ydt [_,_] [] ⟨by simp,rfl,seen,e,_,_,rfl,hk,hx,rfl⟩ ?_|refine ycv _ _ _ _ (hc _) (hlen _ _ hR1) rfl ?_|refine ych _ (by (repeat' (first|assumption|exact zbc _ rfl|exact za2 rfl|refine za9 (B':=?_) ?_|refine zat ?_|fail))) ?_|fail)));conv=>whnf
  (refine ⟨⟨(seen++[e],s1),⟨zgw hnd hn,fun a ha=>by
    rcases ybl.1 ha with h|h
    ·exact hlt a h
    ·simp at h;exact h▸he,by rw [hg1];exact hR1,hf2⟩,by omega,?_,.inl ⟨rfl,rfl⟩,rfl,_,rfl,?_⟩⟩;rotate_left 1;exact .inr ⟨by simp [zaw,below,zab,tr,zgh,hil],by simp [zbe,Blk.below,zab,below,zgh,hil]⟩;exact trivial)
theorem range_keys {S:Type} {N:FN} {n0:Nat} {ps:Array Tmp} {assign body:Code} {Q:QR} {top bot:RE} {base:Heap} {k:Nat} {loc:Heap}
  (hbase:base.length=n0) (hcl:zde base) (hN:N.r=none) (ts:List Nat) (bk:RE) (hbk:pickO ts top bot=some bk)
  (hps:∀ p∈ps.toList,p<N.n) (hps1:ps.size=1) (bbk:zaw n0 (n0+(k+1)) bk) (ks:List Sym)
  (ls:S→Heap) (R:Nat→S→Prop) (step:S→Sym→S) (s0:S) (hs0:R 0 s0) (h0:loc=ls s0) (p i:Nat) (hp1:base[p]? = some (.box 182 [.mp i])) (hi1:base[i]? = some (mpY ks))
  (lens:∀ n s,R n s→(ls s).length=k) (bls:∀ n s,R n s→∀ B∈ls s,B.below (n0+(k+1)))
  (pres:∀ n s x,n<ks.length→R n s→x∈ks→R (n+1) (step s x))
  (hy:∀ n s x Y,n<ks.length→R n s→x∈ks→rndW n0 k bk N ps assign body ((base++(ls s++[lpB n0 bk N ps assign body .ready none]))++Y) [.agg (symC x)] (fun r H'=>r=.bool true∧H'=(base++(ls (step s x)++[lpB n0 bk N ps assign body .ready none]))++Y))
  (hQ:∀ ord:List Sym,ord.Perm ks→R ord.length (ord.foldl step s0)→jumpN Q top bot base (k+1) (ls (ord.foldl step s0)++[.dead]) none) :
  RangeN Tryz.prog N n0 240 [] [.ptr p 0] ps assign body Q top bot base k loc:=by
 subst hbase h0
 let hp:S→Heap:=fun s=>base++(ls s++[lpB base.length bk N ps assign body .ready none])
 have hloopb:(lpB base.length bk N ps assign body .ready none).below (base.length+(k+1)):=ze9 bbk
 have hk0:(ls s0).length=k:=lens 0 s0 hs0
 have hv:VisK (.yield (base.length+k)) hp (base.length+(k+1)) ks R step:=by
  refine ⟨fun n s h=>by simp [hp,lens _ _ h],fun n s h B hB=>?_,pres,fun n s x Y hn h hx=>?_⟩
  ·rcases ybl.1 hB with hB|hB
   ·obtain ⟨j,hj⟩:=ycy hB
    exact ydp (by omega) (hcl j B hj)
   ·rcases ybl.1 hB with hB|hB
    ·exact bls _ _ h B hB
    ·simp only [yaz] at hB
     subst hB
     exact hloopb
  ·have h3:=hy n s x Y hn h hx
   have hi:((base++(ls s++[lpB base.length bk N ps assign body .ready none]))++Y)[base.length+k]? = some (lpB base.length bk N ps assign body .ready none):=by
    refine zbc Y ?_
    rw [za8,yam (by rw [lens n s h];exact yax _),lens n s h,yc2]
    rfl
   exact round_R Tryz.E0 zag hi hps (by simp [hps1]) h3
 have hit:=keysIt_c hv s0 hs0 p i (fun n s _=>zat hp1) (fun n s _=>zat hi1)
 refine .mk ⟨(fun i hi=>by rw [hN] at hi;cases hi),ts,bk,(fun _ H'=>∃ ord:List Sym,ord.Perm ks∧R ord.length (ord.foldl step s0)∧H'=hp (ord.foldl step s0)),hbk,?_,?_⟩
 ·rw [ybf]
  exact hit
 ·rintro r H' ⟨ord,ho,hR,rfl⟩
  have hl2:=lens _ _ hR
  refine ⟨base,k+1,ls (ord.foldl step s0)++[lpB base.length bk N ps assign body .ready none],.ready,none,ls (ord.foldl step s0)++[.dead],rfl,by simp [hl2],rfl,?_,by simp,?_,hQ ord ho hR⟩
  ·rw [za8,yam (by omega),hl2,yc2];rfl
  ·rw [zd7 (by simp [hl2])]
   rw [yb7 _ _ (by omega),hl2,yc2]
   rfl
end
section
open Go.Shelf Go.RowKit Go.Sort
theorem zh4 (x:Sym):OrdAt cSym x:=by
 obtain ⟨a,n⟩:=x
 have h:=ordP (c:=cmpB) (d:=fun p q:Nat=>cmpI (p:Nat) (q:Nat)) (a:=a) (b:=n) (ordB a) (fun a=>(ordB a).refl) (ordF (d:=cmpI) (fun n:Nat=>(n:Int)) (fun x y e=>by omega) (fun _ _=>rfl) (ordI n))
 exact h
theorem swoSym:SWO (ltOf cSym):=by
 have ha:∀ x y,cSym y x=- cSym x y:=fun x y=>(zh4 x).anti y
 refine ⟨fun x=>?_,fun x y z h1 h2=>?_,fun x y z h1 h2=>?_⟩
 ·unfold ltOf
  rw [(zh4 x).refl]
  rfl
 ·unfold ltOf at *
  simp only [decide_eq_true_eq] at *
  obtain ⟨q1,q2⟩:=(zh4 x).tr y z (by omega) (by omega)
  have:cSym x z≠0:=fun e=>by have:=(q2 e).1;omega
  omega
 ·unfold ltOf at *
  simp only [decide_eq_false_iff_not] at *
  have h3:=ha x y
  have h4:=ha y z
  obtain ⟨q1,-⟩:=(zh4 z).tr y x (by omega) (by omega)
  have h5:=ha x z
  omega
theorem totSym (x y:Sym) (h1:ltOf cSym x y=false) (h2:ltOf cSym y x=false):x=y:=by
 unfold ltOf at h1 h2
 simp only [decide_eq_false_iff_not] at h1 h2
 have:=(zh4 x).anti y
 exact (zh4 x).eq y (by omega)
def sortY (l:List Sym):List Sym:=l.mergeSort fun x y=>!(ltOf cSym) y x
theorem zbp (l:List Sym):(sortY l).Perm l:=List.mergeSort_perm l _
theorem zd5 (l:List Sym):(sortY l).length=l.length:=(zbp l).length_eq
theorem zct (l:List Sym):(l.flatMap symC).length=l.length * 2:=by
 induction l with
 | nil=>rfl
 | cons x l ih=>rw [ya7,ya6,ih,ybu];simp only [symC,ybu,ybg];omega
theorem zfg (l:List Sym):(l.flatMap symV).length=l.length * 2:=by
 induction l with
 | nil=>rfl
 | cons x l ih=>rw [ya7,ya6,ih,ybu];simp only [symV,ybu,ybg];omega
theorem sym_rel (g:G) (w:World):∀ l:List Sym,LRel g w (l.flatMap symC) (l.flatMap symV)
 | []=>by simp [LRel]
 | x::l=>by
   rw [ya7,ya7]
   refine LRel.append ?_ (sym_rel g w l)
   simp [symC,symV,LRel,VRel]
theorem sym_of {g:G} {w:World}:∀ {l:List Sym} {cs:List Value},LRel g w (l.flatMap symC) cs→cs=l.flatMap symV
 | [],cs,h=>by simpa [LRel] using h
 | x::l,cs,h=>by
   rw [ya7] at h
   simp only [symC,ycr,yd6,LRel,VRel] at h
   obtain ⟨c,r,rfl,rfl,d,r2,rfl,rfl,h⟩:=h
   rw [sym_of h,ya7]
   rfl
theorem flat_get:∀ (l:List Sym) (t:Nat),t<l.length * 2→(l.flatMap symV)[t]! = (symV l[t / 2]!)[t % 2]!
 | [],t,h=>by simp at h
 | x::l,t,h=>by
   rw [ya7]
   rcases yag t 2 with h2|h2
   ·have:t=0∨t=1:=by omega
    rcases this with rfl|rfl <;> rfl
   ·obtain ⟨u,rfl⟩:∃ u,t=u+2:=⟨t-2,by omega⟩
    have e1:(u+2) / 2=u / 2+1:=by omega
    have e2:(u+2) % 2=u % 2:=by omega
    have ih:=flat_get l u (by simp at h;omega)
    rw [e1,e2]
    have:(symV x++l.flatMap symV)[u+2]! = (l.flatMap symV)[u]! := rfl
    rw [this,ih]
    rfl
theorem flatK_eq (l:List Sym):flatK symV 2 l.toArray=(l.flatMap symV).toArray:=by
 apply Array.ext
 ·rw [size_flatK,ybs,ybs,zfg]
 ·intro t h1 h2
  have ht:t<l.length * 2:=by simpa using h1
  have e1:=get_flatK symV 2 l.toArray t (by simpa using ht)
  have e2:=flat_get l t ht
  rw [getElem!_pos _ t h1] at e1
  rw [e1]
  have e3:(l.flatMap symV)[t]! = (l.flatMap symV).toArray[t]'h2:=by
   have:t<(l.flatMap symV).length:=by simpa using h2
   rw [getElem!_pos _ t this]
   simp
  rw [← e3,e2]
  simp
theorem put_take (F cs:Array Value) (h:F.size≤cs.size):(putCells id 0 F cs).toList.take F.size=F.toList∧(putCells id 0 F cs).size=cs.size:=by
 refine ⟨?_,by simp [putCells]⟩
 apply ybt
 intro t
 rw [ybw]
 by_cases ht:t<F.size
 ·rw [if_pos ht]
  have h1:t<cs.size:=by omega
  simp [putCells,h1,ht]
 ·rw [if_neg ht,ycp (by simpa using ht)]
theorem sort87_c (H:Heap) (i:Nat) (l:List Sym) (hl:l.length≤1000000000000) (hi:H[i]? = some (.vec 92 2 (l.flatMap symC))) :
  VCall Tryz.prog 239 [.vs i l.length,.clo (.func 237) [] []] H (fun r H'=>r=.tup []∧H'=H.set i (.vec 92 2 ((sortY l).flatMap symC))):=by
 refine ⟨⟨_,Tryz.func239,by kernel_rfl,rfl⟩,fun g w xs hH hL=>?_⟩
 simp only [LRel,VRel,fnG] at hL
 obtain ⟨c,r,has,⟨hok,hle,A,cap,rfl,hncap,hcur⟩,c2,r2,rfl,⟨-,f',c',rfl,hf',hc'⟩,rfl⟩:=hL
 have hf':f'=#[]:=by simpa using congrArg List.toArray hf'
 have hc':c'=#[]:=by simpa using congrArg List.toArray hc'
 have has:xs=#[.slice A l.length cap,.func (.func 237) f' c']:=by simpa using congrArg List.toArray has
 subst has hf' hc'
 have hat:Vsi.At (Hp.of H) i (.vec 92 2 (l.flatMap symC)):=by
  show (Hp.of H).all[i]? = _
  simpa [Hp.all,Hp.of] using hi
 obtain ⟨b1,b2,b3⟩:=hH.rel i _ hat
 obtain ⟨hA,hcap⟩:=hcur (by rw [b1,b2,zct])
 have hput:Put (Hp.of H) i (.vec 92 2 ((sortY l).flatMap symC)) (Hp.of (H.set i (.vec 92 2 ((sortY l).flatMap symC)))):=⟨by simp [Hp.all,Hp.of],by simp [Hp.of],rfl,rfl⟩
 rcases b3 with ⟨-,hl0,-⟩|⟨b,cs,hbase,hheap,hsize,hcm,hlen,hrel,hown⟩
 ·have hz:l=[]:=by
   have:=zct l
   rw [hl0] at this
   exact ya4 (by simp at this;omega)
  subst hz
  have hc:=AnyF.slices_SortFunc_none zev A cap (.func (.func 237) #[] #[]) w
  change Calls Tryz.prog 239 _ _ _ at hc
  refine hc.mono ?_
  rintro e w' ⟨rfl,rfl⟩
  have hset:H.set i (.vec 92 2 ((sortY []).flatMap symC))=H:=by
   apply ybt
   intro j
   rw [yaw]
   by_cases hij:i=j
   ·subst hij
    have:=(yac.1 hi).1
    have hs0:sortY []=[]:=by unfold sortY;simp
    simp only [if_true,this]
    rw [hi,hs0]
   ·rw [if_neg hij]
  exact ⟨_,_,g,_,rfl,⟨rfl,rfl⟩,by rw [hset];exact hH,by simp [VRel,LRel],ycw _ _⟩
 ·rw [hbase] at hA
  simp only [ybc] at hA
  subst hA
  have hpre:=sym_of hrel
  have hlen2:(l.flatMap symC).length=l.length * 2:=zct l
  have hH2:HoldsK symV 2 w b 0 l.toArray:=by
   unfold HoldsK
   rw [flatK_eq]
   intro j hj
   have hj2:j<l.length * 2:=by
    have:=zfg l
    simp only [ybs] at hj
    omega
   have hjc:j<cs.size:=by omega
   have hg:cs[j]? = some ((l.flatMap symV).toArray[j]!):=by
    have h1:(cs.toList.take (l.flatMap symC).length)[j]? = (l.flatMap symV)[j]? := by rw [hpre]
    rw [ybw,if_pos (by omega)] at h1
    have h2:(l.flatMap symV)[j]? = some ((l.flatMap symV).toArray[j]!):=by
     have:j<(l.flatMap symV).length:=by simpa using hj
     rw [getElem!_pos _ j hj]
     simp
    rw [h2] at h1
    simpa using h1
   refine ⟨cell_iff.2 ⟨cs,92,(0,0),hheap,by simpa using hg⟩,?_⟩
   simp [World.frozen?,hheap]
  have hc:=AnyQ.slices_SortFunc_total zev 2 Tryz.isAgg92 Tryz.sizeOf92 symV (fun _=>rfl) (fun x v hv=>by simp [symV] at hv;rcases hv with rfl|rfl <;> rfl) cSym swoSym 237 #[] b 0 cap l.toArray w (enters_of Tryz.func237 (by kernel_rfl) rfl) (clo76_lays b 0 _ w) hH2 (zbf hheap) (by simp;omega) totSym
  change Calls Tryz.prog 239 _ _ _ at hc
  simp only [ybs] at hc
  refine hc.mono ?_
  rintro e w' ⟨rfl,q,os,rfl⟩
  have hsl:l.mergeSort (fun x y=>!(ltOf cSym) y x)=sortY l:=rfl
  rw [hsl]
  have hF:flatK symV 2 (sortY l).toArray=((sortY l).flatMap symV).toArray:=flatK_eq _
  have hFs:((sortY l).flatMap symV).toArray.size≤cs.size:=by
   rw [ybs,zfg,zd5,← hlen2]
   exact hlen
  obtain ⟨p1,p2⟩:=put_take ((sortY l).flatMap symV).toArray cs hFs
  have hw:∀ k,(sortWorldK symV 2 w b 0 q (sortY l).toArray os).heap[k]? = if k<w.heap.size then (w.heap.modify b (onCells (putCells id 0 ((sortY l).flatMap symV).toArray)))[k]? else (os[k-w.heap.size]?):=by
   intro k
   unfold sortWorldK putRowK putRow mapBlock grow Sort.ahead
   rw [hF]
   simp only [Array.getElem?_append,Array.size_modify]
  obtain ⟨hH3,hX⟩:=hH.setVec (w':=sortWorldK symV 2 w b 0 q (sortY l).toArray os) (cs':=putCells id 0 ((sortY l).flatMap symV).toArray cs) hat hbase hheap (by
    rw [hw,if_pos (zbf hheap),yb8,if_pos rfl,hheap]
    rfl) p2 (fun k hk hkb=>by
    rw [hw,if_pos hk,yb8,if_neg (yc1 hkb)]) (size_sortWorldK_c symV 2 w b 0 q _ os) rfl rfl rfl (ydb w.drawn q) (by
    have e1:((sortY l).flatMap symC).length=((sortY l).flatMap symV).toArray.size:=by rw [ybs,zfg,zct]
    rw [e1,p1]
    exact sym_rel g w (sortY l)) (by rw [zct,zct,zd5]) hput
  exact ⟨_,_,g,_,rfl,⟨rfl,rfl⟩,hH3,by simp [VRel,LRel],hX⟩
end
section
attribute [local irreducible] VW VCall VO bits
theorem zca (n:Nat) (l:List Sym):zab n (l.flatMap symC):=zbl _ fun x=>by simp [symC,zab,below]
theorem keys75_c (H:Heap) (i:Nat):VCall Tryz.prog 209 [.mp i] H (fun r H'=>r=.clo (.func 240) [] [.ptr (H.length+0) 0]∧H'=H++[.box 182 [.mp i]]):=by
 refine fdG Tryz.func209 ⟨rfl,rfl,rfl⟩ fun hcl hbl=>?_
 conv=>whnf
 exact yem _ (yae _) ⟨rfl,rfl⟩
def lsK (n0:Nat) (n:Nat) (c:List AV):Heap:=[.box 56 [.vs (n0+1) n],.vec 92 2 c]
theorem app90_c (H:Heap) (i p:Nat) (ks:List Sym) (hl:ks.length≤1000000000000) (hi:H[i]? = some (mpY ks)) (hp:H[p]? = some (.box 182 [.mp i])) :
  VCall Tryz.prog 250 [.nils,.clo (.func 240) [] [.ptr p 0]] H (fun r H'=>∃ ord:List Sym,ord.Perm ks∧r=.vs (H.length+1) ord.length∧H'=H++[.box 56 [.vs (H.length+1) ord.length],.vec 92 2 (ord.flatMap symC),.dead]):=by
 refine fdG Tryz.func250 ⟨rfl,rfl,rfl⟩ fun hcl hbl=>?_
 conv=>whnf
 refine RangeN.vecB 0 0 92 2 rfl rfl rfl rfl rfl ?_
 refine range_keys rfl hcl rfl [2] _ rfl (by decide) rfl (by simp [zaw,below,tr]) ks
  (fun acc:List Sym=>lsK H.length acc.length (acc.flatMap symC)) (fun n acc=>acc.length=n) (fun acc x=>acc++[x]) [] rfl rfl p i hp hi (fun _ _ _=>rfl) ?_ (fun n acc x _ h _=>by simp [h]) ?_ ?_
 ·intro n acc _ B hB
  simp only [lsK,yay,yc5,or_false] at hB
  rcases hB with rfl|rfl
  ·simp [Blk.below,zab,below]
  ·exact zca _ acc
 ·intro n acc x Y hn hacc _
  obtain ⟨nm,ar⟩:=x
  have hl1:(acc++[(nm,ar)]).length=acc.length+1:=by simp
  have hf1:(acc++[(nm,ar)]).flatMap symC=acc.flatMap symC++[.str nm,.int .i64 (ar:Nat)]:=by simp [symC]
  have hb2:∀ B∈lsK H.length (acc++[(nm,ar)]).length ((acc++[(nm,ar)]).flatMap symC),B.below (H.length+3):=by
   intro B hB
   simp only [lsK,yay,yc5,or_false] at hB
   rcases hB with rfl|rfl
   ·simp [Blk.below,zab,below]
   ·exact zca _ _
  have hbk:zaw H.length (H.length+3) [(2,.lp 0 0)]:=by simp [zaw,below,tr]
  rw [hl1,hf1] at hb2 ⊢
  have hcl:=zct acc
  have hmx:acc.length+1≤maxLen:=ybk (show acc.length+1≤1000000000001 by omega) (by decide)
  have hside:AppV acc.length 1 (1+1) 24 (acc.flatMap symC) [.str nm,.int .i64 (ar:Nat)]:=⟨hcl,rfl,rfl,by omega,hmx⟩
  generalize acc.flatMap symC=pc at *
  unfold lsK at hb2 ⊢
  simp only [symC]
  conv=>whnf
  refine ⟨none,_,zbc Y rfl,zd2 rfl,?_⟩
  generalize hB:Blk.loop LoopState.busy none _ _=B
  (repeat' ((conv=>whnf);(first|refine yeh _ (zd2 rfl) ?_|refine yaf (by omega) ?_|refine ych _ (by (repeat' (first|assumption|exact zbc _ rfl|exact za2 rfl|refine za9 (B':=?_) ?_|refine zat ?_|fail))) ?_|fail)));conv=>whnf
  subst hB
  exact rnd_end (l':=[_,_]) .normal rfl rfl hb2 hbk
 ·intro ord hperm hlen
  have hf:ord.foldl (fun acc x=>acc++[x]) []=ord:=by
   have:∀ (l a:List Sym),l.foldl (fun acc x=>acc++[x]) a=a++l:=by
    intro l
    induction l with
    | nil=>intro a;simp
    | cons x l ih=>intro a;rw [yd9,ih];simp
   rw [this]
   rfl
  rw [hf]
  unfold lsK
  conv=>whnf
  exact yem _ (yae _) ⟨ord,hperm,rfl,rfl⟩
theorem sortY_eq {l m:List Sym} (h:l.Perm m):sortY l=sortY m:=by
 have hA:∀ x y,cSym y x=- cSym x y:=fun x y=>(zh4 x).anti y
 have hle:∀ x y:Sym,(!(Go.Proofs.ltOf cSym) y x)=decide (cSym x y≤0):=fun x y=>by
  unfold Go.Proofs.ltOf
  rw [hA x y]
  by_cases h:cSym x y≤0
  ·simp [h]
  ·simp [h];omega
 have hp:(sortY l).Perm (sortY m):=((zbp l).trans h).trans (zbp m).symm
 have hs:∀ l:List Sym,(sortY l).Pairwise fun x y=>cSym x y≤0:=fun l=>by
  have:=List.pairwise_mergeSort (le:=fun x y=>!(Go.Proofs.ltOf cSym) y x) (fun a b c h1 h2=>by
   rw [hle] at h1 h2 ⊢
   simp only [decide_eq_true_eq] at *
   exact ((zh4 a).tr b c h1 h2).1) (fun a b=>by
   rw [hle,hle,hA a b]
   simp
   omega) l
  refine this.imp fun {a b} h=>?_
  rw [hle] at h
  simpa using h
 exact hp.eq_of_pairwise (fun a b _ _ h1 h2=>(zh4 a).eq b (by have:=hA a b;omega)) (hs l) (hs m)
theorem coll86_c (H:Heap) (i p:Nat) (ks:List Sym) (hl:ks.length≤1000000000000) (hi:H[i]? = some (mpY ks)) (hp:H[p]? = some (.box 182 [.mp i])) :
  VCall Tryz.prog 238 [.clo (.func 240) [] [.ptr p 0]] H (fun r H'=>∃ ord:List Sym,ord.Perm ks∧r=.vs (H.length+1) ord.length∧H'=H++[.box 56 [.vs (H.length+1) ord.length],.vec 92 2 (ord.flatMap symC),.dead]):=by
 have h:=app90_c H i p ks hl hi hp
 refine fdG Tryz.func238 ⟨rfl,rfl,rfl⟩ fun hcl hbl=>?_
 conv=>whnf
 rw [← yat H] at h
 refine CallN.gen _ h ?_
 rw [yat]
 rintro r H' ⟨ord,hperm,rfl,rfl⟩
 refine ⟨H,3,_,rfl,rfl,rfl,?_⟩
 conv=>whnf
 exact yem _ (yae _) ⟨ord,hperm,rfl,rfl⟩
theorem sf74_c (H:Heap) (i p:Nat) (ks:List Sym) (hl:ks.length≤1000000000000) (hi:H[i]? = some (mpY ks)) (hp:H[p]? = some (.box 182 [.mp i])) :
  VDet Tryz.prog 208 [.clo (.func 240) [] [.ptr p 0],.clo (.func 237) [] []] H (.sl none ks.length ((sortY ks).flatMap symC)):=by
 have h:=coll86_c H i p ks hl hi hp
 refine fdD Tryz.func208 ⟨rfl,rfl,rfl⟩ fun hcl hbl=>?_
 conv=>whnf
 rw [← yat H] at h
 refine CallN.gen _ h ?_
 rw [yat]
 rintro r H' ⟨ord,hperm,rfl,rfl⟩
 have hlen:=hperm.length_eq
 have hs:=sortY_eq hperm
 have h2:=sort87_c (H++[.box 56 [.vs (H.length+1) ord.length],.vec 92 2 (ord.flatMap symC),.dead]) (H.length+1) ord (by omega) (by simp)
 rw [zeg] at h2
 have h2:VCall Tryz.prog 239 [.vs (H.length+1) ord.length,.clo (.func 237) [] []] (H++[.box 56 [.vs (H.length+1) ord.length],.vec 92 2 (ord.flatMap symC),.dead]) (fun r H'=>r=.tup []∧H'=H++[.box 56 [.vs (H.length+1) ord.length],.vec 92 2 ((sortY ord).flatMap symC),.dead]):=h2
 refine ⟨H,3,_,rfl,rfl,rfl,?_⟩
 (repeat' ((conv=>whnf);(first|refine ycv _ _ _ 3 h2 rfl rfl ?_|fail)));conv=>whnf
 refine ydy (u':=.sl none ord.length ((sortY ord).flatMap symC)) (by simp [below,zca]) (Frz.vs rfl (by rw [zct,zd5]) (ydu _)) ?_
 rw [hlen,hs]
 exact yae _
theorem sorted47_c (H:Heap) (i:Nat) (ks:List Sym) (hl:ks.length≤1000000000000) (hi:H[i]? = some (mpY ks)):VDet Tryz.prog 203 [.mp i] H (.sl none ks.length ((sortY ks).flatMap symC)):=by
 have h1:VCall Tryz.prog 209 [.mp i] (H++[]) (fun r H'=>r=.clo (.func 240) [] [.ptr (H.length+0) 0]∧H'=(H++[])++[.box 182 [.mp i]]):=by
  rw [yat]
  exact keys75_c H i
 have h2:=sf74_c (H++[.box 182 [.mp i]]) i (H.length+0) ks hl (zat hi) (by simp)
 refine fdD Tryz.func203 ⟨rfl,rfl,rfl⟩ fun hcl hbl=>?_
 (repeat' ((conv=>whnf);(first|refine yab _ (h2) ?_|refine yek _ _ _ 1 h1 rfl rfl rfl ?_|fail)));conv=>whnf
 refine ya2 ?_ (yae _)
 exact ⟨fun _ e=>(nomatch e),zca _ _⟩
end
section
def memY (x:Sym) (ks:List Sym):Bool:=ks.any fun y=>decide (x=y)
theorem zh7 (x:Sym) (ks:List Sym):memY x ks=true↔x∈ks:=by
 unfold memY
 rw [ydc]
 constructor
 ·rintro ⟨y,h,e⟩
  rw [decide_eq_true_eq] at e
  exact e▸h
 ·intro h
  exact ⟨x,h,by simp⟩
def insY (ks:List Sym) (x:Sym):List Sym:=if memY x ks=true then ks else ks++[x]
theorem ba_beq (a b:ByteArray):(a.toList==b.toList)=decide (a=b):=by
 have h:a.toList=b.toList↔a=b:=by
  constructor
  ·intro h
   rw [ByteArray.toList_eq,ByteArray.toList_eq] at h
   exact ByteArray.ext (Array.toList_inj.1 h)
  ·rintro rfl;rfl
 by_cases hab:a=b
 ·subst hab;simp
 ·rw [decide_eq_false hab,beq_eq_false_iff_ne]
  exact fun e=>hab (h.1 e)
theorem eqSym (x y:Sym):eqV Tryz.kn Tryz.T 20 92 (.agg (symC x)) (.agg (symC y))=some (decide (x=y)):=by
 obtain ⟨a,n⟩:=x
 obtain ⟨b,m⟩:=y
 show some (a.toList==b.toList&&((n:Int)==(m:Int)&&true))=_
 rw [ba_beq,Bool.and_true]
 congr 1
 apply ycd.2
 rw [yak,decide_eq_true_eq,decide_eq_true_eq,beq_iff_eq,ycf]
 constructor
 ·rintro ⟨h1,h2⟩;exact ⟨h1,by omega⟩
 ·rintro ⟨h1,h2⟩;exact ⟨h1,by omega⟩
theorem mfindY (c:Sym):∀ ks:List Sym,(c∈ks→∃ j,j<ks.length∧ks[j]? = some c∧mfind (eqV Tryz.kn Tryz.T 20 92) (.agg (symC c)) (ks.map fun x=>.agg (symC x))=some (some j))∧(c ∉ ks→mfind (eqV Tryz.kn Tryz.T 20 92) (.agg (symC c)) (ks.map fun x=>.agg (symC x))=some none)
 | []=>⟨fun h=>by simp at h,fun _=>rfl⟩
 | d::ks=>by
   have he:=eqSym c d
   obtain ⟨h1,h2⟩:=mfindY c ks
   simp only [yb4,mfind,he]
   by_cases hcd:c=d
   ·subst hcd
    simp only [decide_true]
    exact ⟨fun _=>⟨0,by simp,rfl,rfl⟩,fun h=>absurd (ybd) h⟩
   ·have hb:decide (c=d)=false:=by simpa using hcd
    simp only [hb]
    refine ⟨fun h=>?_,fun h=>?_⟩
    ·obtain ⟨j,e1,e2,e3⟩:=h1 ((yay.1 h).resolve_left hcd)
     exact ⟨j+1,by simpa using e1,by simpa using e2,by rw [e3]⟩
    ·rw [h2 fun q=>h (ya5 _ q)]
theorem putY (c:Sym) (ks:List Sym):MPut (eqV Tryz.kn Tryz.T 20 92) (ks.map fun x=>.agg (symC x)) (ks.map fun _=>.bool true) (.agg (symC c)) (.bool true) ((insY ks c).map fun x=>.agg (symC x)) ((insY ks c).map fun _=>.bool true):=by
 obtain ⟨h1,h2⟩:=mfindY c ks
 unfold insY
 by_cases h:c∈ks
 ·rw [if_pos ((zh7 c ks).2 h)]
  obtain ⟨j,e1,e2,e3⟩:=h1 h
  have:=MPut.old (vs:=ks.map fun _=>AV.bool true) (v:=.bool true) j e3 (by rw [ya8,e2];rfl)
  have hs:(ks.map fun _=>AV.bool true).set j (.bool true)=ks.map fun _=>.bool true:=by
   apply ybt
   intro i
   rw [yaw]
   split
   ·rename_i hi
    subst hi
    simp [e1]
   ·rfl
  rwa [hs] at this
 ·rw [if_neg (fun q=>h ((zh7 c ks).1 q))]
  have:=MPut.new (vs:=ks.map fun _=>AV.bool true) (v:=.bool true) (h2 h)
  simpa using this
attribute [local irreducible] VW VCall VO bits
def stepY (ks:List Sym) (x:Fo):List Sym×Option Code:=match x with
 | .mk op s l _=>(if op=1 then insY ks (s,l.length) else ks,none)
def predY (f:Fo):List Sym:=(foldB stepY [] (fpart f)).1
theorem stepY_none (l:List Fo):∀ ks,(foldB stepY ks l).2=none:=by
 induction l with
 | nil=>intro ks;rfl
 | cons x l ih =>
   intro ks
   rw [zfa]
   have hn:(stepY ks x).2.isNone=true:=by cases x;rfl
   rw [hn,if_pos rfl]
   exact ih _
def lsY (n0:Nat) (fc:List AV) (m:Blk):Heap:=[.box 29 fc,m,.box 182 [.mp (n0+1)],.box 29 fc]
theorem zgi (n0:Nat) (f:Fo) (ks:List Sym) (N:Nat) (h:n0+4≤N):∀ B∈lsY n0 f.cells (mpY ks),B.below N:=by
 intro B hB
 have:=fo_below N f
 simp only [lsY,yay,yc5,or_false] at hB
 rcases hB with rfl|rfl|rfl|rfl
 ·exact this
 ·exact zgh _ _
 ·simp [Blk.below,zab,below];omega
 ·exact this
theorem pred_c (f:Fo) (hg:f.good) (hn:(predY f).length≤1000000000000) (H:Heap):VDet Tryz.prog 145 [.agg f.cells] H (.sl none (predY f).length ((sortY (predY f)).flatMap symC)):=by
 have hw:=walk_c f (H++[.box 29 f.cells,mpY [],.box 182 [.mp (H.length+1)]])
 rw [ya6] at hw
 have hce:∃ o s ln lc mn mc,f.cells=[.int .u8 (o:Nat),.str s,.sl none ln lc,.sl none mn mc]:=by
  obtain ⟨o,s,l,m,rfl⟩:=fo_ex f
  rw [zaq]
  exact ⟨_,_,_,_,_,_,rfl⟩
 obtain ⟨o,s,ln,lc,mn,mc,hce⟩:=hce
 have hjp:=stepY_none (fpart f) []
 have hpr:predY f=(foldB stepY [] (fpart f)).1:=rfl
 rw [hce] at hw ⊢
 have hso:=fun X=>sorted47_c (H++(lsY H.length [.int .u8 o,.str s,.sl none ln lc,.sl none mn mc] (mpY (predY f))++X)) (H.length+1) (predY f) hn (by simp [lsY])
 refine fdD Tryz.func145 ⟨rfl,rfl,rfl⟩ fun hcl hbl=>?_
 (repeat' ((conv=>whnf);(first|refine yek _ _ _ 4 hw rfl rfl rfl ?_|fail)));conv=>whnf
 refine range_walk clo_good f hg rfl hcl rfl [3] _ rfl (by decide) rfl (by simp [zaw,below,tr])
  (fun ks:List Sym=>lsY H.length [.int .u8 o,.str s,.sl none ln lc,.sl none mn mc] (mpY ks)) (fun _=>True) (fun _=>True) stepY [] trivial rfl 3 (by rw [hce];rfl) (fun _ h=>h) (fun _ _=>rfl) ?_ (fun _ _ h hx=>⟨trivial,fun _=>trivial⟩) ?_ ?_
 ·intro ks _ B hB
  have h:=zgi H.length f ks (H.length+5) (by omega) B
  rw [hce] at h
  exact h hB
 ·intro ks x Y _ hx
  obtain ⟨o2,t2,a2,m2,rfl⟩:=fo_ex x
  have hstep:stepY ks (.mk o2 t2 a2 m2)=(if o2=1 then insY ks (t2,a2.length) else ks,none):=rfl
  rw [hstep,zaq]
  have hb0:=zgi H.length f ks (H.length+5) (by omega)
  have hb2:=zgi H.length f (insY ks (t2,a2.length)) (H.length+5) (by omega)
  rw [hce] at hb0 hb2
  have hbk:zaw H.length (H.length+5) [(3,.lp (0+1+1) 0)]:=by simp [zaw,below,tr]
  have hput:=putY (t2,a2.length) ks
  by_cases ho:o2=1
  ·subst ho
   simp only [if_true]
   unfold lsY mpY at hb2 ⊢
   conv=>whnf
   refine ⟨none,_,zbc Y rfl,zd2 rfl,?_⟩
   generalize hB:Blk.loop LoopState.busy none _ _=B
   (repeat' ((conv=>whnf);(first|refine yeh _ (zd2 rfl) ?_|refine yaq rfl ?_|refine ydt _ _ ⟨⟨_,rfl⟩,hput⟩ ?_|refine ych _ (by (repeat' (first|assumption|exact zbc _ rfl|exact za2 rfl|refine za9 (B':=?_) ?_|refine zat ?_|fail))) ?_|fail)));conv=>whnf
   subst hB
   exact rnd_end (l':=[_,_,_,_]) .normal rfl rfl hb2 hbk
  ·rw [if_neg ho]
   unfold lsY mpY at hb0 ⊢
   conv=>whnf
   refine ⟨none,_,zbc Y rfl,zd2 rfl,?_⟩
   generalize hB:Blk.loop LoopState.busy none _ _=B
   (repeat' ((conv=>whnf);(first|refine ya1 (by omega) ?_|fail)));conv=>whnf
   subst hB
   exact rnd_end (l':=[_,_,_,_]) .normal rfl rfl hb0 hbk
 ·rw [← hpr]
  generalize foldB stepY [] (fpart f)=res at *
  obtain ⟨ps,jp⟩:=res
  simp only at hjp ⊢
  subst hjp
  unfold lsY at hso ⊢
  generalize predY f=pf at *
  (repeat' ((conv=>whnf);(first|refine yab _ (hso _) ?_|fail)));conv=>whnf
  refine ya2 ?_ (yae _)
  exact ⟨fun _ e=>(nomatch e),zca _ _⟩
end
end Go.Proofs.YtgdmldelijeaoaaGreatDoor
