/- A text of the proof: the parts SG10z, SH10z, SI10z, A13z, B13z, CA13c, CB13c, CC13c, C13z, DC13c, EC13c, FC13c, GC13c, HC13c, D13z, F13z, G13z, H13z, I13z, J13z. -/
import Derived.Test.YtjflngchbeegcaaGreatDoorK8
set_option linter.unusedSimpArgs false
set_option linter.unusedVariables false
set_option maxHeartbeats 8000000
namespace Go.Proofs.YtjflngchbeegcaaGreatDoor.P10
open Go.Vsi
section
def inR (a b:Nat) (c:UInt8):Bool:=decide (a≤c.toNat)&&decide (c.toNat≤b)
def isCap:UInt8→Bool:=inR 65 90
def isSml:UInt8→Bool:=inR 97 122
def isDig:UInt8→Bool:=inR 48 57
def isAln (c:UInt8):Bool:=isSml c || (isCap c || isDig c)
def isVa1:UInt8→Bool:=inR 117 122
def isFu1:UInt8→Bool:=inR 97 116
def wordE (s:ByteArray) (l:Array UInt8):Bool:=s.toList==(ByteArray.mk l).toList
def isRes (s:ByteArray):Bool:=wordE s #[97,108,108] || (wordE s #[115,111,109,101] || (wordE s #[102,97,108,115,101] || (wordE s #[110,101,120,116] || (wordE s #[97,108,119,97,121,115] || wordE s #[117,110,116,105,108]))))
def bt (s:ByteArray) (i:Nat):UInt8:=s.data.toList.getD i 0
def nameB (p q:UInt8→Bool) (s:ByteArray):Bool:=decide (1≤s.size∧s.size≤16)&&(!isRes s&&(p (bt s 0)&&(List.range' 1 (s.size-1)).all fun i=>q (bt s i)))
def zec:ByteArray→Bool:=nameB isCap isAln
def isVar:ByteArray→Bool:=nameB isVa1 isDig
def isFun:ByteArray→Bool:=nameB isFu1 isAln
theorem zk6 (s:ByteArray) (i:Nat) (h:i<s.size) (j:Int) (hj:j=i):s[j.toNat]? = some (bt s i):=by
 subst hj
 rw [ybn]
 have h2:i<s.data.toList.length:=by simpa using h
 have:s[i]? = s.data[i]? := by
  rw [getElem?_pos s i h]
  rw [yby (show i<s.data.size from h)]
  rfl
 rw [this]
 unfold bt
 rw [ybp,yal h2]
 simp
attribute [local irreducible] VW VCall VO
def CharC (F:Nat) (p:UInt8→Bool):Prop:=∀ (c:UInt8) (H:Heap),VDet Tryz.prog F [.int .u8 c.toNat] H (.bool (p c))
theorem zpw:CharC 91 isCap:=by
 intro c H
 refine fdD Tryz.func91 ⟨rfl,rfl,rfl⟩ fun hcl hbl=>?_
 (repeat' ((conv=>whnf);(first|refine za1 (fun _=>?_) (fun _=>?_)|fail)));all_goals (conv=>whnf)
 all_goals (refine ya1 trivial (Wk.of_eq (congrArg AV.bool (yb9.2 ?_)));simp only [isCap,inR,yak,decide_eq_true_eq,ya9,false_iff];omega)
theorem small_g:CharC 131 isSml:=by
 intro c H
 refine fdD Tryz.func131 ⟨rfl,rfl,rfl⟩ fun hcl hbl=>?_
 (repeat' ((conv=>whnf);(first|refine za1 (fun _=>?_) (fun _=>?_)|fail)));all_goals (conv=>whnf)
 all_goals (refine ya1 trivial (Wk.of_eq (congrArg AV.bool (yb9.2 ?_)));simp only [isSml,inR,yak,decide_eq_true_eq,ya9,false_iff];omega)
theorem zzo:CharC 132 isDig:=by
 intro c H
 refine fdD Tryz.func132 ⟨rfl,rfl,rfl⟩ fun hcl hbl=>?_
 (repeat' ((conv=>whnf);(first|refine za1 (fun _=>?_) (fun _=>?_)|fail)));all_goals (conv=>whnf)
 all_goals (refine ya1 trivial (Wk.of_eq (congrArg AV.bool (yb9.2 ?_)));simp only [isDig,inR,yak,decide_eq_true_eq,ya9,false_iff];omega)
theorem va1_g:CharC 181 isVa1:=by
 intro c H
 refine fdD Tryz.func181 ⟨rfl,rfl,rfl⟩ fun hcl hbl=>?_
 (repeat' ((conv=>whnf);(first|refine za1 (fun _=>?_) (fun _=>?_)|fail)));all_goals (conv=>whnf)
 all_goals (refine ya1 trivial (Wk.of_eq (congrArg AV.bool (yb9.2 ?_)));simp only [isVa1,inR,yak,decide_eq_true_eq,ya9,false_iff];omega)
theorem fu1_g:CharC 196 isFu1:=by
 intro c H
 refine fdD Tryz.func196 ⟨rfl,rfl,rfl⟩ fun hcl hbl=>?_
 (repeat' ((conv=>whnf);(first|refine za1 (fun _=>?_) (fun _=>?_)|fail)));all_goals (conv=>whnf)
 all_goals (refine ya1 trivial (Wk.of_eq (congrArg AV.bool (yb9.2 ?_)));simp only [isFu1,inR,yak,decide_eq_true_eq,ya9,false_iff];omega)
theorem zz0:CharC 92 isAln:=by
 intro c H
 have h1:=small_g c
 have h2:=zpw c
 have h3:=zzo c
 unfold isAln
 generalize isSml c=a at *
 generalize isCap c=b at *
 generalize isDig c=d at *
 refine fdD Tryz.func92 ⟨rfl,rfl,rfl⟩ fun hcl hbl=>?_
 (repeat' ((conv=>whnf);(first|(refine IfN.mk ?_ ?_ <;> intro _)|(refine ybk ?_;first|refine yab _ (h1 _) ?_|refine yab _ (h2 _) ?_|refine yab _ (h3 _) ?_|fail)|fail)));all_goals (conv=>whnf)
 all_goals exact ya1 trivial (Wk.of_eq (by simp_all))
theorem zu2 (s:ByteArray) (H:Heap):VDet Tryz.prog 130 [.str s] H (.bool (isRes s)):=by
 unfold isRes
 have e1:(s.toList==(ByteArray.mk #[97,108,108]).toList)=wordE s #[97,108,108]:=rfl
 have e2:(s.toList==(ByteArray.mk #[115,111,109,101]).toList)=wordE s #[115,111,109,101]:=rfl
 have e3:(s.toList==(ByteArray.mk #[102,97,108,115,101]).toList)=wordE s #[102,97,108,115,101]:=rfl
 have e4:(s.toList==(ByteArray.mk #[110,101,120,116]).toList)=wordE s #[110,101,120,116]:=rfl
 have e5:(s.toList==(ByteArray.mk #[97,108,119,97,121,115]).toList)=wordE s #[97,108,119,97,121,115]:=rfl
 have e6:(s.toList==(ByteArray.mk #[117,110,116,105,108]).toList)=wordE s #[117,110,116,105,108]:=rfl
 generalize wordE s #[97,108,108]=b1 at *
 generalize wordE s #[115,111,109,101]=b2 at *
 generalize wordE s #[102,97,108,115,101]=b3 at *
 generalize wordE s #[110,101,120,116]=b4 at *
 generalize wordE s #[97,108,119,97,121,115]=b5 at *
 generalize wordE s #[117,110,116,105,108]=b6 at *
 cases b1
 ·cases b2
  ·cases b3
   ·cases b4
    ·cases b5
     ·cases b6
      ·refine fdD Tryz.func130 ⟨rfl,rfl,rfl⟩ fun hcl hbl=>?_
       (repeat' ((conv=>whnf);(first|(refine yai ?_;first|refine yau e1 ?_|refine yau e2 ?_|refine yau e3 ?_|refine yau e4 ?_|refine yau e5 ?_|refine yau e6 ?_|fail)|fail)));conv=>whnf
       exact eT trivial
      ·refine fdD Tryz.func130 ⟨rfl,rfl,rfl⟩ fun hcl hbl=>?_
       (repeat' ((conv=>whnf);(first|(refine yai ?_;first|refine yau e1 ?_|refine yau e2 ?_|refine yau e3 ?_|refine yau e4 ?_|refine yau e5 ?_|refine yaq e6 ?_|fail)|fail)));conv=>whnf
       exact eT trivial
     ·refine fdD Tryz.func130 ⟨rfl,rfl,rfl⟩ fun hcl hbl=>?_
      (repeat' ((conv=>whnf);(first|(refine yai ?_;first|refine yau e1 ?_|refine yau e2 ?_|refine yau e3 ?_|refine yau e4 ?_|refine yaq e5 ?_|fail)|fail)));conv=>whnf
      exact eT trivial
    ·refine fdD Tryz.func130 ⟨rfl,rfl,rfl⟩ fun hcl hbl=>?_
     (repeat' ((conv=>whnf);(first|(refine yai ?_;first|refine yau e1 ?_|refine yau e2 ?_|refine yau e3 ?_|refine yaq e4 ?_|fail)|fail)));conv=>whnf
     exact eT trivial
   ·refine fdD Tryz.func130 ⟨rfl,rfl,rfl⟩ fun hcl hbl=>?_
    (repeat' ((conv=>whnf);(first|(refine yai ?_;first|refine yau e1 ?_|refine yau e2 ?_|refine yaq e3 ?_|fail)|fail)));conv=>whnf
    exact eT trivial
  ·refine fdD Tryz.func130 ⟨rfl,rfl,rfl⟩ fun hcl hbl=>?_
   (repeat' ((conv=>whnf);(first|(refine yai ?_;first|refine yau e1 ?_|refine yaq e2 ?_|fail)|fail)));conv=>whnf
   exact eT trivial
 ·refine fdD Tryz.func130 ⟨rfl,rfl,rfl⟩ fun hcl hbl=>?_
  (repeat' ((conv=>whnf);(first|refine yaq e1 ?_|fail)));conv=>whnf
  exact eT trivial
theorem zr8 (F1 F2:Nat) (p q:UInt8→Bool) (h1:CharC F1 p) (h2:CharC F2 q) (s:ByteArray) (hs:s.size≤9223372036854775807) (H:Heap):VDet Tryz.prog 129 [.str s,.rptr [.clo (.func F1) [] []],.rptr [.clo (.func F2) [] []]] H (.bool (nameB p q s)):=by
 have hr:=zu2 s
 unfold nameB
 by_cases h0:1≤s.size∧s.size≤16
 ·rw [decide_eq_true h0,ya8]
  have hb0:=zk6 s 0 (by omega) 0 rfl
  have hp:=h1 (bt s 0)
  generalize isRes s=r at *
  cases r with
  | true =>
    refine fdD Tryz.func129 ⟨rfl,rfl,rfl⟩ fun hcl hbl=>?_
    (repeat' ((conv=>whnf);(first|(refine yai ?_;first|refine yaq rfl ?_|refine zah (by omega) ?_|fail)|refine yaf (by kernel_rfl) ?_|refine yan _ (fun _ hq X=>hr _) ?_|refine zad [] ?_|fail)));conv=>whnf
    exact eT trivial
  | false =>
    cases hpb:p (bt s 0) with
    | false =>
      rw [hpb] at hp
      refine fdD Tryz.func129 ⟨rfl,rfl,rfl⟩ fun hcl hbl=>?_
      (repeat' ((conv=>whnf);(first|(refine yai ?_;first|refine yas ?_|refine yau rfl ?_|refine zah (by omega) ?_|fail)|(refine yaf ?_ ?_;· first|kernel_rfl|omega|fail)|(refine ycg ?_;first|refine yan _ (fun _ hq X=>hr _) ?_|refine yan _ (fun _ hq X=>hp _) ?_|fail)|refine ydn _ hb0 ?_|refine zad [] ?_|fail)));conv=>whnf
      exact eT trivial
    | true =>
      rw [hpb] at hp
      refine fdD Tryz.func129 ⟨rfl,rfl,rfl⟩ fun hcl hbl=>?_
      (repeat' ((conv=>whnf);(first|(refine yai ?_;first|refine yas ?_|refine yaq rfl ?_|refine yau rfl ?_|refine zah (by omega) ?_|fail)|(refine yaf ?_ ?_;· first|kernel_rfl|omega|fail)|(refine ycg ?_;first|refine yan _ (fun _ hq X=>hr _) ?_|refine yan _ (fun _ hq X=>hp _) ?_|fail)|refine ydn _ hb0 ?_|refine zad [] ?_|fail)));conv=>whnf
      refine zam Tryz.E0 zaf (σ:=Nat) (fun k=>1≤k∧k≤s.size∧∀ i,1≤i→i<k→q (bt s i)=true) (fun k=>s.size-k) (fun k=>[(5,.v (.int .i64 k))]) (fun _=>[]) _ 1 rfl hcl [0,2] rfl ⟨yax _,by omega,fun i h1 h2=>by omega⟩ ⟨⟨_,rfl,yae _⟩,trivial⟩ rfl (fun _ _=>rfl) ?_
      rintro k ⟨hk1,hk,hall⟩
      clear hbl
      by_cases hlt:k<s.size
      ·have hbk:=zk6 s k hlt k rfl
       have hcq:=h2 (bt s k)
       cases hqb:q (bt s k) with
       | true =>
         rw [hqb] at hcq
         (repeat' ((conv=>whnf);(first|(refine yai ?_;first|refine yas ?_|refine yaq rfl ?_|refine yar (by omega) ?_|fail)|(refine zac _ _ Cst.h Cst.h ?_ ?_;· omega)|(refine yaf ?_ ?_;· first|kernel_rfl|omega|fail)|refine yan _ (fun _ hq X=>hcq _) ?_|refine ydn _ hbk ?_|refine zad [] ?_|fail)));conv=>whnf
         (refine ⟨⟨k+1,⟨by omega,by omega,fun i h3 h4=>by
          by_cases e:i=k
          ·rw [e];exact hqb
          ·exact hall i h3 (by omega)⟩,by omega,?_,.inl ⟨rfl,rfl⟩,rfl,_,rfl,?_⟩⟩;rotate_left 1;exact .inl rfl;exact ⟨⟨_,rfl,yae _⟩,trivial⟩)
       | false =>
         rw [hqb] at hcq
         (repeat' ((conv=>whnf);(first|(refine yai ?_;first|refine yas ?_|refine yau rfl ?_|refine yar (by omega) ?_|fail)|(refine yaf ?_ ?_;· first|kernel_rfl|omega|fail)|refine yan _ (fun _ hq X=>hcq _) ?_|refine ydn _ hbk ?_|refine zad [] ?_|fail)));conv=>whnf
         refine ya1 trivial (Wk.of_eq ?_)
         have:((List.range' 1 (s.size-1)).all fun i=>q (bt s i))=false:=by
          apply ybh.2
          intro hA
          have:=yao.1 hA k (List.mem_range'.2 ⟨k-1,by omega,by omega⟩)
          rw [hqb] at this
          cases this
         rw [this]
         rfl
      ·have:((List.range' 1 (s.size-1)).all fun i=>q (bt s i))=true:=by
        rw [yao]
        intro i hi
        obtain ⟨j,hj,rfl⟩:=List.mem_range'.1 hi
        exact hall _ (by omega) (by omega)
       rw [this]
       (repeat' ((conv=>whnf);(first|refine zah (by omega) ?_|fail)));conv=>whnf
       exact eT trivial
 ·rw [decide_eq_false h0,ya0]
  refine fdD Tryz.func129 ⟨rfl,rfl,rfl⟩ fun hcl hbl=>?_
  (repeat' ((conv=>whnf);(first|(refine yai ?_;first|refine yar (by omega) ?_|refine za1 (fun _=>?_) (fun _=>?_)|fail)|refine yaf (by kernel_rfl) ?_|refine zad [] ?_|fail)));all_goals (conv=>whnf)
  all_goals exact eT trivial
end
section
def jB (L:Int):Blk:=.box 150 [.bool false,.int .i64 L,.int .i64 40]
theorem zgq (L:Int) (n:Nat):(jB L).below n:=by simp [jB,Blk.below,zaa,below]
mutual
def jT (d:Nat):Tm→Int→Int×Bool
 | .mk v s l,L=>if ¬ (1≤L∧d≤40) then (L-1,false) else if v then (L-1,decide (l.length=0)&&isVar s) else if l.length≤4∧isFun s=true then jTs (d+1) l (L-1) else (L-1,false)
def jTs (d:Nat):List Tm→Int→Int×Bool
 | [],L=>(L,true)
 | x::l,L=>match jT d x L with
   | (M,true)=>jTs d l M
   | (M,false)=>(M,false)
end
mutual
theorem jT_bd (d:Nat):∀ (x:Tm) (L:Int),0≤L→-1≤(jT d x L).1∧(jT d x L).1≤L∧((jT d x L).2=true→0≤(jT d x L).1)
 | .mk v s l,L,h=>by
   unfold jT
   split
   ·exact ⟨by simp only;omega,by simp only;omega,fun h=>by cases h⟩
   ·split
    ·exact ⟨by simp only;omega,by simp only;omega,fun _=>by simp only;omega⟩
    ·split
     ·have:=ztv (d+1) l (L-1) (by omega)
      exact ⟨this.1,by omega,this.2.2⟩
     ·exact ⟨by simp only;omega,by simp only;omega,fun h=>by cases h⟩
theorem ztv (d:Nat):∀ (l:List Tm) (L:Int),0≤L→-1≤(jTs d l L).1∧(jTs d l L).1≤L∧((jTs d l L).2=true→0≤(jTs d l L).1)
 | [],L,h=>by unfold jTs;exact ⟨by simp only;omega,by simp only;omega,fun _=>h⟩
 | x::l,L,h=>by
   have h1:=jT_bd d x L h
   unfold jTs
   split
   ·rename_i M hM
    rw [hM] at h1
    have h2:=ztv d l M (h1.2.2 rfl)
    exact ⟨h2.1,by have:=h1.2.1;simp only at this;omega,h2.2.2⟩
   ·rename_i M hM
    rw [hM] at h1
    exact ⟨h1.1,h1.2.1,fun h=>by cases h⟩
end
theorem SegN.nthE {α:Type} {f:α→List AV} {sz:Nat} {l:List α} {i:Int} {k:List AV→Prop} {c:List AV} (d:α) (m:Nat) (hi:i=m) (hm:m<l.length) (hsz:∀ x,(f x).length=sz) (e:f (l.getD m d)=c) (h:k c):SegN (l.flatMap f) (i.toNat * sz) k :=
 zce d m hi hm hsz (e▸h)
theorem zcv:∀ x:Tm,x.cells.length=3
 | .mk v s l=>by rw [zay];rfl
theorem zgl {H:Heap} {i:Nat} {B:Blk} (h:H[i]? = some B):H.set i B=H:=by
 apply ybr
 intro j
 rw [yaw]
 split
 ·rename_i e
  subst e
  split
  ·exact h.symm
  ·rename_i hlt
   rw [ycl (by omega)] at h
   cases h
 ·rfl
theorem zd0 {H:Heap} (h:zdq H) (i:Nat) (B:Blk) (hB:B.below H.length):zdq (H.set i B):=by
 intro j C hj
 rw [List.length_set]
 rw [yaw] at hj
 split at hj
 ·split at hj
  ·cases hj;exact hB
  ·cases hj
 ·exact h j C hj
theorem zk1 {α:Type} (l:List α) (k:Nat) (d:α) (h:k<l.length):l.drop k=l.getD k d::l.drop (k+1):=by
 rw [List.drop_eq_getElem_cons h]
 simp [ybp,yal h]
theorem getD_memT {α:Type} (l:List α) (k:Nat) (d:α) (h:k<l.length):l.getD k d∈l:=by
 rw [show l.getD k d=l[k] by simp [ybp,yal h]]
 exact List.getElem_mem h
theorem jTs_nil (d:Nat) (L:Int):jTs d [] L=(L,true):=by unfold jTs;rfl
theorem ztu (d:Nat) (x:Tm) (l:List Tm) (L:Int):jTs d (x::l) L=if (jT d x L).2 then jTs d l (jT d x L).1 else ((jT d x L).1,false):=by
 rw [jTs.eq_def]
 simp only
 split
 ·rename_i M h;rw [h];rfl
 ·rename_i M h;rw [h];rfl
attribute [local irreducible] VW VCall VO bits
theorem node_g (H:Heap) (i:Nat) (L:Int) (d:Nat) (hi:H[i]? = some (jB L)) (hL:0≤L∧L≤400) (hd:d≤41):VCall Tryz.prog 159 [.ptr i 0,.int .i64 d] H (setR H i (jB (L-1)) (.bool (decide (1≤L∧d≤40)))):=by
 unfold jB at hi ⊢
 by_cases h:1≤L∧d≤40
 ·rw [decide_eq_true h]
  refine fdG Tryz.func159 ⟨rfl,rfl,rfl⟩ fun hcl hbl=>?_
  (repeat' ((conv=>whnf);(first|refine yar (by omega) ?_|refine yck (by omega) ?_|refine ydt _ rfl ?_|refine ycd _ (by (repeat' (first|assumption|exact za7 _ rfl|exact zaj rfl|refine zbc (B':=?_) ?_|refine zap ?_|fail))) ?_|fail)));conv=>whnf
  all_goals exact zaw (by simp [Blk.below,zaa,below]) trivial (Wk.of_eq (by simp;try omega))
 ·rw [decide_eq_false h]
  refine fdG Tryz.func159 ⟨rfl,rfl,rfl⟩ fun hcl hbl=>?_
  (repeat' ((conv=>whnf);(first|refine za1 (fun _=>?_) (fun _=>?_)|refine yck (by omega) ?_|refine ydt _ rfl ?_|refine ycd _ (by (repeat' (first|assumption|exact za7 _ rfl|exact zaj rfl|refine zbc (B':=?_) ?_|refine zap ?_|fail))) ?_|fail)));all_goals (conv=>whnf)
  all_goals exact zaw (by simp [Blk.below,zaa,below]) trivial (Wk.of_eq (by simp;try omega))
def TermP (x:Tm):Prop:=∀ (H:Heap) (i:Nat) (L:Int) (d:Nat),H[i]? = some (jB L)→0≤L∧L≤400→d≤41→VCall Tryz.prog 173 [.ptr i 0,.agg x.cells,.int .i64 d] H (setR H i (jB (jT d x L).1) (.bool (jT d x L).2))
def zz4 (l:List Tm):Prop:=∀ (H:Heap) (i:Nat) (L:Int) (d:Nat),H[i]? = some (jB L)→0≤L∧L≤400→d≤41→VCall Tryz.prog 162 [.ptr i 0,.sl none l.length (l.flatMap Tm.cells),.int .i64 d] H (setR H i (jB (jTs d l L).1) (.bool (jTs d l L).2))
theorem zwx (l:List Tm) (hlen:l.length≤9223372036854775807) (hl:∀ x∈l,TermP x):zz4 l:=by
 intro H i L d hi hL hd
 refine fdG Tryz.func162 ⟨rfl,rfl,rfl⟩ fun hcl hbl=>?_
 conv=>whnf
 refine zg1 Tryz.E0 zaf (σ:=Nat×Int) (fun p=>p.1≤l.length∧(0≤p.2∧p.2≤400)∧jTs d l L=jTs d (l.drop p.1) p.2) (fun p=>l.length-p.1) (fun p=>[(11,.v (.int .i64 p.1))]) (fun p=>H.set i (jB p.2)) (fun _=>[]) _ (0,L) (fun p _=>by simp) (fun p _=>zd0 hcl i _ (zgq _ _)) [0,2,9,10] rfl ⟨yah _,hL,rfl⟩ ⟨⟨_,rfl,yae _⟩,trivial⟩ (zgl hi).symm rfl (fun _ _=>rfl) ?_
 rintro ⟨k,M⟩ ⟨hk,hM,hj⟩
 simp only at hk hM hj
 have hN:(H.set i (jB M)).length=H.length:=by simp
 by_cases hlt:k<l.length
 ·have hmem:=getD_memT l k (Tm.mk false .empty []) hlt
  rw [zk1 l k (Tm.mk false .empty []) hlt] at hj
  have hx:=fun X=>hl _ hmem (H.set i (jB M)++X) i M d (zap (zbc hi)) hM hd
  have hbd:=jT_bd d (l.getD k (Tm.mk false .empty [])) M hM.1
  rw [ztu] at hj
  obtain ⟨v,s,ar,hxe⟩:∃ v s ar,l.getD k (Tm.mk false .empty [])=Tm.mk v s ar:=by
   cases l.getD k (Tm.mk false .empty []) with
   | mk v s ar=>exact ⟨v,s,ar,rfl⟩
  have hce:(l.getD k (Tm.mk false .empty [])).cells=[.bool v,.str s,.sl none ar.length (ar.flatMap Tm.cells)]:=by rw [hxe,zay]
  rw [hce] at hx
  generalize hr:jT d (l.getD k (Tm.mk false .empty [])) M=r at *
  obtain ⟨M',b⟩:=r
  simp only at hx hbd hj
  generalize hB2:jB M'=B2 at *
  cases b with
  | true =>
    (repeat' ((conv=>whnf);(first|(refine yai ?_;first|refine yas ?_|refine yaq rfl ?_|refine yar (by omega) ?_|fail)|(refine zac _ _ Cst.h Cst.h ?_ ?_;· omega)|(refine yaf ?_ ?_;· first|omega|exact yaa _ _|fail)|refine SegN.nthE (Tm.mk false .empty []) k rfl hlt zcv hce ?_|refine zbd i _ _ _ _ (zbc hi) (by simp) rfl (hx _) (ycj ..) ?_|fail)));conv=>whnf
    subst hB2
    (refine ⟨⟨(k+1,M'),⟨by simp only;omega,⟨hbd.2.2 rfl,by simp only;omega⟩,by simpa using hj⟩,by omega,?_,.inl ⟨rfl,rfl⟩,rfl,_,rfl,?_⟩⟩;rotate_left 1;exact .inr ⟨by simp [zbe,below,zaa,tr,and_self],by simp [zcj,Blk.below,zaa,below,and_self]⟩;exact ⟨⟨_,rfl,yae _⟩,trivial⟩)
  | false =>
    (repeat' ((conv=>whnf);(first|(refine yai ?_;first|refine yas ?_|refine yau rfl ?_|refine yar (by omega) ?_|fail)|(refine yaf ?_ ?_;· first|omega|exact yaa _ _|fail)|refine SegN.nthE (Tm.mk false .empty []) k rfl hlt zcv hce ?_|refine zbd i _ _ _ _ (zbc hi) (by simp) rfl (hx _) (ycj ..) ?_|fail)));conv=>whnf
    subst hB2
    simp only [ya9,if_false] at hj
    rw [hj]
    exact zaw (zgq _ _) trivial (yae _)
 ·have hke:k=l.length:=by omega
  subst hke
  rw [ybm,jTs_nil] at hj
  rw [hj]
  (repeat' ((conv=>whnf);(first|refine zah (by omega) ?_|fail)));conv=>whnf
  exact zaw (zgq _ _) trivial (yae _)
end
section
attribute [local irreducible] VW VCall VO bits
theorem checkerV (H:Heap):VDet Tryz.prog 90 [.clo (.func 181) [] [],.clo (.func 132) [] []] H (.clo (.func 129) [] [.rptr [.clo (.func 181) [] []],.rptr [.clo (.func 132) [] []]]):=by
 refine fdD Tryz.func90 ⟨rfl,rfl,rfl⟩ fun hcl hbl=>?_
 conv=>whnf
 refine ydi ?_ ?_ (yae _)
 ·simp [below,zaa,zft]
 ·(repeat' (first|exact FrzL.nil|refine FrzL.cons ?_ ?_|refine Frz.clo ?_ ?_|refine Frz.ptr rfl rfl (ydh _)|fail))
theorem checkerF (H:Heap):VDet Tryz.prog 90 [.clo (.func 196) [] [],.clo (.func 92) [] []] H (.clo (.func 129) [] [.rptr [.clo (.func 196) [] []],.rptr [.clo (.func 92) [] []]]):=by
 refine fdD Tryz.func90 ⟨rfl,rfl,rfl⟩ fun hcl hbl=>?_
 conv=>whnf
 refine ydi ?_ ?_ (yae _)
 ·simp [below,zaa,zft]
 ·(repeat' (first|exact FrzL.nil|refine FrzL.cons ?_ ?_|refine Frz.clo ?_ ?_|refine Frz.ptr rfl rfl (ydh _)|fail))
theorem checkerP (H:Heap):VDet Tryz.prog 90 [.clo (.func 91) [] [],.clo (.func 92) [] []] H (.clo (.func 129) [] [.rptr [.clo (.func 91) [] []],.rptr [.clo (.func 92) [] []]]):=by
 refine fdD Tryz.func90 ⟨rfl,rfl,rfl⟩ fun hcl hbl=>?_
 conv=>whnf
 refine ydi ?_ ?_ (yae _)
 ·simp [below,zaa,zft]
 ·(repeat' (first|exact FrzL.nil|refine FrzL.cons ?_ ?_|refine Frz.clo ?_ ?_|refine Frz.ptr rfl rfl (ydh _)|fail))
theorem zlk (s:ByteArray) (hs:s.size≤9223372036854775807) (H:Heap):VDet Tryz.prog 170 [.str s] H (.bool (isVar s)):=by
 have h:=zr8 _ _ isVa1 isDig va1_g zzo s hs
 unfold isVar
 generalize nameB isVa1 isDig s=b at *
 refine fdD Tryz.func170 ⟨rfl,rfl,rfl⟩ fun hcl hbl=>?_
 (repeat' ((conv=>whnf);(first|(refine ybk ?_;first|refine yab _ (checkerV _) ?_|refine yab _ (h _) ?_|fail)|fail)));conv=>whnf
 exact eT trivial
theorem zwd (s:ByteArray) (hs:s.size≤9223372036854775807) (H:Heap):VDet Tryz.prog 183 [.str s] H (.bool (isFun s)):=by
 have h:=zr8 _ _ isFu1 isAln fu1_g zz0 s hs
 unfold isFun
 generalize nameB isFu1 isAln s=b at *
 refine fdD Tryz.func183 ⟨rfl,rfl,rfl⟩ fun hcl hbl=>?_
 (repeat' ((conv=>whnf);(first|(refine ybk ?_;first|refine yab _ (checkerF _) ?_|refine yab _ (h _) ?_|fail)|fail)));conv=>whnf
 exact eT trivial
theorem zhc (s:ByteArray) (hs:s.size≤9223372036854775807) (H:Heap):VDet Tryz.prog 48 [.str s] H (.bool (zec s)):=by
 have h:=zr8 _ _ isCap isAln zpw zz0 s hs
 unfold zec
 generalize nameB isCap isAln s=b at *
 refine fdD Tryz.func48 ⟨rfl,rfl,rfl⟩ fun hcl hbl=>?_
 (repeat' ((conv=>whnf);(first|(refine ybk ?_;first|refine yab _ (checkerP _) ?_|refine yab _ (h _) ?_|fail)|fail)));conv=>whnf
 exact eT trivial
theorem zwy (v:Bool) (s:ByteArray) (l:List Tm) (hs:s.size≤9223372036854775807) (hl:zz4 l):TermP (.mk v s l):=by
 intro H i L d hi hL hd
 have hn:=fun X=>node_g (H++X) i L d (zap hi) hL hd
 have hv:=zlk s hs
 have hf:=zwd s hs
 rw [zay]
 unfold jT
 by_cases h:1≤L∧d≤40
 ·rw [if_neg (not_not_intro h)]
  rw [decide_eq_true h] at hn
  have ht:=fun X=>hl (H.set i (jB (L-1))++X) i (L-1) (d+1) (zap (zbc hi)) (by omega) (by omega)
  generalize isVar s=bv at *
  generalize isFun s=bf at *
  generalize hr:jTs (d+1) l (L-1)=r at *
  obtain ⟨M,b⟩:=r
  simp only at ht
  generalize l.flatMap Tm.cells=lc at *
  generalize l.length=n at *
  unfold jB at hi hn ht ⊢
  cases v with
  | true =>
    simp only [if_true]
    cases bv with
    | true =>
      refine fdG Tryz.func173 ⟨rfl,rfl,rfl⟩ fun hcl hbl=>?_
      (repeat' ((conv=>whnf);(first|(refine yai ?_;first|refine yas ?_|refine yaq rfl ?_|refine za1 (fun _=>?_) (fun _=>?_)|fail)|refine yab _ (hv _) ?_|refine zbd i _ _ _ _ hi rfl rfl (hn _) rfl ?_|fail)));all_goals (conv=>whnf)
      all_goals exact zaw (by simp [Blk.below,zaa,below]) trivial (Wk.of_eq (by simp;try omega))
    | false =>
      refine fdG Tryz.func173 ⟨rfl,rfl,rfl⟩ fun hcl hbl=>?_
      (repeat' ((conv=>whnf);(first|(refine yai ?_;first|refine yas ?_|refine yaq rfl ?_|refine yau rfl ?_|refine za1 (fun _=>?_) (fun _=>?_)|fail)|refine yab _ (hv _) ?_|refine zbd i _ _ _ _ hi rfl rfl (hn _) rfl ?_|refine ycd _ (by (repeat' (first|assumption|exact za7 _ rfl|exact zaj rfl|refine zbc (B':=?_) ?_|refine zap ?_|fail))) ?_|fail)));all_goals (conv=>whnf)
      all_goals exact zaw (by simp [Blk.below,zaa,below]) trivial (Wk.of_eq (by simp;try omega))
  | false =>
    simp only [ya9,if_false]
    by_cases h4:n≤4∧bf=true
    ·obtain ⟨h4,rfl⟩:=h4
     rw [if_pos ⟨h4,rfl⟩]
     refine fdG Tryz.func173 ⟨rfl,rfl,rfl⟩ fun hcl hbl=>?_
     (repeat' ((conv=>whnf);(first|(refine yai ?_;first|refine yas ?_|refine yaq rfl ?_|refine yau rfl ?_|refine yar (by omega) ?_|fail)|(refine zac _ _ Cst.h Cst.h ?_ ?_;· omega)|refine yab _ (hf _) ?_|refine zbd i _ _ _ _ hi rfl rfl (hn _) rfl ?_|refine zbd i _ _ _ _ (zbc hi) (by simp) rfl (ht _) (ycj ..) ?_|fail)));conv=>whnf
     all_goals exact zaw (by simp [Blk.below,zaa,below]) trivial (Wk.of_eq (by simp;try omega))
    ·rw [if_neg h4]
     cases bf with
     | true =>
       have h4:¬ n≤4:=fun e=>h4 ⟨e,rfl⟩
       refine fdG Tryz.func173 ⟨rfl,rfl,rfl⟩ fun hcl hbl=>?_
       (repeat' ((conv=>whnf);(first|(refine yai ?_;first|refine yas ?_|refine yaq rfl ?_|refine yau rfl ?_|refine zah (by omega) ?_|fail)|refine zbd i _ _ _ _ hi rfl rfl (hn _) rfl ?_|fail)));conv=>whnf
       all_goals exact zaw (by simp [Blk.below,zaa,below]) trivial (Wk.of_eq (by simp;try omega))
     | false =>
       refine fdG Tryz.func173 ⟨rfl,rfl,rfl⟩ fun hcl hbl=>?_
       (repeat' ((conv=>whnf);(first|(refine yai ?_;first|refine yas ?_|refine yaq rfl ?_|refine yau rfl ?_|refine za1 (fun _=>?_) (fun _=>?_)|fail)|refine yab _ (hf _) ?_|refine zbd i _ _ _ _ hi rfl rfl (hn _) rfl ?_|fail)));all_goals (conv=>whnf)
       all_goals exact zaw (by simp [Blk.below,zaa,below]) trivial (Wk.of_eq (by simp;try omega))
 ·rw [if_pos h]
  rw [decide_eq_false h] at hn
  unfold jB at hi hn ⊢
  refine fdG Tryz.func173 ⟨rfl,rfl,rfl⟩ fun hcl hbl=>?_
  (repeat' ((conv=>whnf);(first|(refine yai ?_;first|refine yas ?_|refine yau rfl ?_|fail)|refine zbd i _ _ _ _ hi rfl rfl (hn _) rfl ?_|fail)));conv=>whnf
  exact zaw (by simp [Blk.below,zaa,below]) trivial (yae _)
mutual
theorem term_g:∀ x:Tm,x.good→TermP x
 | .mk v s l,h=>zwy v s l (by have:=h.1;exact zbq this) (zwx l (zbq h.2.1) (zjr l h.2.2))
theorem zjr:∀ l:List Tm,Tm.goodL l→∀ x∈l,TermP x
 | [],_,x,h=>by cases h
 | y::l,hg,x,h=>by
   have h1:=term_g y hg.1
   have h2:=zjr l hg.2
   rcases yay.1 h with e|h
   ·exact e▸h1
   ·exact h2 x h
end
end
end Go.Proofs.YtjflngchbeegcaaGreatDoor.P10
namespace Go.Proofs.YtjflngchbeegcaaGreatDoor
open Go.Vsi
section
attribute [local irreducible] VW VCall VO
def nm (c:UInt8):ByteArray:=⟨#[c]⟩
structure Fa where
 c:UInt8
 a:Int
 m:Int
instance:Inhabited Fa:=⟨⟨0,0,0⟩⟩
def cap (c:UInt8):Prop:=65≤c.toNat∧c.toNat≤90
def fa (l:List Fa) (i:Nat):Fa:=l.getD i default
theorem zun {n:Int} {k:Int→Prop} (h:1≤n∧n≤5) (a:k (2 ^ n.toNat)):EqN (IntKind.i64.wrap (1 * 2 ^ min n.toNat IntKind.i64.bits)) k:=by
 refine ⟨_,?_,a⟩
 obtain ⟨m,rfl⟩:∃ m:Nat,n=m:=⟨n.toNat,by omega⟩
 have:m=1∨m=2∨m=3∨m=4∨m=5:=by omega
 rcases this with rfl|rfl|rfl|rfl|rfl <;> decide
end
end Go.Proofs.YtjflngchbeegcaaGreatDoor
namespace Go.Proofs.YtjflngchbeegcaaGreatDoor.P10.C
open Go.Vsi
section
attribute [local irreducible] VW VCall VO bits
structure Fct where
 nm:ByteArray
 ar:Int
 tr:Int
structure Fnc where
 nm:ByteArray
 ar:Int
 vl:List Int
structure Bnd where
 nm:ByteArray
 at_:Int
structure Mdl where
 kind:Int
 size:Int
 rel:List Int
 loop:Int
 facts:List Fct
 funcs:List Fnc
 binds:List Bnd
def enc64 (n:Int):List AV:=[.int .i64 n]
def Fct.cells (f:Fct):List AV:=[.str f.nm,.int .i64 f.ar,.int .i64 f.tr]
def Fnc.cells (f:Fnc):List AV:=[.str f.nm,.int .i64 f.ar,.sl none f.vl.length (f.vl.flatMap enc64)]
def Bnd.cells (b:Bnd):List AV:=[.str b.nm,.int .i64 b.at_]
def Mdl.cells (m:Mdl):List AV:=[.int .u8 m.kind,.int .i64 m.size,.sl none m.rel.length (m.rel.flatMap enc64),.int .i64 m.loop,.sl none m.facts.length (m.facts.flatMap Fct.cells),.sl none m.funcs.length (m.funcs.flatMap Fnc.cells),.sl none m.binds.length (m.binds.flatMap Bnd.cells)]
def fct0:Fct:=⟨.empty,0,0⟩
def fnc0:Fnc:=⟨.empty,0,[]⟩
def bnd0:Bnd:=⟨.empty,0⟩
theorem zb7 (n:Nat) (l:List Int):zaa n (l.flatMap enc64):=za9 l fun _=>by simp [enc64,below,zaa]
theorem zdh (n:Nat) (l:List Fct):zaa n (l.flatMap Fct.cells):=za9 l fun _=>by simp [Fct.cells,below,zaa]
theorem zc6 (n:Nat) (l:List Bnd):zaa n (l.flatMap Bnd.cells):=za9 l fun _=>by simp [Bnd.cells,below,zaa]
theorem zc3 (n:Nat) (l:List Fnc):zaa n (l.flatMap Fnc.cells):=za9 l fun x=>⟨trivial,trivial,⟨fun _ e=>(nomatch e),zb7 n x.vl⟩,trivial⟩
theorem zbt (f:Fct):f.cells.length=3:=rfl
theorem zgr (f:Fnc):f.cells.length=3:=rfl
theorem zet (b:Bnd):b.cells.length=2:=rfl
theorem zd1 (n:Int):(enc64 n).length=1:=rfl
theorem getD_memT {α:Type} (l:List α) (i:Nat) (d:α) (h:i<l.length):l.getD i d∈l:=by
 rw [ybp,yal h]
 exact List.getElem_mem h
def lessB (a b:ByteArray):Bool:=Op.bytesLess a.toList b.toList
def fAt (l:List Fct) (i:Nat):Fct:=l.getD i fct0
def okAt (n:Int) (l:List Fct) (i:Nat):Bool :=
 zec (fAt l i).nm&&((decide (i=0) || lessB (fAt l (i-1)).nm (fAt l i).nm)&&(decide ((fAt l i).ar=0)&&(decide (0≤(fAt l i).tr)&&decide ((fAt l i).tr<2 ^ n.toNat))))
def zi3 (n:Int) (l:List Fct):Bool:=(List.range l.length).all (okAt n l)
theorem rows_no {n:Int} {l:List Fct} {k:Nat} (hk:k<l.length) (h:okAt n l k=false):zi3 n l=false:=by
 unfold zi3
 rw [List.all_eq_false]
 exact ⟨k,ybs.2 hk,by simp [h]⟩
theorem rows_yes {n:Int} {l:List Fct} (h:∀ i,i<l.length→okAt n l i=true):zi3 n l=true:=by
 unfold zi3
 rw [yao]
 exact fun x hx=>h x (ybs.1 hx)
def headB (m:Mdl):Bool:=decide (m.kind=5∧1≤m.size∧m.size≤5∧0≤m.loop∧m.loop<m.size∧m.rel.length=0∧m.funcs.length=0∧m.binds.length=0)
def zcd (m:Mdl):Bool:=headB m&&zi3 m.size m.facts
structure Mdl.Nm (m:Mdl):Prop where
 facts:∀ f∈m.facts,f.nm.size≤9223372036854775807
 funcs:∀ f∈m.funcs,f.nm.size≤9223372036854775807
 binds:∀ f∈m.binds,f.nm.size≤9223372036854775807
theorem zfi (m:Mdl) (hl:m.facts.length≤9223372036854775807) (hn:m.Nm) (H:Heap):VDet Tryz.prog 43 [.agg m.cells] H (.bool (zcd m)):=by
 have hns:=hn.facts
 unfold zcd
 cases hb:headB m with
 | false =>
   have hb:=of_decide_eq_false hb
   rw [ya0]
   obtain ⟨k,n,rel,lp,fs,us,bs⟩:=m
   simp only at hb hl hns
   unfold Mdl.cells
   simp only
   refine fdD Tryz.func43 ⟨rfl,rfl,rfl⟩ fun hcl hbl=>?_
   (repeat' ((conv=>whnf);(first|(refine yai ?_;first|refine yas ?_|refine yar (by omega) ?_|refine za1 (fun _=>?_) (fun _=>?_)|fail)|fail)));all_goals (conv=>whnf)
   all_goals first
    | exact eT trivial
    | (exfalso;omega)
 | true =>
   obtain ⟨h1,h2,h3,h4,h5,h6,h7,h8⟩:=of_decide_eq_true hb
   rw [ya8]
   obtain ⟨k,n,rel,lp,fs,us,bs⟩:=m
   simp only at h1 h2 h3 h4 h5 h6 h7 h8 hl hns ⊢
   unfold Mdl.cells
   simp only
   refine fdD Tryz.func43 ⟨rfl,rfl,rfl⟩ fun hcl hbl=>?_
   (repeat' ((conv=>whnf);(first|(refine yai ?_;first|refine yas ?_|refine yar (by omega) ?_|refine zah (by omega) ?_|fail)|fail)));conv=>whnf
   refine zam Tryz.E0 zaf (σ:=Nat) (fun k=>k≤fs.length∧∀ i,i<k→okAt n fs i=true) (fun k=>fs.length-k) (fun k=>[(49,.v (.int .i64 k))]) (fun _=>_) _ 0 rfl hcl [1,47,48] rfl ⟨yah _,fun i hi=>absurd hi (Nat.not_lt_zero i)⟩ ⟨⟨_,rfl,yae _⟩,trivial⟩ rfl (fun _ _=>rfl) ?_
   rintro j ⟨hj,hok⟩
   clear hbl
   rcases yag j fs.length with hlt|hge
   ·have hp:=zhc (fAt fs j).nm (hns _ (getD_memT fs j fct0 hlt))
    have hdef:okAt n fs j=(zec (fAt fs j).nm&&((decide (j=0) || lessB (fAt fs (j-1)).nm (fAt fs j).nm)&&(decide ((fAt fs j).ar=0)&&(decide (0≤(fAt fs j).tr)&&decide ((fAt fs j).tr<2 ^ n.toNat))))):=rfl
    have hlb:Op.bytesLess (fAt fs (j-1)).nm.toList (fAt fs j).nm.toList=lessB (fAt fs (j-1)).nm (fAt fs j).nm:=rfl
    have hno:okAt n fs j=false→zi3 n fs=false:=rows_no hlt
    obtain ⟨s,a,t,hc⟩:∃ s a t,fAt fs j=⟨s,a,t⟩:=⟨_,_,_,rfl⟩
    have qc:Fct.cells (fs.getD j fct0)=[.str s,.int .i64 a,.int .i64 t]:=by
     show Fct.cells (fAt fs j)=_
     rw [hc];rfl
    obtain ⟨s',a',t',hc'⟩:∃ s a t,fAt fs (j-1)=⟨s,a,t⟩:=⟨_,_,_,rfl⟩
    have qc':Fct.cells (fs.getD (j-1) fct0)=[.str s',.int .i64 a',.int .i64 t']:=by
     show Fct.cells (fAt fs (j-1))=_
     rw [hc'];rfl
    rw [hc] at hp hdef hlb
    rw [hc'] at hdef hlb
    simp only at hp hdef hlb
    generalize lessB s' s=y at *
    generalize zec s=x at *
    generalize hz:okAt n fs j=z at hdef hno
    obtain ⟨S,hS,hSe⟩:=zun (k:=fun y=>y=2 ^ n.toNat) ⟨h2,h3⟩ rfl
    rw [← hSe] at hdef
    have hokz:okAt n fs j=z:=hz
    cases x with
    | false =>
      rw [hno (by rw [hdef];rfl)]
      (repeat' ((conv=>whnf);(first|(refine yai ?_;first|refine yas ?_|refine yau rfl ?_|refine yar (by omega) ?_|fail)|(refine yaf ?_ ?_;· first|kernel_rfl|omega|exact yaa _ _|fail)|refine yan _ (fun _ hq X=>hp _) ?_|refine SegN.nthE (f:=Fct.cells) fct0 j rfl hlt zbt qc ?_|refine zad [] ?_|fail)));conv=>whnf
      exact eT trivial
    | true =>
      by_cases hy:j=0∨y=true
      ·have hyd:(decide (j=0) || y)=true:=by
        rcases hy with h|h
        ·rw [decide_eq_true h];rfl
        ·rw [h,Bool.or_true]
       rw [hyd,ya8,ya8] at hdef
       by_cases ha:a=0∧0≤t∧t<S
       ·have hz1:z=true:=by rw [hdef,decide_eq_true ha.1,decide_eq_true ha.2.1,decide_eq_true ha.2.2];rfl
        have hround:∀ i,i<j+1→okAt n fs i=true:=fun i hi=>by
         by_cases e:i=j
         ·rw [e,hokz];exact hz1
         ·exact hok i (by omega)
        rcases hy with h0|h0
        ·(repeat' ((conv=>whnf);(first|(refine yai ?_;first|refine yas ?_|refine yaq rfl ?_|refine yar (by omega) ?_|refine zah (by omega) ?_|fail)|(refine yct ?_;first|refine EqN.mk S hS ?_|(refine zac _ _ Cst.h Cst.h ?_ ?_;· omega)|fail)|(refine yaf ?_ ?_;· first|kernel_rfl|omega|exact yaa _ _|fail)|refine yan _ (fun _ hq X=>hp _) ?_|refine SegN.nthE (f:=Fct.cells) fct0 j rfl hlt zbt qc ?_|refine zad [] ?_|fail)));conv=>whnf
         all_goals (refine ⟨⟨j+1,⟨by omega,hround⟩,by omega,?_,.inl ⟨rfl,rfl⟩,rfl,_,rfl,?_⟩⟩;rotate_left 1;exact .inr ⟨by simp [zbe,below,zaa,tr,zb7,zdh,zc6,zc3],by simp [zcj,Blk.below,zaa,below,zb7,zdh,zc6,zc3]⟩;exact ⟨⟨_,rfl,yae _⟩,trivial⟩)
        ·rw [h0] at hlb
         (repeat' ((conv=>whnf);(first|(refine yai ?_;first|refine yaq hlb ?_|refine yas ?_|refine yaq rfl ?_|refine yar (by omega) ?_|refine zah (by omega) ?_|refine za1 (fun _=>?_) (fun _=>?_)|fail)|(refine yct ?_;first|refine EqN.mk S hS ?_|(refine zac _ _ Cst.h Cst.h ?_ ?_;· omega)|(refine zb6 _ _ Cst.h Cst.h ?_ ?_;· omega)|fail)|(refine yaf ?_ ?_;· first|kernel_rfl|omega|exact yaa _ _|fail)|refine yan _ (fun _ hq X=>hp _) ?_|refine SegN.nthE (f:=Fct.cells) fct0 j rfl hlt zbt qc ?_|refine SegN.nthE (f:=Fct.cells) fct0 (j-1) (by omega) (by omega) zbt qc' ?_|refine zad [] ?_|fail)));all_goals (conv=>whnf)
         all_goals (refine ⟨⟨j+1,⟨by omega,hround⟩,by omega,?_,.inl ⟨rfl,rfl⟩,rfl,_,rfl,?_⟩⟩;rotate_left 1;exact .inr ⟨by simp [zbe,below,zaa,tr,zb7,zdh,zc6,zc3],by simp [zcj,Blk.below,zaa,below,zb7,zdh,zc6,zc3]⟩;exact ⟨⟨_,rfl,yae _⟩,trivial⟩)
       ·have hz0:z=false:=by
         rw [hdef]
         by_cases e1:a=0
         ·by_cases e2:0≤t
          ·rw [decide_eq_false (fun q=>ha ⟨e1,e2,q⟩),ycy,ycy]
          ·rw [decide_eq_false e2,ya0,ycy]
         ·rw [decide_eq_false e1,ya0]
        rw [hno hz0]
        rcases hy with h0|h0
        ·(repeat' ((conv=>whnf);(first|(refine yai ?_;first|refine yas ?_|refine yaq rfl ?_|refine yar (by omega) ?_|refine zah (by omega) ?_|refine za1 (fun _=>?_) (fun _=>?_)|fail)|refine EqN.mk S hS ?_|(refine yaf ?_ ?_;· first|kernel_rfl|omega|exact yaa _ _|fail)|refine yan _ (fun _ hq X=>hp _) ?_|refine SegN.nthE (f:=Fct.cells) fct0 j rfl hlt zbt qc ?_|refine zad [] ?_|fail)));all_goals (conv=>whnf)
         all_goals first
          | exact eT trivial
          | (exfalso;omega)
        ·rw [h0] at hlb
         (repeat' ((conv=>whnf);(first|(refine yai ?_;first|refine yaq hlb ?_|refine yas ?_|refine yaq rfl ?_|refine yar (by omega) ?_|refine za1 (fun _=>?_) (fun _=>?_)|fail)|(refine yct ?_;first|refine EqN.mk S hS ?_|(refine zb6 _ _ Cst.h Cst.h ?_ ?_;· omega)|fail)|(refine yaf ?_ ?_;· first|kernel_rfl|omega|exact yaa _ _|fail)|refine yan _ (fun _ hq X=>hp _) ?_|refine SegN.nthE (f:=Fct.cells) fct0 j rfl hlt zbt qc ?_|refine SegN.nthE (f:=Fct.cells) fct0 (j-1) (by omega) (by omega) zbt qc' ?_|refine zad [] ?_|fail)));all_goals (conv=>whnf)
         all_goals first
          | exact eT trivial
          | (exfalso;omega)
      ·have hy0:y=false:=by
        cases y with
        | true=>exact absurd (.inr rfl) hy
        | false=>rfl
       have hj0:j≠0:=fun e=>hy (.inl e)
       rw [hno (by rw [hdef,hy0,decide_eq_false hj0];rfl)]
       rw [hy0] at hlb
       (repeat' ((conv=>whnf);(first|(refine yai ?_;first|refine yau hlb ?_|refine yas ?_|refine yaq rfl ?_|refine yar (by omega) ?_|fail)|(refine zb6 _ _ Cst.h Cst.h ?_ ?_;· omega)|(refine yaf ?_ ?_;· first|kernel_rfl|omega|exact yaa _ _|fail)|refine yan _ (fun _ hq X=>hp _) ?_|refine SegN.nthE (f:=Fct.cells) fct0 j rfl hlt zbt qc ?_|refine SegN.nthE (f:=Fct.cells) fct0 (j-1) (by omega) (by omega) zbt qc' ?_|refine zad [] ?_|fail)));conv=>whnf
       all_goals exact eT trivial
   ·rw [rows_yes fun i hi=>hok i (by omega)]
    (repeat' ((conv=>whnf);(first|refine zah (by omega) ?_|fail)));conv=>whnf
    exact eT trivial
theorem ba_eq {a b:ByteArray} (h:a.toList=b.toList):a=b:=by
 rw [ByteArray.toList_eq,ByteArray.toList_eq] at h
 cases a
 cases b
 congr 1
 exact Array.toList_inj.1 h
theorem zi5 (a b:ByteArray):(a.toList==b.toList)=decide (a=b):=by
 apply yb9.2
 rw [beq_iff_eq,decide_eq_true_eq]
 exact ⟨ba_eq,fun h=>by rw [h]⟩
theorem rin_c (c:UInt8) (a b:Nat) (x y:Int) (hx:x=a) (hy:y=b) (H:Heap):VDet Tryz.prog 134 [.int .u8 c.toNat,.int .u8 x,.int .u8 y] H (.bool (inR a b c)):=by
 refine fdD Tryz.func134 ⟨rfl,rfl,rfl⟩ fun hcl hbl=>?_
 (repeat' ((conv=>whnf);(first|refine za1 (fun _=>?_) (fun _=>?_)|fail)));all_goals (conv=>whnf)
 all_goals (refine ya1 trivial (Wk.of_eq (congrArg AV.bool (yb9.2 ?_)));simp only [inR,yak,decide_eq_true_eq,ya9,false_iff];omega)
def refQ (dg:Bool) (c:UInt8):Bool:=inR 48 57 c || (!dg&&(inR 65 90 c || inR 97 122 c))
def letB (dg:Bool) (s:ByteArray):Bool:=decide (1≤s.size∧s.size≤16)&&(List.range' 1 (s.size-1)).all fun i=>refQ dg (bt s i)
theorem zrl {dg:Bool} {s:ByteArray} {k:Nat} (h1:1≤k) (h2:k<s.size) (h:refQ dg (bt s k)=false):letB dg s=false:=by
 unfold letB
 have:((List.range' 1 (s.size-1)).all fun i=>refQ dg (bt s i))=false:=by
  apply ybh.2
  intro hA
  have:=yao.1 hA k (List.mem_range'.2 ⟨k-1,by omega,by omega⟩)
  rw [h] at this
  cases this
 rw [this,ycy]
theorem ztp {dg:Bool} {s:ByteArray} (h:∀ i,1≤i→i<s.size→refQ dg (bt s i)=true):letB dg s=decide (1≤s.size∧s.size≤16):=by
 unfold letB
 have:((List.range' 1 (s.size-1)).all fun i=>refQ dg (bt s i))=true:=by
  rw [yao]
  intro i hi
  obtain ⟨j,hj,rfl⟩:=List.mem_range'.1 hi
  exact h _ (by omega) (by omega)
 rw [this,Bool.and_true]
theorem zyi (s:ByteArray) (hs:s.size≤9223372036854775807) (H:Heap):VDet Tryz.prog 133 [.str s,.bool true] H (.bool (letB true s)):=by
 refine fdD Tryz.func133 ⟨rfl,rfl,rfl⟩ fun hcl hbl=>?_
 conv=>whnf
 refine zam Tryz.E0 zaf (σ:=Nat) (fun k=>1≤k∧(k≤s.size∨k=1)∧∀ i,1≤i→i<k→refQ true (bt s i)=true) (fun k=>s.size-k) (fun k=>[(5,.v (.int .i64 k))]) (fun _=>[]) _ 1 rfl hcl [0,1] rfl ⟨yax _,.inr rfl,fun i h1 h2=>by omega⟩ ⟨⟨_,rfl,yae _⟩,trivial⟩ rfl (fun _ _=>rfl) ?_
 rintro k ⟨hk1,hk,hall⟩
 clear hbl
 by_cases hlt:k<s.size
 ·have hbk:=zk6 s k hlt k rfl
  have r1:=rin_c (bt s k) 48 57 48 57 rfl rfl
  have r2:=rin_c (bt s k) 65 90 65 90 rfl rfl
  have r3:=rin_c (bt s k) 97 122 97 122 rfl rfl
  have hq:refQ true (bt s k)=(inR 48 57 (bt s k) || (!true&&(inR 65 90 (bt s k) || inR 97 122 (bt s k)))):=rfl
  generalize inR 48 57 (bt s k)=b1 at *
  generalize inR 65 90 (bt s k)=b2 at *
  generalize inR 97 122 (bt s k)=b3 at *
  cases b1 with
  | true =>
    (repeat' ((conv=>whnf);(first|(refine yai ?_;first|refine yas ?_|refine yaq rfl ?_|refine yar (by omega) ?_|fail)|(refine zac _ _ Cst.h Cst.h ?_ ?_;· omega)|refine yaf (by omega) ?_|refine yab _ (r1 _) ?_|refine ydn _ hbk ?_|fail)));conv=>whnf
    (refine ⟨⟨k+1,⟨by omega,by omega,fun i h3 h4=>by
     by_cases e:i=k
     ·rw [e];exact hq
     ·exact hall i h3 (by omega)⟩,by omega,?_,.inl ⟨rfl,rfl⟩,rfl,_,rfl,?_⟩⟩;rotate_left 1;exact .inl rfl;exact ⟨⟨_,rfl,yae _⟩,trivial⟩)
  | false =>
    (repeat' ((conv=>whnf);(first|(refine yai ?_;first|refine yas ?_|refine yaq rfl ?_|refine yau rfl ?_|refine yar (by omega) ?_|fail)|refine yaf (by omega) ?_|refine yab _ (r1 _) ?_|refine ydn _ hbk ?_|fail)));conv=>whnf
    rw [zrl hk1 hlt hq]
    exact eT trivial
 ·rw [ztp (fun i h1 h2=>hall i h1 (by omega))]
  by_cases h0:1≤s.size∧s.size≤16
  ·rw [decide_eq_true h0]
   (repeat' ((conv=>whnf);(first|(refine yai ?_;first|refine yar (by omega) ?_|refine zah (by omega) ?_|fail)|fail)));conv=>whnf
   exact ya1 trivial (Wk.of_eq (congrArg AV.bool (decide_eq_true (by omega))))
  ·rw [decide_eq_false h0]
   (repeat' ((conv=>whnf);(first|(refine yai ?_;first|refine zah (by omega) ?_|refine za1 (fun _=>?_) (fun _=>?_)|fail)|fail)));all_goals (conv=>whnf)
   all_goals first|exact eT trivial|exact ya1 trivial (Wk.of_eq (congrArg AV.bool (decide_eq_false (by omega))))
theorem zpc (s:ByteArray) (hs:s.size≤9223372036854775807) (H:Heap):VDet Tryz.prog 133 [.str s,.bool false] H (.bool (letB false s)):=by
 refine fdD Tryz.func133 ⟨rfl,rfl,rfl⟩ fun hcl hbl=>?_
 conv=>whnf
 refine zam Tryz.E0 zaf (σ:=Nat) (fun k=>1≤k∧(k≤s.size∨k=1)∧∀ i,1≤i→i<k→refQ false (bt s i)=true) (fun k=>s.size-k) (fun k=>[(5,.v (.int .i64 k))]) (fun _=>[]) _ 1 rfl hcl [0,1] rfl ⟨yax _,.inr rfl,fun i h1 h2=>by omega⟩ ⟨⟨_,rfl,yae _⟩,trivial⟩ rfl (fun _ _=>rfl) ?_
 rintro k ⟨hk1,hk,hall⟩
 clear hbl
 by_cases hlt:k<s.size
 ·have hbk:=zk6 s k hlt k rfl
  have r1:=rin_c (bt s k) 48 57 48 57 rfl rfl
  have r2:=rin_c (bt s k) 65 90 65 90 rfl rfl
  have r3:=rin_c (bt s k) 97 122 97 122 rfl rfl
  have hq:refQ false (bt s k)=(inR 48 57 (bt s k) || (!false&&(inR 65 90 (bt s k) || inR 97 122 (bt s k)))):=rfl
  generalize inR 48 57 (bt s k)=b1 at *
  generalize inR 65 90 (bt s k)=b2 at *
  generalize inR 97 122 (bt s k)=b3 at *
  cases b1 with
  | true =>
    (repeat' ((conv=>whnf);(first|(refine yai ?_;first|refine yas ?_|refine yaq rfl ?_|refine yar (by omega) ?_|fail)|(refine zac _ _ Cst.h Cst.h ?_ ?_;· omega)|refine yaf (by omega) ?_|refine yab _ (r1 _) ?_|refine ydn _ hbk ?_|fail)));conv=>whnf
    (refine ⟨⟨k+1,⟨by omega,by omega,fun i h3 h4=>by
     by_cases e:i=k
     ·rw [e];exact hq
     ·exact hall i h3 (by omega)⟩,by omega,?_,.inl ⟨rfl,rfl⟩,rfl,_,rfl,?_⟩⟩;rotate_left 1;exact .inl rfl;exact ⟨⟨_,rfl,yae _⟩,trivial⟩)
  | false =>
    cases b2 with
    | true =>
      (repeat' ((conv=>whnf);(first|(refine yai ?_;first|refine yas ?_|refine yaq rfl ?_|refine yau rfl ?_|refine yar (by omega) ?_|fail)|(refine zac _ _ Cst.h Cst.h ?_ ?_;· omega)|refine yaf (by omega) ?_|(refine ybk ?_;first|refine yab _ (r1 _) ?_|refine yab _ (r2 _) ?_|fail)|refine ydn _ hbk ?_|fail)));conv=>whnf
      (refine ⟨⟨k+1,⟨by omega,by omega,fun i h3 h4=>by
       by_cases e:i=k
       ·rw [e];exact hq
       ·exact hall i h3 (by omega)⟩,by omega,?_,.inl ⟨rfl,rfl⟩,rfl,_,rfl,?_⟩⟩;rotate_left 1;exact .inl rfl;exact ⟨⟨_,rfl,yae _⟩,trivial⟩)
    | false =>
      cases b3 with
      | true =>
        (repeat' ((conv=>whnf);(first|(refine yai ?_;first|refine yas ?_|refine yaq rfl ?_|refine yau rfl ?_|refine yar (by omega) ?_|fail)|(refine zac _ _ Cst.h Cst.h ?_ ?_;· omega)|refine yaf (by omega) ?_|(refine ybk ?_;first|refine yab _ (r1 _) ?_|refine yab _ (r2 _) ?_|refine yab _ (r3 _) ?_|fail)|refine ydn _ hbk ?_|fail)));conv=>whnf
        (refine ⟨⟨k+1,⟨by omega,by omega,fun i h3 h4=>by
         by_cases e:i=k
         ·rw [e];exact hq
         ·exact hall i h3 (by omega)⟩,by omega,?_,.inl ⟨rfl,rfl⟩,rfl,_,rfl,?_⟩⟩;rotate_left 1;exact .inl rfl;exact ⟨⟨_,rfl,yae _⟩,trivial⟩)
      | false =>
        (repeat' ((conv=>whnf);(first|(refine yai ?_;first|refine yas ?_|refine yau rfl ?_|refine yar (by omega) ?_|fail)|refine yaf (by omega) ?_|(refine ybk ?_;first|refine yab _ (r1 _) ?_|refine yab _ (r2 _) ?_|refine yab _ (r3 _) ?_|fail)|refine ydn _ hbk ?_|fail)));conv=>whnf
        rw [zrl hk1 hlt hq]
        exact eT trivial
 ·rw [ztp (fun i h1 h2=>hall i h1 (by omega))]
  by_cases h0:1≤s.size∧s.size≤16
  ·rw [decide_eq_true h0]
   (repeat' ((conv=>whnf);(first|(refine yai ?_;first|refine yar (by omega) ?_|refine zah (by omega) ?_|fail)|fail)));conv=>whnf
   exact ya1 trivial (Wk.of_eq (congrArg AV.bool (decide_eq_true (by omega))))
  ·rw [decide_eq_false h0]
   (repeat' ((conv=>whnf);(first|(refine yai ?_;first|refine zah (by omega) ?_|refine za1 (fun _=>?_) (fun _=>?_)|fail)|fail)));all_goals (conv=>whnf)
   all_goals first|exact eT trivial|exact ya1 trivial (Wk.of_eq (congrArg AV.bool (decide_eq_false (by omega))))
theorem zkn {dg:Bool} {s:ByteArray} (h:letB dg s=true):1≤s.size:=by
 unfold letB at h
 rw [yak,decide_eq_true_eq] at h
 exact h.1.1
theorem res_at {s:ByteArray} (h:isRes s=true):isCap (bt s 0)=false∧(isDig (bt s 1)=false∧2≤s.size):=by
 unfold isRes wordE at h
 simp only [zi5,Bool.or_eq_true,decide_eq_true_eq] at h
 rcases h with h|h|h|h|h|h <;> subst h <;> decide
theorem refQ_f (c:UInt8):refQ false c=isAln c:=by
 unfold refQ isAln isSml isCap isDig
 cases inR 48 57 c <;> cases inR 65 90 c <;> cases inR 97 122 c <;> rfl
theorem refQ_t (c:UInt8):refQ true c=isDig c:=by
 unfold refQ isDig
 cases inR 48 57 c <;> rfl
theorem zwa (s:ByteArray):zec s=(letB false s&&isCap (bt s 0)):=by
 unfold zec nameB letB
 simp only [refQ_f]
 cases hr:isRes s with
 | false=>generalize (List.all _ _)=a;cases a <;> cases isCap (bt s 0) <;> simp
 | true=>rw [(res_at hr).1];simp
theorem zov (s:ByteArray) (hs:s.size≤9223372036854775807) (H:Heap):VDet Tryz.prog 96 [.str s] H (.bool (zec s)):=by
 rw [zwa]
 have hl:=zpc s hs
 have h1:letB false s=true→s[(0:Int).toNat]? = some (bt s 0):=fun h=>zk6 s 0 (zkn h) 0 rfl
 have r1:∀ H,VDet Tryz.prog 134 [.int .u8 (bt s 0).toNat,.int .u8 65,.int .u8 90] H (.bool (isCap (bt s 0))):=rin_c (bt s 0) 65 90 65 90 rfl rfl
 generalize letB false s=b1 at *
 generalize isCap (bt s 0)=b2 at *
 cases b1 with
 | true =>
   have hb0:=h1 rfl
   refine fdD Tryz.func96 ⟨rfl,rfl,rfl⟩ fun hcl hbl=>?_
   (repeat' ((conv=>whnf);(first|refine yaq rfl ?_|refine yaf (by omega) ?_|(refine ybk ?_;first|refine yab _ (hl _) ?_|refine yab _ (r1 _) ?_|fail)|refine ydn _ hb0 ?_|fail)));conv=>whnf
   all_goals exact eT trivial
 | false =>
   refine fdD Tryz.func96 ⟨rfl,rfl,rfl⟩ fun hcl hbl=>?_
   (repeat' ((conv=>whnf);(first|refine yau rfl ?_|refine yab _ (hl _) ?_|fail)));conv=>whnf
   exact eT trivial
def eN:ByteArray:=.empty
def encSG (c:ByteArray):List AV:=[.str c]
theorem zcm (n:Nat) (l:List ByteArray):zaa n (l.flatMap encSG):=za9 l fun _=>⟨trivial,trivial⟩
theorem zdz (c:ByteArray):(encSG c).length=1:=rfl
def nmAt (l:List ByteArray) (i:Nat):Bool:=zec (l.getD i eN)&&(decide (i=0) || lessB (l.getD (i-1) eN) (l.getD i eN))
def isNmG (l:List ByteArray):Bool:=(List.range l.length).all (nmAt l)
theorem zmw (l:List ByteArray) (hlen:l.length≤9223372036854775807) (hsz:∀ c∈l,c.size≤9223372036854775807) (H:Heap):VDet Tryz.prog 61 [.sl none l.length (l.flatMap encSG)] H (.bool (isNmG l)):=by
 refine fdD Tryz.func61 ⟨rfl,rfl,rfl⟩ fun hcl hbl=>?_
 conv=>whnf
 refine zam Tryz.E0 zaf (σ:=Nat) (fun k=>k≤l.length∧∀ i,i<k→nmAt l i=true) (fun k=>l.length-k) (fun k=>[(3,.v (.int .i64 k))]) (fun _=>[]) _ 0 rfl hcl [0] rfl ⟨yah _,fun i hi=>by omega⟩ ⟨⟨_,rfl,yae _⟩,trivial⟩ rfl (fun _ _=>rfl) ?_
 rintro k ⟨hk,hall⟩
 clear hbl
 by_cases hlt:k<l.length
 ·have hp:=zov (l.getD k eN) (hsz _ (getD_memT l k eN hlt))
  have hfalse:nmAt l k=false→isNmG l=false:=fun h=>by
   apply ybh.2
   intro hA
   rw [yao.1 hA k (ybs.2 hlt)] at h
   cases h
  have hdef:nmAt l k=(zec (l.getD k eN)&&(decide (k=0) || lessB (l.getD (k-1) eN) (l.getD k eN))):=rfl
  have hlb:Op.bytesLess (l.getD (k-1) eN).toList (l.getD k eN).toList=lessB (l.getD (k-1) eN) (l.getD k eN):=rfl
  cases hpb:zec (l.getD k eN) with
  | false =>
    rw [hpb] at hp hdef
    rw [hfalse (by rw [hdef];rfl)]
    (repeat' ((conv=>whnf);(first|(refine yai ?_;first|refine yas ?_|refine yau rfl ?_|refine yar (by omega) ?_|fail)|(refine yaf ?_ ?_;· first|kernel_rfl|omega|exact yaa _ _|fail)|refine yan _ (fun _ hq X=>hp _) ?_|refine zce (f:=encSG) (l:=l) eN k rfl hlt (fun _=>rfl) ?_|refine zad [] ?_|fail)));conv=>whnf
    exact eT trivial
  | true =>
    rw [hpb] at hp hdef
    cases hlb2:lessB (l.getD (k-1) eN) (l.getD k eN) with
    | true =>
      rw [hlb2] at hlb hdef
      have hok:nmAt l k=true:=by rw [hdef];simp
      (repeat' ((conv=>whnf);(first|(refine yai ?_;first|refine yaq hlb ?_|refine yas ?_|refine yaq rfl ?_|refine yar (by omega) ?_|refine za1 (fun _=>?_) (fun _=>?_)|fail)|(refine yct ?_;first|(refine zac _ _ Cst.h Cst.h ?_ ?_;· omega)|(refine zb6 _ _ Cst.h Cst.h ?_ ?_;· omega)|fail)|(refine yaf ?_ ?_;· first|kernel_rfl|omega|exact yaa _ _|fail)|refine yan _ (fun _ hq X=>hp _) ?_|refine zce (f:=encSG) (l:=l) eN k rfl hlt (fun _=>rfl) ?_|refine zce (f:=encSG) (l:=l) eN (k-1) (by omega) (by omega) (fun _=>rfl) ?_|refine zad [] ?_|fail)));all_goals (conv=>whnf)
      all_goals (refine ⟨⟨k+1,⟨by omega,fun i hi=>by
       by_cases e:i=k
       ·rw [e];exact hok
       ·exact hall i (by omega)⟩,by omega,?_,.inl ⟨rfl,rfl⟩,rfl,_,rfl,?_⟩⟩;rotate_left 1;exact .inl rfl;exact ⟨⟨_,rfl,yae _⟩,trivial⟩)
    | false =>
      rw [hlb2] at hlb hdef
      by_cases h0:k=0
      ·have hok:nmAt l k=true:=by rw [hdef];simp [h0]
       (repeat' ((conv=>whnf);(first|(refine yai ?_;first|refine yas ?_|refine yaq rfl ?_|refine yar (by omega) ?_|refine zah (by omega) ?_|fail)|(refine zac _ _ Cst.h Cst.h ?_ ?_;· omega)|(refine yaf ?_ ?_;· first|kernel_rfl|omega|exact yaa _ _|fail)|refine yan _ (fun _ hq X=>hp _) ?_|refine zce (f:=encSG) (l:=l) eN k rfl hlt (fun _=>rfl) ?_|refine zad [] ?_|fail)));conv=>whnf
       all_goals (refine ⟨⟨k+1,⟨by omega,fun i hi=>by
        by_cases e:i=k
        ·rw [e];exact hok
        ·exact hall i (by omega)⟩,by omega,?_,.inl ⟨rfl,rfl⟩,rfl,_,rfl,?_⟩⟩;rotate_left 1;exact .inl rfl;exact ⟨⟨_,rfl,yae _⟩,trivial⟩)
      ·rw [hfalse (by rw [hdef];simp [h0])]
       (repeat' ((conv=>whnf);(first|(refine yai ?_;first|refine yau hlb ?_|refine yas ?_|refine yaq rfl ?_|refine yar (by omega) ?_|fail)|(refine zb6 _ _ Cst.h Cst.h ?_ ?_;· omega)|(refine yaf ?_ ?_;· first|kernel_rfl|omega|exact yaa _ _|fail)|refine yan _ (fun _ hq X=>hp _) ?_|refine zce (f:=encSG) (l:=l) eN k rfl hlt (fun _=>rfl) ?_|refine zce (f:=encSG) (l:=l) eN (k-1) (by omega) (by omega) (fun _=>rfl) ?_|refine zad [] ?_|fail)));conv=>whnf
       all_goals exact eT trivial
 ·have:isNmG l=true:=yao.2 fun i hi=>hall i (by have:=ybs.1 hi;omega)
  rw [this]
  (repeat' ((conv=>whnf);(first|refine zah (by omega) ?_|fail)));conv=>whnf
  exact eT trivial
theorem zlh {α:Type} {f:α→List AV} (l:List α) (d:α) (k:Nat) (h:k<l.length):(l.take (k+1)).flatMap f=(l.take k).flatMap f++f (l.getD k d):=by
 rw [ydo h,ybx]
 simp [ybp,h]
def nmE (f:Fct):List AV:=[.str f.nm]
theorem zx7 (m:Mdl) (hl:m.facts.length≤1000000) (H:Heap):VDet Tryz.prog 60 [.agg m.cells] H (.sl none m.facts.length (m.facts.flatMap nmE)):=by
 obtain ⟨k,n,rel,lp,fs,us,bs⟩:=m
 simp only at hl
 unfold Mdl.cells
 simp only
 have hnb:∀ (n:Nat) (l:List Fct),zaa n (l.flatMap nmE):=fun n l=>za9 l fun _=>⟨trivial,trivial⟩
 have hb1:=fun n=>zb7 n rel
 have hb2:=fun n=>zc3 n us
 have hb3:=fun n=>zc6 n bs
 generalize rel.flatMap enc64=rc at *
 generalize us.flatMap Fnc.cells=uc at *
 generalize bs.flatMap Bnd.cells=bc at *
 have hsz:∀ f:Fct,(nmE f).length=1:=fun _=>rfl
 have hfl:∀ j,j≤fs.length→((fs.take j).flatMap nmE).length=j:=fun j hj=>by
  rw [zaq (f:=nmE) (sz:=1) hsz,yci]
  omega
 refine fdD Tryz.func60 ⟨rfl,rfl,rfl⟩ fun hcl hbl=>?_
 conv=>whnf
 refine LoopN.tok 3 9 1 rfl rfl rfl ?_
 refine zam Tryz.E0 zaf (σ:=Nat) (fun j=>j≤fs.length) (fun j=>fs.length-j) (fun j=>[(3,.v (.sl (some (H.length+1)) j ((fs.take j).flatMap nmE))),(4,.v (.int .i64 j))]) (fun j=>[.box 27 [.int .u8 k,.int .i64 n,.sl none rel.length rc,.int .i64 lp,.sl none fs.length (fs.flatMap Fct.cells),.sl none us.length uc,.sl none bs.length bc],.tok 9 1 ((fs.take j).flatMap nmE).length]) _ 0 rfl hcl [1] rfl (yah _) ⟨⟨_,rfl,yae _⟩,⟨_,rfl,yae _⟩,trivial⟩ rfl (fun _ _=>rfl) ?_
 intro j hj
 clear hbl
 rcases yag j fs.length with hlt|hge
 ·have hns:(fs.take (j+1)).flatMap nmE=(fs.take j).flatMap nmE++[.str (fs.getD j fct0).nm]:=zlh fs fct0 j hlt
  have qc:Fct.cells (fs.getD j fct0)=[.str (fs.getD j fct0).nm,.int .i64 (fs.getD j fct0).ar,.int .i64 (fs.getD j fct0).tr]:=rfl
  have h1:=hfl j (by omega)
  generalize (fs.getD j fct0).nm=s at hns qc
  generalize (fs.getD j fct0).ar=ar at qc
  generalize (fs.getD j fct0).tr=tr at qc
  have hb4:=fun n=>hnb n (fs.take j)
  have hb5:=fun n=>hnb n (fs.take (j+1))
  (repeat' ((conv=>whnf);(first|refine yar (by omega) ?_|(refine zac _ _ Cst.h Cst.h ?_ ?_;· omega)|(refine yaf ?_ ?_;· first|omega|exact yaa _ _|fail)|refine SegN.nthE (f:=Fct.cells) fct0 j rfl hlt zbt qc ?_|refine yaf ⟨rfl,rfl,rfl,by dsimp only;omega,by simp only [maxLen];omega⟩ ?_|refine yca _ rfl ?_|fail)));conv=>whnf
  rw [← hns]
  (refine ⟨⟨j+1,by show j+1≤_;omega,by omega,?_,.inl ⟨rfl,rfl⟩,rfl,_,rfl,?_⟩⟩;rotate_left 1;exact .inl rfl;exact ⟨⟨_,rfl,yae _⟩,⟨_,rfl,yae _⟩,trivial⟩)
 ·obtain rfl:j=fs.length:=by omega
  rw [ya2]
  have hb4:=fun n=>hnb n fs
  (repeat' ((conv=>whnf);(first|refine zah (by omega) ?_|fail)));conv=>whnf
  exact ya1 (by simp [below,zaa,hb4]) (wk_sl _ _ _)
end
section
def fOk (n:Int) (l:List Fct) (i:Nat):Bool:=decide ((fAt l i).ar=0)&&(decide (0≤(fAt l i).tr)&&decide ((fAt l i).tr<2 ^ n.toNat))
def zhf (n:Int) (l:List Fct):Bool:=(List.range l.length).all (fOk n l)
theorem map_nm (l:List Fct) (i:Nat):(l.map Fct.nm).getD i eN=(fAt l i).nm:=by
 unfold fAt
 rw [ybp,ybp,ya7]
 cases l[i]? <;> rfl
theorem zic (n:Int) (l:List Fct):zi3 n l=(isNmG (l.map Fct.nm)&&zhf n l):=by
 unfold zi3 isNmG zhf
 rw [yav]
 apply yb9.2
 rw [yak,yao,yao,yao]
 have key:∀ i,okAt n l i=(nmAt (l.map Fct.nm) i&&fOk n l i):=fun i=>by
  unfold okAt nmAt fOk
  rw [map_nm,map_nm,Bool.and_assoc]
 constructor
 ·intro h
  constructor
  ·intro x hx
   have:=h x hx
   rw [key,yak] at this
   exact this.1
  ·intro x hx
   have:=h x hx
   rw [key,yak] at this
   exact this.2
 ·rintro ⟨h1,h2⟩ x hx
  rw [key,h1 x hx,h2 x hx]
  rfl
theorem zti (l:List Fct):l.flatMap nmE=(l.map Fct.nm).flatMap encSG:=by rw [List.flatMap_map];rfl
attribute [local irreducible] VW VCall VO bits
theorem zc0 (m:Mdl) (hl:m.facts.length≤1000000) (hn:m.Nm) (H:Heap):VDet Tryz.prog 57 [.agg m.cells] H (.bool (zcd m)):=by
 have h60:=zx7 m hl
 have h61:=zmw (m.facts.map Fct.nm) (by rw [yav];omega) (fun c hc=>by
  obtain ⟨f,hf,rfl⟩:=ybu.1 hc
  exact hn.facts f hf)
 rw [yav,← zti] at h61
 have hnb:∀ k,zaa k (m.facts.flatMap nmE):=fun k=>za9 _ fun _=>⟨trivial,trivial⟩
 unfold zcd
 rw [zic]
 have hfo:(∀ i,i<m.facts.length→fOk m.size m.facts i=true)→zhf m.size m.facts=true:=fun h=>yao.2 fun i hi=>h i (ybs.1 hi)
 have hfn:∀ i,i<m.facts.length→fOk m.size m.facts i=false→zhf m.size m.facts=false:=fun i hi h=>by
  unfold zhf
  rw [List.all_eq_false]
  exact ⟨i,ybs.2 hi,by simp [h]⟩
 generalize m.facts.flatMap nmE=nc at *
 generalize isNmG (m.facts.map Fct.nm)=b at *
 generalize zhf m.size m.facts=r at *
 cases hb:headB m with
 | false =>
   have hb:=of_decide_eq_false hb
   rw [ya0]
   obtain ⟨k,n,rel,lp,fs,us,bs⟩:=m
   simp only at hb hl h60 h61 hfo hfn
   unfold Mdl.cells at h60 ⊢
   simp only at h60 ⊢
   clear hfo hfn
   cases b
   all_goals
    refine fdD Tryz.func57 ⟨rfl,rfl,rfl⟩ fun hcl hbl=>?_
    (repeat' ((conv=>whnf);(first|(refine yai ?_;first|refine yas ?_|refine yaq rfl ?_|refine yau rfl ?_|refine yar (by omega) ?_|refine za1 (fun _=>?_) (fun _=>?_)|fail)|(refine ybk ?_;first|refine yab _ (h60 _) ?_|refine yab _ (h61 _) ?_|fail)|fail)));all_goals (conv=>whnf)
    all_goals first
     | exact eT trivial
     | (exfalso;omega)
 | true =>
   obtain ⟨h1,h2,h3,h4,h5,h6,h7,h8⟩:=of_decide_eq_true hb
   rw [ya8]
   obtain ⟨k,n,rel,lp,fs,us,bs⟩:=m
   simp only at h1 h2 h3 h4 h5 h6 h7 h8 hl h60 h61 hfo hfn ⊢
   unfold Mdl.cells at h60 ⊢
   simp only at h60 ⊢
   cases b with
   | false =>
     rw [ya0]
     refine fdD Tryz.func57 ⟨rfl,rfl,rfl⟩ fun hcl hbl=>?_
     (repeat' ((conv=>whnf);(first|(refine yai ?_;first|refine yas ?_|refine yau rfl ?_|refine yar (by omega) ?_|refine zah (by omega) ?_|fail)|(refine ybk ?_;first|refine yab _ (h60 _) ?_|refine yab _ (h61 _) ?_|fail)|fail)));conv=>whnf
     exact eT trivial
   | true =>
     rw [ya8]
     obtain ⟨S,hS,hSe⟩:=zun (k:=fun y=>y=2 ^ n.toNat) ⟨h2,h3⟩ rfl
     refine fdD Tryz.func57 ⟨rfl,rfl,rfl⟩ fun hcl hbl=>?_
     (repeat' ((conv=>whnf);(first|(refine yai ?_;first|refine yas ?_|refine yaq rfl ?_|refine yar (by omega) ?_|refine zah (by omega) ?_|fail)|(refine ybk ?_;first|refine yab _ (h60 _) ?_|refine yab _ (h61 _) ?_|fail)|fail)));conv=>whnf
     refine zam Tryz.E0 zaf (σ:=Nat) (fun k=>k≤fs.length∧∀ i,i<k→fOk n fs i=true) (fun k=>fs.length-k) (fun k=>[(3,.v (.int .i64 k))]) (fun _=>_) _ 0 rfl hcl [1] rfl ⟨yah _,fun i hi=>absurd hi (Nat.not_lt_zero i)⟩ ⟨⟨_,rfl,yae _⟩,trivial⟩ rfl (fun _ _=>rfl) ?_
     rintro j ⟨hj,hok⟩
     clear hbl
     rcases yag j fs.length with hlt|hge
     ·have hdef:fOk n fs j=(decide ((fAt fs j).ar=0)&&(decide (0≤(fAt fs j).tr)&&decide ((fAt fs j).tr<2 ^ n.toNat))):=rfl
      obtain ⟨s,a,t,hc⟩:∃ s a t,fAt fs j=⟨s,a,t⟩:=⟨_,_,_,rfl⟩
      have qc:Fct.cells (fs.getD j fct0)=[.str s,.int .i64 a,.int .i64 t]:=by
       show Fct.cells (fAt fs j)=_
       rw [hc];rfl
      rw [hc,← hSe] at hdef
      simp only at hdef
      by_cases ha:a=0∧0≤t∧t<S
      ·have hz1:fOk n fs j=true:=by rw [hdef,decide_eq_true ha.1,decide_eq_true ha.2.1,decide_eq_true ha.2.2];rfl
       (repeat' ((conv=>whnf);(first|(refine yai ?_;first|refine yas ?_|refine yar (by omega) ?_|refine zah (by omega) ?_|fail)|(refine yct ?_;first|refine EqN.mk S hS ?_|(refine zac _ _ Cst.h Cst.h ?_ ?_;· omega)|fail)|(refine yaf ?_ ?_;· first|kernel_rfl|omega|exact yaa _ _|fail)|refine SegN.nthE (f:=Fct.cells) fct0 j rfl hlt zbt qc ?_|refine zad [] ?_|fail)));conv=>whnf
       all_goals (refine ⟨⟨j+1,⟨by omega,fun i hi=>by
        by_cases e:i=j
        ·rw [e];exact hz1
        ·exact hok i (by omega)⟩,by omega,?_,.inl ⟨rfl,rfl⟩,rfl,_,rfl,?_⟩⟩;rotate_left 1;exact .inl rfl;exact ⟨⟨_,rfl,yae _⟩,trivial⟩)
      ·have hz0:fOk n fs j=false:=by
        rw [hdef]
        by_cases e1:a=0
        ·by_cases e2:0≤t
         ·rw [decide_eq_false (fun q=>ha ⟨e1,e2,q⟩),ycy,ycy]
         ·rw [decide_eq_false e2,ya0,ycy]
        ·rw [decide_eq_false e1,ya0]
       rw [hfn j hlt hz0]
       (repeat' ((conv=>whnf);(first|(refine yai ?_;first|refine yas ?_|refine yar (by omega) ?_|refine za1 (fun _=>?_) (fun _=>?_)|fail)|refine EqN.mk S hS ?_|(refine yaf ?_ ?_;· first|kernel_rfl|omega|exact yaa _ _|fail)|refine SegN.nthE (f:=Fct.cells) fct0 j rfl hlt zbt qc ?_|refine zad [] ?_|fail)));all_goals (conv=>whnf)
       all_goals first
        | exact eT trivial
        | (exfalso;omega)
     ·rw [hfo fun i hi=>hok i (by omega)]
      (repeat' ((conv=>whnf);(first|refine zah (by omega) ?_|fail)));conv=>whnf
      exact eT trivial
end
end Go.Proofs.YtjflngchbeegcaaGreatDoor.P10.C
namespace Go.Proofs.YtjflngchbeegcaaGreatDoor
open Go.Vsi
section
attribute [local irreducible] VW VCall VO
def posN (n lp x:Nat):Nat:=if x<n then x else lp+(x-lp) % (n-lp)
theorem zdm {n lp x:Nat} (h:lp<n):posN n lp x<n:=by
 unfold posN
 split
 ·assumption
 ·have:=Nat.mod_lt (x-lp) (show 0<n-lp by omega)
  omega
end
end Go.Proofs.YtjflngchbeegcaaGreatDoor
namespace Go.Proofs.YtjflngchbeegcaaGreatDoor.P10.C
open Go.Vsi
section
structure Tr where
 n:Nat
 lp:Nat
 fs:List (ByteArray×Nat)
def encT (f:ByteArray×Nat):List AV:=[.str f.1,.int .i64 0,.int .i64 f.2]
theorem zbb (f:ByteArray×Nat):(encT f).length=3:=rfl
theorem zar (n:Nat) (l:List (ByteArray×Nat)):zaa n (l.flatMap encT):=za9 _ fun x=>by simp [encT,zaa,below]
def Tr.cells (t:Tr):List AV:=[.int .u8 5,.int .i64 t.n,.sl none 0 [],.int .i64 t.lp,.sl none t.fs.length (t.fs.flatMap encT),.sl none 0 [],.sl none 0 []]
def p0:ByteArray×Nat:=(eN,0)
def ft (l:List (ByteArray×Nat)) (i:Nat):ByteArray×Nat:=l.getD i p0
structure Tr.Ok (t:Tr):Prop where
 n1:1≤t.n
 n5:t.n≤5
 lp:t.lp<t.n
 len:t.fs.length≤1000000
 nms:isNmG (t.fs.map (·.1))=true
 sz:∀ f∈t.fs,f.1.size≤9223372036854775807
 mask:∀ i,i<t.fs.length→(ft t.fs i).2<2 ^ t.n
theorem Tr.Ok.small {t:Tr} (h:t.Ok) (i:Nat) (hi:i<t.fs.length):(ft t.fs i).2<32 :=
 ybw (h.mask i hi) (yb7 (n:=2) (by decide) h.n5)
def Tr.mdl (t:Tr):Mdl:=⟨5,t.n,[],t.lp,t.fs.map fun p=>⟨p.1,0,p.2⟩,[],[]⟩
theorem zgi (t:Tr):t.mdl.cells=t.cells:=by
 obtain ⟨n,lp,fs⟩:=t
 simp only [Tr.mdl,Mdl.cells,Tr.cells,yav,List.flatMap_map]
 rfl
theorem fAt_mdl (t:Tr) (i:Nat) (hi:i<t.fs.length):fAt t.mdl.facts i=⟨(ft t.fs i).1,0,(ft t.fs i).2⟩:=by
 simp [fAt,ft,Tr.mdl,List.getD,hi]
theorem zx0 (n:Nat):(2:Int) ^ n=((2 ^ n:Nat):Int):=by simp
theorem Tr.Ok.valid {t:Tr} (h:t.Ok):zcd t.mdl=true:=by
 have h1:=h.n1
 have h2:=h.n5
 have h3:=h.lp
 have hh:headB t.mdl=true:=decide_eq_true ⟨rfl,by show (1:Int)≤t.n;omega,by show (t.n:Int)≤5;omega,by show (0:Int)≤t.lp;omega,by show (t.lp:Int)<t.n;omega,rfl,rfl,rfl⟩
 have hn:t.mdl.facts.map Fct.nm=t.fs.map (·.1):=by simp [Tr.mdl,List.map_map,Function.comp_def]
 have hl:t.mdl.facts.length=t.fs.length:=by simp [Tr.mdl]
 have hf:zhf t.mdl.size t.mdl.facts=true:=yao.2 fun i hi=>by
  have hi:=ybs.1 hi
  rw [hl] at hi
  unfold fOk
  rw [fAt_mdl t i hi]
  have hm:((ft t.fs i).2:Int)<2 ^ (t.mdl.size).toNat:=by
   show _<(2:Int) ^ ((t.n:Int)).toNat
   rw [ybn,zx0]
   have:=h.mask i hi
   omega
  simp [hm]
 unfold zcd
 rw [hh,zic,hn,h.nms,hf]
 rfl
theorem tr_of {m:Mdl} (hv:zcd m=true) (hl:m.facts.length≤1000000) (hn:m.Nm):∃ t:Tr,t.Ok∧m.cells=t.cells∧t.fs.length=m.facts.length:=by
 unfold zcd at hv
 rw [yak,zic,yak] at hv
 obtain ⟨h1,h2,h3⟩:=hv
 obtain ⟨q1,q2,q3,q4,q5,q6,q7,q8⟩:=of_decide_eq_true h1
 obtain ⟨k,n,rel,lp,fs,us,bs⟩:=m
 simp only at q1 q2 q3 q4 q5 q6 q7 q8 h2 h3 hl
 have hns:=hn.facts
 simp only at hns
 obtain rfl:=ydm.1 q6
 obtain rfl:=ydm.1 q7
 obtain rfl:=ydm.1 q8
 subst q1
 obtain ⟨N,rfl⟩:∃ N:Nat,n=N:=⟨n.toNat,by omega⟩
 obtain ⟨L,rfl⟩:∃ L:Nat,lp=L:=⟨lp.toNat,by omega⟩
 have hfo:∀ i,i<fs.length→(fAt fs i).ar=0∧0≤(fAt fs i).tr∧(fAt fs i).tr<2 ^ N:=fun i hi=>by
  have:=yao.1 h3 i (ybs.2 hi)
  unfold fOk at this
  simp only [yak,decide_eq_true_eq,ybn] at this
  exact this
 have hmem:∀ f∈fs,f.ar=0∧0≤f.tr∧f.tr<2 ^ N:=fun f hf=>by
  obtain ⟨i,hi,rfl⟩:=ydj hf
  have:=hfo i hi
  rwa [show fAt fs i=fs[i] by simp [fAt,ybp,hi]] at this
 have hfc:∀ l:List Fct,(∀ f∈l,f.ar=0∧0≤f.tr∧f.tr<2 ^ N)→l.flatMap Fct.cells=(l.map fun f=>(f.nm,f.tr.toNat)).flatMap encT:=by
  intro l
  induction l with
  | nil=>intro _;rfl
  | cons x l ih =>
    intro h
    have hx:=h x (ybc ..)
    rw [ya6,yb1,ya6,ih fun f hf=>h f (ya4 _ hf)]
    congr 1
    unfold Fct.cells encT
    rw [hx.1,Int.toNat_of_nonneg hx.2.1]
 refine ⟨⟨N,L,fs.map fun f=>(f.nm,f.tr.toNat)⟩,⟨by simp only;omega,by simp only;omega,by simp only;omega,by simpa using hl,?_,?_,?_⟩,?_,by simp⟩
 ·simp only [List.map_map,Function.comp_def]
  exact h2
 ·intro f hf
  simp only [ybu] at hf
  obtain ⟨x,hx,rfl⟩:=hf
  exact hns x hx
 ·intro i hi
  have hi':i<fs.length:=by simpa using hi
  have hx:=hmem fs[i] (List.getElem_mem hi')
  have e:ft (fs.map fun f=>(f.nm,f.tr.toNat)) i=(fs[i].nm,fs[i].tr.toNat):=by simp [ft,ybp,hi']
  simp only [e]
  have:=hx.2.2
  rw [zx0] at this
  omega
 ·unfold Mdl.cells Tr.cells
  simp only [yav,List.length_nil,ybf]
  rw [hfc fs hmem]
attribute [local irreducible] VW VCall VO bits
theorem zdt (t:Tr) (ht:t.Ok) (x:Nat) (hx:x<9223372036854775808) (H:Heap):VDet Tryz.prog 78 [.agg t.cells,.int .i64 x] H (.int .i64 (posN t.n t.lp x)):=by
 obtain ⟨n,lp,fs⟩:=t
 have h1:=ht.n1
 have h2:=ht.n5
 have h3:=ht.lp
 unfold Tr.cells
 simp only at h1 h2 h3 ⊢
 have hm:1≤n-lp→(x-lp) % (n-lp)<5:=fun h=>ybw (Nat.mod_lt _ h) (by omega)
 refine fdD Tryz.func78 ⟨rfl,rfl,rfl⟩ fun hcl hbl=>?_
 (repeat' ((conv=>whnf);(first|refine za1 (fun _=>?_) (fun _=>?_)|(refine yct ?_;first|(refine zac _ _ Cst.h Cst.h ?_ ?_;· omega)|(refine zb6 _ _ Cst.h Cst.h ?_ ?_;· omega)|refine zby _ _ Cst.h Cst.h ?_|fail)|(refine yaf ?_ ?_;· first|kernel_rfl|omega|fail)|refine zad [] ?_|fail)));all_goals (conv=>whnf)
 ·exact ya1 trivial (Wk.of_eq (by rw [posN,if_pos (by omega)]))
 ·exact ya1 trivial (Wk.of_eq (by rw [posN,if_neg (by omega)]))
theorem zdl (t:Tr) (ht:t.Ok) (x:Nat) (hx:x<9223372036854775808) (H:Heap):VDet Tryz.prog 59 [.agg t.cells,.int .i64 x] H (.int .i64 (posN t.n t.lp x)):=by
 obtain ⟨n,lp,fs⟩:=t
 have h1:=ht.n1
 have h2:=ht.n5
 have h3:=ht.lp
 unfold Tr.cells
 simp only at h1 h2 h3 ⊢
 have hm:1≤n-lp→(x-lp) % (n-lp)<5:=fun h=>ybw (Nat.mod_lt _ h) (by omega)
 refine fdD Tryz.func59 ⟨rfl,rfl,rfl⟩ fun hcl hbl=>?_
 (repeat' ((conv=>whnf);(first|refine za1 (fun _=>?_) (fun _=>?_)|(refine yct ?_;first|(refine zac _ _ Cst.h Cst.h ?_ ?_;· omega)|(refine zb6 _ _ Cst.h Cst.h ?_ ?_;· omega)|refine zby _ _ Cst.h Cst.h ?_|fail)|(refine yaf ?_ ?_;· first|kernel_rfl|omega|fail)|refine zad [] ?_|fail)));all_goals (conv=>whnf)
 ·exact ya1 trivial (Wk.of_eq (by rw [posN,if_pos (by omega)]))
 ·exact ya1 trivial (Wk.of_eq (by rw [posN,if_neg (by omega)]))
def bitAt (t:Tr) (i x:Nat):Nat:=((ft t.fs i).2 >>> posN t.n t.lp x) &&& 1
def rowS (K:Nat) (a b:Tr) (i:Nat):Bool:=decide ((ft a.fs i).1=(ft b.fs i).1)&&(List.range K).all fun x=>bitAt a i x==bitAt b i x
def sameB (K:Nat) (a b:Tr):Bool:=(a.fs.length==b.fs.length)&&(List.range a.fs.length).all (rowS K a b)
theorem zz2 {p:Nat→Bool} {n k:Nat} (hk:k<n) (h:p k=false):(List.range n).all p=false:=by
 rw [List.all_eq_false]
 exact ⟨k,ybs.2 hk,by simp [h]⟩
theorem zn2 {p:Nat→Bool} {n:Nat} (h:∀ i,i<n→p i=true):(List.range n).all p=true:=by
 rw [yao]
 exact fun x hx=>h x (ybs.1 hx)
theorem zxn {K:Nat} {a b:Tr} {k:Nat} (hk:k<a.fs.length) (h:rowS K a b k=false):sameB K a b=false:=by
 unfold sameB
 rw [zz2 hk h,ycy]
theorem zxo (a b:Tr) (ha:a.Ok) (hb:b.Ok) (H:Heap):VDet Tryz.prog 44 [.agg a.cells,.agg b.cells] H (.bool (sameB 25 a b)):=by
 have hpa:=fun x hx H=>zdt a ha x hx H
 have hpb:=fun x hx H=>zdt b hb x hx H
 have hla:=ha.len
 have hlb:=hb.len
 have hsa:=fun i hi=>ha.small i hi
 have hsb:=fun i hi=>hb.small i hi
 have hqa:=fun x=>ybw (zdm (x:=x) ha.lp) ha.n5
 have hqb:=fun x=>ybw (zdm (x:=x) hb.lp) hb.n5
 have hno:=fun k=>@zxn 25 a b k
 have hyes:∀ (e:a.fs.length=b.fs.length),(∀ i,i<a.fs.length→rowS 25 a b i=true)→sameB 25 a b=true:=fun e h=>by
  unfold sameB;rw [zn2 h,e];simp
 have hne:a.fs.length≠b.fs.length→sameB 25 a b=false:=fun e=>by unfold sameB;simp [e]
 have hrn:∀ k,(ft a.fs k).1≠(ft b.fs k).1→rowS 25 a b k=false:=fun k h=>by unfold rowS;rw [decide_eq_false h];rfl
 have hrb:∀ k x,x<25→bitAt a k x≠bitAt b k x→rowS 25 a b k=false:=fun k x hx h=>by
  unfold rowS;rw [zz2 hx (by simpa using h),ycy]
 have hry:∀ k,(ft a.fs k).1=(ft b.fs k).1→(∀ x,x<25→bitAt a k x=bitAt b k x)→rowS 25 a b k=true:=fun k h h2=>by
  unfold rowS;rw [decide_eq_true h,zn2 fun x hx=>by simpa using h2 x hx];rfl
 have eba:∀ k x,bitAt a k x=((ft a.fs k).2 >>> posN a.n a.lp x) &&& 1:=fun _ _=>rfl
 have ebb:∀ k x,bitAt b k x=((ft b.fs k).2 >>> posN b.n b.lp x) &&& 1:=fun _ _=>rfl
 generalize sameB 25 a b=R at hno hyes hne ⊢
 generalize rowS 25 a b=rS at hno hyes hrn hrb hry
 generalize bitAt a=ba at hrb hry eba
 generalize bitAt b=bb at hrb hry ebb
 obtain ⟨na,lpa,fa⟩:=a
 obtain ⟨nb,lpb,fb⟩:=b
 unfold Tr.cells at hpa hpb ⊢
 simp only at hpa hpb hla hlb hsa hsb hqa hqb hno hyes hne hrn hrb hry eba ebb ⊢
 refine fdD Tryz.func44 ⟨rfl,rfl,rfl⟩ fun hcl hbl=>?_
 (repeat' ((conv=>whnf);(first|(refine yai ?_;first|refine yas ?_|refine za1 (fun _=>?_) (fun _=>?_)|fail)|fail)));all_goals (conv=>whnf)
 all_goals try (refine ya1 trivial (Wk.of_eq ?_);rw [hne (by omega)])
 refine zam Tryz.E0 zaf (σ:=Nat) (fun k=>k≤fa.length∧∀ i,i<k→rS i=true) (fun k=>fa.length-k) (fun k=>[(18,.v (.int .i64 k))]) (fun _=>_) _ 0 rfl hcl [2,3,16,17] rfl ⟨yah _,fun i hi=>absurd hi (Nat.not_lt_zero i)⟩ ⟨⟨_,rfl,yae _⟩,trivial⟩ rfl (fun _ _=>rfl) ?_
 rintro k ⟨hk,hok⟩
 clear hbl
 have hfk:∃ s m,fa.getD k p0=(s,m):=⟨_,_,rfl⟩
 have hgk:∃ s m,fb.getD k p0=(s,m):=⟨_,_,rfl⟩
 obtain ⟨s1,m1,e1⟩:=hfk
 obtain ⟨s2,m2,e2⟩:=hgk
 have qa:encT (fa.getD k p0)=[.str s1,.int .i64 0,.int .i64 m1]:=by rw [e1];rfl
 have qb:encT (fb.getD k p0)=[.str s2,.int .i64 0,.int .i64 m2]:=by rw [e2];rfl
 have hrn:=hrn k
 have hry:=hry k
 unfold ft at hrn hry hsa hsb eba ebb
 rw [e1,e2] at hrn hry
 have eba:∀ x,ba k x=(m1 >>> posN na lpa x) &&& 1:=fun x=>by rw [eba,e1]
 have ebb:∀ x,bb k x=(m2 >>> posN nb lpb x) &&& 1:=fun x=>by rw [ebb,e2]
 rcases yag k fa.length with hlt|hge
 ·have h1:=hsa k (by omega)
  have h2:=hsb k (by omega)
  rw [e1] at h1
  rw [e2] at h2
  simp only at h1 h2
  by_cases hn:s1=s2
  ·subst hn
   (repeat' ((conv=>whnf);(first|(refine yai ?_;first|refine yaq (beq_self_eq_true _) ?_|refine yas ?_|refine yar (by omega) ?_|fail)|(refine yaf ?_ ?_;· first|kernel_rfl|omega|exact yaa _ _|fail)|refine SegN.nthE p0 k rfl (by omega) zbb qa ?_|refine SegN.nthE p0 k rfl (by omega) zbb qb ?_|refine zad [] ?_|fail)));conv=>whnf
   refine zam Tryz.E0 zaf (σ:=Nat) (fun x=>x≤25∧∀ y,y<x→ba k y=bb k y) (fun x=>25-x) (fun x=>[(32,.v (.int .i64 x))]) (fun _=>_) _ 0 rfl hcl [2,3,5,6,16,17,18] rfl ⟨yah _,fun i hi=>absurd hi (Nat.not_lt_zero i)⟩ ⟨⟨_,rfl,yae _⟩,trivial⟩ rfl (fun _ _=>rfl) ?_
   rintro x ⟨hx,hsame⟩
   have h3:=hqa x
   have h4:=hqb x
   (repeat' ((conv=>whnf);(first|(refine yai ?_;first|refine yas ?_|refine za1 (fun _=>?_) (fun _=>?_)|fail)|(refine yct ?_;first|(refine EqN.and _ _ Cst.h Cst.h ?_ ?_;· (repeat' (first|omega|refine yb3 ?_ ?_|exact zag (by omega)|exact zat (by omega)|refine zbf ?_ ?_|refine zas ?_ ?_|refine za2 ?_ ?_|refine zao ?_ ?_|refine za3 ?_|refine za4 ?_ ?_|refine za5 ?_|refine zag ?_|fail)))|(refine zd4 _ _ Cst.h Cst.h rfl ?_ ?_;· (repeat' (first|omega|refine yb3 ?_ ?_|exact zag (by omega)|exact zat (by omega)|refine zbf ?_ ?_|refine zas ?_ ?_|refine za2 ?_ ?_|refine zao ?_ ?_|refine za3 ?_|refine za4 ?_ ?_|refine za5 ?_|refine zag ?_|fail)))|(refine zac _ _ Cst.h Cst.h ?_ ?_;· omega)|fail)|(refine yaf ?_ ?_;· first|kernel_rfl|omega|exact yaa _ _|fail)|(refine ycg ?_;first|refine yan _ (fun _ hq X=>hpa x (by omega) _) ?_|refine yan _ (fun _ hq X=>hpb x (by omega) _) ?_|fail)|refine SegN.nthE p0 k rfl (by omega) zbb qb ?_|refine zad [] ?_|fail)));all_goals (conv=>whnf)
   ·rename_i he
    have hxy:ba k x=bb k x:=by rw [eba,ebb];exact Int.natCast_inj.1 he
    (refine ⟨⟨x+1,⟨by omega,fun y hy=>by
     rcases yag y x with h|h
     ·exact hsame y h
     ·have:y=x:=by omega
      exact this▸hxy⟩,by omega,?_,.inl ⟨rfl,rfl⟩,rfl,_,rfl,?_⟩⟩;rotate_left 1;exact .inl rfl;exact ⟨⟨_,rfl,yae _⟩,trivial⟩)
   ·rename_i he
    refine ya1 trivial (Wk.of_eq ?_)
    rw [hno k (by omega) (hrb k x (by omega) fun h=>he (by rw [eba,ebb] at h;rw [h]))]
   ·have hk1:=hry rfl fun y hy=>hsame y (by omega)
    (refine ⟨⟨k+1,⟨by omega,fun i hi=>by
     rcases yag i k with h|h
     ·exact hok i h
     ·have:i=k:=by omega
      exact this▸hk1⟩,by omega,?_,.inr ?_,rfl,_,rfl,?_⟩⟩;rotate_left 2;exact .inr ⟨by simp [zbe,below,zaa,tr,zar],by simp [zcj,Blk.below,zaa,below,zar]⟩;all_goals (repeat' (first|exact trivial|refine ⟨⟨_,rfl,?_⟩,?_⟩|fail));all_goals exact yae _)
  ·have hne2:(s1.toList==s2.toList)=false:=by rw [zi5,decide_eq_false hn]
   (repeat' ((conv=>whnf);(first|(refine yai ?_;first|refine yau hne2 ?_|refine yas ?_|refine yar (by omega) ?_|fail)|(refine yaf ?_ ?_;· first|kernel_rfl|omega|exact yaa _ _|fail)|refine SegN.nthE p0 k rfl (by omega) zbb qa ?_|refine SegN.nthE p0 k rfl (by omega) zbb qb ?_|refine zad [] ?_|fail)));conv=>whnf
   refine ya1 trivial (Wk.of_eq ?_)
   rw [hno k (by omega) (hrn hn)]
 ·(repeat' ((conv=>whnf);(first|refine zah (by omega) ?_|fail)));conv=>whnf
  refine ya1 trivial (Wk.of_eq ?_)
  rw [hyes (by omega) (fun i hi=>hok i (by omega))]
theorem zou (a b:Tr) (ha:a.Ok) (hb:b.Ok) (H:Heap):VDet Tryz.prog 58 [.agg a.cells,.agg b.cells] H (.bool (sameB 30 a b)):=by
 have hpa:=fun x hx H=>zdl a ha x hx H
 have hpb:=fun x hx H=>zdl b hb x hx H
 have hla:=ha.len
 have hlb:=hb.len
 have hsa:=fun i hi=>ha.small i hi
 have hsb:=fun i hi=>hb.small i hi
 have hqa:=fun x=>ybw (zdm (x:=x) ha.lp) ha.n5
 have hqb:=fun x=>ybw (zdm (x:=x) hb.lp) hb.n5
 have hno:=fun k=>@zxn 30 a b k
 have hyes:∀ (e:a.fs.length=b.fs.length),(∀ i,i<a.fs.length→rowS 30 a b i=true)→sameB 30 a b=true:=fun e h=>by
  unfold sameB;rw [zn2 h,e];simp
 have hne:a.fs.length≠b.fs.length→sameB 30 a b=false:=fun e=>by unfold sameB;simp [e]
 have hrn:∀ k,(ft a.fs k).1≠(ft b.fs k).1→rowS 30 a b k=false:=fun k h=>by unfold rowS;rw [decide_eq_false h];rfl
 have hrb:∀ k x,x<30→bitAt a k x≠bitAt b k x→rowS 30 a b k=false:=fun k x hx h=>by
  unfold rowS;rw [zz2 hx (by simpa using h),ycy]
 have hry:∀ k,(ft a.fs k).1=(ft b.fs k).1→(∀ x,x<30→bitAt a k x=bitAt b k x)→rowS 30 a b k=true:=fun k h h2=>by
  unfold rowS;rw [decide_eq_true h,zn2 fun x hx=>by simpa using h2 x hx];rfl
 have eba:∀ k x,bitAt a k x=((ft a.fs k).2 >>> posN a.n a.lp x) % 2:=fun _ _=>Nat.and_one_is_mod _
 have ebb:∀ k x,bitAt b k x=((ft b.fs k).2 >>> posN b.n b.lp x) % 2:=fun _ _=>Nat.and_one_is_mod _
 generalize sameB 30 a b=R at hno hyes hne ⊢
 generalize rowS 30 a b=rS at hno hyes hrn hrb hry
 generalize bitAt a=ba at hrb hry eba
 generalize bitAt b=bb at hrb hry ebb
 obtain ⟨na,lpa,fa⟩:=a
 obtain ⟨nb,lpb,fb⟩:=b
 unfold Tr.cells at hpa hpb ⊢
 simp only at hpa hpb hla hlb hsa hsb hqa hqb hno hyes hne hrn hrb hry eba ebb ⊢
 refine fdD Tryz.func58 ⟨rfl,rfl,rfl⟩ fun hcl hbl=>?_
 (repeat' ((conv=>whnf);(first|(refine yai ?_;first|refine yas ?_|refine za1 (fun _=>?_) (fun _=>?_)|fail)|fail)));all_goals (conv=>whnf)
 all_goals try (refine ya1 trivial (Wk.of_eq ?_);rw [hne (by omega)])
 refine zam Tryz.E0 zaf (σ:=Nat) (fun k=>k≤fa.length∧∀ i,i<k→rS i=true) (fun k=>fa.length-k) (fun k=>[(5,.v (.int .i64 k))]) (fun _=>_) _ 0 rfl hcl [2,3] rfl ⟨yah _,fun i hi=>absurd hi (Nat.not_lt_zero i)⟩ ⟨⟨_,rfl,yae _⟩,trivial⟩ rfl (fun _ _=>rfl) ?_
 rintro k ⟨hk,hok⟩
 clear hbl
 have hfk:∃ s m,fa.getD k p0=(s,m):=⟨_,_,rfl⟩
 have hgk:∃ s m,fb.getD k p0=(s,m):=⟨_,_,rfl⟩
 obtain ⟨s1,m1,e1⟩:=hfk
 obtain ⟨s2,m2,e2⟩:=hgk
 have qa:encT (fa.getD k p0)=[.str s1,.int .i64 0,.int .i64 m1]:=by rw [e1];rfl
 have qb:encT (fb.getD k p0)=[.str s2,.int .i64 0,.int .i64 m2]:=by rw [e2];rfl
 have hrn:=hrn k
 have hry:=hry k
 unfold ft at hrn hry hsa hsb eba ebb
 rw [e1,e2] at hrn hry
 have eba:∀ x,ba k x=(m1 >>> posN na lpa x) % 2:=fun x=>by rw [eba,e1]
 have ebb:∀ x,bb k x=(m2 >>> posN nb lpb x) % 2:=fun x=>by rw [ebb,e2]
 rcases yag k fa.length with hlt|hge
 ·have h1:=hsa k (by omega)
  have h2:=hsb k (by omega)
  rw [e1] at h1
  rw [e2] at h2
  simp only at h1 h2
  by_cases hn:s1=s2
  ·subst hn
   (repeat' ((conv=>whnf);(first|(refine yai ?_;first|refine yaq (beq_self_eq_true _) ?_|refine yas ?_|refine yar (by omega) ?_|fail)|(refine yaf ?_ ?_;· first|kernel_rfl|omega|exact yaa _ _|fail)|refine SegN.nthE p0 k rfl (by omega) zbb qa ?_|refine SegN.nthE p0 k rfl (by omega) zbb qb ?_|refine zad [] ?_|fail)));conv=>whnf
   refine zam Tryz.E0 zaf (σ:=Nat) (fun x=>x≤30∧∀ y,y<x→ba k y=bb k y) (fun x=>30-x) (fun x=>[(6,.v (.int .i64 x))]) (fun _=>_) _ 0 rfl hcl [2,3,5] rfl ⟨yah _,fun i hi=>absurd hi (Nat.not_lt_zero i)⟩ ⟨⟨_,rfl,yae _⟩,trivial⟩ rfl (fun _ _=>rfl) ?_
   rintro x ⟨hx,hsame⟩
   have h3:=hqa x
   have h4:=hqb x
   (repeat' ((conv=>whnf);(first|(refine yai ?_;first|refine yas ?_|refine za1 (fun _=>?_) (fun _=>?_)|fail)|(refine yct ?_;first|refine zby _ 2 rfl rfl ?_|(refine zd4 _ _ Cst.h Cst.h rfl ?_ ?_;· (repeat' (first|omega|refine yb3 ?_ ?_|exact zag (by omega)|exact zat (by omega)|refine zbf ?_ ?_|refine zas ?_ ?_|refine za2 ?_ ?_|refine zao ?_ ?_|refine za3 ?_|refine za4 ?_ ?_|refine za5 ?_|refine zag ?_|fail)))|(refine zac _ _ Cst.h Cst.h ?_ ?_;· omega)|fail)|(refine yaf ?_ ?_;· first|kernel_rfl|omega|exact yaa _ _|fail)|(refine ycg ?_;first|refine yan _ (fun _ hq X=>hpa x (by omega) _) ?_|refine yan _ (fun _ hq X=>hpb x (by omega) _) ?_|fail)|refine SegN.nthE p0 k rfl (by omega) zbb qa ?_|refine SegN.nthE p0 k rfl (by omega) zbb qb ?_|refine zad [] ?_|fail)));all_goals (conv=>whnf)
   ·rename_i he
    have hxy:ba k x=bb k x:=by rw [eba,ebb];exact Int.natCast_inj.1 he
    (refine ⟨⟨x+1,⟨by omega,fun y hy=>by
     rcases yag y x with h|h
     ·exact hsame y h
     ·have:y=x:=by omega
      exact this▸hxy⟩,by omega,?_,.inl ⟨rfl,rfl⟩,rfl,_,rfl,?_⟩⟩;rotate_left 1;exact .inl rfl;exact ⟨⟨_,rfl,yae _⟩,trivial⟩)
   ·rename_i he
    refine ya1 trivial (Wk.of_eq ?_)
    rw [hno k (by omega) (hrb k x (by omega) fun h=>he (by rw [eba,ebb] at h;rw [h]))]
   ·have hk1:=hry rfl fun y hy=>hsame y (by omega)
    (refine ⟨⟨k+1,⟨by omega,fun i hi=>by
     rcases yag i k with h|h
     ·exact hok i h
     ·have:i=k:=by omega
      exact this▸hk1⟩,by omega,?_,.inr ?_,rfl,_,rfl,?_⟩⟩;rotate_left 2;exact .inl rfl;all_goals (repeat' (first|exact trivial|refine ⟨⟨_,rfl,?_⟩,?_⟩|fail));all_goals exact yae _)
  ·have hne2:(s1.toList==s2.toList)=false:=by rw [zi5,decide_eq_false hn]
   (repeat' ((conv=>whnf);(first|(refine yai ?_;first|refine yau hne2 ?_|refine yas ?_|refine yar (by omega) ?_|fail)|(refine yaf ?_ ?_;· first|kernel_rfl|omega|exact yaa _ _|fail)|refine SegN.nthE p0 k rfl (by omega) zbb qa ?_|refine SegN.nthE p0 k rfl (by omega) zbb qb ?_|refine zad [] ?_|fail)));conv=>whnf
   refine ya1 trivial (Wk.of_eq ?_)
   rw [hno k (by omega) (hrn hn)]
 ·(repeat' ((conv=>whnf);(first|refine zah (by omega) ?_|fail)));conv=>whnf
  refine ya1 trivial (Wk.of_eq ?_)
  rw [hyes (by omega) (fun i hi=>hok i (by omega))]
end
section
def chkS:Bool:=(List.range 6).all fun na=>(List.range na).all fun la=>(List.range 6).all fun nb=>(List.range nb).all fun lb=>(List.range 5).all fun t=>(List.range 25).any fun y=>posN na la (25+t)==posN na la y&&posN nb lb (25+t)==posN nb lb y
theorem chkS_ok:chkS=true:=by decide +kernel
theorem pos_back (na la nb lb:Nat) (h1:na≤5) (h2:la<na) (h3:nb≤5) (h4:lb<nb) (t:Nat) (h5:t<30):∃ y,y<25∧posN na la t=posN na la y∧posN nb lb t=posN nb lb y:=by
 rcases yag t 25 with h|h
 ·exact ⟨t,h,rfl,rfl⟩
 ·have h0:=chkS_ok
  unfold chkS at h0
  rw [yao] at h0
  have h0:=h0 na (ybs.2 (by omega))
  rw [yao] at h0
  have h0:=h0 la (ybs.2 h2)
  rw [yao] at h0
  have h0:=h0 nb (ybs.2 (by omega))
  rw [yao] at h0
  have h0:=h0 lb (ybs.2 h4)
  rw [yao] at h0
  have h0:=h0 (t-25) (ybs.2 (by omega))
  rw [List.any_eq_true] at h0
  obtain ⟨y,hy,h0⟩:=h0
  rw [show 25+(t-25)=t by omega,yak,beq_iff_eq,beq_iff_eq] at h0
  exact ⟨y,ybs.1 hy,h0.1,h0.2⟩
theorem zxp {a b:Tr} (ha:a.Ok) (hb:b.Ok):sameB 30 a b=sameB 25 a b:=by
 have key:∀ i,rowS 30 a b i=rowS 25 a b i:=fun i=>by
  unfold rowS
  congr 1
  apply yb9.2
  rw [yao,yao]
  constructor
  ·intro h x hx
   exact h x (ybs.2 (by have:=ybs.1 hx;omega))
  ·intro h x hx
   obtain ⟨y,hy,e1,e2⟩:=pos_back a.n a.lp b.n b.lp ha.n5 ha.lp hb.n5 hb.lp x (ybs.1 hx)
   have:=h y (ybs.2 hy)
   unfold bitAt at this ⊢
   rw [e1,e2]
   exact this
 unfold sameB
 congr 1
 exact congrArg _ (funext key)
def cntN (k n:Nat):Nat:=if 14<n * k then 0 else if 16384<n <<< (n * k) then 0 else n <<< (n * k)
theorem znt (k n:Nat):cntN k n≤16384:=by
 unfold cntN
 split
 ·omega
 ·split <;> omega
def pw (n k:Nat):Nat:=n * 2 ^ (n * k)
theorem zxy (n k:Nat):pw n (k+1)=pw n k * 2 ^ n:=by
 unfold pw
 rw [Nat.mul_add,Nat.mul_one,Nat.pow_add,Nat.mul_assoc]
theorem zq2 {n j k:Nat} (h:j≤k):pw n j≤pw n k:=Nat.mul_le_mul_left _ (yb7 (by decide) (Nat.mul_le_mul_left _ h))
theorem zps (k n:Nat) (h1:1≤n):cntN k n=if 16384<pw n k then 0 else pw n k:=by
 unfold cntN
 rw [Nat.shiftLeft_eq]
 show (if 14<n * k then 0 else if 16384<pw n k then 0 else pw n k)=_
 split
 ·rename_i h
  have:2 ^ 15≤2 ^ (n * k):=yb7 (by decide) h
  have h2:2 ^ (n * k)≤pw n k:=Nat.le_mul_of_pos_left _ h1
  rw [if_pos (by omega)]
 ·rfl
def cntR (b:Bool) (k n:Nat):AV:=cond b (.tup [.int .i64 (cntN k n:Nat),.int .i64 (if cntN k n=0 then 5 else 0)]) (.tup [.int .i64 0,.int .i64 2])
attribute [local irreducible] VW VCall VO bits
theorem zzr (k n:Nat) (hk:k≤1000) (hn:n≤5) (H:Heap):VDet Tryz.prog 47 [.int .i64 k,.int .i64 n] H (.int .i64 (cntN k n:Nat)):=by
 have hm:n * k≤5 * 1000:=Nat.mul_le_mul hn hk
 refine fdD Tryz.func47 ⟨rfl,rfl,rfl⟩ fun hcl hbl=>?_
 (repeat' ((conv=>whnf);(first|refine za1 (fun _=>?_) (fun _=>?_)|(refine yct ?_;first|(refine zde _ _ Cst.h Cst.h rfl ?_ ?_ ?_;(· (repeat' (first|omega|refine yb3 ?_ ?_|exact zag (by omega)|exact zat (by omega)|refine zbf ?_ ?_|refine zas ?_ ?_|refine za2 ?_ ?_|refine zao ?_ ?_|refine za3 ?_|refine za4 ?_ ?_|refine za5 ?_|refine zag ?_|fail)));(· (repeat' (first|omega|refine yb3 ?_ ?_|exact zag (by omega)|exact zat (by omega)|refine zbf ?_ ?_|refine zas ?_ ?_|refine za2 ?_ ?_|refine zao ?_ ?_|refine za3 ?_|refine za4 ?_ ?_|refine za5 ?_|refine zag ?_|fail))))|(refine zjp _ _ Cst.h Cst.h ?_ ?_;· omega)|fail)|refine yaf (by omega) ?_|fail)));all_goals (conv=>whnf)
 all_goals refine ya1 trivial (Wk.of_eq (congrArg (AV.int _) ?_))
 all_goals unfold cntN
 ·rw [if_pos (by omega)];rfl
 ·rw [if_neg (by omega),if_pos (by omega)];rfl
 ·rw [if_neg (by omega),if_neg (by omega)]
theorem Count_no (l:List ByteArray) (n:Int) (hn:n<1∨5<n) (H:Heap):VDet Tryz.prog 13 [.sl none l.length (l.flatMap encSG),.int .i64 n] H (.tup [.int .i64 0,.int .i64 2]):=by
 have hnb:=fun k=>zcm k l
 generalize l.flatMap encSG=lc at *
 refine fdD Tryz.func13 ⟨rfl,rfl,rfl⟩ fun hcl hbl=>?_
 (repeat' ((conv=>whnf);(first|(refine yai ?_;first|refine yar (by omega) ?_|refine za1 (fun _=>?_) (fun _=>?_)|fail)|fail)));all_goals (conv=>whnf)
 all_goals first
  | exact eT (by simp [below,zaa])
  | (exfalso;omega)
theorem Count_c (l:List ByteArray) (hlen:l.length≤1000) (hsz:∀ c∈l,c.size≤9223372036854775807) (n:Nat) (h1:1≤n) (hn:n≤5) (H:Heap):VDet Tryz.prog 13 [.sl none l.length (l.flatMap encSG),.int .i64 (n:Nat)] H (cntR (isNmG l) l.length n):=by
 have hcn:=zzr l.length n hlen hn
 have hcl0:=znt l.length n
 unfold cntR
 generalize cntN l.length n=cn at *
 refine fdD Tryz.func13 ⟨rfl,rfl,rfl⟩ fun hcl hbl=>?_
 (repeat' ((conv=>whnf);(first|refine zah (by omega) ?_|fail)));conv=>whnf
 refine zam Tryz.E0 zaf (σ:=Nat) (fun k=>k≤l.length∧∀ i,i<k→nmAt l i=true) (fun k=>l.length-k) (fun k=>[(17,.v (.int .i64 k))]) (fun _=>[]) _ 0 rfl hcl [0,1,15,16] rfl ⟨yah _,fun i hi=>by omega⟩ ⟨⟨_,rfl,yae _⟩,trivial⟩ rfl (fun _ _=>rfl) ?_
 rintro k ⟨hk,hall⟩
 clear hbl
 by_cases hlt:k<l.length
 ·have hp:=zhc (l.getD k eN) (hsz _ (getD_memT l k eN hlt))
  have hfalse:nmAt l k=false→isNmG l=false:=fun h=>by
   apply ybh.2
   intro hA
   rw [yao.1 hA k (ybs.2 hlt)] at h
   cases h
  have hdef:nmAt l k=(zec (l.getD k eN)&&(decide (k=0) || lessB (l.getD (k-1) eN) (l.getD k eN))):=rfl
  have hlb:Op.bytesLess (l.getD (k-1) eN).toList (l.getD k eN).toList=lessB (l.getD (k-1) eN) (l.getD k eN):=rfl
  cases hpb:zec (l.getD k eN) with
  | false =>
    rw [hpb] at hp hdef
    rw [hfalse (by rw [hdef];rfl)]
    (repeat' ((conv=>whnf);(first|(refine yai ?_;first|refine yas ?_|refine yau rfl ?_|refine yar (by omega) ?_|fail)|(refine yaf ?_ ?_;· first|omega|exact yaa _ _|fail)|refine yab _ (hp _) ?_|refine zce (f:=encSG) (l:=l) eN k rfl hlt (fun _=>rfl) ?_|fail)));conv=>whnf
    exact ya1 (by simp [below,zaa]) (Wk.of_eq rfl)
  | true =>
    rw [hpb] at hp hdef
    cases hlb2:lessB (l.getD (k-1) eN) (l.getD k eN) with
    | true =>
      rw [hlb2] at hlb hdef
      have hok:nmAt l k=true:=by rw [hdef];simp
      (repeat' ((conv=>whnf);(first|(refine yai ?_;first|refine yaq hlb ?_|refine yas ?_|refine yaq rfl ?_|refine yar (by omega) ?_|refine za1 (fun _=>?_) (fun _=>?_)|fail)|(refine yct ?_;first|(refine zac _ _ Cst.h Cst.h ?_ ?_;· omega)|(refine zb6 _ _ Cst.h Cst.h ?_ ?_;· omega)|fail)|(refine yaf ?_ ?_;· first|omega|exact yaa _ _|fail)|refine yab _ (hp _) ?_|refine zce (f:=encSG) (l:=l) eN k rfl hlt (fun _=>rfl) ?_|refine zce (f:=encSG) (l:=l) eN (k-1) (by omega) (by omega) (fun _=>rfl) ?_|fail)));all_goals (conv=>whnf)
      all_goals (refine ⟨⟨k+1,⟨by omega,fun i hi=>by
       by_cases e:i=k
       ·rw [e];exact hok
       ·exact hall i (by omega)⟩,by omega,?_,.inl ⟨rfl,rfl⟩,rfl,_,rfl,?_⟩⟩;rotate_left 1;exact .inl rfl;exact ⟨⟨_,rfl,yae _⟩,trivial⟩)
    | false =>
      rw [hlb2] at hlb hdef
      by_cases h0:k=0
      ·have hok:nmAt l k=true:=by rw [hdef];simp [h0]
       (repeat' ((conv=>whnf);(first|(refine yai ?_;first|refine yas ?_|refine yaq rfl ?_|refine yar (by omega) ?_|refine zah (by omega) ?_|fail)|(refine zac _ _ Cst.h Cst.h ?_ ?_;· omega)|(refine yaf ?_ ?_;· first|omega|exact yaa _ _|fail)|refine yab _ (hp _) ?_|refine zce (f:=encSG) (l:=l) eN k rfl hlt (fun _=>rfl) ?_|fail)));conv=>whnf
       all_goals (refine ⟨⟨k+1,⟨by omega,fun i hi=>by
        by_cases e:i=k
        ·rw [e];exact hok
        ·exact hall i (by omega)⟩,by omega,?_,.inl ⟨rfl,rfl⟩,rfl,_,rfl,?_⟩⟩;rotate_left 1;exact .inl rfl;exact ⟨⟨_,rfl,yae _⟩,trivial⟩)
      ·rw [hfalse (by rw [hdef];simp [h0])]
       (repeat' ((conv=>whnf);(first|(refine yai ?_;first|refine yau hlb ?_|refine yas ?_|refine yaq rfl ?_|refine yar (by omega) ?_|fail)|(refine zb6 _ _ Cst.h Cst.h ?_ ?_;· omega)|(refine yaf ?_ ?_;· first|omega|exact yaa _ _|fail)|refine yab _ (hp _) ?_|refine zce (f:=encSG) (l:=l) eN k rfl hlt (fun _=>rfl) ?_|refine zce (f:=encSG) (l:=l) eN (k-1) (by omega) (by omega) (fun _=>rfl) ?_|fail)));conv=>whnf
       all_goals exact ya1 (by simp [below,zaa]) (Wk.of_eq rfl)
 ·have:isNmG l=true:=yao.2 fun i hi=>hall i (by have:=ybs.1 hi;omega)
  rw [this]
  by_cases h0:cn=0
  ·subst h0
   (repeat' ((conv=>whnf);(first|(refine yai ?_;first|refine yaq rfl ?_|refine zah (by omega) ?_|fail)|refine yab _ (hcn _) ?_|fail)));conv=>whnf
   exact ya1 (by simp [below,zaa]) (Wk.of_eq rfl)
  ·(repeat' ((conv=>whnf);(first|refine zah (by omega) ?_|refine yab _ (hcn _) ?_|fail)));conv=>whnf
   exact ya1 (by simp [below,zaa]) (Wk.of_eq (by show _=AV.tup [.int .i64 (cn:Nat),.int .i64 (if cn=0 then 5 else 0)];rw [if_neg h0]))
theorem zqx (l:List ByteArray) (hlen:l.length≤1000) (hsz:∀ c∈l,c.size≤9223372036854775807) (n:Int) (hn:n<1∨5<n) (H:Heap):VDet Tryz.prog 22 [.sl none l.length (l.flatMap encSG),.int .i64 n] H (.tup [.int .i64 0,.int .i64 2]):=by
 have h61:=zmw l (by omega) hsz
 have hnb:=fun k=>zcm k l
 generalize isNmG l=b at *
 generalize l.flatMap encSG=lc at *
 cases b
 all_goals
  refine fdD Tryz.func22 ⟨rfl,rfl,rfl⟩ fun hcl hbl=>?_
  (repeat' ((conv=>whnf);(first|(refine yai ?_;first|refine yas ?_|refine yaq rfl ?_|refine yau rfl ?_|refine yar (by omega) ?_|refine za1 (fun _=>?_) (fun _=>?_)|fail)|refine yab _ (h61 _) ?_|fail)));all_goals (conv=>whnf)
  all_goals first
   | exact eT (by simp [below,zaa])
   | (exfalso;omega)
theorem zlv (l:List ByteArray) (hlen:l.length≤1000) (hsz:∀ c∈l,c.size≤9223372036854775807) (n:Nat) (h1:1≤n) (hn:n≤5) (H:Heap):VDet Tryz.prog 22 [.sl none l.length (l.flatMap encSG),.int .i64 (n:Nat)] H (cntR (isNmG l) l.length n):=by
 have h61:=zmw l (by omega) hsz
 have hnb:=fun k=>zcm k l
 have hcp:=zps l.length n h1
 have h0:pw n 0=n:=by unfold pw;simp
 have hs:=fun j=>zxy n j
 have hmo:=fun j (h:j≤l.length)=>zq2 (n:=n) h
 have h2n:2 ^ n≤32:=ybi (yb7 (by decide) hn) (by decide)
 have hpos:∀ j,1≤pw n j:=fun j=>ybi h1 (Nat.le_mul_of_pos_right _ (Nat.pow_pos (by decide)))
 have hsl:1 <<< n=2 ^ n:=Nat.one_shiftLeft n
 unfold cntR
 generalize cntN l.length n=cn at *
 generalize isNmG l=b at *
 generalize l.flatMap encSG=lc at *
 generalize l.length=k at *
 generalize pw n=P at *
 cases b with
 | false =>
   refine fdD Tryz.func22 ⟨rfl,rfl,rfl⟩ fun hcl hbl=>?_
   (repeat' ((conv=>whnf);(first|(refine yai ?_;first|refine yas ?_|refine yau rfl ?_|fail)|refine yab _ (h61 _) ?_|fail)));conv=>whnf
   exact ya1 (by simp [below,zaa]) (Wk.of_eq rfl)
 | true =>
   refine fdD Tryz.func22 ⟨rfl,rfl,rfl⟩ fun hcl hbl=>?_
   (repeat' ((conv=>whnf);(first|(refine yai ?_;first|refine yas ?_|refine yaq rfl ?_|refine zah (by omega) ?_|fail)|refine yab _ (h61 _) ?_|fail)));conv=>whnf
   refine zam Tryz.E0 zaf (σ:=Nat) (fun j=>j≤k∧P j≤16384) (fun j=>k-j) (fun j=>[(6,.v (.int .i64 (P j:Nat))),(7,.v (.int .i64 j))]) (fun _=>[]) _ 0 rfl hcl [0,1] rfl ⟨yah _,by omega⟩ ⟨⟨_,rfl,Wk.of_eq (by rw [h0])⟩,⟨_,rfl,yae _⟩,trivial⟩ rfl (fun _ _=>rfl) ?_
   rintro j ⟨hj,hP⟩
   rcases yag j k with hlt|hge
   ·have hsj:=hs j
    have hb:P j * 2 ^ n≤16384 * 32:=Nat.mul_le_mul hP h2n
    rw [← hsl] at hsj hb
    rw [← hsj] at hb
    have hmj:=hmo (j+1) hlt
    generalize hQ:P (j+1)=Q at *
    (repeat' ((conv=>whnf);(first|(refine yai ?_;first|refine yar (by omega) ?_|refine za1 (fun _=>?_) (fun _=>?_)|fail)|(refine yct ?_;first|refine zjp (P j) (1 <<< n) rfl rfl (by omega) ?_|(refine zde _ _ Cst.h Cst.h rfl ?_ ?_ ?_;(· (repeat' (first|omega|refine yb3 ?_ ?_|exact zag (by omega)|exact zat (by omega)|refine zbf ?_ ?_|refine zas ?_ ?_|refine za2 ?_ ?_|refine zao ?_ ?_|refine za3 ?_|refine za4 ?_ ?_|refine za5 ?_|refine zag ?_|fail)));(· (repeat' (first|omega|refine yb3 ?_ ?_|exact zag (by omega)|exact zat (by omega)|refine zbf ?_ ?_|refine zas ?_ ?_|refine za2 ?_ ?_|refine zao ?_ ?_|refine za3 ?_|refine za4 ?_ ?_|refine za5 ?_|refine zag ?_|fail))))|(refine zac _ _ Cst.h Cst.h ?_ ?_;· omega)|fail)|refine yaf (by omega) ?_|fail)));all_goals (conv=>whnf)
    ·rename_i hgt
     refine ya1 (by simp [below,zaa]) (Wk.of_eq ?_)
     have hc0:cn=0:=by rw [hcp,if_pos (by omega)]
     rw [hc0]
     rfl
    ·rw [← hsj]
     subst hQ
     (refine ⟨⟨j+1,⟨by omega,by omega⟩,by omega,?_,.inl ⟨rfl,rfl⟩,rfl,_,rfl,?_⟩⟩;rotate_left 1;exact .inl rfl;exact ⟨⟨_,rfl,yae _⟩,⟨_,rfl,yae _⟩,trivial⟩)
   ·obtain rfl:j=k:=by omega
    have hcn:cn=P j:=by rw [hcp,if_neg (by omega)]
    have hp:=hpos j
    (repeat' ((conv=>whnf);(first|refine zah (by omega) ?_|fail)));conv=>whnf
    exact ya1 (by simp [below,zaa]) (Wk.of_eq (by
     show _=AV.tup [.int .i64 (cn:Nat),.int .i64 (if cn=0 then 5 else 0)]
     rw [if_neg (by omega),hcn]))
theorem zz7 (a b:Tr) (ha:a.Ok) (hb:b.Ok) (hva:∀ H,VDet Tryz.prog 43 [.agg a.cells] H (.bool true)) (hvb:∀ H,VDet Tryz.prog 43 [.agg b.cells] H (.bool true)) (H:Heap):VDet Tryz.prog 10 [.agg a.cells,.agg b.cells] H (.tup [.bool (sameB 25 a b),.int .i64 0]):=by
 have hs:=fun H=>zxo a b ha hb H
 generalize sameB 25 a b=R at hs ⊢
 unfold Tr.cells at hva hvb hs ⊢
 refine fdD Tryz.func10 ⟨rfl,rfl,rfl⟩ fun hcl hbl=>?_
 (repeat' ((conv=>whnf);(first|(refine yai ?_;first|refine yas ?_|refine yaq rfl ?_|fail)|(refine ybk ?_;first|refine yab _ (hva _) ?_|refine yab _ (hvb _) ?_|refine yab _ (hs _) ?_|fail)|fail)));conv=>whnf
 exact eT (by simp [below,zaa])
theorem zu5 (a b:Tr) (ha:a.Ok) (hb:b.Ok) (hva:∀ H,VDet Tryz.prog 57 [.agg a.cells] H (.bool true)) (hvb:∀ H,VDet Tryz.prog 57 [.agg b.cells] H (.bool true)) (H:Heap):VDet Tryz.prog 19 [.agg a.cells,.agg b.cells] H (.tup [.bool (sameB 25 a b),.int .i64 0]):=by
 have hs:=fun H=>zou a b ha hb H
 rw [zxp ha hb] at hs
 generalize sameB 25 a b=R at hs ⊢
 unfold Tr.cells at hva hvb hs ⊢
 refine fdD Tryz.func19 ⟨rfl,rfl,rfl⟩ fun hcl hbl=>?_
 (repeat' ((conv=>whnf);(first|(refine yai ?_;first|refine yas ?_|refine yaq rfl ?_|fail)|(refine ybk ?_;first|refine yab _ (hva _) ?_|refine yab _ (hvb _) ?_|refine yab _ (hs _) ?_|fail)|fail)));conv=>whnf
 exact eT (by simp [below,zaa])
theorem Same_bad (a b:Mdl) (x y:Bool) (hxy:x=false∨y=false) (ha:∀ H,VDet Tryz.prog 43 [.agg a.cells] H (.bool x)) (hb:∀ H,VDet Tryz.prog 43 [.agg b.cells] H (.bool y)) (H:Heap):VDet Tryz.prog 10 [.agg a.cells,.agg b.cells] H (.tup [.bool false,.int .i64 2]):=by
 have b1:=fun n=>zb7 n a.rel
 have b2:=fun n=>zdh n a.facts
 have b3:=fun n=>zc3 n a.funcs
 have b4:=fun n=>zc6 n a.binds
 have b5:=fun n=>zb7 n b.rel
 have b6:=fun n=>zdh n b.facts
 have b7:=fun n=>zc3 n b.funcs
 have b8:=fun n=>zc6 n b.binds
 unfold Mdl.cells at *
 rcases hxy with rfl|rfl
 ·refine fdD Tryz.func10 ⟨rfl,rfl,rfl⟩ fun hcl hbl=>?_
  (repeat' ((conv=>whnf);(first|(refine yai ?_;first|refine yas ?_|refine yau rfl ?_|fail)|refine yab _ (ha _) ?_|fail)));conv=>whnf
  exact eT (by simp [below,zaa])
 ·cases x
  all_goals
   refine fdD Tryz.func10 ⟨rfl,rfl,rfl⟩ fun hcl hbl=>?_
   (repeat' ((conv=>whnf);(first|(refine yai ?_;first|refine yas ?_|refine yaq rfl ?_|refine yau rfl ?_|fail)|(refine ybk ?_;first|refine yab _ (ha _) ?_|refine yab _ (hb _) ?_|fail)|fail)));all_goals (conv=>whnf)
   exact eT (by simp [below,zaa])
theorem zqw (a b:Mdl) (x y:Bool) (hxy:x=false∨y=false) (ha:∀ H,VDet Tryz.prog 57 [.agg a.cells] H (.bool x)) (hb:∀ H,VDet Tryz.prog 57 [.agg b.cells] H (.bool y)) (H:Heap):VDet Tryz.prog 19 [.agg a.cells,.agg b.cells] H (.tup [.bool false,.int .i64 2]):=by
 unfold Mdl.cells at *
 rcases hxy with rfl|rfl
 ·refine fdD Tryz.func19 ⟨rfl,rfl,rfl⟩ fun hcl hbl=>?_
  (repeat' ((conv=>whnf);(first|(refine yai ?_;first|refine yas ?_|refine yau rfl ?_|fail)|refine yab _ (ha _) ?_|fail)));conv=>whnf
  exact eT (by simp [below,zaa])
 ·cases x
  all_goals
   refine fdD Tryz.func19 ⟨rfl,rfl,rfl⟩ fun hcl hbl=>?_
   (repeat' ((conv=>whnf);(first|(refine yai ?_;first|refine yas ?_|refine yaq rfl ?_|refine yau rfl ?_|fail)|(refine ybk ?_;first|refine yab _ (ha _) ?_|refine yab _ (hb _) ?_|fail)|fail)));all_goals (conv=>whnf)
   exact eT (by simp [below,zaa])
end
section
def numN (t:Tr):Nat→Nat
 | 0=>t.lp
 | j+1=>numN t j * 2 ^ t.n+(ft t.fs j).2
theorem zq7 {t:Tr} (ht:t.Ok):∀ j,j≤t.fs.length→numN t j<pw t.n j
 | 0,_=>by
   have:=ht.lp
   unfold numN pw
   simpa using this
 | j+1,h=>by
   have h1:=zq7 ht j (by omega)
   have h2:=ht.mask j (by omega)
   rw [zxy]
   unfold numN
   have h3:(numN t j+1) * 2 ^ t.n≤pw t.n j * 2 ^ t.n:=ycc _ h1
   rw [yb8,Nat.one_mul] at h3
   omega
def numR (t:Tr):AV:=if cntN t.fs.length t.n=0 then .tup [.int .i64 0,.int .i64 5] else .tup [.int .i64 (numN t t.fs.length:Nat),.int .i64 0]
attribute [local irreducible] VW VCall VO bits
theorem zwp (a:Mdl) (ha:∀ H,VDet Tryz.prog 43 [.agg a.cells] H (.bool false)) (H:Heap):VDet Tryz.prog 12 [.agg a.cells] H (.tup [.int .i64 0,.int .i64 2]):=by
 unfold Mdl.cells at *
 refine fdD Tryz.func12 ⟨rfl,rfl,rfl⟩ fun hcl hbl=>?_
 (repeat' ((conv=>whnf);(first|(refine yai ?_;first|refine yas ?_|refine yau rfl ?_|fail)|refine yab _ (ha _) ?_|fail)));conv=>whnf
 exact eT (by simp [below,zaa])
theorem zmz (a:Mdl) (ha:∀ H,VDet Tryz.prog 57 [.agg a.cells] H (.bool false)) (H:Heap):VDet Tryz.prog 21 [.agg a.cells] H (.tup [.int .i64 0,.int .i64 2]):=by
 unfold Mdl.cells at *
 refine fdD Tryz.func21 ⟨rfl,rfl,rfl⟩ fun hcl hbl=>?_
 (repeat' ((conv=>whnf);(first|(refine yai ?_;first|refine yas ?_|refine yau rfl ?_|fail)|refine yab _ (ha _) ?_|fail)));conv=>whnf
 exact eT (by simp [below,zaa])
theorem zz8 (t:Tr) (ht:t.Ok) (hlen:t.fs.length≤1000) (hv:∀ H,VDet Tryz.prog 43 [.agg t.cells] H (.bool true)) (H:Heap):VDet Tryz.prog 12 [.agg t.cells] H (numR t):=by
 have hcn:=zzr t.fs.length t.n hlen ht.n5
 have hcp:=zps t.fs.length t.n ht.n1
 have hlt:=fun j h=>zq7 ht j h
 have hmo:=fun j (h:j≤t.fs.length)=>zq2 (n:=t.n) h
 have hm:=ht.mask
 have hsu:∀ j,numN t (j+1)=numN t j * 2 ^ t.n+(ft t.fs j).2:=fun _=>rfl
 have h0:numN t 0=t.lp:=rfl
 have h5:=ht.n5
 have h2n:2 ^ t.n≤32:=ybi (yb7 (by decide) h5) (by decide)
 unfold numR
 generalize cntN t.fs.length t.n=cn at *
 generalize pw t.n=P at *
 generalize numN t=X at *
 obtain ⟨n,lp,fs⟩:=t
 unfold Tr.cells at hv ⊢
 simp only at hcn hcp hlt hmo hm hsu h0 h5 h2n hv hlen ⊢
 by_cases hc:cn=0
 ·rw [if_pos hc]
  subst hc
  refine fdD Tryz.func12 ⟨rfl,rfl,rfl⟩ fun hcl hbl=>?_
  (repeat' ((conv=>whnf);(first|(refine yai ?_;first|refine yas ?_|refine yaq rfl ?_|fail)|(refine ybk ?_;first|refine yab _ (hv _) ?_|refine yab _ (hcn _) ?_|fail)|fail)));conv=>whnf
  exact eT (by simp [below,zaa])
 ·rw [if_neg hc]
  have hPk:P fs.length≤16384:=by
   rcases yag 16384 (P fs.length) with h|h
   ·exact absurd (by rw [hcp,if_pos h]) hc
   ·exact h
  refine fdD Tryz.func12 ⟨rfl,rfl,rfl⟩ fun hcl hbl=>?_
  (repeat' ((conv=>whnf);(first|(refine yai ?_;first|refine yas ?_|refine yaq rfl ?_|refine zah (by omega) ?_|fail)|(refine ybk ?_;first|refine yab _ (hv _) ?_|refine yab _ (hcn _) ?_|fail)|fail)));conv=>whnf
  refine zam Tryz.E0 zaf (σ:=Nat) (fun j=>j≤fs.length) (fun j=>fs.length-j) (fun j=>[(4,.v (.int .i64 (X j:Nat))),(22,.v (.int .i64 j))]) (fun _=>_) _ 0 rfl hcl [1,20,21] rfl (yah _) ⟨⟨_,rfl,Wk.of_eq (by rw [h0])⟩,⟨_,rfl,yae _⟩,trivial⟩ rfl (fun _ _=>rfl) ?_
  intro j hj
  clear hbl
  rcases yag j fs.length with hlt2|hge
  ·have q1:=hlt j hj
   have q2:=hmo j hj
   have q3:=hm j hlt2
   have q4:=hsu j
   unfold ft at q3 q4
   obtain ⟨s,m,e1⟩:∃ s m,fs.getD j p0=(s,m):=⟨_,_,rfl⟩
   have qc:encT (fs.getD j p0)=[.str s,.int .i64 0,.int .i64 m]:=by rw [e1];rfl
   rw [e1] at q3 q4
   simp only at q3 q4
   have q5:X j <<< n=X j * 2 ^ n:=Nat.shiftLeft_eq _ _
   have q6:X j * 2 ^ n≤16384 * 32:=Nat.mul_le_mul (by omega) h2n
   have q7:X j <<< n ||| m=X (j+1):=by rw [← Nat.shiftLeft_add_eq_or_of_lt q3,q5,q4]
   generalize hX2:X (j+1)=X2 at *
   (repeat' ((conv=>whnf);(first|refine yar (by omega) ?_|(refine yct ?_;first|refine zde (X j) n rfl rfl (by decide) (by omega) (by omega) ?_|refine EqN.or (X j <<< n) m rfl rfl ⟨by omega,by omega⟩ ?_|(refine zac _ _ Cst.h Cst.h ?_ ?_;· omega)|fail)|(refine yaf ?_ ?_;· first|kernel_rfl|omega|exact yaa _ _|fail)|refine SegN.nthE p0 j rfl hlt2 zbb qc ?_|refine zad [] ?_|fail)));conv=>whnf
   rw [q7]
   subst hX2
   (refine ⟨⟨j+1,by show j+1≤_;omega,by omega,?_,.inl ⟨rfl,rfl⟩,rfl,_,rfl,?_⟩⟩;rotate_left 1;exact .inr ⟨by simp [zbe,below,zaa,tr,zcm,zar,zb7,zdh,zc6,zc3],by simp [zcj,Blk.below,zaa,below,zcm,zar,zb7,zdh,zc6,zc3]⟩;exact ⟨⟨_,rfl,yae _⟩,⟨_,rfl,yae _⟩,trivial⟩)
  ·obtain rfl:j=fs.length:=by omega
   (repeat' ((conv=>whnf);(first|refine zah (by omega) ?_|fail)));conv=>whnf
   exact eT (by simp [below,zaa])
theorem zow (t:Tr) (ht:t.Ok) (hlen:t.fs.length≤1000) (hv:∀ H,VDet Tryz.prog 57 [.agg t.cells] H (.bool true)) (H:Heap):VDet Tryz.prog 21 [.agg t.cells] H (numR t):=by
 have hnl:(t.mdl.facts.map Fct.nm)=t.fs.map (·.1):=by simp [Tr.mdl,List.map_map,Function.comp_def]
 have h60:=zx7 t.mdl (by show (List.map _ t.fs).length≤_;rw [yav];omega)
 have h22:=zlv (t.fs.map (·.1)) (by rw [yav];exact hlen) (fun c hc=>by
  obtain ⟨f,hf,rfl⟩:=ybu.1 hc
  exact ht.sz f hf) t.n ht.n1 ht.n5
 rw [zti,hnl,zgi,show t.mdl.facts.length=t.fs.length by show (List.map _ t.fs).length=_;rw [yav]] at h60
 rw [yav,ht.nms] at h22
 unfold cntR at h22
 have hnb:=fun k=>zcm k (t.fs.map (·.1))
 generalize (t.fs.map (·.1)).flatMap encSG=nc at *
 have hcp:=zps t.fs.length t.n ht.n1
 have hlt:=fun j h=>zq7 ht j h
 have hmo:=fun j (h:j≤t.fs.length)=>zq2 (n:=t.n) h
 have hm:=ht.mask
 have hsu:∀ j,numN t (j+1)=numN t j * 2 ^ t.n+(ft t.fs j).2:=fun _=>rfl
 have h0:numN t 0=t.lp:=rfl
 have h5:=ht.n5
 have h2n:2 ^ t.n≤32:=ybi (yb7 (by decide) h5) (by decide)
 have hsl:1 <<< t.n=2 ^ t.n:=Nat.one_shiftLeft _
 clear hnl
 unfold numR
 generalize cntN t.fs.length t.n=cn at *
 generalize pw t.n=P at *
 generalize numN t=X at *
 obtain ⟨n,lp,fs⟩:=t
 unfold Tr.cells at hv h60 ⊢
 simp only at hcp hlt hmo hm hsu h0 h5 h2n hv hlen h60 h22 hsl ⊢
 by_cases hc:cn=0
 ·rw [if_pos hc]
  subst hc
  have h22:∀ H,VDet Tryz.prog 22 [.sl none fs.length nc,.int .i64 (n:Nat)] H (.tup [.int .i64 0,.int .i64 5]):=h22
  refine fdD Tryz.func21 ⟨rfl,rfl,rfl⟩ fun hcl hbl=>?_
  (repeat' ((conv=>whnf);(first|(refine yai ?_;first|refine yas ?_|refine yaq rfl ?_|refine yau rfl ?_|fail)|refine yaf (by kernel_rfl) ?_|refine yab _ (hv _) ?_|(refine ycg ?_;first|refine yan _ (fun _ hq X=>h60 _) ?_|refine yan _ (fun _ hq X=>h22 _) ?_|fail)|refine zad [] ?_|fail)));conv=>whnf
  exact eT (by simp [below,zaa])
 ·rw [if_neg hc]
  rw [if_neg hc] at h22
  have h22:∀ H,VDet Tryz.prog 22 [.sl none fs.length nc,.int .i64 (n:Nat)] H (.tup [.int .i64 (cn:Nat),.int .i64 0]):=h22
  have hPk:P fs.length≤16384:=by
   rcases yag 16384 (P fs.length) with h|h
   ·exact absurd (by rw [hcp,if_pos h]) hc
   ·exact h
  refine fdD Tryz.func21 ⟨rfl,rfl,rfl⟩ fun hcl hbl=>?_
  (repeat' ((conv=>whnf);(first|(refine yai ?_;first|refine yas ?_|refine yaq rfl ?_|fail)|refine yaf (by kernel_rfl) ?_|refine yab _ (hv _) ?_|(refine ycg ?_;first|refine yan _ (fun _ hq X=>h60 _) ?_|refine yan _ (fun _ hq X=>h22 _) ?_|fail)|refine zad [] ?_|fail)));conv=>whnf
  refine zam Tryz.E0 zaf (σ:=Nat) (fun j=>j≤fs.length) (fun j=>fs.length-j) (fun j=>[(6,.v (.int .i64 (X j:Nat))),(7,.v (.int .i64 j))]) (fun _=>_) _ 0 rfl hcl [1] rfl (yah _) ⟨⟨_,rfl,Wk.of_eq (by rw [h0])⟩,⟨_,rfl,yae _⟩,trivial⟩ rfl (fun _ _=>rfl) ?_
  intro j hj
  clear hbl
  rcases yag j fs.length with hlt2|hge
  ·have q1:=hlt j hj
   have q2:=hmo j hj
   have q3:=hm j hlt2
   have q4:=hsu j
   unfold ft at q3 q4
   obtain ⟨s,m,e1⟩:∃ s m,fs.getD j p0=(s,m):=⟨_,_,rfl⟩
   have qc:encT (fs.getD j p0)=[.str s,.int .i64 0,.int .i64 m]:=by rw [e1];rfl
   rw [e1] at q3 q4
   simp only at q3 q4
   have q6:X j * 2 ^ n≤16384 * 32:=Nat.mul_le_mul (by omega) h2n
   rw [← hsl] at q4 q6 q3 h2n
   generalize hX2:X (j+1)=X2 at *
   (repeat' ((conv=>whnf);(first|refine yar (by omega) ?_|(refine yct ?_;first|refine zjp (X j) (1 <<< n) rfl rfl (by omega) ?_|refine zac (X j * 1 <<< n) m rfl rfl (by omega) ?_|(refine zde _ _ Cst.h Cst.h rfl ?_ ?_ ?_;(· (repeat' (first|omega|refine yb3 ?_ ?_|exact zag (by omega)|exact zat (by omega)|refine zbf ?_ ?_|refine zas ?_ ?_|refine za2 ?_ ?_|refine zao ?_ ?_|refine za3 ?_|refine za4 ?_ ?_|refine za5 ?_|refine zag ?_|fail)));(· (repeat' (first|omega|refine yb3 ?_ ?_|exact zag (by omega)|exact zat (by omega)|refine zbf ?_ ?_|refine zas ?_ ?_|refine za2 ?_ ?_|refine zao ?_ ?_|refine za3 ?_|refine za4 ?_ ?_|refine za5 ?_|refine zag ?_|fail))))|(refine zac _ _ Cst.h Cst.h ?_ ?_;· omega)|fail)|(refine yaf ?_ ?_;· first|kernel_rfl|omega|exact yaa _ _|fail)|refine SegN.nthE p0 j rfl hlt2 zbb qc ?_|refine zad [] ?_|fail)));conv=>whnf
   rw [← q4]
   subst hX2
   (refine ⟨⟨j+1,by show j+1≤_;omega,by omega,?_,.inl ⟨rfl,rfl⟩,rfl,_,rfl,?_⟩⟩;rotate_left 1;exact .inl rfl;exact ⟨⟨_,rfl,yae _⟩,⟨_,rfl,yae _⟩,trivial⟩)
  ·obtain rfl:j=fs.length:=by omega
   (repeat' ((conv=>whnf);(first|refine zah (by omega) ?_|fail)));conv=>whnf
   exact eT (by simp [below,zaa])
end
section
theorem zoq:∀ (z c B:List AV),c.length=z.length→replC (z++B) c=some (c++B)
 | [],[],B,_=>by cases B <;> rfl
 | x::z,y::c,B,h=>by
   rw [ycn,zlt,zoq z c B (by simpa using h)]
   rfl
theorem zs6:∀ (A z c B:List AV),c.length=z.length→setC (A++(z++B)) A.length c=some (A++(c++B))
 | [],z,c,B,h=>by
   rw [ydl,ydl]
   show setC (z++B) 0 c=_
   unfold setC
   exact zoq z c B h
 | x::A,z,c,B,h=>by
   rw [ycn,List.length_cons,zop,zs6 A z c B h]
   rfl
theorem zos (z:List AV):∀ n,repC (n+1) z=repC n z++z
 | 0=>by simp [repC]
 | n+1=>by
   show z++repC (n+1) z=(z++repC n z)++z
   rw [zos z n,ybe]
def zF:List AV:=[.str .empty,.int .i64 0,.int .i64 0]
def dg (n N k i:Nat):Nat:=(N >>> (n * (k-1-i))) % 2 ^ n
def fcN (l:List ByteArray) (n N i:Nat):List AV:=[.str (l.getD i eN),.int .i64 0,.int .i64 (dg n N l.length i:Nat)]
def FN (l:List ByteArray) (n N j:Nat):List AV:=(List.range' j (l.length-j)).flatMap (fcN l n N)
theorem FN_step (l:List ByteArray) (n N i:Nat) (h:i<l.length):FN l n N i=fcN l n N i++FN l n N (i+1):=by
 unfold FN
 rw [show l.length-i=(l.length-(i+1))+1 by omega,List.range'_succ,ya6]
theorem FN_end (l:List ByteArray) (n N:Nat):FN l n N l.length=[]:=by
 unfold FN
 rw [ycv]
 rfl
theorem zpo (k:Nat) (l:List ByteArray) (n N:Nat) (r:List Nat):zaa k (r.flatMap (fcN l n N)):=za9 _ fun _=>⟨trivial,trivial,trivial,trivial⟩
theorem zor (k:Nat):∀ j,zaa k (repC j zF)
 | 0=>trivial
 | j+1=>(zak _ _).2 ⟨⟨trivial,trivial,trivial,trivial⟩,zor k j⟩
def nthC (l:List ByteArray) (n N j:Nat):List AV:=repC j zF++FN l n N j
theorem zih (k:Nat) (l:List ByteArray) (n N j:Nat):zaa k (nthC l n N j):=(zak _ _).2 ⟨zor k j,zpo k l n N _⟩
theorem nthC_set (l:List ByteArray) (n N i:Nat) (h:i<l.length):setC (nthC l n N (i+1)) (i * 3) (fcN l n N i)=some (nthC l n N i):=by
 unfold nthC
 rw [zos,FN_step l n N i h,ybe]
 have:=zs6 (repC i zF) zF (fcN l n N i) (FN l n N (i+1)) rfl
 rwa [zei,show zF.length=3 from rfl] at this
abbrev mdN (n lp:Int) (fs:AV):AV:=.agg [.int .u8 5,.int .i64 n,.nils,.int .i64 lp,fs,.nils,.nils]
abbrev mdZ:AV:=.agg [.int .u8 0,.int .i64 0,.nils,.int .i64 0,.nils,.nils,.nils]
theorem quoN (a b:Nat) (h1:1≤b) (h2:a<9223372036854775808):IntKind.i64.wrap (((a:Nat):Int).tdiv ((b:Nat):Int))=((a / b:Nat):Int):=by
 rw [IntWalk.i64_quo _ _ ⟨by omega,by omega,by omega⟩]
 rfl
attribute [local irreducible] VW VCall VO bits
theorem KpL.low {n0:Nat} {loc:Heap} {j:Nat}:∀ {l:List AV},zaa n0 l→KpL n0 loc j l l
 | [],_=>.nil
 | v::_,h=>.cons (.low v h.1) (KpL.low h.2)
theorem Nth_ok (l:List ByteArray) (hlen:l.length≤1000) (hsz:∀ c∈l,c.size≤9223372036854775807) (hnm:isNmG l=true) (n:Nat) (h1:1≤n) (hn:n≤5) (hc:cntN l.length n≠0) (N:Nat) (hN:N<cntN l.length n) (H:Heap) :
  VCall Tryz.prog 14 [.sl none l.length (l.flatMap encSG),.int .i64 (n:Nat),.int .i64 (N:Nat)] H fun r H'=>∃ s:Nat,r=.tup [mdN n (N >>> (n * l.length):Nat) (.ms H.length 0 l.length),.int .i64 0]∧H'=H++[.box 60 (FN l n N 0++List.replicate s .junk)]:=by
 have hC:=Count_c l hlen hsz n h1 hn
 rw [hnm] at hC
 unfold cntR at hC
 rw [if_neg hc] at hC
 have hC:∀ H,VDet Tryz.prog 13 [.sl none l.length (l.flatMap encSG),.int .i64 (n:Nat)] H (.tup [.int .i64 (cntN l.length n:Nat),.int .i64 0]):=hC
 have hcl:=znt l.length n
 have hnb:=fun k=>zcm k l
 have hst:=nthC_set l n N
 have he:=FN_end l n N
 have h2n:2 ^ n≤32:=ybi (yb7 (by decide) hn) (by decide)
 have hsl:1 <<< n=2 ^ n:=Nat.one_shiftLeft n
 have h2p:1≤2 ^ n:=Nat.pow_pos (by decide)
 generalize cntN l.length n=cn at *
 refine VCall.mono (VCall.one (ι:=Unit) (u:=fun _=>.tup [mdN n (N >>> (n * l.length):Nat) (.ms (H.length+1) 0 l.length),.int .i64 0]) (u':=fun _=>.tup [mdN n (N >>> (n * l.length):Nat) (.ms H.length 0 l.length),.int .i64 0]) (loc:=fun _=>[.box 27 [.int .u8 5,.int .i64 n,.nils,.int .i64 (N >>> (n * l.length):Nat),.ms (H.length+1) 0 l.length,.nils,.nils],.box 60 (nthC l n N 0),.box 27 [.int .u8 5,.int .i64 n,.nils,.int .i64 (N >>> (n * l.length):Nat),.ms (H.length+1) 0 l.length,.nils,.nils]]) (j:=1) (t:=60) (l':=fun _=>nthC l n N 0) ?_ (fun _=>.tup (.cons (.agg (.cons (.low _ trivial) (.cons (.low _ trivial) (.cons (.low _ trivial) (.cons (.low _ trivial) (.cons (.ms rfl) (.cons (.low _ trivial) (.cons (.low _ trivial) .nil)))))))) (.cons (.low _ trivial) .nil))) fun _=>.box rfl (KpL.low (zih _ _ _ _ _))) fun r H' ⟨_,s,h1,h2⟩=>⟨s,h1,h2⟩
 refine fdG Tryz.func14 ⟨rfl,rfl,rfl⟩ fun hcl hbl=>?_
 (repeat' ((conv=>whnf);(first|(refine OrN.l ?_;refine yc7 _ rfl ?_;refine yaf ⟨rfl,by omega,by dsimp only;omega⟩ ?_;refine OrN.r ?_)|(refine yai ?_;first|refine yas ?_|refine yaq rfl ?_|refine yau rfl ?_|refine zah (by omega) ?_|fail)|refine yck (by omega) ?_|refine yab _ (hC _) ?_|fail)));conv=>whnf
 refine zam Tryz.E0 zaf (σ:=Nat) (fun j=>j≤l.length) (fun j=>j) (fun j=>[(2,.v (.int .i64 (N >>> (n * (l.length-j)):Nat))),(11,.v (.int .i64 ((j:Int)-1)))]) (fun j=>[.box 27 [.int .u8 0,.int .i64 0,.nils,.int .i64 0,.nils,.nils,.nils],.box 60 (nthC l n N j),.box 27 [.int .u8 5,.int .i64 n,.nils,.int .i64 0,.ms (H.length+1) 0 l.length,.nils,.nils]]) _ l.length rfl hcl [0,1,6,10] rfl (yax _) ⟨⟨_,rfl,Wk.of_eq (by rw [ycv,Nat.mul_zero];rfl)⟩,⟨_,rfl,yae _⟩,trivial⟩ (by unfold nthC;rw [he,yat];rfl) (fun _ _=>rfl) ?_
 intro j hj
 clear hbl
 rcases j with _|i
 ·rw [Nat.sub_zero]
  (repeat' ((conv=>whnf);(first|refine yau rfl ?_|fail)));conv=>whnf
  exact ydu _ (yae _) ⟨(),rfl,rfl⟩
 ·have hi:i<l.length:=by omega
  have hX:N >>> (n * (l.length-(i+1)))≤N:=by rw [Nat.shiftRight_eq_div_pow];exact Nat.div_le_self _ _
  have hX2:(N >>> (n * (l.length-(i+1)))) >>> n=N >>> (n * (l.length-i)):=by
   rw [← Nat.shiftRight_add,show l.length-i=l.length-(i+1)+1 by omega,Nat.mul_add,Nat.mul_one]
  have hdg:(N >>> (n * (l.length-(i+1)))) &&& (1 <<< n-1)=dg n N l.length i:=by
   unfold dg
   rw [hsl,Nat.and_two_pow_sub_one_eq_mod,show l.length-1-i=l.length-(i+1) by omega]
  have hset:=hst i hi
  obtain ⟨s,hs⟩:∃ s,s=l.getD i eN:=⟨_,rfl⟩
  have e1:encSG (l.getD i eN)=[.str s]:=by rw [hs];rfl
  unfold fcN at hset
  rw [← hs,← hdg] at hset
  have hb1:=fun k=>zih k l n N (i+1)
  have hb2:=fun k=>zih k l n N i
  generalize hA:nthC l n N (i+1)=A at *
  generalize hA2:nthC l n N i=A2 at *
  generalize N >>> (n * (l.length-(i+1)))=X at *
  have hpw:1≤1 <<< n∧1 <<< n≤32:=by rw [hsl];exact ⟨h2p,h2n⟩
  (repeat' ((conv=>whnf);(first|refine yar (by omega) ?_|(refine yct ?_;first|refine zb6 (1 <<< n) 1 rfl rfl ⟨by omega,by omega⟩ ?_|refine EqN.and X (1 <<< n-1) rfl rfl ⟨by omega,by omega⟩ ?_|(refine zde _ _ Cst.h Cst.h rfl ?_ ?_ ?_;(· (repeat' (first|omega|refine yb3 ?_ ?_|exact zag (by omega)|exact zat (by omega)|refine zbf ?_ ?_|refine zas ?_ ?_|refine za2 ?_ ?_|refine zao ?_ ?_|refine za3 ?_|refine za4 ?_ ?_|refine za5 ?_|refine zag ?_|fail)));(· (repeat' (first|omega|refine yb3 ?_ ?_|exact zag (by omega)|exact zat (by omega)|refine zbf ?_ ?_|refine zas ?_ ?_|refine za2 ?_ ?_|refine zao ?_ ?_|refine za3 ?_|refine za4 ?_ ?_|refine za5 ?_|refine zag ?_|fail))))|fail)|(refine yaf ?_ ?_;· first|omega|exact yaa _ _|fail)|refine SegN.nthE (f:=encSG) eN i (by omega) hi zdz e1 ?_|refine OfsN.mk i (by omega) hi ?_|refine yca _ rfl ?_|refine zad [] ?_|fail)));conv=>whnf
  have hstore:zeh Tryz.T 60 [.box 27 [.int .u8 0,.int .i64 0,.nils,.int .i64 0,.nils,.nils,.nils],.box 60 A,.box 27 [.int .u8 5,.int .i64 n,.nils,.int .i64 0,.ms (H.length+1) 0 l.length,.nils,.nils]] (some (.lp 1 (0+i * 3))) (some (.agg [.str s,.int .i64 0,.int .i64 (X &&& (1 <<< n-1):Nat)]))=.upd 1 (.box 60 A2) none:=zcq rfl rfl rfl rfl (by rw [ybv];exact hset)
  refine Eq.mpr (congrArg (@SR.rec (fun _=>Prop) _ _ _ _ _ _ _ _ _ _ _ _ _ _ _ _ _ _ _ _ _) hstore) ?_
  (repeat' ((conv=>whnf);(first|(refine yct ?_;first|refine zd4 X n rfl rfl (by decide) (by omega) ?_|refine yck (by omega) ?_|fail)|(refine yaf ?_ ?_;· first|kernel_rfl|omega|fail)|fail)));conv=>whnf
  rw [hX2]
  subst hA2
  (refine ⟨⟨i,by show i≤_;omega,by omega,?_,.inl ⟨rfl,rfl⟩,rfl,_,rfl,?_⟩⟩;rotate_left 1;exact .inl rfl;(repeat' (first|exact trivial|refine ⟨⟨_,rfl,?_⟩,?_⟩|fail));all_goals (first|exact yae _|exact Wk.of_eq (congrArg (AV.int _) (by omega))|fail))
end
section
def cntE (l:List ByteArray) (n:Int):Int:=if n<1∨5<n then 2 else if isNmG l=false then 2 else if cntN l.length n.toNat=0 then 5 else 0
def cntV (l:List ByteArray) (n:Int):Nat:=if cntE l n=0 then cntN l.length n.toNat else 0
theorem zr7 {l:List ByteArray} {n:Int} (h:cntE l n=0):(1≤n∧n≤5)∧isNmG l=true∧cntN l.length n.toNat≠0:=by
 unfold cntE at h
 split at h
 ·cases h
 ·split at h
  ·cases h
  ·split at h
   ·cases h
   ·rename_i h1 h2 h3
    exact ⟨by omega,by simpa using h2,h3⟩
theorem zzs (l:List ByteArray) (n:Nat) (h1:1≤n) (h5:n≤5):cntR (isNmG l) l.length n=.tup [.int .i64 (cntV l n),.int .i64 (cntE l n)]:=by
 unfold cntR cntV cntE
 rw [if_neg (show ¬ ((n:Int)<1∨5<(n:Int)) by omega),ybn]
 cases isNmG l with
 | false=>rfl
 | true =>
   rw [if_neg (show ¬ (true=false) from Bool.noConfusion)]
   by_cases hc:cntN l.length n=0
   ·rw [if_pos hc,hc]
    rfl
   ·rw [if_neg hc]
    rfl
theorem zld (l:List ByteArray) (hlen:l.length≤1000) (hsz:∀ c∈l,c.size≤9223372036854775807) (n:Int) (H:Heap):VDet Tryz.prog 13 [.sl none l.length (l.flatMap encSG),.int .i64 n] H (.tup [.int .i64 (cntV l n),.int .i64 (cntE l n)]):=by
 by_cases hn:n<1∨5<n
 ·have e:cntE l n=2:=if_pos hn
  unfold cntV
  rw [e]
  exact Count_no l n hn H
 ·obtain ⟨m,rfl⟩:∃ m:Nat,n=m:=⟨n.toNat,by omega⟩
  rw [← zzs l m (by omega) (by omega)]
  exact Count_c l hlen hsz m (by omega) (by omega) H
theorem zga (l:List ByteArray) (hlen:l.length≤1000) (hsz:∀ c∈l,c.size≤9223372036854775807) (n:Int) (H:Heap):VDet Tryz.prog 22 [.sl none l.length (l.flatMap encSG),.int .i64 n] H (.tup [.int .i64 (cntV l n),.int .i64 (cntE l n)]):=by
 by_cases hn:n<1∨5<n
 ·have e:cntE l n=2:=if_pos hn
  unfold cntV
  rw [e]
  exact zqx l hlen hsz n hn H
 ·obtain ⟨m,rfl⟩:∃ m:Nat,n=m:=⟨n.toNat,by omega⟩
  rw [← zzs l m (by omega) (by omega)]
  exact zlv l hlen hsz m (by omega) (by omega) H
def nthE (l:List ByteArray) (n N:Int):Int:=if cntE l n≠0 then cntE l n else if N<0∨(cntV l n:Int)≤N then 6 else 0
attribute [local irreducible] VW VCall VO bits
theorem Nth_bad (l:List ByteArray) (hlen:l.length≤1000) (hsz:∀ c∈l,c.size≤9223372036854775807) (n N:Int) (he:nthE l n N≠0) (H:Heap):VDet Tryz.prog 14 [.sl none l.length (l.flatMap encSG),.int .i64 n,.int .i64 N] H (.tup [mdZ,.int .i64 (nthE l n N)]):=by
 have hC:=zld l hlen hsz n
 have hnb:=fun k=>zcm k l
 unfold nthE at he ⊢
 generalize cntV l n=cv at *
 generalize cntE l n=ce at *
 generalize l.flatMap encSG=lc at *
 by_cases h0:ce≠0
 ·rw [if_pos h0]
  refine fdD Tryz.func14 ⟨rfl,rfl,rfl⟩ fun hcl hbl=>?_
  (repeat' ((conv=>whnf);(first|(refine yai ?_;first|refine yas ?_|refine zah (by omega) ?_|fail)|refine yab _ (hC _) ?_|fail)));conv=>whnf
  exact eT (by simp [below,zaa])
 ·rw [if_neg h0] at he ⊢
  have hb:N<0∨(cv:Int)≤N:=by
   by_cases hb:N<0∨(cv:Int)≤N
   ·exact hb
   ·rw [if_neg hb] at he
    exact absurd rfl he
  rw [if_pos hb]
  obtain rfl:ce=0:=by omega
  refine fdD Tryz.func14 ⟨rfl,rfl,rfl⟩ fun hcl hbl=>?_
  (repeat' ((conv=>whnf);(first|(refine yai ?_;first|refine yas ?_|refine yaq rfl ?_|refine yar (by omega) ?_|refine za1 (fun _=>?_) (fun _=>?_)|fail)|refine yab _ (hC _) ?_|fail)));all_goals (conv=>whnf)
  all_goals first
   | exact eT (by simp [below,zaa])
   | (exfalso;omega)
def fcR (l:List ByteArray) (n N j:Nat):List AV:=(List.range j).flatMap (fcN l n N)
theorem zua (l:List ByteArray) (n N j:Nat):fcR l n N (j+1)=fcR l n N j++fcN l n N j:=by
 unfold fcR
 rw [List.range_succ,ybx]
 simp
theorem fcR_FN (l:List ByteArray) (n N:Nat):fcR l n N l.length=FN l n N 0:=by
 unfold fcR FN
 rw [Nat.sub_zero,List.range_eq_range']
theorem zzd (l:List ByteArray) (n N:Nat):∀ j,(fcR l n N j).length=j * 3
 | 0=>rfl
 | j+1=>by
   rw [zua,ya5,zzd l n N j,show (fcN l n N j).length=3 from rfl]
   omega
theorem zze (k:Nat) (l:List ByteArray) (n N j:Nat):zaa k (fcR l n N j):=zpo k l n N _
def refN (l:List ByteArray) (n N:Int):AV:=if nthE l n N=0 then .tup [mdN n (N.toNat >>> (n.toNat * l.length):Nat) (.sl none l.length (FN l n.toNat N.toNat 0)),.int .i64 0] else .tup [.agg [.int .u8 0,.int .i64 0,.nils,.int .i64 0,.sl none 0 [],.nils,.nils],.int .i64 (nthE l n N)]
theorem ztd (l:List ByteArray) (hlen:l.length≤1000) (hsz:∀ c∈l,c.size≤9223372036854775807) (n N:Int) (H:Heap):VDet Tryz.prog 23 [.sl none l.length (l.flatMap encSG),.int .i64 n,.int .i64 N] H (refN l n N):=by
 have hC:=zga l hlen hsz n
 have hnb:=fun k=>zcm k l
 unfold refN
 by_cases he:nthE l n N=0
 ·rw [if_pos he]
  unfold nthE at he
  by_cases h0:cntE l n≠0
  ·rw [if_pos h0] at he;exact absurd he h0
  ·rw [if_neg h0] at he
   have h0:cntE l n=0:=by omega
   obtain ⟨⟨n1,n5⟩,hnm,hcn⟩:=zr7 h0
   have hb:¬ (N<0∨(cntV l n:Int)≤N):=fun q=>by rw [if_pos q] at he;cases he
   obtain ⟨m,rfl⟩:∃ m:Nat,n=m:=⟨n.toNat,by omega⟩
   obtain ⟨K,rfl⟩:∃ m:Nat,N=m:=⟨N.toNat,by omega⟩
   have hv:cntV l m=pw m l.length:=by
    unfold cntV
    rw [if_pos h0,ybn,zps _ _ (by omega),if_neg]
    intro q
    rw [ybn,zps _ _ (by omega),if_pos q] at hcn
    exact hcn rfl
   have hv2:cntV l m≤16384:=by
    unfold cntV
    rw [if_pos h0]
    exact znt _ _
   rw [hv] at hC hb hv2
   rw [h0] at hC
   rw [ybn,ybn]
   have hpw:pw m l.length=m * 2 ^ (m * l.length):=rfl
   have hm0:1≤m:=by omega
   have hm5:m≤5:=by omega
   have hE:∀ j,1≤2 ^ (m * j):=fun j=>Nat.pow_pos (by decide)
   have hq0:pw m l.length / m=2 ^ (m * l.length):=by rw [hpw];exact Nat.mul_div_cancel_left _ (by omega)
   have hEle:∀ j,j≤l.length→2 ^ (m * j)≤16384:=fun j hj=>by
    have h1:2 ^ (m * j)≤2 ^ (m * l.length):=yb7 (by decide) (Nat.mul_le_mul_left _ hj)
    have h2:2 ^ (m * l.length)≤m * 2 ^ (m * l.length):=Nat.le_mul_of_pos_left _ hm0
    omega
   have hEs:∀ j,2 ^ (m * (j+1))=2 ^ (m * j) * 2 ^ m:=fun j=>by rw [Nat.mul_add,Nat.mul_one,Nat.pow_add]
   have hsl:1 <<< m=2 ^ m:=Nat.one_shiftLeft _
   have h2m:1≤2 ^ m∧2 ^ m≤32:=⟨Nat.pow_pos (by decide),ybi (yb7 (by decide) hm5) (by decide)⟩
   have hdiv:K >>> (m * l.length)=K / 2 ^ (m * l.length):=Nat.shiftRight_eq_div_pow _ _
   have hdg:∀ i,i<l.length→(K % 2 ^ (m * (l.length-i))) / 2 ^ (m * (l.length-1-i))=dg m K l.length i:=fun i hi=>by
    unfold dg
    rw [Nat.shiftRight_eq_div_pow,show l.length-i=(l.length-1-i)+1 by omega,hEs]
    exact Nat.mod_mul_right_div_self _ _ _
   have hmd:∀ i,i<l.length→(K % 2 ^ (m * (l.length-i))) % 2 ^ (m * (l.length-1-i))=K % 2 ^ (m * (l.length-(i+1))):=fun i hi=>by
    rw [show l.length-i=(l.length-1-i)+1 by omega,hEs,show l.length-(i+1)=l.length-1-i by omega]
    exact Nat.mod_mul_right_mod _ _ _
   have hde:∀ i,i<l.length→2 ^ (m * (l.length-i)) / 2 ^ m=2 ^ (m * (l.length-1-i)):=fun i hi=>by
    rw [show l.length-i=(l.length-1-i)+1 by omega,hEs]
    exact Nat.mul_div_cancel _ h2m.1
   have hfl:=zzd l m K
   have hfs:=fun j=>zua l m K j
   have hfb:=fun k j=>zze k l m K j
   have hKb:K<pw m l.length:=by omega
   have hX:∀ j,K % 2 ^ (m * j)≤K:=fun j=>Nat.mod_le _ _
   rw [← fcR_FN,hdiv]
   have hq1:=quoN (pw m l.length) m hm0 (by omega)
   have hq2:=quoN K (2 ^ (m * l.length)) (hE _) (by omega)
   rw [hq0] at hq1
   have hE0:=hE l.length
   have hs1:1≤1 <<< m:=by rw [hsl];exact h2m.1
   have hE0l:=hEle l.length (yax _)
   generalize hE0d:2 ^ (m * l.length)=E0 at *
   generalize hPd:pw m l.length=P at *
   refine fdD Tryz.func23 ⟨rfl,rfl,rfl⟩ fun hcl hbl=>?_
   (repeat' ((conv=>whnf);(first|(refine yai ?_;first|refine yas ?_|refine yaq rfl ?_|refine yau rfl ?_|refine zah (by omega) ?_|fail)|(refine yct ?_;first|refine EqN.mk _ hq1 ?_|refine EqN.mk _ hq2 ?_|refine zby K E0 rfl rfl ?_|fail)|refine yaf (by omega) ?_|refine yab _ (hC _) ?_|fail)));conv=>whnf
   refine LoopN.tokB 1 4 60 3 rfl rfl rfl rfl rfl rfl ?_
   refine zam Tryz.E0 zaf (σ:=Nat) (fun j=>j≤l.length) (fun j=>l.length-j) (fun j=>[(2,.v (.int .i64 (K % 2 ^ (m * (l.length-j)):Nat))),(11,.v (.int .i64 (2 ^ (m * (l.length-j)):Nat))),(12,.v (.int .i64 j))]) (fun j=>[.box 27 [.int .u8 0,.int .i64 0,.nils,.int .i64 0,.nils,.nils,.nils],.box 27 [.int .u8 5,.int .i64 m,.nils,.int .i64 (K / E0:Nat),.sl (some (H.length+2)) j (fcR l m K j),.nils,.nils],.tok 60 3 (fcR l m K j).length]) _ 0 rfl hcl [0,1,6,10] rfl (yah _) ⟨⟨_,rfl,Wk.of_eq (by rw [Nat.sub_zero,hE0d])⟩,⟨_,rfl,Wk.of_eq (by rw [Nat.sub_zero,hE0d])⟩,⟨_,rfl,yae _⟩,trivial⟩ rfl (fun _ _=>rfl) ?_
   intro j hj
   clear hbl
   rcases yag j l.length with hlt|hge
   ·have h2:=hfs j
    have h3:=hfl j
    have hb1:=fun k=>hfb k j
    have hb2:=fun k=>hfb k (j+1)
    obtain ⟨s,hs⟩:∃ s,s=l.getD j eN:=⟨_,rfl⟩
    have e1:encSG (l.getD j eN)=[.str s]:=by rw [hs];rfl
    unfold fcN at h2
    rw [← hs] at h2
    have q1:=hde j hlt
    have q2:=hdg j hlt
    have q3:=hmd j hlt
    have q4:=hE (l.length-1-j)
    have q5:=hX (l.length-j)
    have q6:=hEle (l.length-j) (by omega)
    have q7:=hEle (l.length-1-j) (by omega)
    have e0:l.length-1-j=l.length-(j+1):=by omega
    rw [e0] at q1 q2 q3 q4 q7
    generalize hE2:2 ^ (m * (l.length-(j+1)))=E2 at *
    generalize hX2:K % E2=X2 at *
    generalize K % 2 ^ (m * (l.length-j))=X at *
    generalize 2 ^ (m * (l.length-j))=E at *
    generalize dg m K l.length j=D at *
    have r1:IntKind.i64.wrap (((E:Nat):Int).tdiv ((1 <<< m:Nat):Int))=((E2:Nat):Int):=by
     rw [quoN E (1 <<< m) (by rw [hsl];exact h2m.1) (by omega),hsl,q1]
    have r2:IntKind.i64.wrap (((X:Nat):Int).tdiv ((E2:Nat):Int))=((D:Nat):Int):=by
     rw [quoN X E2 q4 (by omega),q2]
    generalize hA:fcR l m K j=A at *
    generalize hA2:fcR l m K (j+1)=A2 at *
    (repeat' ((conv=>whnf);(first|refine yar (by omega) ?_|(refine yct ?_;first|refine EqN.mk _ r1 ?_|refine EqN.mk _ r2 ?_|refine zby X E2 rfl rfl ?_|(refine zde _ _ Cst.h Cst.h rfl ?_ ?_ ?_;(· (repeat' (first|omega|refine yb3 ?_ ?_|exact zag (by omega)|exact zat (by omega)|refine zbf ?_ ?_|refine zas ?_ ?_|refine za2 ?_ ?_|refine zao ?_ ?_|refine za3 ?_|refine za4 ?_ ?_|refine za5 ?_|refine zag ?_|fail)));(· (repeat' (first|omega|refine yb3 ?_ ?_|exact zag (by omega)|exact zat (by omega)|refine zbf ?_ ?_|refine zas ?_ ?_|refine za2 ?_ ?_|refine zao ?_ ?_|refine za3 ?_|refine za4 ?_ ?_|refine za5 ?_|refine zag ?_|fail))))|(refine zac _ _ Cst.h Cst.h ?_ ?_;· omega)|fail)|(refine yaf ?_ ?_;· first|kernel_rfl|omega|exact yaa _ _|fail)|refine SegN.nthE (f:=encSG) eN j rfl hlt zdz e1 ?_|refine yaf ⟨rfl,rfl,rfl,by dsimp only;omega,by simp only [maxLen];omega⟩ ?_|refine yca _ rfl ?_|refine zad [] ?_|fail)));conv=>whnf
    rw [← h2,q3]
    subst hA2
    subst hX2
    subst hE2
    (refine ⟨⟨j+1,by show j+1≤_;omega,by omega,?_,.inl ⟨rfl,rfl⟩,rfl,_,rfl,?_⟩⟩;rotate_left 1;exact .inl rfl;exact ⟨⟨_,rfl,yae _⟩,⟨_,rfl,yae _⟩,⟨_,rfl,yae _⟩,trivial⟩)
   ·obtain rfl:j=l.length:=by omega
    have hb1:=fun k=>hfb k l.length
    (repeat' ((conv=>whnf);(first|refine zah (by omega) ?_|fail)));conv=>whnf
    exact ya1 (by simp [below,zaa,hb1]) (by (repeat' (first|exact trivial|refine yb3 ?_ ?_|exact yae _|exact wk_sl _ _ _|refine zbm ?_|refine zhl ?_|fail));done)
 ·rw [if_neg he]
  unfold nthE at he ⊢
  generalize cntV l n=cv at *
  generalize cntE l n=ce at *
  generalize l.flatMap encSG=lc at *
  by_cases h0:ce≠0
  ·rw [if_pos h0]
   refine fdD Tryz.func23 ⟨rfl,rfl,rfl⟩ fun hcl hbl=>?_
   (repeat' ((conv=>whnf);(first|(refine yai ?_;first|refine yas ?_|refine zah (by omega) ?_|fail)|refine yab _ (hC _) ?_|fail)));conv=>whnf
   exact ya1 (by simp [below,zaa]) (by (repeat' (first|exact trivial|refine yb3 ?_ ?_|exact yae _|exact zal|refine zbm ?_|refine zhl ?_|fail));done)
  ·rw [if_neg h0] at he ⊢
   have hb:N<0∨(cv:Int)≤N:=by
    by_cases hb:N<0∨(cv:Int)≤N
    ·exact hb
    ·rw [if_neg hb] at he
     exact absurd rfl he
   rw [if_pos hb]
   obtain rfl:ce=0:=by omega
   refine fdD Tryz.func23 ⟨rfl,rfl,rfl⟩ fun hcl hbl=>?_
   (repeat' ((conv=>whnf);(first|(refine yai ?_;first|refine yas ?_|refine yaq rfl ?_|refine yar (by omega) ?_|refine za1 (fun _=>?_) (fun _=>?_)|fail)|refine yab _ (hC _) ?_|fail)));all_goals (conv=>whnf)
   all_goals first
    | exact ya1 (by simp [below,zaa]) (by (repeat' (first|exact trivial|refine yb3 ?_ ?_|exact yae _|exact zal|refine zbm ?_|refine zhl ?_|fail));done)
    | (exfalso;omega)
end
end Go.Proofs.YtjflngchbeegcaaGreatDoor.P10.C
namespace Go.Proofs.YtjflngchbeegcaaGreatDoor
open Go.Vsi
section
attribute [local irreducible] VW VCall VO
def befK (n lp mask:Nat):Nat→Nat
 | 0=>0
 | k+1=>befK n lp mask k ||| ((mask >>> posN n lp (k+1)) &&& 1) <<< k
def befN (n lp mask:Nat):Nat:=befK n lp mask n
theorem bit_lt {b k:Nat}:(b &&& 1) <<< k<2 ^ (k+1):=by
 have:b &&& 1≤1:=Nat.and_le_right
 rw [Nat.shiftLeft_eq,Nat.pow_succ]
 have h2:(b &&& 1) * 2 ^ k≤1 * 2 ^ k:=ycc _ this
 have:0<2 ^ k:=Nat.two_pow_pos k
 omega
theorem zsb (n lp mask:Nat):∀ k,befK n lp mask k<2 ^ k
 | 0=>by simp [befK]
 | k+1=>Nat.or_lt_two_pow (Nat.lt_trans (zsb n lp mask k) (Nat.pow_lt_pow_right (by decide) (by omega))) bit_lt
theorem p2_32 {n m:Nat} (h:m<2 ^ n) (hn:n≤5):m<32:=ybw h (yb7 (n:=2) (by decide) hn)
theorem zsa (n lp mask:Nat):befN n lp mask<2 ^ n:=zsb n lp mask n
def itN (F:Nat→Nat):Nat→Nat→Nat
 | 0,x=>x
 | k+1,x=>F (itN F k x)
theorem zyw {F:Nat→Nat} {x j:Nat} (h:F (itN F j x)=itN F j x):∀ k,itN F (j+k) x=itN F j x
 | 0=>rfl
 | k+1=>by
   have:=zyw h k
   show F (itN F (j+k) x)=_
   rw [this,h]
theorem zs3 (fn:FuncId) (cs:List AV) (F:Nat→Nat) (K x:Nat) (H:Heap) (hF:∀ j,j≤K→itN F j x<32) (hK:F (itN F K x)=itN F K x)
  (hc:∀ y,y<32→∀ X:Heap,VDet Tryz.prog fn (appL [.int .i64 (y:Nat)] cs) (H++X) (.int .i64 (F y:Nat))) :
  VDet Tryz.prog 120 [.int .i64 x,.clo (.func fn) [] cs] H (.int .i64 (itN F K x:Nat)):=by
 refine fdD Tryz.func120 ⟨rfl,rfl,rfl⟩ fun hcl hbl=>?_
 conv=>whnf
 refine zam Tryz.E0 zaf (σ:=Nat) (fun j=>j≤K) (fun j=>K-j) (fun j=>[(0,.v (.int .i64 (itN F j x:Nat)))]) (fun _=>_) _ 0 rfl hcl [1] rfl (yah _) ⟨⟨_,rfl,yae _⟩,trivial⟩ rfl (fun _ _=>rfl) ?_
 intro j hj
 have h32:=hF j hj
 clear hbl
 (repeat' ((conv=>whnf);(first|refine za1 (fun _=>?_) (fun _=>?_)|refine yab _ (hc (itN F j x) h32 []) ?_|fail)));all_goals (conv=>whnf)
 ·rename_i he
  have he:F (itN F j x)=itN F j x:=by omega
  have:=zyw he (K-j)
  rw [show j+(K-j)=K by omega] at this
  exact ya1 trivial (Wk.of_eq (by rw [this]))
 ·rename_i he
  have hjK:j<K:=by
   rcases yag j K with h|h
   ·exact h
   ·have:j=K:=by omega
    subst this
    exact absurd (by omega) he
  (refine ⟨⟨j+1,hjK,by omega,?_,.inl ⟨rfl,rfl⟩,rfl,_,rfl,?_⟩⟩;rotate_left 1;exact .inl rfl;exact ⟨⟨_,rfl,yae _⟩,trivial⟩)
end
section
attribute [local irreducible] VW VCall VO bits
def every (n:Nat):Nat:=1 <<< n-1
theorem zd3 {n:Nat} (h:n≤5):every n<32:=by
 have:n=0∨n=1∨n=2∨n=3∨n=4∨n=5:=by omega
 rcases this with rfl|rfl|rfl|rfl|rfl|rfl <;> decide
def nt (e a:Nat):Nat:=e ^^^ (e &&& a)
theorem op1_c (a b:Nat) (H:Heap):VDet Tryz.prog 111 [.int .i64 a,.int .i64 b] H (.int .i64 0):=by
 refine fdD Tryz.func111 ⟨rfl,rfl,rfl⟩ fun hcl hbl=>?_
 conv=>whnf
 exact eT trivial
theorem op2_c (e a b:Nat) (he:e<32) (ha:a<32) (H:Heap):VDet Tryz.prog 112 [.int .i64 a,.int .i64 b,.rptr [.int .i64 e]] H (.int .i64 (nt e a:Nat)):=by
 refine fdD Tryz.func112 ⟨rfl,rfl,rfl⟩ fun hcl hbl=>?_
 (repeat' ((conv=>whnf);(first|(refine EqN.andNot _ _ Cst.h Cst.h ?_ ?_;· (repeat' (first|omega|refine yb3 ?_ ?_|exact zag (by omega)|exact zat (by omega)|refine zbf ?_ ?_|refine zas ?_ ?_|refine za2 ?_ ?_|refine zao ?_ ?_|refine za3 ?_|refine za4 ?_ ?_|refine za5 ?_|refine zag ?_|fail)))|fail)));conv=>whnf
 exact eT trivial
theorem op3_c (a b:Nat) (ha:a<32) (hb:b<32) (H:Heap):VDet Tryz.prog 113 [.int .i64 a,.int .i64 b] H (.int .i64 (a &&& b:Nat)):=by
 refine fdD Tryz.func113 ⟨rfl,rfl,rfl⟩ fun hcl hbl=>?_
 (repeat' ((conv=>whnf);(first|(refine EqN.and _ _ Cst.h Cst.h ?_ ?_;· (repeat' (first|omega|refine yb3 ?_ ?_|exact zag (by omega)|exact zat (by omega)|refine zbf ?_ ?_|refine zas ?_ ?_|refine za2 ?_ ?_|refine zao ?_ ?_|refine za3 ?_|refine za4 ?_ ?_|refine za5 ?_|refine zag ?_|fail)))|fail)));conv=>whnf
 exact eT trivial
theorem op4_c (a b:Nat) (ha:a<32) (hb:b<32) (H:Heap):VDet Tryz.prog 114 [.int .i64 a,.int .i64 b] H (.int .i64 (a ||| b:Nat)):=by
 refine fdD Tryz.func114 ⟨rfl,rfl,rfl⟩ fun hcl hbl=>?_
 (repeat' ((conv=>whnf);(first|(refine EqN.or _ _ Cst.h Cst.h ?_ ?_;· (repeat' (first|omega|refine yb3 ?_ ?_|exact zag (by omega)|exact zat (by omega)|refine zbf ?_ ?_|refine zas ?_ ?_|refine za2 ?_ ?_|refine zao ?_ ?_|refine za3 ?_|refine za4 ?_ ?_|refine za5 ?_|refine zag ?_|fail)))|fail)));conv=>whnf
 exact eT trivial
theorem op5_c (e a b:Nat) (he:e<32) (ha:a<32) (hb:b<32) (H:Heap):VDet Tryz.prog 115 [.int .i64 a,.int .i64 b,.rptr [.int .i64 e]] H (.int .i64 (nt e a ||| b:Nat)):=by
 refine fdD Tryz.func115 ⟨rfl,rfl,rfl⟩ fun hcl hbl=>?_
 (repeat' ((conv=>whnf);(first|(refine yct ?_;first|(refine EqN.or _ _ Cst.h Cst.h ?_ ?_;· (repeat' (first|omega|refine yb3 ?_ ?_|exact zag (by omega)|exact zat (by omega)|refine zbf ?_ ?_|refine zas ?_ ?_|refine za2 ?_ ?_|refine zao ?_ ?_|refine za3 ?_|refine za4 ?_ ?_|refine za5 ?_|refine zag ?_|fail)))|(refine EqN.andNot _ _ Cst.h Cst.h ?_ ?_;· (repeat' (first|omega|refine yb3 ?_ ?_|exact zag (by omega)|exact zat (by omega)|refine zbf ?_ ?_|refine zas ?_ ?_|refine za2 ?_ ?_|refine zao ?_ ?_|refine za3 ?_|refine za4 ?_ ?_|refine za5 ?_|refine zag ?_|fail)))|fail)|fail)));conv=>whnf
 exact eT trivial
theorem op6_c (e a b:Nat) (he:e<32) (ha:a<32) (hb:b<32) (H:Heap):VDet Tryz.prog 116 [.int .i64 a,.int .i64 b,.rptr [.int .i64 e]] H (.int .i64 (nt e (a ^^^ b):Nat)):=by
 refine fdD Tryz.func116 ⟨rfl,rfl,rfl⟩ fun hcl hbl=>?_
 (repeat' ((conv=>whnf);(first|(refine yct ?_;first|(refine EqN.xor _ _ Cst.h Cst.h ?_ ?_;· (repeat' (first|omega|refine yb3 ?_ ?_|exact zag (by omega)|exact zat (by omega)|refine zbf ?_ ?_|refine zas ?_ ?_|refine za2 ?_ ?_|refine zao ?_ ?_|refine za3 ?_|refine za4 ?_ ?_|refine za5 ?_|refine zag ?_|fail)))|(refine EqN.andNot _ _ Cst.h Cst.h ?_ ?_;· (repeat' (first|omega|refine yb3 ?_ ?_|exact zag (by omega)|exact zat (by omega)|refine zbf ?_ ?_|refine zas ?_ ?_|refine za2 ?_ ?_|refine zao ?_ ?_|refine za3 ?_|refine za4 ?_ ?_|refine za5 ?_|refine zag ?_|fail)))|fail)|fail)));conv=>whnf
 exact eT trivial
def alF (n lp a:Nat) (x:Nat):Nat:=a &&& befN n lp x
def unF (n lp a b:Nat) (x:Nat):Nat:=b ||| (a &&& befN n lp x)
def alN (n lp a:Nat):Nat:=itN (alF n lp a) 5 (every n)
def unN (n lp a b:Nat):Nat:=itN (unF n lp a b) 5 0
def allM (p:Nat→Nat→Nat→Bool):Bool:=(List.range 6).all fun n=>(List.range n).all fun lp=>(List.range (2 ^ n)).all fun a=>p n lp a
theorem zul {p:Nat→Nat→Nat→Bool} (h:allM p=true) {n lp a:Nat} (hn:n≤5) (hl:lp<n) (ha:a<2 ^ n):p n lp a=true:=by
 unfold allM at h
 rw [yao] at h
 have h1:=h n (ybs.2 (by omega))
 rw [yao] at h1
 have h2:=h1 lp (ybs.2 hl)
 rw [yao] at h2
 exact h2 a (ybs.2 ha)
def allM2 (p:Nat→Nat→Nat→Nat→Bool):Bool:=allM fun n lp a=>(List.range (2 ^ n)).all fun b=>p n lp a b
theorem zz3 {p:Nat→Nat→Nat→Nat→Bool} (h:allM2 p=true) {n lp a b:Nat} (hn:n≤5) (hl:lp<n) (ha:a<2 ^ n) (hb:b<2 ^ n):p n lp a b=true:=by
 have h1:=zul h hn hl ha
 rw [yao] at h1
 exact h1 b (ybs.2 hb)
theorem al_chk:allM (fun n lp a=>Nat.beq (alF n lp a (alN n lp a)) (alN n lp a))=true:=by kernel_rfl
theorem un_chk:allM2 (fun n lp a b=>Nat.beq (unF n lp a b (unN n lp a b)) (unN n lp a b))=true:=by kernel_rfl
theorem al_fix {n lp a:Nat} (hn:n≤5) (hl:lp<n) (ha:a<2 ^ n):alF n lp a (alN n lp a)=alN n lp a:=yap (zul al_chk hn hl ha)
theorem un_fix {n lp a b:Nat} (hn:n≤5) (hl:lp<n) (ha:a<2 ^ n) (hb:b<2 ^ n):unF n lp a b (unN n lp a b)=unN n lp a b:=yap (zz3 un_chk hn hl ha hb)
theorem al_lt (n lp a:Nat) (hn:n≤5) (ha:a<32):∀ j,itN (alF n lp a) j (every n)<32
 | 0=>zd3 hn
 | _+1=>zag ha
theorem un_lt (n lp a b:Nat) (ha:a<32) (hb:b<32):∀ j,itN (unF n lp a b) j 0<32
 | 0=>Nat.zero_lt_succ 31
 | _+1=>Nat.or_lt_two_pow (n:=5) hb (zag ha)
def opK:List AV:=[.int .u8 2,.int .u8 3,.int .u8 4,.int .u8 5,.int .u8 6,.int .u8 7,.int .u8 12,.int .u8 13,.int .u8 14]
def is2 (k:Nat):Prop:=k=4∨k=5∨k=6∨k=7∨k=14
def jb (L:Nat):Blk:=.box 150 [.bool false,.int .i64 L,.int .i64 40]
end
end Go.Proofs.YtjflngchbeegcaaGreatDoor
