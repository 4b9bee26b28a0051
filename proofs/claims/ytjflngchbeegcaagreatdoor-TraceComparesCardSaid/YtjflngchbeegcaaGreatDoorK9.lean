/- A text of the proof: the parts SG10z, SH10z, SI10z, A13z, B13z, CA13c, CB13c, CC13c, C13z, DC13c, EC13c, FC13c, GC13c, HC13c, D13z, F13z, G13z, H13z, I13z, J13z. -/
import Derived.Test.YtjflngchbeegcaaGreatDoorK8
set_option linter.unusedSimpArgs false
set_option linter.unusedVariables false
set_option maxHeartbeats 8000000
namespace Go.Proofs.YtjflngchbeegcaaGreatDoor.P10
open Go.Vsi
section
def inR (a b:Nat) (c:UInt8):Bool:=decide (a≤c.toNat)&&decide (c.toNat≤b)
def isCap:UInt8→Bool:=inR 65 90
def isSml:UInt8→Bool:=inR 97 122
def isDig:UInt8→Bool:=inR 48 57
def isAln (c:UInt8):Bool:=isSml c || (isCap c || isDig c)
def wordE (s:ByteArray) (l:Array UInt8):Bool:=s.toList==(ByteArray.mk l).toList
def isRes (s:ByteArray):Bool:=wordE s #[97,108,108] || (wordE s #[115,111,109,101] || (wordE s #[102,97,108,115,101] || (wordE s #[110,101,120,116] || (wordE s #[97,108,119,97,121,115] || wordE s #[117,110,116,105,108]))))
def bt (s:ByteArray) (i:Nat):UInt8:=s.data.toList.getD i 0
def nameB (p q:UInt8→Bool) (s:ByteArray):Bool:=decide (1≤s.size∧s.size≤16)&&(!isRes s&&(p (bt s 0)&&(List.range' 1 (s.size-1)).all fun i=>q (bt s i)))
def isPred:ByteArray→Bool:=nameB isCap isAln
theorem bt_get (s:ByteArray) (i:Nat) (h:i<s.size) (j:Int) (hj:j=i):s[j.toNat]? = some (bt s i):=by
 subst hj
 rw [Int.toNat_natCast]
 have h2:i<s.data.toList.length:=by simpa using h
 have:s[i]? = s.data[i]? := by
  rw [getElem?_pos s i h]
  rw [Array.getElem?_eq_getElem (show i<s.data.size from h)]
  rfl
 rw [this]
 unfold bt
 rw [List.getD_eq_getElem?_getD,List.getElem?_eq_getElem h2]
 simp
attribute [local irreducible] VW VCall VO
def CharC (F:Nat) (p:UInt8→Bool):Prop:=∀ (c:UInt8) (H:Heap),VDet Tryz.prog F [.int .u8 c.toNat] H (.bool (p c))
theorem capital_g:CharC 91 isCap:=by
 intro c H
 refine zag Tryz.E0 zaa Tryz.func91 (by kernel_rfl) rfl (Nat.le_of_ble_eq_true rfl) rfl fun hcl hbl=>?_
 (repeat' ((conv=>whnf);(first|refine za3 (fun _=>?_) (fun _=>?_)|fail)));all_goals (conv=>whnf)
 all_goals (refine EndN.det trivial (Wk.of_eq (congrArg AV.bool (Bool.eq_iff_iff.2 ?_)));simp only [isCap,inR,Bool.and_eq_true,decide_eq_true_eq,Bool.false_eq_true,false_iff];omega)
theorem small_g:CharC 131 isSml:=by
 intro c H
 refine zag Tryz.E0 zaa Tryz.func131 (by kernel_rfl) rfl (Nat.le_of_ble_eq_true rfl) rfl fun hcl hbl=>?_
 (repeat' ((conv=>whnf);(first|refine za3 (fun _=>?_) (fun _=>?_)|fail)));all_goals (conv=>whnf)
 all_goals (refine EndN.det trivial (Wk.of_eq (congrArg AV.bool (Bool.eq_iff_iff.2 ?_)));simp only [isSml,inR,Bool.and_eq_true,decide_eq_true_eq,Bool.false_eq_true,false_iff];omega)
theorem digit_g:CharC 132 isDig:=by
 intro c H
 refine zag Tryz.E0 zaa Tryz.func132 (by kernel_rfl) rfl (Nat.le_of_ble_eq_true rfl) rfl fun hcl hbl=>?_
 (repeat' ((conv=>whnf);(first|refine za3 (fun _=>?_) (fun _=>?_)|fail)));all_goals (conv=>whnf)
 all_goals (refine EndN.det trivial (Wk.of_eq (congrArg AV.bool (Bool.eq_iff_iff.2 ?_)));simp only [isDig,inR,Bool.and_eq_true,decide_eq_true_eq,Bool.false_eq_true,false_iff];omega)
theorem alnum_g:CharC 92 isAln:=by
 intro c H
 have h1:=small_g c
 have h2:=capital_g c
 have h3:=digit_g c
 unfold isAln
 generalize isSml c=a at *
 generalize isCap c=b at *
 generalize isDig c=d at *
 refine zag Tryz.E0 zaa Tryz.func92 (by kernel_rfl) rfl (Nat.le_of_ble_eq_true rfl) rfl fun hcl hbl=>?_
 (repeat' ((conv=>whnf);(first|(refine IfN.mk ?_ ?_ <;> intro _)|(refine CallN.id ?_;first|refine CallN.det _ (h1 _) ?_|refine CallN.det _ (h2 _) ?_|refine CallN.det _ (h3 _) ?_|fail)|fail)));all_goals (conv=>whnf)
 all_goals exact EndN.det trivial (Wk.of_eq (by simp_all))
theorem reserved_g (s:ByteArray) (H:Heap):VDet Tryz.prog 130 [.str s] H (.bool (isRes s)):=by
 unfold isRes
 have e1:(s.toList==(ByteArray.mk #[97,108,108]).toList)=wordE s #[97,108,108]:=rfl
 have e2:(s.toList==(ByteArray.mk #[115,111,109,101]).toList)=wordE s #[115,111,109,101]:=rfl
 have e3:(s.toList==(ByteArray.mk #[102,97,108,115,101]).toList)=wordE s #[102,97,108,115,101]:=rfl
 have e4:(s.toList==(ByteArray.mk #[110,101,120,116]).toList)=wordE s #[110,101,120,116]:=rfl
 have e5:(s.toList==(ByteArray.mk #[97,108,119,97,121,115]).toList)=wordE s #[97,108,119,97,121,115]:=rfl
 have e6:(s.toList==(ByteArray.mk #[117,110,116,105,108]).toList)=wordE s #[117,110,116,105,108]:=rfl
 generalize wordE s #[97,108,108]=b1 at *
 generalize wordE s #[115,111,109,101]=b2 at *
 generalize wordE s #[102,97,108,115,101]=b3 at *
 generalize wordE s #[110,101,120,116]=b4 at *
 generalize wordE s #[97,108,119,97,121,115]=b5 at *
 generalize wordE s #[117,110,116,105,108]=b6 at *
 cases b1
 ·cases b2
  ·cases b3
   ·cases b4
    ·cases b5
     ·cases b6
      ·refine zag Tryz.E0 zaa Tryz.func130 (by kernel_rfl) rfl (Nat.le_of_ble_eq_true rfl) rfl fun hcl hbl=>?_
       (repeat' ((conv=>whnf);(first|(refine IfN.id ?_;first|refine IfN.ff e1 ?_|refine IfN.ff e2 ?_|refine IfN.ff e3 ?_|refine IfN.ff e4 ?_|refine IfN.ff e5 ?_|refine IfN.ff e6 ?_|fail)|fail)));conv=>whnf
       exact eT trivial
      ·refine zag Tryz.E0 zaa Tryz.func130 (by kernel_rfl) rfl (Nat.le_of_ble_eq_true rfl) rfl fun hcl hbl=>?_
       (repeat' ((conv=>whnf);(first|(refine IfN.id ?_;first|refine IfN.ff e1 ?_|refine IfN.ff e2 ?_|refine IfN.ff e3 ?_|refine IfN.ff e4 ?_|refine IfN.ff e5 ?_|refine IfN.tt e6 ?_|fail)|fail)));conv=>whnf
       exact eT trivial
     ·refine zag Tryz.E0 zaa Tryz.func130 (by kernel_rfl) rfl (Nat.le_of_ble_eq_true rfl) rfl fun hcl hbl=>?_
      (repeat' ((conv=>whnf);(first|(refine IfN.id ?_;first|refine IfN.ff e1 ?_|refine IfN.ff e2 ?_|refine IfN.ff e3 ?_|refine IfN.ff e4 ?_|refine IfN.tt e5 ?_|fail)|fail)));conv=>whnf
      exact eT trivial
    ·refine zag Tryz.E0 zaa Tryz.func130 (by kernel_rfl) rfl (Nat.le_of_ble_eq_true rfl) rfl fun hcl hbl=>?_
     (repeat' ((conv=>whnf);(first|(refine IfN.id ?_;first|refine IfN.ff e1 ?_|refine IfN.ff e2 ?_|refine IfN.ff e3 ?_|refine IfN.tt e4 ?_|fail)|fail)));conv=>whnf
     exact eT trivial
   ·refine zag Tryz.E0 zaa Tryz.func130 (by kernel_rfl) rfl (Nat.le_of_ble_eq_true rfl) rfl fun hcl hbl=>?_
    (repeat' ((conv=>whnf);(first|(refine IfN.id ?_;first|refine IfN.ff e1 ?_|refine IfN.ff e2 ?_|refine IfN.tt e3 ?_|fail)|fail)));conv=>whnf
    exact eT trivial
  ·refine zag Tryz.E0 zaa Tryz.func130 (by kernel_rfl) rfl (Nat.le_of_ble_eq_true rfl) rfl fun hcl hbl=>?_
   (repeat' ((conv=>whnf);(first|(refine IfN.id ?_;first|refine IfN.ff e1 ?_|refine IfN.tt e2 ?_|fail)|fail)));conv=>whnf
   exact eT trivial
 ·refine zag Tryz.E0 zaa Tryz.func130 (by kernel_rfl) rfl (Nat.le_of_ble_eq_true rfl) rfl fun hcl hbl=>?_
  (repeat' ((conv=>whnf);(first|refine IfN.tt e1 ?_|fail)));conv=>whnf
  exact eT trivial
theorem check_g (F1 F2:Nat) (p q:UInt8→Bool) (h1:CharC F1 p) (h2:CharC F2 q) (s:ByteArray) (hs:s.size≤9223372036854775807) (H:Heap):VDet Tryz.prog 129 [.str s,.rptr [.clo (.func F1) [] []],.rptr [.clo (.func F2) [] []]] H (.bool (nameB p q s)):=by
 have hr:=reserved_g s
 unfold nameB
 by_cases h0:1≤s.size∧s.size≤16
 ·rw [decide_eq_true h0,Bool.true_and]
  have hb0:=bt_get s 0 (by omega) 0 rfl
  have hp:=h1 (bt s 0)
  generalize isRes s=r at *
  cases r with
  | true =>
    refine zag Tryz.E0 zaa Tryz.func129 (by kernel_rfl) rfl (Nat.le_of_ble_eq_true rfl) rfl fun hcl hbl=>?_
    (repeat' ((conv=>whnf);(first|(refine IfN.id ?_;first|refine IfN.tt rfl ?_|refine zas (by omega) ?_|fail)|refine SideN.mk (by kernel_rfl) ?_|refine CallD.det _ (fun _ hq X=>hr _) ?_|refine zah [] ?_|fail)));conv=>whnf
    exact eT trivial
  | false =>
    cases hpb:p (bt s 0) with
    | false =>
      rw [hpb] at hp
      refine zag Tryz.E0 zaa Tryz.func129 (by kernel_rfl) rfl (Nat.le_of_ble_eq_true rfl) rfl fun hcl hbl=>?_
      (repeat' ((conv=>whnf);(first|(refine IfN.id ?_;first|refine IfN.not ?_|refine IfN.ff rfl ?_|refine zas (by omega) ?_|fail)|(refine SideN.mk ?_ ?_;· first|kernel_rfl|omega|fail)|(refine CallD.id ?_;first|refine CallD.det _ (fun _ hq X=>hr _) ?_|refine CallD.det _ (fun _ hq X=>hp _) ?_|fail)|refine ByteN.mk _ hb0 ?_|refine zah [] ?_|fail)));conv=>whnf
      exact eT trivial
    | true =>
      rw [hpb] at hp
      refine zag Tryz.E0 zaa Tryz.func129 (by kernel_rfl) rfl (Nat.le_of_ble_eq_true rfl) rfl fun hcl hbl=>?_
      (repeat' ((conv=>whnf);(first|(refine IfN.id ?_;first|refine IfN.not ?_|refine IfN.tt rfl ?_|refine IfN.ff rfl ?_|refine zas (by omega) ?_|fail)|(refine SideN.mk ?_ ?_;· first|kernel_rfl|omega|fail)|(refine CallD.id ?_;first|refine CallD.det _ (fun _ hq X=>hr _) ?_|refine CallD.det _ (fun _ hq X=>hp _) ?_|fail)|refine ByteN.mk _ hb0 ?_|refine zah [] ?_|fail)));conv=>whnf
      refine za9 Tryz.E0 zaa (σ:=Nat) (fun k=>1≤k∧k≤s.size∧∀ i,1≤i→i<k→q (bt s i)=true) (fun k=>s.size-k) (fun k=>[(5,.v (.int .i64 k))]) (fun _=>[]) _ 1 rfl hcl [0,2] rfl ⟨Nat.le_refl _,by omega,fun i h1 h2=>by omega⟩ ⟨⟨_,rfl,Wk.refl _⟩,trivial⟩ rfl (fun _ _=>rfl) ?_
      rintro k ⟨hk1,hk,hall⟩
      clear hbl
      by_cases hlt:k<s.size
      ·have hbk:=bt_get s k hlt k rfl
       have hcq:=h2 (bt s k)
       cases hqb:q (bt s k) with
       | true =>
         rw [hqb] at hcq
         (repeat' ((conv=>whnf);(first|(refine IfN.id ?_;first|refine IfN.not ?_|refine IfN.tt rfl ?_|refine zan (by omega) ?_|fail)|(refine zaf _ _ Cst.h Cst.h ?_ ?_;· omega)|(refine SideN.mk ?_ ?_;· first|kernel_rfl|omega|fail)|refine CallD.det _ (fun _ hq X=>hcq _) ?_|refine ByteN.mk _ hbk ?_|refine zah [] ?_|fail)));conv=>whnf
         (refine ⟨⟨k+1,⟨by omega,by omega,fun i h3 h4=>by
          by_cases e:i=k
          ·rw [e];exact hqb
          ·exact hall i h3 (by omega)⟩,by omega,?_,.inl ⟨rfl,rfl⟩,rfl,_,rfl,?_⟩⟩;rotate_left 1;exact .inl rfl;exact ⟨⟨_,rfl,Wk.refl _⟩,trivial⟩)
       | false =>
         rw [hqb] at hcq
         (repeat' ((conv=>whnf);(first|(refine IfN.id ?_;first|refine IfN.not ?_|refine IfN.ff rfl ?_|refine zan (by omega) ?_|fail)|(refine SideN.mk ?_ ?_;· first|kernel_rfl|omega|fail)|refine CallD.det _ (fun _ hq X=>hcq _) ?_|refine ByteN.mk _ hbk ?_|refine zah [] ?_|fail)));conv=>whnf
         refine EndN.det trivial (Wk.of_eq ?_)
         have:((List.range' 1 (s.size-1)).all fun i=>q (bt s i))=false:=by
          apply Bool.eq_false_iff.2
          intro hA
          have:=List.all_eq_true.1 hA k (List.mem_range'.2 ⟨k-1,by omega,by omega⟩)
          rw [hqb] at this
          cases this
         rw [this]
         rfl
      ·have:((List.range' 1 (s.size-1)).all fun i=>q (bt s i))=true:=by
        rw [List.all_eq_true]
        intro i hi
        obtain ⟨j,hj,rfl⟩:=List.mem_range'.1 hi
        exact hall _ (by omega) (by omega)
       rw [this]
       (repeat' ((conv=>whnf);(first|refine zas (by omega) ?_|fail)));conv=>whnf
       exact eT trivial
 ·rw [decide_eq_false h0,Bool.false_and]
  refine zag Tryz.E0 zaa Tryz.func129 (by kernel_rfl) rfl (Nat.le_of_ble_eq_true rfl) rfl fun hcl hbl=>?_
  (repeat' ((conv=>whnf);(first|(refine IfN.id ?_;first|refine zan (by omega) ?_|refine za3 (fun _=>?_) (fun _=>?_)|fail)|refine SideN.mk (by kernel_rfl) ?_|refine zah [] ?_|fail)));all_goals (conv=>whnf)
  all_goals exact eT trivial
end
section
theorem SegN.nthE {α:Type} {f:α→List AV} {sz:Nat} {l:List α} {i:Int} {k:List AV→Prop} {c:List AV} (d:α) (m:Nat) (hi:i=m) (hm:m<l.length) (hsz:∀ x,(f x).length=sz) (e:f (l.getD m d)=c) (h:k c):SegN (l.flatMap f) (i.toNat * sz) k :=
 zbm d m hi hm hsz (e▸h)
theorem set_self {H:Heap} {i:Nat} {B:Blk} (h:H[i]? = some B):H.set i B=H:=by
 apply List.ext_getElem?
 intro j
 rw [List.getElem?_set]
 split
 ·rename_i e
  subst e
  split
  ·exact h.symm
  ·rename_i hlt
   rw [List.getElem?_eq_none (by omega)] at h
   cases h
 ·rfl
theorem closed_set {H:Heap} (h:Closed H) (i:Nat) (B:Blk) (hB:B.below H.length):Closed (H.set i B):=by
 intro j C hj
 rw [List.length_set]
 rw [List.getElem?_set] at hj
 split at hj
 ·split at hj
  ·cases hj;exact hB
  ·cases hj
 ·exact h j C hj
theorem getD_memT {α:Type} (l:List α) (k:Nat) (d:α) (h:k<l.length):l.getD k d∈l:=by
 rw [show l.getD k d=l[k] by simp [List.getD_eq_getElem?_getD,List.getElem?_eq_getElem h]]
 exact List.getElem_mem h
attribute [local irreducible] VW VCall VO bits
end
section
attribute [local irreducible] VW VCall VO bits
theorem checkerP (H:Heap):VDet Tryz.prog 90 [.clo (.func 91) [] [],.clo (.func 92) [] []] H (.clo (.func 129) [] [.rptr [.clo (.func 91) [] []],.rptr [.clo (.func 92) [] []]]):=by
 refine zag Tryz.E0 zaa Tryz.func90 (by kernel_rfl) rfl (Nat.le_of_ble_eq_true rfl) rfl fun hcl hbl=>?_
 conv=>whnf
 refine EndN.detF ?_ ?_ (Wk.refl _)
 ·simp [below,zac,fnBelow]
 ·(repeat' (first|exact FrzL.nil|refine FrzL.cons ?_ ?_|refine Frz.clo ?_ ?_|refine Frz.ptr rfl rfl (FrzL.refl _)|fail))
theorem predicate_g (s:ByteArray) (hs:s.size≤9223372036854775807) (H:Heap):VDet Tryz.prog 48 [.str s] H (.bool (isPred s)):=by
 have h:=check_g _ _ isCap isAln capital_g alnum_g s hs
 unfold isPred
 generalize nameB isCap isAln s=b at *
 refine zag Tryz.E0 zaa Tryz.func48 (by kernel_rfl) rfl (Nat.le_of_ble_eq_true rfl) rfl fun hcl hbl=>?_
 (repeat' ((conv=>whnf);(first|(refine CallN.id ?_;first|refine CallN.det _ (checkerP _) ?_|refine CallN.det _ (h _) ?_|fail)|fail)));conv=>whnf
 exact eT trivial
end
end Go.Proofs.YtjflngchbeegcaaGreatDoor.P10
namespace Go.Proofs.YtjflngchbeegcaaGreatDoor
open Go.Vsi
section
attribute [local irreducible] VW VCall VO
def nm (c:UInt8):ByteArray:=⟨#[c]⟩
theorem nm_list (c:UInt8):(nm c).toList=[c]:=by rw [ByteArray.toList_eq];rfl
theorem nm_ne (c:UInt8) (l:Array UInt8) (h:l.size≠1):((nm c).toList==(ByteArray.mk l).toList)=false:=by
 rw [nm_list,ByteArray.toList_eq]
 simp only [beq_eq_false_iff_ne,ne_eq]
 intro e
 apply h
 have:=congrArg List.length e
 simpa using this.symm
theorem nm_eq (c d:UInt8):((nm c).toList==(nm d).toList)=(c==d):=by
 rw [nm_list,nm_list]
 simp [List.beq,BEq.beq]
theorem nm_lt (c d:UInt8):Op.bytesLess (nm c).toList (nm d).toList=decide (c.toNat<d.toNat):=by
 rw [nm_list,nm_list]
 simp only [Op.bytesLess,Bool.and_false,Bool.or_false]
 rfl
theorem capital_c (c:UInt8) (h:65≤c.toNat∧c.toNat≤90) (H:Heap):VDet Tryz.prog 91 [.int .u8 c.toNat] H (.bool true):=by
 refine zag Tryz.E0 zaa Tryz.func91 (by kernel_rfl) rfl (Nat.le_of_ble_eq_true rfl) rfl fun hcl hbl=>?_
 (repeat' ((conv=>whnf);(first|refine zan (by omega) ?_|fail)));conv=>whnf
 exact EndN.det trivial (Wk.of_eq (by simp;omega))
theorem reserved_c (c:UInt8) (H:Heap):VDet Tryz.prog 130 [.str (nm c)] H (.bool false):=by
 refine zag Tryz.E0 zaa Tryz.func130 (by kernel_rfl) rfl (Nat.le_of_ble_eq_true rfl) rfl fun hcl hbl=>?_
 (repeat' ((conv=>whnf);(first|refine IfN.ff (nm_ne _ _ (by decide)) ?_|fail)));conv=>whnf
 exact eT trivial
theorem checker_c (H:Heap):VDet Tryz.prog 90 [.clo (.func 91) [] [],.clo (.func 92) [] []] H (.clo (.func 129) [] [.rptr [.clo (.func 91) [] []],.rptr [.clo (.func 92) [] []]]):=by
 refine zag Tryz.E0 zaa Tryz.func90 (by kernel_rfl) rfl (Nat.le_of_ble_eq_true rfl) rfl fun hcl hbl=>?_
 conv=>whnf
 refine EndN.detF ?_ ?_ (Wk.refl _)
 ·simp [below,zac,fnBelow]
 ·(repeat' (first|exact FrzL.nil|refine FrzL.cons ?_ ?_|refine Frz.clo ?_ ?_|refine Frz.ptr rfl rfl (FrzL.refl _)|fail))
theorem check_c (c:UInt8) (h:65≤c.toNat∧c.toNat≤90) (H:Heap):VDet Tryz.prog 129 [.str (nm c),.rptr [.clo (.func 91) [] []],.rptr [.clo (.func 92) [] []]] H (.bool true):=by
 refine zag Tryz.E0 zaa Tryz.func129 (by kernel_rfl) rfl (Nat.le_of_ble_eq_true rfl) rfl fun hcl hbl=>?_
 (repeat' ((conv=>whnf);(first|(refine IfN.id ?_;first|refine IfN.not ?_|refine IfN.tt rfl ?_|refine IfN.ff rfl ?_|fail)|(refine SideN.mk ?_ ?_;· first|kernel_rfl|omega|fail)|(refine CallD.id ?_;first|refine CallD.det _ (fun _ hq X=>reserved_c _ _) ?_|refine CallD.det _ (fun _ hq X=>capital_c c h _) ?_|fail)|refine ByteN.mk c rfl ?_|refine zah [] ?_|fail)));conv=>whnf
 refine LoopN.rounds Tryz.E0 zaa 2 rfl ?_
 (repeat' ((conv=>whnf);(first|refine IfN.ff rfl ?_|fail)));conv=>whnf
 exact eT trivial
theorem predicate_c (c:UInt8) (h:65≤c.toNat∧c.toNat≤90) (H:Heap):VDet Tryz.prog 48 [.str (nm c)] H (.bool true):=by
 refine zag Tryz.E0 zaa Tryz.func48 (by kernel_rfl) rfl (Nat.le_of_ble_eq_true rfl) rfl fun hcl hbl=>?_
 (repeat' ((conv=>whnf);(first|(refine CallN.id ?_;first|refine CallN.det _ (checker_c _) ?_|refine CallN.det _ (check_c c h _) ?_|fail)|fail)));conv=>whnf
 exact eT trivial
structure Fa where
 c:UInt8
 a:Int
 m:Int
instance:Inhabited Fa:=⟨⟨0,0,0⟩⟩
structure Md where
 k:Int
 n:Int
 lp:Int
 fs:List Fa
def encF (f:Fa):List AV:=[.str (nm f.c),.int .i64 f.a,.int .i64 f.m]
theorem encF_below (n:Nat) (l:List Fa):zac n (l.flatMap encF):=zba _ fun x=>by simp [encF,zac,below]
def Md.cells (t:Md):List AV:=[.int .u8 t.k,.int .i64 t.n,.sl none 0 [],.int .i64 t.lp,.sl none t.fs.length (t.fs.flatMap encF),.sl none 0 [],.sl none 0 []]
def cap (c:UInt8):Prop:=65≤c.toNat∧c.toNat≤90
def fa (l:List Fa) (i:Nat):Fa:=l.getD i default
def okAt (n:Int) (l:List Fa) (i:Nat):Bool :=
 (i==0 || decide ((fa l (i-1)).c.toNat<(fa l i).c.toNat))&&(decide ((fa l i).a=0)&&(decide (0≤(fa l i).m)&&decide ((fa l i).m<2 ^ n.toNat)))
def rowsOK (n:Int) (l:List Fa):Bool:=(List.range l.length).all (okAt n l)
theorem rows_no {n:Int} {l:List Fa} {k:Nat} (hk:k<l.length) (h:okAt n l k=false):rowsOK n l=false:=by
 unfold rowsOK
 rw [List.all_eq_false]
 exact ⟨k,List.mem_range.2 hk,by simp [h]⟩
theorem rows_yes {n:Int} {l:List Fa} (h:∀ i,i<l.length→okAt n l i=true):rowsOK n l=true:=by
 unfold rowsOK
 rw [List.all_eq_true]
 exact fun x hx=>h x (List.mem_range.1 hx)
def validB (t:Md):Bool :=
 decide (t.k=5)&&(decide (1≤t.n)&&(decide (t.n≤5)&&(decide (0≤t.lp)&&(decide (t.lp<t.n)&&rowsOK t.n t.fs))))
theorem EqN.shl1 {n:Int} {k:Int→Prop} (h:1≤n∧n≤5) (a:k (2 ^ n.toNat)):EqN (IntKind.i64.wrap (1 * 2 ^ min n.toNat IntKind.i64.bits)) k:=by
 refine ⟨_,?_,a⟩
 obtain ⟨m,rfl⟩:∃ m:Nat,n=m:=⟨n.toNat,by omega⟩
 have:m=1∨m=2∨m=3∨m=4∨m=5:=by omega
 rcases this with rfl|rfl|rfl|rfl|rfl <;> decide
theorem valid_c (t:Md) (hl:t.fs.length≤1000) (hc:∀ i,i<t.fs.length→cap (fa t.fs i).c) (H:Heap):VDet Tryz.prog 43 [.agg t.cells] H (.bool (validB t)):=by
 obtain ⟨k,n,lp,fs⟩:=t
 unfold Md.cells
 simp only at hc hl ⊢
 refine zag Tryz.E0 zaa Tryz.func43 (by kernel_rfl) rfl (Nat.le_of_ble_eq_true rfl) rfl fun hcl hbl=>?_
 (repeat' ((conv=>whnf);(first|(refine IfN.id ?_;first|refine IfN.not ?_|refine IfN.ff rfl ?_|refine za3 (fun _=>?_) (fun _=>?_)|fail)|fail)));all_goals (conv=>whnf)
 all_goals try (refine EndN.det trivial (Wk.of_eq (congrArg AV.bool ?_));simp_all [validB];done)
 all_goals try (refine EndN.det trivial (Wk.of_eq (congrArg AV.bool ?_));simp_all [validB];try omega)
 refine za9 Tryz.E0 zaa (σ:=Nat) (fun k=>k≤fs.length∧∀ i,i<k→okAt n fs i=true) (fun k=>fs.length-k) (fun k=>[(49,.v (.int .i64 k))]) (fun _=>_) _ 0 rfl hcl [1,47,48] rfl ⟨Nat.zero_le _,fun i hi=>absurd hi (Nat.not_lt_zero i)⟩ ⟨⟨_,rfl,Wk.refl _⟩,trivial⟩ rfl (fun _ _=>rfl) ?_
 rintro j ⟨hj,hok⟩
 clear hbl
 (repeat' ((conv=>whnf);(first|(refine IfN.id ?_;first|refine IfN.not ?_|refine IfN.tt rfl ?_|refine za3 (fun _=>?_) (fun _=>?_)|(refine IfN.mk ?_ ?_ <;> intro _)|fail)|(refine EqN.id ?_;first|refine EqN.shl1 (by omega) ?_|(refine zaf _ _ Cst.h Cst.h ?_ ?_;· omega)|(refine EqN.subN _ _ Cst.h Cst.h ?_ ?_;· omega)|fail)|(refine SideN.mk ?_ ?_;· first|kernel_rfl|omega|exact List.cons_ne_nil _ _|fail)|refine CallD.det _ (fun _ hq X=>predicate_c _ (hc j (by omega)) _) ?_|refine zbm default j rfl (by omega) (fun _=>rfl) ?_|refine zbm default (j-1) (by omega) (by omega) (fun _=>rfl) ?_|refine zah [] ?_|fail)));all_goals (conv=>whnf)
 all_goals try refine EndN.det trivial (Wk.of_eq (congrArg AV.bool ?_))
 all_goals first
  | (have hno:okAt n fs j=false:=by simp_all [okAt,fa,nm_lt];try omega
     have:=rows_no (by omega) hno
     simp_all [validB];done)
  | (have:=rows_yes (n:=n) (l:=fs) (fun i hi=>hok i (by omega))
     simp_all [validB];try omega)
  | (have hyes:okAt n fs j=true:=(by (have h0:j=0∨¬ (0<(j:Int))∨((fa fs (j-1)).c.toNat<(fa fs j).c.toNat):=(by simp_all [fa,nm_lt]));(simp_all [okAt,fa,nm_lt]);(try omega))
     (refine ⟨⟨j+1,⟨by omega,fun i hi=>by
      rcases Nat.lt_or_ge i j with h|h
      ·exact hok i h
      ·have:i=j:=by omega
       exact this▸hyes⟩,by omega,?_,.inl ⟨rfl,rfl⟩,rfl,_,rfl,?_⟩⟩;rotate_left 1;exact .inr ⟨by simp [zbe,below,zac,tr,encF_below],by simp [belowH,Blk.below,zac,below,encF_below]⟩;exact ⟨⟨_,rfl,Wk.refl _⟩,trivial⟩))
  | skip
end
end Go.Proofs.YtjflngchbeegcaaGreatDoor
namespace Go.Proofs.YtjflngchbeegcaaGreatDoor.P10.C
open Go.Vsi
section
attribute [local irreducible] VW VCall VO bits
structure Fct where
 nm:ByteArray
 ar:Int
 tr:Int
structure Fnc where
 nm:ByteArray
 ar:Int
 vl:List Int
structure Bnd where
 nm:ByteArray
 at_:Int
structure Mdl where
 kind:Int
 size:Int
 rel:List Int
 loop:Int
 facts:List Fct
 funcs:List Fnc
 binds:List Bnd
def enc64 (n:Int):List AV:=[.int .i64 n]
def Fct.cells (f:Fct):List AV:=[.str f.nm,.int .i64 f.ar,.int .i64 f.tr]
def Fnc.cells (f:Fnc):List AV:=[.str f.nm,.int .i64 f.ar,.sl none f.vl.length (f.vl.flatMap enc64)]
def Bnd.cells (b:Bnd):List AV:=[.str b.nm,.int .i64 b.at_]
def Mdl.cells (m:Mdl):List AV:=[.int .u8 m.kind,.int .i64 m.size,.sl none m.rel.length (m.rel.flatMap enc64),.int .i64 m.loop,.sl none m.facts.length (m.facts.flatMap Fct.cells),.sl none m.funcs.length (m.funcs.flatMap Fnc.cells),.sl none m.binds.length (m.binds.flatMap Bnd.cells)]
def fct0:Fct:=⟨.empty,0,0⟩
def fnc0:Fnc:=⟨.empty,0,[]⟩
def bnd0:Bnd:=⟨.empty,0⟩
theorem i64s_below (n:Nat) (l:List Int):zac n (l.flatMap enc64):=zba l fun _=>by simp [enc64,below,zac]
theorem fcts_below (n:Nat) (l:List Fct):zac n (l.flatMap Fct.cells):=zba l fun _=>by simp [Fct.cells,below,zac]
theorem bnds_below (n:Nat) (l:List Bnd):zac n (l.flatMap Bnd.cells):=zba l fun _=>by simp [Bnd.cells,below,zac]
theorem fncs_below (n:Nat) (l:List Fnc):zac n (l.flatMap Fnc.cells):=zba l fun x=>⟨trivial,trivial,⟨fun _ e=>(nomatch e),i64s_below n x.vl⟩,trivial⟩
theorem fct_size (f:Fct):f.cells.length=3:=rfl
theorem fnc_size (f:Fnc):f.cells.length=3:=rfl
theorem bnd_size (b:Bnd):b.cells.length=2:=rfl
theorem i64_size (n:Int):(enc64 n).length=1:=rfl
theorem getD_memT {α:Type} (l:List α) (i:Nat) (d:α) (h:i<l.length):l.getD i d∈l:=by
 rw [List.getD_eq_getElem?_getD,List.getElem?_eq_getElem h]
 exact List.getElem_mem h
def lessB (a b:ByteArray):Bool:=Op.bytesLess a.toList b.toList
def fAt (l:List Fct) (i:Nat):Fct:=l.getD i fct0
def okAt (n:Int) (l:List Fct) (i:Nat):Bool :=
 isPred (fAt l i).nm&&((decide (i=0) || lessB (fAt l (i-1)).nm (fAt l i).nm)&&(decide ((fAt l i).ar=0)&&(decide (0≤(fAt l i).tr)&&decide ((fAt l i).tr<2 ^ n.toNat))))
def rowsOK (n:Int) (l:List Fct):Bool:=(List.range l.length).all (okAt n l)
theorem rows_no {n:Int} {l:List Fct} {k:Nat} (hk:k<l.length) (h:okAt n l k=false):rowsOK n l=false:=by
 unfold rowsOK
 rw [List.all_eq_false]
 exact ⟨k,List.mem_range.2 hk,by simp [h]⟩
theorem rows_yes {n:Int} {l:List Fct} (h:∀ i,i<l.length→okAt n l i=true):rowsOK n l=true:=by
 unfold rowsOK
 rw [List.all_eq_true]
 exact fun x hx=>h x (List.mem_range.1 hx)
def headB (m:Mdl):Bool:=decide (m.kind=5∧1≤m.size∧m.size≤5∧0≤m.loop∧m.loop<m.size∧m.rel.length=0∧m.funcs.length=0∧m.binds.length=0)
def validM (m:Mdl):Bool:=headB m&&rowsOK m.size m.facts
structure Mdl.Nm (m:Mdl):Prop where
 facts:∀ f∈m.facts,f.nm.size≤9223372036854775807
 funcs:∀ f∈m.funcs,f.nm.size≤9223372036854775807
 binds:∀ f∈m.binds,f.nm.size≤9223372036854775807
theorem valid_c (m:Mdl) (hl:m.facts.length≤9223372036854775807) (hn:m.Nm) (H:Heap):VDet Tryz.prog 43 [.agg m.cells] H (.bool (validM m)):=by
 have hns:=hn.facts
 unfold validM
 cases hb:headB m with
 | false =>
   have hb:=of_decide_eq_false hb
   rw [Bool.false_and]
   obtain ⟨k,n,rel,lp,fs,us,bs⟩:=m
   simp only at hb hl hns
   unfold Mdl.cells
   simp only
   refine zag Tryz.E0 zaa Tryz.func43 (by kernel_rfl) rfl (Nat.le_of_ble_eq_true rfl) rfl fun hcl hbl=>?_
   (repeat' ((conv=>whnf);(first|(refine IfN.id ?_;first|refine IfN.not ?_|refine zan (by omega) ?_|refine za3 (fun _=>?_) (fun _=>?_)|fail)|fail)));all_goals (conv=>whnf)
   all_goals first
    | exact eT trivial
    | (exfalso;omega)
 | true =>
   obtain ⟨h1,h2,h3,h4,h5,h6,h7,h8⟩:=of_decide_eq_true hb
   rw [Bool.true_and]
   obtain ⟨k,n,rel,lp,fs,us,bs⟩:=m
   simp only at h1 h2 h3 h4 h5 h6 h7 h8 hl hns ⊢
   unfold Mdl.cells
   simp only
   refine zag Tryz.E0 zaa Tryz.func43 (by kernel_rfl) rfl (Nat.le_of_ble_eq_true rfl) rfl fun hcl hbl=>?_
   (repeat' ((conv=>whnf);(first|(refine IfN.id ?_;first|refine IfN.not ?_|refine zan (by omega) ?_|refine zas (by omega) ?_|fail)|fail)));conv=>whnf
   refine za9 Tryz.E0 zaa (σ:=Nat) (fun k=>k≤fs.length∧∀ i,i<k→okAt n fs i=true) (fun k=>fs.length-k) (fun k=>[(49,.v (.int .i64 k))]) (fun _=>_) _ 0 rfl hcl [1,47,48] rfl ⟨Nat.zero_le _,fun i hi=>absurd hi (Nat.not_lt_zero i)⟩ ⟨⟨_,rfl,Wk.refl _⟩,trivial⟩ rfl (fun _ _=>rfl) ?_
   rintro j ⟨hj,hok⟩
   clear hbl
   rcases Nat.lt_or_ge j fs.length with hlt|hge
   ·have hp:=predicate_g (fAt fs j).nm (hns _ (getD_memT fs j fct0 hlt))
    have hdef:okAt n fs j=(isPred (fAt fs j).nm&&((decide (j=0) || lessB (fAt fs (j-1)).nm (fAt fs j).nm)&&(decide ((fAt fs j).ar=0)&&(decide (0≤(fAt fs j).tr)&&decide ((fAt fs j).tr<2 ^ n.toNat))))):=rfl
    have hlb:Op.bytesLess (fAt fs (j-1)).nm.toList (fAt fs j).nm.toList=lessB (fAt fs (j-1)).nm (fAt fs j).nm:=rfl
    have hno:okAt n fs j=false→rowsOK n fs=false:=rows_no hlt
    obtain ⟨s,a,t,hc⟩:∃ s a t,fAt fs j=⟨s,a,t⟩:=⟨_,_,_,rfl⟩
    have qc:Fct.cells (fs.getD j fct0)=[.str s,.int .i64 a,.int .i64 t]:=by
     show Fct.cells (fAt fs j)=_
     rw [hc];rfl
    obtain ⟨s',a',t',hc'⟩:∃ s a t,fAt fs (j-1)=⟨s,a,t⟩:=⟨_,_,_,rfl⟩
    have qc':Fct.cells (fs.getD (j-1) fct0)=[.str s',.int .i64 a',.int .i64 t']:=by
     show Fct.cells (fAt fs (j-1))=_
     rw [hc'];rfl
    rw [hc] at hp hdef hlb
    rw [hc'] at hdef hlb
    simp only at hp hdef hlb
    generalize lessB s' s=y at *
    generalize isPred s=x at *
    generalize hz:okAt n fs j=z at hdef hno
    obtain ⟨S,hS,hSe⟩:=EqN.shl1 (k:=fun y=>y=2 ^ n.toNat) ⟨h2,h3⟩ rfl
    rw [← hSe] at hdef
    have hokz:okAt n fs j=z:=hz
    cases x with
    | false =>
      rw [hno (by rw [hdef];rfl)]
      (repeat' ((conv=>whnf);(first|(refine IfN.id ?_;first|refine IfN.not ?_|refine IfN.ff rfl ?_|refine zan (by omega) ?_|fail)|(refine SideN.mk ?_ ?_;· first|kernel_rfl|omega|exact List.cons_ne_nil _ _|fail)|refine CallD.det _ (fun _ hq X=>hp _) ?_|refine SegN.nthE (f:=Fct.cells) fct0 j rfl hlt fct_size qc ?_|refine zah [] ?_|fail)));conv=>whnf
      exact eT trivial
    | true =>
      by_cases hy:j=0∨y=true
      ·have hyd:(decide (j=0) || y)=true:=by
        rcases hy with h|h
        ·rw [decide_eq_true h];rfl
        ·rw [h,Bool.or_true]
       rw [hyd,Bool.true_and,Bool.true_and] at hdef
       by_cases ha:a=0∧0≤t∧t<S
       ·have hz1:z=true:=by rw [hdef,decide_eq_true ha.1,decide_eq_true ha.2.1,decide_eq_true ha.2.2];rfl
        have hround:∀ i,i<j+1→okAt n fs i=true:=fun i hi=>by
         by_cases e:i=j
         ·rw [e,hokz];exact hz1
         ·exact hok i (by omega)
        rcases hy with h0|h0
        ·(repeat' ((conv=>whnf);(first|(refine IfN.id ?_;first|refine IfN.not ?_|refine IfN.tt rfl ?_|refine zan (by omega) ?_|refine zas (by omega) ?_|fail)|(refine EqN.id ?_;first|refine EqN.mk S hS ?_|(refine zaf _ _ Cst.h Cst.h ?_ ?_;· omega)|fail)|(refine SideN.mk ?_ ?_;· first|kernel_rfl|omega|exact List.cons_ne_nil _ _|fail)|refine CallD.det _ (fun _ hq X=>hp _) ?_|refine SegN.nthE (f:=Fct.cells) fct0 j rfl hlt fct_size qc ?_|refine zah [] ?_|fail)));conv=>whnf
         all_goals (refine ⟨⟨j+1,⟨by omega,hround⟩,by omega,?_,.inl ⟨rfl,rfl⟩,rfl,_,rfl,?_⟩⟩;rotate_left 1;exact .inr ⟨by simp [zbe,below,zac,tr,i64s_below,fcts_below,bnds_below,fncs_below],by simp [belowH,Blk.below,zac,below,i64s_below,fcts_below,bnds_below,fncs_below]⟩;exact ⟨⟨_,rfl,Wk.refl _⟩,trivial⟩)
        ·rw [h0] at hlb
         (repeat' ((conv=>whnf);(first|(refine IfN.id ?_;first|refine IfN.tt hlb ?_|refine IfN.not ?_|refine IfN.tt rfl ?_|refine zan (by omega) ?_|refine zas (by omega) ?_|refine za3 (fun _=>?_) (fun _=>?_)|fail)|(refine EqN.id ?_;first|refine EqN.mk S hS ?_|(refine zaf _ _ Cst.h Cst.h ?_ ?_;· omega)|(refine EqN.subN _ _ Cst.h Cst.h ?_ ?_;· omega)|fail)|(refine SideN.mk ?_ ?_;· first|kernel_rfl|omega|exact List.cons_ne_nil _ _|fail)|refine CallD.det _ (fun _ hq X=>hp _) ?_|refine SegN.nthE (f:=Fct.cells) fct0 j rfl hlt fct_size qc ?_|refine SegN.nthE (f:=Fct.cells) fct0 (j-1) (by omega) (by omega) fct_size qc' ?_|refine zah [] ?_|fail)));all_goals (conv=>whnf)
         all_goals (refine ⟨⟨j+1,⟨by omega,hround⟩,by omega,?_,.inl ⟨rfl,rfl⟩,rfl,_,rfl,?_⟩⟩;rotate_left 1;exact .inr ⟨by simp [zbe,below,zac,tr,i64s_below,fcts_below,bnds_below,fncs_below],by simp [belowH,Blk.below,zac,below,i64s_below,fcts_below,bnds_below,fncs_below]⟩;exact ⟨⟨_,rfl,Wk.refl _⟩,trivial⟩)
       ·have hz0:z=false:=by
         rw [hdef]
         by_cases e1:a=0
         ·by_cases e2:0≤t
          ·rw [decide_eq_false (fun q=>ha ⟨e1,e2,q⟩),Bool.and_false,Bool.and_false]
          ·rw [decide_eq_false e2,Bool.false_and,Bool.and_false]
         ·rw [decide_eq_false e1,Bool.false_and]
        rw [hno hz0]
        rcases hy with h0|h0
        ·(repeat' ((conv=>whnf);(first|(refine IfN.id ?_;first|refine IfN.not ?_|refine IfN.tt rfl ?_|refine zan (by omega) ?_|refine zas (by omega) ?_|refine za3 (fun _=>?_) (fun _=>?_)|fail)|refine EqN.mk S hS ?_|(refine SideN.mk ?_ ?_;· first|kernel_rfl|omega|exact List.cons_ne_nil _ _|fail)|refine CallD.det _ (fun _ hq X=>hp _) ?_|refine SegN.nthE (f:=Fct.cells) fct0 j rfl hlt fct_size qc ?_|refine zah [] ?_|fail)));all_goals (conv=>whnf)
         all_goals first
          | exact eT trivial
          | (exfalso;omega)
        ·rw [h0] at hlb
         (repeat' ((conv=>whnf);(first|(refine IfN.id ?_;first|refine IfN.tt hlb ?_|refine IfN.not ?_|refine IfN.tt rfl ?_|refine zan (by omega) ?_|refine za3 (fun _=>?_) (fun _=>?_)|fail)|(refine EqN.id ?_;first|refine EqN.mk S hS ?_|(refine EqN.subN _ _ Cst.h Cst.h ?_ ?_;· omega)|fail)|(refine SideN.mk ?_ ?_;· first|kernel_rfl|omega|exact List.cons_ne_nil _ _|fail)|refine CallD.det _ (fun _ hq X=>hp _) ?_|refine SegN.nthE (f:=Fct.cells) fct0 j rfl hlt fct_size qc ?_|refine SegN.nthE (f:=Fct.cells) fct0 (j-1) (by omega) (by omega) fct_size qc' ?_|refine zah [] ?_|fail)));all_goals (conv=>whnf)
         all_goals first
          | exact eT trivial
          | (exfalso;omega)
      ·have hy0:y=false:=by
        cases y with
        | true=>exact absurd (.inr rfl) hy
        | false=>rfl
       have hj0:j≠0:=fun e=>hy (.inl e)
       rw [hno (by rw [hdef,hy0,decide_eq_false hj0];rfl)]
       rw [hy0] at hlb
       (repeat' ((conv=>whnf);(first|(refine IfN.id ?_;first|refine IfN.ff hlb ?_|refine IfN.not ?_|refine IfN.tt rfl ?_|refine zan (by omega) ?_|fail)|(refine EqN.subN _ _ Cst.h Cst.h ?_ ?_;· omega)|(refine SideN.mk ?_ ?_;· first|kernel_rfl|omega|exact List.cons_ne_nil _ _|fail)|refine CallD.det _ (fun _ hq X=>hp _) ?_|refine SegN.nthE (f:=Fct.cells) fct0 j rfl hlt fct_size qc ?_|refine SegN.nthE (f:=Fct.cells) fct0 (j-1) (by omega) (by omega) fct_size qc' ?_|refine zah [] ?_|fail)));conv=>whnf
       all_goals exact eT trivial
   ·rw [rows_yes fun i hi=>hok i (by omega)]
    (repeat' ((conv=>whnf);(first|refine zas (by omega) ?_|fail)));conv=>whnf
    exact eT trivial
theorem ba_eq {a b:ByteArray} (h:a.toList=b.toList):a=b:=by
 rw [ByteArray.toList_eq,ByteArray.toList_eq] at h
 cases a
 cases b
 congr 1
 exact Array.toList_inj.1 h
theorem ba_beq (a b:ByteArray):(a.toList==b.toList)=decide (a=b):=by
 apply Bool.eq_iff_iff.2
 rw [beq_iff_eq,decide_eq_true_eq]
 exact ⟨ba_eq,fun h=>by rw [h]⟩
theorem rin_c (c:UInt8) (a b:Nat) (x y:Int) (hx:x=a) (hy:y=b) (H:Heap):VDet Tryz.prog 134 [.int .u8 c.toNat,.int .u8 x,.int .u8 y] H (.bool (inR a b c)):=by
 refine zag Tryz.E0 zaa Tryz.func134 (by kernel_rfl) rfl (Nat.le_of_ble_eq_true rfl) rfl fun hcl hbl=>?_
 (repeat' ((conv=>whnf);(first|refine za3 (fun _=>?_) (fun _=>?_)|fail)));all_goals (conv=>whnf)
 all_goals (refine EndN.det trivial (Wk.of_eq (congrArg AV.bool (Bool.eq_iff_iff.2 ?_)));simp only [inR,Bool.and_eq_true,decide_eq_true_eq,Bool.false_eq_true,false_iff];omega)
def refQ (dg:Bool) (c:UInt8):Bool:=inR 48 57 c || (!dg&&(inR 65 90 c || inR 97 122 c))
def letB (dg:Bool) (s:ByteArray):Bool:=decide (1≤s.size∧s.size≤16)&&(List.range' 1 (s.size-1)).all fun i=>refQ dg (bt s i)
theorem letB_no {dg:Bool} {s:ByteArray} {k:Nat} (h1:1≤k) (h2:k<s.size) (h:refQ dg (bt s k)=false):letB dg s=false:=by
 unfold letB
 have:((List.range' 1 (s.size-1)).all fun i=>refQ dg (bt s i))=false:=by
  apply Bool.eq_false_iff.2
  intro hA
  have:=List.all_eq_true.1 hA k (List.mem_range'.2 ⟨k-1,by omega,by omega⟩)
  rw [h] at this
  cases this
 rw [this,Bool.and_false]
theorem letB_yes {dg:Bool} {s:ByteArray} (h:∀ i,1≤i→i<s.size→refQ dg (bt s i)=true):letB dg s=decide (1≤s.size∧s.size≤16):=by
 unfold letB
 have:((List.range' 1 (s.size-1)).all fun i=>refQ dg (bt s i))=true:=by
  rw [List.all_eq_true]
  intro i hi
  obtain ⟨j,hj,rfl⟩:=List.mem_range'.1 hi
  exact h _ (by omega) (by omega)
 rw [this,Bool.and_true]
theorem letters_f (s:ByteArray) (hs:s.size≤9223372036854775807) (H:Heap):VDet Tryz.prog 133 [.str s,.bool false] H (.bool (letB false s)):=by
 refine zag Tryz.E0 zaa Tryz.func133 (by kernel_rfl) rfl (Nat.le_of_ble_eq_true rfl) rfl fun hcl hbl=>?_
 conv=>whnf
 refine za9 Tryz.E0 zaa (σ:=Nat) (fun k=>1≤k∧(k≤s.size∨k=1)∧∀ i,1≤i→i<k→refQ false (bt s i)=true) (fun k=>s.size-k) (fun k=>[(5,.v (.int .i64 k))]) (fun _=>[]) _ 1 rfl hcl [0,1] rfl ⟨Nat.le_refl _,.inr rfl,fun i h1 h2=>by omega⟩ ⟨⟨_,rfl,Wk.refl _⟩,trivial⟩ rfl (fun _ _=>rfl) ?_
 rintro k ⟨hk1,hk,hall⟩
 clear hbl
 by_cases hlt:k<s.size
 ·have hbk:=bt_get s k hlt k rfl
  have r1:=rin_c (bt s k) 48 57 48 57 rfl rfl
  have r2:=rin_c (bt s k) 65 90 65 90 rfl rfl
  have r3:=rin_c (bt s k) 97 122 97 122 rfl rfl
  have hq:refQ false (bt s k)=(inR 48 57 (bt s k) || (!false&&(inR 65 90 (bt s k) || inR 97 122 (bt s k)))):=rfl
  generalize inR 48 57 (bt s k)=b1 at *
  generalize inR 65 90 (bt s k)=b2 at *
  generalize inR 97 122 (bt s k)=b3 at *
  cases b1 with
  | true =>
    (repeat' ((conv=>whnf);(first|(refine IfN.id ?_;first|refine IfN.not ?_|refine IfN.tt rfl ?_|refine zan (by omega) ?_|fail)|(refine zaf _ _ Cst.h Cst.h ?_ ?_;· omega)|refine SideN.mk (by omega) ?_|refine CallN.det _ (r1 _) ?_|refine ByteN.mk _ hbk ?_|fail)));conv=>whnf
    (refine ⟨⟨k+1,⟨by omega,by omega,fun i h3 h4=>by
     by_cases e:i=k
     ·rw [e];exact hq
     ·exact hall i h3 (by omega)⟩,by omega,?_,.inl ⟨rfl,rfl⟩,rfl,_,rfl,?_⟩⟩;rotate_left 1;exact .inl rfl;exact ⟨⟨_,rfl,Wk.refl _⟩,trivial⟩)
  | false =>
    cases b2 with
    | true =>
      (repeat' ((conv=>whnf);(first|(refine IfN.id ?_;first|refine IfN.not ?_|refine IfN.tt rfl ?_|refine IfN.ff rfl ?_|refine zan (by omega) ?_|fail)|(refine zaf _ _ Cst.h Cst.h ?_ ?_;· omega)|refine SideN.mk (by omega) ?_|(refine CallN.id ?_;first|refine CallN.det _ (r1 _) ?_|refine CallN.det _ (r2 _) ?_|fail)|refine ByteN.mk _ hbk ?_|fail)));conv=>whnf
      (refine ⟨⟨k+1,⟨by omega,by omega,fun i h3 h4=>by
       by_cases e:i=k
       ·rw [e];exact hq
       ·exact hall i h3 (by omega)⟩,by omega,?_,.inl ⟨rfl,rfl⟩,rfl,_,rfl,?_⟩⟩;rotate_left 1;exact .inl rfl;exact ⟨⟨_,rfl,Wk.refl _⟩,trivial⟩)
    | false =>
      cases b3 with
      | true =>
        (repeat' ((conv=>whnf);(first|(refine IfN.id ?_;first|refine IfN.not ?_|refine IfN.tt rfl ?_|refine IfN.ff rfl ?_|refine zan (by omega) ?_|fail)|(refine zaf _ _ Cst.h Cst.h ?_ ?_;· omega)|refine SideN.mk (by omega) ?_|(refine CallN.id ?_;first|refine CallN.det _ (r1 _) ?_|refine CallN.det _ (r2 _) ?_|refine CallN.det _ (r3 _) ?_|fail)|refine ByteN.mk _ hbk ?_|fail)));conv=>whnf
        (refine ⟨⟨k+1,⟨by omega,by omega,fun i h3 h4=>by
         by_cases e:i=k
         ·rw [e];exact hq
         ·exact hall i h3 (by omega)⟩,by omega,?_,.inl ⟨rfl,rfl⟩,rfl,_,rfl,?_⟩⟩;rotate_left 1;exact .inl rfl;exact ⟨⟨_,rfl,Wk.refl _⟩,trivial⟩)
      | false =>
        (repeat' ((conv=>whnf);(first|(refine IfN.id ?_;first|refine IfN.not ?_|refine IfN.ff rfl ?_|refine zan (by omega) ?_|fail)|refine SideN.mk (by omega) ?_|(refine CallN.id ?_;first|refine CallN.det _ (r1 _) ?_|refine CallN.det _ (r2 _) ?_|refine CallN.det _ (r3 _) ?_|fail)|refine ByteN.mk _ hbk ?_|fail)));conv=>whnf
        rw [letB_no hk1 hlt hq]
        exact eT trivial
 ·rw [letB_yes (fun i h1 h2=>hall i h1 (by omega))]
  by_cases h0:1≤s.size∧s.size≤16
  ·rw [decide_eq_true h0]
   (repeat' ((conv=>whnf);(first|(refine IfN.id ?_;first|refine zan (by omega) ?_|refine zas (by omega) ?_|fail)|fail)));conv=>whnf
   exact EndN.det trivial (Wk.of_eq (congrArg AV.bool (decide_eq_true (by omega))))
  ·rw [decide_eq_false h0]
   (repeat' ((conv=>whnf);(first|(refine IfN.id ?_;first|refine zas (by omega) ?_|refine za3 (fun _=>?_) (fun _=>?_)|fail)|fail)));all_goals (conv=>whnf)
   all_goals first|exact eT trivial|exact EndN.det trivial (Wk.of_eq (congrArg AV.bool (decide_eq_false (by omega))))
theorem letB_size {dg:Bool} {s:ByteArray} (h:letB dg s=true):1≤s.size:=by
 unfold letB at h
 rw [Bool.and_eq_true,decide_eq_true_eq] at h
 exact h.1.1
theorem res_at {s:ByteArray} (h:isRes s=true):isCap (bt s 0)=false∧(isDig (bt s 1)=false∧2≤s.size):=by
 unfold isRes wordE at h
 simp only [ba_beq,Bool.or_eq_true,decide_eq_true_eq] at h
 rcases h with h|h|h|h|h|h <;> subst h <;> decide
theorem refQ_f (c:UInt8):refQ false c=isAln c:=by
 unfold refQ isAln isSml isCap isDig
 cases inR 48 57 c <;> cases inR 65 90 c <;> cases inR 97 122 c <;> rfl
theorem isPred_let (s:ByteArray):isPred s=(letB false s&&isCap (bt s 0)):=by
 unfold isPred nameB letB
 simp only [refQ_f]
 cases hr:isRes s with
 | false=>generalize (List.all _ _)=a;cases a <;> cases isCap (bt s 0) <;> simp
 | true=>rw [(res_at hr).1];simp
theorem refPred_c (s:ByteArray) (hs:s.size≤9223372036854775807) (H:Heap):VDet Tryz.prog 96 [.str s] H (.bool (isPred s)):=by
 rw [isPred_let]
 have hl:=letters_f s hs
 have h1:letB false s=true→s[(0:Int).toNat]? = some (bt s 0):=fun h=>bt_get s 0 (letB_size h) 0 rfl
 have r1:∀ H,VDet Tryz.prog 134 [.int .u8 (bt s 0).toNat,.int .u8 65,.int .u8 90] H (.bool (isCap (bt s 0))):=rin_c (bt s 0) 65 90 65 90 rfl rfl
 generalize letB false s=b1 at *
 generalize isCap (bt s 0)=b2 at *
 cases b1 with
 | true =>
   have hb0:=h1 rfl
   refine zag Tryz.E0 zaa Tryz.func96 (by kernel_rfl) rfl (Nat.le_of_ble_eq_true rfl) rfl fun hcl hbl=>?_
   (repeat' ((conv=>whnf);(first|refine IfN.tt rfl ?_|refine SideN.mk (by omega) ?_|(refine CallN.id ?_;first|refine CallN.det _ (hl _) ?_|refine CallN.det _ (r1 _) ?_|fail)|refine ByteN.mk _ hb0 ?_|fail)));conv=>whnf
   all_goals exact eT trivial
 | false =>
   refine zag Tryz.E0 zaa Tryz.func96 (by kernel_rfl) rfl (Nat.le_of_ble_eq_true rfl) rfl fun hcl hbl=>?_
   (repeat' ((conv=>whnf);(first|refine IfN.ff rfl ?_|refine CallN.det _ (hl _) ?_|fail)));conv=>whnf
   exact eT trivial
def eN:ByteArray:=.empty
def encSG (c:ByteArray):List AV:=[.str c]
theorem encSG_below (n:Nat) (l:List ByteArray):zac n (l.flatMap encSG):=zba l fun _=>⟨trivial,trivial⟩
theorem encSG_size (c:ByteArray):(encSG c).length=1:=rfl
def nmAt (l:List ByteArray) (i:Nat):Bool:=isPred (l.getD i eN)&&(decide (i=0) || lessB (l.getD (i-1) eN) (l.getD i eN))
def isNmG (l:List ByteArray):Bool:=(List.range l.length).all (nmAt l)
theorem rising_c (l:List ByteArray) (hlen:l.length≤9223372036854775807) (hsz:∀ c∈l,c.size≤9223372036854775807) (H:Heap):VDet Tryz.prog 61 [.sl none l.length (l.flatMap encSG)] H (.bool (isNmG l)):=by
 refine zag Tryz.E0 zaa Tryz.func61 (by kernel_rfl) rfl (Nat.le_of_ble_eq_true rfl) rfl fun hcl hbl=>?_
 conv=>whnf
 refine za9 Tryz.E0 zaa (σ:=Nat) (fun k=>k≤l.length∧∀ i,i<k→nmAt l i=true) (fun k=>l.length-k) (fun k=>[(3,.v (.int .i64 k))]) (fun _=>[]) _ 0 rfl hcl [0] rfl ⟨Nat.zero_le _,fun i hi=>by omega⟩ ⟨⟨_,rfl,Wk.refl _⟩,trivial⟩ rfl (fun _ _=>rfl) ?_
 rintro k ⟨hk,hall⟩
 clear hbl
 by_cases hlt:k<l.length
 ·have hp:=refPred_c (l.getD k eN) (hsz _ (getD_memT l k eN hlt))
  have hfalse:nmAt l k=false→isNmG l=false:=fun h=>by
   apply Bool.eq_false_iff.2
   intro hA
   rw [List.all_eq_true.1 hA k (List.mem_range.2 hlt)] at h
   cases h
  have hdef:nmAt l k=(isPred (l.getD k eN)&&(decide (k=0) || lessB (l.getD (k-1) eN) (l.getD k eN))):=rfl
  have hlb:Op.bytesLess (l.getD (k-1) eN).toList (l.getD k eN).toList=lessB (l.getD (k-1) eN) (l.getD k eN):=rfl
  cases hpb:isPred (l.getD k eN) with
  | false =>
    rw [hpb] at hp hdef
    rw [hfalse (by rw [hdef];rfl)]
    (repeat' ((conv=>whnf);(first|(refine IfN.id ?_;first|refine IfN.not ?_|refine IfN.ff rfl ?_|refine zan (by omega) ?_|fail)|(refine SideN.mk ?_ ?_;· first|kernel_rfl|omega|exact List.cons_ne_nil _ _|fail)|refine CallD.det _ (fun _ hq X=>hp _) ?_|refine zbm (f:=encSG) (l:=l) eN k rfl hlt (fun _=>rfl) ?_|refine zah [] ?_|fail)));conv=>whnf
    exact eT trivial
  | true =>
    rw [hpb] at hp hdef
    cases hlb2:lessB (l.getD (k-1) eN) (l.getD k eN) with
    | true =>
      rw [hlb2] at hlb hdef
      have hok:nmAt l k=true:=by rw [hdef];simp
      (repeat' ((conv=>whnf);(first|(refine IfN.id ?_;first|refine IfN.tt hlb ?_|refine IfN.not ?_|refine IfN.tt rfl ?_|refine zan (by omega) ?_|refine za3 (fun _=>?_) (fun _=>?_)|fail)|(refine EqN.id ?_;first|(refine zaf _ _ Cst.h Cst.h ?_ ?_;· omega)|(refine EqN.subN _ _ Cst.h Cst.h ?_ ?_;· omega)|fail)|(refine SideN.mk ?_ ?_;· first|kernel_rfl|omega|exact List.cons_ne_nil _ _|fail)|refine CallD.det _ (fun _ hq X=>hp _) ?_|refine zbm (f:=encSG) (l:=l) eN k rfl hlt (fun _=>rfl) ?_|refine zbm (f:=encSG) (l:=l) eN (k-1) (by omega) (by omega) (fun _=>rfl) ?_|refine zah [] ?_|fail)));all_goals (conv=>whnf)
      all_goals (refine ⟨⟨k+1,⟨by omega,fun i hi=>by
       by_cases e:i=k
       ·rw [e];exact hok
       ·exact hall i (by omega)⟩,by omega,?_,.inl ⟨rfl,rfl⟩,rfl,_,rfl,?_⟩⟩;rotate_left 1;exact .inl rfl;exact ⟨⟨_,rfl,Wk.refl _⟩,trivial⟩)
    | false =>
      rw [hlb2] at hlb hdef
      by_cases h0:k=0
      ·have hok:nmAt l k=true:=by rw [hdef];simp [h0]
       (repeat' ((conv=>whnf);(first|(refine IfN.id ?_;first|refine IfN.not ?_|refine IfN.tt rfl ?_|refine zan (by omega) ?_|refine zas (by omega) ?_|fail)|(refine zaf _ _ Cst.h Cst.h ?_ ?_;· omega)|(refine SideN.mk ?_ ?_;· first|kernel_rfl|omega|exact List.cons_ne_nil _ _|fail)|refine CallD.det _ (fun _ hq X=>hp _) ?_|refine zbm (f:=encSG) (l:=l) eN k rfl hlt (fun _=>rfl) ?_|refine zah [] ?_|fail)));conv=>whnf
       all_goals (refine ⟨⟨k+1,⟨by omega,fun i hi=>by
        by_cases e:i=k
        ·rw [e];exact hok
        ·exact hall i (by omega)⟩,by omega,?_,.inl ⟨rfl,rfl⟩,rfl,_,rfl,?_⟩⟩;rotate_left 1;exact .inl rfl;exact ⟨⟨_,rfl,Wk.refl _⟩,trivial⟩)
      ·rw [hfalse (by rw [hdef];simp [h0])]
       (repeat' ((conv=>whnf);(first|(refine IfN.id ?_;first|refine IfN.ff hlb ?_|refine IfN.not ?_|refine IfN.tt rfl ?_|refine zan (by omega) ?_|fail)|(refine EqN.subN _ _ Cst.h Cst.h ?_ ?_;· omega)|(refine SideN.mk ?_ ?_;· first|kernel_rfl|omega|exact List.cons_ne_nil _ _|fail)|refine CallD.det _ (fun _ hq X=>hp _) ?_|refine zbm (f:=encSG) (l:=l) eN k rfl hlt (fun _=>rfl) ?_|refine zbm (f:=encSG) (l:=l) eN (k-1) (by omega) (by omega) (fun _=>rfl) ?_|refine zah [] ?_|fail)));conv=>whnf
       all_goals exact eT trivial
 ·have:isNmG l=true:=List.all_eq_true.2 fun i hi=>hall i (by have:=List.mem_range.1 hi;omega)
  rw [this]
  (repeat' ((conv=>whnf);(first|refine zas (by omega) ?_|fail)));conv=>whnf
  exact eT trivial
theorem flat_take_succ {α:Type} {f:α→List AV} (l:List α) (d:α) (k:Nat) (h:k<l.length):(l.take (k+1)).flatMap f=(l.take k).flatMap f++f (l.getD k d):=by
 rw [List.take_succ_eq_append_getElem h,List.flatMap_append]
 simp [List.getD_eq_getElem?_getD,h]
def nmE (f:Fct):List AV:=[.str f.nm]
theorem names_c (m:Mdl) (hl:m.facts.length≤1000000) (H:Heap):VDet Tryz.prog 60 [.agg m.cells] H (.sl none m.facts.length (m.facts.flatMap nmE)):=by
 obtain ⟨k,n,rel,lp,fs,us,bs⟩:=m
 simp only at hl
 unfold Mdl.cells
 simp only
 have hnb:∀ (n:Nat) (l:List Fct),zac n (l.flatMap nmE):=fun n l=>zba l fun _=>⟨trivial,trivial⟩
 have hb1:=fun n=>i64s_below n rel
 have hb2:=fun n=>fncs_below n us
 have hb3:=fun n=>bnds_below n bs
 generalize rel.flatMap enc64=rc at *
 generalize us.flatMap Fnc.cells=uc at *
 generalize bs.flatMap Bnd.cells=bc at *
 have hsz:∀ f:Fct,(nmE f).length=1:=fun _=>rfl
 have hfl:∀ j,j≤fs.length→((fs.take j).flatMap nmE).length=j:=fun j hj=>by
  rw [zaz (f:=nmE) (sz:=1) hsz,List.length_take]
  omega
 refine zag Tryz.E0 zaa Tryz.func60 (by kernel_rfl) rfl (Nat.le_of_ble_eq_true rfl) rfl fun hcl hbl=>?_
 conv=>whnf
 refine LoopN.tok 3 9 1 rfl rfl rfl ?_
 refine za9 Tryz.E0 zaa (σ:=Nat) (fun j=>j≤fs.length) (fun j=>fs.length-j) (fun j=>[(3,.v (.sl (some (H.length+1)) j ((fs.take j).flatMap nmE))),(4,.v (.int .i64 j))]) (fun j=>[.box 27 [.int .u8 k,.int .i64 n,.sl none rel.length rc,.int .i64 lp,.sl none fs.length (fs.flatMap Fct.cells),.sl none us.length uc,.sl none bs.length bc],.tok 9 1 ((fs.take j).flatMap nmE).length]) _ 0 rfl hcl [1] rfl (Nat.zero_le _) ⟨⟨_,rfl,Wk.refl _⟩,⟨_,rfl,Wk.refl _⟩,trivial⟩ rfl (fun _ _=>rfl) ?_
 intro j hj
 clear hbl
 rcases Nat.lt_or_ge j fs.length with hlt|hge
 ·have hns:(fs.take (j+1)).flatMap nmE=(fs.take j).flatMap nmE++[.str (fs.getD j fct0).nm]:=flat_take_succ fs fct0 j hlt
  have qc:Fct.cells (fs.getD j fct0)=[.str (fs.getD j fct0).nm,.int .i64 (fs.getD j fct0).ar,.int .i64 (fs.getD j fct0).tr]:=rfl
  have h1:=hfl j (by omega)
  generalize (fs.getD j fct0).nm=s at hns qc
  generalize (fs.getD j fct0).ar=ar at qc
  generalize (fs.getD j fct0).tr=tr at qc
  have hb4:=fun n=>hnb n (fs.take j)
  have hb5:=fun n=>hnb n (fs.take (j+1))
  (repeat' ((conv=>whnf);(first|refine zan (by omega) ?_|(refine zaf _ _ Cst.h Cst.h ?_ ?_;· omega)|(refine SideN.mk ?_ ?_;· first|omega|exact List.cons_ne_nil _ _|fail)|refine SegN.nthE (f:=Fct.cells) fct0 j rfl hlt fct_size qc ?_|refine SideN.mk ⟨rfl,rfl,rfl,by dsimp only;omega,by simp only [maxLen];omega⟩ ?_|refine PtrN.loc _ rfl ?_|fail)));conv=>whnf
  rw [← hns]
  (refine ⟨⟨j+1,by show j+1≤_;omega,by omega,?_,.inl ⟨rfl,rfl⟩,rfl,_,rfl,?_⟩⟩;rotate_left 1;exact .inl rfl;exact ⟨⟨_,rfl,Wk.refl _⟩,⟨_,rfl,Wk.refl _⟩,trivial⟩)
 ·obtain rfl:j=fs.length:=by omega
  rw [List.take_length]
  have hb4:=fun n=>hnb n fs
  (repeat' ((conv=>whnf);(first|refine zas (by omega) ?_|fail)));conv=>whnf
  exact EndN.det (by simp [below,zac,hb4]) (wk_sl _ _ _)
end
section
def fOk (n:Int) (l:List Fct) (i:Nat):Bool:=decide ((fAt l i).ar=0)&&(decide (0≤(fAt l i).tr)&&decide ((fAt l i).tr<2 ^ n.toNat))
def factsOK (n:Int) (l:List Fct):Bool:=(List.range l.length).all (fOk n l)
theorem map_nm (l:List Fct) (i:Nat):(l.map Fct.nm).getD i eN=(fAt l i).nm:=by
 unfold fAt
 rw [List.getD_eq_getElem?_getD,List.getD_eq_getElem?_getD,List.getElem?_map]
 cases l[i]? <;> rfl
theorem rows_split (n:Int) (l:List Fct):rowsOK n l=(isNmG (l.map Fct.nm)&&factsOK n l):=by
 unfold rowsOK isNmG factsOK
 rw [List.length_map]
 apply Bool.eq_iff_iff.2
 rw [Bool.and_eq_true,List.all_eq_true,List.all_eq_true,List.all_eq_true]
 have key:∀ i,okAt n l i=(nmAt (l.map Fct.nm) i&&fOk n l i):=fun i=>by
  unfold okAt nmAt fOk
  rw [map_nm,map_nm,Bool.and_assoc]
 constructor
 ·intro h
  constructor
  ·intro x hx
   have:=h x hx
   rw [key,Bool.and_eq_true] at this
   exact this.1
  ·intro x hx
   have:=h x hx
   rw [key,Bool.and_eq_true] at this
   exact this.2
 ·rintro ⟨h1,h2⟩ x hx
  rw [key,h1 x hx,h2 x hx]
  rfl
theorem nmE_flat (l:List Fct):l.flatMap nmE=(l.map Fct.nm).flatMap encSG:=by rw [List.flatMap_map];rfl
attribute [local irreducible] VW VCall VO bits
theorem refValid_c (m:Mdl) (hl:m.facts.length≤1000000) (hn:m.Nm) (H:Heap):VDet Tryz.prog 57 [.agg m.cells] H (.bool (validM m)):=by
 have h60:=names_c m hl
 have h61:=rising_c (m.facts.map Fct.nm) (by rw [List.length_map];omega) (fun c hc=>by
  obtain ⟨f,hf,rfl⟩:=List.mem_map.1 hc
  exact hn.facts f hf)
 rw [List.length_map,← nmE_flat] at h61
 have hnb:∀ k,zac k (m.facts.flatMap nmE):=fun k=>zba _ fun _=>⟨trivial,trivial⟩
 unfold validM
 rw [rows_split]
 have hfo:(∀ i,i<m.facts.length→fOk m.size m.facts i=true)→factsOK m.size m.facts=true:=fun h=>List.all_eq_true.2 fun i hi=>h i (List.mem_range.1 hi)
 have hfn:∀ i,i<m.facts.length→fOk m.size m.facts i=false→factsOK m.size m.facts=false:=fun i hi h=>by
  unfold factsOK
  rw [List.all_eq_false]
  exact ⟨i,List.mem_range.2 hi,by simp [h]⟩
 generalize m.facts.flatMap nmE=nc at *
 generalize isNmG (m.facts.map Fct.nm)=b at *
 generalize factsOK m.size m.facts=r at *
 cases hb:headB m with
 | false =>
   have hb:=of_decide_eq_false hb
   rw [Bool.false_and]
   obtain ⟨k,n,rel,lp,fs,us,bs⟩:=m
   simp only at hb hl h60 h61 hfo hfn
   unfold Mdl.cells at h60 ⊢
   simp only at h60 ⊢
   clear hfo hfn
   cases b
   all_goals
    refine zag Tryz.E0 zaa Tryz.func57 (by kernel_rfl) rfl (Nat.le_of_ble_eq_true rfl) rfl fun hcl hbl=>?_
    (repeat' ((conv=>whnf);(first|(refine IfN.id ?_;first|refine IfN.not ?_|refine IfN.tt rfl ?_|refine IfN.ff rfl ?_|refine zan (by omega) ?_|refine za3 (fun _=>?_) (fun _=>?_)|fail)|(refine CallN.id ?_;first|refine CallN.det _ (h60 _) ?_|refine CallN.det _ (h61 _) ?_|fail)|fail)));all_goals (conv=>whnf)
    all_goals first
     | exact eT trivial
     | (exfalso;omega)
 | true =>
   obtain ⟨h1,h2,h3,h4,h5,h6,h7,h8⟩:=of_decide_eq_true hb
   rw [Bool.true_and]
   obtain ⟨k,n,rel,lp,fs,us,bs⟩:=m
   simp only at h1 h2 h3 h4 h5 h6 h7 h8 hl h60 h61 hfo hfn ⊢
   unfold Mdl.cells at h60 ⊢
   simp only at h60 ⊢
   cases b with
   | false =>
     rw [Bool.false_and]
     refine zag Tryz.E0 zaa Tryz.func57 (by kernel_rfl) rfl (Nat.le_of_ble_eq_true rfl) rfl fun hcl hbl=>?_
     (repeat' ((conv=>whnf);(first|(refine IfN.id ?_;first|refine IfN.not ?_|refine IfN.ff rfl ?_|refine zan (by omega) ?_|refine zas (by omega) ?_|fail)|(refine CallN.id ?_;first|refine CallN.det _ (h60 _) ?_|refine CallN.det _ (h61 _) ?_|fail)|fail)));conv=>whnf
     exact eT trivial
   | true =>
     rw [Bool.true_and]
     obtain ⟨S,hS,hSe⟩:=EqN.shl1 (k:=fun y=>y=2 ^ n.toNat) ⟨h2,h3⟩ rfl
     refine zag Tryz.E0 zaa Tryz.func57 (by kernel_rfl) rfl (Nat.le_of_ble_eq_true rfl) rfl fun hcl hbl=>?_
     (repeat' ((conv=>whnf);(first|(refine IfN.id ?_;first|refine IfN.not ?_|refine IfN.tt rfl ?_|refine zan (by omega) ?_|refine zas (by omega) ?_|fail)|(refine CallN.id ?_;first|refine CallN.det _ (h60 _) ?_|refine CallN.det _ (h61 _) ?_|fail)|fail)));conv=>whnf
     refine za9 Tryz.E0 zaa (σ:=Nat) (fun k=>k≤fs.length∧∀ i,i<k→fOk n fs i=true) (fun k=>fs.length-k) (fun k=>[(3,.v (.int .i64 k))]) (fun _=>_) _ 0 rfl hcl [1] rfl ⟨Nat.zero_le _,fun i hi=>absurd hi (Nat.not_lt_zero i)⟩ ⟨⟨_,rfl,Wk.refl _⟩,trivial⟩ rfl (fun _ _=>rfl) ?_
     rintro j ⟨hj,hok⟩
     clear hbl
     rcases Nat.lt_or_ge j fs.length with hlt|hge
     ·have hdef:fOk n fs j=(decide ((fAt fs j).ar=0)&&(decide (0≤(fAt fs j).tr)&&decide ((fAt fs j).tr<2 ^ n.toNat))):=rfl
      obtain ⟨s,a,t,hc⟩:∃ s a t,fAt fs j=⟨s,a,t⟩:=⟨_,_,_,rfl⟩
      have qc:Fct.cells (fs.getD j fct0)=[.str s,.int .i64 a,.int .i64 t]:=by
       show Fct.cells (fAt fs j)=_
       rw [hc];rfl
      rw [hc,← hSe] at hdef
      simp only at hdef
      by_cases ha:a=0∧0≤t∧t<S
      ·have hz1:fOk n fs j=true:=by rw [hdef,decide_eq_true ha.1,decide_eq_true ha.2.1,decide_eq_true ha.2.2];rfl
       (repeat' ((conv=>whnf);(first|(refine IfN.id ?_;first|refine IfN.not ?_|refine zan (by omega) ?_|refine zas (by omega) ?_|fail)|(refine EqN.id ?_;first|refine EqN.mk S hS ?_|(refine zaf _ _ Cst.h Cst.h ?_ ?_;· omega)|fail)|(refine SideN.mk ?_ ?_;· first|kernel_rfl|omega|exact List.cons_ne_nil _ _|fail)|refine SegN.nthE (f:=Fct.cells) fct0 j rfl hlt fct_size qc ?_|refine zah [] ?_|fail)));conv=>whnf
       all_goals (refine ⟨⟨j+1,⟨by omega,fun i hi=>by
        by_cases e:i=j
        ·rw [e];exact hz1
        ·exact hok i (by omega)⟩,by omega,?_,.inl ⟨rfl,rfl⟩,rfl,_,rfl,?_⟩⟩;rotate_left 1;exact .inl rfl;exact ⟨⟨_,rfl,Wk.refl _⟩,trivial⟩)
      ·have hz0:fOk n fs j=false:=by
        rw [hdef]
        by_cases e1:a=0
        ·by_cases e2:0≤t
         ·rw [decide_eq_false (fun q=>ha ⟨e1,e2,q⟩),Bool.and_false,Bool.and_false]
         ·rw [decide_eq_false e2,Bool.false_and,Bool.and_false]
        ·rw [decide_eq_false e1,Bool.false_and]
       rw [hfn j hlt hz0]
       (repeat' ((conv=>whnf);(first|(refine IfN.id ?_;first|refine IfN.not ?_|refine zan (by omega) ?_|refine za3 (fun _=>?_) (fun _=>?_)|fail)|refine EqN.mk S hS ?_|(refine SideN.mk ?_ ?_;· first|kernel_rfl|omega|exact List.cons_ne_nil _ _|fail)|refine SegN.nthE (f:=Fct.cells) fct0 j rfl hlt fct_size qc ?_|refine zah [] ?_|fail)));all_goals (conv=>whnf)
       all_goals first
        | exact eT trivial
        | (exfalso;omega)
     ·rw [hfo fun i hi=>hok i (by omega)]
      (repeat' ((conv=>whnf);(first|refine zas (by omega) ?_|fail)));conv=>whnf
      exact eT trivial
end
end Go.Proofs.YtjflngchbeegcaaGreatDoor.P10.C
namespace Go.Proofs.YtjflngchbeegcaaGreatDoor
open Go.Vsi
section
attribute [local irreducible] VW VCall VO
structure Tr where
 n:Nat
 lp:Nat
 fs:List (UInt8×Nat)
def encT (f:UInt8×Nat):List AV:=[.str (nm f.1),.int .i64 0,.int .i64 f.2]
theorem encT_below (n:Nat) (l:List (UInt8×Nat)):zac n (l.flatMap encT):=zba _ fun x=>by simp [encT,zac,below]
def Tr.cells (t:Tr):List AV:=[.int .u8 5,.int .i64 t.n,.sl none 0 [],.int .i64 t.lp,.sl none t.fs.length (t.fs.flatMap encT),.sl none 0 [],.sl none 0 []]
def Tr.md (t:Tr):Md:=⟨5,t.n,t.lp,t.fs.map fun p=>⟨p.1,0,p.2⟩⟩
theorem Tr.md_cells (t:Tr):t.md.cells=t.cells:=by
 obtain ⟨n,lp,fs⟩:=t
 simp only [Tr.md,Md.cells,Tr.cells,List.length_map,List.flatMap_map]
 rfl
def ft (l:List (UInt8×Nat)) (i:Nat):UInt8×Nat:=l.getD i (0,0)
structure Tr.Ok (t:Tr):Prop where
 n1:1≤t.n
 n5:t.n≤5
 lp:t.lp<t.n
 len:t.fs.length≤26
 cap:∀ i,i<t.fs.length→cap (ft t.fs i).1
 inc:∀ i,i+1<t.fs.length→(ft t.fs i).1.toNat<(ft t.fs (i+1)).1.toNat
 mask:∀ i,i<t.fs.length→(ft t.fs i).2<2 ^ t.n
theorem Tr.Ok.small {t:Tr} (h:t.Ok) (i:Nat) (hi:i<t.fs.length):(ft t.fs i).2<32 :=
 Nat.lt_of_lt_of_le (h.mask i hi) (Nat.pow_le_pow_right (n:=2) (by decide) h.n5)
theorem fa_md (t:Tr) (i:Nat) (hi:i<t.fs.length):fa t.md.fs i=⟨(ft t.fs i).1,0,(ft t.fs i).2⟩:=by
 simp [fa,ft,Tr.md,List.getD,hi]
theorem Tr.Ok.valid {t:Tr} (h:t.Ok):validB t.md=true:=by
 have hl:t.md.fs.length=t.fs.length:=by simp [Tr.md]
 have hr:rowsOK t.n t.md.fs=true:=rows_yes fun i hi=>by
  rw [hl] at hi
  have hm:((ft t.fs i).2:Int)<2 ^ t.n:=by
   have:=h.mask i hi
   rw [show ((2:Int) ^ t.n)=((2 ^ t.n:Nat):Int) by simp]
   omega
  unfold okAt
  rw [fa_md t i hi]
  rcases i with _|i
  ·simp [hm]
  ·have hc:=h.inc i hi
   simp only [Nat.add_sub_cancel,fa_md t i (by omega)]
   simp [hc,hm]
 have h1:=h.n1
 have h2:=h.n5
 have h3:=h.lp
 have e:validB t.md=(decide ((5:Int)=5)&&(decide (1≤(t.n:Int))&&(decide ((t.n:Int)≤5)&&(decide (0≤(t.lp:Int))&&(decide ((t.lp:Int)<t.n)&&rowsOK t.n t.md.fs))))):=rfl
 rw [e,hr,decide_eq_true (rfl:(5:Int)=5),decide_eq_true (show (1:Int)≤t.n by omega),decide_eq_true (show (t.n:Int)≤5 by omega),decide_eq_true (show (0:Int)≤t.lp by omega),decide_eq_true (show (t.lp:Int)<t.n by omega)]
 rfl
theorem valid_t {t:Tr} (h:t.Ok) (H:Heap):VDet Tryz.prog 43 [.agg t.cells] H (.bool true):=by
 have hl:t.md.fs.length=t.fs.length:=by simp [Tr.md]
 have:=valid_c t.md (by have:=h.len;omega) (fun i hi=>by rw [hl] at hi;rw [fa_md t i hi];exact h.cap i hi) H
 rwa [h.valid,t.md_cells] at this
def posN (n lp x:Nat):Nat:=if x<n then x else lp+(x-lp) % (n-lp)
theorem posN_lt {n lp x:Nat} (h:lp<n):posN n lp x<n:=by
 unfold posN
 split
 ·assumption
 ·have:=Nat.mod_lt (x-lp) (show 0<n-lp by omega)
  omega
theorem position_c (t:Tr) (ht:t.Ok) (x:Nat) (hx:x<9223372036854775808) (H:Heap):VDet Tryz.prog 78 [.agg t.cells,.int .i64 x] H (.int .i64 (posN t.n t.lp x)):=by
 obtain ⟨n,lp,fs⟩:=t
 have h1:=ht.n1
 have h2:=ht.n5
 have h3:=ht.lp
 unfold Tr.cells
 simp only at h1 h2 h3 ⊢
 have hm:1≤n-lp→(x-lp) % (n-lp)<5:=fun h=>Nat.lt_of_lt_of_le (Nat.mod_lt _ h) (by omega)
 refine zag Tryz.E0 zaa Tryz.func78 (by kernel_rfl) rfl (Nat.le_of_ble_eq_true rfl) rfl fun hcl hbl=>?_
 (repeat' ((conv=>whnf);(first|refine za3 (fun _=>?_) (fun _=>?_)|(refine EqN.id ?_;first|(refine zaf _ _ Cst.h Cst.h ?_ ?_;· omega)|(refine EqN.subN _ _ Cst.h Cst.h ?_ ?_;· omega)|refine zbq _ _ Cst.h Cst.h ?_|fail)|(refine SideN.mk ?_ ?_;· first|kernel_rfl|omega|fail)|refine zah [] ?_|fail)));all_goals (conv=>whnf)
 ·exact EndN.det trivial (Wk.of_eq (by rw [posN,if_pos (by omega)]))
 ·exact EndN.det trivial (Wk.of_eq (by rw [posN,if_neg (by omega)]))
theorem Position_c (t:Tr) (ht:t.Ok) (x:Nat) (hx:x<9223372036854775808) (H:Heap):VDet Tryz.prog 33 [.agg t.cells,.int .i64 x] H (.tup [.int .i64 (posN t.n t.lp x),.int .i64 0]):=by
 have hv:=fun H=>valid_t ht H
 have hp:=fun H=>position_c t ht x hx H
 obtain ⟨n,lp,fs⟩:=t
 unfold Tr.cells at hv hp ⊢
 simp only at hv hp ⊢
 refine zag Tryz.E0 zaa Tryz.func33 (by kernel_rfl) rfl (Nat.le_of_ble_eq_true rfl) rfl fun hcl hbl=>?_
 (repeat' ((conv=>whnf);(first|(refine IfN.id ?_;first|refine IfN.not ?_|refine IfN.tt rfl ?_|refine IfN.ff rfl ?_|fail)|(refine CallN.id ?_;first|refine CallN.det _ (hv _) ?_|refine CallN.det _ (hp _) ?_|fail)|fail)));conv=>whnf
 exact eT (by simp [below,zac])
end
end Go.Proofs.YtjflngchbeegcaaGreatDoor
namespace Go.Proofs.YtjflngchbeegcaaGreatDoor.P10.C
open Go.Vsi
section
structure Tr where
 n:Nat
 lp:Nat
 fs:List (ByteArray×Nat)
def encT (f:ByteArray×Nat):List AV:=[.str f.1,.int .i64 0,.int .i64 f.2]
theorem encT_size (f:ByteArray×Nat):(encT f).length=3:=rfl
theorem encT_below (n:Nat) (l:List (ByteArray×Nat)):zac n (l.flatMap encT):=zba _ fun x=>by simp [encT,zac,below]
def Tr.cells (t:Tr):List AV:=[.int .u8 5,.int .i64 t.n,.sl none 0 [],.int .i64 t.lp,.sl none t.fs.length (t.fs.flatMap encT),.sl none 0 [],.sl none 0 []]
def p0:ByteArray×Nat:=(eN,0)
def ft (l:List (ByteArray×Nat)) (i:Nat):ByteArray×Nat:=l.getD i p0
structure Tr.Ok (t:Tr):Prop where
 n1:1≤t.n
 n5:t.n≤5
 lp:t.lp<t.n
 len:t.fs.length≤1000000
 nms:isNmG (t.fs.map (·.1))=true
 sz:∀ f∈t.fs,f.1.size≤9223372036854775807
 mask:∀ i,i<t.fs.length→(ft t.fs i).2<2 ^ t.n
theorem Tr.Ok.small {t:Tr} (h:t.Ok) (i:Nat) (hi:i<t.fs.length):(ft t.fs i).2<32 :=
 Nat.lt_of_lt_of_le (h.mask i hi) (Nat.pow_le_pow_right (n:=2) (by decide) h.n5)
def Tr.mdl (t:Tr):Mdl:=⟨5,t.n,[],t.lp,t.fs.map fun p=>⟨p.1,0,p.2⟩,[],[]⟩
theorem Tr.mdl_cells (t:Tr):t.mdl.cells=t.cells:=by
 obtain ⟨n,lp,fs⟩:=t
 simp only [Tr.mdl,Mdl.cells,Tr.cells,List.length_map,List.flatMap_map]
 rfl
theorem fAt_mdl (t:Tr) (i:Nat) (hi:i<t.fs.length):fAt t.mdl.facts i=⟨(ft t.fs i).1,0,(ft t.fs i).2⟩:=by
 simp [fAt,ft,Tr.mdl,List.getD,hi]
theorem pow_int (n:Nat):(2:Int) ^ n=((2 ^ n:Nat):Int):=by simp
theorem Tr.Ok.valid {t:Tr} (h:t.Ok):validM t.mdl=true:=by
 have h1:=h.n1
 have h2:=h.n5
 have h3:=h.lp
 have hh:headB t.mdl=true:=decide_eq_true ⟨rfl,by show (1:Int)≤t.n;omega,by show (t.n:Int)≤5;omega,by show (0:Int)≤t.lp;omega,by show (t.lp:Int)<t.n;omega,rfl,rfl,rfl⟩
 have hn:t.mdl.facts.map Fct.nm=t.fs.map (·.1):=by simp [Tr.mdl,List.map_map,Function.comp_def]
 have hl:t.mdl.facts.length=t.fs.length:=by simp [Tr.mdl]
 have hf:factsOK t.mdl.size t.mdl.facts=true:=List.all_eq_true.2 fun i hi=>by
  have hi:=List.mem_range.1 hi
  rw [hl] at hi
  unfold fOk
  rw [fAt_mdl t i hi]
  have hm:((ft t.fs i).2:Int)<2 ^ (t.mdl.size).toNat:=by
   show _<(2:Int) ^ ((t.n:Int)).toNat
   rw [Int.toNat_natCast,pow_int]
   have:=h.mask i hi
   omega
  simp [hm]
 unfold validM
 rw [hh,rows_split,hn,h.nms,hf]
 rfl
theorem tr_of {m:Mdl} (hv:validM m=true) (hl:m.facts.length≤1000000) (hn:m.Nm):∃ t:Tr,t.Ok∧m.cells=t.cells∧t.fs.length=m.facts.length:=by
 unfold validM at hv
 rw [Bool.and_eq_true,rows_split,Bool.and_eq_true] at hv
 obtain ⟨h1,h2,h3⟩:=hv
 obtain ⟨q1,q2,q3,q4,q5,q6,q7,q8⟩:=of_decide_eq_true h1
 obtain ⟨k,n,rel,lp,fs,us,bs⟩:=m
 simp only at q1 q2 q3 q4 q5 q6 q7 q8 h2 h3 hl
 have hns:=hn.facts
 simp only at hns
 obtain rfl:=List.length_eq_zero_iff.1 q6
 obtain rfl:=List.length_eq_zero_iff.1 q7
 obtain rfl:=List.length_eq_zero_iff.1 q8
 subst q1
 obtain ⟨N,rfl⟩:∃ N:Nat,n=N:=⟨n.toNat,by omega⟩
 obtain ⟨L,rfl⟩:∃ L:Nat,lp=L:=⟨lp.toNat,by omega⟩
 have hfo:∀ i,i<fs.length→(fAt fs i).ar=0∧0≤(fAt fs i).tr∧(fAt fs i).tr<2 ^ N:=fun i hi=>by
  have:=List.all_eq_true.1 h3 i (List.mem_range.2 hi)
  unfold fOk at this
  simp only [Bool.and_eq_true,decide_eq_true_eq,Int.toNat_natCast] at this
  exact this
 have hmem:∀ f∈fs,f.ar=0∧0≤f.tr∧f.tr<2 ^ N:=fun f hf=>by
  obtain ⟨i,hi,rfl⟩:=List.getElem_of_mem hf
  have:=hfo i hi
  rwa [show fAt fs i=fs[i] by simp [fAt,List.getD_eq_getElem?_getD,hi]] at this
 have hfc:∀ l:List Fct,(∀ f∈l,f.ar=0∧0≤f.tr∧f.tr<2 ^ N)→l.flatMap Fct.cells=(l.map fun f=>(f.nm,f.tr.toNat)).flatMap encT:=by
  intro l
  induction l with
  | nil=>intro _;rfl
  | cons x l ih =>
    intro h
    have hx:=h x (List.mem_cons_self ..)
    rw [List.flatMap_cons,List.map_cons,List.flatMap_cons,ih fun f hf=>h f (List.mem_cons_of_mem _ hf)]
    congr 1
    unfold Fct.cells encT
    rw [hx.1,Int.toNat_of_nonneg hx.2.1]
 refine ⟨⟨N,L,fs.map fun f=>(f.nm,f.tr.toNat)⟩,⟨by simp only;omega,by simp only;omega,by simp only;omega,by simpa using hl,?_,?_,?_⟩,?_,by simp⟩
 ·simp only [List.map_map,Function.comp_def]
  exact h2
 ·intro f hf
  simp only [List.mem_map] at hf
  obtain ⟨x,hx,rfl⟩:=hf
  exact hns x hx
 ·intro i hi
  have hi':i<fs.length:=by simpa using hi
  have hx:=hmem fs[i] (List.getElem_mem hi')
  have e:ft (fs.map fun f=>(f.nm,f.tr.toNat)) i=(fs[i].nm,fs[i].tr.toNat):=by simp [ft,List.getD_eq_getElem?_getD,hi']
  simp only [e]
  have:=hx.2.2
  rw [pow_int] at this
  omega
 ·unfold Mdl.cells Tr.cells
  simp only [List.length_map,List.length_nil,List.flatMap_nil]
  rw [hfc fs hmem]
attribute [local irreducible] VW VCall VO bits
theorem position_c (t:Tr) (ht:t.Ok) (x:Nat) (hx:x<9223372036854775808) (H:Heap):VDet Tryz.prog 78 [.agg t.cells,.int .i64 x] H (.int .i64 (posN t.n t.lp x)):=by
 obtain ⟨n,lp,fs⟩:=t
 have h1:=ht.n1
 have h2:=ht.n5
 have h3:=ht.lp
 unfold Tr.cells
 simp only at h1 h2 h3 ⊢
 have hm:1≤n-lp→(x-lp) % (n-lp)<5:=fun h=>Nat.lt_of_lt_of_le (Nat.mod_lt _ h) (by omega)
 refine zag Tryz.E0 zaa Tryz.func78 (by kernel_rfl) rfl (Nat.le_of_ble_eq_true rfl) rfl fun hcl hbl=>?_
 (repeat' ((conv=>whnf);(first|refine za3 (fun _=>?_) (fun _=>?_)|(refine EqN.id ?_;first|(refine zaf _ _ Cst.h Cst.h ?_ ?_;· omega)|(refine EqN.subN _ _ Cst.h Cst.h ?_ ?_;· omega)|refine zbq _ _ Cst.h Cst.h ?_|fail)|(refine SideN.mk ?_ ?_;· first|kernel_rfl|omega|fail)|refine zah [] ?_|fail)));all_goals (conv=>whnf)
 ·exact EndN.det trivial (Wk.of_eq (by rw [posN,if_pos (by omega)]))
 ·exact EndN.det trivial (Wk.of_eq (by rw [posN,if_neg (by omega)]))
theorem refPosition_c (t:Tr) (ht:t.Ok) (x:Nat) (hx:x<9223372036854775808) (H:Heap):VDet Tryz.prog 59 [.agg t.cells,.int .i64 x] H (.int .i64 (posN t.n t.lp x)):=by
 obtain ⟨n,lp,fs⟩:=t
 have h1:=ht.n1
 have h2:=ht.n5
 have h3:=ht.lp
 unfold Tr.cells
 simp only at h1 h2 h3 ⊢
 have hm:1≤n-lp→(x-lp) % (n-lp)<5:=fun h=>Nat.lt_of_lt_of_le (Nat.mod_lt _ h) (by omega)
 refine zag Tryz.E0 zaa Tryz.func59 (by kernel_rfl) rfl (Nat.le_of_ble_eq_true rfl) rfl fun hcl hbl=>?_
 (repeat' ((conv=>whnf);(first|refine za3 (fun _=>?_) (fun _=>?_)|(refine EqN.id ?_;first|(refine zaf _ _ Cst.h Cst.h ?_ ?_;· omega)|(refine EqN.subN _ _ Cst.h Cst.h ?_ ?_;· omega)|refine zbq _ _ Cst.h Cst.h ?_|fail)|(refine SideN.mk ?_ ?_;· first|kernel_rfl|omega|fail)|refine zah [] ?_|fail)));all_goals (conv=>whnf)
 ·exact EndN.det trivial (Wk.of_eq (by rw [posN,if_pos (by omega)]))
 ·exact EndN.det trivial (Wk.of_eq (by rw [posN,if_neg (by omega)]))
def bitAt (t:Tr) (i x:Nat):Nat:=((ft t.fs i).2 >>> posN t.n t.lp x) &&& 1
def rowS (K:Nat) (a b:Tr) (i:Nat):Bool:=decide ((ft a.fs i).1=(ft b.fs i).1)&&(List.range K).all fun x=>bitAt a i x==bitAt b i x
def sameB (K:Nat) (a b:Tr):Bool:=(a.fs.length==b.fs.length)&&(List.range a.fs.length).all (rowS K a b)
theorem all_no {p:Nat→Bool} {n k:Nat} (hk:k<n) (h:p k=false):(List.range n).all p=false:=by
 rw [List.all_eq_false]
 exact ⟨k,List.mem_range.2 hk,by simp [h]⟩
theorem all_yes {p:Nat→Bool} {n:Nat} (h:∀ i,i<n→p i=true):(List.range n).all p=true:=by
 rw [List.all_eq_true]
 exact fun x hx=>h x (List.mem_range.1 hx)
theorem same_no {K:Nat} {a b:Tr} {k:Nat} (hk:k<a.fs.length) (h:rowS K a b k=false):sameB K a b=false:=by
 unfold sameB
 rw [all_no hk h,Bool.and_false]
theorem same_c (a b:Tr) (ha:a.Ok) (hb:b.Ok) (H:Heap):VDet Tryz.prog 44 [.agg a.cells,.agg b.cells] H (.bool (sameB 25 a b)):=by
 have hpa:=fun x hx H=>position_c a ha x hx H
 have hpb:=fun x hx H=>position_c b hb x hx H
 have hla:=ha.len
 have hlb:=hb.len
 have hsa:=fun i hi=>ha.small i hi
 have hsb:=fun i hi=>hb.small i hi
 have hqa:=fun x=>Nat.lt_of_lt_of_le (posN_lt (x:=x) ha.lp) ha.n5
 have hqb:=fun x=>Nat.lt_of_lt_of_le (posN_lt (x:=x) hb.lp) hb.n5
 have hno:=fun k=>@same_no 25 a b k
 have hyes:∀ (e:a.fs.length=b.fs.length),(∀ i,i<a.fs.length→rowS 25 a b i=true)→sameB 25 a b=true:=fun e h=>by
  unfold sameB;rw [all_yes h,e];simp
 have hne:a.fs.length≠b.fs.length→sameB 25 a b=false:=fun e=>by unfold sameB;simp [e]
 have hrn:∀ k,(ft a.fs k).1≠(ft b.fs k).1→rowS 25 a b k=false:=fun k h=>by unfold rowS;rw [decide_eq_false h];rfl
 have hrb:∀ k x,x<25→bitAt a k x≠bitAt b k x→rowS 25 a b k=false:=fun k x hx h=>by
  unfold rowS;rw [all_no hx (by simpa using h),Bool.and_false]
 have hry:∀ k,(ft a.fs k).1=(ft b.fs k).1→(∀ x,x<25→bitAt a k x=bitAt b k x)→rowS 25 a b k=true:=fun k h h2=>by
  unfold rowS;rw [decide_eq_true h,all_yes fun x hx=>by simpa using h2 x hx];rfl
 have eba:∀ k x,bitAt a k x=((ft a.fs k).2 >>> posN a.n a.lp x) &&& 1:=fun _ _=>rfl
 have ebb:∀ k x,bitAt b k x=((ft b.fs k).2 >>> posN b.n b.lp x) &&& 1:=fun _ _=>rfl
 generalize sameB 25 a b=R at hno hyes hne ⊢
 generalize rowS 25 a b=rS at hno hyes hrn hrb hry
 generalize bitAt a=ba at hrb hry eba
 generalize bitAt b=bb at hrb hry ebb
 obtain ⟨na,lpa,fa⟩:=a
 obtain ⟨nb,lpb,fb⟩:=b
 unfold Tr.cells at hpa hpb ⊢
 simp only at hpa hpb hla hlb hsa hsb hqa hqb hno hyes hne hrn hrb hry eba ebb ⊢
 refine zag Tryz.E0 zaa Tryz.func44 (by kernel_rfl) rfl (Nat.le_of_ble_eq_true rfl) rfl fun hcl hbl=>?_
 (repeat' ((conv=>whnf);(first|(refine IfN.id ?_;first|refine IfN.not ?_|refine za3 (fun _=>?_) (fun _=>?_)|fail)|fail)));all_goals (conv=>whnf)
 all_goals try (refine EndN.det trivial (Wk.of_eq ?_);rw [hne (by omega)])
 refine za9 Tryz.E0 zaa (σ:=Nat) (fun k=>k≤fa.length∧∀ i,i<k→rS i=true) (fun k=>fa.length-k) (fun k=>[(18,.v (.int .i64 k))]) (fun _=>_) _ 0 rfl hcl [2,3,16,17] rfl ⟨Nat.zero_le _,fun i hi=>absurd hi (Nat.not_lt_zero i)⟩ ⟨⟨_,rfl,Wk.refl _⟩,trivial⟩ rfl (fun _ _=>rfl) ?_
 rintro k ⟨hk,hok⟩
 clear hbl
 have hfk:∃ s m,fa.getD k p0=(s,m):=⟨_,_,rfl⟩
 have hgk:∃ s m,fb.getD k p0=(s,m):=⟨_,_,rfl⟩
 obtain ⟨s1,m1,e1⟩:=hfk
 obtain ⟨s2,m2,e2⟩:=hgk
 have qa:encT (fa.getD k p0)=[.str s1,.int .i64 0,.int .i64 m1]:=by rw [e1];rfl
 have qb:encT (fb.getD k p0)=[.str s2,.int .i64 0,.int .i64 m2]:=by rw [e2];rfl
 have hrn:=hrn k
 have hry:=hry k
 unfold ft at hrn hry hsa hsb eba ebb
 rw [e1,e2] at hrn hry
 have eba:∀ x,ba k x=(m1 >>> posN na lpa x) &&& 1:=fun x=>by rw [eba,e1]
 have ebb:∀ x,bb k x=(m2 >>> posN nb lpb x) &&& 1:=fun x=>by rw [ebb,e2]
 rcases Nat.lt_or_ge k fa.length with hlt|hge
 ·have h1:=hsa k (by omega)
  have h2:=hsb k (by omega)
  rw [e1] at h1
  rw [e2] at h2
  simp only at h1 h2
  by_cases hn:s1=s2
  ·subst hn
   (repeat' ((conv=>whnf);(first|(refine IfN.id ?_;first|refine IfN.tt (beq_self_eq_true _) ?_|refine IfN.not ?_|refine zan (by omega) ?_|fail)|(refine SideN.mk ?_ ?_;· first|kernel_rfl|omega|exact List.cons_ne_nil _ _|fail)|refine SegN.nthE p0 k rfl (by omega) encT_size qa ?_|refine SegN.nthE p0 k rfl (by omega) encT_size qb ?_|refine zah [] ?_|fail)));conv=>whnf
   refine za9 Tryz.E0 zaa (σ:=Nat) (fun x=>x≤25∧∀ y,y<x→ba k y=bb k y) (fun x=>25-x) (fun x=>[(32,.v (.int .i64 x))]) (fun _=>_) _ 0 rfl hcl [2,3,5,6,16,17,18] rfl ⟨Nat.zero_le _,fun i hi=>absurd hi (Nat.not_lt_zero i)⟩ ⟨⟨_,rfl,Wk.refl _⟩,trivial⟩ rfl (fun _ _=>rfl) ?_
   rintro x ⟨hx,hsame⟩
   have h3:=hqa x
   have h4:=hqb x
   (repeat' ((conv=>whnf);(first|(refine IfN.id ?_;first|refine IfN.not ?_|refine za3 (fun _=>?_) (fun _=>?_)|fail)|(refine EqN.id ?_;first|(refine EqN.and _ _ Cst.h Cst.h ?_ ?_;· (repeat' (first|omega|refine And.intro ?_ ?_|exact zad (by omega)|exact zap (by omega)|refine zbb ?_ ?_|refine zao ?_ ?_|refine zau ?_ ?_|refine zal ?_ ?_|refine zav ?_|refine zaw ?_ ?_|refine zax ?_|refine zad ?_|fail)))|(refine EqN.shrN _ _ Cst.h Cst.h rfl ?_ ?_;· (repeat' (first|omega|refine And.intro ?_ ?_|exact zad (by omega)|exact zap (by omega)|refine zbb ?_ ?_|refine zao ?_ ?_|refine zau ?_ ?_|refine zal ?_ ?_|refine zav ?_|refine zaw ?_ ?_|refine zax ?_|refine zad ?_|fail)))|(refine zaf _ _ Cst.h Cst.h ?_ ?_;· omega)|fail)|(refine SideN.mk ?_ ?_;· first|kernel_rfl|omega|exact List.cons_ne_nil _ _|fail)|(refine CallD.id ?_;first|refine CallD.det _ (fun _ hq X=>hpa x (by omega) _) ?_|refine CallD.det _ (fun _ hq X=>hpb x (by omega) _) ?_|fail)|refine SegN.nthE p0 k rfl (by omega) encT_size qb ?_|refine zah [] ?_|fail)));all_goals (conv=>whnf)
   ·rename_i he
    have hxy:ba k x=bb k x:=by rw [eba,ebb];exact Int.natCast_inj.1 he
    (refine ⟨⟨x+1,⟨by omega,fun y hy=>by
     rcases Nat.lt_or_ge y x with h|h
     ·exact hsame y h
     ·have:y=x:=by omega
      exact this▸hxy⟩,by omega,?_,.inl ⟨rfl,rfl⟩,rfl,_,rfl,?_⟩⟩;rotate_left 1;exact .inl rfl;exact ⟨⟨_,rfl,Wk.refl _⟩,trivial⟩)
   ·rename_i he
    refine EndN.det trivial (Wk.of_eq ?_)
    rw [hno k (by omega) (hrb k x (by omega) fun h=>he (by rw [eba,ebb] at h;rw [h]))]
   ·have hk1:=hry rfl fun y hy=>hsame y (by omega)
    (refine ⟨⟨k+1,⟨by omega,fun i hi=>by
     rcases Nat.lt_or_ge i k with h|h
     ·exact hok i h
     ·have:i=k:=by omega
      exact this▸hk1⟩,by omega,?_,.inr ?_,rfl,_,rfl,?_⟩⟩;rotate_left 2;exact .inr ⟨by simp [zbe,below,zac,tr,encT_below],by simp [belowH,Blk.below,zac,below,encT_below]⟩;all_goals (repeat' (first|exact trivial|refine ⟨⟨_,rfl,?_⟩,?_⟩|fail));all_goals exact Wk.refl _)
  ·have hne2:(s1.toList==s2.toList)=false:=by rw [ba_beq,decide_eq_false hn]
   (repeat' ((conv=>whnf);(first|(refine IfN.id ?_;first|refine IfN.ff hne2 ?_|refine IfN.not ?_|refine zan (by omega) ?_|fail)|(refine SideN.mk ?_ ?_;· first|kernel_rfl|omega|exact List.cons_ne_nil _ _|fail)|refine SegN.nthE p0 k rfl (by omega) encT_size qa ?_|refine SegN.nthE p0 k rfl (by omega) encT_size qb ?_|refine zah [] ?_|fail)));conv=>whnf
   refine EndN.det trivial (Wk.of_eq ?_)
   rw [hno k (by omega) (hrn hn)]
 ·(repeat' ((conv=>whnf);(first|refine zas (by omega) ?_|fail)));conv=>whnf
  refine EndN.det trivial (Wk.of_eq ?_)
  rw [hyes (by omega) (fun i hi=>hok i (by omega))]
theorem refSame_c (a b:Tr) (ha:a.Ok) (hb:b.Ok) (H:Heap):VDet Tryz.prog 58 [.agg a.cells,.agg b.cells] H (.bool (sameB 30 a b)):=by
 have hpa:=fun x hx H=>refPosition_c a ha x hx H
 have hpb:=fun x hx H=>refPosition_c b hb x hx H
 have hla:=ha.len
 have hlb:=hb.len
 have hsa:=fun i hi=>ha.small i hi
 have hsb:=fun i hi=>hb.small i hi
 have hqa:=fun x=>Nat.lt_of_lt_of_le (posN_lt (x:=x) ha.lp) ha.n5
 have hqb:=fun x=>Nat.lt_of_lt_of_le (posN_lt (x:=x) hb.lp) hb.n5
 have hno:=fun k=>@same_no 30 a b k
 have hyes:∀ (e:a.fs.length=b.fs.length),(∀ i,i<a.fs.length→rowS 30 a b i=true)→sameB 30 a b=true:=fun e h=>by
  unfold sameB;rw [all_yes h,e];simp
 have hne:a.fs.length≠b.fs.length→sameB 30 a b=false:=fun e=>by unfold sameB;simp [e]
 have hrn:∀ k,(ft a.fs k).1≠(ft b.fs k).1→rowS 30 a b k=false:=fun k h=>by unfold rowS;rw [decide_eq_false h];rfl
 have hrb:∀ k x,x<30→bitAt a k x≠bitAt b k x→rowS 30 a b k=false:=fun k x hx h=>by
  unfold rowS;rw [all_no hx (by simpa using h),Bool.and_false]
 have hry:∀ k,(ft a.fs k).1=(ft b.fs k).1→(∀ x,x<30→bitAt a k x=bitAt b k x)→rowS 30 a b k=true:=fun k h h2=>by
  unfold rowS;rw [decide_eq_true h,all_yes fun x hx=>by simpa using h2 x hx];rfl
 have eba:∀ k x,bitAt a k x=((ft a.fs k).2 >>> posN a.n a.lp x) % 2:=fun _ _=>Nat.and_one_is_mod _
 have ebb:∀ k x,bitAt b k x=((ft b.fs k).2 >>> posN b.n b.lp x) % 2:=fun _ _=>Nat.and_one_is_mod _
 generalize sameB 30 a b=R at hno hyes hne ⊢
 generalize rowS 30 a b=rS at hno hyes hrn hrb hry
 generalize bitAt a=ba at hrb hry eba
 generalize bitAt b=bb at hrb hry ebb
 obtain ⟨na,lpa,fa⟩:=a
 obtain ⟨nb,lpb,fb⟩:=b
 unfold Tr.cells at hpa hpb ⊢
 simp only at hpa hpb hla hlb hsa hsb hqa hqb hno hyes hne hrn hrb hry eba ebb ⊢
 refine zag Tryz.E0 zaa Tryz.func58 (by kernel_rfl) rfl (Nat.le_of_ble_eq_true rfl) rfl fun hcl hbl=>?_
 (repeat' ((conv=>whnf);(first|(refine IfN.id ?_;first|refine IfN.not ?_|refine za3 (fun _=>?_) (fun _=>?_)|fail)|fail)));all_goals (conv=>whnf)
 all_goals try (refine EndN.det trivial (Wk.of_eq ?_);rw [hne (by omega)])
 refine za9 Tryz.E0 zaa (σ:=Nat) (fun k=>k≤fa.length∧∀ i,i<k→rS i=true) (fun k=>fa.length-k) (fun k=>[(5,.v (.int .i64 k))]) (fun _=>_) _ 0 rfl hcl [2,3] rfl ⟨Nat.zero_le _,fun i hi=>absurd hi (Nat.not_lt_zero i)⟩ ⟨⟨_,rfl,Wk.refl _⟩,trivial⟩ rfl (fun _ _=>rfl) ?_
 rintro k ⟨hk,hok⟩
 clear hbl
 have hfk:∃ s m,fa.getD k p0=(s,m):=⟨_,_,rfl⟩
 have hgk:∃ s m,fb.getD k p0=(s,m):=⟨_,_,rfl⟩
 obtain ⟨s1,m1,e1⟩:=hfk
 obtain ⟨s2,m2,e2⟩:=hgk
 have qa:encT (fa.getD k p0)=[.str s1,.int .i64 0,.int .i64 m1]:=by rw [e1];rfl
 have qb:encT (fb.getD k p0)=[.str s2,.int .i64 0,.int .i64 m2]:=by rw [e2];rfl
 have hrn:=hrn k
 have hry:=hry k
 unfold ft at hrn hry hsa hsb eba ebb
 rw [e1,e2] at hrn hry
 have eba:∀ x,ba k x=(m1 >>> posN na lpa x) % 2:=fun x=>by rw [eba,e1]
 have ebb:∀ x,bb k x=(m2 >>> posN nb lpb x) % 2:=fun x=>by rw [ebb,e2]
 rcases Nat.lt_or_ge k fa.length with hlt|hge
 ·have h1:=hsa k (by omega)
  have h2:=hsb k (by omega)
  rw [e1] at h1
  rw [e2] at h2
  simp only at h1 h2
  by_cases hn:s1=s2
  ·subst hn
   (repeat' ((conv=>whnf);(first|(refine IfN.id ?_;first|refine IfN.tt (beq_self_eq_true _) ?_|refine IfN.not ?_|refine zan (by omega) ?_|fail)|(refine SideN.mk ?_ ?_;· first|kernel_rfl|omega|exact List.cons_ne_nil _ _|fail)|refine SegN.nthE p0 k rfl (by omega) encT_size qa ?_|refine SegN.nthE p0 k rfl (by omega) encT_size qb ?_|refine zah [] ?_|fail)));conv=>whnf
   refine za9 Tryz.E0 zaa (σ:=Nat) (fun x=>x≤30∧∀ y,y<x→ba k y=bb k y) (fun x=>30-x) (fun x=>[(6,.v (.int .i64 x))]) (fun _=>_) _ 0 rfl hcl [2,3,5] rfl ⟨Nat.zero_le _,fun i hi=>absurd hi (Nat.not_lt_zero i)⟩ ⟨⟨_,rfl,Wk.refl _⟩,trivial⟩ rfl (fun _ _=>rfl) ?_
   rintro x ⟨hx,hsame⟩
   have h3:=hqa x
   have h4:=hqb x
   (repeat' ((conv=>whnf);(first|(refine IfN.id ?_;first|refine IfN.not ?_|refine za3 (fun _=>?_) (fun _=>?_)|fail)|(refine EqN.id ?_;first|refine zbq _ 2 rfl rfl ?_|(refine EqN.shrN _ _ Cst.h Cst.h rfl ?_ ?_;· (repeat' (first|omega|refine And.intro ?_ ?_|exact zad (by omega)|exact zap (by omega)|refine zbb ?_ ?_|refine zao ?_ ?_|refine zau ?_ ?_|refine zal ?_ ?_|refine zav ?_|refine zaw ?_ ?_|refine zax ?_|refine zad ?_|fail)))|(refine zaf _ _ Cst.h Cst.h ?_ ?_;· omega)|fail)|(refine SideN.mk ?_ ?_;· first|kernel_rfl|omega|exact List.cons_ne_nil _ _|fail)|(refine CallD.id ?_;first|refine CallD.det _ (fun _ hq X=>hpa x (by omega) _) ?_|refine CallD.det _ (fun _ hq X=>hpb x (by omega) _) ?_|fail)|refine SegN.nthE p0 k rfl (by omega) encT_size qa ?_|refine SegN.nthE p0 k rfl (by omega) encT_size qb ?_|refine zah [] ?_|fail)));all_goals (conv=>whnf)
   ·rename_i he
    have hxy:ba k x=bb k x:=by rw [eba,ebb];exact Int.natCast_inj.1 he
    (refine ⟨⟨x+1,⟨by omega,fun y hy=>by
     rcases Nat.lt_or_ge y x with h|h
     ·exact hsame y h
     ·have:y=x:=by omega
      exact this▸hxy⟩,by omega,?_,.inl ⟨rfl,rfl⟩,rfl,_,rfl,?_⟩⟩;rotate_left 1;exact .inl rfl;exact ⟨⟨_,rfl,Wk.refl _⟩,trivial⟩)
   ·rename_i he
    refine EndN.det trivial (Wk.of_eq ?_)
    rw [hno k (by omega) (hrb k x (by omega) fun h=>he (by rw [eba,ebb] at h;rw [h]))]
   ·have hk1:=hry rfl fun y hy=>hsame y (by omega)
    (refine ⟨⟨k+1,⟨by omega,fun i hi=>by
     rcases Nat.lt_or_ge i k with h|h
     ·exact hok i h
     ·have:i=k:=by omega
      exact this▸hk1⟩,by omega,?_,.inr ?_,rfl,_,rfl,?_⟩⟩;rotate_left 2;exact .inl rfl;all_goals (repeat' (first|exact trivial|refine ⟨⟨_,rfl,?_⟩,?_⟩|fail));all_goals exact Wk.refl _)
  ·have hne2:(s1.toList==s2.toList)=false:=by rw [ba_beq,decide_eq_false hn]
   (repeat' ((conv=>whnf);(first|(refine IfN.id ?_;first|refine IfN.ff hne2 ?_|refine IfN.not ?_|refine zan (by omega) ?_|fail)|(refine SideN.mk ?_ ?_;· first|kernel_rfl|omega|exact List.cons_ne_nil _ _|fail)|refine SegN.nthE p0 k rfl (by omega) encT_size qa ?_|refine SegN.nthE p0 k rfl (by omega) encT_size qb ?_|refine zah [] ?_|fail)));conv=>whnf
   refine EndN.det trivial (Wk.of_eq ?_)
   rw [hno k (by omega) (hrn hn)]
 ·(repeat' ((conv=>whnf);(first|refine zas (by omega) ?_|fail)));conv=>whnf
  refine EndN.det trivial (Wk.of_eq ?_)
  rw [hyes (by omega) (fun i hi=>hok i (by omega))]
end
section
def chkS:Bool:=(List.range 6).all fun na=>(List.range na).all fun la=>(List.range 6).all fun nb=>(List.range nb).all fun lb=>(List.range 5).all fun t=>(List.range 25).any fun y=>posN na la (25+t)==posN na la y&&posN nb lb (25+t)==posN nb lb y
theorem chkS_ok:chkS=true:=by decide +kernel
theorem pos_back (na la nb lb:Nat) (h1:na≤5) (h2:la<na) (h3:nb≤5) (h4:lb<nb) (t:Nat) (h5:t<30):∃ y,y<25∧posN na la t=posN na la y∧posN nb lb t=posN nb lb y:=by
 rcases Nat.lt_or_ge t 25 with h|h
 ·exact ⟨t,h,rfl,rfl⟩
 ·have h0:=chkS_ok
  unfold chkS at h0
  rw [List.all_eq_true] at h0
  have h0:=h0 na (List.mem_range.2 (by omega))
  rw [List.all_eq_true] at h0
  have h0:=h0 la (List.mem_range.2 h2)
  rw [List.all_eq_true] at h0
  have h0:=h0 nb (List.mem_range.2 (by omega))
  rw [List.all_eq_true] at h0
  have h0:=h0 lb (List.mem_range.2 h4)
  rw [List.all_eq_true] at h0
  have h0:=h0 (t-25) (List.mem_range.2 (by omega))
  rw [List.any_eq_true] at h0
  obtain ⟨y,hy,h0⟩:=h0
  rw [show 25+(t-25)=t by omega,Bool.and_eq_true,beq_iff_eq,beq_iff_eq] at h0
  exact ⟨y,List.mem_range.1 hy,h0.1,h0.2⟩
theorem same_30 {a b:Tr} (ha:a.Ok) (hb:b.Ok):sameB 30 a b=sameB 25 a b:=by
 have key:∀ i,rowS 30 a b i=rowS 25 a b i:=fun i=>by
  unfold rowS
  congr 1
  apply Bool.eq_iff_iff.2
  rw [List.all_eq_true,List.all_eq_true]
  constructor
  ·intro h x hx
   exact h x (List.mem_range.2 (by have:=List.mem_range.1 hx;omega))
  ·intro h x hx
   obtain ⟨y,hy,e1,e2⟩:=pos_back a.n a.lp b.n b.lp ha.n5 ha.lp hb.n5 hb.lp x (List.mem_range.1 hx)
   have:=h y (List.mem_range.2 hy)
   unfold bitAt at this ⊢
   rw [e1,e2]
   exact this
 unfold sameB
 congr 1
 exact congrArg _ (funext key)
def cntN (k n:Nat):Nat:=if 14<n * k then 0 else if 16384<n <<< (n * k) then 0 else n <<< (n * k)
theorem cntN_le (k n:Nat):cntN k n≤16384:=by
 unfold cntN
 split
 ·omega
 ·split <;> omega
def pw (n k:Nat):Nat:=n * 2 ^ (n * k)
theorem pw_succ (n k:Nat):pw n (k+1)=pw n k * 2 ^ n:=by
 unfold pw
 rw [Nat.mul_add,Nat.mul_one,Nat.pow_add,Nat.mul_assoc]
theorem pw_mono {n j k:Nat} (h:j≤k):pw n j≤pw n k:=Nat.mul_le_mul_left _ (Nat.pow_le_pow_right (by decide) (Nat.mul_le_mul_left _ h))
theorem cnt_pw (k n:Nat) (h1:1≤n):cntN k n=if 16384<pw n k then 0 else pw n k:=by
 unfold cntN
 rw [Nat.shiftLeft_eq]
 show (if 14<n * k then 0 else if 16384<pw n k then 0 else pw n k)=_
 split
 ·rename_i h
  have:2 ^ 15≤2 ^ (n * k):=Nat.pow_le_pow_right (by decide) h
  have h2:2 ^ (n * k)≤pw n k:=Nat.le_mul_of_pos_left _ h1
  rw [if_pos (by omega)]
 ·rfl
def cntR (b:Bool) (k n:Nat):AV:=cond b (.tup [.int .i64 (cntN k n:Nat),.int .i64 (if cntN k n=0 then 5 else 0)]) (.tup [.int .i64 0,.int .i64 2])
attribute [local irreducible] VW VCall VO bits
theorem count_c (k n:Nat) (hk:k≤1000) (hn:n≤5) (H:Heap):VDet Tryz.prog 47 [.int .i64 k,.int .i64 n] H (.int .i64 (cntN k n:Nat)):=by
 have hm:n * k≤5 * 1000:=Nat.mul_le_mul hn hk
 refine zag Tryz.E0 zaa Tryz.func47 (by kernel_rfl) rfl (Nat.le_of_ble_eq_true rfl) rfl fun hcl hbl=>?_
 (repeat' ((conv=>whnf);(first|refine za3 (fun _=>?_) (fun _=>?_)|(refine EqN.id ?_;first|(refine EqN.shlN _ _ Cst.h Cst.h rfl ?_ ?_ ?_;(· (repeat' (first|omega|refine And.intro ?_ ?_|exact zad (by omega)|exact zap (by omega)|refine zbb ?_ ?_|refine zao ?_ ?_|refine zau ?_ ?_|refine zal ?_ ?_|refine zav ?_|refine zaw ?_ ?_|refine zax ?_|refine zad ?_|fail)));(· (repeat' (first|omega|refine And.intro ?_ ?_|exact zad (by omega)|exact zap (by omega)|refine zbb ?_ ?_|refine zao ?_ ?_|refine zau ?_ ?_|refine zal ?_ ?_|refine zav ?_|refine zaw ?_ ?_|refine zax ?_|refine zad ?_|fail))))|(refine EqN.mulN _ _ Cst.h Cst.h ?_ ?_;· omega)|fail)|refine SideN.mk (by omega) ?_|fail)));all_goals (conv=>whnf)
 all_goals refine EndN.det trivial (Wk.of_eq (congrArg (AV.int _) ?_))
 all_goals unfold cntN
 ·rw [if_pos (by omega)];rfl
 ·rw [if_neg (by omega),if_pos (by omega)];rfl
 ·rw [if_neg (by omega),if_neg (by omega)]
theorem Count_no (l:List ByteArray) (n:Int) (hn:n<1∨5<n) (H:Heap):VDet Tryz.prog 13 [.sl none l.length (l.flatMap encSG),.int .i64 n] H (.tup [.int .i64 0,.int .i64 2]):=by
 have hnb:=fun k=>encSG_below k l
 generalize l.flatMap encSG=lc at *
 refine zag Tryz.E0 zaa Tryz.func13 (by kernel_rfl) rfl (Nat.le_of_ble_eq_true rfl) rfl fun hcl hbl=>?_
 (repeat' ((conv=>whnf);(first|(refine IfN.id ?_;first|refine zan (by omega) ?_|refine za3 (fun _=>?_) (fun _=>?_)|fail)|fail)));all_goals (conv=>whnf)
 all_goals first
  | exact eT (by simp [below,zac])
  | (exfalso;omega)
theorem Count_c (l:List ByteArray) (hlen:l.length≤1000) (hsz:∀ c∈l,c.size≤9223372036854775807) (n:Nat) (h1:1≤n) (hn:n≤5) (H:Heap):VDet Tryz.prog 13 [.sl none l.length (l.flatMap encSG),.int .i64 (n:Nat)] H (cntR (isNmG l) l.length n):=by
 have hcn:=count_c l.length n hlen hn
 have hcl0:=cntN_le l.length n
 unfold cntR
 generalize cntN l.length n=cn at *
 refine zag Tryz.E0 zaa Tryz.func13 (by kernel_rfl) rfl (Nat.le_of_ble_eq_true rfl) rfl fun hcl hbl=>?_
 (repeat' ((conv=>whnf);(first|refine zas (by omega) ?_|fail)));conv=>whnf
 refine za9 Tryz.E0 zaa (σ:=Nat) (fun k=>k≤l.length∧∀ i,i<k→nmAt l i=true) (fun k=>l.length-k) (fun k=>[(17,.v (.int .i64 k))]) (fun _=>[]) _ 0 rfl hcl [0,1,15,16] rfl ⟨Nat.zero_le _,fun i hi=>by omega⟩ ⟨⟨_,rfl,Wk.refl _⟩,trivial⟩ rfl (fun _ _=>rfl) ?_
 rintro k ⟨hk,hall⟩
 clear hbl
 by_cases hlt:k<l.length
 ·have hp:=predicate_g (l.getD k eN) (hsz _ (getD_memT l k eN hlt))
  have hfalse:nmAt l k=false→isNmG l=false:=fun h=>by
   apply Bool.eq_false_iff.2
   intro hA
   rw [List.all_eq_true.1 hA k (List.mem_range.2 hlt)] at h
   cases h
  have hdef:nmAt l k=(isPred (l.getD k eN)&&(decide (k=0) || lessB (l.getD (k-1) eN) (l.getD k eN))):=rfl
  have hlb:Op.bytesLess (l.getD (k-1) eN).toList (l.getD k eN).toList=lessB (l.getD (k-1) eN) (l.getD k eN):=rfl
  cases hpb:isPred (l.getD k eN) with
  | false =>
    rw [hpb] at hp hdef
    rw [hfalse (by rw [hdef];rfl)]
    (repeat' ((conv=>whnf);(first|(refine IfN.id ?_;first|refine IfN.not ?_|refine IfN.ff rfl ?_|refine zan (by omega) ?_|fail)|(refine SideN.mk ?_ ?_;· first|omega|exact List.cons_ne_nil _ _|fail)|refine CallN.det _ (hp _) ?_|refine zbm (f:=encSG) (l:=l) eN k rfl hlt (fun _=>rfl) ?_|fail)));conv=>whnf
    exact EndN.det (by simp [below,zac]) (Wk.of_eq rfl)
  | true =>
    rw [hpb] at hp hdef
    cases hlb2:lessB (l.getD (k-1) eN) (l.getD k eN) with
    | true =>
      rw [hlb2] at hlb hdef
      have hok:nmAt l k=true:=by rw [hdef];simp
      (repeat' ((conv=>whnf);(first|(refine IfN.id ?_;first|refine IfN.tt hlb ?_|refine IfN.not ?_|refine IfN.tt rfl ?_|refine zan (by omega) ?_|refine za3 (fun _=>?_) (fun _=>?_)|fail)|(refine EqN.id ?_;first|(refine zaf _ _ Cst.h Cst.h ?_ ?_;· omega)|(refine EqN.subN _ _ Cst.h Cst.h ?_ ?_;· omega)|fail)|(refine SideN.mk ?_ ?_;· first|omega|exact List.cons_ne_nil _ _|fail)|refine CallN.det _ (hp _) ?_|refine zbm (f:=encSG) (l:=l) eN k rfl hlt (fun _=>rfl) ?_|refine zbm (f:=encSG) (l:=l) eN (k-1) (by omega) (by omega) (fun _=>rfl) ?_|fail)));all_goals (conv=>whnf)
      all_goals (refine ⟨⟨k+1,⟨by omega,fun i hi=>by
       by_cases e:i=k
       ·rw [e];exact hok
       ·exact hall i (by omega)⟩,by omega,?_,.inl ⟨rfl,rfl⟩,rfl,_,rfl,?_⟩⟩;rotate_left 1;exact .inl rfl;exact ⟨⟨_,rfl,Wk.refl _⟩,trivial⟩)
    | false =>
      rw [hlb2] at hlb hdef
      by_cases h0:k=0
      ·have hok:nmAt l k=true:=by rw [hdef];simp [h0]
       (repeat' ((conv=>whnf);(first|(refine IfN.id ?_;first|refine IfN.not ?_|refine IfN.tt rfl ?_|refine zan (by omega) ?_|refine zas (by omega) ?_|fail)|(refine zaf _ _ Cst.h Cst.h ?_ ?_;· omega)|(refine SideN.mk ?_ ?_;· first|omega|exact List.cons_ne_nil _ _|fail)|refine CallN.det _ (hp _) ?_|refine zbm (f:=encSG) (l:=l) eN k rfl hlt (fun _=>rfl) ?_|fail)));conv=>whnf
       all_goals (refine ⟨⟨k+1,⟨by omega,fun i hi=>by
        by_cases e:i=k
        ·rw [e];exact hok
        ·exact hall i (by omega)⟩,by omega,?_,.inl ⟨rfl,rfl⟩,rfl,_,rfl,?_⟩⟩;rotate_left 1;exact .inl rfl;exact ⟨⟨_,rfl,Wk.refl _⟩,trivial⟩)
      ·rw [hfalse (by rw [hdef];simp [h0])]
       (repeat' ((conv=>whnf);(first|(refine IfN.id ?_;first|refine IfN.ff hlb ?_|refine IfN.not ?_|refine IfN.tt rfl ?_|refine zan (by omega) ?_|fail)|(refine EqN.subN _ _ Cst.h Cst.h ?_ ?_;· omega)|(refine SideN.mk ?_ ?_;· first|omega|exact List.cons_ne_nil _ _|fail)|refine CallN.det _ (hp _) ?_|refine zbm (f:=encSG) (l:=l) eN k rfl hlt (fun _=>rfl) ?_|refine zbm (f:=encSG) (l:=l) eN (k-1) (by omega) (by omega) (fun _=>rfl) ?_|fail)));conv=>whnf
       all_goals exact EndN.det (by simp [below,zac]) (Wk.of_eq rfl)
 ·have:isNmG l=true:=List.all_eq_true.2 fun i hi=>hall i (by have:=List.mem_range.1 hi;omega)
  rw [this]
  by_cases h0:cn=0
  ·subst h0
   (repeat' ((conv=>whnf);(first|(refine IfN.id ?_;first|refine IfN.tt rfl ?_|refine zas (by omega) ?_|fail)|refine CallN.det _ (hcn _) ?_|fail)));conv=>whnf
   exact EndN.det (by simp [below,zac]) (Wk.of_eq rfl)
  ·(repeat' ((conv=>whnf);(first|refine zas (by omega) ?_|refine CallN.det _ (hcn _) ?_|fail)));conv=>whnf
   exact EndN.det (by simp [below,zac]) (Wk.of_eq (by show _=AV.tup [.int .i64 (cn:Nat),.int .i64 (if cn=0 then 5 else 0)];rw [if_neg h0]))
theorem refCount_no (l:List ByteArray) (hlen:l.length≤1000) (hsz:∀ c∈l,c.size≤9223372036854775807) (n:Int) (hn:n<1∨5<n) (H:Heap):VDet Tryz.prog 22 [.sl none l.length (l.flatMap encSG),.int .i64 n] H (.tup [.int .i64 0,.int .i64 2]):=by
 have h61:=rising_c l (by omega) hsz
 have hnb:=fun k=>encSG_below k l
 generalize isNmG l=b at *
 generalize l.flatMap encSG=lc at *
 cases b
 all_goals
  refine zag Tryz.E0 zaa Tryz.func22 (by kernel_rfl) rfl (Nat.le_of_ble_eq_true rfl) rfl fun hcl hbl=>?_
  (repeat' ((conv=>whnf);(first|(refine IfN.id ?_;first|refine IfN.not ?_|refine IfN.tt rfl ?_|refine IfN.ff rfl ?_|refine zan (by omega) ?_|refine za3 (fun _=>?_) (fun _=>?_)|fail)|refine CallN.det _ (h61 _) ?_|fail)));all_goals (conv=>whnf)
  all_goals first
   | exact eT (by simp [below,zac])
   | (exfalso;omega)
theorem refCount_c (l:List ByteArray) (hlen:l.length≤1000) (hsz:∀ c∈l,c.size≤9223372036854775807) (n:Nat) (h1:1≤n) (hn:n≤5) (H:Heap):VDet Tryz.prog 22 [.sl none l.length (l.flatMap encSG),.int .i64 (n:Nat)] H (cntR (isNmG l) l.length n):=by
 have h61:=rising_c l (by omega) hsz
 have hnb:=fun k=>encSG_below k l
 have hcp:=cnt_pw l.length n h1
 have h0:pw n 0=n:=by unfold pw;simp
 have hs:=fun j=>pw_succ n j
 have hmo:=fun j (h:j≤l.length)=>pw_mono (n:=n) h
 have h2n:2 ^ n≤32:=Nat.le_trans (Nat.pow_le_pow_right (by decide) hn) (by decide)
 have hpos:∀ j,1≤pw n j:=fun j=>Nat.le_trans h1 (Nat.le_mul_of_pos_right _ (Nat.pow_pos (by decide)))
 have hsl:1 <<< n=2 ^ n:=Nat.one_shiftLeft n
 unfold cntR
 generalize cntN l.length n=cn at *
 generalize isNmG l=b at *
 generalize l.flatMap encSG=lc at *
 generalize l.length=k at *
 generalize pw n=P at *
 cases b with
 | false =>
   refine zag Tryz.E0 zaa Tryz.func22 (by kernel_rfl) rfl (Nat.le_of_ble_eq_true rfl) rfl fun hcl hbl=>?_
   (repeat' ((conv=>whnf);(first|(refine IfN.id ?_;first|refine IfN.not ?_|refine IfN.ff rfl ?_|fail)|refine CallN.det _ (h61 _) ?_|fail)));conv=>whnf
   exact EndN.det (by simp [below,zac]) (Wk.of_eq rfl)
 | true =>
   refine zag Tryz.E0 zaa Tryz.func22 (by kernel_rfl) rfl (Nat.le_of_ble_eq_true rfl) rfl fun hcl hbl=>?_
   (repeat' ((conv=>whnf);(first|(refine IfN.id ?_;first|refine IfN.not ?_|refine IfN.tt rfl ?_|refine zas (by omega) ?_|fail)|refine CallN.det _ (h61 _) ?_|fail)));conv=>whnf
   refine za9 Tryz.E0 zaa (σ:=Nat) (fun j=>j≤k∧P j≤16384) (fun j=>k-j) (fun j=>[(6,.v (.int .i64 (P j:Nat))),(7,.v (.int .i64 j))]) (fun _=>[]) _ 0 rfl hcl [0,1] rfl ⟨Nat.zero_le _,by omega⟩ ⟨⟨_,rfl,Wk.of_eq (by rw [h0])⟩,⟨_,rfl,Wk.refl _⟩,trivial⟩ rfl (fun _ _=>rfl) ?_
   rintro j ⟨hj,hP⟩
   rcases Nat.lt_or_ge j k with hlt|hge
   ·have hsj:=hs j
    have hb:P j * 2 ^ n≤16384 * 32:=Nat.mul_le_mul hP h2n
    rw [← hsl] at hsj hb
    rw [← hsj] at hb
    have hmj:=hmo (j+1) hlt
    generalize hQ:P (j+1)=Q at *
    (repeat' ((conv=>whnf);(first|(refine IfN.id ?_;first|refine zan (by omega) ?_|refine za3 (fun _=>?_) (fun _=>?_)|fail)|(refine EqN.id ?_;first|refine EqN.mulN (P j) (1 <<< n) rfl rfl (by omega) ?_|(refine EqN.shlN _ _ Cst.h Cst.h rfl ?_ ?_ ?_;(· (repeat' (first|omega|refine And.intro ?_ ?_|exact zad (by omega)|exact zap (by omega)|refine zbb ?_ ?_|refine zao ?_ ?_|refine zau ?_ ?_|refine zal ?_ ?_|refine zav ?_|refine zaw ?_ ?_|refine zax ?_|refine zad ?_|fail)));(· (repeat' (first|omega|refine And.intro ?_ ?_|exact zad (by omega)|exact zap (by omega)|refine zbb ?_ ?_|refine zao ?_ ?_|refine zau ?_ ?_|refine zal ?_ ?_|refine zav ?_|refine zaw ?_ ?_|refine zax ?_|refine zad ?_|fail))))|(refine zaf _ _ Cst.h Cst.h ?_ ?_;· omega)|fail)|refine SideN.mk (by omega) ?_|fail)));all_goals (conv=>whnf)
    ·rename_i hgt
     refine EndN.det (by simp [below,zac]) (Wk.of_eq ?_)
     have hc0:cn=0:=by rw [hcp,if_pos (by omega)]
     rw [hc0]
     rfl
    ·rw [← hsj]
     subst hQ
     (refine ⟨⟨j+1,⟨by omega,by omega⟩,by omega,?_,.inl ⟨rfl,rfl⟩,rfl,_,rfl,?_⟩⟩;rotate_left 1;exact .inl rfl;exact ⟨⟨_,rfl,Wk.refl _⟩,⟨_,rfl,Wk.refl _⟩,trivial⟩)
   ·obtain rfl:j=k:=by omega
    have hcn:cn=P j:=by rw [hcp,if_neg (by omega)]
    have hp:=hpos j
    (repeat' ((conv=>whnf);(first|refine zas (by omega) ?_|fail)));conv=>whnf
    exact EndN.det (by simp [below,zac]) (Wk.of_eq (by
     show _=AV.tup [.int .i64 (cn:Nat),.int .i64 (if cn=0 then 5 else 0)]
     rw [if_neg (by omega),hcn]))
theorem Same_ok (a b:Tr) (ha:a.Ok) (hb:b.Ok) (hva:∀ H,VDet Tryz.prog 43 [.agg a.cells] H (.bool true)) (hvb:∀ H,VDet Tryz.prog 43 [.agg b.cells] H (.bool true)) (H:Heap):VDet Tryz.prog 10 [.agg a.cells,.agg b.cells] H (.tup [.bool (sameB 25 a b),.int .i64 0]):=by
 have hs:=fun H=>same_c a b ha hb H
 generalize sameB 25 a b=R at hs ⊢
 unfold Tr.cells at hva hvb hs ⊢
 refine zag Tryz.E0 zaa Tryz.func10 (by kernel_rfl) rfl (Nat.le_of_ble_eq_true rfl) rfl fun hcl hbl=>?_
 (repeat' ((conv=>whnf);(first|(refine IfN.id ?_;first|refine IfN.not ?_|refine IfN.tt rfl ?_|fail)|(refine CallN.id ?_;first|refine CallN.det _ (hva _) ?_|refine CallN.det _ (hvb _) ?_|refine CallN.det _ (hs _) ?_|fail)|fail)));conv=>whnf
 exact eT (by simp [below,zac])
theorem refSame_ok (a b:Tr) (ha:a.Ok) (hb:b.Ok) (hva:∀ H,VDet Tryz.prog 57 [.agg a.cells] H (.bool true)) (hvb:∀ H,VDet Tryz.prog 57 [.agg b.cells] H (.bool true)) (H:Heap):VDet Tryz.prog 19 [.agg a.cells,.agg b.cells] H (.tup [.bool (sameB 25 a b),.int .i64 0]):=by
 have hs:=fun H=>refSame_c a b ha hb H
 rw [same_30 ha hb] at hs
 generalize sameB 25 a b=R at hs ⊢
 unfold Tr.cells at hva hvb hs ⊢
 refine zag Tryz.E0 zaa Tryz.func19 (by kernel_rfl) rfl (Nat.le_of_ble_eq_true rfl) rfl fun hcl hbl=>?_
 (repeat' ((conv=>whnf);(first|(refine IfN.id ?_;first|refine IfN.not ?_|refine IfN.tt rfl ?_|fail)|(refine CallN.id ?_;first|refine CallN.det _ (hva _) ?_|refine CallN.det _ (hvb _) ?_|refine CallN.det _ (hs _) ?_|fail)|fail)));conv=>whnf
 exact eT (by simp [below,zac])
theorem Same_bad (a b:Mdl) (x y:Bool) (hxy:x=false∨y=false) (ha:∀ H,VDet Tryz.prog 43 [.agg a.cells] H (.bool x)) (hb:∀ H,VDet Tryz.prog 43 [.agg b.cells] H (.bool y)) (H:Heap):VDet Tryz.prog 10 [.agg a.cells,.agg b.cells] H (.tup [.bool false,.int .i64 2]):=by
 have b1:=fun n=>i64s_below n a.rel
 have b2:=fun n=>fcts_below n a.facts
 have b3:=fun n=>fncs_below n a.funcs
 have b4:=fun n=>bnds_below n a.binds
 have b5:=fun n=>i64s_below n b.rel
 have b6:=fun n=>fcts_below n b.facts
 have b7:=fun n=>fncs_below n b.funcs
 have b8:=fun n=>bnds_below n b.binds
 unfold Mdl.cells at *
 rcases hxy with rfl|rfl
 ·refine zag Tryz.E0 zaa Tryz.func10 (by kernel_rfl) rfl (Nat.le_of_ble_eq_true rfl) rfl fun hcl hbl=>?_
  (repeat' ((conv=>whnf);(first|(refine IfN.id ?_;first|refine IfN.not ?_|refine IfN.ff rfl ?_|fail)|refine CallN.det _ (ha _) ?_|fail)));conv=>whnf
  exact eT (by simp [below,zac])
 ·cases x
  all_goals
   refine zag Tryz.E0 zaa Tryz.func10 (by kernel_rfl) rfl (Nat.le_of_ble_eq_true rfl) rfl fun hcl hbl=>?_
   (repeat' ((conv=>whnf);(first|(refine IfN.id ?_;first|refine IfN.not ?_|refine IfN.tt rfl ?_|refine IfN.ff rfl ?_|fail)|(refine CallN.id ?_;first|refine CallN.det _ (ha _) ?_|refine CallN.det _ (hb _) ?_|fail)|fail)));all_goals (conv=>whnf)
   exact eT (by simp [below,zac])
theorem refSame_bad (a b:Mdl) (x y:Bool) (hxy:x=false∨y=false) (ha:∀ H,VDet Tryz.prog 57 [.agg a.cells] H (.bool x)) (hb:∀ H,VDet Tryz.prog 57 [.agg b.cells] H (.bool y)) (H:Heap):VDet Tryz.prog 19 [.agg a.cells,.agg b.cells] H (.tup [.bool false,.int .i64 2]):=by
 unfold Mdl.cells at *
 rcases hxy with rfl|rfl
 ·refine zag Tryz.E0 zaa Tryz.func19 (by kernel_rfl) rfl (Nat.le_of_ble_eq_true rfl) rfl fun hcl hbl=>?_
  (repeat' ((conv=>whnf);(first|(refine IfN.id ?_;first|refine IfN.not ?_|refine IfN.ff rfl ?_|fail)|refine CallN.det _ (ha _) ?_|fail)));conv=>whnf
  exact eT (by simp [below,zac])
 ·cases x
  all_goals
   refine zag Tryz.E0 zaa Tryz.func19 (by kernel_rfl) rfl (Nat.le_of_ble_eq_true rfl) rfl fun hcl hbl=>?_
   (repeat' ((conv=>whnf);(first|(refine IfN.id ?_;first|refine IfN.not ?_|refine IfN.tt rfl ?_|refine IfN.ff rfl ?_|fail)|(refine CallN.id ?_;first|refine CallN.det _ (ha _) ?_|refine CallN.det _ (hb _) ?_|fail)|fail)));all_goals (conv=>whnf)
   exact eT (by simp [below,zac])
end
section
def numN (t:Tr):Nat→Nat
 | 0=>t.lp
 | j+1=>numN t j * 2 ^ t.n+(ft t.fs j).2
theorem numN_lt {t:Tr} (ht:t.Ok):∀ j,j≤t.fs.length→numN t j<pw t.n j
 | 0,_=>by
   have:=ht.lp
   unfold numN pw
   simpa using this
 | j+1,h=>by
   have h1:=numN_lt ht j (by omega)
   have h2:=ht.mask j (by omega)
   rw [pw_succ]
   unfold numN
   have h3:(numN t j+1) * 2 ^ t.n≤pw t.n j * 2 ^ t.n:=Nat.mul_le_mul_right _ h1
   rw [Nat.add_mul,Nat.one_mul] at h3
   omega
def numR (t:Tr):AV:=if cntN t.fs.length t.n=0 then .tup [.int .i64 0,.int .i64 5] else .tup [.int .i64 (numN t t.fs.length:Nat),.int .i64 0]
attribute [local irreducible] VW VCall VO bits
theorem Number_bad (a:Mdl) (ha:∀ H,VDet Tryz.prog 43 [.agg a.cells] H (.bool false)) (H:Heap):VDet Tryz.prog 12 [.agg a.cells] H (.tup [.int .i64 0,.int .i64 2]):=by
 unfold Mdl.cells at *
 refine zag Tryz.E0 zaa Tryz.func12 (by kernel_rfl) rfl (Nat.le_of_ble_eq_true rfl) rfl fun hcl hbl=>?_
 (repeat' ((conv=>whnf);(first|(refine IfN.id ?_;first|refine IfN.not ?_|refine IfN.ff rfl ?_|fail)|refine CallN.det _ (ha _) ?_|fail)));conv=>whnf
 exact eT (by simp [below,zac])
theorem refNumber_bad (a:Mdl) (ha:∀ H,VDet Tryz.prog 57 [.agg a.cells] H (.bool false)) (H:Heap):VDet Tryz.prog 21 [.agg a.cells] H (.tup [.int .i64 0,.int .i64 2]):=by
 unfold Mdl.cells at *
 refine zag Tryz.E0 zaa Tryz.func21 (by kernel_rfl) rfl (Nat.le_of_ble_eq_true rfl) rfl fun hcl hbl=>?_
 (repeat' ((conv=>whnf);(first|(refine IfN.id ?_;first|refine IfN.not ?_|refine IfN.ff rfl ?_|fail)|refine CallN.det _ (ha _) ?_|fail)));conv=>whnf
 exact eT (by simp [below,zac])
theorem Number_ok (t:Tr) (ht:t.Ok) (hlen:t.fs.length≤1000) (hv:∀ H,VDet Tryz.prog 43 [.agg t.cells] H (.bool true)) (H:Heap):VDet Tryz.prog 12 [.agg t.cells] H (numR t):=by
 have hcn:=count_c t.fs.length t.n hlen ht.n5
 have hcp:=cnt_pw t.fs.length t.n ht.n1
 have hlt:=fun j h=>numN_lt ht j h
 have hmo:=fun j (h:j≤t.fs.length)=>pw_mono (n:=t.n) h
 have hm:=ht.mask
 have hsu:∀ j,numN t (j+1)=numN t j * 2 ^ t.n+(ft t.fs j).2:=fun _=>rfl
 have h0:numN t 0=t.lp:=rfl
 have h5:=ht.n5
 have h2n:2 ^ t.n≤32:=Nat.le_trans (Nat.pow_le_pow_right (by decide) h5) (by decide)
 unfold numR
 generalize cntN t.fs.length t.n=cn at *
 generalize pw t.n=P at *
 generalize numN t=X at *
 obtain ⟨n,lp,fs⟩:=t
 unfold Tr.cells at hv ⊢
 simp only at hcn hcp hlt hmo hm hsu h0 h5 h2n hv hlen ⊢
 by_cases hc:cn=0
 ·rw [if_pos hc]
  subst hc
  refine zag Tryz.E0 zaa Tryz.func12 (by kernel_rfl) rfl (Nat.le_of_ble_eq_true rfl) rfl fun hcl hbl=>?_
  (repeat' ((conv=>whnf);(first|(refine IfN.id ?_;first|refine IfN.not ?_|refine IfN.tt rfl ?_|fail)|(refine CallN.id ?_;first|refine CallN.det _ (hv _) ?_|refine CallN.det _ (hcn _) ?_|fail)|fail)));conv=>whnf
  exact eT (by simp [below,zac])
 ·rw [if_neg hc]
  have hPk:P fs.length≤16384:=by
   rcases Nat.lt_or_ge 16384 (P fs.length) with h|h
   ·exact absurd (by rw [hcp,if_pos h]) hc
   ·exact h
  refine zag Tryz.E0 zaa Tryz.func12 (by kernel_rfl) rfl (Nat.le_of_ble_eq_true rfl) rfl fun hcl hbl=>?_
  (repeat' ((conv=>whnf);(first|(refine IfN.id ?_;first|refine IfN.not ?_|refine IfN.tt rfl ?_|refine zas (by omega) ?_|fail)|(refine CallN.id ?_;first|refine CallN.det _ (hv _) ?_|refine CallN.det _ (hcn _) ?_|fail)|fail)));conv=>whnf
  refine za9 Tryz.E0 zaa (σ:=Nat) (fun j=>j≤fs.length) (fun j=>fs.length-j) (fun j=>[(4,.v (.int .i64 (X j:Nat))),(22,.v (.int .i64 j))]) (fun _=>_) _ 0 rfl hcl [1,20,21] rfl (Nat.zero_le _) ⟨⟨_,rfl,Wk.of_eq (by rw [h0])⟩,⟨_,rfl,Wk.refl _⟩,trivial⟩ rfl (fun _ _=>rfl) ?_
  intro j hj
  clear hbl
  rcases Nat.lt_or_ge j fs.length with hlt2|hge
  ·have q1:=hlt j hj
   have q2:=hmo j hj
   have q3:=hm j hlt2
   have q4:=hsu j
   unfold ft at q3 q4
   obtain ⟨s,m,e1⟩:∃ s m,fs.getD j p0=(s,m):=⟨_,_,rfl⟩
   have qc:encT (fs.getD j p0)=[.str s,.int .i64 0,.int .i64 m]:=by rw [e1];rfl
   rw [e1] at q3 q4
   simp only at q3 q4
   have q5:X j <<< n=X j * 2 ^ n:=Nat.shiftLeft_eq _ _
   have q6:X j * 2 ^ n≤16384 * 32:=Nat.mul_le_mul (by omega) h2n
   have q7:X j <<< n ||| m=X (j+1):=by rw [← Nat.shiftLeft_add_eq_or_of_lt q3,q5,q4]
   generalize hX2:X (j+1)=X2 at *
   (repeat' ((conv=>whnf);(first|refine zan (by omega) ?_|(refine EqN.id ?_;first|refine EqN.shlN (X j) n rfl rfl (by decide) (by omega) (by omega) ?_|refine EqN.or (X j <<< n) m rfl rfl ⟨by omega,by omega⟩ ?_|(refine zaf _ _ Cst.h Cst.h ?_ ?_;· omega)|fail)|(refine SideN.mk ?_ ?_;· first|kernel_rfl|omega|exact List.cons_ne_nil _ _|fail)|refine SegN.nthE p0 j rfl hlt2 encT_size qc ?_|refine zah [] ?_|fail)));conv=>whnf
   rw [q7]
   subst hX2
   (refine ⟨⟨j+1,by show j+1≤_;omega,by omega,?_,.inl ⟨rfl,rfl⟩,rfl,_,rfl,?_⟩⟩;rotate_left 1;exact .inr ⟨by simp [zbe,below,zac,tr,encSG_below,encT_below,i64s_below,fcts_below,bnds_below,fncs_below],by simp [belowH,Blk.below,zac,below,encSG_below,encT_below,i64s_below,fcts_below,bnds_below,fncs_below]⟩;exact ⟨⟨_,rfl,Wk.refl _⟩,⟨_,rfl,Wk.refl _⟩,trivial⟩)
  ·obtain rfl:j=fs.length:=by omega
   (repeat' ((conv=>whnf);(first|refine zas (by omega) ?_|fail)));conv=>whnf
   exact eT (by simp [below,zac])
theorem refNumber_ok (t:Tr) (ht:t.Ok) (hlen:t.fs.length≤1000) (hv:∀ H,VDet Tryz.prog 57 [.agg t.cells] H (.bool true)) (H:Heap):VDet Tryz.prog 21 [.agg t.cells] H (numR t):=by
 have hnl:(t.mdl.facts.map Fct.nm)=t.fs.map (·.1):=by simp [Tr.mdl,List.map_map,Function.comp_def]
 have h60:=names_c t.mdl (by show (List.map _ t.fs).length≤_;rw [List.length_map];omega)
 have h22:=refCount_c (t.fs.map (·.1)) (by rw [List.length_map];exact hlen) (fun c hc=>by
  obtain ⟨f,hf,rfl⟩:=List.mem_map.1 hc
  exact ht.sz f hf) t.n ht.n1 ht.n5
 rw [nmE_flat,hnl,Tr.mdl_cells,show t.mdl.facts.length=t.fs.length by show (List.map _ t.fs).length=_;rw [List.length_map]] at h60
 rw [List.length_map,ht.nms] at h22
 unfold cntR at h22
 have hnb:=fun k=>encSG_below k (t.fs.map (·.1))
 generalize (t.fs.map (·.1)).flatMap encSG=nc at *
 have hcp:=cnt_pw t.fs.length t.n ht.n1
 have hlt:=fun j h=>numN_lt ht j h
 have hmo:=fun j (h:j≤t.fs.length)=>pw_mono (n:=t.n) h
 have hm:=ht.mask
 have hsu:∀ j,numN t (j+1)=numN t j * 2 ^ t.n+(ft t.fs j).2:=fun _=>rfl
 have h0:numN t 0=t.lp:=rfl
 have h5:=ht.n5
 have h2n:2 ^ t.n≤32:=Nat.le_trans (Nat.pow_le_pow_right (by decide) h5) (by decide)
 have hsl:1 <<< t.n=2 ^ t.n:=Nat.one_shiftLeft _
 clear hnl
 unfold numR
 generalize cntN t.fs.length t.n=cn at *
 generalize pw t.n=P at *
 generalize numN t=X at *
 obtain ⟨n,lp,fs⟩:=t
 unfold Tr.cells at hv h60 ⊢
 simp only at hcp hlt hmo hm hsu h0 h5 h2n hv hlen h60 h22 hsl ⊢
 by_cases hc:cn=0
 ·rw [if_pos hc]
  subst hc
  have h22:∀ H,VDet Tryz.prog 22 [.sl none fs.length nc,.int .i64 (n:Nat)] H (.tup [.int .i64 0,.int .i64 5]):=h22
  refine zag Tryz.E0 zaa Tryz.func21 (by kernel_rfl) rfl (Nat.le_of_ble_eq_true rfl) rfl fun hcl hbl=>?_
  (repeat' ((conv=>whnf);(first|(refine IfN.id ?_;first|refine IfN.not ?_|refine IfN.tt rfl ?_|refine IfN.ff rfl ?_|fail)|refine SideN.mk (by kernel_rfl) ?_|refine CallN.det _ (hv _) ?_|(refine CallD.id ?_;first|refine CallD.det _ (fun _ hq X=>h60 _) ?_|refine CallD.det _ (fun _ hq X=>h22 _) ?_|fail)|refine zah [] ?_|fail)));conv=>whnf
  exact eT (by simp [below,zac])
 ·rw [if_neg hc]
  rw [if_neg hc] at h22
  have h22:∀ H,VDet Tryz.prog 22 [.sl none fs.length nc,.int .i64 (n:Nat)] H (.tup [.int .i64 (cn:Nat),.int .i64 0]):=h22
  have hPk:P fs.length≤16384:=by
   rcases Nat.lt_or_ge 16384 (P fs.length) with h|h
   ·exact absurd (by rw [hcp,if_pos h]) hc
   ·exact h
  refine zag Tryz.E0 zaa Tryz.func21 (by kernel_rfl) rfl (Nat.le_of_ble_eq_true rfl) rfl fun hcl hbl=>?_
  (repeat' ((conv=>whnf);(first|(refine IfN.id ?_;first|refine IfN.not ?_|refine IfN.tt rfl ?_|fail)|refine SideN.mk (by kernel_rfl) ?_|refine CallN.det _ (hv _) ?_|(refine CallD.id ?_;first|refine CallD.det _ (fun _ hq X=>h60 _) ?_|refine CallD.det _ (fun _ hq X=>h22 _) ?_|fail)|refine zah [] ?_|fail)));conv=>whnf
  refine za9 Tryz.E0 zaa (σ:=Nat) (fun j=>j≤fs.length) (fun j=>fs.length-j) (fun j=>[(6,.v (.int .i64 (X j:Nat))),(7,.v (.int .i64 j))]) (fun _=>_) _ 0 rfl hcl [1] rfl (Nat.zero_le _) ⟨⟨_,rfl,Wk.of_eq (by rw [h0])⟩,⟨_,rfl,Wk.refl _⟩,trivial⟩ rfl (fun _ _=>rfl) ?_
  intro j hj
  clear hbl
  rcases Nat.lt_or_ge j fs.length with hlt2|hge
  ·have q1:=hlt j hj
   have q2:=hmo j hj
   have q3:=hm j hlt2
   have q4:=hsu j
   unfold ft at q3 q4
   obtain ⟨s,m,e1⟩:∃ s m,fs.getD j p0=(s,m):=⟨_,_,rfl⟩
   have qc:encT (fs.getD j p0)=[.str s,.int .i64 0,.int .i64 m]:=by rw [e1];rfl
   rw [e1] at q3 q4
   simp only at q3 q4
   have q6:X j * 2 ^ n≤16384 * 32:=Nat.mul_le_mul (by omega) h2n
   rw [← hsl] at q4 q6 q3 h2n
   generalize hX2:X (j+1)=X2 at *
   (repeat' ((conv=>whnf);(first|refine zan (by omega) ?_|(refine EqN.id ?_;first|refine EqN.mulN (X j) (1 <<< n) rfl rfl (by omega) ?_|refine zaf (X j * 1 <<< n) m rfl rfl (by omega) ?_|(refine EqN.shlN _ _ Cst.h Cst.h rfl ?_ ?_ ?_;(· (repeat' (first|omega|refine And.intro ?_ ?_|exact zad (by omega)|exact zap (by omega)|refine zbb ?_ ?_|refine zao ?_ ?_|refine zau ?_ ?_|refine zal ?_ ?_|refine zav ?_|refine zaw ?_ ?_|refine zax ?_|refine zad ?_|fail)));(· (repeat' (first|omega|refine And.intro ?_ ?_|exact zad (by omega)|exact zap (by omega)|refine zbb ?_ ?_|refine zao ?_ ?_|refine zau ?_ ?_|refine zal ?_ ?_|refine zav ?_|refine zaw ?_ ?_|refine zax ?_|refine zad ?_|fail))))|(refine zaf _ _ Cst.h Cst.h ?_ ?_;· omega)|fail)|(refine SideN.mk ?_ ?_;· first|kernel_rfl|omega|exact List.cons_ne_nil _ _|fail)|refine SegN.nthE p0 j rfl hlt2 encT_size qc ?_|refine zah [] ?_|fail)));conv=>whnf
   rw [← q4]
   subst hX2
   (refine ⟨⟨j+1,by show j+1≤_;omega,by omega,?_,.inl ⟨rfl,rfl⟩,rfl,_,rfl,?_⟩⟩;rotate_left 1;exact .inl rfl;exact ⟨⟨_,rfl,Wk.refl _⟩,⟨_,rfl,Wk.refl _⟩,trivial⟩)
  ·obtain rfl:j=fs.length:=by omega
   (repeat' ((conv=>whnf);(first|refine zas (by omega) ?_|fail)));conv=>whnf
   exact eT (by simp [below,zac])
end
section
theorem replC_mid:∀ (z c B:List AV),c.length=z.length→replC (z++B) c=some (c++B)
 | [],[],B,_=>by cases B <;> rfl
 | x::z,y::c,B,h=>by
   rw [List.cons_append,replC_cons,replC_mid z c B (by simpa using h)]
   rfl
theorem setC_mid:∀ (A z c B:List AV),c.length=z.length→setC (A++(z++B)) A.length c=some (A++(c++B))
 | [],z,c,B,h=>by
   rw [List.nil_append,List.nil_append]
   show setC (z++B) 0 c=_
   unfold setC
   exact replC_mid z c B h
 | x::A,z,c,B,h=>by
   rw [List.cons_append,List.length_cons,setC_cons,setC_mid A z c B h]
   rfl
theorem repC_snoc (z:List AV):∀ n,repC (n+1) z=repC n z++z
 | 0=>by simp [repC]
 | n+1=>by
   show z++repC (n+1) z=(z++repC n z)++z
   rw [repC_snoc z n,List.append_assoc]
def zF:List AV:=[.str .empty,.int .i64 0,.int .i64 0]
def dg (n N k i:Nat):Nat:=(N >>> (n * (k-1-i))) % 2 ^ n
def fcN (l:List ByteArray) (n N i:Nat):List AV:=[.str (l.getD i eN),.int .i64 0,.int .i64 (dg n N l.length i:Nat)]
def FN (l:List ByteArray) (n N j:Nat):List AV:=(List.range' j (l.length-j)).flatMap (fcN l n N)
theorem FN_step (l:List ByteArray) (n N i:Nat) (h:i<l.length):FN l n N i=fcN l n N i++FN l n N (i+1):=by
 unfold FN
 rw [show l.length-i=(l.length-(i+1))+1 by omega,List.range'_succ,List.flatMap_cons]
theorem FN_end (l:List ByteArray) (n N:Nat):FN l n N l.length=[]:=by
 unfold FN
 rw [Nat.sub_self]
 rfl
theorem fcs_below (k:Nat) (l:List ByteArray) (n N:Nat) (r:List Nat):zac k (r.flatMap (fcN l n N)):=zba _ fun _=>⟨trivial,trivial,trivial,trivial⟩
theorem rep_below (k:Nat):∀ j,zac k (repC j zF)
 | 0=>trivial
 | j+1=>(za5 _ _).2 ⟨⟨trivial,trivial,trivial,trivial⟩,rep_below k j⟩
def nthC (l:List ByteArray) (n N j:Nat):List AV:=repC j zF++FN l n N j
theorem nthC_below (k:Nat) (l:List ByteArray) (n N j:Nat):zac k (nthC l n N j):=(za5 _ _).2 ⟨rep_below k j,fcs_below k l n N _⟩
theorem nthC_set (l:List ByteArray) (n N i:Nat) (h:i<l.length):setC (nthC l n N (i+1)) (i * 3) (fcN l n N i)=some (nthC l n N i):=by
 unfold nthC
 rw [repC_snoc,FN_step l n N i h,List.append_assoc]
 have:=setC_mid (repC i zF) zF (fcN l n N i) (FN l n N (i+1)) rfl
 rwa [repC_length,show zF.length=3 from rfl] at this
abbrev mdN (n lp:Int) (fs:AV):AV:=.agg [.int .u8 5,.int .i64 n,.nils,.int .i64 lp,fs,.nils,.nils]
abbrev mdZ:AV:=.agg [.int .u8 0,.int .i64 0,.nils,.int .i64 0,.nils,.nils,.nils]
theorem quoN (a b:Nat) (h1:1≤b) (h2:a<9223372036854775808):IntKind.i64.wrap (((a:Nat):Int).tdiv ((b:Nat):Int))=((a / b:Nat):Int):=by
 rw [IntWalk.i64_quo _ _ ⟨by omega,by omega,by omega⟩]
 rfl
attribute [local irreducible] VW VCall VO bits
theorem KpL.low {n0:Nat} {loc:Heap} {j:Nat}:∀ {l:List AV},zac n0 l→KpL n0 loc j l l
 | [],_=>.nil
 | v::_,h=>.cons (.low v h.1) (KpL.low h.2)
theorem Nth_ok (l:List ByteArray) (hlen:l.length≤1000) (hsz:∀ c∈l,c.size≤9223372036854775807) (hnm:isNmG l=true) (n:Nat) (h1:1≤n) (hn:n≤5) (hc:cntN l.length n≠0) (N:Nat) (hN:N<cntN l.length n) (H:Heap) :
  VCall Tryz.prog 14 [.sl none l.length (l.flatMap encSG),.int .i64 (n:Nat),.int .i64 (N:Nat)] H fun r H'=>∃ s:Nat,r=.tup [mdN n (N >>> (n * l.length):Nat) (.ms H.length 0 l.length),.int .i64 0]∧H'=H++[.box 60 (FN l n N 0++List.replicate s .junk)]:=by
 have hC:=Count_c l hlen hsz n h1 hn
 rw [hnm] at hC
 unfold cntR at hC
 rw [if_neg hc] at hC
 have hC:∀ H,VDet Tryz.prog 13 [.sl none l.length (l.flatMap encSG),.int .i64 (n:Nat)] H (.tup [.int .i64 (cntN l.length n:Nat),.int .i64 0]):=hC
 have hcl:=cntN_le l.length n
 have hnb:=fun k=>encSG_below k l
 have hst:=nthC_set l n N
 have he:=FN_end l n N
 have h2n:2 ^ n≤32:=Nat.le_trans (Nat.pow_le_pow_right (by decide) hn) (by decide)
 have hsl:1 <<< n=2 ^ n:=Nat.one_shiftLeft n
 have h2p:1≤2 ^ n:=Nat.pow_pos (by decide)
 generalize cntN l.length n=cn at *
 refine VCall.mono (VCall.one (ι:=Unit) (u:=fun _=>.tup [mdN n (N >>> (n * l.length):Nat) (.ms (H.length+1) 0 l.length),.int .i64 0]) (u':=fun _=>.tup [mdN n (N >>> (n * l.length):Nat) (.ms H.length 0 l.length),.int .i64 0]) (loc:=fun _=>[.box 27 [.int .u8 5,.int .i64 n,.nils,.int .i64 (N >>> (n * l.length):Nat),.ms (H.length+1) 0 l.length,.nils,.nils],.box 60 (nthC l n N 0),.box 27 [.int .u8 5,.int .i64 n,.nils,.int .i64 (N >>> (n * l.length):Nat),.ms (H.length+1) 0 l.length,.nils,.nils]]) (j:=1) (t:=60) (l':=fun _=>nthC l n N 0) ?_ (fun _=>.tup (.cons (.agg (.cons (.low _ trivial) (.cons (.low _ trivial) (.cons (.low _ trivial) (.cons (.low _ trivial) (.cons (.ms rfl) (.cons (.low _ trivial) (.cons (.low _ trivial) .nil)))))))) (.cons (.low _ trivial) .nil))) fun _=>.box rfl (KpL.low (nthC_below _ _ _ _ _))) fun r H' ⟨_,s,h1,h2⟩=>⟨s,h1,h2⟩
 refine zbg Tryz.E0 zaa Tryz.func14 (by kernel_rfl) rfl (Nat.le_of_ble_eq_true rfl) rfl fun hcl hbl=>?_
 (repeat' ((conv=>whnf);(first|(refine OrN.l ?_;refine NatN.mk _ rfl ?_;refine SideN.mk ⟨rfl,by omega,by dsimp only;omega⟩ ?_;refine OrN.r ?_)|(refine IfN.id ?_;first|refine IfN.not ?_|refine IfN.tt rfl ?_|refine IfN.ff rfl ?_|refine zas (by omega) ?_|fail)|refine EqN.i64 (by omega) ?_|refine CallN.det _ (hC _) ?_|fail)));conv=>whnf
 refine za9 Tryz.E0 zaa (σ:=Nat) (fun j=>j≤l.length) (fun j=>j) (fun j=>[(2,.v (.int .i64 (N >>> (n * (l.length-j)):Nat))),(11,.v (.int .i64 ((j:Int)-1)))]) (fun j=>[.box 27 [.int .u8 0,.int .i64 0,.nils,.int .i64 0,.nils,.nils,.nils],.box 60 (nthC l n N j),.box 27 [.int .u8 5,.int .i64 n,.nils,.int .i64 0,.ms (H.length+1) 0 l.length,.nils,.nils]]) _ l.length rfl hcl [0,1,6,10] rfl (Nat.le_refl _) ⟨⟨_,rfl,Wk.of_eq (by rw [Nat.sub_self,Nat.mul_zero];rfl)⟩,⟨_,rfl,Wk.refl _⟩,trivial⟩ (by unfold nthC;rw [he,List.append_nil];rfl) (fun _ _=>rfl) ?_
 intro j hj
 clear hbl
 rcases j with _|i
 ·rw [Nat.sub_zero]
  (repeat' ((conv=>whnf);(first|refine IfN.ff rfl ?_|fail)));conv=>whnf
  exact EndN.keep _ (Wk.refl _) ⟨(),rfl,rfl⟩
 ·have hi:i<l.length:=by omega
  have hX:N >>> (n * (l.length-(i+1)))≤N:=by rw [Nat.shiftRight_eq_div_pow];exact Nat.div_le_self _ _
  have hX2:(N >>> (n * (l.length-(i+1)))) >>> n=N >>> (n * (l.length-i)):=by
   rw [← Nat.shiftRight_add,show l.length-i=l.length-(i+1)+1 by omega,Nat.mul_add,Nat.mul_one]
  have hdg:(N >>> (n * (l.length-(i+1)))) &&& (1 <<< n-1)=dg n N l.length i:=by
   unfold dg
   rw [hsl,Nat.and_two_pow_sub_one_eq_mod,show l.length-1-i=l.length-(i+1) by omega]
  have hset:=hst i hi
  obtain ⟨s,hs⟩:∃ s,s=l.getD i eN:=⟨_,rfl⟩
  have e1:encSG (l.getD i eN)=[.str s]:=by rw [hs];rfl
  unfold fcN at hset
  rw [← hs,← hdg] at hset
  have hb1:=fun k=>nthC_below k l n N (i+1)
  have hb2:=fun k=>nthC_below k l n N i
  generalize hA:nthC l n N (i+1)=A at *
  generalize hA2:nthC l n N i=A2 at *
  generalize N >>> (n * (l.length-(i+1)))=X at *
  have hpw:1≤1 <<< n∧1 <<< n≤32:=by rw [hsl];exact ⟨h2p,h2n⟩
  (repeat' ((conv=>whnf);(first|refine zan (by omega) ?_|(refine EqN.id ?_;first|refine EqN.subN (1 <<< n) 1 rfl rfl ⟨by omega,by omega⟩ ?_|refine EqN.and X (1 <<< n-1) rfl rfl ⟨by omega,by omega⟩ ?_|(refine EqN.shlN _ _ Cst.h Cst.h rfl ?_ ?_ ?_;(· (repeat' (first|omega|refine And.intro ?_ ?_|exact zad (by omega)|exact zap (by omega)|refine zbb ?_ ?_|refine zao ?_ ?_|refine zau ?_ ?_|refine zal ?_ ?_|refine zav ?_|refine zaw ?_ ?_|refine zax ?_|refine zad ?_|fail)));(· (repeat' (first|omega|refine And.intro ?_ ?_|exact zad (by omega)|exact zap (by omega)|refine zbb ?_ ?_|refine zao ?_ ?_|refine zau ?_ ?_|refine zal ?_ ?_|refine zav ?_|refine zaw ?_ ?_|refine zax ?_|refine zad ?_|fail))))|fail)|(refine SideN.mk ?_ ?_;· first|omega|exact List.cons_ne_nil _ _|fail)|refine SegN.nthE (f:=encSG) eN i (by omega) hi encSG_size e1 ?_|refine OfsN.mk i (by omega) hi ?_|refine PtrN.loc _ rfl ?_|refine zah [] ?_|fail)));conv=>whnf
  have hstore:storeS Tryz.T 60 [.box 27 [.int .u8 0,.int .i64 0,.nils,.int .i64 0,.nils,.nils,.nils],.box 60 A,.box 27 [.int .u8 5,.int .i64 n,.nils,.int .i64 0,.ms (H.length+1) 0 l.length,.nils,.nils]] (some (.lp 1 (0+i * 3))) (some (.agg [.str s,.int .i64 0,.int .i64 (X &&& (1 <<< n-1):Nat)]))=.upd 1 (.box 60 A2) none:=storeS_box rfl rfl rfl rfl (by rw [Nat.zero_add];exact hset)
  refine Eq.mpr (congrArg (@SR.rec (fun _=>Prop) _ _ _ _ _ _ _ _ _ _ _ _ _ _ _ _ _ _ _ _ _) hstore) ?_
  (repeat' ((conv=>whnf);(first|(refine EqN.id ?_;first|refine EqN.shrN X n rfl rfl (by decide) (by omega) ?_|refine EqN.i64 (by omega) ?_|fail)|(refine SideN.mk ?_ ?_;· first|kernel_rfl|omega|fail)|fail)));conv=>whnf
  rw [hX2]
  subst hA2
  (refine ⟨⟨i,by show i≤_;omega,by omega,?_,.inl ⟨rfl,rfl⟩,rfl,_,rfl,?_⟩⟩;rotate_left 1;exact .inl rfl;(repeat' (first|exact trivial|refine ⟨⟨_,rfl,?_⟩,?_⟩|fail));all_goals (first|exact Wk.refl _|exact Wk.of_eq (congrArg (AV.int _) (by omega))|fail))
end
section
def cntE (l:List ByteArray) (n:Int):Int:=if n<1∨5<n then 2 else if isNmG l=false then 2 else if cntN l.length n.toNat=0 then 5 else 0
def cntV (l:List ByteArray) (n:Int):Nat:=if cntE l n=0 then cntN l.length n.toNat else 0
theorem cntE_in {l:List ByteArray} {n:Int} (h:cntE l n=0):(1≤n∧n≤5)∧isNmG l=true∧cntN l.length n.toNat≠0:=by
 unfold cntE at h
 split at h
 ·cases h
 ·split at h
  ·cases h
  ·split at h
   ·cases h
   ·rename_i h1 h2 h3
    exact ⟨by omega,by simpa using h2,h3⟩
theorem cntR_eq (l:List ByteArray) (n:Nat) (h1:1≤n) (h5:n≤5):cntR (isNmG l) l.length n=.tup [.int .i64 (cntV l n),.int .i64 (cntE l n)]:=by
 unfold cntR cntV cntE
 rw [if_neg (show ¬ ((n:Int)<1∨5<(n:Int)) by omega),Int.toNat_natCast]
 cases isNmG l with
 | false=>rfl
 | true =>
   rw [if_neg (show ¬ (true=false) from Bool.noConfusion)]
   by_cases hc:cntN l.length n=0
   ·rw [if_pos hc,hc]
    rfl
   ·rw [if_neg hc]
    rfl
theorem Count_all (l:List ByteArray) (hlen:l.length≤1000) (hsz:∀ c∈l,c.size≤9223372036854775807) (n:Int) (H:Heap):VDet Tryz.prog 13 [.sl none l.length (l.flatMap encSG),.int .i64 n] H (.tup [.int .i64 (cntV l n),.int .i64 (cntE l n)]):=by
 by_cases hn:n<1∨5<n
 ·have e:cntE l n=2:=if_pos hn
  unfold cntV
  rw [e]
  exact Count_no l n hn H
 ·obtain ⟨m,rfl⟩:∃ m:Nat,n=m:=⟨n.toNat,by omega⟩
  rw [← cntR_eq l m (by omega) (by omega)]
  exact Count_c l hlen hsz m (by omega) (by omega) H
theorem refCount_all (l:List ByteArray) (hlen:l.length≤1000) (hsz:∀ c∈l,c.size≤9223372036854775807) (n:Int) (H:Heap):VDet Tryz.prog 22 [.sl none l.length (l.flatMap encSG),.int .i64 n] H (.tup [.int .i64 (cntV l n),.int .i64 (cntE l n)]):=by
 by_cases hn:n<1∨5<n
 ·have e:cntE l n=2:=if_pos hn
  unfold cntV
  rw [e]
  exact refCount_no l hlen hsz n hn H
 ·obtain ⟨m,rfl⟩:∃ m:Nat,n=m:=⟨n.toNat,by omega⟩
  rw [← cntR_eq l m (by omega) (by omega)]
  exact refCount_c l hlen hsz m (by omega) (by omega) H
def nthE (l:List ByteArray) (n N:Int):Int:=if cntE l n≠0 then cntE l n else if N<0∨(cntV l n:Int)≤N then 6 else 0
attribute [local irreducible] VW VCall VO bits
theorem Nth_bad (l:List ByteArray) (hlen:l.length≤1000) (hsz:∀ c∈l,c.size≤9223372036854775807) (n N:Int) (he:nthE l n N≠0) (H:Heap):VDet Tryz.prog 14 [.sl none l.length (l.flatMap encSG),.int .i64 n,.int .i64 N] H (.tup [mdZ,.int .i64 (nthE l n N)]):=by
 have hC:=Count_all l hlen hsz n
 have hnb:=fun k=>encSG_below k l
 unfold nthE at he ⊢
 generalize cntV l n=cv at *
 generalize cntE l n=ce at *
 generalize l.flatMap encSG=lc at *
 by_cases h0:ce≠0
 ·rw [if_pos h0]
  refine zag Tryz.E0 zaa Tryz.func14 (by kernel_rfl) rfl (Nat.le_of_ble_eq_true rfl) rfl fun hcl hbl=>?_
  (repeat' ((conv=>whnf);(first|(refine IfN.id ?_;first|refine IfN.not ?_|refine zas (by omega) ?_|fail)|refine CallN.det _ (hC _) ?_|fail)));conv=>whnf
  exact eT (by simp [below,zac])
 ·rw [if_neg h0] at he ⊢
  have hb:N<0∨(cv:Int)≤N:=by
   by_cases hb:N<0∨(cv:Int)≤N
   ·exact hb
   ·rw [if_neg hb] at he
    exact absurd rfl he
  rw [if_pos hb]
  obtain rfl:ce=0:=by omega
  refine zag Tryz.E0 zaa Tryz.func14 (by kernel_rfl) rfl (Nat.le_of_ble_eq_true rfl) rfl fun hcl hbl=>?_
  (repeat' ((conv=>whnf);(first|(refine IfN.id ?_;first|refine IfN.not ?_|refine IfN.tt rfl ?_|refine zan (by omega) ?_|refine za3 (fun _=>?_) (fun _=>?_)|fail)|refine CallN.det _ (hC _) ?_|fail)));all_goals (conv=>whnf)
  all_goals first
   | exact eT (by simp [below,zac])
   | (exfalso;omega)
def fcR (l:List ByteArray) (n N j:Nat):List AV:=(List.range j).flatMap (fcN l n N)
theorem fcR_succ (l:List ByteArray) (n N j:Nat):fcR l n N (j+1)=fcR l n N j++fcN l n N j:=by
 unfold fcR
 rw [List.range_succ,List.flatMap_append]
 simp
theorem fcR_FN (l:List ByteArray) (n N:Nat):fcR l n N l.length=FN l n N 0:=by
 unfold fcR FN
 rw [Nat.sub_zero,List.range_eq_range']
theorem fcR_len (l:List ByteArray) (n N:Nat):∀ j,(fcR l n N j).length=j * 3
 | 0=>rfl
 | j+1=>by
   rw [fcR_succ,List.length_append,fcR_len l n N j,show (fcN l n N j).length=3 from rfl]
   omega
theorem fcR_below (k:Nat) (l:List ByteArray) (n N j:Nat):zac k (fcR l n N j):=fcs_below k l n N _
def refN (l:List ByteArray) (n N:Int):AV:=if nthE l n N=0 then .tup [mdN n (N.toNat >>> (n.toNat * l.length):Nat) (.sl none l.length (FN l n.toNat N.toNat 0)),.int .i64 0] else .tup [.agg [.int .u8 0,.int .i64 0,.nils,.int .i64 0,.sl none 0 [],.nils,.nils],.int .i64 (nthE l n N)]
theorem refNth_c (l:List ByteArray) (hlen:l.length≤1000) (hsz:∀ c∈l,c.size≤9223372036854775807) (n N:Int) (H:Heap):VDet Tryz.prog 23 [.sl none l.length (l.flatMap encSG),.int .i64 n,.int .i64 N] H (refN l n N):=by
 have hC:=refCount_all l hlen hsz n
 have hnb:=fun k=>encSG_below k l
 unfold refN
 by_cases he:nthE l n N=0
 ·rw [if_pos he]
  unfold nthE at he
  by_cases h0:cntE l n≠0
  ·rw [if_pos h0] at he;exact absurd he h0
  ·rw [if_neg h0] at he
   have h0:cntE l n=0:=by omega
   obtain ⟨⟨n1,n5⟩,hnm,hcn⟩:=cntE_in h0
   have hb:¬ (N<0∨(cntV l n:Int)≤N):=fun q=>by rw [if_pos q] at he;cases he
   obtain ⟨m,rfl⟩:∃ m:Nat,n=m:=⟨n.toNat,by omega⟩
   obtain ⟨K,rfl⟩:∃ m:Nat,N=m:=⟨N.toNat,by omega⟩
   have hv:cntV l m=pw m l.length:=by
    unfold cntV
    rw [if_pos h0,Int.toNat_natCast,cnt_pw _ _ (by omega),if_neg]
    intro q
    rw [Int.toNat_natCast,cnt_pw _ _ (by omega),if_pos q] at hcn
    exact hcn rfl
   have hv2:cntV l m≤16384:=by
    unfold cntV
    rw [if_pos h0]
    exact cntN_le _ _
   rw [hv] at hC hb hv2
   rw [h0] at hC
   rw [Int.toNat_natCast,Int.toNat_natCast]
   have hpw:pw m l.length=m * 2 ^ (m * l.length):=rfl
   have hm0:1≤m:=by omega
   have hm5:m≤5:=by omega
   have hE:∀ j,1≤2 ^ (m * j):=fun j=>Nat.pow_pos (by decide)
   have hq0:pw m l.length / m=2 ^ (m * l.length):=by rw [hpw];exact Nat.mul_div_cancel_left _ (by omega)
   have hEle:∀ j,j≤l.length→2 ^ (m * j)≤16384:=fun j hj=>by
    have h1:2 ^ (m * j)≤2 ^ (m * l.length):=Nat.pow_le_pow_right (by decide) (Nat.mul_le_mul_left _ hj)
    have h2:2 ^ (m * l.length)≤m * 2 ^ (m * l.length):=Nat.le_mul_of_pos_left _ hm0
    omega
   have hEs:∀ j,2 ^ (m * (j+1))=2 ^ (m * j) * 2 ^ m:=fun j=>by rw [Nat.mul_add,Nat.mul_one,Nat.pow_add]
   have hsl:1 <<< m=2 ^ m:=Nat.one_shiftLeft _
   have h2m:1≤2 ^ m∧2 ^ m≤32:=⟨Nat.pow_pos (by decide),Nat.le_trans (Nat.pow_le_pow_right (by decide) hm5) (by decide)⟩
   have hdiv:K >>> (m * l.length)=K / 2 ^ (m * l.length):=Nat.shiftRight_eq_div_pow _ _
   have hdg:∀ i,i<l.length→(K % 2 ^ (m * (l.length-i))) / 2 ^ (m * (l.length-1-i))=dg m K l.length i:=fun i hi=>by
    unfold dg
    rw [Nat.shiftRight_eq_div_pow,show l.length-i=(l.length-1-i)+1 by omega,hEs]
    exact Nat.mod_mul_right_div_self _ _ _
   have hmd:∀ i,i<l.length→(K % 2 ^ (m * (l.length-i))) % 2 ^ (m * (l.length-1-i))=K % 2 ^ (m * (l.length-(i+1))):=fun i hi=>by
    rw [show l.length-i=(l.length-1-i)+1 by omega,hEs,show l.length-(i+1)=l.length-1-i by omega]
    exact Nat.mod_mul_right_mod _ _ _
   have hde:∀ i,i<l.length→2 ^ (m * (l.length-i)) / 2 ^ m=2 ^ (m * (l.length-1-i)):=fun i hi=>by
    rw [show l.length-i=(l.length-1-i)+1 by omega,hEs]
    exact Nat.mul_div_cancel _ h2m.1
   have hfl:=fcR_len l m K
   have hfs:=fun j=>fcR_succ l m K j
   have hfb:=fun k j=>fcR_below k l m K j
   have hKb:K<pw m l.length:=by omega
   have hX:∀ j,K % 2 ^ (m * j)≤K:=fun j=>Nat.mod_le _ _
   rw [← fcR_FN,hdiv]
   have hq1:=quoN (pw m l.length) m hm0 (by omega)
   have hq2:=quoN K (2 ^ (m * l.length)) (hE _) (by omega)
   rw [hq0] at hq1
   have hE0:=hE l.length
   have hs1:1≤1 <<< m:=by rw [hsl];exact h2m.1
   have hE0l:=hEle l.length (Nat.le_refl _)
   generalize hE0d:2 ^ (m * l.length)=E0 at *
   generalize hPd:pw m l.length=P at *
   refine zag Tryz.E0 zaa Tryz.func23 (by kernel_rfl) rfl (Nat.le_of_ble_eq_true rfl) rfl fun hcl hbl=>?_
   (repeat' ((conv=>whnf);(first|(refine IfN.id ?_;first|refine IfN.not ?_|refine IfN.tt rfl ?_|refine IfN.ff rfl ?_|refine zas (by omega) ?_|fail)|(refine EqN.id ?_;first|refine EqN.mk _ hq1 ?_|refine EqN.mk _ hq2 ?_|refine zbq K E0 rfl rfl ?_|fail)|refine SideN.mk (by omega) ?_|refine CallN.det _ (hC _) ?_|fail)));conv=>whnf
   refine LoopN.tokB 1 4 60 3 rfl rfl rfl rfl rfl rfl ?_
   refine za9 Tryz.E0 zaa (σ:=Nat) (fun j=>j≤l.length) (fun j=>l.length-j) (fun j=>[(2,.v (.int .i64 (K % 2 ^ (m * (l.length-j)):Nat))),(11,.v (.int .i64 (2 ^ (m * (l.length-j)):Nat))),(12,.v (.int .i64 j))]) (fun j=>[.box 27 [.int .u8 0,.int .i64 0,.nils,.int .i64 0,.nils,.nils,.nils],.box 27 [.int .u8 5,.int .i64 m,.nils,.int .i64 (K / E0:Nat),.sl (some (H.length+2)) j (fcR l m K j),.nils,.nils],.tok 60 3 (fcR l m K j).length]) _ 0 rfl hcl [0,1,6,10] rfl (Nat.zero_le _) ⟨⟨_,rfl,Wk.of_eq (by rw [Nat.sub_zero,hE0d])⟩,⟨_,rfl,Wk.of_eq (by rw [Nat.sub_zero,hE0d])⟩,⟨_,rfl,Wk.refl _⟩,trivial⟩ rfl (fun _ _=>rfl) ?_
   intro j hj
   clear hbl
   rcases Nat.lt_or_ge j l.length with hlt|hge
   ·have h2:=hfs j
    have h3:=hfl j
    have hb1:=fun k=>hfb k j
    have hb2:=fun k=>hfb k (j+1)
    obtain ⟨s,hs⟩:∃ s,s=l.getD j eN:=⟨_,rfl⟩
    have e1:encSG (l.getD j eN)=[.str s]:=by rw [hs];rfl
    unfold fcN at h2
    rw [← hs] at h2
    have q1:=hde j hlt
    have q2:=hdg j hlt
    have q3:=hmd j hlt
    have q4:=hE (l.length-1-j)
    have q5:=hX (l.length-j)
    have q6:=hEle (l.length-j) (by omega)
    have q7:=hEle (l.length-1-j) (by omega)
    have e0:l.length-1-j=l.length-(j+1):=by omega
    rw [e0] at q1 q2 q3 q4 q7
    generalize hE2:2 ^ (m * (l.length-(j+1)))=E2 at *
    generalize hX2:K % E2=X2 at *
    generalize K % 2 ^ (m * (l.length-j))=X at *
    generalize 2 ^ (m * (l.length-j))=E at *
    generalize dg m K l.length j=D at *
    have r1:IntKind.i64.wrap (((E:Nat):Int).tdiv ((1 <<< m:Nat):Int))=((E2:Nat):Int):=by
     rw [quoN E (1 <<< m) (by rw [hsl];exact h2m.1) (by omega),hsl,q1]
    have r2:IntKind.i64.wrap (((X:Nat):Int).tdiv ((E2:Nat):Int))=((D:Nat):Int):=by
     rw [quoN X E2 q4 (by omega),q2]
    generalize hA:fcR l m K j=A at *
    generalize hA2:fcR l m K (j+1)=A2 at *
    (repeat' ((conv=>whnf);(first|refine zan (by omega) ?_|(refine EqN.id ?_;first|refine EqN.mk _ r1 ?_|refine EqN.mk _ r2 ?_|refine zbq X E2 rfl rfl ?_|(refine EqN.shlN _ _ Cst.h Cst.h rfl ?_ ?_ ?_;(· (repeat' (first|omega|refine And.intro ?_ ?_|exact zad (by omega)|exact zap (by omega)|refine zbb ?_ ?_|refine zao ?_ ?_|refine zau ?_ ?_|refine zal ?_ ?_|refine zav ?_|refine zaw ?_ ?_|refine zax ?_|refine zad ?_|fail)));(· (repeat' (first|omega|refine And.intro ?_ ?_|exact zad (by omega)|exact zap (by omega)|refine zbb ?_ ?_|refine zao ?_ ?_|refine zau ?_ ?_|refine zal ?_ ?_|refine zav ?_|refine zaw ?_ ?_|refine zax ?_|refine zad ?_|fail))))|(refine zaf _ _ Cst.h Cst.h ?_ ?_;· omega)|fail)|(refine SideN.mk ?_ ?_;· first|kernel_rfl|omega|exact List.cons_ne_nil _ _|fail)|refine SegN.nthE (f:=encSG) eN j rfl hlt encSG_size e1 ?_|refine SideN.mk ⟨rfl,rfl,rfl,by dsimp only;omega,by simp only [maxLen];omega⟩ ?_|refine PtrN.loc _ rfl ?_|refine zah [] ?_|fail)));conv=>whnf
    rw [← h2,q3]
    subst hA2
    subst hX2
    subst hE2
    (refine ⟨⟨j+1,by show j+1≤_;omega,by omega,?_,.inl ⟨rfl,rfl⟩,rfl,_,rfl,?_⟩⟩;rotate_left 1;exact .inl rfl;exact ⟨⟨_,rfl,Wk.refl _⟩,⟨_,rfl,Wk.refl _⟩,⟨_,rfl,Wk.refl _⟩,trivial⟩)
   ·obtain rfl:j=l.length:=by omega
    have hb1:=fun k=>hfb k l.length
    (repeat' ((conv=>whnf);(first|refine zas (by omega) ?_|fail)));conv=>whnf
    exact EndN.det (by simp [below,zac,hb1]) (by (repeat' (first|exact trivial|refine And.intro ?_ ?_|exact Wk.refl _|exact wk_sl _ _ _|refine zbp ?_|refine wk_tup ?_|fail));done)
 ·rw [if_neg he]
  unfold nthE at he ⊢
  generalize cntV l n=cv at *
  generalize cntE l n=ce at *
  generalize l.flatMap encSG=lc at *
  by_cases h0:ce≠0
  ·rw [if_pos h0]
   refine zag Tryz.E0 zaa Tryz.func23 (by kernel_rfl) rfl (Nat.le_of_ble_eq_true rfl) rfl fun hcl hbl=>?_
   (repeat' ((conv=>whnf);(first|(refine IfN.id ?_;first|refine IfN.not ?_|refine zas (by omega) ?_|fail)|refine CallN.det _ (hC _) ?_|fail)));conv=>whnf
   exact EndN.det (by simp [below,zac]) (by (repeat' (first|exact trivial|refine And.intro ?_ ?_|exact Wk.refl _|exact zak|refine zbp ?_|refine wk_tup ?_|fail));done)
  ·rw [if_neg h0] at he ⊢
   have hb:N<0∨(cv:Int)≤N:=by
    by_cases hb:N<0∨(cv:Int)≤N
    ·exact hb
    ·rw [if_neg hb] at he
     exact absurd rfl he
   rw [if_pos hb]
   obtain rfl:ce=0:=by omega
   refine zag Tryz.E0 zaa Tryz.func23 (by kernel_rfl) rfl (Nat.le_of_ble_eq_true rfl) rfl fun hcl hbl=>?_
   (repeat' ((conv=>whnf);(first|(refine IfN.id ?_;first|refine IfN.not ?_|refine IfN.tt rfl ?_|refine zan (by omega) ?_|refine za3 (fun _=>?_) (fun _=>?_)|fail)|refine CallN.det _ (hC _) ?_|fail)));all_goals (conv=>whnf)
   all_goals first
    | exact EndN.det (by simp [below,zac]) (by (repeat' (first|exact trivial|refine And.intro ?_ ?_|exact Wk.refl _|exact zak|refine zbp ?_|refine wk_tup ?_|fail));done)
    | (exfalso;omega)
end
end Go.Proofs.YtjflngchbeegcaaGreatDoor.P10.C
namespace Go.Proofs.YtjflngchbeegcaaGreatDoor
open Go.Vsi
section
attribute [local irreducible] VW VCall VO
def befK (n lp mask:Nat):Nat→Nat
 | 0=>0
 | k+1=>befK n lp mask k ||| ((mask >>> posN n lp (k+1)) &&& 1) <<< k
def befN (n lp mask:Nat):Nat:=befK n lp mask n
theorem bit_lt {b k:Nat}:(b &&& 1) <<< k<2 ^ (k+1):=by
 have:b &&& 1≤1:=Nat.and_le_right
 rw [Nat.shiftLeft_eq,Nat.pow_succ]
 have h2:(b &&& 1) * 2 ^ k≤1 * 2 ^ k:=Nat.mul_le_mul_right _ this
 have:0<2 ^ k:=Nat.two_pow_pos k
 omega
theorem befK_lt (n lp mask:Nat):∀ k,befK n lp mask k<2 ^ k
 | 0=>by simp [befK]
 | k+1=>Nat.or_lt_two_pow (Nat.lt_trans (befK_lt n lp mask k) (Nat.pow_lt_pow_right (by decide) (by omega))) bit_lt
theorem p2_32 {n m:Nat} (h:m<2 ^ n) (hn:n≤5):m<32:=Nat.lt_of_lt_of_le h (Nat.pow_le_pow_right (n:=2) (by decide) hn)
theorem befN_lt (n lp mask:Nat):befN n lp mask<2 ^ n:=befK_lt n lp mask n
theorem before_c (t:Tr) (ht:t.Ok) (mask:Nat) (hm:mask<32) (H:Heap):VDet Tryz.prog 118 [.agg t.cells,.int .i64 mask] H (.int .i64 (befN t.n t.lp mask:Nat)):=by
 have hp:=fun x hx H=>position_c t ht x hx H
 obtain ⟨n,lp,fs⟩:=t
 have h1:=ht.n1
 have h2:=ht.n5
 have h3:=ht.lp
 unfold Tr.cells at hp ⊢
 simp only at h1 h2 h3 hp ⊢
 refine zag Tryz.E0 zaa Tryz.func118 (by kernel_rfl) rfl (Nat.le_of_ble_eq_true rfl) rfl fun hcl hbl=>?_
 conv=>whnf
 refine za9 Tryz.E0 zaa (σ:=Nat) (fun k=>k≤n) (fun k=>n-k) (fun k=>[(5,.v (.int .i64 (befK n lp mask k:Nat))),(9,.v (.int .i64 k))]) (fun _=>_) _ 0 rfl hcl [1,2,8] rfl (Nat.zero_le _) ⟨⟨_,rfl,Wk.refl _⟩,⟨_,rfl,Wk.refl _⟩,trivial⟩ rfl (fun _ _=>rfl) ?_
 intro k hk
 have hb:befK n lp mask k<32:=p2_32 (befK_lt n lp mask k) (by omega)
 have hq:posN n lp (k+1)<5:=Nat.lt_of_lt_of_le (posN_lt h3) h2
 clear hbl
 (repeat' ((conv=>whnf);(first|refine za3 (fun _=>?_) (fun _=>?_)|(refine EqN.id ?_;first|(refine EqN.and _ _ Cst.h Cst.h ?_ ?_;· (repeat' (first|omega|refine And.intro ?_ ?_|exact zad (by omega)|exact zap (by omega)|refine zbb ?_ ?_|refine zao ?_ ?_|refine zau ?_ ?_|refine zal ?_ ?_|refine zav ?_|refine zaw ?_ ?_|refine zax ?_|refine zad ?_|fail)))|(refine EqN.or _ _ Cst.h Cst.h ?_ ?_;· (repeat' (first|omega|refine And.intro ?_ ?_|exact zad (by omega)|exact zap (by omega)|refine zbb ?_ ?_|refine zao ?_ ?_|refine zau ?_ ?_|refine zal ?_ ?_|refine zav ?_|refine zaw ?_ ?_|refine zax ?_|refine zad ?_|fail)))|(refine EqN.shrN _ _ Cst.h Cst.h rfl ?_ ?_;· (repeat' (first|omega|refine And.intro ?_ ?_|exact zad (by omega)|exact zap (by omega)|refine zbb ?_ ?_|refine zao ?_ ?_|refine zau ?_ ?_|refine zal ?_ ?_|refine zav ?_|refine zaw ?_ ?_|refine zax ?_|refine zad ?_|fail)))|(refine EqN.shlN _ _ Cst.h Cst.h rfl ?_ ?_ ?_;(· (repeat' (first|omega|refine And.intro ?_ ?_|exact zad (by omega)|exact zap (by omega)|refine zbb ?_ ?_|refine zao ?_ ?_|refine zau ?_ ?_|refine zal ?_ ?_|refine zav ?_|refine zaw ?_ ?_|refine zax ?_|refine zad ?_|fail)));(· (repeat' (first|omega|refine And.intro ?_ ?_|exact zad (by omega)|exact zap (by omega)|refine zbb ?_ ?_|refine zao ?_ ?_|refine zau ?_ ?_|refine zal ?_ ?_|refine zav ?_|refine zaw ?_ ?_|refine zax ?_|refine zad ?_|fail))))|(refine zaf _ _ Cst.h Cst.h ?_ ?_;· omega)|fail)|refine SideN.mk (by omega) ?_|refine CallN.det _ (hp (k+1) (by omega) _) ?_|fail)));all_goals (conv=>whnf)
 ·(refine ⟨⟨k+1,by omega,by omega,?_,.inl ⟨rfl,rfl⟩,rfl,_,rfl,?_⟩⟩;rotate_left 1;exact .inl rfl;exact ⟨⟨_,rfl,Wk.refl _⟩,⟨_,rfl,Wk.refl _⟩,trivial⟩)
 ·have:k=n:=by omega
  subst this
  exact eT trivial
def itN (F:Nat→Nat):Nat→Nat→Nat
 | 0,x=>x
 | k+1,x=>F (itN F k x)
theorem itN_fix {F:Nat→Nat} {x j:Nat} (h:F (itN F j x)=itN F j x):∀ k,itN F (j+k) x=itN F j x
 | 0=>rfl
 | k+1=>by
   have:=itN_fix h k
   show F (itN F (j+k) x)=_
   rw [this,h]
theorem settle_c (fn:FuncId) (cs:List AV) (F:Nat→Nat) (K x:Nat) (H:Heap) (hF:∀ j,j≤K→itN F j x<32) (hK:F (itN F K x)=itN F K x)
  (hc:∀ y,y<32→∀ X:Heap,VDet Tryz.prog fn (appL [.int .i64 (y:Nat)] cs) (H++X) (.int .i64 (F y:Nat))) :
  VDet Tryz.prog 120 [.int .i64 x,.clo (.func fn) [] cs] H (.int .i64 (itN F K x:Nat)):=by
 refine zag Tryz.E0 zaa Tryz.func120 (by kernel_rfl) rfl (Nat.le_of_ble_eq_true rfl) rfl fun hcl hbl=>?_
 conv=>whnf
 refine za9 Tryz.E0 zaa (σ:=Nat) (fun j=>j≤K) (fun j=>K-j) (fun j=>[(0,.v (.int .i64 (itN F j x:Nat)))]) (fun _=>_) _ 0 rfl hcl [1] rfl (Nat.zero_le _) ⟨⟨_,rfl,Wk.refl _⟩,trivial⟩ rfl (fun _ _=>rfl) ?_
 intro j hj
 have h32:=hF j hj
 clear hbl
 (repeat' ((conv=>whnf);(first|refine za3 (fun _=>?_) (fun _=>?_)|refine CallN.det _ (hc (itN F j x) h32 []) ?_|fail)));all_goals (conv=>whnf)
 ·rename_i he
  have he:F (itN F j x)=itN F j x:=by omega
  have:=itN_fix he (K-j)
  rw [show j+(K-j)=K by omega] at this
  exact EndN.det trivial (Wk.of_eq (by rw [this]))
 ·rename_i he
  have hjK:j<K:=by
   rcases Nat.lt_or_ge j K with h|h
   ·exact h
   ·have:j=K:=by omega
    subst this
    exact absurd (by omega) he
  (refine ⟨⟨j+1,hjK,by omega,?_,.inl ⟨rfl,rfl⟩,rfl,_,rfl,?_⟩⟩;rotate_left 1;exact .inl rfl;exact ⟨⟨_,rfl,Wk.refl _⟩,trivial⟩)
end
section
attribute [local irreducible] VW VCall VO bits
def every (n:Nat):Nat:=1 <<< n-1
theorem every_lt {n:Nat} (h:n≤5):every n<32:=by
 have:n=0∨n=1∨n=2∨n=3∨n=4∨n=5:=by omega
 rcases this with rfl|rfl|rfl|rfl|rfl|rfl <;> decide
def nt (e a:Nat):Nat:=e ^^^ (e &&& a)
theorem op1_c (a b:Nat) (H:Heap):VDet Tryz.prog 111 [.int .i64 a,.int .i64 b] H (.int .i64 0):=by
 refine zag Tryz.E0 zaa Tryz.func111 (by kernel_rfl) rfl (Nat.le_of_ble_eq_true rfl) rfl fun hcl hbl=>?_
 conv=>whnf
 exact eT trivial
theorem op2_c (e a b:Nat) (he:e<32) (ha:a<32) (H:Heap):VDet Tryz.prog 112 [.int .i64 a,.int .i64 b,.rptr [.int .i64 e]] H (.int .i64 (nt e a:Nat)):=by
 refine zag Tryz.E0 zaa Tryz.func112 (by kernel_rfl) rfl (Nat.le_of_ble_eq_true rfl) rfl fun hcl hbl=>?_
 (repeat' ((conv=>whnf);(first|(refine EqN.andNot _ _ Cst.h Cst.h ?_ ?_;· (repeat' (first|omega|refine And.intro ?_ ?_|exact zad (by omega)|exact zap (by omega)|refine zbb ?_ ?_|refine zao ?_ ?_|refine zau ?_ ?_|refine zal ?_ ?_|refine zav ?_|refine zaw ?_ ?_|refine zax ?_|refine zad ?_|fail)))|fail)));conv=>whnf
 exact eT trivial
theorem op3_c (a b:Nat) (ha:a<32) (hb:b<32) (H:Heap):VDet Tryz.prog 113 [.int .i64 a,.int .i64 b] H (.int .i64 (a &&& b:Nat)):=by
 refine zag Tryz.E0 zaa Tryz.func113 (by kernel_rfl) rfl (Nat.le_of_ble_eq_true rfl) rfl fun hcl hbl=>?_
 (repeat' ((conv=>whnf);(first|(refine EqN.and _ _ Cst.h Cst.h ?_ ?_;· (repeat' (first|omega|refine And.intro ?_ ?_|exact zad (by omega)|exact zap (by omega)|refine zbb ?_ ?_|refine zao ?_ ?_|refine zau ?_ ?_|refine zal ?_ ?_|refine zav ?_|refine zaw ?_ ?_|refine zax ?_|refine zad ?_|fail)))|fail)));conv=>whnf
 exact eT trivial
theorem op4_c (a b:Nat) (ha:a<32) (hb:b<32) (H:Heap):VDet Tryz.prog 114 [.int .i64 a,.int .i64 b] H (.int .i64 (a ||| b:Nat)):=by
 refine zag Tryz.E0 zaa Tryz.func114 (by kernel_rfl) rfl (Nat.le_of_ble_eq_true rfl) rfl fun hcl hbl=>?_
 (repeat' ((conv=>whnf);(first|(refine EqN.or _ _ Cst.h Cst.h ?_ ?_;· (repeat' (first|omega|refine And.intro ?_ ?_|exact zad (by omega)|exact zap (by omega)|refine zbb ?_ ?_|refine zao ?_ ?_|refine zau ?_ ?_|refine zal ?_ ?_|refine zav ?_|refine zaw ?_ ?_|refine zax ?_|refine zad ?_|fail)))|fail)));conv=>whnf
 exact eT trivial
theorem op5_c (e a b:Nat) (he:e<32) (ha:a<32) (hb:b<32) (H:Heap):VDet Tryz.prog 115 [.int .i64 a,.int .i64 b,.rptr [.int .i64 e]] H (.int .i64 (nt e a ||| b:Nat)):=by
 refine zag Tryz.E0 zaa Tryz.func115 (by kernel_rfl) rfl (Nat.le_of_ble_eq_true rfl) rfl fun hcl hbl=>?_
 (repeat' ((conv=>whnf);(first|(refine EqN.id ?_;first|(refine EqN.or _ _ Cst.h Cst.h ?_ ?_;· (repeat' (first|omega|refine And.intro ?_ ?_|exact zad (by omega)|exact zap (by omega)|refine zbb ?_ ?_|refine zao ?_ ?_|refine zau ?_ ?_|refine zal ?_ ?_|refine zav ?_|refine zaw ?_ ?_|refine zax ?_|refine zad ?_|fail)))|(refine EqN.andNot _ _ Cst.h Cst.h ?_ ?_;· (repeat' (first|omega|refine And.intro ?_ ?_|exact zad (by omega)|exact zap (by omega)|refine zbb ?_ ?_|refine zao ?_ ?_|refine zau ?_ ?_|refine zal ?_ ?_|refine zav ?_|refine zaw ?_ ?_|refine zax ?_|refine zad ?_|fail)))|fail)|fail)));conv=>whnf
 exact eT trivial
theorem op6_c (e a b:Nat) (he:e<32) (ha:a<32) (hb:b<32) (H:Heap):VDet Tryz.prog 116 [.int .i64 a,.int .i64 b,.rptr [.int .i64 e]] H (.int .i64 (nt e (a ^^^ b):Nat)):=by
 refine zag Tryz.E0 zaa Tryz.func116 (by kernel_rfl) rfl (Nat.le_of_ble_eq_true rfl) rfl fun hcl hbl=>?_
 (repeat' ((conv=>whnf);(first|(refine EqN.id ?_;first|(refine EqN.xor _ _ Cst.h Cst.h ?_ ?_;· (repeat' (first|omega|refine And.intro ?_ ?_|exact zad (by omega)|exact zap (by omega)|refine zbb ?_ ?_|refine zao ?_ ?_|refine zau ?_ ?_|refine zal ?_ ?_|refine zav ?_|refine zaw ?_ ?_|refine zax ?_|refine zad ?_|fail)))|(refine EqN.andNot _ _ Cst.h Cst.h ?_ ?_;· (repeat' (first|omega|refine And.intro ?_ ?_|exact zad (by omega)|exact zap (by omega)|refine zbb ?_ ?_|refine zao ?_ ?_|refine zau ?_ ?_|refine zal ?_ ?_|refine zav ?_|refine zaw ?_ ?_|refine zax ?_|refine zad ?_|fail)))|fail)|fail)));conv=>whnf
 exact eT trivial
theorem op7_c (t:Tr) (ht:t.Ok) (a b:Nat) (ha:a<32) (H:Heap):VDet Tryz.prog 117 [.int .i64 a,.int .i64 b,.rptr t.cells] H (.int .i64 (befN t.n t.lp a:Nat)):=by
 have hb:=before_c t ht a ha
 obtain ⟨n,lp,fs⟩:=t
 unfold Tr.cells at hb ⊢
 simp only at hb ⊢
 refine zag Tryz.E0 zaa Tryz.func117 (by kernel_rfl) rfl (Nat.le_of_ble_eq_true rfl) rfl fun hcl hbl=>?_
 (repeat' ((conv=>whnf);(first|refine CallN.det _ (hb _) ?_|fail)));conv=>whnf
 exact eT trivial
theorem op8i_c (t:Tr) (ht:t.Ok) (a x:Nat) (ha:a<32) (hx:x<32) (H:Heap) (i:Nat) (hi:H[i]? = some (.box 3 [.int .i64 a])):VDet Tryz.prog 121 [.int .i64 x,.ptr i 0,.rptr t.cells] H (.int .i64 (a &&& befN t.n t.lp x:Nat)):=by
 have hb:=before_c t ht x hx
 have hl:=p2_32 (befN_lt t.n t.lp x) ht.n5
 obtain ⟨n,lp,fs⟩:=t
 unfold Tr.cells at hb ⊢
 simp only at hb hl ⊢
 refine zag Tryz.E0 zaa Tryz.func121 (by kernel_rfl) rfl (Nat.le_of_ble_eq_true rfl) rfl fun hcl hbl=>?_
 (repeat' ((conv=>whnf);(first|(refine EqN.and _ _ Cst.h Cst.h ?_ ?_;· (repeat' (first|omega|refine And.intro ?_ ?_|exact zad (by omega)|exact zap (by omega)|refine zbb ?_ ?_|refine zao ?_ ?_|refine zau ?_ ?_|refine zal ?_ ?_|refine zav ?_|refine zaw ?_ ?_|refine zax ?_|refine zad ?_|fail)))|refine SideN.mk (by kernel_rfl) ?_|refine CallD.det _ (fun _ hq X=>hb _) ?_|refine PtrN.base _ (by (repeat' (first|assumption|exact za4 _ rfl|exact zam rfl|refine zar (B':=?_) ?_|refine zai ?_|fail))) ?_|refine zah [] ?_|fail)));conv=>whnf
 exact eT trivial
theorem op9i_c (t:Tr) (ht:t.Ok) (a b x:Nat) (ha:a<32) (hbb:b<32) (hx:x<32) (H:Heap) (i j:Nat) (hi:H[i]? = some (.box 3 [.int .i64 a])) (hj:H[j]? = some (.box 3 [.int .i64 b])):VDet Tryz.prog 123 [.int .i64 x,.ptr j 0,.ptr i 0,.rptr t.cells] H (.int .i64 (b ||| (a &&& befN t.n t.lp x):Nat)):=by
 have hb:=before_c t ht x hx
 have hl:=p2_32 (befN_lt t.n t.lp x) ht.n5
 obtain ⟨n,lp,fs⟩:=t
 unfold Tr.cells at hb ⊢
 simp only at hb hl ⊢
 refine zag Tryz.E0 zaa Tryz.func123 (by kernel_rfl) rfl (Nat.le_of_ble_eq_true rfl) rfl fun hcl hbl=>?_
 (repeat' ((conv=>whnf);(first|(refine EqN.id ?_;first|(refine EqN.and _ _ Cst.h Cst.h ?_ ?_;· (repeat' (first|omega|refine And.intro ?_ ?_|exact zad (by omega)|exact zap (by omega)|refine zbb ?_ ?_|refine zao ?_ ?_|refine zau ?_ ?_|refine zal ?_ ?_|refine zav ?_|refine zaw ?_ ?_|refine zax ?_|refine zad ?_|fail)))|(refine EqN.or _ _ Cst.h Cst.h ?_ ?_;· (repeat' (first|omega|refine And.intro ?_ ?_|exact zad (by omega)|exact zap (by omega)|refine zbb ?_ ?_|refine zao ?_ ?_|refine zau ?_ ?_|refine zal ?_ ?_|refine zav ?_|refine zaw ?_ ?_|refine zax ?_|refine zad ?_|fail)))|fail)|refine SideN.mk (by kernel_rfl) ?_|refine CallD.det _ (fun _ hq X=>hb _) ?_|refine PtrN.base _ (by (repeat' (first|assumption|exact za4 _ rfl|exact zam rfl|refine zar (B':=?_) ?_|refine zai ?_|fail))) ?_|refine zah [] ?_|fail)));conv=>whnf
 exact eT trivial
def alF (n lp a:Nat) (x:Nat):Nat:=a &&& befN n lp x
def unF (n lp a b:Nat) (x:Nat):Nat:=b ||| (a &&& befN n lp x)
def alN (n lp a:Nat):Nat:=itN (alF n lp a) 5 (every n)
def unN (n lp a b:Nat):Nat:=itN (unF n lp a b) 5 0
def allM (p:Nat→Nat→Nat→Bool):Bool:=(List.range 6).all fun n=>(List.range n).all fun lp=>(List.range (2 ^ n)).all fun a=>p n lp a
theorem allM_get {p:Nat→Nat→Nat→Bool} (h:allM p=true) {n lp a:Nat} (hn:n≤5) (hl:lp<n) (ha:a<2 ^ n):p n lp a=true:=by
 unfold allM at h
 rw [List.all_eq_true] at h
 have h1:=h n (List.mem_range.2 (by omega))
 rw [List.all_eq_true] at h1
 have h2:=h1 lp (List.mem_range.2 hl)
 rw [List.all_eq_true] at h2
 exact h2 a (List.mem_range.2 ha)
def allM2 (p:Nat→Nat→Nat→Nat→Bool):Bool:=allM fun n lp a=>(List.range (2 ^ n)).all fun b=>p n lp a b
theorem allM2_get {p:Nat→Nat→Nat→Nat→Bool} (h:allM2 p=true) {n lp a b:Nat} (hn:n≤5) (hl:lp<n) (ha:a<2 ^ n) (hb:b<2 ^ n):p n lp a b=true:=by
 have h1:=allM_get h hn hl ha
 rw [List.all_eq_true] at h1
 exact h1 b (List.mem_range.2 hb)
theorem al_chk:allM (fun n lp a=>Nat.beq (alF n lp a (alN n lp a)) (alN n lp a))=true:=by kernel_rfl
theorem un_chk:allM2 (fun n lp a b=>Nat.beq (unF n lp a b (unN n lp a b)) (unN n lp a b))=true:=by kernel_rfl
theorem al_fix {n lp a:Nat} (hn:n≤5) (hl:lp<n) (ha:a<2 ^ n):alF n lp a (alN n lp a)=alN n lp a:=Nat.eq_of_beq_eq_true (allM_get al_chk hn hl ha)
theorem un_fix {n lp a b:Nat} (hn:n≤5) (hl:lp<n) (ha:a<2 ^ n) (hb:b<2 ^ n):unF n lp a b (unN n lp a b)=unN n lp a b:=Nat.eq_of_beq_eq_true (allM2_get un_chk hn hl ha hb)
theorem al_lt (n lp a:Nat) (hn:n≤5) (ha:a<32):∀ j,itN (alF n lp a) j (every n)<32
 | 0=>every_lt hn
 | _+1=>zad ha
theorem un_lt (n lp a b:Nat) (ha:a<32) (hb:b<32):∀ j,itN (unF n lp a b) j 0<32
 | 0=>Nat.zero_lt_succ 31
 | _+1=>Nat.or_lt_two_pow (n:=5) hb (zad ha)
theorem op8_c (t:Tr) (ht:t.Ok) (a b:Nat) (ha:a<2 ^ t.n) (H:Heap):VDet Tryz.prog 119 [.int .i64 a,.int .i64 b,.rptr [.int .i64 (every t.n:Nat)],.rptr t.cells] H (.int .i64 (alN t.n t.lp a:Nat)):=by
 have h32:=p2_32 ha ht.n5
 have hs:=settle_c 121 [.ptr (H.length+0) 0,.rptr t.cells] (alF t.n t.lp a) 5 (every t.n) (H++[.box 3 [.int .i64 a]]) (fun j _=>al_lt _ _ _ ht.n5 h32 j) (al_fix ht.n5 ht.lp ha) (fun y hy X=>op8i_c t ht a y h32 hy _ _ (za4 X rfl))
 obtain ⟨n,lp,fs⟩:=t
 unfold Tr.cells at hs ⊢
 simp only at hs ⊢
 refine zag Tryz.E0 zaa Tryz.func119 (by kernel_rfl) rfl (Nat.le_of_ble_eq_true rfl) rfl fun hcl hbl=>?_
 (repeat' ((conv=>whnf);(first|refine CallN.det _ (hs) ?_|fail)));conv=>whnf
 exact eT trivial
theorem op9_c (t:Tr) (ht:t.Ok) (a b:Nat) (ha:a<2 ^ t.n) (hb:b<2 ^ t.n) (H:Heap):VDet Tryz.prog 122 [.int .i64 a,.int .i64 b,.rptr t.cells] H (.int .i64 (unN t.n t.lp a b:Nat)):=by
 have h32:=p2_32 ha ht.n5
 have h32b:=p2_32 hb ht.n5
 have hs:=settle_c 123 [.ptr (H.length+1) 0,.ptr (H.length+0) 0,.rptr t.cells] (unF t.n t.lp a b) 5 0 (H++[.box 3 [.int .i64 a],.box 3 [.int .i64 b]]) (fun j _=>un_lt _ _ _ _ h32 h32b j) (un_fix ht.n5 ht.lp ha hb) (fun y hy X=>op9i_c t ht a b y h32 h32b hy _ _ _ (za4 X rfl) (za4 X rfl))
 obtain ⟨n,lp,fs⟩:=t
 unfold Tr.cells at hs ⊢
 simp only at hs ⊢
 refine zag Tryz.E0 zaa Tryz.func122 (by kernel_rfl) rfl (Nat.le_of_ble_eq_true rfl) rfl fun hcl hbl=>?_
 (repeat' ((conv=>whnf);(first|refine CallN.det _ (hs) ?_|fail)));conv=>whnf
 exact eT trivial
def opK:List AV:=[.int .u8 2,.int .u8 3,.int .u8 4,.int .u8 5,.int .u8 6,.int .u8 7,.int .u8 12,.int .u8 13,.int .u8 14]
def opV (t:Tr):List AV:=[.clo (.func 111) [] [],.clo (.func 112) [] [.rptr [.int .i64 (every t.n:Nat)]],.clo (.func 113) [] [],.clo (.func 114) [] [],.clo (.func 115) [] [.rptr [.int .i64 (every t.n:Nat)]],.clo (.func 116) [] [.rptr [.int .i64 (every t.n:Nat)]],
 .clo (.func 117) [] [.rptr t.cells],.clo (.func 119) [] [.rptr [.int .i64 (every t.n:Nat)],.rptr t.cells],.clo (.func 122) [] [.rptr t.cells]]
theorem operators_c (t:Tr) (ht:t.Ok) (H:Heap):VDet Tryz.prog 79 [.agg t.cells] H (.rmp opK (opV t)):=by
 have h1:=ht.n1
 have h2:=ht.n5
 have h3:=every_lt h2
 have h4:1≤1 <<< t.n:=by rw [Nat.shiftLeft_eq];have:=Nat.two_pow_pos t.n;omega
 have h5:1 <<< t.n<64:=by unfold every at h3;omega
 obtain ⟨n,lp,fs⟩:=t
 unfold opV
 unfold Tr.cells
 simp only at h1 h2 h3 h4 h5 ⊢
 refine zag Tryz.E0 zaa Tryz.func79 (by kernel_rfl) rfl (Nat.le_of_ble_eq_true rfl) rfl fun hcl hbl=>?_
 (repeat' ((conv=>whnf);(first|(refine EqN.id ?_;first|(refine EqN.shlN _ _ Cst.h Cst.h rfl ?_ ?_ ?_;(· (repeat' (first|omega|refine And.intro ?_ ?_|exact zad (by omega)|exact zap (by omega)|refine zbb ?_ ?_|refine zao ?_ ?_|refine zau ?_ ?_|refine zal ?_ ?_|refine zav ?_|refine zaw ?_ ?_|refine zax ?_|refine zad ?_|fail)));(· (repeat' (first|omega|refine And.intro ?_ ?_|exact zad (by omega)|exact zap (by omega)|refine zbb ?_ ?_|refine zao ?_ ?_|refine zau ?_ ?_|refine zal ?_ ?_|refine zav ?_|refine zaw ?_ ?_|refine zax ?_|refine zad ?_|fail))))|(refine EqN.subN _ _ Cst.h Cst.h ?_ ?_;· omega)|fail)|refine SideN.mk (by omega) ?_|refine RelN.mk _ _ ⟨⟨_,rfl⟩,.new (by kernel_rfl)⟩ ?_|refine PtrN.loc _ rfl ?_|fail)));conv=>whnf
 refine EndN.detF ?_ ?_ (Wk.refl _)
 ·simp [below,zac,fnBelow,opK,encT_below]
 ·refine Frz.mp rfl ?_ ?_
  ·(repeat' (first|exact FrzL.nil|refine FrzL.cons ?_ ?_|exact Frz.refl _|fail))
  ·(repeat' (first|exact FrzL.nil|refine FrzL.cons ?_ ?_|refine Frz.clo ?_ ?_|refine Frz.ptr rfl rfl (FrzL.refl _)|fail))
inductive Fm where
 | at (c:UInt8)
 | fa
 | f1 (k:Nat) (a:Fm)
 | f2 (k:Nat) (a b:Fm)
def Fm.op:Fm→Nat
 | .at _=>1
 | .fa=>2
 | .f1 k _=>k
 | .f2 k _ _=>k
def Fm.nmB:Fm→ByteArray
 | .at c=>nm c
 | _=>.empty
def Fm.sn:Fm→Nat
 | .at _=>0
 | .fa=>0
 | .f1 _ _=>1
 | .f2 _ _ _=>2
def Fm.sc:Fm→List AV
 | .at _=>[]
 | .fa=>[]
 | .f1 _ a=>[.int .u8 a.op,.str a.nmB,.sl none 0 [],.sl none a.sn a.sc]
 | .f2 _ a b=>[.int .u8 a.op,.str a.nmB,.sl none 0 [],.sl none a.sn a.sc,.int .u8 b.op,.str b.nmB,.sl none 0 [],.sl none b.sn b.sc]
def Fm.cells (f:Fm):List AV:=[.int .u8 f.op,.str f.nmB,.sl none 0 [],.sl none f.sn f.sc]
theorem Fm.sc_below (n:Nat):∀ f:Fm,zac n f.sc
 | .at _=>by simp [Fm.sc,zac]
 | .fa=>by simp [Fm.sc,zac]
 | .f1 _ a=>by simp [Fm.sc,below,zac,a.sc_below n]
 | .f2 _ a b=>by simp [Fm.sc,below,zac,a.sc_below n,b.sc_below n]
def is1 (k:Nat):Prop:=k=3∨k=10∨k=11∨k=12∨k=13
def is2 (k:Nat):Prop:=k=4∨k=5∨k=6∨k=7∨k=14
def Fm.Ok:Fm→Prop
 | .at c=>cap c
 | .fa=>True
 | .f1 k a=>is1 k∧a.Ok
 | .f2 k a b=>is2 k∧a.Ok∧b.Ok
def Fm.nodes:Fm→Nat
 | .at _=>1
 | .fa=>1
 | .f1 _ a=>a.nodes+1
 | .f2 _ a b=>a.nodes+b.nodes+1
theorem Fm.nodes_pos:∀ f:Fm,1≤f.nodes
 | .at _=>Nat.le_refl _
 | .fa=>Nat.le_refl _
 | .f1 _ _=>by simp [Fm.nodes]
 | .f2 _ _ _=>by simp [Fm.nodes]
def Fm.depth:Fm→Nat
 | .at _=>1
 | .fa=>1
 | .f1 _ a=>a.depth+1
 | .f2 _ a b=>max a.depth b.depth+1
theorem Fm.depth_pos:∀ f:Fm,1≤f.depth
 | .at _=>Nat.le_refl _
 | .fa=>Nat.le_refl _
 | .f1 _ _=>by simp [Fm.depth]
 | .f2 _ _ _=>by simp [Fm.depth]
theorem Fm.depth_le:∀ f:Fm,f.depth≤f.nodes
 | .at _=>Nat.le_refl _
 | .fa=>Nat.le_refl _
 | .f1 _ a=>by have:=a.depth_le;simp only [Fm.depth,Fm.nodes];omega
 | .f2 _ a b=>by have:=a.depth_le;have:=b.depth_le;simp only [Fm.depth,Fm.nodes];omega
def Fm.Small (f:Fm):Prop:=f.nodes≤400∧f.depth≤40
theorem Fm.small_of {f:Fm} (h:f.nodes≤40):f.Small:=⟨by omega,Nat.le_trans f.depth_le h⟩
def jb (L:Nat):Blk:=.box 150 [.bool false,.int .i64 L,.int .i64 40]
theorem node_c (H:Heap) (i L d:Nat) (hi:H[i]? = some (jb L)) (hL:1≤L∧L≤400) (hd:d≤40):VCall Tryz.prog 159 [.ptr i 0,.int .i64 d] H (setR H i (jb (L-1)) (.bool true)):=by
 unfold jb at hi ⊢
 refine zbg Tryz.E0 zaa Tryz.func159 (by kernel_rfl) rfl (Nat.le_of_ble_eq_true rfl) rfl fun hcl hbl=>?_
 (repeat' ((conv=>whnf);(first|refine IfN.tt rfl ?_|(refine EqN.subN _ _ Cst.h Cst.h ?_ ?_;· omega)|refine SetN.mk _ rfl ?_|refine PtrN.base _ (by (repeat' (first|assumption|exact za4 _ rfl|exact zam rfl|refine zar (B':=?_) ?_|refine zai ?_|fail))) ?_|fail)));conv=>whnf
 exact za7 (by simp [Blk.below,zac,below]) trivial (Wk.of_eq (by simp;omega))
theorem terms_c (H:Heap) (i d:Nat):VDet Tryz.prog 162 [.ptr i 0,.sl none 0 [],.int .i64 d] H (.bool true):=by
 refine zag Tryz.E0 zaa Tryz.func162 (by kernel_rfl) rfl (Nat.le_of_ble_eq_true rfl) rfl fun hcl hbl=>?_
 conv=>whnf
 refine LoopN.rounds Tryz.E0 zaa 1 rfl ?_
 (repeat' ((conv=>whnf);(first|refine IfN.ff rfl ?_|fail)));conv=>whnf
 exact eT trivial
theorem named1_c (c:UInt8) (h:cap c) (H:Heap):VDet Tryz.prog 160 [.int .u8 1,.str (nm c)] H (.bool true):=by
 refine zag Tryz.E0 zaa Tryz.func160 (by kernel_rfl) rfl (Nat.le_of_ble_eq_true rfl) rfl fun hcl hbl=>?_
 (repeat' ((conv=>whnf);(first|refine IfN.tt rfl ?_|refine CallN.det _ (predicate_c c h _) ?_|fail)));conv=>whnf
 exact eT trivial
theorem named0_c (H:Heap):VDet Tryz.prog 160 [.int .u8 0,.str .empty] H (.bool true):=by
 refine zag Tryz.E0 zaa Tryz.func160 (by kernel_rfl) rfl (Nat.le_of_ble_eq_true rfl) rfl fun hcl hbl=>?_
 (repeat' ((conv=>whnf);(first|refine IfN.ff rfl ?_|fail)));conv=>whnf
 exact EndN.det trivial (Wk.of_eq (by simp))
end
end Go.Proofs.YtjflngchbeegcaaGreatDoor
