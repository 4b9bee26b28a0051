/- A text of the proof: the parts BG41, BH41, DZ41. -/
import Derived.ProofKit
import Derived.LaidMore
import Derived.OpenShut
import Derived.Test.YtgdmldelijeaoaaGreatDoorK11
set_option linter.unusedSimpArgs false
set_option linter.unusedVariables false
/-! text BG41 -/
namespace Go.Proofs.YtgdmldelijeaoaaGreatDoor
open Go.Vsi
set_option maxHeartbeats 4000000
set_option linter.unusedSimpArgs false
attribute [local irreducible] VW VCall VO bits
theorem has_mk {m:Mdl} {p:Fq} (hok:p.Ok) (h1:∀ s a,p.hasP s a→hasFct m s a) (h2:∀ s a,p.hasC s a→hasFnc m s a) (h3:∀ x,p.free x→hasBnd m x):hasB m (sigF p.fo)=true:=by
 unfold hasB
 rw [Bool.and_eq_true,Bool.and_eq_true,List.all_eq_true,List.all_eq_true,List.all_eq_true]
 refine ⟨fun x hx=>?_,fun x hx=>?_,fun x hx=>?_⟩
 ·obtain ⟨y,hy,rfl⟩:=List.mem_map.1 hx
  exact h1 _ _ ((mem_predY hok y).1 ((sortY_perm _).mem_iff.1 hy))
 ·obtain ⟨y,hy,rfl⟩:=List.mem_map.1 hx
  exact h2 _ _ ((mem_funY hok y).1 ((sortY_perm _).mem_iff.1 hy))
 ·exact h3 _ ((mem_freeF hok x).1 ((sortB_perm _).mem_iff.1 hx))
theorem evalG_c (m:Mdl) (hm:m.Sm) (hn:m.Nm) (hva:validM m=true) (p:Fq) (hp:Gd p) (hr:rankF p≤6) (hh:hasB m (sigF p.fo)=true) (H:Heap):VDet Tryz.prog 18 [.agg m.cells,.agg p.fo.cells] H (.tup [.bool (hv m p (bindF m)),.int .i64 0]):=by
 have:=eval_c m hm hn p hp.sm hva hp.right H
 rwa [if_neg (by omega),if_pos hh] at this
def mAw:Mdl:=⟨2,2,[],0,[⟨nR,2,6⟩],[⟨nF,1,[1,0]⟩],[⟨nX,1⟩]⟩
theorem mAw_sm:mAw.Sm:=⟨by decide,by decide,by decide,by decide,fun f hf=>by rw [List.mem_singleton.1 hf];decide⟩
theorem mAw_nm:mAw.Nm:=⟨fun f hf=>by rw [List.mem_singleton.1 hf];decide,fun f hf=>by rw [List.mem_singleton.1 hf];decide,fun f hf=>by rw [List.mem_singleton.1 hf];decide⟩
theorem mAw_v:validM mAw=true:=by kernel_rfl
def aw1:Fq:=.qn 8 nX (.qn 9 nY (.at_ nR [.vr nX,.vr nY]))
def aw2:Fq:=.qn 9 nY (.qn 8 nX (.at_ nR [.vr nX,.vr nY]))
def aw3:Fq:=.qn 8 nX (.at_ nR [.vr nX,.ap nF (.vr nX)])
def aw4:Fq:=.at_ nR [.vr nX,.ap nF (.ap nF (.vr nX))]
theorem awR {s:ByteArray} {a:Int} (h:nR=s∧a=2):inP s a∧hasFct mAw s a:=by
 obtain ⟨rfl,rfl⟩:=h
 exact ⟨.inr (.inr ⟨rfl,rfl⟩),by show (mAw.facts.find? (factP nR 2)).isSome=true;kernel_rfl⟩
theorem awF {s:ByteArray} {a:Int} (h:nF=s∧a=1):inC s a∧hasFnc mAw s a:=by
 obtain ⟨rfl,rfl⟩:=h
 exact ⟨.inr ⟨rfl,rfl⟩,by show (mAw.funcs.find? (funcP nF 1)).isSome=true;kernel_rfl⟩
theorem awX {x:ByteArray} (h:nX=x):inV x∧hasBnd mAw x:=by
 subst h
 exact ⟨.inl rfl,by show (mAw.binds.find? (bindP nX)).isSome=true;kernel_rfl⟩
theorem aw1_std:stdF aw1:=⟨.inl rfl,by kernel_rfl,.inr rfl,by kernel_rfl,by kernel_rfl,by decide,fun t ht=>by
  rcases List.mem_cons.1 ht with h|h
  ·rw [h];exact ⟨by show isVar nX=true;kernel_rfl,by decide⟩
  ·rw [List.mem_singleton.1 h];exact ⟨by show isVar nY=true;kernel_rfl,by decide⟩⟩
theorem aw1_p (s:ByteArray) (a:Int) (h:aw1.hasP s a):nR=s∧a=2:=h
theorem aw1_c (s:ByteArray) (a:Int) (h:aw1.hasC s a):nF=s∧a=1:=by
 obtain ⟨t,ht,h⟩:=h
 rcases List.mem_cons.1 ht with e|e
 ·rw [e] at h;exact h.elim
 ·rw [List.mem_singleton.1 e] at h
  exact h.elim
theorem aw1_v (x:ByteArray) (h:aw1.free x):nX=x:=by
 obtain ⟨⟨⟨t,ht,h⟩,h1⟩,h2⟩:=h
 rcases List.mem_cons.1 ht with e|e
 ·rw [e] at h;exact h
 ·rw [List.mem_singleton.1 e] at h;exact absurd (Eq.symm h) h1
theorem aw1_gd:Gd aw1:=⟨aw1_std,by decide,by decide,fun s a h=>(awR (aw1_p s a h)).1,fun s a h=>(awF (aw1_c s a h)).1,fun x h=>(awX (aw1_v x h)).1⟩
theorem aw1_e (H:Heap):VDet Tryz.prog 18 [.agg [.int .u8 2,.int .i64 2,.nils,.int .i64 0,.sx 1 [.str nR,.int .i64 2,.int .i64 6],.sx 1 [.str nF,.int .i64 1,.sx 2 [.int .i64 1,.int .i64 0]],.sx 1 [.str nX,.int .i64 1]],.agg [.int .u8 8,.str nX,.sl none 0 [],.sl none 1 [.int .u8 9,.str nY,.sl none 0 [],.sl none 1 [.int .u8 1,.str nR,.sl none 2 [.bool true,.str nX,.sl none 0 [],.bool true,.str nY,.sl none 0 []],.sl none 0 []]]]] H (.tup [.bool true,.int .i64 0]):=by
 have h:=evalG_c mAw mAw_sm mAw_nm mAw_v aw1 aw1_gd (by decide) (has_mk (std_ok _ aw1_std) (fun s a h=>(awR (aw1_p s a h)).2) (fun s a h=>(awF (aw1_c s a h)).2) fun x h=>(awX (aw1_v x h)).2) H
 have hb:hv mAw aw1 (bindF mAw)=true:=by kernel_rfl
 rw [hb] at h
 exact VDet.wk h ⟨wk_agg ⟨Wk.refl _,Wk.refl _,wk_nils,Wk.refl _,wk_sx _ _,wk_sxL ⟨Wk.refl _,Wk.refl _,wk_sx _ _,trivial⟩,wk_sx _ _,trivial⟩,Wk.refl _,trivial⟩
theorem aw2_std:stdF aw2:=⟨.inr rfl,by kernel_rfl,.inl rfl,by kernel_rfl,by kernel_rfl,by decide,fun t ht=>by
  rcases List.mem_cons.1 ht with h|h
  ·rw [h];exact ⟨by show isVar nX=true;kernel_rfl,by decide⟩
  ·rw [List.mem_singleton.1 h];exact ⟨by show isVar nY=true;kernel_rfl,by decide⟩⟩
theorem aw2_p (s:ByteArray) (a:Int) (h:aw2.hasP s a):nR=s∧a=2:=h
theorem aw2_c (s:ByteArray) (a:Int) (h:aw2.hasC s a):nF=s∧a=1:=by
 obtain ⟨t,ht,h⟩:=h
 rcases List.mem_cons.1 ht with e|e
 ·rw [e] at h;exact h.elim
 ·rw [List.mem_singleton.1 e] at h
  exact h.elim
theorem aw2_v (x:ByteArray) (h:aw2.free x):nX=x:=by
 obtain ⟨⟨⟨t,ht,h⟩,h2⟩,h1⟩:=h
 rcases List.mem_cons.1 ht with e|e
 ·rw [e] at h;exact h
 ·rw [List.mem_singleton.1 e] at h;exact absurd (Eq.symm h) h1
theorem aw2_gd:Gd aw2:=⟨aw2_std,by decide,by decide,fun s a h=>(awR (aw2_p s a h)).1,fun s a h=>(awF (aw2_c s a h)).1,fun x h=>(awX (aw2_v x h)).1⟩
theorem aw2_e (H:Heap):VDet Tryz.prog 18 [.agg [.int .u8 2,.int .i64 2,.nils,.int .i64 0,.sx 1 [.str nR,.int .i64 2,.int .i64 6],.sx 1 [.str nF,.int .i64 1,.sx 2 [.int .i64 1,.int .i64 0]],.sx 1 [.str nX,.int .i64 1]],.agg [.int .u8 9,.str nY,.sl none 0 [],.sl none 1 [.int .u8 8,.str nX,.sl none 0 [],.sl none 1 [.int .u8 1,.str nR,.sl none 2 [.bool true,.str nX,.sl none 0 [],.bool true,.str nY,.sl none 0 []],.sl none 0 []]]]] H (.tup [.bool false,.int .i64 0]):=by
 have h:=evalG_c mAw mAw_sm mAw_nm mAw_v aw2 aw2_gd (by decide) (has_mk (std_ok _ aw2_std) (fun s a h=>(awR (aw2_p s a h)).2) (fun s a h=>(awF (aw2_c s a h)).2) fun x h=>(awX (aw2_v x h)).2) H
 have hb:hv mAw aw2 (bindF mAw)=false:=by kernel_rfl
 rw [hb] at h
 exact VDet.wk h ⟨wk_agg ⟨Wk.refl _,Wk.refl _,wk_nils,Wk.refl _,wk_sx _ _,wk_sxL ⟨Wk.refl _,Wk.refl _,wk_sx _ _,trivial⟩,wk_sx _ _,trivial⟩,Wk.refl _,trivial⟩
theorem aw3_std:stdF aw3:=⟨.inl rfl,by kernel_rfl,by kernel_rfl,by decide,fun t ht=>by
  rcases List.mem_cons.1 ht with h|h
  ·rw [h];exact ⟨by show isVar nX=true;kernel_rfl,by decide⟩
  ·rw [List.mem_singleton.1 h];exact ⟨⟨by kernel_rfl,by show isVar nX=true;kernel_rfl⟩,by decide⟩⟩
theorem aw3_p (s:ByteArray) (a:Int) (h:aw3.hasP s a):nR=s∧a=2:=h
theorem aw3_c (s:ByteArray) (a:Int) (h:aw3.hasC s a):nF=s∧a=1:=by
 obtain ⟨t,ht,h⟩:=h
 rcases List.mem_cons.1 ht with e|e
 ·rw [e] at h;exact h.elim
 ·rw [List.mem_singleton.1 e] at h
  exact h.elim id fun h=>h.elim
theorem aw3_v (x:ByteArray) (h:aw3.free x):nX=x:=by
 obtain ⟨⟨t,ht,h⟩,h2⟩:=h
 rcases List.mem_cons.1 ht with e|e
 ·rw [e] at h;exact h
 ·rw [List.mem_singleton.1 e] at h;exact h
theorem aw3_gd:Gd aw3:=⟨aw3_std,by decide,by decide,fun s a h=>(awR (aw3_p s a h)).1,fun s a h=>(awF (aw3_c s a h)).1,fun x h=>(awX (aw3_v x h)).1⟩
theorem aw3_e (H:Heap):VDet Tryz.prog 18 [.agg [.int .u8 2,.int .i64 2,.nils,.int .i64 0,.sx 1 [.str nR,.int .i64 2,.int .i64 6],.sx 1 [.str nF,.int .i64 1,.sx 2 [.int .i64 1,.int .i64 0]],.sx 1 [.str nX,.int .i64 1]],.agg [.int .u8 8,.str nX,.sl none 0 [],.sl none 1 [.int .u8 1,.str nR,.sl none 2 [.bool true,.str nX,.sl none 0 [],.bool false,.str nF,.sl none 1 [.bool true,.str nX,.sl none 0 []]],.sl none 0 []]]] H (.tup [.bool true,.int .i64 0]):=by
 have h:=evalG_c mAw mAw_sm mAw_nm mAw_v aw3 aw3_gd (by decide) (has_mk (std_ok _ aw3_std) (fun s a h=>(awR (aw3_p s a h)).2) (fun s a h=>(awF (aw3_c s a h)).2) fun x h=>(awX (aw3_v x h)).2) H
 have hb:hv mAw aw3 (bindF mAw)=true:=by kernel_rfl
 rw [hb] at h
 exact VDet.wk h ⟨wk_agg ⟨Wk.refl _,Wk.refl _,wk_nils,Wk.refl _,wk_sx _ _,wk_sxL ⟨Wk.refl _,Wk.refl _,wk_sx _ _,trivial⟩,wk_sx _ _,trivial⟩,Wk.refl _,trivial⟩
theorem aw4_std:stdF aw4:=⟨by kernel_rfl,by decide,fun t ht=>by
  rcases List.mem_cons.1 ht with h|h
  ·rw [h];exact ⟨by show isVar nX=true;kernel_rfl,by decide⟩
  ·rw [List.mem_singleton.1 h];exact ⟨⟨by kernel_rfl,by kernel_rfl,by show isVar nX=true;kernel_rfl⟩,by decide⟩⟩
theorem aw4_p (s:ByteArray) (a:Int) (h:aw4.hasP s a):nR=s∧a=2:=h
theorem aw4_c (s:ByteArray) (a:Int) (h:aw4.hasC s a):nF=s∧a=1:=by
 obtain ⟨t,ht,h⟩:=h
 rcases List.mem_cons.1 ht with e|e
 ·rw [e] at h;exact h.elim
 ·rw [List.mem_singleton.1 e] at h
  exact h.elim id fun h=>h.elim id fun h=>h.elim
theorem aw4_v (x:ByteArray) (h:aw4.free x):nX=x:=by
 obtain ⟨t,ht,h⟩:=h
 rcases List.mem_cons.1 ht with e|e
 ·rw [e] at h;exact h
 ·rw [List.mem_singleton.1 e] at h;exact h
theorem aw4_gd:Gd aw4:=⟨aw4_std,by decide,by decide,fun s a h=>(awR (aw4_p s a h)).1,fun s a h=>(awF (aw4_c s a h)).1,fun x h=>(awX (aw4_v x h)).1⟩
theorem aw4_e (H:Heap):VDet Tryz.prog 18 [.agg [.int .u8 2,.int .i64 2,.nils,.int .i64 0,.sx 1 [.str nR,.int .i64 2,.int .i64 6],.sx 1 [.str nF,.int .i64 1,.sx 2 [.int .i64 1,.int .i64 0]],.sx 1 [.str nX,.int .i64 1]],.agg [.int .u8 1,.str nR,.sl none 2 [.bool true,.str nX,.sl none 0 [],.bool false,.str nF,.sl none 1 [.bool false,.str nF,.sl none 1 [.bool true,.str nX,.sl none 0 []]]],.sl none 0 []]] H (.tup [.bool false,.int .i64 0]):=by
 have h:=evalG_c mAw mAw_sm mAw_nm mAw_v aw4 aw4_gd (by decide) (has_mk (std_ok _ aw4_std) (fun s a h=>(awR (aw4_p s a h)).2) (fun s a h=>(awF (aw4_c s a h)).2) fun x h=>(awX (aw4_v x h)).2) H
 have hb:hv mAw aw4 (bindF mAw)=false:=by kernel_rfl
 rw [hb] at h
 exact VDet.wk h ⟨wk_agg ⟨Wk.refl _,Wk.refl _,wk_nils,Wk.refl _,wk_sx _ _,wk_sxL ⟨Wk.refl _,Wk.refl _,wk_sx _ _,trivial⟩,wk_sx _ _,trivial⟩,Wk.refl _,trivial⟩
def sAw:Sig:=⟨[(nP,1)],[(nA,0)],[]⟩
theorem sAw_sm:sAw.Sm:=⟨by decide,by decide,by decide,fun f hf=>by rw [List.mem_singleton.1 hf];decide,fun f hf=>by rw [List.mem_singleton.1 hf];decide,fun f hf=>by cases hf⟩
theorem sAw_r:sigR sAw=true:=by kernel_rfl
def fiveM:Mdl:=⟨2,2,[],0,[⟨nP,1,2⟩],[⟨nA,0,[1]⟩],[]⟩
theorem five_sm:fiveM.Sm:=⟨by decide,by decide,by decide,by decide,fun f hf=>by rw [List.mem_singleton.1 hf];decide⟩
theorem five_nm:fiveM.Nm:=⟨fun f hf=>by rw [List.mem_singleton.1 hf];decide,fun f hf=>by rw [List.mem_singleton.1 hf];decide,fun f hf=>by cases hf⟩
theorem five_v:validM fiveM=true:=by kernel_rfl
def twoM:Mdl:=⟨2,2,[],0,[⟨nP,1,1⟩],[⟨nA,0,[0]⟩],[]⟩
theorem two_sm:twoM.Sm:=⟨by decide,by decide,by decide,by decide,fun f hf=>by rw [List.mem_singleton.1 hf];decide⟩
theorem two_nm:twoM.Nm:=⟨fun f hf=>by rw [List.mem_singleton.1 hf];decide,fun f hf=>by rw [List.mem_singleton.1 hf];decide,fun f hf=>by cases hf⟩
theorem two_v:validM twoM=true:=by kernel_rfl
theorem p10_ok:PermOk 2 [1,0]:=by
 refine ⟨rfl,fun a ha=>?_,fun a b ha hb h=>?_,fun b hb=>?_⟩
 ·have:a=0∨a=1:=by omega
  rcases this with rfl|rfl <;> decide
 ·have h1:a=0∨a=1:=by omega
  have h2:b=0∨b=1:=by omega
  rcases h1 with rfl|rfl <;> rcases h2 with rfl|rfl <;> first|rfl|exact absurd h (by decide)
 ·have:b=0∨b=1:=by omega
  rcases this with rfl|rfl
  ·exact ⟨1,by omega,rfl⟩
  ·exact ⟨0,by omega,rfl⟩
theorem wkSAW:Wk (.agg [.sx 1 [.str nP,.int .i64 1],.sx 1 [.str nA,.int .i64 0],.nils]) (.agg sAw.cells):=wk_agg ⟨wk_sx _ _,wk_sx _ _,wk_nils,trivial⟩
theorem awake_c (H:Heap):VDet Tryz.prog 12 [] H (.bool true):=by
 have c1:∀ H,VDet Tryz.prog 35 [.agg [.sx 1 [.str nP,.int .i64 1],.sx 1 [.str nA,.int .i64 0],.nils],.int .i64 2] H (.tup [.int .i64 8,.int .i64 0]):=fun H=>VDet.wk (count_c sAw sAw_sm sAw_r 2 (by omega) (by decide) (by decide) (by decide) H) ⟨wkSAW,Wk.refl _,trivial⟩
 have c2:∀ H,VDet Tryz.prog 38 [.agg [.sx 1 [.str nP,.int .i64 1],.sx 1 [.str nA,.int .i64 0],.nils],.int .i64 2,.int .i64 5] H (.tup [.agg [.int .u8 2,.int .i64 2,.sl none 0 [],.int .i64 0,.sl none 1 [.str nP,.int .i64 1,.int .i64 2],.sl none 1 [.str nA,.int .i64 0,.sl none 1 [.int .i64 1]],.sl none 0 []],.int .i64 0]):=fun H=>VDet.wk (nth_c sAw sAw_sm sAw_r 2 (by omega) (by decide) (by decide) (by decide) 5 (by decide) (by decide) H) ⟨wkSAW,Wk.refl _,Wk.refl _,trivial⟩
 have c3:∀ H,VDet Tryz.prog 46 [.agg [.int .u8 2,.int .i64 2,.sl none 0 [],.int .i64 0,.sl none 1 [.str nP,.int .i64 1,.int .i64 2],.sl none 1 [.str nA,.int .i64 0,.sl none 1 [.int .i64 1]],.sl none 0 []],.sx 2 [.int .i64 1,.int .i64 0]] H (.tup [.agg [.int .u8 2,.int .i64 2,.sl none 0 [],.int .i64 0,.sl none 1 [.str nP,.int .i64 1,.int .i64 1],.sl none 1 [.str nA,.int .i64 0,.sl none 1 [.int .i64 0]],.sl none 0 []],.int .i64 0]):=fun H=>VDet.wk (moved1 [⟨nP,1,2⟩] [] 2 [1,0] nA 1 (by omega) (by omega) p10_ok fiveM rfl five_sm five_nm five_v H) ⟨Wk.refl _,wk_sx _ _,trivial⟩
 have c4:∀ H,VDet Tryz.prog 45 [.agg [.int .u8 2,.int .i64 2,.sl none 0 [],.int .i64 0,.sl none 1 [.str nP,.int .i64 1,.int .i64 1],.sl none 1 [.str nA,.int .i64 0,.sl none 1 [.int .i64 0]],.sl none 0 []]] H (.tup [.int .i64 2,.int .i64 0]):=fun H=>number_m twoM two_sm two_nm two_v 2 rfl (by decide) (by decide) (by decide) (by decide) (by decide) H
 have v1:=fun H=>v22_c nX H
 have v2:=fun H=>v22_c nY H
 have a1:∀ H,VDet Tryz.prog 14 [.str nR,.sx 2 [.bool true,.str nX,.sl none 0 [],.bool true,.str nY,.sl none 0 []]] H (.agg [.int .u8 1,.str nR,.sl none 2 [.bool true,.str nX,.sl none 0 [],.bool true,.str nY,.sl none 0 []],.sl none 0 []]):=fun H=>VDet.wk (atom14_c nR 2 [.bool true,.str nX,.sl none 0 [],.bool true,.str nY,.sl none 0 []] (fun m=>by simp [below,belowL]) H) ⟨Wk.refl _,wk_sx _ _,trivial⟩
 have a3:∀ H,VDet Tryz.prog 14 [.str nR,.sx 2 [.bool true,.str nX,.sl none 0 [],.bool false,.str nF,.sl none 1 [.bool true,.str nX,.sl none 0 []]]] H (.agg [.int .u8 1,.str nR,.sl none 2 [.bool true,.str nX,.sl none 0 [],.bool false,.str nF,.sl none 1 [.bool true,.str nX,.sl none 0 []]],.sl none 0 []]):=fun H=>VDet.wk (atom14_c nR 2 [.bool true,.str nX,.sl none 0 [],.bool false,.str nF,.sl none 1 [.bool true,.str nX,.sl none 0 []]] (fun m=>by simp [below,belowL]) H) ⟨Wk.refl _,wk_sx _ _,trivial⟩
 have a4:∀ H,VDet Tryz.prog 14 [.str nR,.sx 2 [.bool true,.str nX,.sl none 0 [],.bool false,.str nF,.sl none 1 [.bool false,.str nF,.sl none 1 [.bool true,.str nX,.sl none 0 []]]]] H (.agg [.int .u8 1,.str nR,.sl none 2 [.bool true,.str nX,.sl none 0 [],.bool false,.str nF,.sl none 1 [.bool false,.str nF,.sl none 1 [.bool true,.str nX,.sl none 0 []]]],.sl none 0 []]):=fun H=>VDet.wk (atom14_c nR 2 [.bool true,.str nX,.sl none 0 [],.bool false,.str nF,.sl none 1 [.bool false,.str nF,.sl none 1 [.bool true,.str nX,.sl none 0 []]]] (fun m=>by simp [below,belowL]) H) ⟨Wk.refl _,wk_sx _ _,trivial⟩
 have f1:∀ H,VDet Tryz.prog 68 [.str nF,.sx 1 [.bool true,.str nX,.sl none 0 []]] H (.agg [.bool false,.str nF,.sl none 1 [.bool true,.str nX,.sl none 0 []]]):=fun H=>VDet.wk (fn68_c nF 1 [.bool true,.str nX,.sl none 0 []] (fun m=>by simp [below,belowL]) H) ⟨Wk.refl _,wk_sx _ _,trivial⟩
 have f2:∀ H,VDet Tryz.prog 68 [.str nF,.sx 1 [.bool false,.str nF,.sl none 1 [.bool true,.str nX,.sl none 0 []]]] H (.agg [.bool false,.str nF,.sl none 1 [.bool false,.str nF,.sl none 1 [.bool true,.str nX,.sl none 0 []]]]):=fun H=>VDet.wk (fn68_c nF 1 [.bool false,.str nF,.sl none 1 [.bool true,.str nX,.sl none 0 []]] (fun m=>by simp [below,belowL]) H) ⟨Wk.refl _,wk_sx _ _,trivial⟩
 have b1:∀ H,VDet Tryz.prog 24 [.int .u8 9,.str nY,.agg [.int .u8 1,.str nR,.sl none 2 [.bool true,.str nX,.sl none 0 [],.bool true,.str nY,.sl none 0 []],.sl none 0 []]] H (.agg [.int .u8 9,.str nY,.sl none 0 [],.sl none 1 [.int .u8 1,.str nR,.sl none 2 [.bool true,.str nX,.sl none 0 [],.bool true,.str nY,.sl none 0 []],.sl none 0 []]]):=fun H=>bound_c 9 nY (Fq.fo (.at_ nR [.vr nX,.vr nY])) H
 have b2:∀ H,VDet Tryz.prog 24 [.int .u8 8,.str nX,.agg [.int .u8 9,.str nY,.sl none 0 [],.sl none 1 [.int .u8 1,.str nR,.sl none 2 [.bool true,.str nX,.sl none 0 [],.bool true,.str nY,.sl none 0 []],.sl none 0 []]]] H (.agg [.int .u8 8,.str nX,.sl none 0 [],.sl none 1 [.int .u8 9,.str nY,.sl none 0 [],.sl none 1 [.int .u8 1,.str nR,.sl none 2 [.bool true,.str nX,.sl none 0 [],.bool true,.str nY,.sl none 0 []],.sl none 0 []]]]):=fun H=>bound_c 8 nX (Fq.fo (.qn 9 nY (.at_ nR [.vr nX,.vr nY]))) H
 have b3:∀ H,VDet Tryz.prog 24 [.int .u8 8,.str nX,.agg [.int .u8 1,.str nR,.sl none 2 [.bool true,.str nX,.sl none 0 [],.bool true,.str nY,.sl none 0 []],.sl none 0 []]] H (.agg [.int .u8 8,.str nX,.sl none 0 [],.sl none 1 [.int .u8 1,.str nR,.sl none 2 [.bool true,.str nX,.sl none 0 [],.bool true,.str nY,.sl none 0 []],.sl none 0 []]]):=fun H=>bound_c 8 nX (Fq.fo (.at_ nR [.vr nX,.vr nY])) H
 have b4:∀ H,VDet Tryz.prog 24 [.int .u8 9,.str nY,.agg [.int .u8 8,.str nX,.sl none 0 [],.sl none 1 [.int .u8 1,.str nR,.sl none 2 [.bool true,.str nX,.sl none 0 [],.bool true,.str nY,.sl none 0 []],.sl none 0 []]]] H (.agg [.int .u8 9,.str nY,.sl none 0 [],.sl none 1 [.int .u8 8,.str nX,.sl none 0 [],.sl none 1 [.int .u8 1,.str nR,.sl none 2 [.bool true,.str nX,.sl none 0 [],.bool true,.str nY,.sl none 0 []],.sl none 0 []]]]):=fun H=>bound_c 9 nY (Fq.fo (.qn 8 nX (.at_ nR [.vr nX,.vr nY]))) H
 have b5:∀ H,VDet Tryz.prog 24 [.int .u8 8,.str nX,.agg [.int .u8 1,.str nR,.sl none 2 [.bool true,.str nX,.sl none 0 [],.bool false,.str nF,.sl none 1 [.bool true,.str nX,.sl none 0 []]],.sl none 0 []]] H (.agg [.int .u8 8,.str nX,.sl none 0 [],.sl none 1 [.int .u8 1,.str nR,.sl none 2 [.bool true,.str nX,.sl none 0 [],.bool false,.str nF,.sl none 1 [.bool true,.str nX,.sl none 0 []]],.sl none 0 []]]):=fun H=>bound_c 8 nX (Fq.fo (.at_ nR [.vr nX,.ap nF (.vr nX)])) H
 refine fn_det Tryz.E0 Tryz.mx Tryz.func12 (by kernel_rfl) rfl (Nat.le_of_ble_eq_true rfl) rfl fun hcl hbl=>?_
 (repeat' ((conv=>whnf);(first|(refine IfN.id ?_;first|refine IfN.not ?_|refine IfN.tt rfl ?_|refine IfN.ff rfl ?_|fail)|(refine EqN.addN _ _ Cst.h Cst.h ?_ ?_;· omega)|(refine SideN.mk ?_ ?_;· first|kernel_rfl|omega|exact List.cons_ne_nil _ _|(simp;done)|(simp;omega)|exact trivial|assumption|fail)|(refine CallN.id ?_;first|refine CallN.det _ (c1 _) ?_|refine CallN.det _ (c2 _) ?_|refine CallN.det _ (c3 _) ?_|refine CallN.det _ (c4 _) ?_|refine CallN.det _ (v1 _) ?_|refine CallN.det _ (v2 _) ?_|fail)|(refine CallD.id ?_;first|refine CallD.det _ (fun _ hq X=>a1 _) ?_|refine CallD.det _ (fun _ hq X=>a3 _) ?_|refine CallD.det _ (fun _ hq X=>a4 _) ?_|refine CallD.det _ (fun _ hq X=>f1 _) ?_|refine CallD.det _ (fun _ hq X=>f2 _) ?_|refine CallD.det _ (fun _ hq X=>b1 _) ?_|refine CallD.det _ (fun _ hq X=>b2 _) ?_|refine CallD.det _ (fun _ hq X=>b3 _) ?_|refine CallD.det _ (fun _ hq X=>b4 _) ?_|refine CallD.det _ (fun _ hq X=>b5 _) ?_|refine CallD.det _ (fun _ hq X=>aw1_e _) ?_|refine CallD.det _ (fun _ hq X=>aw2_e _) ?_|refine CallD.det _ (fun _ hq X=>aw3_e _) ?_|refine CallD.det _ (fun _ hq X=>aw4_e _) ?_|fail)|refine SegN.mk _ (seg_rfl rfl) ?_|refine DrawN.mk' [] ?_|fail)));all_goals (conv=>whnf)
 exact EndN.det trivial (Wk.refl _)
end Go.Proofs.YtgdmldelijeaoaaGreatDoor
/-! text BH41 -/
namespace Go.Proofs.YtgdmldelijeaoaaGreatDoor
open Go.Vsi
set_option maxHeartbeats 4000000
set_option linter.unusedSimpArgs false
attribute [local irreducible] VW VCall VO bits
theorem madN_le (k:Nat):1≤madN k∧madN k≤3:=by
 unfold madN
 have:=Nat.mod_lt k (show 0<3 by omega)
 omega
theorem fqx_ex (p:Fq):∃ o s n1 c1 n2 c2,fqx p=[.int .u8 ((o:Nat):Int),.str s,.sl none n1 c1,.sl none n2 c2]∧∀ n,belowL n c1∧belowL n c2 :=
 ⟨_,_,_,_,_,_,rfl,fun n=>⟨ftl_below n p,fsl_below n p⟩⟩
theorem boundQ (k:Nat) (x:ByteArray) (p:Fq) (H:Heap):VDet Tryz.prog 24 [.int .u8 (k:Nat),.str x,.agg (fqx p)] H (.agg [.int .u8 (k:Nat),.str x,.sl none 0 [],.sl none 1 (fqx p)]):=by
 have:=bound_c k x p.fo H
 rwa [fqx_eq p] at this
theorem evalQ (m:Mdl) (hm:m.Sm) (hn:m.Nm) (hva:validM m=true) (p:Fq) (hp:Gd p) (hr:rankF p≤6) (ha:HasAll m) (H:Heap):VDet Tryz.prog 18 [.agg m.cells,.agg (fqx p)] H (.tup [.bool (hv m p (bindF m)),.int .i64 0]):=by
 have:=evalG_c m hm hn hva p hp hr (hp.has ha) H
 rwa [fqx_eq p] at this
theorem el_mod (n a:Nat) (hn:1≤n):elB (n:Int) ((a % n:Nat):Int)=true:=by
 unfold elB
 rw [Bool.and_eq_true,decide_eq_true_eq,decide_eq_true_eq]
 exact ⟨Int.natCast_nonneg _,Int.ofNat_lt.2 (Nat.mod_lt _ (by omega))⟩
theorem renames_c (k:Nat) (hk:k≤255) (w:Nat→Nat) (hw:∀ i,w i≤65535) (l:List Nat) (hl:l.length≤9223372036854775807) (hb:∀ i,i<l.length→l.getD i 0≤255) (wh:Nat) (hwh:wh≤255) (a:Nat) (ha:a≤255) (H:Heap) :
  VDet Tryz.prog 4 [.int .u8 (k:Nat),.agg (cW w),.sl none l.length (l.flatMap encB),.int .u8 (wh:Nat),.int .u8 (a:Nat)] H (.bool true):=by
 have hMd:=fun H=>made_c k hk w hw H
 have hBl:=fun H=>built15_c l hl hb H
 have hn:=madN_le k
 have hsm:(mad k w).Sm:=madW_sm (madN k) hn w
 have hnm:(mad k w).Nm:=madW_nm (madN k) w
 have hva:validM (mad k w)=true:=madW_valid (madN k) hn w
 have hal:HasAll (mad k w):=madW_all (madN k) w
 obtain ⟨fc,uc,hmc,hfb,hub⟩:∃ fc uc,(mad k w).cells=[.int .u8 2,.int .i64 (madN k:Nat),.sl none 0 [],.int .i64 0,.sl none 3 fc,.sl none 2 uc,.sl none 3 [.str nX,.int .i64 (w 5 % madN k:Nat),.str nY,.int .i64 (w 6 % madN k:Nat),.str nZ,.int .i64 (w 7 % madN k:Nat)]]∧(∀ n,belowL n fc)∧∀ n,belowL n uc:=⟨_,_,rfl,fun n=>fcts_below n (mad k w).facts,fun n=>fncs_below n (mad k w).funcs⟩
 have hrc:∀ x,(rebM (mad k w) x ((a % madN k:Nat):Int)).cells=[.int .u8 2,.int .i64 (madN k:Nat),.sl none 0 [],.int .i64 0,.sl none 3 fc,.sl none 2 uc,.sl none 3 [.str nX,.int .i64 (if x=nX then ((a % madN k:Nat):Int) else (w 5 % madN k:Nat)),.str nY,.int .i64 (if x=nY then ((a % madN k:Nat):Int) else (w 6 % madN k:Nat)),.str nZ,.int .i64 (if x=nZ then ((a % madN k:Nat):Int) else (w 7 % madN k:Nat))]]:=fun x=>by
  have e:(mad k w).cells=[.int .u8 2,.int .i64 (madN k:Nat),.sl none 0 [],.int .i64 0,.sl none 3 ((mad k w).facts.flatMap Fct.cells),.sl none 2 ((mad k w).funcs.flatMap Fnc.cells),.sl none 3 [.str nX,.int .i64 (w 5 % madN k:Nat),.str nY,.int .i64 (w 6 % madN k:Nat),.str nZ,.int .i64 (w 7 % madN k:Nat)]]:=rfl
  rw [e] at hmc
  simp only [List.cons.injEq,AV.sl.injEq,true_and,and_true] at hmc
  obtain ⟨rfl,rfl⟩:=hmc
  rfl
 have hRb:=fun x hx H=>rebound_c (madN k:Nat) (w 5 % madN k:Nat) (w 6 % madN k:Nat) (w 7 % madN k:Nat) ((a % madN k:Nat):Int) 3 2 fc uc hfb hub x hx H
 have hg1:=fun op hop x hx=>gd_qn (l:=l) op hop (x:=x) hx
 have hg2:=fun op hop x=>gd_ren (l:=l) op hop (x:=x) (w:=nW) (by kernel_rfl)
 have hok:=blt_ok l
 have hno:=blt_noV l
 have hfv:∀ y,(bltF l).free y→inV y:=(blt_sym l).v
 generalize hp:bltF l=p at hBl hg1 hg2 hok hno hfv
 have e1:∀ op,op=8∨op=9→∀ x,inV x→∀ H,VDet Tryz.prog 18 [.agg (mad k w).cells,.agg [.int .u8 (op:Nat),.str x,.sl none 0 [],.sl none 1 (fqx p)]] H (.tup [.bool (hv (mad k w) (.qn op x p) (bindF (mad k w))),.int .i64 0]):=fun op hop x hx H=>by
  have:=evalQ _ hsm hnm hva _ (hg1 op hop x hx).1 (hg1 op hop x hx).2 hal H
  rwa [fqx_qn] at this
 have e2:∀ op,op=8∨op=9→∀ x,inV x→∀ H,VDet Tryz.prog 18 [.agg (mad k w).cells,.agg [.int .u8 (op:Nat),.str nW,.sl none 0 [],.sl none 1 (fqx (p.ren x nW))]] H (.tup [.bool (hv (mad k w) (.qn op x p) (bindF (mad k w))),.int .i64 0]):=fun op hop x hx H=>by
  have:=evalQ _ hsm hnm hva _ (hg2 op hop x).1 (hg2 op hop x).2 hal H
  rwa [fqx_qn,hv_ren_qn (by rcases hx with rfl|rfl|rfl <;> decide) op p _ hno] at this
 have e3:∀ op,op=8∨op=9→∀ x,inV x→∀ H,VDet Tryz.prog 18 [.agg (rebM (mad k w) x ((a % madN k:Nat):Int)).cells,.agg [.int .u8 (op:Nat),.str x,.sl none 0 [],.sl none 1 (fqx p)]] H (.tup [.bool (hv (mad k w) (.qn op x p) (bindF (mad k w))),.int .i64 0]):=fun op hop x hx H=>by
  have:=evalQ (rebM (mad k w) x ((a % madN k:Nat):Int)) (reb_sm hsm) (reb_nm hnm) (reb_valid hva (el_mod (madN k) a hn.1)) _ (hg1 op hop x hx).1 (hg1 op hop x hx).2 (reb_all hal) H
  rwa [fqx_qn,hv_reb_qn hal x _ op p (fun y hy=>hfv y hy.1)] at this
 have hR:=fun x H=>ren_c x p hok H
 have b1:=fun op x H=>boundQ op x p H
 have b2:=fun op x H=>boundQ op nW (p.ren x nW) H
 generalize mad k w=m at hMd hmc hrc e1 e2 e3
 simp only [hmc] at hMd e1 e2
 simp only [hrc] at e3
 obtain ⟨o,s,n1,c1,n2,c2,hqe,hpb⟩:=fqx_ex p
 rw [hqe] at hBl
 simp only [hqe] at e1 e3 b1 hR
 generalize madN k=n at *
 have hnn:(n:Int)≠0:=by omega
 have key:∀ x,inV x→∀ c,wh % 3=c→(∀ (k:List AV→Prop),k [.str x]→SegN [.str nX,.str nY,.str nZ] (((c:Nat):Int).toNat * 1) k)→True:=fun _ _ _ _ _=>trivial
 have hc3:wh % 3<3:=Nat.mod_lt _ (by decide)
 have hcs:wh % 3=0∨wh % 3=1∨wh % 3=2:=by omega
 rcases hcs with hc|hc|hc
 ·have hx:inV nX:=.inl rfl
  obtain ⟨o',s',n1',c1',n2',c2',hqr,hrb⟩:=fqx_ex (p.ren nX nW)
  have e1a:=e1 8 (.inl rfl) nX hx
  have e1b:=e1 9 (.inr rfl) nX hx
  have e2a:=e2 8 (.inl rfl) nX hx
  have e2b:=e2 9 (.inr rfl) nX hx
  have e3a:=e3 8 (.inl rfl) nX hx
  have e3b:=e3 9 (.inr rfl) nX hx
  have r1:=fun H px pc pf q1 q2 q3=>hR nX H px pc pf q1 q2 q3
  have r2:=fun H=>hRb nX hx H
  have b1a:=fun H=>b1 8 nX H
  have b1b:=fun H=>b1 9 nX H
  have b2a:=fun H=>b2 8 nX H
  have b2b:=fun H=>b2 9 nX H
  rw [hqr] at e2a e2b r1 b2a b2b
  clear e1 e2 e3 hR hRb b1 b2 hg1 hg2 hrc hmc hok hno hfv key
  generalize hv m (.qn 8 nX p) (bindF m)=V8 at e1a e2a e3a
  generalize hv m (.qn 9 nX p) (bindF m)=V9 at e1b e2b e3b
  cases V8 <;> cases V9
  all_goals
   refine fn_det Tryz.E0 Tryz.mx Tryz.func4 (by kernel_rfl) rfl (Nat.le_of_ble_eq_true rfl) rfl fun hcl hbl=>?_
   (repeat' ((conv=>whnf);(first|(refine IfN.id ?_;first|refine IfN.not ?_|refine IfN.tt rfl ?_|fail)|refine EqN.remC _ rfl rfl hc ?_|(refine SideN.mk ?_ ?_;· first|kernel_rfl|omega|exact List.cons_ne_nil _ _|(simp;done)|(simp;omega)|exact trivial|assumption|fail)|(refine CallN.id ?_;first|refine CallN.det _ (awake_c _) ?_|refine CallN.det _ (hMd _) ?_|refine CallN.det _ (hBl _) ?_|fail)|refine SegN.mk _ (seg_rfl rfl) ?_|refine DrawN.mk' [] ?_|fail)));all_goals (conv=>whnf)
   refine LoopN.rounds Tryz.E0 Tryz.mx 3 rfl ?_
   (repeat' ((conv=>whnf);(first|(refine IfN.id ?_;first|refine IfN.not ?_|refine IfN.tt rfl ?_|refine IfN.ff rfl ?_|fail)|(refine EqN.id ?_;first|(refine EqN.addN _ _ Cst.h Cst.h ?_ ?_;· omega)|refine EqN.remN _ _ Cst.h Cst.h ?_|refine EqN.i64 (by omega) ?_|fail)|(refine SideN.mk ?_ ?_;· first|kernel_rfl|omega|exact List.cons_ne_nil _ _|(simp;done)|(simp;omega)|exact trivial|assumption|fail)|(refine CallD.id ?_;first|refine CallD.det _ (fun _ hq X=>b1a _) ?_|refine CallD.det _ (fun _ hq X=>b1b _) ?_|refine CallD.det _ (fun _ hq X=>b2a _) ?_|refine CallD.det _ (fun _ hq X=>b2b _) ?_|refine CallD.det _ (fun _ hq X=>e1a _) ?_|refine CallD.det _ (fun _ hq X=>e1b _) ?_|refine CallD.det _ (fun _ hq X=>e2a _) ?_|refine CallD.det _ (fun _ hq X=>e2b _) ?_|refine CallD.det _ (fun _ hq X=>e3a _) ?_|refine CallD.det _ (fun _ hq X=>e3b _) ?_|refine CallD.det _ (fun _ hq X=>r2 _) ?_|refine CallD.det _ (fun _ hq X=>r1 _ _ _ _ (at_tq X hq rfl rfl rfl) (at_tq X hq rfl rfl rfl) (at_tq X hq rfl rfl rfl)) ?_|fail)|refine SegN.mk _ (seg_rfl rfl) ?_|refine DrawN.mk' [] ?_|fail)));all_goals (conv=>whnf)
   exact EndN.det trivial (Wk.refl _)
 ·have hx:inV nY:=.inr (.inl rfl)
  obtain ⟨o',s',n1',c1',n2',c2',hqr,hrb⟩:=fqx_ex (p.ren nY nW)
  have e1a:=e1 8 (.inl rfl) nY hx
  have e1b:=e1 9 (.inr rfl) nY hx
  have e2a:=e2 8 (.inl rfl) nY hx
  have e2b:=e2 9 (.inr rfl) nY hx
  have e3a:=e3 8 (.inl rfl) nY hx
  have e3b:=e3 9 (.inr rfl) nY hx
  have r1:=fun H px pc pf q1 q2 q3=>hR nY H px pc pf q1 q2 q3
  have r2:=fun H=>hRb nY hx H
  have b1a:=fun H=>b1 8 nY H
  have b1b:=fun H=>b1 9 nY H
  have b2a:=fun H=>b2 8 nY H
  have b2b:=fun H=>b2 9 nY H
  rw [hqr] at e2a e2b r1 b2a b2b
  clear e1 e2 e3 hR hRb b1 b2 hg1 hg2 hrc hmc hok hno hfv key
  generalize hv m (.qn 8 nY p) (bindF m)=V8 at e1a e2a e3a
  generalize hv m (.qn 9 nY p) (bindF m)=V9 at e1b e2b e3b
  cases V8 <;> cases V9
  all_goals
   refine fn_det Tryz.E0 Tryz.mx Tryz.func4 (by kernel_rfl) rfl (Nat.le_of_ble_eq_true rfl) rfl fun hcl hbl=>?_
   (repeat' ((conv=>whnf);(first|(refine IfN.id ?_;first|refine IfN.not ?_|refine IfN.tt rfl ?_|fail)|refine EqN.remC _ rfl rfl hc ?_|(refine SideN.mk ?_ ?_;· first|kernel_rfl|omega|exact List.cons_ne_nil _ _|(simp;done)|(simp;omega)|exact trivial|assumption|fail)|(refine CallN.id ?_;first|refine CallN.det _ (awake_c _) ?_|refine CallN.det _ (hMd _) ?_|refine CallN.det _ (hBl _) ?_|fail)|refine SegN.mk _ (seg_rfl rfl) ?_|refine DrawN.mk' [] ?_|fail)));all_goals (conv=>whnf)
   refine LoopN.rounds Tryz.E0 Tryz.mx 3 rfl ?_
   (repeat' ((conv=>whnf);(first|(refine IfN.id ?_;first|refine IfN.not ?_|refine IfN.tt rfl ?_|refine IfN.ff rfl ?_|fail)|(refine EqN.id ?_;first|(refine EqN.addN _ _ Cst.h Cst.h ?_ ?_;· omega)|refine EqN.remN _ _ Cst.h Cst.h ?_|refine EqN.i64 (by omega) ?_|fail)|(refine SideN.mk ?_ ?_;· first|kernel_rfl|omega|exact List.cons_ne_nil _ _|(simp;done)|(simp;omega)|exact trivial|assumption|fail)|(refine CallD.id ?_;first|refine CallD.det _ (fun _ hq X=>b1a _) ?_|refine CallD.det _ (fun _ hq X=>b1b _) ?_|refine CallD.det _ (fun _ hq X=>b2a _) ?_|refine CallD.det _ (fun _ hq X=>b2b _) ?_|refine CallD.det _ (fun _ hq X=>e1a _) ?_|refine CallD.det _ (fun _ hq X=>e1b _) ?_|refine CallD.det _ (fun _ hq X=>e2a _) ?_|refine CallD.det _ (fun _ hq X=>e2b _) ?_|refine CallD.det _ (fun _ hq X=>e3a _) ?_|refine CallD.det _ (fun _ hq X=>e3b _) ?_|refine CallD.det _ (fun _ hq X=>r2 _) ?_|refine CallD.det _ (fun _ hq X=>r1 _ _ _ _ (at_tq X hq rfl rfl rfl) (at_tq X hq rfl rfl rfl) (at_tq X hq rfl rfl rfl)) ?_|fail)|refine SegN.mk _ (seg_rfl rfl) ?_|refine DrawN.mk' [] ?_|fail)));all_goals (conv=>whnf)
   exact EndN.det trivial (Wk.refl _)
 ·have hx:inV nZ:=.inr (.inr rfl)
  obtain ⟨o',s',n1',c1',n2',c2',hqr,hrb⟩:=fqx_ex (p.ren nZ nW)
  have e1a:=e1 8 (.inl rfl) nZ hx
  have e1b:=e1 9 (.inr rfl) nZ hx
  have e2a:=e2 8 (.inl rfl) nZ hx
  have e2b:=e2 9 (.inr rfl) nZ hx
  have e3a:=e3 8 (.inl rfl) nZ hx
  have e3b:=e3 9 (.inr rfl) nZ hx
  have r1:=fun H px pc pf q1 q2 q3=>hR nZ H px pc pf q1 q2 q3
  have r2:=fun H=>hRb nZ hx H
  have b1a:=fun H=>b1 8 nZ H
  have b1b:=fun H=>b1 9 nZ H
  have b2a:=fun H=>b2 8 nZ H
  have b2b:=fun H=>b2 9 nZ H
  rw [hqr] at e2a e2b r1 b2a b2b
  clear e1 e2 e3 hR hRb b1 b2 hg1 hg2 hrc hmc hok hno hfv key
  generalize hv m (.qn 8 nZ p) (bindF m)=V8 at e1a e2a e3a
  generalize hv m (.qn 9 nZ p) (bindF m)=V9 at e1b e2b e3b
  cases V8 <;> cases V9
  all_goals
   refine fn_det Tryz.E0 Tryz.mx Tryz.func4 (by kernel_rfl) rfl (Nat.le_of_ble_eq_true rfl) rfl fun hcl hbl=>?_
   (repeat' ((conv=>whnf);(first|(refine IfN.id ?_;first|refine IfN.not ?_|refine IfN.tt rfl ?_|fail)|refine EqN.remC _ rfl rfl hc ?_|(refine SideN.mk ?_ ?_;· first|kernel_rfl|omega|exact List.cons_ne_nil _ _|(simp;done)|(simp;omega)|exact trivial|assumption|fail)|(refine CallN.id ?_;first|refine CallN.det _ (awake_c _) ?_|refine CallN.det _ (hMd _) ?_|refine CallN.det _ (hBl _) ?_|fail)|refine SegN.mk _ (seg_rfl rfl) ?_|refine DrawN.mk' [] ?_|fail)));all_goals (conv=>whnf)
   refine LoopN.rounds Tryz.E0 Tryz.mx 3 rfl ?_
   (repeat' ((conv=>whnf);(first|(refine IfN.id ?_;first|refine IfN.not ?_|refine IfN.tt rfl ?_|refine IfN.ff rfl ?_|fail)|(refine EqN.id ?_;first|(refine EqN.addN _ _ Cst.h Cst.h ?_ ?_;· omega)|refine EqN.remN _ _ Cst.h Cst.h ?_|refine EqN.i64 (by omega) ?_|fail)|(refine SideN.mk ?_ ?_;· first|kernel_rfl|omega|exact List.cons_ne_nil _ _|(simp;done)|(simp;omega)|exact trivial|assumption|fail)|(refine CallD.id ?_;first|refine CallD.det _ (fun _ hq X=>b1a _) ?_|refine CallD.det _ (fun _ hq X=>b1b _) ?_|refine CallD.det _ (fun _ hq X=>b2a _) ?_|refine CallD.det _ (fun _ hq X=>b2b _) ?_|refine CallD.det _ (fun _ hq X=>e1a _) ?_|refine CallD.det _ (fun _ hq X=>e1b _) ?_|refine CallD.det _ (fun _ hq X=>e2a _) ?_|refine CallD.det _ (fun _ hq X=>e2b _) ?_|refine CallD.det _ (fun _ hq X=>e3a _) ?_|refine CallD.det _ (fun _ hq X=>e3b _) ?_|refine CallD.det _ (fun _ hq X=>r2 _) ?_|refine CallD.det _ (fun _ hq X=>r1 _ _ _ _ (at_tq X hq rfl rfl rfl) (at_tq X hq rfl rfl rfl) (at_tq X hq rfl rfl rfl)) ?_|fail)|refine SegN.mk _ (seg_rfl rfl) ?_|refine DrawN.mk' [] ?_|fail)));all_goals (conv=>whnf)
   exact EndN.det trivial (Wk.refl _)
end Go.Proofs.YtgdmldelijeaoaaGreatDoor
/-! text DZ41 -/
namespace Go.Proofs.YtgdmldelijeaoaaGreatDoor
open Go.ChangeShapes Go.WideShapes Go.ChangeAt Go.RowKit Go.Vsi
theorem mrel_of {g:G} {W:World} {b:Nat} (hg:∀ b o,¬ g.own b o):∀ (l:List AV) (cs:List Value) (o:Nat),LRel g W l cs→(∀ (i:Nat) c,cs[i]? = some c→W.cell? ⟨b,o+i,.none⟩=some c)→MRel g W l b o
 | [],_,_,_,_=>trivial
 | v::l,cs,o,h,hc=>by
   simp only [LRel] at h
   obtain ⟨c,r,rfl,h1,h2⟩:=h
   refine ⟨⟨c,by simpa using hc 0 c rfl,h1,hg _ _⟩,?_⟩
   exact mrel_of hg l r (o+1) h2 fun i c' hi=>by
    have:=hc (i+1) c' (by simpa using hi)
    rwa [show o+(i+1)=o+1+i by omega] at this
theorem mone {W:World} {n:String} {gi:Nat} {ty:TypeId} {T:Ty} {D:DataW Unit} {cells:List AV} {g0:Nat} {t0:TypeId} {cs0:Array Value} {f0:Nat} {p0:List MemPlace}
  (hg:Tryz.prog.globalNamed n=some gi) (ht:(Tryz.prog.globals[gi]?).map (·.type)=some ty) (hty:TyOk Tryz.prog ty T) (hpl:PlTy T) (hD:∃ l',DatOf (H:=Unit) D l'∧l'=cells)
  (hg0:Tryz.prog.globalNamed n=some g0) (ht0:(Tryz.prog.globals[g0]?).map (·.type)=some t0) (hv0:W.var? Tryz.prog n=some cs0) (hd0:DataW.trod (fun _=>()) Tryz.prog W 0 (fun _=>true) false f0 t0 cs0.toList=some (D,p0)):MRel G.none W cells gi 0:=by
 obtain rfl:=Option.some.inj (hg.symm.trans hg0)
 obtain rfl:=Option.some.inj (ht.symm.trans ht0)
 obtain ⟨l,h1,h2⟩:=trod_dat (g:=G.none) _ hpl hty hd0
 obtain ⟨l',hl1,hl2⟩:=hD
 have hll:l=cells:=(DatOf.det h1 hl1).trans hl2
 rw [← hll]
 refine mrel_of (fun _ _ h=>h) l cs0.toList 0 h2 fun i c hi=>?_
 have:=World.var?_cell hg0 hv0 i
 rw [Nat.zero_add,this]
 simpa using hi
theorem gl_of_laid {W:World} (h:laidMetH Tryz.prog [("lyceum/syntax.rows",Rows.laid_lyceum_syntax_rows)] W):∀ p∈Glob.gl,MRel G.none W p.2 p.1 0:=by
 rw [MakeChecks.laidMetH_plain _ _ _ (by kernel_rfl)] at h
 obtain ⟨ps,⟨g0,t0,cs0,f0,p0,q0,hg0,ht0,hv0,hd0,_⟩,_⟩:=h
 have m0:MRel G.none W (Tryz.gl[0]).2 1 0:=mone (T:=repTy 17 (.pair .bool (.pair .bool (.pair (.int .u8) (.pair (.int .i64) (.pair (.int .i64) .unit)))))) (ty:=239) (by kernel_rfl) (by kernel_rfl) (tyOf_ok Tryz.T_ok 12 239 _ (by kernel_rfl)) (by simp [repTy,PlTy]) ⟨_,by unfold Rows.laid_lyceum_syntax_rows;repeat constructor,by kernel_rfl⟩ hg0 ht0 hv0 hd0
 intro p hp
 have hp0:p=Tryz.gl[0]:=by
  have:p∈Tryz.gl:=hp
  simpa [Tryz.gl] using this
 subst hp0
 exact m0
theorem u8_nat {n:Int} (h:(Lit.int .u8 n).wf=true):∃ m:Nat,n=m∧m≤255:=⟨n.toNat,by have:=wf_u8 h;omega,by have:=wf_u8 h;omega⟩
theorem u16_nat {n:Int} (h:(Lit.int .u16 n).wf=true):∃ m:Nat,n=m∧m≤65535:=⟨n.toNat,by have:=wf_u16 h;omega,by have:=wf_u16 h;omega⟩
theorem bytes_nat {l:List Int} (h:l.length≤maxLen∧∀ x∈l,(Lit.int .u8 x).wf=true):∃ c:List Nat,l=c.map (fun n:Nat=>(n:Int))∧c.length≤9223372036854775807∧∀ i,i<c.length→c.getD i 0≤255:=by
 refine ⟨l.map Int.toNat,?_,by simpa using maxLen_le h.1,fun i hi=>?_⟩
 ·rw [List.map_map]
  refine (List.map_id' l).symm.trans (List.map_congr_left fun x hx=>?_)
  have:=wf_u8 (h.2 x hx)
  simp only [Function.comp]
  omega
 ·have hi':i<l.length:=by simpa using hi
  have:=wf_u8 (h.2 _ (List.getElem_mem hi'))
  simp only [List.getD_eq_getElem?_getD,List.getElem?_map,List.getElem?_eq_getElem hi',Option.map_some,Option.getD_some]
  omega
theorem bytes_len (c:List Nat):List.length (α:=Ty.I (.int .u8)) (c.map fun n:Nat=>(n:Int))=c.length:=List.length_map ..
theorem bytes_enc (c:List Nat):List.flatMap (α:=Ty.I (.int .u8)) (Ty.enc (.int .u8)) (c.map fun n:Nat=>(n:Int))=c.flatMap fun n:Nat=>[.int .u8 (n:Int)]:=by
 induction c with
 | nil=>rfl
 | cons x c ih=>rw [List.flatMap_cons,← ih];rfl
theorem bytes_cast (c:List Nat) (p:AV→Prop) (h:p (.sl none c.length (c.flatMap fun n:Nat=>[.int .u8 (n:Int)]))):p (.sl none (List.length (α:=Ty.I (.int .u8)) (c.map fun n:Nat=>(n:Int))) (List.flatMap (α:=Ty.I (.int .u8)) (Ty.enc (.int .u8)) (c.map fun n:Nat=>(n:Int)))):=by
 rw [bytes_len,bytes_enc];exact h
def ty47w:Ty:=repTy 8 (.int .u16)
theorem words8 {x:ty47w.I} (h:ty47w.good x):∃ w:Nat→Nat,(∀ i,w i≤65535)∧ty47w.enc x=[.int .u16 (w 0:Nat),.int .u16 (w 1:Nat),.int .u16 (w 2:Nat),.int .u16 (w 3:Nat),.int .u16 (w 4:Nat),.int .u16 (w 5:Nat),.int .u16 (w 6:Nat),.int .u16 (w 7:Nat)]:=by
 obtain ⟨a0,e0,h0⟩:=u16_nat h.1
 obtain ⟨a1,e1,h1⟩:=u16_nat h.2.1
 obtain ⟨a2,e2,h2⟩:=u16_nat h.2.2.1
 obtain ⟨a3,e3,h3⟩:=u16_nat h.2.2.2.1
 obtain ⟨a4,e4,h4⟩:=u16_nat h.2.2.2.2.1
 obtain ⟨a5,e5,h5⟩:=u16_nat h.2.2.2.2.2.1
 obtain ⟨a6,e6,h6⟩:=u16_nat h.2.2.2.2.2.2.1
 obtain ⟨a7,e7,h7⟩:=u16_nat h.2.2.2.2.2.2.2.1
 refine ⟨fun i=>[a0,a1,a2,a3,a4,a5,a6,a7].getD i 0,fun i=>?_,?_⟩
 ·match i with
  | 0=>exact h0
  | 1=>exact h1
  | 2=>exact h2
  | 3=>exact h3
  | 4=>exact h4
  | 5=>exact h5
  | 6=>exact h6
  | 7=>exact h7
  | i+8=>exact Nat.zero_le _
 ·show [AV.int .u16 x.1,AV.int .u16 x.2.1,AV.int .u16 x.2.2.1,AV.int .u16 x.2.2.2.1,AV.int .u16 x.2.2.2.2.1,AV.int .u16 x.2.2.2.2.2.1,AV.int .u16 x.2.2.2.2.2.2.1,AV.int .u16 x.2.2.2.2.2.2.2.1]=[AV.int .u16 ((a0:Nat):Int),AV.int .u16 ((a1:Nat):Int),AV.int .u16 ((a2:Nat):Int),AV.int .u16 ((a3:Nat):Int),AV.int .u16 ((a4:Nat):Int),AV.int .u16 ((a5:Nat):Int),AV.int .u16 ((a6:Nat):Int),AV.int .u16 ((a7:Nat):Int)]
  rw [e0,e1,e2,e3,e4,e5,e6,e7]
end Go.Proofs.YtgdmldelijeaoaaGreatDoor
