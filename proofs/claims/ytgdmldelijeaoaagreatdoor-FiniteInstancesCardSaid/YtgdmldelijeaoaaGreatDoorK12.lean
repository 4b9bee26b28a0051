/- A text of the proof: the parts BG41, BH41, BJ41, DZ41. -/
import Derived.ProofKit
import Derived.LaidMore
import Derived.OpenShut
import Derived.Test.YtgdmldelijeaoaaGreatDoorK11
set_option linter.unusedSimpArgs false
set_option linter.unusedVariables false
/-! text BG41 -/
namespace Go.Proofs.YtgdmldelijeaoaaGreatDoor
open Go.Vsi
set_option maxHeartbeats 4000000
set_option linter.unusedSimpArgs false
attribute [local irreducible] VW VCall VO bits
theorem has_mk {m:Mdl} {p:Fq} (hok:p.Ok) (h1:∀ s a,p.hasP s a→hasFct m s a) (h2:∀ s a,p.hasC s a→hasFnc m s a) (h3:∀ x,p.free x→hasBnd m x):hasB m (sigF p.fo)=true:=by
 unfold hasB
 rw [Bool.and_eq_true,Bool.and_eq_true,List.all_eq_true,List.all_eq_true,List.all_eq_true]
 refine ⟨fun x hx=>?_,fun x hx=>?_,fun x hx=>?_⟩
 ·obtain ⟨y,hy,rfl⟩:=List.mem_map.1 hx
  exact h1 _ _ ((mem_predY hok y).1 ((sortY_perm _).mem_iff.1 hy))
 ·obtain ⟨y,hy,rfl⟩:=List.mem_map.1 hx
  exact h2 _ _ ((mem_funY hok y).1 ((sortY_perm _).mem_iff.1 hy))
 ·exact h3 _ ((mem_freeF hok x).1 ((sortB_perm _).mem_iff.1 hx))
theorem evalG_c (m:Mdl) (hm:m.Sm) (hn:m.Nm) (hva:validM m=true) (p:Fq) (hp:Gd p) (hr:rankF p≤6) (hh:hasB m (sigF p.fo)=true) (H:Heap):VDet Tryz.prog 18 [.agg m.cells,.agg p.fo.cells] H (.tup [.bool (hv m p (bindF m)),.int .i64 0]):=by
 have:=eval_c m hm hn p hp.sm hva hp.right H
 rwa [if_neg (by omega),if_pos hh] at this
def mAw:Mdl:=⟨2,2,[],0,[⟨nR,2,6⟩],[⟨nF,1,[1,0]⟩],[⟨nX,1⟩]⟩
theorem mAw_sm:mAw.Sm:=⟨by decide,by decide,by decide,by decide,fun f hf=>by rw [List.mem_singleton.1 hf];decide⟩
theorem mAw_nm:mAw.Nm:=⟨fun f hf=>by rw [List.mem_singleton.1 hf];decide,fun f hf=>by rw [List.mem_singleton.1 hf];decide,fun f hf=>by rw [List.mem_singleton.1 hf];decide⟩
theorem mAw_v:validM mAw=true:=by kernel_rfl
def aw1:Fq:=.qn 8 nX (.qn 9 nY (.at_ nR [.vr nX,.vr nY]))
def aw2:Fq:=.qn 9 nY (.qn 8 nX (.at_ nR [.vr nX,.vr nY]))
def aw3:Fq:=.qn 8 nX (.at_ nR [.vr nX,.ap nF (.vr nX)])
def aw4:Fq:=.at_ nR [.vr nX,.ap nF (.ap nF (.vr nX))]
theorem awR {s:ByteArray} {a:Int} (h:nR=s∧a=2):inP s a∧hasFct mAw s a:=by
 obtain ⟨rfl,rfl⟩:=h
 exact ⟨.inr (.inr ⟨rfl,rfl⟩),by show (mAw.facts.find? (factP nR 2)).isSome=true;kernel_rfl⟩
theorem awF {s:ByteArray} {a:Int} (h:nF=s∧a=1):inC s a∧hasFnc mAw s a:=by
 obtain ⟨rfl,rfl⟩:=h
 exact ⟨.inr ⟨rfl,rfl⟩,by show (mAw.funcs.find? (funcP nF 1)).isSome=true;kernel_rfl⟩
theorem awX {x:ByteArray} (h:nX=x):inV x∧hasBnd mAw x:=by
 subst h
 exact ⟨.inl rfl,by show (mAw.binds.find? (bindP nX)).isSome=true;kernel_rfl⟩
theorem aw1_std:stdF aw1:=⟨.inl rfl,by kernel_rfl,.inr rfl,by kernel_rfl,by kernel_rfl,by decide,fun t ht=>by
  rcases List.mem_cons.1 ht with h|h
  ·rw [h];exact ⟨by show isVar nX=true;kernel_rfl,by decide⟩
  ·rw [List.mem_singleton.1 h];exact ⟨by show isVar nY=true;kernel_rfl,by decide⟩⟩
theorem aw1_p (s:ByteArray) (a:Int) (h:aw1.hasP s a):nR=s∧a=2:=h
theorem aw1_c (s:ByteArray) (a:Int) (h:aw1.hasC s a):nF=s∧a=1:=by
 obtain ⟨t,ht,h⟩:=h
 rcases List.mem_cons.1 ht with e|e
 ·rw [e] at h;exact h.elim
 ·rw [List.mem_singleton.1 e] at h
  exact h.elim
theorem aw1_v (x:ByteArray) (h:aw1.free x):nX=x:=by
 obtain ⟨⟨⟨t,ht,h⟩,h1⟩,h2⟩:=h
 rcases List.mem_cons.1 ht with e|e
 ·rw [e] at h;exact h
 ·rw [List.mem_singleton.1 e] at h;exact absurd (Eq.symm h) h1
theorem aw1_gd:Gd aw1:=⟨aw1_std,by decide,by decide,fun s a h=>(awR (aw1_p s a h)).1,fun s a h=>(awF (aw1_c s a h)).1,fun x h=>(awX (aw1_v x h)).1⟩
theorem aw1_e (H:Heap):VDet Tryz.prog 18 [.agg [.int .u8 2,.int .i64 2,.nils,.int .i64 0,.sx 1 [.str nR,.int .i64 2,.int .i64 6],.sx 1 [.str nF,.int .i64 1,.sx 2 [.int .i64 1,.int .i64 0]],.sx 1 [.str nX,.int .i64 1]],.agg [.int .u8 8,.str nX,.sl none 0 [],.sl none 1 [.int .u8 9,.str nY,.sl none 0 [],.sl none 1 [.int .u8 1,.str nR,.sl none 2 [.bool true,.str nX,.sl none 0 [],.bool true,.str nY,.sl none 0 []],.sl none 0 []]]]] H (.tup [.bool true,.int .i64 0]):=by
 have h:=evalG_c mAw mAw_sm mAw_nm mAw_v aw1 aw1_gd (by decide) (has_mk (std_ok _ aw1_std) (fun s a h=>(awR (aw1_p s a h)).2) (fun s a h=>(awF (aw1_c s a h)).2) fun x h=>(awX (aw1_v x h)).2) H
 have hb:hv mAw aw1 (bindF mAw)=true:=by kernel_rfl
 rw [hb] at h
 exact VDet.wk h ⟨wk_agg ⟨Wk.refl _,Wk.refl _,wk_nils,Wk.refl _,wk_sx _ _,wk_sxL ⟨Wk.refl _,Wk.refl _,wk_sx _ _,trivial⟩,wk_sx _ _,trivial⟩,Wk.refl _,trivial⟩
theorem aw2_std:stdF aw2:=⟨.inr rfl,by kernel_rfl,.inl rfl,by kernel_rfl,by kernel_rfl,by decide,fun t ht=>by
  rcases List.mem_cons.1 ht with h|h
  ·rw [h];exact ⟨by show isVar nX=true;kernel_rfl,by decide⟩
  ·rw [List.mem_singleton.1 h];exact ⟨by show isVar nY=true;kernel_rfl,by decide⟩⟩
theorem aw2_p (s:ByteArray) (a:Int) (h:aw2.hasP s a):nR=s∧a=2:=h
theorem aw2_c (s:ByteArray) (a:Int) (h:aw2.hasC s a):nF=s∧a=1:=by
 obtain ⟨t,ht,h⟩:=h
 rcases List.mem_cons.1 ht with e|e
 ·rw [e] at h;exact h.elim
 ·rw [List.mem_singleton.1 e] at h
  exact h.elim
theorem aw2_v (x:ByteArray) (h:aw2.free x):nX=x:=by
 obtain ⟨⟨⟨t,ht,h⟩,h2⟩,h1⟩:=h
 rcases List.mem_cons.1 ht with e|e
 ·rw [e] at h;exact h
 ·rw [List.mem_singleton.1 e] at h;exact absurd (Eq.symm h) h1
theorem aw2_gd:Gd aw2:=⟨aw2_std,by decide,by decide,fun s a h=>(awR (aw2_p s a h)).1,fun s a h=>(awF (aw2_c s a h)).1,fun x h=>(awX (aw2_v x h)).1⟩
theorem aw2_e (H:Heap):VDet Tryz.prog 18 [.agg [.int .u8 2,.int .i64 2,.nils,.int .i64 0,.sx 1 [.str nR,.int .i64 2,.int .i64 6],.sx 1 [.str nF,.int .i64 1,.sx 2 [.int .i64 1,.int .i64 0]],.sx 1 [.str nX,.int .i64 1]],.agg [.int .u8 9,.str nY,.sl none 0 [],.sl none 1 [.int .u8 8,.str nX,.sl none 0 [],.sl none 1 [.int .u8 1,.str nR,.sl none 2 [.bool true,.str nX,.sl none 0 [],.bool true,.str nY,.sl none 0 []],.sl none 0 []]]]] H (.tup [.bool false,.int .i64 0]):=by
 have h:=evalG_c mAw mAw_sm mAw_nm mAw_v aw2 aw2_gd (by decide) (has_mk (std_ok _ aw2_std) (fun s a h=>(awR (aw2_p s a h)).2) (fun s a h=>(awF (aw2_c s a h)).2) fun x h=>(awX (aw2_v x h)).2) H
 have hb:hv mAw aw2 (bindF mAw)=false:=by kernel_rfl
 rw [hb] at h
 exact VDet.wk h ⟨wk_agg ⟨Wk.refl _,Wk.refl _,wk_nils,Wk.refl _,wk_sx _ _,wk_sxL ⟨Wk.refl _,Wk.refl _,wk_sx _ _,trivial⟩,wk_sx _ _,trivial⟩,Wk.refl _,trivial⟩
theorem aw3_std:stdF aw3:=⟨.inl rfl,by kernel_rfl,by kernel_rfl,by decide,fun t ht=>by
  rcases List.mem_cons.1 ht with h|h
  ·rw [h];exact ⟨by show isVar nX=true;kernel_rfl,by decide⟩
  ·rw [List.mem_singleton.1 h];exact ⟨⟨by kernel_rfl,by show isVar nX=true;kernel_rfl⟩,by decide⟩⟩
theorem aw3_p (s:ByteArray) (a:Int) (h:aw3.hasP s a):nR=s∧a=2:=h
theorem aw3_c (s:ByteArray) (a:Int) (h:aw3.hasC s a):nF=s∧a=1:=by
 obtain ⟨t,ht,h⟩:=h
 rcases List.mem_cons.1 ht with e|e
 ·rw [e] at h;exact h.elim
 ·rw [List.mem_singleton.1 e] at h
  exact h.elim id fun h=>h.elim
theorem aw3_v (x:ByteArray) (h:aw3.free x):nX=x:=by
 obtain ⟨⟨t,ht,h⟩,h2⟩:=h
 rcases List.mem_cons.1 ht with e|e
 ·rw [e] at h;exact h
 ·rw [List.mem_singleton.1 e] at h;exact h
theorem aw3_gd:Gd aw3:=⟨aw3_std,by decide,by decide,fun s a h=>(awR (aw3_p s a h)).1,fun s a h=>(awF (aw3_c s a h)).1,fun x h=>(awX (aw3_v x h)).1⟩
theorem aw3_e (H:Heap):VDet Tryz.prog 18 [.agg [.int .u8 2,.int .i64 2,.nils,.int .i64 0,.sx 1 [.str nR,.int .i64 2,.int .i64 6],.sx 1 [.str nF,.int .i64 1,.sx 2 [.int .i64 1,.int .i64 0]],.sx 1 [.str nX,.int .i64 1]],.agg [.int .u8 8,.str nX,.sl none 0 [],.sl none 1 [.int .u8 1,.str nR,.sl none 2 [.bool true,.str nX,.sl none 0 [],.bool false,.str nF,.sl none 1 [.bool true,.str nX,.sl none 0 []]],.sl none 0 []]]] H (.tup [.bool true,.int .i64 0]):=by
 have h:=evalG_c mAw mAw_sm mAw_nm mAw_v aw3 aw3_gd (by decide) (has_mk (std_ok _ aw3_std) (fun s a h=>(awR (aw3_p s a h)).2) (fun s a h=>(awF (aw3_c s a h)).2) fun x h=>(awX (aw3_v x h)).2) H
 have hb:hv mAw aw3 (bindF mAw)=true:=by kernel_rfl
 rw [hb] at h
 exact VDet.wk h ⟨wk_agg ⟨Wk.refl _,Wk.refl _,wk_nils,Wk.refl _,wk_sx _ _,wk_sxL ⟨Wk.refl _,Wk.refl _,wk_sx _ _,trivial⟩,wk_sx _ _,trivial⟩,Wk.refl _,trivial⟩
theorem aw4_std:stdF aw4:=⟨by kernel_rfl,by decide,fun t ht=>by
  rcases List.mem_cons.1 ht with h|h
  ·rw [h];exact ⟨by show isVar nX=true;kernel_rfl,by decide⟩
  ·rw [List.mem_singleton.1 h];exact ⟨⟨by kernel_rfl,by kernel_rfl,by show isVar nX=true;kernel_rfl⟩,by decide⟩⟩
theorem aw4_p (s:ByteArray) (a:Int) (h:aw4.hasP s a):nR=s∧a=2:=h
theorem aw4_c (s:ByteArray) (a:Int) (h:aw4.hasC s a):nF=s∧a=1:=by
 obtain ⟨t,ht,h⟩:=h
 rcases List.mem_cons.1 ht with e|e
 ·rw [e] at h;exact h.elim
 ·rw [List.mem_singleton.1 e] at h
  exact h.elim id fun h=>h.elim id fun h=>h.elim
theorem aw4_v (x:ByteArray) (h:aw4.free x):nX=x:=by
 obtain ⟨t,ht,h⟩:=h
 rcases List.mem_cons.1 ht with e|e
 ·rw [e] at h;exact h
 ·rw [List.mem_singleton.1 e] at h;exact h
theorem aw4_gd:Gd aw4:=⟨aw4_std,by decide,by decide,fun s a h=>(awR (aw4_p s a h)).1,fun s a h=>(awF (aw4_c s a h)).1,fun x h=>(awX (aw4_v x h)).1⟩
theorem aw4_e (H:Heap):VDet Tryz.prog 18 [.agg [.int .u8 2,.int .i64 2,.nils,.int .i64 0,.sx 1 [.str nR,.int .i64 2,.int .i64 6],.sx 1 [.str nF,.int .i64 1,.sx 2 [.int .i64 1,.int .i64 0]],.sx 1 [.str nX,.int .i64 1]],.agg [.int .u8 1,.str nR,.sl none 2 [.bool true,.str nX,.sl none 0 [],.bool false,.str nF,.sl none 1 [.bool false,.str nF,.sl none 1 [.bool true,.str nX,.sl none 0 []]]],.sl none 0 []]] H (.tup [.bool false,.int .i64 0]):=by
 have h:=evalG_c mAw mAw_sm mAw_nm mAw_v aw4 aw4_gd (by decide) (has_mk (std_ok _ aw4_std) (fun s a h=>(awR (aw4_p s a h)).2) (fun s a h=>(awF (aw4_c s a h)).2) fun x h=>(awX (aw4_v x h)).2) H
 have hb:hv mAw aw4 (bindF mAw)=false:=by kernel_rfl
 rw [hb] at h
 exact VDet.wk h ⟨wk_agg ⟨Wk.refl _,Wk.refl _,wk_nils,Wk.refl _,wk_sx _ _,wk_sxL ⟨Wk.refl _,Wk.refl _,wk_sx _ _,trivial⟩,wk_sx _ _,trivial⟩,Wk.refl _,trivial⟩
def sAw:Sig:=⟨[(nP,1)],[(nA,0)],[]⟩
theorem sAw_sm:sAw.Sm:=⟨by decide,by decide,by decide,fun f hf=>by rw [List.mem_singleton.1 hf];decide,fun f hf=>by rw [List.mem_singleton.1 hf];decide,fun f hf=>by cases hf⟩
theorem sAw_r:sigR sAw=true:=by kernel_rfl
def fiveM:Mdl:=⟨2,2,[],0,[⟨nP,1,2⟩],[⟨nA,0,[1]⟩],[]⟩
theorem five_sm:fiveM.Sm:=⟨by decide,by decide,by decide,by decide,fun f hf=>by rw [List.mem_singleton.1 hf];decide⟩
theorem five_nm:fiveM.Nm:=⟨fun f hf=>by rw [List.mem_singleton.1 hf];decide,fun f hf=>by rw [List.mem_singleton.1 hf];decide,fun f hf=>by cases hf⟩
theorem five_v:validM fiveM=true:=by kernel_rfl
def twoM:Mdl:=⟨2,2,[],0,[⟨nP,1,1⟩],[⟨nA,0,[0]⟩],[]⟩
theorem two_sm:twoM.Sm:=⟨by decide,by decide,by decide,by decide,fun f hf=>by rw [List.mem_singleton.1 hf];decide⟩
theorem two_nm:twoM.Nm:=⟨fun f hf=>by rw [List.mem_singleton.1 hf];decide,fun f hf=>by rw [List.mem_singleton.1 hf];decide,fun f hf=>by cases hf⟩
theorem two_v:validM twoM=true:=by kernel_rfl
theorem p10_ok:PermOk 2 [1,0]:=by
 refine ⟨rfl,fun a ha=>?_,fun a b ha hb h=>?_,fun b hb=>?_⟩
 ·have:a=0∨a=1:=by omega
  rcases this with rfl|rfl <;> decide
 ·have h1:a=0∨a=1:=by omega
  have h2:b=0∨b=1:=by omega
  rcases h1 with rfl|rfl <;> rcases h2 with rfl|rfl <;> first|rfl|exact absurd h (by decide)
 ·have:b=0∨b=1:=by omega
  rcases this with rfl|rfl
  ·exact ⟨1,by omega,rfl⟩
  ·exact ⟨0,by omega,rfl⟩
theorem wkSAW:Wk (.agg [.sx 1 [.str nP,.int .i64 1],.sx 1 [.str nA,.int .i64 0],.nils]) (.agg sAw.cells):=wk_agg ⟨wk_sx _ _,wk_sx _ _,wk_nils,trivial⟩
theorem awake_c (H:Heap):VDet Tryz.prog 12 [] H (.bool true):=by
 have c1:∀ H,VDet Tryz.prog 35 [.agg [.sx 1 [.str nP,.int .i64 1],.sx 1 [.str nA,.int .i64 0],.nils],.int .i64 2] H (.tup [.int .i64 8,.int .i64 0]):=fun H=>VDet.wk (count_c sAw sAw_sm sAw_r 2 (by omega) (by decide) (by decide) (by decide) H) ⟨wkSAW,Wk.refl _,trivial⟩
 have c2:∀ H,VDet Tryz.prog 38 [.agg [.sx 1 [.str nP,.int .i64 1],.sx 1 [.str nA,.int .i64 0],.nils],.int .i64 2,.int .i64 5] H (.tup [.agg [.int .u8 2,.int .i64 2,.sl none 0 [],.int .i64 0,.sl none 1 [.str nP,.int .i64 1,.int .i64 2],.sl none 1 [.str nA,.int .i64 0,.sl none 1 [.int .i64 1]],.sl none 0 []],.int .i64 0]):=fun H=>VDet.wk (nth_c sAw sAw_sm sAw_r 2 (by omega) (by decide) (by decide) (by decide) 5 (by decide) (by decide) H) ⟨wkSAW,Wk.refl _,Wk.refl _,trivial⟩
 have c3:∀ H,VDet Tryz.prog 46 [.agg [.int .u8 2,.int .i64 2,.sl none 0 [],.int .i64 0,.sl none 1 [.str nP,.int .i64 1,.int .i64 2],.sl none 1 [.str nA,.int .i64 0,.sl none 1 [.int .i64 1]],.sl none 0 []],.sx 2 [.int .i64 1,.int .i64 0]] H (.tup [.agg [.int .u8 2,.int .i64 2,.sl none 0 [],.int .i64 0,.sl none 1 [.str nP,.int .i64 1,.int .i64 1],.sl none 1 [.str nA,.int .i64 0,.sl none 1 [.int .i64 0]],.sl none 0 []],.int .i64 0]):=fun H=>VDet.wk (moved1 [⟨nP,1,2⟩] [] 2 [1,0] nA 1 (by omega) (by omega) p10_ok fiveM rfl five_sm five_nm five_v H) ⟨Wk.refl _,wk_sx _ _,trivial⟩
 have c4:∀ H,VDet Tryz.prog 45 [.agg [.int .u8 2,.int .i64 2,.sl none 0 [],.int .i64 0,.sl none 1 [.str nP,.int .i64 1,.int .i64 1],.sl none 1 [.str nA,.int .i64 0,.sl none 1 [.int .i64 0]],.sl none 0 []]] H (.tup [.int .i64 2,.int .i64 0]):=fun H=>number_m twoM two_sm two_nm two_v 2 rfl (by decide) (by decide) (by decide) (by decide) (by decide) H
 have v1:=fun H=>v22_c nX H
 have v2:=fun H=>v22_c nY H
 have a1:∀ H,VDet Tryz.prog 14 [.str nR,.sx 2 [.bool true,.str nX,.sl none 0 [],.bool true,.str nY,.sl none 0 []]] H (.agg [.int .u8 1,.str nR,.sl none 2 [.bool true,.str nX,.sl none 0 [],.bool true,.str nY,.sl none 0 []],.sl none 0 []]):=fun H=>VDet.wk (atom14_c nR 2 [.bool true,.str nX,.sl none 0 [],.bool true,.str nY,.sl none 0 []] (fun m=>by simp [below,belowL]) H) ⟨Wk.refl _,wk_sx _ _,trivial⟩
 have a3:∀ H,VDet Tryz.prog 14 [.str nR,.sx 2 [.bool true,.str nX,.sl none 0 [],.bool false,.str nF,.sl none 1 [.bool true,.str nX,.sl none 0 []]]] H (.agg [.int .u8 1,.str nR,.sl none 2 [.bool true,.str nX,.sl none 0 [],.bool false,.str nF,.sl none 1 [.bool true,.str nX,.sl none 0 []]],.sl none 0 []]):=fun H=>VDet.wk (atom14_c nR 2 [.bool true,.str nX,.sl none 0 [],.bool false,.str nF,.sl none 1 [.bool true,.str nX,.sl none 0 []]] (fun m=>by simp [below,belowL]) H) ⟨Wk.refl _,wk_sx _ _,trivial⟩
 have a4:∀ H,VDet Tryz.prog 14 [.str nR,.sx 2 [.bool true,.str nX,.sl none 0 [],.bool false,.str nF,.sl none 1 [.bool false,.str nF,.sl none 1 [.bool true,.str nX,.sl none 0 []]]]] H (.agg [.int .u8 1,.str nR,.sl none 2 [.bool true,.str nX,.sl none 0 [],.bool false,.str nF,.sl none 1 [.bool false,.str nF,.sl none 1 [.bool true,.str nX,.sl none 0 []]]],.sl none 0 []]):=fun H=>VDet.wk (atom14_c nR 2 [.bool true,.str nX,.sl none 0 [],.bool false,.str nF,.sl none 1 [.bool false,.str nF,.sl none 1 [.bool true,.str nX,.sl none 0 []]]] (fun m=>by simp [below,belowL]) H) ⟨Wk.refl _,wk_sx _ _,trivial⟩
 have f1:∀ H,VDet Tryz.prog 68 [.str nF,.sx 1 [.bool true,.str nX,.sl none 0 []]] H (.agg [.bool false,.str nF,.sl none 1 [.bool true,.str nX,.sl none 0 []]]):=fun H=>VDet.wk (fn68_c nF 1 [.bool true,.str nX,.sl none 0 []] (fun m=>by simp [below,belowL]) H) ⟨Wk.refl _,wk_sx _ _,trivial⟩
 have f2:∀ H,VDet Tryz.prog 68 [.str nF,.sx 1 [.bool false,.str nF,.sl none 1 [.bool true,.str nX,.sl none 0 []]]] H (.agg [.bool false,.str nF,.sl none 1 [.bool false,.str nF,.sl none 1 [.bool true,.str nX,.sl none 0 []]]]):=fun H=>VDet.wk (fn68_c nF 1 [.bool false,.str nF,.sl none 1 [.bool true,.str nX,.sl none 0 []]] (fun m=>by simp [below,belowL]) H) ⟨Wk.refl _,wk_sx _ _,trivial⟩
 have b1:∀ H,VDet Tryz.prog 24 [.int .u8 9,.str nY,.agg [.int .u8 1,.str nR,.sl none 2 [.bool true,.str nX,.sl none 0 [],.bool true,.str nY,.sl none 0 []],.sl none 0 []]] H (.agg [.int .u8 9,.str nY,.sl none 0 [],.sl none 1 [.int .u8 1,.str nR,.sl none 2 [.bool true,.str nX,.sl none 0 [],.bool true,.str nY,.sl none 0 []],.sl none 0 []]]):=fun H=>bound_c 9 nY (Fq.fo (.at_ nR [.vr nX,.vr nY])) H
 have b2:∀ H,VDet Tryz.prog 24 [.int .u8 8,.str nX,.agg [.int .u8 9,.str nY,.sl none 0 [],.sl none 1 [.int .u8 1,.str nR,.sl none 2 [.bool true,.str nX,.sl none 0 [],.bool true,.str nY,.sl none 0 []],.sl none 0 []]]] H (.agg [.int .u8 8,.str nX,.sl none 0 [],.sl none 1 [.int .u8 9,.str nY,.sl none 0 [],.sl none 1 [.int .u8 1,.str nR,.sl none 2 [.bool true,.str nX,.sl none 0 [],.bool true,.str nY,.sl none 0 []],.sl none 0 []]]]):=fun H=>bound_c 8 nX (Fq.fo (.qn 9 nY (.at_ nR [.vr nX,.vr nY]))) H
 have b3:∀ H,VDet Tryz.prog 24 [.int .u8 8,.str nX,.agg [.int .u8 1,.str nR,.sl none 2 [.bool true,.str nX,.sl none 0 [],.bool true,.str nY,.sl none 0 []],.sl none 0 []]] H (.agg [.int .u8 8,.str nX,.sl none 0 [],.sl none 1 [.int .u8 1,.str nR,.sl none 2 [.bool true,.str nX,.sl none 0 [],.bool true,.str nY,.sl none 0 []],.sl none 0 []]]):=fun H=>bound_c 8 nX (Fq.fo (.at_ nR [.vr nX,.vr nY])) H
 have b4:∀ H,VDet Tryz.prog 24 [.int .u8 9,.str nY,.agg [.int .u8 8,.str nX,.sl none 0 [],.sl none 1 [.int .u8 1,.str nR,.sl none 2 [.bool true,.str nX,.sl none 0 [],.bool true,.str nY,.sl none 0 []],.sl none 0 []]]] H (.agg [.int .u8 9,.str nY,.sl none 0 [],.sl none 1 [.int .u8 8,.str nX,.sl none 0 [],.sl none 1 [.int .u8 1,.str nR,.sl none 2 [.bool true,.str nX,.sl none 0 [],.bool true,.str nY,.sl none 0 []],.sl none 0 []]]]):=fun H=>bound_c 9 nY (Fq.fo (.qn 8 nX (.at_ nR [.vr nX,.vr nY]))) H
 have b5:∀ H,VDet Tryz.prog 24 [.int .u8 8,.str nX,.agg [.int .u8 1,.str nR,.sl none 2 [.bool true,.str nX,.sl none 0 [],.bool false,.str nF,.sl none 1 [.bool true,.str nX,.sl none 0 []]],.sl none 0 []]] H (.agg [.int .u8 8,.str nX,.sl none 0 [],.sl none 1 [.int .u8 1,.str nR,.sl none 2 [.bool true,.str nX,.sl none 0 [],.bool false,.str nF,.sl none 1 [.bool true,.str nX,.sl none 0 []]],.sl none 0 []]]):=fun H=>bound_c 8 nX (Fq.fo (.at_ nR [.vr nX,.ap nF (.vr nX)])) H
 refine fn_det Tryz.E0 Tryz.mx Tryz.func12 (by kernel_rfl) rfl (Nat.le_of_ble_eq_true rfl) rfl fun hcl hbl=>?_
 (repeat' ((conv=>whnf);(first|(refine IfN.id ?_;first|refine IfN.not ?_|refine IfN.tt rfl ?_|refine IfN.ff rfl ?_|fail)|(refine EqN.addN _ _ Cst.h Cst.h ?_ ?_;· omega)|(refine SideN.mk ?_ ?_;· first|kernel_rfl|omega|exact List.cons_ne_nil _ _|(simp;done)|(simp;omega)|exact trivial|assumption|fail)|(refine CallN.id ?_;first|refine CallN.det _ (c1 _) ?_|refine CallN.det _ (c2 _) ?_|refine CallN.det _ (c3 _) ?_|refine CallN.det _ (c4 _) ?_|refine CallN.det _ (v1 _) ?_|refine CallN.det _ (v2 _) ?_|fail)|(refine CallD.id ?_;first|refine CallD.det _ (fun _ hq X=>a1 _) ?_|refine CallD.det _ (fun _ hq X=>a3 _) ?_|refine CallD.det _ (fun _ hq X=>a4 _) ?_|refine CallD.det _ (fun _ hq X=>f1 _) ?_|refine CallD.det _ (fun _ hq X=>f2 _) ?_|refine CallD.det _ (fun _ hq X=>b1 _) ?_|refine CallD.det _ (fun _ hq X=>b2 _) ?_|refine CallD.det _ (fun _ hq X=>b3 _) ?_|refine CallD.det _ (fun _ hq X=>b4 _) ?_|refine CallD.det _ (fun _ hq X=>b5 _) ?_|refine CallD.det _ (fun _ hq X=>aw1_e _) ?_|refine CallD.det _ (fun _ hq X=>aw2_e _) ?_|refine CallD.det _ (fun _ hq X=>aw3_e _) ?_|refine CallD.det _ (fun _ hq X=>aw4_e _) ?_|fail)|refine SegN.mk _ (seg_rfl rfl) ?_|refine DrawN.mk' [] ?_|fail)));all_goals (conv=>whnf)
 exact EndN.det trivial (Wk.refl _)
end Go.Proofs.YtgdmldelijeaoaaGreatDoor
/-! text BH41 -/
namespace Go.Proofs.YtgdmldelijeaoaaGreatDoor
open Go.Vsi
set_option maxHeartbeats 4000000
set_option linter.unusedSimpArgs false
attribute [local irreducible] VW VCall VO bits
theorem madN_le (k:Nat):1≤madN k∧madN k≤3:=by
 unfold madN
 have:=Nat.mod_lt k (show 0<3 by omega)
 omega
theorem fqx_ex (p:Fq):∃ o s n1 c1 n2 c2,fqx p=[.int .u8 ((o:Nat):Int),.str s,.sl none n1 c1,.sl none n2 c2]∧∀ n,belowL n c1∧belowL n c2 :=
 ⟨_,_,_,_,_,_,rfl,fun n=>⟨ftl_below n p,fsl_below n p⟩⟩
theorem boundQ (k:Nat) (x:ByteArray) (p:Fq) (H:Heap):VDet Tryz.prog 24 [.int .u8 (k:Nat),.str x,.agg (fqx p)] H (.agg [.int .u8 (k:Nat),.str x,.sl none 0 [],.sl none 1 (fqx p)]):=by
 have:=bound_c k x p.fo H
 rwa [fqx_eq p] at this
theorem evalQ (m:Mdl) (hm:m.Sm) (hn:m.Nm) (hva:validM m=true) (p:Fq) (hp:Gd p) (hr:rankF p≤6) (ha:HasAll m) (H:Heap):VDet Tryz.prog 18 [.agg m.cells,.agg (fqx p)] H (.tup [.bool (hv m p (bindF m)),.int .i64 0]):=by
 have:=evalG_c m hm hn hva p hp hr (hp.has ha) H
 rwa [fqx_eq p] at this
end Go.Proofs.YtgdmldelijeaoaaGreatDoor
/-! text BJ41 -/
namespace Go.Proofs.YtgdmldelijeaoaaGreatDoor
open Go.Vsi
set_option maxHeartbeats 4000000
set_option linter.unusedSimpArgs false
attribute [local irreducible] VW VCall VO bits
def cntB (B:Nat→Bool):Nat→Nat
 | 0=>0
 | k+1=>cntB B k+(if B k then 1 else 0)
theorem cntB_succ (B:Nat→Bool) (k:Nat):cntB B (k+1)=cntB B k+(if B k then 1 else 0):=rfl
theorem cntB_le (B:Nat→Bool):∀ k,cntB B k≤k
 | 0=>Nat.le_refl _
 | k+1=>by
   have:=cntB_le B k
   rw [cntB_succ]
   split <;> omega
theorem cntB_all (B:Nat→Bool):∀ k,(List.range k).all B=(((cntB B k:Nat):Int)==(k:Int))
 | 0=>rfl
 | k+1=>by
   have h:=cntB_all B k
   have hl:=cntB_le B k
   rw [List.range_succ,List.all_append,h,cntB_succ]
   cases hb:B k
   ·simp only [List.all_cons,List.all_nil,hb,Bool.and_false,Bool.false_and,Bool.false_eq_true,if_false]
    symm
    rw [beq_eq_false_iff_ne]
    omega
   ·simp only [List.all_cons,List.all_nil,hb,Bool.and_true,if_true]
    by_cases e:cntB B k=k
    ·rw [e]
     simp
    ·rw [beq_eq_false_iff_ne.2 (show ((cntB B k:Nat):Int)≠(k:Int) by omega),beq_eq_false_iff_ne.2 (show ((cntB B k+1:Nat):Int)≠((k+1:Nat):Int) by omega)]
theorem cntB_any (B:Nat→Bool):∀ k,(List.range k).any B=decide ((0:Int)<((cntB B k:Nat):Int))
 | 0=>rfl
 | k+1=>by
   have h:=cntB_any B k
   rw [List.range_succ,List.any_append,h,cntB_succ]
   cases hb:B k
   ·simp [hb]
   ·simp only [List.any_cons,List.any_nil,hb,Bool.or_false,Bool.or_true,if_true]
    symm
    rw [decide_eq_true_eq]
    omega
theorem cntB_one {B:Nat→Bool} {k i:Nat} (hi:i<k) (h:cntB B k=k):B i=true:=by
 have h1:=cntB_all B k
 rw [h] at h1
 rw [show (((k:Nat):Int)==(k:Int))=true by simp,List.all_eq_true] at h1
 exact h1 i (List.mem_range.2 hi)
theorem cntB_pos {B:Nat→Bool} {k i:Nat} (hi:i<k) (h:B i=true):0<cntB B k:=by
 have h1:=cntB_any B k
 rw [List.any_eq_true.2 ⟨i,List.mem_range.2 hi,h⟩] at h1
 have:=of_decide_eq_true h1.symm
 omega
theorem cntB_const {B:Nat→Bool} {b:Bool}:∀ k,(∀ i,i<k→B i=b)→cntB B k=if b then k else 0
 | 0,_=>by cases b <;> rfl
 | k+1,h=>by
   rw [cntB_succ,cntB_const k (fun i hi=>h i (by omega)),h k (by omega)]
   cases b <;> simp
theorem join52Q (a:Fq) (H:Heap):VDet Tryz.prog 52 [.int .u8 3,.sx 1 (fqx a)] H (.agg [.int .u8 3,.str .empty,.sl none 0 [],.sl none 1 (fqx a)]) :=
 VDet.wk (join52_c 3 1 (fqx a) (fun m=>fqx_below m a) H) ⟨Wk.refl _,wk_sx _ _,trivial⟩
theorem fqx_f1 (a:Fq):fqx (.f1 a)=[.int .u8 3,.str .empty,.sl none 0 [],.sl none 1 (fqx a)]:=by
 rw [← fqx_eq a]
 rfl
theorem upd_self (r:Val) (x:ByteArray) (a:Int) (h:r x=a):upd r x a=r:=by
 funext y
 unfold upd
 split
 ·rename_i e
  rw [e,h]
 ·rfl
theorem bind_bd {m:Mdl} {n:Nat} (vm:VM m n) {x:ByteArray} (h:hasBnd m x):∃ i:Nat,i<n∧bindF m x=i:=by
 obtain ⟨b,hb,-,he⟩:=bind_in h
 have:=vm.binds b hb
 exact ⟨(bindF m x).toNat,by omega,by omega⟩
def frB (x:ByteArray) (V:List ByteArray) (k:Nat):Bool:=(V.take k).any fun y=>x.toList==y.toList
theorem frB_succ (x:ByteArray) (V:List ByteArray) (k:Nat) (h:k<V.length):frB x V (k+1)=(frB x V k || (x.toList==(V.getD k .empty).toList)):=by
 unfold frB
 rw [take_snocD V .empty k h,List.any_append]
 simp
theorem frB_full (x:ByteArray) (V:List ByteArray) (h:frB x V V.length=false):x ∉ V:=by
 intro hx
 unfold frB at h
 rw [List.take_length,Bool.eq_false_iff] at h
 exact h (List.any_eq_true.2 ⟨x,hx,by simp⟩)
theorem ins_core (k:Nat) (hk:k≤255) (w:Nat→Nat) (hw:∀ i,w i≤65535) (l:List Nat) (hl:l.length≤9223372036854775807) (hb:∀ i,i<l.length→l.getD i 0≤255) (wh:Nat) (hwh:wh≤255) (c:Nat) (hc:wh % 3=c) (x:ByteArray) (hx:inV x)
  (hsg:∀ kk:List AV→Prop,(∀ r,kk (.str x::r))→SegN [.str nX,.str nY,.str nZ] (((c:Nat):Int).toNat * 1) kk) (H:Heap) :
  VDet Tryz.prog 6 [.int .u8 (k:Nat),.agg (cW w),.sl none l.length (l.flatMap encB),.int .u8 (wh:Nat)] H (.bool true):=by
 have hMd:=fun H=>made_c k hk w hw H
 have hBl:=fun H=>built15_c l hl hb H
 have hn:=madN_le k
 have hsm:(mad k w).Sm:=madW_sm (madN k) hn w
 have hnm:(mad k w).Nm:=madW_nm (madN k) w
 have hva:validM (mad k w)=true:=madW_valid (madN k) hn w
 have hal:HasAll (mad k w):=madW_all (madN k) w
 have vm:=(vm_of hva).1
 have hsz:(mad k w).size.toNat=madN k:=by show ((madN k:Nat):Int).toNat=_;omega
 rw [hsz] at vm
 obtain ⟨fc,uc,hmc,hfb,hub⟩:∃ fc uc,(mad k w).cells=[.int .u8 2,.int .i64 (madN k:Nat),.sl none 0 [],.int .i64 0,.sl none 3 fc,.sl none 2 uc,.sl none 3 [.str nX,.int .i64 (w 5 % madN k:Nat),.str nY,.int .i64 (w 6 % madN k:Nat),.str nZ,.int .i64 (w 7 % madN k:Nat)]]∧(∀ n,belowL n fc)∧∀ n,belowL n uc:=⟨_,_,rfl,fun n=>fcts_below n (mad k w).facts,fun n=>fncs_below n (mad k w).funcs⟩
 have hrc:∀ (x:ByteArray) (a:Nat),(rebM (mad k w) x (a:Nat)).cells=[.int .u8 2,.int .i64 (madN k:Nat),.sl none 0 [],.int .i64 0,.sl none 3 fc,.sl none 2 uc,.sl none 3 [.str nX,.int .i64 (if x=nX then ((a:Nat):Int) else (w 5 % madN k:Nat)),.str nY,.int .i64 (if x=nY then ((a:Nat):Int) else (w 6 % madN k:Nat)),.str nZ,.int .i64 (if x=nZ then ((a:Nat):Int) else (w 7 % madN k:Nat))]]:=fun x a=>by
  have e:(mad k w).cells=[.int .u8 2,.int .i64 (madN k:Nat),.sl none 0 [],.int .i64 0,.sl none 3 ((mad k w).facts.flatMap Fct.cells),.sl none 2 ((mad k w).funcs.flatMap Fnc.cells),.sl none 3 [.str nX,.int .i64 (w 5 % madN k:Nat),.str nY,.int .i64 (w 6 % madN k:Nat),.str nZ,.int .i64 (w 7 % madN k:Nat)]]:=rfl
  rw [e] at hmc
  simp only [List.cons.injEq,AV.sl.injEq,true_and,and_true] at hmc
  obtain ⟨rfl,rfl⟩:=hmc
  rfl
 have hRb:=fun (a:Nat) H=>rebound_c (madN k:Nat) (w 5 % madN k:Nat) (w 6 % madN k:Nat) (w 7 % madN k:Nat) ((a:Nat):Int) 3 2 fc uc hfb hub x hx H
 have hg1:=fun op hop=>gd_qn (l:=l) op hop (x:=x) hx
 have hgd:=blt_gd l
 have hdp:=blt_dep l
 have hnd:=blt_nodes l
 have hrk:=blt_rank l
 generalize hp:bltF l=p at hBl hg1 hgd hdp hnd hrk
 have hok:=std_ok p hgd.std
 obtain ⟨B,hB⟩:∃ B:Nat→Bool,∀ i,B i=hv (mad k w) p (upd (bindF (mad k w)) x (i:Nat)):=⟨_,fun _=>rfl⟩
 have hBf:(fun i:Nat=>hv (mad k w) p (upd (bindF (mad k w)) x i))=B:=funext fun i=>(hB i).symm
 have hszI:(mad k w).size.toNat=madN k:=hsz
 have q8:hv (mad k w) (.qn 8 x p) (bindF (mad k w))=(((cntB B (madN k):Nat):Int)==(madN k:Int)):=by
  rw [← cntB_all,← hBf,← hszI]
  rfl
 have q9:hv (mad k w) (.qn 9 x p) (bindF (mad k w))=decide ((0:Int)<((cntB B (madN k):Nat):Int)):=by
  rw [← cntB_any,← hBf,← hszI]
  rfl
 have qn9:hv (mad k w) (.f1 (.qn 9 x (.f1 p))) (bindF (mad k w))=(((cntB B (madN k):Nat):Int)==(madN k:Int)):=by
  have e:hv (mad k w) (.f1 (.qn 9 x (.f1 p))) (bindF (mad k w))=!((List.range (mad k w).size.toNat).any fun i=>!hv (mad k w) p (upd (bindF (mad k w)) x i)):=rfl
  rw [e,hszI,← cntB_all,← hBf,List.not_any_eq_all_not]
  simp
 obtain ⟨P,hP⟩:∃ P:Bool,P=hv (mad k w) p (bindF (mad k w)):=⟨_,rfl⟩
 obtain ⟨i0,hi0,hbx⟩:=bind_bd vm (hal.v x hx)
 have hBi:B i0=P:=by rw [hB,hP,upd_self _ _ _ hbx]
 have hAP:cntB B (madN k)=madN k→P=true:=fun h=>by rw [← hBi];exact cntB_one hi0 h
 have hPS:P=true→0<cntB B (madN k):=fun h=>cntB_pos hi0 (hBi.trans h)
 have hnf:¬ p.free x→cntB B (madN k)=if P then madN k else 0:=fun h=>cntB_const _ fun i _=>by
  rw [hB,hP]
  refine hv_free p _ _ fun y hy=>?_
  unfold upd
  rw [if_neg (show ¬ y=x from fun e=>h (e▸hy))]
 have e1:∀ H,VDet Tryz.prog 18 [.agg (mad k w).cells,.agg [.int .u8 8,.str x,.sl none 0 [],.sl none 1 (fqx p)]] H (.tup [.bool (((cntB B (madN k):Nat):Int)==(madN k:Int)),.int .i64 0]):=fun H=>by
  have:=evalQ _ hsm hnm hva _ (hg1 8 (.inl rfl)).1 (hg1 8 (.inl rfl)).2 hal H
  rwa [fqx_qn,q8] at this
 have e2:∀ H,VDet Tryz.prog 18 [.agg (mad k w).cells,.agg [.int .u8 9,.str x,.sl none 0 [],.sl none 1 (fqx p)]] H (.tup [.bool (decide ((0:Int)<((cntB B (madN k):Nat):Int))),.int .i64 0]):=fun H=>by
  have:=evalQ _ hsm hnm hva _ (hg1 9 (.inr rfl)).1 (hg1 9 (.inr rfl)).2 hal H
  rwa [fqx_qn,q9] at this
 have hgn:Gd (.f1 p):=gd_not hgd (by omega) (by omega)
 have hgq:Gd (.qn 9 x (.f1 p)):=⟨⟨.inr rfl,inV_var hx,hgn.std⟩,by show dF p+1+1≤30;omega,by show msF 1 0 p+1+1+0≤55;omega,hgd.sym.p,hgd.sym.c,fun y q=>hgd.sym.v y q.1⟩
 have e3:∀ H,VDet Tryz.prog 18 [.agg (mad k w).cells,.agg [.int .u8 3,.str .empty,.sl none 0 [],.sl none 1 [.int .u8 9,.str x,.sl none 0 [],.sl none 1 [.int .u8 3,.str .empty,.sl none 0 [],.sl none 1 (fqx p)]]]] H (.tup [.bool (((cntB B (madN k):Nat):Int)==(madN k:Int)),.int .i64 0]):=fun H=>by
  have:=evalQ _ hsm hnm hva (.f1 (.qn 9 x (.f1 p))) (gd_not hgq (by show dF p+1+1≤29;omega) (by show msF 1 0 p+1+1+0≤54;omega)) (by show rankF p+1≤6;omega) hal H
  rwa [fqx_f1,fqx_qn,fqx_f1,qn9] at this
 have e4:∀ H,VDet Tryz.prog 18 [.agg (mad k w).cells,.agg (fqx p)] H (.tup [.bool P,.int .i64 0]):=fun H=>by
  have:=evalQ _ hsm hnm hva _ hgd (by omega) hal H
  rwa [← hP] at this
 have e5:∀ a,a<madN k→∀ H,VDet Tryz.prog 18 [.agg (rebM (mad k w) x (a:Nat)).cells,.agg (fqx p)] H (.tup [.bool (B a),.int .i64 0]):=fun a ha H=>by
  have hel:elB (mad k w).size ((a:Nat):Int)=true:=by
   unfold elB
   rw [Bool.and_eq_true,decide_eq_true_eq,decide_eq_true_eq]
   exact ⟨Int.natCast_nonneg _,Int.ofNat_lt.2 ha⟩
  have:=evalQ (rebM (mad k w) x (a:Nat)) (reb_sm hsm) (reb_nm hnm) (reb_valid hva hel) _ hgd (by omega) (reb_all hal) H
  rwa [hv_reb hal x _ p hgd.sym.v,← hB] at this
 have b1:=fun H=>boundQ 8 x p H
 have b2:=fun H=>boundQ 9 x p H
 have b3:∀ H,VDet Tryz.prog 24 [.int .u8 9,.str x,.agg [.int .u8 3,.str .empty,.sl none 0 [],.sl none 1 (fqx p)]] H (.agg [.int .u8 9,.str x,.sl none 0 [],.sl none 1 [.int .u8 3,.str .empty,.sl none 0 [],.sl none 1 (fqx p)]]):=fun H=>by
  have:=boundQ 9 x (.f1 p) H
  rwa [fqx_f1] at this
 have j1:=fun H=>join52Q p H
 have j2:∀ H,VDet Tryz.prog 52 [.int .u8 3,.sx 1 [.int .u8 9,.str x,.sl none 0 [],.sl none 1 [.int .u8 3,.str .empty,.sl none 0 [],.sl none 1 (fqx p)]]] H (.agg [.int .u8 3,.str .empty,.sl none 0 [],.sl none 1 [.int .u8 9,.str x,.sl none 0 [],.sl none 1 [.int .u8 3,.str .empty,.sl none 0 [],.sl none 1 (fqx p)]]]):=fun H=>by
  have:=join52Q (.qn 9 x (.f1 p)) H
  rwa [fqx_qn,fqx_f1] at this
 have sg:∀ H,VDet Tryz.prog 29 [.sx 1 (fqx p)] H (.tup [.agg (sigF p.fo).cells,.int .i64 0]):=fun H=>by
  have:=sig1_c p hgd.sm hgd.right H
  rw [fqx_eq] at this
  exact VDet.wk this ⟨wk_sx _ _,trivial⟩
 have hfr:x ∉ (sigF p.fo).vars→¬ p.free x:=fun h hf=>h ((sortB_perm _).mem_iff.2 ((mem_freeF hok x).2 hf))
 have hVl:(sigF p.fo).vars.length≤3:=by show (sortB (freeF p.fo)).length≤3;rw [sortB_len];exact freeF_len hgd
 obtain ⟨sp,sc,sfu,sfc,hsc,hsb⟩:∃ a b c d,(sigF p.fo).cells=[.sl none a b,.sl none c d,.sl none (sigF p.fo).vars.length ((sigF p.fo).vars.flatMap encS)]∧∀ n,belowL n b∧belowL n d:=⟨_,_,_,_,rfl,fun n=>⟨symIs_below n _,symIs_below n _⟩⟩
 rw [hsc] at sg
 generalize (sigF p.fo).vars=V at sg hfr hVl
 simp only [hrc] at e5
 generalize mad k w=m at hMd hmc e1 e2 e3 e4
 simp only [hmc] at hMd e1 e2 e3 e4
 obtain ⟨o,s,n1,c1,n2,c2,hqe,hpb⟩:=fqx_ex p
 rw [hqe] at hBl
 simp only [hqe] at e1 e2 e3 e4 e5 b1 b2 b3 j1 j2 sg
 have hcle:=cntB_le B
 generalize madN k=n at *
 have hnn:(n:Int)≠0:=by omega
 have hX:∀ b:Bool,(!(b==b))=false:=by decide
 refine fn_det Tryz.E0 Tryz.mx Tryz.func6 (by kernel_rfl) rfl (Nat.le_of_ble_eq_true rfl) rfl fun hcl hbl=>?_
 (repeat' ((conv=>whnf);(first|(refine IfN.id ?_;first|refine IfN.not ?_|refine IfN.tt rfl ?_|fail)|refine EqN.remC _ rfl rfl hc ?_|(refine SideN.mk ?_ ?_;· first|kernel_rfl|omega|exact List.cons_ne_nil _ _|(simp;done)|(simp;omega)|exact trivial|assumption|fail)|(refine CallN.id ?_;first|refine CallN.det _ (awake_c _) ?_|refine CallN.det _ (hMd _) ?_|refine CallN.det _ (hBl _) ?_|refine CallN.det _ (e4 _) ?_|fail)|(refine CallD.id ?_;first|refine CallD.det _ (fun _ hq X=>b1 _) ?_|refine CallD.det _ (fun _ hq X=>b2 _) ?_|refine CallD.det _ (fun _ hq X=>b3 _) ?_|refine CallD.det _ (fun _ hq X=>j1 _) ?_|refine CallD.det _ (fun _ hq X=>j2 _) ?_|refine CallD.det _ (fun _ hq X=>e1 _) ?_|refine CallD.det _ (fun _ hq X=>e2 _) ?_|refine CallD.det _ (fun _ hq X=>e3 _) ?_|fail)|refine hsg _ fun _=>?_|refine DrawN.mk' [] ?_|fail)));all_goals (conv=>whnf)
 refine loop_R Tryz.E0 Tryz.mx (σ:=Nat) (fun i=>i≤n) (fun i=>n-i) (fun i=>[(20,.v (.int .i64 (cntB B i:Nat))),(21,.v (.int .i64 i))]) (fun _=>_) _ 0 rfl hcl [9,10,11,12,13,14,15,16,17,18,19] rfl (Nat.zero_le _) ⟨⟨_,rfl,Wk.refl _⟩,⟨_,rfl,Wk.refl _⟩,trivial⟩ rfl (fun _ _=>rfl) ?_
 intro i hi
 rcases Nat.lt_or_ge i n with hlt|hge
 ·have hs:=cntB_succ B i
  have hci:=hcle i
  have e6:=e5 i hlt
  cases hb:B i <;> simp only [hb,Bool.false_eq_true,if_false,if_true] at hs e6
  ·(repeat' ((conv=>whnf);(first|(refine IfN.id ?_;first|refine IfN.not ?_|refine IfN.tt rfl ?_|refine IfN.ff rfl ?_|refine IfN.dT (by omega) ?_|fail)|(refine EqN.addN _ _ Cst.h Cst.h ?_ ?_;· omega)|(refine SideN.mk ?_ ?_;· first|kernel_rfl|omega|exact List.cons_ne_nil _ _|(simp;done)|(simp;omega)|exact trivial|assumption|fail)|(refine CallD.id ?_;first|refine CallD.det _ (fun _ hq X=>hRb i _) ?_|refine CallD.det _ (fun _ hq X=>e6 _) ?_|fail)|refine DrawN.mk' [] ?_|fail)));all_goals (conv=>whnf)
   (refine ⟨⟨i+1,by show i+1≤_;omega,by omega,?_,.inl ⟨rfl,rfl⟩,rfl,_,rfl,?_⟩⟩;rotate_left 1;(first|exact .inl rfl|exact .inr ⟨by simp [belowRE,below,belowL,tr,i64_below,encN_below,hfb,hub,hpb,hsb,strs_below],by simp [belowH,Blk.below,belowL,below,i64_below,encN_below,hfb,hub,hpb,hsb,strs_below]⟩|fail);(repeat' (first|exact trivial|refine ⟨⟨_,rfl,?_⟩,?_⟩|fail));all_goals try (first|exact Wk.refl _|exact Wk.of_eq (congrArg (AV.int _) (by omega))|fail))
  ·(repeat' ((conv=>whnf);(first|(refine IfN.id ?_;first|refine IfN.not ?_|refine IfN.tt rfl ?_|refine IfN.dT (by omega) ?_|fail)|(refine EqN.addN _ _ Cst.h Cst.h ?_ ?_;· omega)|(refine SideN.mk ?_ ?_;· first|kernel_rfl|omega|exact List.cons_ne_nil _ _|(simp;done)|(simp;omega)|exact trivial|assumption|fail)|(refine CallD.id ?_;first|refine CallD.det _ (fun _ hq X=>hRb i _) ?_|refine CallD.det _ (fun _ hq X=>e6 _) ?_|fail)|refine DrawN.mk' [] ?_|fail)));all_goals (conv=>whnf)
   (refine ⟨⟨i+1,by show i+1≤_;omega,by omega,?_,.inl ⟨rfl,rfl⟩,rfl,_,rfl,?_⟩⟩;rotate_left 1;(first|exact .inl rfl|exact .inr ⟨by simp [belowRE,below,belowL,tr,i64_below,encN_below,hfb,hub,hpb,hsb,strs_below],by simp [belowH,Blk.below,belowL,below,i64_below,encN_below,hfb,hub,hpb,hsb,strs_below]⟩|fail);(repeat' (first|exact trivial|refine ⟨⟨_,rfl,?_⟩,?_⟩|fail));all_goals try (first|exact Wk.refl _|exact Wk.of_eq (congrArg (AV.int _) (by omega))|fail))
 ·have hie:n=i:=by omega
  subst hie
  have hcn:=hcle n
  cases P
  ·have hne:cntB B n≠n:=fun h=>by have:=hAP h;cases this
   (repeat' ((conv=>whnf);(first|(refine IfN.id ?_;first|refine IfN.ff (hX _) ?_|refine IfN.not ?_|refine IfN.tt rfl ?_|refine IfN.ff rfl ?_|refine IfN.dF (by omega) ?_|fail)|(refine EqN.addN _ _ Cst.h Cst.h ?_ ?_;· omega)|refine CallN.det _ (sg _) ?_|refine DrawN.mk' [] ?_|fail)));all_goals (conv=>whnf)
   refine loop_R Tryz.E0 Tryz.mx (σ:=Nat×Bool) (fun q=>q.1≤V.length∧q.2=frB x V q.1) (fun q=>V.length-q.1) (fun q=>[(26,.v (.bool q.2)),(147,.v (.int .i64 q.1))]) (fun _=>_) _ (0,false) rfl hcl [11,12,14,18,145,146] rfl ⟨Nat.zero_le _,rfl⟩ ⟨⟨_,rfl,Wk.refl _⟩,⟨_,rfl,Wk.refl _⟩,trivial⟩ rfl (fun _ _=>rfl) ?_
   rintro ⟨j,b⟩ ⟨hj,hb⟩
   simp only at hj hb
   rcases Nat.lt_or_ge j V.length with hjl|hjg
   ·have hs:=frB_succ x V j hjl
    obtain ⟨u,hu,eu⟩:=encS_ex (V.getD j .empty)
    rw [hu,← hb] at hs
    cases b
    ·cases hy:(x.toList==u.toList) <;> rw [hy] at hs
     ·(repeat' ((conv=>whnf);(first|(refine IfN.id ?_;first|refine IfN.ff rfl ?_|refine IfN.dT (by omega) ?_|fail)|(refine EqN.addN _ _ Cst.h Cst.h ?_ ?_;· omega)|(refine SideN.mk ?_ ?_;· first|kernel_rfl|omega|exact List.cons_ne_nil _ _|(simp;done)|(simp;omega)|exact trivial|assumption|fail)|refine SegN.nthE .empty j rfl (by omega) encS_size eu ?_|refine DrawN.mk' [] ?_|fail)));all_goals (conv=>whnf)
      (refine ⟨⟨(j+1,false),⟨by show j+1≤_;omega,hs.symm⟩,by omega,?_,.inl ⟨rfl,rfl⟩,rfl,_,rfl,?_⟩⟩;rotate_left 1;(first|exact .inl rfl|exact .inr ⟨by simp [belowRE,below,belowL,tr,i64_below,encN_below,hfb,hub,hpb,hsb,strs_below],by simp [belowH,Blk.below,belowL,below,i64_below,encN_below,hfb,hub,hpb,hsb,strs_below]⟩|fail);(repeat' (first|exact trivial|refine ⟨⟨_,rfl,?_⟩,?_⟩|fail));all_goals try (first|exact Wk.refl _|exact Wk.of_eq (congrArg (AV.int _) (by omega))|fail))
      all_goals exact Wk.of_eq (by rw [hy])
     ·(repeat' ((conv=>whnf);(first|(refine IfN.id ?_;first|refine IfN.ff rfl ?_|refine IfN.dT (by omega) ?_|fail)|(refine EqN.addN _ _ Cst.h Cst.h ?_ ?_;· omega)|(refine SideN.mk ?_ ?_;· first|kernel_rfl|omega|exact List.cons_ne_nil _ _|(simp;done)|(simp;omega)|exact trivial|assumption|fail)|refine SegN.nthE .empty j rfl (by omega) encS_size eu ?_|refine DrawN.mk' [] ?_|fail)));all_goals (conv=>whnf)
      (refine ⟨⟨(j+1,true),⟨by show j+1≤_;omega,hs.symm⟩,by omega,?_,.inl ⟨rfl,rfl⟩,rfl,_,rfl,?_⟩⟩;rotate_left 1;(first|exact .inl rfl|exact .inr ⟨by simp [belowRE,below,belowL,tr,i64_below,encN_below,hfb,hub,hpb,hsb,strs_below],by simp [belowH,Blk.below,belowL,below,i64_below,encN_below,hfb,hub,hpb,hsb,strs_below]⟩|fail);(repeat' (first|exact trivial|refine ⟨⟨_,rfl,?_⟩,?_⟩|fail));all_goals try (first|exact Wk.refl _|exact Wk.of_eq (congrArg (AV.int _) (by omega))|fail))
      all_goals exact Wk.of_eq (by rw [hy])
    ·(repeat' ((conv=>whnf);(first|(refine IfN.id ?_;first|refine IfN.tt rfl ?_|refine IfN.dT (by omega) ?_|fail)|(refine EqN.addN _ _ Cst.h Cst.h ?_ ?_;· omega)|(refine SideN.mk ?_ ?_;· first|kernel_rfl|omega|exact List.cons_ne_nil _ _|(simp;done)|(simp;omega)|exact trivial|assumption|fail)|refine SegN.nthE .empty j rfl (by omega) encS_size eu ?_|refine DrawN.mk' [] ?_|fail)));all_goals (conv=>whnf)
     (refine ⟨⟨(j+1,true),⟨by show j+1≤_;omega,by rw [hs];rfl⟩,by omega,?_,.inl ⟨rfl,rfl⟩,rfl,_,rfl,?_⟩⟩;rotate_left 1;(first|exact .inl rfl|exact .inr ⟨by simp [belowRE,below,belowL,tr,i64_below,encN_below,hfb,hub,hpb,hsb,strs_below],by simp [belowH,Blk.below,belowL,below,i64_below,encN_below,hfb,hub,hpb,hsb,strs_below]⟩|fail);(repeat' (first|exact trivial|refine ⟨⟨_,rfl,?_⟩,?_⟩|fail));all_goals try (first|exact Wk.refl _|exact Wk.of_eq (congrArg (AV.int _) (by omega))|fail))
   ·have hjv:V.length=j:=by omega
    subst hjv
    cases b
    ·have hcf:=hnf (hfr (frB_full x V hb.symm))
     have hE1:((((cntB B n:Nat):Int)==(n:Int))==false)=true:=by rw [hcf];simp;omega
     have hS1:(decide ((0:Int)<((cntB B n:Nat):Int))==false)=true:=by rw [hcf];simp
     (repeat' ((conv=>whnf);(first|(refine IfN.id ?_;first|refine IfN.tt hE1 ?_|refine IfN.ff rfl ?_|refine IfN.dF (by omega) ?_|fail)|refine DrawN.mk' [] ?_|fail)));all_goals (conv=>whnf)
     exact EndN.det trivial (Wk.of_eq (congrArg AV.bool hS1))
    ·(repeat' ((conv=>whnf);(first|(refine IfN.id ?_;first|refine IfN.tt rfl ?_|refine IfN.dF (by omega) ?_|fail)|refine DrawN.mk' [] ?_|fail)));all_goals (conv=>whnf)
     exact EndN.det trivial (Wk.refl _)
  ·have hc0:=hPS rfl
   by_cases hE:cntB B n=n
   all_goals
    (repeat' ((conv=>whnf);(first|(refine IfN.id ?_;first|refine IfN.ff (hX _) ?_|refine IfN.not ?_|refine IfN.tt rfl ?_|refine IfN.dT (by omega) ?_|refine IfN.dF (by omega) ?_|fail)|(refine EqN.addN _ _ Cst.h Cst.h ?_ ?_;· omega)|refine CallN.det _ (sg _) ?_|refine DrawN.mk' [] ?_|fail)));all_goals (conv=>whnf)
    refine loop_R Tryz.E0 Tryz.mx (σ:=Nat×Bool) (fun q=>q.1≤V.length∧q.2=frB x V q.1) (fun q=>V.length-q.1) (fun q=>[(26,.v (.bool q.2)),(147,.v (.int .i64 q.1))]) (fun _=>_) _ (0,false) rfl hcl [11,12,14,18,145,146] rfl ⟨Nat.zero_le _,rfl⟩ ⟨⟨_,rfl,Wk.refl _⟩,⟨_,rfl,Wk.refl _⟩,trivial⟩ rfl (fun _ _=>rfl) ?_
    rintro ⟨j,b⟩ ⟨hj,hb⟩
    simp only at hj hb
    rcases Nat.lt_or_ge j V.length with hjl|hjg
    ·have hs:=frB_succ x V j hjl
     obtain ⟨u,hu,eu⟩:=encS_ex (V.getD j .empty)
     rw [hu,← hb] at hs
     cases b
     ·cases hy:(x.toList==u.toList) <;> rw [hy] at hs
      ·(repeat' ((conv=>whnf);(first|(refine IfN.id ?_;first|refine IfN.ff rfl ?_|refine IfN.dT (by omega) ?_|fail)|(refine EqN.addN _ _ Cst.h Cst.h ?_ ?_;· omega)|(refine SideN.mk ?_ ?_;· first|kernel_rfl|omega|exact List.cons_ne_nil _ _|(simp;done)|(simp;omega)|exact trivial|assumption|fail)|refine SegN.nthE .empty j rfl (by omega) encS_size eu ?_|refine DrawN.mk' [] ?_|fail)));all_goals (conv=>whnf)
       (refine ⟨⟨(j+1,false),⟨by show j+1≤_;omega,hs.symm⟩,by omega,?_,.inl ⟨rfl,rfl⟩,rfl,_,rfl,?_⟩⟩;rotate_left 1;(first|exact .inl rfl|exact .inr ⟨by simp [belowRE,below,belowL,tr,i64_below,encN_below,hfb,hub,hpb,hsb,strs_below],by simp [belowH,Blk.below,belowL,below,i64_below,encN_below,hfb,hub,hpb,hsb,strs_below]⟩|fail);(repeat' (first|exact trivial|refine ⟨⟨_,rfl,?_⟩,?_⟩|fail));all_goals try (first|exact Wk.refl _|exact Wk.of_eq (congrArg (AV.int _) (by omega))|fail))
       all_goals exact Wk.of_eq (by rw [hy])
      ·(repeat' ((conv=>whnf);(first|(refine IfN.id ?_;first|refine IfN.ff rfl ?_|refine IfN.dT (by omega) ?_|fail)|(refine EqN.addN _ _ Cst.h Cst.h ?_ ?_;· omega)|(refine SideN.mk ?_ ?_;· first|kernel_rfl|omega|exact List.cons_ne_nil _ _|(simp;done)|(simp;omega)|exact trivial|assumption|fail)|refine SegN.nthE .empty j rfl (by omega) encS_size eu ?_|refine DrawN.mk' [] ?_|fail)));all_goals (conv=>whnf)
       (refine ⟨⟨(j+1,true),⟨by show j+1≤_;omega,hs.symm⟩,by omega,?_,.inl ⟨rfl,rfl⟩,rfl,_,rfl,?_⟩⟩;rotate_left 1;(first|exact .inl rfl|exact .inr ⟨by simp [belowRE,below,belowL,tr,i64_below,encN_below,hfb,hub,hpb,hsb,strs_below],by simp [belowH,Blk.below,belowL,below,i64_below,encN_below,hfb,hub,hpb,hsb,strs_below]⟩|fail);(repeat' (first|exact trivial|refine ⟨⟨_,rfl,?_⟩,?_⟩|fail));all_goals try (first|exact Wk.refl _|exact Wk.of_eq (congrArg (AV.int _) (by omega))|fail))
       all_goals exact Wk.of_eq (by rw [hy])
     ·(repeat' ((conv=>whnf);(first|(refine IfN.id ?_;first|refine IfN.tt rfl ?_|refine IfN.dT (by omega) ?_|fail)|(refine EqN.addN _ _ Cst.h Cst.h ?_ ?_;· omega)|(refine SideN.mk ?_ ?_;· first|kernel_rfl|omega|exact List.cons_ne_nil _ _|(simp;done)|(simp;omega)|exact trivial|assumption|fail)|refine SegN.nthE .empty j rfl (by omega) encS_size eu ?_|refine DrawN.mk' [] ?_|fail)));all_goals (conv=>whnf)
      (refine ⟨⟨(j+1,true),⟨by show j+1≤_;omega,by rw [hs];rfl⟩,by omega,?_,.inl ⟨rfl,rfl⟩,rfl,_,rfl,?_⟩⟩;rotate_left 1;(first|exact .inl rfl|exact .inr ⟨by simp [belowRE,below,belowL,tr,i64_below,encN_below,hfb,hub,hpb,hsb,strs_below],by simp [belowH,Blk.below,belowL,below,i64_below,encN_below,hfb,hub,hpb,hsb,strs_below]⟩|fail);(repeat' (first|exact trivial|refine ⟨⟨_,rfl,?_⟩,?_⟩|fail));all_goals try (first|exact Wk.refl _|exact Wk.of_eq (congrArg (AV.int _) (by omega))|fail))
    ·have hjv:V.length=j:=by omega
     subst hjv
     cases b
     ·have hcf:=hnf (hfr (frB_full x V hb.symm))
      have hE1:((((cntB B n:Nat):Int)==(n:Int))==true)=true:=by rw [hcf];simp
      have hS1:(decide ((0:Int)<((cntB B n:Nat):Int))==true)=true:=by rw [hcf];simp;omega
      (repeat' ((conv=>whnf);(first|(refine IfN.id ?_;first|refine IfN.tt hE1 ?_|refine IfN.ff rfl ?_|refine IfN.dF (by omega) ?_|fail)|refine DrawN.mk' [] ?_|fail)));all_goals (conv=>whnf)
      exact EndN.det trivial (Wk.of_eq (congrArg AV.bool hS1))
     ·(repeat' ((conv=>whnf);(first|(refine IfN.id ?_;first|refine IfN.tt rfl ?_|refine IfN.dF (by omega) ?_|fail)|refine DrawN.mk' [] ?_|fail)));all_goals (conv=>whnf)
      exact EndN.det trivial (Wk.refl _)
theorem instances_c (k:Nat) (hk:k≤255) (w:Nat→Nat) (hw:∀ i,w i≤65535) (l:List Nat) (hl:l.length≤9223372036854775807) (hb:∀ i,i<l.length→l.getD i 0≤255) (wh:Nat) (hwh:wh≤255) (H:Heap) :
  VDet Tryz.prog 6 [.int .u8 (k:Nat),.agg (cW w),.sl none l.length (l.flatMap encB),.int .u8 (wh:Nat)] H (.bool true):=by
 have hc3:wh % 3<3:=Nat.mod_lt _ (by decide)
 have hcs:wh % 3=0∨wh % 3=1∨wh % 3=2:=by omega
 rcases hcs with hc|hc|hc
 ·exact ins_core k hk w hw l hl hb wh hwh 0 hc nX (.inl rfl) (fun kk h=>SegN.mk _ (seg_rfl rfl) (h _)) H
 ·exact ins_core k hk w hw l hl hb wh hwh 1 hc nY (.inr (.inl rfl)) (fun kk h=>SegN.mk _ (seg_rfl rfl) (h _)) H
 ·exact ins_core k hk w hw l hl hb wh hwh 2 hc nZ (.inr (.inr rfl)) (fun kk h=>SegN.mk _ (seg_rfl rfl) (h _)) H
end Go.Proofs.YtgdmldelijeaoaaGreatDoor
/-! text DZ41 -/
namespace Go.Proofs.YtgdmldelijeaoaaGreatDoor
open Go.ChangeShapes Go.WideShapes Go.ChangeAt Go.RowKit Go.Vsi
theorem mrel_of {g:G} {W:World} {b:Nat} (hg:∀ b o,¬ g.own b o):∀ (l:List AV) (cs:List Value) (o:Nat),LRel g W l cs→(∀ (i:Nat) c,cs[i]? = some c→W.cell? ⟨b,o+i,.none⟩=some c)→MRel g W l b o
 | [],_,_,_,_=>trivial
 | v::l,cs,o,h,hc=>by
   simp only [LRel] at h
   obtain ⟨c,r,rfl,h1,h2⟩:=h
   refine ⟨⟨c,by simpa using hc 0 c rfl,h1,hg _ _⟩,?_⟩
   exact mrel_of hg l r (o+1) h2 fun i c' hi=>by
    have:=hc (i+1) c' (by simpa using hi)
    rwa [show o+(i+1)=o+1+i by omega] at this
theorem mone {W:World} {n:String} {gi:Nat} {ty:TypeId} {T:Ty} {D:DataW Unit} {cells:List AV} {g0:Nat} {t0:TypeId} {cs0:Array Value} {f0:Nat} {p0:List MemPlace}
  (hg:Tryz.prog.globalNamed n=some gi) (ht:(Tryz.prog.globals[gi]?).map (·.type)=some ty) (hty:TyOk Tryz.prog ty T) (hpl:PlTy T) (hD:∃ l',DatOf (H:=Unit) D l'∧l'=cells)
  (hg0:Tryz.prog.globalNamed n=some g0) (ht0:(Tryz.prog.globals[g0]?).map (·.type)=some t0) (hv0:W.var? Tryz.prog n=some cs0) (hd0:DataW.trod (fun _=>()) Tryz.prog W 0 (fun _=>true) false f0 t0 cs0.toList=some (D,p0)):MRel G.none W cells gi 0:=by
 obtain rfl:=Option.some.inj (hg.symm.trans hg0)
 obtain rfl:=Option.some.inj (ht.symm.trans ht0)
 obtain ⟨l,h1,h2⟩:=trod_dat (g:=G.none) _ hpl hty hd0
 obtain ⟨l',hl1,hl2⟩:=hD
 have hll:l=cells:=(DatOf.det h1 hl1).trans hl2
 rw [← hll]
 refine mrel_of (fun _ _ h=>h) l cs0.toList 0 h2 fun i c hi=>?_
 have:=World.var?_cell hg0 hv0 i
 rw [Nat.zero_add,this]
 simpa using hi
theorem gl_of_laid {W:World} (h:laidMetH Tryz.prog [("lyceum/syntax.rows",Rows.laid_lyceum_syntax_rows)] W):∀ p∈Glob.gl,MRel G.none W p.2 p.1 0:=by
 rw [MakeChecks.laidMetH_plain _ _ _ (by kernel_rfl)] at h
 obtain ⟨ps,⟨g0,t0,cs0,f0,p0,q0,hg0,ht0,hv0,hd0,_⟩,_⟩:=h
 have m0:MRel G.none W (Tryz.gl[0]).2 1 0:=mone (T:=repTy 17 (.pair .bool (.pair .bool (.pair (.int .u8) (.pair (.int .i64) (.pair (.int .i64) .unit)))))) (ty:=239) (by kernel_rfl) (by kernel_rfl) (tyOf_ok Tryz.T_ok 12 239 _ (by kernel_rfl)) (by simp [repTy,PlTy]) ⟨_,by unfold Rows.laid_lyceum_syntax_rows;repeat constructor,by kernel_rfl⟩ hg0 ht0 hv0 hd0
 intro p hp
 have hp0:p=Tryz.gl[0]:=by
  have:p∈Tryz.gl:=hp
  simpa [Tryz.gl] using this
 subst hp0
 exact m0
theorem u8_nat {n:Int} (h:(Lit.int .u8 n).wf=true):∃ m:Nat,n=m∧m≤255:=⟨n.toNat,by have:=wf_u8 h;omega,by have:=wf_u8 h;omega⟩
theorem u16_nat {n:Int} (h:(Lit.int .u16 n).wf=true):∃ m:Nat,n=m∧m≤65535:=⟨n.toNat,by have:=wf_u16 h;omega,by have:=wf_u16 h;omega⟩
theorem bytes_nat {l:List Int} (h:l.length≤maxLen∧∀ x∈l,(Lit.int .u8 x).wf=true):∃ c:List Nat,l=c.map (fun n:Nat=>(n:Int))∧c.length≤9223372036854775807∧∀ i,i<c.length→c.getD i 0≤255:=by
 refine ⟨l.map Int.toNat,?_,by simpa using maxLen_le h.1,fun i hi=>?_⟩
 ·rw [List.map_map]
  refine (List.map_id' l).symm.trans (List.map_congr_left fun x hx=>?_)
  have:=wf_u8 (h.2 x hx)
  simp only [Function.comp]
  omega
 ·have hi':i<l.length:=by simpa using hi
  have:=wf_u8 (h.2 _ (List.getElem_mem hi'))
  simp only [List.getD_eq_getElem?_getD,List.getElem?_map,List.getElem?_eq_getElem hi',Option.map_some,Option.getD_some]
  omega
theorem bytes_len (c:List Nat):List.length (α:=Ty.I (.int .u8)) (c.map fun n:Nat=>(n:Int))=c.length:=List.length_map ..
theorem bytes_enc (c:List Nat):List.flatMap (α:=Ty.I (.int .u8)) (Ty.enc (.int .u8)) (c.map fun n:Nat=>(n:Int))=c.flatMap fun n:Nat=>[.int .u8 (n:Int)]:=by
 induction c with
 | nil=>rfl
 | cons x c ih=>rw [List.flatMap_cons,← ih];rfl
theorem bytes_cast (c:List Nat) (p:AV→Prop) (h:p (.sl none c.length (c.flatMap fun n:Nat=>[.int .u8 (n:Int)]))):p (.sl none (List.length (α:=Ty.I (.int .u8)) (c.map fun n:Nat=>(n:Int))) (List.flatMap (α:=Ty.I (.int .u8)) (Ty.enc (.int .u8)) (c.map fun n:Nat=>(n:Int)))):=by
 rw [bytes_len,bytes_enc];exact h
def ty47w:Ty:=repTy 8 (.int .u16)
theorem words8 {x:ty47w.I} (h:ty47w.good x):∃ w:Nat→Nat,(∀ i,w i≤65535)∧ty47w.enc x=[.int .u16 (w 0:Nat),.int .u16 (w 1:Nat),.int .u16 (w 2:Nat),.int .u16 (w 3:Nat),.int .u16 (w 4:Nat),.int .u16 (w 5:Nat),.int .u16 (w 6:Nat),.int .u16 (w 7:Nat)]:=by
 obtain ⟨a0,e0,h0⟩:=u16_nat h.1
 obtain ⟨a1,e1,h1⟩:=u16_nat h.2.1
 obtain ⟨a2,e2,h2⟩:=u16_nat h.2.2.1
 obtain ⟨a3,e3,h3⟩:=u16_nat h.2.2.2.1
 obtain ⟨a4,e4,h4⟩:=u16_nat h.2.2.2.2.1
 obtain ⟨a5,e5,h5⟩:=u16_nat h.2.2.2.2.2.1
 obtain ⟨a6,e6,h6⟩:=u16_nat h.2.2.2.2.2.2.1
 obtain ⟨a7,e7,h7⟩:=u16_nat h.2.2.2.2.2.2.2.1
 refine ⟨fun i=>[a0,a1,a2,a3,a4,a5,a6,a7].getD i 0,fun i=>?_,?_⟩
 ·match i with
  | 0=>exact h0
  | 1=>exact h1
  | 2=>exact h2
  | 3=>exact h3
  | 4=>exact h4
  | 5=>exact h5
  | 6=>exact h6
  | 7=>exact h7
  | i+8=>exact Nat.zero_le _
 ·show [AV.int .u16 x.1,AV.int .u16 x.2.1,AV.int .u16 x.2.2.1,AV.int .u16 x.2.2.2.1,AV.int .u16 x.2.2.2.2.1,AV.int .u16 x.2.2.2.2.2.1,AV.int .u16 x.2.2.2.2.2.2.1,AV.int .u16 x.2.2.2.2.2.2.2.1]=[AV.int .u16 ((a0:Nat):Int),AV.int .u16 ((a1:Nat):Int),AV.int .u16 ((a2:Nat):Int),AV.int .u16 ((a3:Nat):Int),AV.int .u16 ((a4:Nat):Int),AV.int .u16 ((a5:Nat):Int),AV.int .u16 ((a6:Nat):Int),AV.int .u16 ((a7:Nat):Int)]
  rw [e0,e1,e2,e3,e4,e5,e6,e7]
end Go.Proofs.YtgdmldelijeaoaaGreatDoor
