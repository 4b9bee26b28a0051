/- A text of the proof: the parts YT13c, DZ13c. -/
import Derived.ProofKit
import Derived.LaidMore
import Derived.OpenShut
import Derived.Test.YtjflngchbeegcaaGreatDoorK13
set_option linter.unusedSimpArgs false
set_option linter.unusedVariables false
set_option maxHeartbeats 8000000
namespace Go.Proofs.YtjflngchbeegcaaGreatDoor.P10.C
open Go.Vsi
section
set_option maxRecDepth 10000
attribute [local irreducible] VW VCall VO bits
theorem zd5 (n:Nat) (l:List Tf):zaa n (l.flatMap Tf.cells):=za9 l fun p=>⟨trivial,trivial,⟨fun _ e=>(nomatch e),trivial⟩,⟨fun _ e=>(nomatch e),p.sc_below n⟩,trivial⟩
theorem zeb (n:Nat):zaa n gdL:=⟨trivial,trivial,trivial,trivial,trivial,trivial,trivial,trivial,trivial,trivial⟩
theorem ht_c (p:Tf) (hp:p.gdB=true) (MV:List AV) (T:Int) (H:Heap) (ho:OwnMd H MV) (hT:T<9223372036854775808):VDet Tryz.prog 27 [.agg MV,.agg p.cells,.int .i64 T] H (.bool true):=by
 have:=zw1 p.fo (Tf.good p hp) MV T H ho hT
 rwa [za6] at this
theorem nm_sz {l:List ByteArray} (h:l.all (fun c=>decide (c.size≤1000))=true):∀ c∈l,c.size≤9223372036854775807:=fun c hc=>by
 have:=of_decide_eq_true (yao.1 h c hc)
 omega
def nA:ByteArray:=⟨#[97]⟩
def nX:ByteArray:=⟨#[120]⟩
theorem own_A {H:Heap} {q s:Nat} {s1 s2 s3:ByteArray} {x1 y1 x2 y2 x3 y3 k sz lp:Int} (h1:s1.size≤1000) (h2:s2.size≤1000) (h3:s3.size≤1000) (h:H[q]? = some (.box 60 (fl3 s1 s2 s3 x1 y1 x2 y2 x3 y3++List.replicate s .junk))):OwnMd H [.int .u8 k,.int .i64 sz,.nils,.int .i64 lp,.ms q 0 3,.nils,.nils] :=
 ztg .nils .nils .nils [] [] [] zal zal zal h1 h2 h3 (fun _ h=>nomatch h) (fun _ h=>nomatch h) h
theorem own_B {H:Heap} {q s:Nat} {s1 s2 s3:ByteArray} {x1 y1 x2 y2 x3 y3 k sz lp z:Int} (h1:s1.size≤1000) (h2:s2.size≤1000) (h3:s3.size≤1000) (h:H[q]? = some (.box 60 (fl3 s1 s2 s3 x1 y1 x2 y2 x3 y3++List.replicate s .junk))):OwnMd H [.int .u8 k,.int .i64 sz,.sx 1 [.int .i64 z],.int .i64 lp,.ms q 0 3,.nils,.nils] :=
 ztg (.sx 1 [.int .i64 z]) .nils .nils [z] [] [] (wk_sx _ _) zal zal h1 h2 h3 (fun _ h=>nomatch h) (fun _ h=>nomatch h) h
theorem own_C {H:Heap} {q s:Nat} {s1 s2 s3:ByteArray} {x1 y1 x2 y2 x3 y3 k sz lp:Int} (h1:s1.size≤1000) (h2:s2.size≤1000) (h3:s3.size≤1000) (h:H[q]? = some (.box 60 (fl3 s1 s2 s3 x1 y1 x2 y2 x3 y3++List.replicate s .junk))):OwnMd H [.int .u8 k,.int .i64 sz,.nils,.int .i64 lp,.ms q 0 3,.sx 1 [.str nA,.int .i64 0,.nils],.nils] :=
 ztg .nils (.sx 1 [.str nA,.int .i64 0,.nils]) .nils [] [⟨nA,0,[]⟩] [] zal (Wk.trans (wk_sx _ _) (zob (l':=[.str nA,.int .i64 0,.sl none 0 []]) ⟨yae _,yae _,zal,trivial⟩)) zal h1 h2 h3 (fun _ h=>nomatch h) (fun b hb=>by rw [yaz.1 hb];exact ⟨by decide,rfl⟩) h
theorem own_D {H:Heap} {q s:Nat} {s1 s2 s3:ByteArray} {x1 y1 x2 y2 x3 y3 k sz lp:Int} (h1:s1.size≤1000) (h2:s2.size≤1000) (h3:s3.size≤1000) (h:H[q]? = some (.box 60 (fl3 s1 s2 s3 x1 y1 x2 y2 x3 y3++List.replicate s .junk))):OwnMd H [.int .u8 k,.int .i64 sz,.nils,.int .i64 lp,.ms q 0 3,.nils,.sx 1 [.str nX,.int .i64 0]] :=
 ztg .nils .nils (.sx 1 [.str nX,.int .i64 0]) [] [] [⟨nX,0⟩] zal zal (wk_sx _ _) h1 h2 h3 (fun b hb=>by rw [yaz.1 hb];decide) (fun _ h=>nomatch h) h
theorem bad_1 (f:Fo) (hg:f.good) (c fv:List AV) (hc:f.cells=c) (hw:WkL fv c) (MV:List AV) (T:Int) (H:Heap) (ho:OwnMd H MV) (hT:T<9223372036854775808):VDet Tryz.prog 27 [.agg MV,.agg fv,.int .i64 T] H (.bool true):=by
 have:=zw1 f hg MV T H ho hT
 rw [hc] at this
 exact zbs this ⟨yae _,zbm hw,yae _,trivial⟩
theorem bad_2 (f:Fo) (hg:f.good) (c fv:List AV) (hc:f.cells=c) (hw:WkL fv c) (MV:List AV) (T:Int) (H:Heap) (ho:OwnMd H MV) (hT:T<9223372036854775808):VDet Tryz.prog 27 [.agg MV,.agg [.int .u8 14,.str .empty,.sl none 0 [],.sl none 2 (fP.cells++fv)],.int .i64 T] H (.bool true):=by
 have h2:(Fo.mk 14 .empty [] [fP.fo,f]).good:=⟨by decide,yah _,yah _,trivial,(show 2≤maxLen by decide),Tf.good fP rfl,hg,trivial⟩
 refine bad_1 _ h2 [.int .u8 14,.str .empty,.sl none 0 [],.sl none 2 (fP.cells++c)] [.int .u8 14,.str .empty,.sl none 0 [],.sl none 2 (fP.cells++fv)] ?_ ⟨yae _,yae _,yae _,zob (WkL.app (WkL.id _) hw),trivial⟩ MV T H ho hT
 rw [zan]
 simp only [ya6,ybf,yat,za6,hc]
 rfl
theorem bad0_1 (T:Int) (H:Heap) (hT:T<9223372036854775808):VDet Tryz.prog 27 [.agg [.int .u8 5,.int .i64 3,.nils,.int .i64 1,.sl none 3 gdL,.nils,.nils],.agg [.int .u8 0,.str .empty,.nils,.nils],.int .i64 T] H (.bool true) :=
 bad_1 (.mk 0 .empty [] []) (⟨by decide,yah _,yah _,trivial,yah _,trivial⟩) [.int .u8 0,.str .empty,.sl none 0 [],.sl none 0 []] [.int .u8 0,.str .empty,.nils,.nils] (by rw [zan];simp only [ya6,ybf,yat,za6,zay];rfl) (⟨yae _,yae _,zal,zal,trivial⟩) _ T H zbk hT
theorem bad0_2 (T:Int) (H:Heap) (hT:T<9223372036854775808):VDet Tryz.prog 27 [.agg [.int .u8 5,.int .i64 3,.nils,.int .i64 1,.sl none 3 gdL,.nils,.nils],.agg [.int .u8 14,.str .empty,.sl none 0 [],.sl none 2 [.int .u8 1,.str nP,.sl none 0 [],.sl none 0 [],.int .u8 0,.str .empty,.nils,.nils]],.int .i64 T] H (.bool true) :=
 bad_2 (.mk 0 .empty [] []) (⟨by decide,yah _,yah _,trivial,yah _,trivial⟩) [.int .u8 0,.str .empty,.sl none 0 [],.sl none 0 []] [.int .u8 0,.str .empty,.nils,.nils] (by rw [zan];simp only [ya6,ybf,yat,za6,zay];rfl) (⟨yae _,yae _,zal,zal,trivial⟩) _ T H zbk hT
theorem bad1_1 (T:Int) (H:Heap) (hT:T<9223372036854775808):VDet Tryz.prog 27 [.agg [.int .u8 5,.int .i64 3,.nils,.int .i64 1,.sl none 3 gdL,.nils,.nils],.agg [.int .u8 10,.str .empty,.sl none 0 [],.sl none 1 [.int .u8 1,.str nP,.sl none 0 [],.sl none 0 []]],.int .i64 T] H (.bool true) :=
 bad_1 ((Tf.f1 10 fP).fo) (Tf.good (.f1 10 fP) rfl) [.int .u8 10,.str .empty,.sl none 0 [],.sl none 1 [.int .u8 1,.str nP,.sl none 0 [],.sl none 0 []]] [.int .u8 10,.str .empty,.sl none 0 [],.sl none 1 [.int .u8 1,.str nP,.sl none 0 [],.sl none 0 []]] (by rw [za6];rfl) (WkL.id _) _ T H zbk hT
theorem bad1_2 (T:Int) (H:Heap) (hT:T<9223372036854775808):VDet Tryz.prog 27 [.agg [.int .u8 5,.int .i64 3,.nils,.int .i64 1,.sl none 3 gdL,.nils,.nils],.agg [.int .u8 14,.str .empty,.sl none 0 [],.sl none 2 [.int .u8 1,.str nP,.sl none 0 [],.sl none 0 [],.int .u8 10,.str .empty,.sl none 0 [],.sl none 1 [.int .u8 1,.str nP,.sl none 0 [],.sl none 0 []]]],.int .i64 T] H (.bool true) :=
 bad_2 ((Tf.f1 10 fP).fo) (Tf.good (.f1 10 fP) rfl) [.int .u8 10,.str .empty,.sl none 0 [],.sl none 1 [.int .u8 1,.str nP,.sl none 0 [],.sl none 0 []]] [.int .u8 10,.str .empty,.sl none 0 [],.sl none 1 [.int .u8 1,.str nP,.sl none 0 [],.sl none 0 []]] (by rw [za6];rfl) (WkL.id _) _ T H zbk hT
theorem bad2_1 (T:Int) (H:Heap) (hT:T<9223372036854775808):VDet Tryz.prog 27 [.agg [.int .u8 5,.int .i64 3,.nils,.int .i64 1,.sl none 3 gdL,.nils,.nils],.agg [.int .u8 12,.str .empty,.sl none 0 [],.sl none 0 []],.int .i64 T] H (.bool true) :=
 bad_1 (.mk 12 .empty [] []) (⟨by decide,yah _,yah _,trivial,yah _,trivial⟩) [.int .u8 12,.str .empty,.sl none 0 [],.sl none 0 []] [.int .u8 12,.str .empty,.sl none 0 [],.sl none 0 []] (by rw [zan];simp only [ya6,ybf,yat,za6,zay];rfl) (WkL.id _) _ T H zbk hT
theorem bad2_2 (T:Int) (H:Heap) (hT:T<9223372036854775808):VDet Tryz.prog 27 [.agg [.int .u8 5,.int .i64 3,.nils,.int .i64 1,.sl none 3 gdL,.nils,.nils],.agg [.int .u8 14,.str .empty,.sl none 0 [],.sl none 2 [.int .u8 1,.str nP,.sl none 0 [],.sl none 0 [],.int .u8 12,.str .empty,.sl none 0 [],.sl none 0 []]],.int .i64 T] H (.bool true) :=
 bad_2 (.mk 12 .empty [] []) (⟨by decide,yah _,yah _,trivial,yah _,trivial⟩) [.int .u8 12,.str .empty,.sl none 0 [],.sl none 0 []] [.int .u8 12,.str .empty,.sl none 0 [],.sl none 0 []] (by rw [zan];simp only [ya6,ybf,yat,za6,zay];rfl) (WkL.id _) _ T H zbk hT
theorem bad3_1 (T:Int) (H:Heap) (hT:T<9223372036854775808):VDet Tryz.prog 27 [.agg [.int .u8 5,.int .i64 3,.nils,.int .i64 1,.sl none 3 gdL,.nils,.nils],.agg [.int .u8 8,.str nX,.nils,.sx 1 [.int .u8 1,.str nP,.sl none 0 [],.sl none 0 []]],.int .i64 T] H (.bool true) :=
 bad_1 (.mk 8 nX [] [fP.fo]) (⟨by decide,(show 1≤maxLen by decide),yah _,trivial,(show 1≤maxLen by decide),Tf.good fP rfl,trivial⟩) [.int .u8 8,.str nX,.sl none 0 [],.sl none 1 [.int .u8 1,.str nP,.sl none 0 [],.sl none 0 []]] [.int .u8 8,.str nX,.nils,.sx 1 [.int .u8 1,.str nP,.sl none 0 [],.sl none 0 []]] (by rw [zan];simp only [ya6,ybf,yat,za6,zay];rfl) (⟨yae _,yae _,zal,wk_sx _ _,trivial⟩) _ T H zbk hT
theorem bad3_2 (T:Int) (H:Heap) (hT:T<9223372036854775808):VDet Tryz.prog 27 [.agg [.int .u8 5,.int .i64 3,.nils,.int .i64 1,.sl none 3 gdL,.nils,.nils],.agg [.int .u8 14,.str .empty,.sl none 0 [],.sl none 2 [.int .u8 1,.str nP,.sl none 0 [],.sl none 0 [],.int .u8 8,.str nX,.nils,.sx 1 [.int .u8 1,.str nP,.sl none 0 [],.sl none 0 []]]],.int .i64 T] H (.bool true) :=
 bad_2 (.mk 8 nX [] [fP.fo]) (⟨by decide,(show 1≤maxLen by decide),yah _,trivial,(show 1≤maxLen by decide),Tf.good fP rfl,trivial⟩) [.int .u8 8,.str nX,.sl none 0 [],.sl none 1 [.int .u8 1,.str nP,.sl none 0 [],.sl none 0 []]] [.int .u8 8,.str nX,.nils,.sx 1 [.int .u8 1,.str nP,.sl none 0 [],.sl none 0 []]] (by rw [zan];simp only [ya6,ybf,yat,za6,zay];rfl) (⟨yae _,yae _,zal,wk_sx _ _,trivial⟩) _ T H zbk hT
theorem bad4_1 (T:Int) (H:Heap) (hT:T<9223372036854775808):VDet Tryz.prog 27 [.agg [.int .u8 5,.int .i64 3,.nils,.int .i64 1,.sl none 3 gdL,.nils,.nils],.agg [.int .u8 1,.str nP,.sx 1 [.bool false,.str nA,.nils],.nils],.int .i64 T] H (.bool true) :=
 bad_1 (.mk 1 nP [.mk false nA []] []) (⟨by decide,(show 1≤maxLen by decide),(show 1≤maxLen by decide),⟨⟨(show 1≤maxLen by decide),yah _,trivial⟩,trivial⟩,yah _,trivial⟩) [.int .u8 1,.str nP,.sl none 1 [.bool false,.str nA,.sl none 0 []],.sl none 0 []] [.int .u8 1,.str nP,.sx 1 [.bool false,.str nA,.nils],.nils] (by rw [zan];simp only [ya6,ybf,yat,za6,zay];rfl) (⟨yae _,yae _,Wk.trans (wk_sx _ _) (zob (l':=[.bool false,.str nA,.sl none 0 []]) ⟨yae _,yae _,zal,trivial⟩),zal,trivial⟩) _ T H zbk hT
theorem bad4_2 (T:Int) (H:Heap) (hT:T<9223372036854775808):VDet Tryz.prog 27 [.agg [.int .u8 5,.int .i64 3,.nils,.int .i64 1,.sl none 3 gdL,.nils,.nils],.agg [.int .u8 14,.str .empty,.sl none 0 [],.sl none 2 [.int .u8 1,.str nP,.sl none 0 [],.sl none 0 [],.int .u8 1,.str nP,.sx 1 [.bool false,.str nA,.nils],.nils]],.int .i64 T] H (.bool true) :=
 bad_2 (.mk 1 nP [.mk false nA []] []) (⟨by decide,(show 1≤maxLen by decide),(show 1≤maxLen by decide),⟨⟨(show 1≤maxLen by decide),yah _,trivial⟩,trivial⟩,yah _,trivial⟩) [.int .u8 1,.str nP,.sl none 1 [.bool false,.str nA,.sl none 0 []],.sl none 0 []] [.int .u8 1,.str nP,.sx 1 [.bool false,.str nA,.nils],.nils] (by rw [zan];simp only [ya6,ybf,yat,za6,zay];rfl) (⟨yae _,yae _,Wk.trans (wk_sx _ _) (zob (l':=[.bool false,.str nA,.sl none 0 []]) ⟨yae _,yae _,zal,trivial⟩),zal,trivial⟩) _ T H zbk hT
theorem bad5_1 (T:Int) (H:Heap) (hT:T<9223372036854775808):VDet Tryz.prog 27 [.agg [.int .u8 5,.int .i64 3,.nils,.int .i64 1,.sl none 3 gdL,.nils,.nils],.agg [.int .u8 15,.str ⟨#[63,65]⟩,.nils,.nils],.int .i64 T] H (.bool true) :=
 bad_1 (.mk 15 ⟨#[63,65]⟩ [] []) (⟨by decide,(show 2≤maxLen by decide),yah _,trivial,yah _,trivial⟩) [.int .u8 15,.str ⟨#[63,65]⟩,.sl none 0 [],.sl none 0 []] [.int .u8 15,.str ⟨#[63,65]⟩,.nils,.nils] (by rw [zan];simp only [ya6,ybf,yat,za6,zay];rfl) (⟨yae _,yae _,zal,zal,trivial⟩) _ T H zbk hT
theorem bad5_2 (T:Int) (H:Heap) (hT:T<9223372036854775808):VDet Tryz.prog 27 [.agg [.int .u8 5,.int .i64 3,.nils,.int .i64 1,.sl none 3 gdL,.nils,.nils],.agg [.int .u8 14,.str .empty,.sl none 0 [],.sl none 2 [.int .u8 1,.str nP,.sl none 0 [],.sl none 0 [],.int .u8 15,.str ⟨#[63,65]⟩,.nils,.nils]],.int .i64 T] H (.bool true) :=
 bad_2 (.mk 15 ⟨#[63,65]⟩ [] []) (⟨by decide,(show 2≤maxLen by decide),yah _,trivial,yah _,trivial⟩) [.int .u8 15,.str ⟨#[63,65]⟩,.sl none 0 [],.sl none 0 []] [.int .u8 15,.str ⟨#[63,65]⟩,.nils,.nils] (by rw [zan];simp only [ya6,ybf,yat,za6,zay];rfl) (⟨yae _,yae _,zal,zal,trivial⟩) _ T H zbk hT
theorem bad6_1 (T:Int) (H:Heap) (hT:T<9223372036854775808):VDet Tryz.prog 27 [.agg [.int .u8 5,.int .i64 3,.nils,.int .i64 1,.sl none 3 gdL,.nils,.nils],.agg [.int .u8 1,.str ⟨#[83]⟩,.sl none 0 [],.sl none 0 []],.int .i64 T] H (.bool true) :=
 bad_1 ((Tf.at ⟨#[83]⟩).fo) (Tf.good (.at ⟨#[83]⟩) rfl) [.int .u8 1,.str ⟨#[83]⟩,.sl none 0 [],.sl none 0 []] [.int .u8 1,.str ⟨#[83]⟩,.sl none 0 [],.sl none 0 []] (by rw [za6];rfl) (WkL.id _) _ T H zbk hT
theorem bad6_2 (T:Int) (H:Heap) (hT:T<9223372036854775808):VDet Tryz.prog 27 [.agg [.int .u8 5,.int .i64 3,.nils,.int .i64 1,.sl none 3 gdL,.nils,.nils],.agg [.int .u8 14,.str .empty,.sl none 0 [],.sl none 2 [.int .u8 1,.str nP,.sl none 0 [],.sl none 0 [],.int .u8 1,.str ⟨#[83]⟩,.sl none 0 [],.sl none 0 []]],.int .i64 T] H (.bool true) :=
 bad_2 ((Tf.at ⟨#[83]⟩).fo) (Tf.good (.at ⟨#[83]⟩) rfl) [.int .u8 1,.str ⟨#[83]⟩,.sl none 0 [],.sl none 0 []] [.int .u8 1,.str ⟨#[83]⟩,.sl none 0 [],.sl none 0 []] (by rw [za6];rfl) (WkL.id _) _ T H zbk hT
theorem small_c (H:Heap):VDet Tryz.prog 4 [] H (.bool true):=by
 have w7:∀ H,VDet Tryz.prog 7 [] H (.bool true):=fun H=>zsc H
 obtain ⟨kk,zz,ll,ee,nf,cf,h23,hown⟩:=pack [nP] (by decide) (nm_sz rfl)
 have h22:∀ (z:Int) (H:Heap),VDet Tryz.prog 22 [.sx 1 [.str nP],.int .i64 z] H (.tup [.int .i64 (cntV [nP] z:Nat),.int .i64 (cntE [nP] z)]):=fun z H=>zbs (zga [nP] (by decide) (nm_sz rfl) z H) ⟨wk_sx _ _,yae _,trivial⟩
 have h23:∀ (n N:Int) (H:Heap),VDet Tryz.prog 23 [.sx 1 [.str nP],.int .i64 n,.int .i64 N] H _:=h23
 have h3:∀ (A B:List AV) (z N:Int) (H:Heap),OwnMd H A→OwnMd H B→VDet Tryz.prog 3 [.agg A,.agg B,.sx 1 [.str nP],.int .i64 z,.int .i64 N] H (.bool true):=fun A B z N H ha hb=>zc5 [nP] (nm_sz rfl) A B _ (wk_sx _ _) z N H ha hb
 refine fdD Tryz.func4 ⟨rfl,rfl,rfl⟩ fun hcl hbl=>?_
 (repeat' ((conv=>whnf);(first|refine yaf (by kernel_rfl) ?_|refine yab _ (zzx _ _) ?_|(refine ycg ?_;first|refine yan _ (fun _ hq X=>zph _ _ _ _) ?_|refine yan _ (fun _ hq X=>join_n _ _) ?_|fail)|refine zad [] ?_|fail)));conv=>whnf
 refine zam Tryz.E0 zaf (σ:=Nat) (fun s=>s≤7) (fun s=>7-s) (fun s=>[(6,.v (.int .i64 s)),(5,.v (.sl none 13 (forms.flatMap Tf.cells)))]) (fun _=>_) _ 0 rfl hcl [0,1,2] rfl (yah _) ⟨⟨_,rfl,yae _⟩,⟨_,rfl,Wk.trans (wk_sx _ _) (Wk.of_eq (by kernel_rfl))⟩,trivial⟩ rfl (fun _ _=>rfl) ?_
 intro s hs
 clear hbl
 rcases yag s 7 with hs7|hs7
 ·have h22:=h22 (s:Int)
  have hC:cntV [nP] (s:Int)≤16384:=by
   unfold cntV
   split
   ·exact znt _ _
   ·exact yah _
  generalize cntV [nP] (s:Int)=C at *
  generalize cntE [nP] (s:Int)=E at *
  (repeat' ((conv=>whnf);(first|refine yar (by omega) ?_|refine yab _ (h22 _) ?_|fail)));conv=>whnf
  refine zam Tryz.E0 zaf (σ:=Nat) (fun j=>j≤C+2) (fun j=>C+2-j) (fun j=>[(9,.v (.int .i64 ((j:Int)-1)))]) (fun _=>_) _ 0 rfl hcl [0,1,2,5,6,7] rfl (yah _) ⟨⟨_,rfl,yae _⟩,trivial⟩ rfl (fun _ _=>rfl) ?_
  intro j hj
  rcases yag j (C+2) with hjC|hjC
  ·have i1:j % 13<13:=Nat.mod_lt _ (by decide)
   have i2:(5 * j+2) % 13<13:=Nat.mod_lt _ (by decide)
   have t1:=ht_c _ (zjk _ i1)
   have t2:=ht_c _ (zjk _ i2)
   obtain ⟨o1,s1,n1,c1,e1⟩:=tf_ex (forms.getD (j % 13) fP)
   obtain ⟨o2,s2,n2,c2,e2⟩:=tf_ex (forms.getD ((5 * j+2) % 13) fP)
   rw [e1] at t1
   rw [e2] at t2
   (repeat' ((conv=>whnf);(first|(refine yai ?_;first|refine yas ?_|refine yaq rfl ?_|refine yar (by omega) ?_|refine za1 (fun _=>?_) (fun _=>?_)|fail)|(refine yct ?_;first|refine zby j 13 (by omega) rfl ?_|refine zby (5 * j+2) 13 (by omega) rfl ?_|refine yck (by omega) ?_|refine EqN.mk _ rfl ?_|fail)|(refine yaf ?_ ?_;· first|kernel_rfl|omega|exact yaa _ _|fail)|refine yab _ (h23 _ _ _) ?_|(refine ycg ?_;first|refine yan _ (fun _ hq X=>t1 _ _ _ (hown _ _ _) (by omega)) ?_|refine yan _ (fun _ hq X=>t2 _ _ _ (hown _ _ _) (wrap_lt _)) ?_|refine yan _ (fun _ hq X=>h3 _ _ _ _ _ (hown _ _ _) (hown _ _ _)) ?_|fail)|refine SegN.nthE fP (j % 13) (by omega) i1 zjq e1 ?_|refine SegN.nthE fP ((5 * j+2) % 13) (by omega) i2 zjq e2 ?_|refine zad [] ?_|fail)));all_goals (conv=>whnf)
   all_goals
    (refine ⟨⟨j+1,by show j+1≤_;omega,by omega,?_,.inl ⟨rfl,rfl⟩,rfl,_,rfl,?_⟩⟩;rotate_left 1;exact .inr ⟨by simp [zbe,below,zaa,tr,Tf.sc_below,zd5,zeb],by simp [zcj,Blk.below,zaa,below,Tf.sc_below,zd5,zeb]⟩;(repeat' (first|exact trivial|refine ⟨⟨_,rfl,?_⟩,?_⟩|fail));all_goals exact Wk.of_eq (congrArg (AV.int _) (by omega)))
  ·obtain rfl:j=C+2:=by omega
   (repeat' ((conv=>whnf);(first|refine zah (by omega) ?_|(refine zac _ _ Cst.h Cst.h ?_ ?_;· omega)|fail)));conv=>whnf
   (refine ⟨⟨s+1,by show s+1≤_;omega,by omega,?_,.inr ?_,rfl,_,rfl,?_⟩⟩;rotate_left 2;exact .inl rfl;all_goals (repeat' (first|exact trivial|refine ⟨⟨_,rfl,?_⟩,?_⟩|fail));all_goals exact yae _)
 ·obtain rfl:s=7:=by omega
  clear h22 h23 h3 hown
  obtain ⟨kk,zz,ll,ee,nf,cf,h23,hown⟩:=pack [nP,nQ] (by decide) (nm_sz rfl)
  have h23:∀ (n N:Int) (H:Heap),VDet Tryz.prog 23 [.sx 2 [.str nP,.str nQ],.int .i64 n,.int .i64 N] H _:=h23
  have h3:∀ (A B:List AV) (z N:Int) (H:Heap),OwnMd H A→OwnMd H B→VDet Tryz.prog 3 [.agg A,.agg B,.sx 2 [.str nP,.str nQ],.int .i64 z,.int .i64 N] H (.bool true):=fun A B z N H ha hb=>zc5 [nP,nQ] (nm_sz rfl) A B _ (wk_sx _ _) z N H ha hb
  (repeat' ((conv=>whnf);(first|refine yau rfl ?_|fail)));conv=>whnf
  refine zam Tryz.E0 zaf (σ:=Nat) (fun i=>i≤120) (fun i=>120-i) (fun i=>[(14,.v (.int .i64 i))]) (fun _=>_) _ 0 rfl hcl [0,1,2,5] rfl (yah _) ⟨⟨_,rfl,yae _⟩,trivial⟩ rfl (fun _ _=>rfl) ?_
  intro i hi
  rcases yag i 120 with hlt|hge
  ·have i1:i % 13<13:=Nat.mod_lt _ (by decide)
   have i2:(7 * i) % 13<13:=Nat.mod_lt _ (by decide)
   have g1:=zjk _ i1
   have g2:=zjk _ i2
   have t1:=ht_c _ g1
   have t2:=ht_c (.f2 14 (forms.getD (i % 13) fP) (.f2 4 fQ (forms.getD ((7 * i) % 13) fP))) (show (decide (14≤255)&&((forms.getD (i % 13) fP).gdB&&(decide (4≤255)&&(fQ.gdB&&(forms.getD ((7 * i) % 13) fP).gdB))))=true by rw [g1,g2];rfl)
   have e2':∀ a b:Tf,(Tf.f2 14 a (.f2 4 fQ b)).cells=[.int .u8 14,.str .empty,.sl none 0 [],.sl none 2 (a.cells++[.int .u8 4,.str .empty,.sl none 0 [],.sl none 2 (fQ.cells++b.cells)])]:=fun _ _=>rfl
   rw [e2'] at t2
   obtain ⟨o1,s1,n1,c1,e1⟩:=tf_ex (forms.getD (i % 13) fP)
   obtain ⟨o2,s2,n2,c2,e2⟩:=tf_ex (forms.getD ((7 * i) % 13) fP)
   rw [e1,e2] at t2
   rw [e1] at t1
   simp only [ycn,ydl] at t2
   (repeat' ((conv=>whnf);(first|(refine yai ?_;first|refine yas ?_|refine yaq rfl ?_|refine yar (by omega) ?_|fail)|(refine yct ?_;first|refine zby i 13 (by omega) rfl ?_|refine zby (7 * i) 13 (by omega) rfl ?_|(refine zac _ _ Cst.h Cst.h ?_ ?_;· omega)|(refine zjp _ _ Cst.h Cst.h ?_ ?_;· omega)|refine zby _ _ Cst.h Cst.h ?_|refine yck (by omega) ?_|fail)|(refine yaf ?_ ?_;· first|kernel_rfl|omega|exact yaa _ _|fail)|refine yab _ (h23 _ _ _) ?_|(refine ycg ?_;first|refine yan _ (fun _ hq X=>t1 _ _ _ (hown _ _ _) (by omega)) ?_|refine yan _ (fun _ hq X=>t2 _ _ _ (hown _ _ _) (by omega)) ?_|refine yan _ (fun _ hq X=>h3 _ _ _ _ _ (hown _ _ _) (hown _ _ _)) ?_|refine yan _ (fun _ hq X=>zph _ _ _ _) ?_|fail)|refine SegN.nthE fP (i % 13) (by omega) i1 zjq e1 ?_|refine SegN.nthE fP ((7 * i) % 13) (by omega) i2 zjq e2 ?_|refine zad [] ?_|fail)));conv=>whnf
   (refine ⟨⟨i+1,by show i+1≤_;omega,by omega,?_,.inl ⟨rfl,rfl⟩,rfl,_,rfl,?_⟩⟩;rotate_left 1;exact .inr ⟨by simp [zbe,below,zaa,tr,Tf.sc_below,zd5,zeb],by simp [zcj,Blk.below,zaa,below,Tf.sc_below,zd5,zeb]⟩;exact ⟨⟨_,rfl,yae _⟩,trivial⟩)
  ·obtain rfl:i=120:=by omega
   clear h23 h3 hown
   (repeat' ((conv=>whnf);(first|refine yau rfl ?_|refine yab _ (facts_g _) ?_|fail)));conv=>whnf
   refine zam Tryz.E0 zaf (σ:=Nat) (fun i=>i≤16) (fun i=>16-i) (fun i=>[(20,.v (.int .i64 i))]) (fun _=>_) _ 0 rfl hcl [0,1,2,5,19] rfl (yah _) ⟨⟨_,rfl,yae _⟩,trivial⟩ rfl (fun _ _=>rfl) ?_
   intro i hi
   rcases yag i 16 with hlt|hge
   ·have t3:=ht_c (forms.getD 3 fP) rfl
    have e3:(forms.getD 3 fP).cells=[.int .u8 3,.str .empty,.sl none 0 [],.sl none 1 (Tf.f1 13 (.f1 3 fP)).cells]:=rfl
    rw [e3] at t3
    have h3g:∀ (A:List AV) (z N:Int) (H:Heap),OwnMd H A→VDet Tryz.prog 3 [.agg A,.agg [.int .u8 5,.int .i64 3,.nils,.int .i64 1,.sl none 3 gdL,.nils,.nils],.sx 1 [.str nP],.int .i64 z,.int .i64 N] H (.bool true):=fun A z N H ha=>zc5 [nP] (nm_sz rfl) A _ _ (wk_sx _ _) z N H ha zbk
    have h3h:∀ (A:List AV) (z N:Int) (H:Heap),OwnMd H A→VDet Tryz.prog 3 [.agg [.int .u8 5,.int .i64 3,.nils,.int .i64 1,.sl none 3 gdL,.nils,.nils],.agg A,.nils,.int .i64 z,.int .i64 N] H (.bool true):=fun A z N H ha=>zc5 [] (nm_sz rfl) _ A _ zal z N H zbk ha
    have h29:=fun H i hi=>zr3 H i hi
    unfold cpy at h29
    have hc:i=0∨i=1∨i=2∨i=3∨i=4∨i=5∨i=6∨i=7∨i=8∨i=9∨i=10∨i=11∨i=12∨i=13∨i=14∨i=15:=by omega
    have hgd:gdL=[.str nP,.int .i64 0,.int .i64 6,.str nQ,.int .i64 0,.int .i64 4,.str nR,.int .i64 0,.int .i64 7]:=rfl
    obtain ⟨i1,hi1⟩:∃ i1,i1=i+1:=⟨_,rfl⟩
    rcases hc with rfl|rfl|rfl|rfl|rfl|rfl|rfl|rfl|rfl|rfl|rfl|rfl|rfl|rfl|rfl|rfl
    all_goals
     (repeat' ((conv=>whnf);(first|(refine yai ?_;first|refine yas ?_|refine yaq rfl ?_|refine yau rfl ?_|fail)|(refine yct ?_;first|(refine zac _ _ Cst.h Cst.h ?_ ?_;· omega)|(refine zb6 _ _ Cst.h Cst.h ?_ ?_;· omega)|refine zby _ _ Cst.h Cst.h ?_|refine yck (by omega) ?_|fail)|(refine yaf ?_ ?_;· first|kernel_rfl|omega|exact yaa _ _|fail)|(refine ycg ?_;first|refine yan _ (fun _ hq X=>t3 _ _ _ (own_A (by decide) (by decide) (by decide) (at_tq X hq rfl rfl rfl)) (by omega)) ?_|refine yan _ (fun _ hq X=>t3 _ _ _ (own_B (by decide) (by decide) (by decide) (at_tq X hq rfl rfl rfl)) (by omega)) ?_|refine yan _ (fun _ hq X=>t3 _ _ _ (own_C (by decide) (by decide) (by decide) (at_tq X hq rfl rfl rfl)) (by omega)) ?_|refine yan _ (fun _ hq X=>t3 _ _ _ (own_D (by decide) (by decide) (by decide) (at_tq X hq rfl rfl rfl)) (by omega)) ?_|refine yan _ (fun _ hq X=>t3 _ _ _ (zx2) (by omega)) ?_|refine yan _ (fun _ hq X=>h3g _ _ _ _ (own_A (by decide) (by decide) (by decide) (at_tq X hq rfl rfl rfl))) ?_|refine yan _ (fun _ hq X=>h3g _ _ _ _ (own_B (by decide) (by decide) (by decide) (at_tq X hq rfl rfl rfl))) ?_|refine yan _ (fun _ hq X=>h3g _ _ _ _ (own_C (by decide) (by decide) (by decide) (at_tq X hq rfl rfl rfl))) ?_|refine yan _ (fun _ hq X=>h3g _ _ _ _ (own_D (by decide) (by decide) (by decide) (at_tq X hq rfl rfl rfl))) ?_|refine yan _ (fun _ hq X=>h3g _ _ _ _ (zx2)) ?_|refine yan _ (fun _ hq X=>h3h _ _ _ _ (own_A (by decide) (by decide) (by decide) (at_tq X hq rfl rfl rfl))) ?_|refine yan _ (fun _ hq X=>h3h _ _ _ _ (own_B (by decide) (by decide) (by decide) (at_tq X hq rfl rfl rfl))) ?_|refine yan _ (fun _ hq X=>h3h _ _ _ _ (own_C (by decide) (by decide) (by decide) (at_tq X hq rfl rfl rfl))) ?_|refine yan _ (fun _ hq X=>h3h _ _ _ _ (own_D (by decide) (by decide) (by decide) (at_tq X hq rfl rfl rfl))) ?_|refine yan _ (fun _ hq X=>h3h _ _ _ _ (zx2)) ?_|fail)|refine zfh (fun _=>.agg [.int .u8 5,.int .i64 3,.nils,.int .i64 1,.ms (H.length+7) 0 3,.nils,.nils]) (fun s=>[.box 27 [.int .u8 5,.int .i64 3,.nils,.int .i64 1,.ms (H.length+7) 0 3,.nils,.nils],.box 27 [.int .u8 5,.int .i64 3,.nils,.int .i64 1,.ms (H.length+7) 0 3,.nils,.nils],.box 60 (gdL++List.replicate s AV.junk)]) (h29 _ (H.length+7) (by simp)) rfl _ (fun _=>rfl) 8 (fun _=>rfl) fun s=>?_|refine SegN.nthE fP 3 rfl (by decide) zjq e3 ?_|refine yca _ rfl ?_|refine OfsN.at_ (by omega) ?_|refine zad [] ?_|fail)));all_goals (conv=>whnf)
     (refine ⟨⟨i1,by omega,by omega,?_,.inl ⟨rfl,rfl⟩,rfl,_,rfl,?_⟩⟩;rotate_left 1;exact .inr ⟨by simp [zbe,below,zaa,tr,Tf.sc_below,zd5,zeb],by simp [zcj,Blk.below,zaa,below,Tf.sc_below,zd5,zeb]⟩;(repeat' (first|exact trivial|refine ⟨⟨_,rfl,?_⟩,?_⟩|fail));all_goals exact Wk.of_eq (congrArg (AV.int _) (by omega)))
   ·obtain rfl:i=16:=by omega
    (repeat' ((conv=>whnf);(first|refine yau rfl ?_|fail)));conv=>whnf
    refine zam Tryz.E0 zaf (σ:=Nat) (fun i=>i≤5) (fun i=>5-i) (fun i=>[(343,.v (.int .i64 i))]) (fun _=>_) _ 0 rfl hcl [0,1,19,341,342] rfl (yah _) ⟨⟨_,rfl,yae _⟩,trivial⟩ rfl (fun _ _=>rfl) ?_
    intro i hi
    rcases yag i 5 with hlt|hge
    ·obtain ⟨i1,hi1⟩:∃ i1,i1=i+1:=⟨_,rfl⟩
     have hc:i=0∨i=1∨i=2∨i=3∨i=4:=by omega
     rcases hc with rfl|rfl|rfl|rfl|rfl
     all_goals
      (repeat' ((conv=>whnf);(first|refine yaq rfl ?_|(refine yaf ?_ ?_;· first|omega|exact yaa _ _|fail)|refine ydf _ (zb3 rfl) ?_|fail)));all_goals (conv=>whnf)
      refine zam Tryz.E0 zaf (σ:=Nat) (fun z=>z≤5) (fun z=>5-z) (fun z=>[(24,.v (.int .i64 (z+1:Nat)))]) (fun _=>_) _ 0 rfl hcl [0,1,19,23,341,342,343] rfl (yah _) ⟨⟨_,rfl,yae _⟩,trivial⟩ rfl (fun _ _=>rfl) ?_
      intro z hz
      rcases yag z 5 with hlt|hge
      ·(repeat' ((conv=>whnf);(first|(refine yai ?_;first|refine yas ?_|refine yaq rfl ?_|refine yar (by omega) ?_|fail)|(refine zac _ _ Cst.h Cst.h ?_ ?_;· omega)|(refine ybk ?_;first|refine yab _ (zc5 [nP,nP] (nm_sz rfl) _ _ _ (wk_sx _ _) _ _ _ zbk zbk) ?_|refine yab _ (zc5 [nQ,nP] (nm_sz rfl) _ _ _ (wk_sx _ _) _ _ _ zbk zbk) ?_|refine yab _ (zc5 [⟨#[112]⟩] (nm_sz rfl) _ _ _ (wk_sx _ _) _ _ _ zbk zbk) ?_|refine yab _ (zc5 [nP,nQ,nR] (nm_sz rfl) _ _ _ (wk_sx _ _) _ _ _ zbk zbk) ?_|refine yab _ (zc5 [⟨#[65]⟩,⟨#[66]⟩,⟨#[67]⟩,⟨#[68]⟩,⟨#[69]⟩,⟨#[70]⟩] (nm_sz rfl) _ _ _ (wk_sx _ _) _ _ _ zbk zbk) ?_|fail)|fail)));all_goals (conv=>whnf)
       (refine ⟨⟨z+1,by show z+1≤_;omega,by omega,?_,.inl ⟨rfl,rfl⟩,rfl,_,rfl,?_⟩⟩;rotate_left 1;exact .inl rfl;exact ⟨⟨_,rfl,yae _⟩,trivial⟩)
      ·obtain rfl:z=5:=by omega
       (repeat' ((conv=>whnf);(first|refine yau rfl ?_|(refine zac _ _ Cst.h Cst.h ?_ ?_;· omega)|fail)));all_goals (conv=>whnf)
       (refine ⟨⟨i1,by omega,by omega,?_,.inr ?_,rfl,_,rfl,?_⟩⟩;rotate_left 2;exact .inl rfl;all_goals (repeat' (first|exact trivial|refine ⟨⟨_,rfl,?_⟩,?_⟩|fail));all_goals (first|exact yae _|exact Wk.of_eq (congrArg (AV.int _) (by omega))|fail))
    ·obtain rfl:i=5:=by omega
     (repeat' ((conv=>whnf);(first|refine yau rfl ?_|refine yaf (by kernel_rfl) ?_|(refine ycg ?_;first|refine yan _ (fun _ hq X=>zph _ _ _ _) ?_|refine yan _ (fun _ hq X=>join_n _ _) ?_|refine yan _ (fun _ hq X=>zzx _ _) ?_|fail)|refine zad [] ?_|fail)));conv=>whnf
     refine zam Tryz.E0 zaf (σ:=Nat) (fun i=>i≤7) (fun i=>7-i) (fun i=>[(373,.v (.int .i64 i))]) (fun _=>_) _ 0 rfl hcl [0,1,19,371,372] rfl (yah _) ⟨⟨_,rfl,yae _⟩,trivial⟩ rfl (fun _ _=>rfl) ?_
     intro i hi
     rcases yag i 7 with hlt|hge
     ·obtain ⟨i1,hi1⟩:∃ i1,i1=i+1:=⟨_,rfl⟩
      have hc:i=0∨i=1∨i=2∨i=3∨i=4∨i=5∨i=6:=by omega
      rcases hc with rfl|rfl|rfl|rfl|rfl|rfl|rfl
      all_goals
       (repeat' ((conv=>whnf);(first|(refine yai ?_;first|refine yas ?_|refine yaq rfl ?_|fail)|(refine zac _ _ Cst.h Cst.h ?_ ?_;· omega)|(refine yaf ?_ ?_;· first|kernel_rfl|omega|exact yaa _ _|fail)|(refine ycg ?_;first|refine yan _ (fun _ hq X=>zph _ _ _ _) ?_|refine yan _ (fun _ hq X=>bad0_1 _ _ (by omega)) ?_|refine yan _ (fun _ hq X=>bad0_2 _ _ (by omega)) ?_|refine yan _ (fun _ hq X=>bad1_1 _ _ (by omega)) ?_|refine yan _ (fun _ hq X=>bad1_2 _ _ (by omega)) ?_|refine yan _ (fun _ hq X=>bad2_1 _ _ (by omega)) ?_|refine yan _ (fun _ hq X=>bad2_2 _ _ (by omega)) ?_|refine yan _ (fun _ hq X=>bad3_1 _ _ (by omega)) ?_|refine yan _ (fun _ hq X=>bad3_2 _ _ (by omega)) ?_|refine yan _ (fun _ hq X=>bad4_1 _ _ (by omega)) ?_|refine yan _ (fun _ hq X=>bad4_2 _ _ (by omega)) ?_|refine yan _ (fun _ hq X=>bad5_1 _ _ (by omega)) ?_|refine yan _ (fun _ hq X=>bad5_2 _ _ (by omega)) ?_|refine yan _ (fun _ hq X=>bad6_1 _ _ (by omega)) ?_|refine yan _ (fun _ hq X=>bad6_2 _ _ (by omega)) ?_|fail)|refine ydf _ (zb3 rfl) ?_|refine zad [] ?_|fail)));all_goals (conv=>whnf)
       (refine ⟨⟨i1,by omega,by omega,?_,.inl ⟨rfl,rfl⟩,rfl,_,rfl,?_⟩⟩;rotate_left 1;exact .inr ⟨by simp [zbe,below,zaa,tr,Tf.sc_below,zd5,zeb],by simp [zcj,Blk.below,zaa,below,Tf.sc_below,zd5,zeb]⟩;(repeat' (first|exact trivial|refine ⟨⟨_,rfl,?_⟩,?_⟩|fail));all_goals exact Wk.of_eq (congrArg (AV.int _) (by omega)))
     ·obtain rfl:i=7:=by omega
      (repeat' ((conv=>whnf);(first|refine yau rfl ?_|refine yab _ (w7 _) ?_|fail)));conv=>whnf
      exact eT trivial
end
end Go.Proofs.YtjflngchbeegcaaGreatDoor.P10.C
namespace Go.Proofs.YtjflngchbeegcaaGreatDoor
section
open Go.ChangeShapes Go.WideShapes Go.ChangeAt Go.RowKit Go.Vsi
theorem zx8 {g:G} {W:World} {b:Nat} (hg:∀ b o,¬ g.own b o):∀ (l:List AV) (cs:List Value) (o:Nat),LRel g W l cs→(∀ (i:Nat) c,cs[i]? = some c→W.cell? ⟨b,o+i,.none⟩=some c)→MRel g W l b o
 | [],_,_,_,_=>trivial
 | v::l,cs,o,h,hc=>by
   simp only [LRel] at h
   obtain ⟨c,r,rfl,h1,h2⟩:=h
   refine ⟨⟨c,by simpa using hc 0 c rfl,h1,hg _ _⟩,?_⟩
   exact zx8 hg l r (o+1) h2 fun i c' hi=>by
    have:=hc (i+1) c' (by simpa using hi)
    rwa [show o+(i+1)=o+1+i by omega] at this
theorem mone {W:World} {n:String} {gi:Nat} {ty:TypeId} {T:Ty} {D:DataW Unit} {cells:List AV} {g0:Nat} {t0:TypeId} {cs0:Array Value} {f0:Nat} {p0:List MemPlace}
  (hg:Tryz.prog.globalNamed n=some gi) (ht:(Tryz.prog.globals[gi]?).map (·.type)=some ty) (hty:TyOk Tryz.prog ty T) (hpl:PlTy T) (hD:∃ l',DatOf (H:=Unit) D l'∧l'=cells)
  (hg0:Tryz.prog.globalNamed n=some g0) (ht0:(Tryz.prog.globals[g0]?).map (·.type)=some t0) (hv0:W.var? Tryz.prog n=some cs0) (hd0:DataW.trod (fun _=>()) Tryz.prog W 0 (fun _=>true) false f0 t0 cs0.toList=some (D,p0)):MRel G.none W cells gi 0:=by
 obtain rfl:=Option.some.inj (hg.symm.trans hg0)
 obtain rfl:=Option.some.inj (ht.symm.trans ht0)
 obtain ⟨l,h1,h2⟩:=trod_dat (g:=G.none) _ hpl hty hd0
 obtain ⟨l',hl1,hl2⟩:=hD
 have hll:l=cells:=(DatOf.det h1 hl1).trans hl2
 rw [← hll]
 refine zx8 (fun _ _ h=>h) l cs0.toList 0 h2 fun i c hi=>?_
 have:=World.var?_cell hg0 hv0 i
 rw [ybv,this]
 simpa using hi
theorem zwc {W:World} (h:laidMetH Tryz.prog [("lyceum/syntax.rows",Rows.laid_lyceum_syntax_rows)] W):∀ p∈Glob.gl,MRel G.none W p.2 p.1 0:=by
 rw [MakeChecks.laidMetH_plain _ _ _ (by kernel_rfl)] at h
 obtain ⟨ps,⟨g0,t0,cs0,f0,p0,q0,hg0,ht0,hv0,hd0,_⟩,_⟩:=h
 have m0:MRel G.none W (Tryz.gl[0]).2 1 0:=mone (T:=repTy 17 (.pair .bool (.pair .bool (.pair (.int .u8) (.pair (.int .i64) (.pair (.int .i64) .unit)))))) (ty:=165) (by kernel_rfl) (by kernel_rfl) (zmn zp1 12 165 _ (by kernel_rfl)) (by simp [repTy,PlTy]) ⟨_,by unfold Rows.laid_lyceum_syntax_rows;repeat constructor,by kernel_rfl⟩ hg0 ht0 hv0 hd0
 intro p hp
 have hp0:p=Tryz.gl[0]:=by
  have:p∈Tryz.gl:=hp
  simpa [Tryz.gl] using this
 subst hp0
 exact m0
end
end Go.Proofs.YtjflngchbeegcaaGreatDoor
