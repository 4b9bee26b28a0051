/- A text of the proof: the parts ZC13c, ZD13c, DZ13c. -/
import Derived.ProofKit
import Derived.LaidMore
import Derived.OpenShut
import Derived.Test.YtjflngchbeegcaaGreatDoorK11
set_option linter.unusedSimpArgs false
set_option linter.unusedVariables false
set_option maxHeartbeats 8000000
namespace Go.Proofs.YtjflngchbeegcaaGreatDoor.P10.C
open Go.Vsi
section
attribute [local irreducible] VW VCall VO bits
theorem compares_c (a b:Mdl) (l:List ByteArray) (hna:a.Nm) (hnb:b.Nm) (hva:∀ f∈a.funcs,f.vl.length≤17592186044404) (hvb:∀ f∈b.funcs,f.vl.length≤17592186044404) (hsz:∀ c∈l,c.size≤9223372036854775807) (size N:Int) (H:Heap) :
  VDet Tryz.prog 3 [.agg a.cells,.agg b.cells,.sl none l.length (l.flatMap encSG),.int .i64 size,.int .i64 N] H (.bool true):=by
 have w6a:=fun H=>few13_c a H
 have w6b:=fun H=>few13_c b H
 have w7:∀ H,VDet Tryz.prog 7 [] H (.bool true):=fun H=>awake_c H
 by_cases hyes:few13 a=true∧few13 b=true∧l.length≤20
 ·obtain ⟨ya,yb,h20⟩:=hyes
  rw [ya] at w6a
  rw [yb] at w6b
  obtain ⟨la1,la2,la3,la4⟩:=few13_few ya
  obtain ⟨lb1,lb2,lb3,lb4⟩:=few13_few yb
  have fa:a.Few:=⟨by omega,by omega,by omega,by omega,hva⟩
  have fb:b.Few:=⟨by omega,by omega,by omega,by omega,hvb⟩
  obtain ⟨sm,e1,c10,r19⟩:=same_all a b la2 lb2 hna hnb
  obtain ⟨v3,e3,c12,r21⟩:=number_all a la2 hna
  obtain ⟨k2,z2,p2,e2,F2,c11,r20,hF2⟩:=short_all a la2 hna
  have c13:=fun H=>Count_all l (by omega) hsz size H
  have r22:=fun H=>refCount_all l (by omega) hsz size H
  obtain ⟨k5,z5,p5,e5,F5,W,Bt,hW,c14,r23,r24,hBt⟩:=nth_all l h20 hsz size N
  have hMa:=hpC_a H a b l
  have hMb:=hpC_b H a b l
  have hMt:=hpC_t H a b l
  have hXl:=lnH_len a (H.length+4)
  have w8a:∀ Z:Heap,Z.length=H.length+4→VCall Tryz.prog 8 [.agg a.cells] Z fun r H'=>r=.agg (mdL a (H.length+4))∧H'=Z++lnH a (H.length+4):=fun Z hz=>by rw [← hz];exact lentModel_v a fa (by omega) Z
  have w8b:∀ Z:Heap,Z.length=H.length+((lnH a (H.length+4)).length+4)→VCall Tryz.prog 8 [.agg b.cells] Z fun r H'=>r=.agg (mdL b (H.length+((lnH a (H.length+4)).length+4)))∧H'=Z++lnH b (H.length+((lnH a (H.length+4)).length+4)):=fun Z hz=>by rw [← hz];exact lentModel_v b fb (by omega) Z
  have w9:∀ Z:Heap,Z.length=H.length+((lnH a (H.length+4)++lnH b (H.length+((lnH a (H.length+4)).length+4))).length+4)→VCall Tryz.prog 9 [.sl none l.length (l.flatMap encSG)] Z fun r H'=>r=.vk (H.length+((lnH a (H.length+4)++lnH b (H.length+((lnH a (H.length+4)).length+4))).length+4)) l.length (l.length+12)∧H'=Z++[.vec 9 1 (l.flatMap encSG++mks encSG mkB 12)]:=fun Z hz=>by rw [← hz];exact lentText_v l (by omega) Z
  have hq:(hpC H a b l).length=H.length+((lnH a (H.length+4)++lnH b (H.length+((lnH a (H.length+4)).length+4))).length+4)+1:=by
   unfold hpC
   simp only [List.length_append,List.length_cons,List.length_nil]
   omega
  have hXX:(lnH a (H.length+4)++lnH b (H.length+((lnH a (H.length+4)).length+4))).length=(lnH a (H.length+4)).length+(lnH b (H.length+((lnH a (H.length+4)).length+4))).length:=List.length_append
  have hG0:hpC H a b l=H++(.box 27 a.cells::.box 27 b.cells::.box 27 (mdL a (H.length+4))::.box 27 (mdL b (H.length+((lnH a (H.length+4)).length+4)))::((lnH a (H.length+4)++lnH b (H.length+((lnH a (H.length+4)).length+4)))++[.vec 9 1 (l.flatMap encSG++mks encSG mkB 12)])):=rfl
  generalize hpb:H.length+((lnH a (H.length+4)).length+4)=pb at *
  generalize hXA:lnH a (H.length+4)=XA at *
  generalize hXB:lnH b pb=XB at *
  have tl:∀ X:Heap,Lend ((hpC H a b l)++X) (.vk (H.length+((XA++XB).length+4)) l.length (l.length+12)) (.sk l.length (l.length+12) (l.flatMap encSG++mks encSG mkB 12)):=fun X=>text_lend ((List.getElem?_append_left (List.getElem?_eq_some_iff.1 hMt).1).trans hMt)
  have w10:∀ X:Heap,VDet Tryz.prog 10 [.agg (mdL a (H.length+4)),.agg (mdL b pb)] (hpC H a b l++X) (.tup [.bool sm,.int .i64 e1]):=fun X=>VDet.lendA (.cons (.agg (hMa.app X).lend) (.cons (.agg (hMb.app X).lend) .nil)) c10 ⟨zbp (lnM_wk a),zbp (lnM_wk b),trivial⟩ rfl
  have w11:VCall Tryz.prog 11 [.agg (mdL a (H.length+4))] (hpC H a b l++[]) fun r H'=>r=.tup [mdW k2 z2 p2 (.vs ((hpC H a b l).length+0) F2.length),.int .i64 e2]∧H'=(hpC H a b l++[])++[.vec 60 3 (F2.flatMap Fct.cells)]:=by
   have:=short_lend k2 z2 p2 e2 F2 _ c11 [.agg (mdL a (H.length+4))] [.agg (lnM a)] (hpC H a b l++[]) (.cons (.agg (hMa.app []).lend) .nil) ⟨zbp (lnM_wk a),trivial⟩
   rw [List.length_append] at this
   exact this
  have w12:∀ X:Heap,VDet Tryz.prog 12 [.agg (mdL a (H.length+4))] (hpC H a b l++X) (.tup [.int .i64 v3,.int .i64 e3]):=fun X=>VDet.lendA (.cons (.agg (hMa.app X).lend) .nil) c12 ⟨zbp (lnM_wk a),trivial⟩ rfl
  have w13:∀ X:Heap,VDet Tryz.prog 13 [.vk (H.length+((XA++XB).length+4)) l.length (l.length+12),.int .i64 size] (hpC H a b l++X) (.tup [.int .i64 (cntV l size),.int .i64 (cntE l size)]):=fun X=>VDet.lendA (.cons (tl X) (.cons (.refl _) .nil)) c13 ⟨wk_sk _ _ _ _,Wk.refl _,trivial⟩ rfl
  have hWf:∀ p,freeV p (W p):=fun p=>by
   rcases hW with rfl|rfl
   ·exact Nat.le_refl p
   ·exact Nat.le_refl p
  have w14:∀ B1 B2:Blk,VCall Tryz.prog 14 [.vk (H.length+((XA++XB).length+4)) l.length (l.length+12),.int .i64 size,.int .i64 N] (hpC H a b l++[B1,B2]) fun r H'=>∃ s,r=.tup [mdW k5 z5 p5 (W ((hpC H a b l).length+2)),.int .i64 e5]∧H'=(hpC H a b l++[B1,B2])++[Bt s]:=fun B1 B2=>by
   have:=nth_lend k5 z5 p5 e5 W hWf Bt hBt _ c14 [.vk (H.length+((XA++XB).length+4)) l.length (l.length+12),.int .i64 size,.int .i64 N] [.sk l.length (l.length+12) (l.flatMap encSG++mks encSG mkB 12),.int .i64 size,.int .i64 N] (hpC H a b l++[B1,B2]) (.cons (tl _) (.cons (.refl _) (.cons (.refl _) .nil))) ⟨wk_sk _ _ _ _,Wk.refl _,Wk.refl _,trivial⟩
   rw [show (hpC H a b l++[B1,B2]).length=(hpC H a b l).length+2 from List.length_append] at this
   exact this
  have w16:∀ X:Heap,VDet Tryz.prog 16 [.vk (H.length+((XA++XB).length+4)) l.length (l.length+12),.sl none l.length (l.flatMap encSG)] (hpC H a b l++X) (.bool true):=fun X=>keptText_v l (by omega) _ _ ((List.getElem?_append_left (List.getElem?_eq_some_iff.1 hMt).1).trans hMt)
  have w17:∀ X:Heap,VCall Tryz.prog 17 [.agg (mdL a (H.length+4))] (hpC H a b l++X) fun r H'=>r=.tup []∧OverR (fun j=>j<H.length+4∨H.length+4+6+4 * a.funcs.length≤j) (hpC H a b l++X) H':=fun X=>overModel_o a fa (by omega) (by omega) (by omega) _ _ (hMa.app X)
  have w18:∀ (B' X:Heap),OverR (fun j=>j<H.length+4∨H.length+4+6+4 * a.funcs.length≤j) (hpC H a b l) B'→VCall Tryz.prog 18 [.vk (H.length+((XA++XB).length+4)) l.length (l.length+12)] (B'++X) fun r H'=>r=.tup []∧OverR (fun j=>j≠H.length+((XA++XB).length+4)) (B'++X) H':=fun B' X o=>by
   have h1:B'[H.length+((XA++XB).length+4)]? = some (.vec 9 1 (l.flatMap encSG++mks encSG mkB 12)):=(o.same _ (.inr (by omega))).trans hMt
   refine overText_o _ _ _ (by omega) ?_ _ ((List.getElem?_append_left (List.getElem?_eq_some_iff.1 h1).1).trans h1)
   rw [List.length_append,zaz (f:=encSG) (sz:=1) encSG_size]
   rfl
  rcases hW with rfl|rfl
  ·simp only at w14 r24
   refine cmp_ms H (hn:=h20) (XA:=XA) (XB:=XB) (hXa:=rfl) (hXb:=rfl) (VT:=.vec 9 1 (l.flatMap encSG++mks encSG mkB 12)) (V1:=.vec 60 3 (F2.flatMap Fct.cells)) (Bt:=Bt) (q:=(hpC H a b l).length) (p13:=H.length+((XA++XB).length+4))
    (S:=fun j=>j<H.length+4∨H.length+4+6+4 * a.funcs.length≤j) (S2:=fun j=>j≠H.length+((XA++XB).length+4)) (G:=fun B=>B=hpC H a b l) (f2:=F2.length) (f5:=F5.length) (F2:=F2.flatMap Fct.cells) (F5:=F5.flatMap Fct.cells)
    (h6a:=w6a) (h6b:=w6b) (h8a:=w8a) (h8b:=fun Z hz=>w8b Z (hz.trans hpb)) (h9:=w9) (hG:=hG0.symm) (hGq:=fun B e=>by rw [e]) (hGp:=fun B e=>⟨_,e.trans hG0⟩)
    (g5:=fun B e=>by rw [e,hG0];exact zam rfl) (g6:=fun B e=>by rw [e,hG0];exact zam rfl) (g11:=fun B e=>by rw [e,hG0];exact zam rfl) (g12:=fun B e=>by rw [e,hG0];exact zam rfl)
    (h10:=fun B X e=>by rw [e];exact w10 X) (h11:=fun B e=>by rw [e];exact w11) (h12:=fun B X e=>by rw [e];exact w12 X) (h13:=fun B X e=>by rw [e];exact w13 X) (h14:=fun B B1 B2 e=>by rw [e];exact w14 B1 B2)
    (h15a:=fun B X e=>by rw [e];exact keptModel_v a fa _ _ (hMa.app X)) (h15b:=fun B X e=>by rw [e];exact keptModel_v b fb _ _ (hMb.app X)) (h16:=fun B X e=>by rw [e];exact w16 X)
    (h17:=fun B X e=>by rw [e];exact w17 X) (h18:=fun B B' X e o=>w18 B' X (e▸o))
    (hS0:=fun j hj=>⟨.inl (by omega),by omega⟩) (hSq:=fun j hj=>⟨.inr (by omega),by omega⟩) (hS5:=⟨.inl (by omega),by omega⟩) (hS6:=⟨.inl (by omega),by omega⟩)
    (h19:=r19) (h20:=r20) (h21:=r21) (h22:=r22) (h23:=r23) (h24a:=fun H i h=>same_vs _ _ _ F2 (by omega) H i h) (h24b:=fun H i s h=>r24 H i s h) (h7:=w7)
  ·simp only at w14 r24
   refine cmp_vs H (hn:=h20) (XA:=XA) (XB:=XB) (hXa:=rfl) (hXb:=rfl) (VT:=.vec 9 1 (l.flatMap encSG++mks encSG mkB 12)) (V1:=.vec 60 3 (F2.flatMap Fct.cells)) (Bt:=Bt) (q:=(hpC H a b l).length) (p13:=H.length+((XA++XB).length+4))
    (S:=fun j=>j<H.length+4∨H.length+4+6+4 * a.funcs.length≤j) (S2:=fun j=>j≠H.length+((XA++XB).length+4)) (G:=fun B=>B=hpC H a b l) (f2:=F2.length) (f5:=F5.length) (F2:=F2.flatMap Fct.cells) (F5:=F5.flatMap Fct.cells)
    (h6a:=w6a) (h6b:=w6b) (h8a:=w8a) (h8b:=fun Z hz=>w8b Z (hz.trans hpb)) (h9:=w9) (hG:=hG0.symm) (hGq:=fun B e=>by rw [e]) (hGp:=fun B e=>⟨_,e.trans hG0⟩)
    (g5:=fun B e=>by rw [e,hG0];exact zam rfl) (g6:=fun B e=>by rw [e,hG0];exact zam rfl) (g11:=fun B e=>by rw [e,hG0];exact zam rfl) (g12:=fun B e=>by rw [e,hG0];exact zam rfl)
    (h10:=fun B X e=>by rw [e];exact w10 X) (h11:=fun B e=>by rw [e];exact w11) (h12:=fun B X e=>by rw [e];exact w12 X) (h13:=fun B X e=>by rw [e];exact w13 X) (h14:=fun B B1 B2 e=>by rw [e];exact w14 B1 B2)
    (h15a:=fun B X e=>by rw [e];exact keptModel_v a fa _ _ (hMa.app X)) (h15b:=fun B X e=>by rw [e];exact keptModel_v b fb _ _ (hMb.app X)) (h16:=fun B X e=>by rw [e];exact w16 X)
    (h17:=fun B X e=>by rw [e];exact w17 X) (h18:=fun B B' X e o=>w18 B' X (e▸o))
    (hS0:=fun j hj=>⟨.inl (by omega),by omega⟩) (hSq:=fun j hj=>⟨.inr (by omega),by omega⟩) (hS5:=⟨.inl (by omega),by omega⟩) (hS6:=⟨.inl (by omega),by omega⟩)
    (h19:=r19) (h20:=r20) (h21:=r21) (h22:=r22) (h23:=r23) (h24a:=fun H i h=>same_vs _ _ _ F2 (by omega) H i h) (h24b:=fun H i s h=>r24 H i s h) (h7:=w7)
 ·refine cmp_no (few13 a) (few13 b) _ _ _ _ _ _ _ _ _ _ _ _ _ _ _ _ _ _ _ _ _ _ _ _ _ _ _ _ rfl rfl ?_ w6a w6b w7 H
  cases ha:few13 a with
  | false=>exact .inl rfl
  | true =>
    cases hb:few13 b with
    | false=>exact .inr (.inl ⟨rfl,rfl⟩)
    | true=>exact .inr (.inr ⟨rfl,rfl,by
      rcases Nat.lt_or_ge 20 l.length with h|h
      ·exact h
      ·exact absurd ⟨ha,hb,h⟩ hyes⟩)
end
end Go.Proofs.YtjflngchbeegcaaGreatDoor.P10.C
namespace Go.Proofs.YtjflngchbeegcaaGreatDoor.P10.C
section
open Go.Vsi Go.ChangeShapes Go.WideShapes
def tyM:Ty:=(.pair (.int .u8) (.pair (.int .i64) (.pair (.sl (.int .i64)) (.pair (.int .i64) (.pair (.sl (.pair (.str) (.pair (.int .i64) (.pair (.int .i64) .unit)))) (.pair (.sl (.pair (.str) (.pair (.int .i64) (.pair (.sl (.int .i64)) .unit)))) (.pair (.sl (.pair (.str) (.pair (.int .i64) .unit))) .unit)))))))
abbrev FsT:=List (ByteArray×Int×Int×Unit)
abbrev UsT:=List (ByteArray×Int×List Int×Unit)
abbrev BsT:=List (ByteArray×Int×Unit)
def mdlO (k sz:Int) (rel:List Int) (lo:Int) (fs:FsT) (us:UsT) (bs:BsT):Mdl:=⟨k,sz,rel,lo,fs.map fun p=>⟨p.1,p.2.1,p.2.2.1⟩,us.map fun p=>⟨p.1,p.2.1,p.2.2.1⟩,bs.map fun p=>⟨p.1,p.2.1⟩⟩
theorem mdlO_enc (k sz:Int) (rel:List Int) (lo:Int) (fs:FsT) (us:UsT) (bs:BsT):tyM.enc (k,sz,rel,lo,fs,us,bs,())=(mdlO k sz rel lo fs us bs).cells:=by
 unfold Mdl.cells mdlO
 simp only [List.length_map,List.flatMap_map]
 rfl
def mdlT (x:tyM.I):Mdl:=mdlO x.1 x.2.1 x.2.2.1 x.2.2.2.1 x.2.2.2.2.1 x.2.2.2.2.2.1 x.2.2.2.2.2.2.1
theorem mdlT_enc (x:tyM.I):tyM.enc x=(mdlT x).cells:=mdlO_enc x.1 x.2.1 x.2.2.1 x.2.2.2.1 x.2.2.2.2.1 x.2.2.2.2.2.1 x.2.2.2.2.2.2.1
theorem mdlT_nm (x:tyM.I) (g:tyM.good x):(mdlT x).Nm:=by
 obtain ⟨k,sz,rel,lo,fs,us,bs,u⟩:=x
 obtain ⟨-,-,grel,-,gfs,gus,gbs,-⟩:=g
 refine ⟨?_,?_,?_⟩
 ·intro y hy
  obtain ⟨p,hp,rfl⟩:=List.mem_map.1 hy
  exact maxLen_le (gfs.2 p hp).1
 ·intro y hy
  obtain ⟨p,hp,rfl⟩:=List.mem_map.1 hy
  exact maxLen_le (gus.2 p hp).1
 ·intro y hy
  obtain ⟨p,hp,rfl⟩:=List.mem_map.1 hy
  exact maxLen_le (gbs.2 p hp).1
def fitM (x:tyM.I):Prop:=∀ f∈(mdlT x).funcs,f.vl.length≤17592186044404
section
variable {P:Program} {H:Type}
theorem weightsAll_mem {e:TypeId}:∀ {es:List (DataW H)} {y:DataW H} {w:Nat},y∈es→w∈DataW.weights P e y→w∈DataW.weightsAll P e es
 | [],_,_,h,_=>by cases h
 | z::es,y,w,h,hw=>by
   rw [DataW.weightsAll]
   rcases List.mem_cons.1 h with e|h
   ·subst e
    exact List.mem_append_left _ hw
   ·exact List.mem_append_right _ (weightsAll_mem h hw)
structure MdTys (P:Program) (t fl ft vt:TypeId):Prop where
 un:∃ (fs:Array Field) (f1 f2 f3 f4 f5 f6 f7:Field),P.underlying t=some (.struct fs)∧fs.toList=[f1,f2,f3,f4,f5,f6,f7]∧f6.type=fl
 sl:P.underlying fl=some (.slice ft)
 uf:∃ (fs:Array Field) (f1 f2 f3:Field),P.underlying ft=some (.struct fs)∧fs.toList=[f1,f2,f3]∧f3.type=vt
 sv:∃ e,P.underlying vt=some (.slice e)∧P.bytesOf e=8
theorem dat_pair {a b:Ty} {x:a.I} {y:b.I} {d:DataW H}:Ty.dat (.pair a b) (x,y) d↔∃ d0 ds,d=.agg (d0::ds)∧a.dat x d0∧b.dats y ds:=Iff.rfl
theorem md_fit {t fl ft vt:TypeId} (ht:MdTys P t fl ft vt) {x:tyM.I} {d:DataW H} (hd:tyM.dat x d) (hw:∀ w∈DataW.weights P t d,w≤capB):fitM x:=by
 obtain ⟨k,sz,rel,lo,fs,us,bs,u⟩:=x
 obtain ⟨gs,f1,f2,f3,f4,f5,f6,f7,q1,q2,rfl⟩:=ht.un
 obtain ⟨hs,h1,h2,h3,p1,p2,rfl⟩:=ht.uf
 obtain ⟨e,v1,v2⟩:=ht.sv
 obtain ⟨d0,ds,rfl,-,hd⟩:=dat_pair.1 hd
 obtain ⟨d1,ds,rfl,-,hd⟩:=dats_pair.1 hd
 obtain ⟨d2,ds,rfl,-,hd⟩:=dats_pair.1 hd
 obtain ⟨d3,ds,rfl,-,hd⟩:=dats_pair.1 hd
 obtain ⟨d4,ds,rfl,-,hd⟩:=dats_pair.1 hd
 obtain ⟨d5,ds,rfl,hd5,hd⟩:=dats_pair.1 hd
 obtain ⟨d6,ds,rfl,-,hd⟩:=dats_pair.1 hd
 rw [weights_agg q1,q2] at hw
 simp only [List.map_cons,List.map_nil,DataW.weightsEach,List.mem_append] at hw
 have hw5:∀ w∈DataW.weights P f6.type d5,w≤capB:=fun w hm=>hw w (by simp [hm])
 intro f hf
 obtain ⟨p,hp,rfl⟩:=List.mem_map.1 hf
 rcases dat_sl.1 hd5 with ⟨rfl,-⟩|⟨es,sp,rfl,hl,hel⟩
 ·cases hp
 ·obtain ⟨i,hi⟩:=List.mem_iff_getElem?.1 hp
  have hlt:i<es.length:=by rw [hl];exact (List.getElem?_eq_some_iff.1 hi).1
  obtain ⟨nm,ar,vl,uu⟩:=p
  have hy:=hel i _ es[i] hi (List.getElem?_eq_getElem hlt)
  obtain ⟨y0,ys,hyz,-,hy⟩:=dat_pair.1 hy
  obtain ⟨y1,ys,rfl,-,hy⟩:=dats_pair.1 hy
  obtain ⟨y2,ys,rfl,hy2,hy⟩:=dats_pair.1 hy
  rw [weights_slice ht.sl] at hw5
  have hw6:∀ w∈DataW.weights P ft es[i],w≤capB:=fun w hm=>hw5 w (List.mem_cons_of_mem _ (List.mem_append_left _ (weightsAll_mem (List.getElem_mem hlt) hm)))
  rw [hyz,weights_agg p1,p2] at hw6
  simp only [List.map_cons,List.map_nil,DataW.weightsEach,List.mem_append] at hw6
  have hw7:∀ w∈DataW.weights P h3.type y2,w≤capB:=fun w hm=>hw6 w (by simp [hm])
  show vl.length≤_
  rcases dat_sl.1 hy2 with ⟨rfl,-⟩|⟨es2,sp2,rfl,hl2,-⟩
  ·exact Nat.zero_le _
  ·rw [weights_slice v1,v2] at hw7
   have:=hw7 _ (List.mem_cons_self ..)
   have hl3:es2.length=vl.length:=hl2
   unfold capB at this
   have h8:es2.length * 8≤(es2.length+sp2.length) * 8:=Nat.mul_le_mul_right _ (by omega)
   omega
end
theorem mdl_compares (x y:tyM.I) (l:List ByteArray) (g:tyM.good x) (g':tyM.good y) (hl:∀ c∈l,c.size≤maxLen) (f:fitM x) (f':fitM y) (size N:Int) (H:Heap):VDet Tryz.prog 3 [.agg (tyM.enc x),.agg (tyM.enc y),.sl none l.length (l.flatMap encSG),.int .i64 size,.int .i64 N] H (.bool true):=by
 rw [mdlT_enc,mdlT_enc]
 exact compares_c (mdlT x) (mdlT y) l (mdlT_nm x g) (mdlT_nm y g') f f' (fun c hc=>maxLen_le (hl c hc)) size N H
end
end Go.Proofs.YtjflngchbeegcaaGreatDoor.P10.C
namespace Go.Proofs.YtjflngchbeegcaaGreatDoor
section
open Go.ChangeShapes Go.WideShapes Go.ChangeAt Go.RowKit Go.Vsi
theorem mrel_of {g:G} {W:World} {b:Nat} (hg:∀ b o,¬ g.own b o):∀ (l:List AV) (cs:List Value) (o:Nat),LRel g W l cs→(∀ (i:Nat) c,cs[i]? = some c→W.cell? ⟨b,o+i,.none⟩=some c)→MRel g W l b o
 | [],_,_,_,_=>trivial
 | v::l,cs,o,h,hc=>by
   simp only [LRel] at h
   obtain ⟨c,r,rfl,h1,h2⟩:=h
   refine ⟨⟨c,by simpa using hc 0 c rfl,h1,hg _ _⟩,?_⟩
   exact mrel_of hg l r (o+1) h2 fun i c' hi=>by
    have:=hc (i+1) c' (by simpa using hi)
    rwa [show o+(i+1)=o+1+i by omega] at this
theorem mone {W:World} {n:String} {gi:Nat} {ty:TypeId} {T:Ty} {D:DataW Unit} {cells:List AV} {g0:Nat} {t0:TypeId} {cs0:Array Value} {f0:Nat} {p0:List MemPlace}
  (hg:Tryz.prog.globalNamed n=some gi) (ht:(Tryz.prog.globals[gi]?).map (·.type)=some ty) (hty:TyOk Tryz.prog ty T) (hpl:PlTy T) (hD:∃ l',DatOf (H:=Unit) D l'∧l'=cells)
  (hg0:Tryz.prog.globalNamed n=some g0) (ht0:(Tryz.prog.globals[g0]?).map (·.type)=some t0) (hv0:W.var? Tryz.prog n=some cs0) (hd0:DataW.trod (fun _=>()) Tryz.prog W 0 (fun _=>true) false f0 t0 cs0.toList=some (D,p0)):MRel G.none W cells gi 0:=by
 obtain rfl:=Option.some.inj (hg.symm.trans hg0)
 obtain rfl:=Option.some.inj (ht.symm.trans ht0)
 obtain ⟨l,h1,h2⟩:=trod_dat (g:=G.none) _ hpl hty hd0
 obtain ⟨l',hl1,hl2⟩:=hD
 have hll:l=cells:=(DatOf.det h1 hl1).trans hl2
 rw [← hll]
 refine mrel_of (fun _ _ h=>h) l cs0.toList 0 h2 fun i c hi=>?_
 have:=World.var?_cell hg0 hv0 i
 rw [Nat.zero_add,this]
 simpa using hi
theorem gl_of_laid {W:World} (h:laidMetH Tryz.prog [("lyceum/syntax.rows",Rows.laid_lyceum_syntax_rows)] W):∀ p∈Glob.gl,MRel G.none W p.2 p.1 0:=by
 rw [MakeChecks.laidMetH_plain _ _ _ (by kernel_rfl)] at h
 obtain ⟨ps,⟨g0,t0,cs0,f0,p0,q0,hg0,ht0,hv0,hd0,_⟩,_⟩:=h
 have m0:MRel G.none W (Tryz.gl[0]).2 1 0:=mone (T:=repTy 17 (.pair .bool (.pair .bool (.pair (.int .u8) (.pair (.int .i64) (.pair (.int .i64) .unit)))))) (ty:=165) (by kernel_rfl) (by kernel_rfl) (tyOf_ok Tryz.T_ok 12 165 _ (by kernel_rfl)) (by simp [repTy,PlTy]) ⟨_,by unfold Rows.laid_lyceum_syntax_rows;repeat constructor,by kernel_rfl⟩ hg0 ht0 hv0 hd0
 intro p hp
 have hp0:p=Tryz.gl[0]:=by
  have:p∈Tryz.gl:=hp
  simpa [Tryz.gl] using this
 subst hp0
 exact m0
end
end Go.Proofs.YtjflngchbeegcaaGreatDoor
