/- A text of the proof: the parts RP38z, RQ38z. -/
import Derived.Test.YtgopbbkpcjgihaaGreatK10
set_option linter.unusedSimpArgs false
set_option linter.unusedVariables false
set_option maxHeartbeats 8000000
namespace Go.Proofs.YtgopbbkpcjgihaaGreat
open Go.Vsi
section
attribute [local irreducible] VW VCall VO bits
theorem fewB_facts {b:Bk} (h:fewB b=true):b.ser.length≤42∧b.ent.length≤60∧∀ s∈b.ser,s.vers.length≤22∧∀ v∈s.vers,v.sch.lates.length≤10:=by
 unfold fewB at h
 rw [yak,yak,decide_eq_true_eq,decide_eq_true_eq,yao] at h
 refine ⟨h.1,h.2.1,fun s hs=>?_⟩
 have h2:=h.2.2 s hs
 unfold fewS at h2
 rw [yak,decide_eq_true_eq,yao] at h2
 refine ⟨h2.1,fun v hv=>?_⟩
 have h3:=h2.2 v hv
 unfold fewV at h3
 exact of_decide_eq_true h3
theorem sc_lend {f2 f3 f4 f5 f6 f7:Int} {lates:List (Int×Int)} (hl:lates.length≤1000000) (M:Heap) (i z:Nat) (hi:M[i]? = some (.box 63 (lates.flatMap encP++List.replicate z .junk))) :
  VDet Tryz.prog 14 [.agg [.int .i64 f2,.int .i64 f3,.ms i 0 lates.length,.int .i64 f4,.int .i64 f5,.int .i64 f6,.int .u8 f7],.agg [.int .i64 f2,.int .i64 f3,.sl none lates.length (lates.flatMap encP),.int .i64 f4,.int .i64 f5,.int .i64 f6,.int .u8 f7]] M (.bool true):=by
 have h:=fun H=>sameS_c ⟨f2,f3,f4,f5,f6,f7,lates⟩ hl H
 refine VDet.lendA (ys:=[.agg [.int .i64 f2,.int .i64 f3,.sl none lates.length (lates.flatMap encP++List.replicate z .junk),.int .i64 f4,.int .i64 f5,.int .i64 f6,.int .u8 f7],.agg [.int .i64 f2,.int .i64 f3,.sl none lates.length (lates.flatMap encP),.int .i64 f4,.int .i64 f5,.int .i64 f6,.int .u8 f7]]) (.cons (.agg (.cons (.refl _) (.cons (.refl _) (.cons (.ms hi rfl (LendL.refl _)) (.cons (.refl _) (.cons (.refl _) (.cons (.refl _) (.cons (.refl _) .nil)))))))) (.cons (.refl _) .nil)) h ?_ rfl
 exact ⟨zbs ⟨yae _,yae _,wk_pre _ _ _,yae _,yae _,yae _,yae _,trivial⟩,yae _,trivial⟩
theorem tells_c (b:Bk) (d1 d2:Int) (ex st:ByteArray) (H:Heap):VDet Tryz.prog 3 [.agg b.cells,.int .i64 d1,.int .i64 d2,.str ex,.str st] H (.bool true):=by
 have haw:=awake_c
 have hfew:=few_c b
 have hcb:b.cells=[.sl none b.ser.length (b.ser.flatMap Ser.cells),.sl none b.ent.length (b.ent.flatMap Ent.cells)]:=rfl
 cases hF:fewB b with
 | false =>
   rw [hF] at hfew
   rw [hcb] at hfew ⊢
   refine zap Tryz.E0 zad Tryz.func3 (by kernel_rfl) rfl (ybv rfl) rfl fun hcl hbl=>?_
   (repeat' ((conv=>whnf);(first|(refine yai ?_;first|refine yas ?_|refine yau rfl ?_|fail)|(refine ybi ?_;first|refine yab _ (haw _) ?_|refine yab _ (hfew _) ?_|fail)|fail)));conv=>whnf
   exact eT trivial
 | true =>
 rw [hF] at hfew
 obtain ⟨q1,q2,q3⟩:=fewB_facts hF
 have hb:b.Sm:=⟨by omega,by omega,fun s h=>by have:=(q3 s h).1;omega⟩
 have hs:b.ser.length≤1000000:=by omega
 have he:b.ent.length≤1000000:=by omega
 have hv:∀ s∈b.ser,s.vers.length≤1000000:=fun s h=>by have:=(q3 s h).1;omega
 have hla:∀ s∈b.ser,∀ v∈s.vers,v.sch.lates.length≤1000000:=fun s h v hvv=>by have:=(q3 s h).2 v hvv;omega
 have hgiv:=given38_c b (by omega) he fun s h=>⟨hv s h,fun v hvv=>by have:=(q3 s h).2 v hvv;omega⟩
 have hrv:=rValid_c b hs he hv
 have h12:=zcp b hb
 have h8:=scheme_c b hb ex d2
 have h9:=report_c b hb d2
 have h10:=marks_c b hb ex st d2
 have h11:=changes_c b hb d1 d2
 have h13:=rDay_c d2
 have h13b:=rDay_c d1
 by_cases hvd:zbm b=false∨isDay d2=false
 ·have hand:(zbm b&&isDay d2)=false:=by
    rcases hvd with h|h <;> rw [h] <;> simp
  have e1:schS b ex d2=sch0:=by unfold schS;rw [hand];rfl
  have e2:schE b ex d2=2:=by unfold schE;rw [hand];rfl
  have e3:repK b d2=[]:=by unfold repK;rw [hand];rfl
  have e4:repE b d2=2:=by unfold repE;rw [hand];rfl
  have e5:mksF b ex st d2=[]:=by unfold mksF;rw [hand];rfl
  have e6:mksE b ex st d2=2:=by unfold mksE;rw [hand];rfl
  have e7:chgE b d1 d2=2:=by
   unfold chgE
   by_cases h:(isDay d1&&isDay d2)=true
   ·rw [if_pos h]
    unfold repE
    rcases hvd with h2|h2
    ·rw [h2];rfl
    ·rw [h2,ycv] at h
     cases h
   ·rw [if_neg h]
  rw [e1,e2] at h8
  rw [e3,e4] at h9
  rw [e5,e6] at h10
  rw [e7] at h11
  have h14:∀ H,VDet Tryz.prog 14 [.agg [.int .i64 0,.int .i64 0,.sl none 0 [],.int .i64 0,.int .i64 0,.int .i64 0,.int .u8 0],.agg [.int .i64 0,.int .i64 0,.nils,.int .i64 0,.int .i64 0,.int .i64 0,.int .u8 0]] H (.bool true):=fun H=>(sameS_c sch0 (by decide) H).wk ⟨yae _,zbs ⟨yae _,yae _,zbp,yae _,yae _,yae _,yae _,trivial⟩,trivial⟩
  exact tells_n _ _ _ _ d1 d2 ex st _ _ hvd haw hfew hgiv hrv h8 h9 h10 h11 h12 h13 h14 H
 obtain ⟨hV,hD⟩:zbm b=true∧isDay d2=true:=by
  constructor
  ·cases h:zbm b with
   | true=>rfl
   | false=>exact absurd (.inl h) hvd
  ·cases h:isDay d2 with
   | true=>rfl
   | false=>exact absurd (.inr h) hvd
 have hvb:=validF_iff.1 hV
 have hto:=fun (s:Sch) (l:List Wrk) (h1:s.lates.length≤1000000) (h2:l.length≤1000000) H=>rtotal_c s l (by omega) h2 none H
 have hgr:=fun (s:Sch) (w:Wrk) (h1:s.lates.length≤1000000) H=>rgrade_c s w (by omega) H
 have hrep:=fun d=>rReport_c hto b hvb hla d
 have hfc:=rForce_sch hvb.srt ex d2
 have hfs:=rForce_some hvb.srt ex d2
 have h15:=force_c b hs hv ex d2
 have hfl:(frcF b ex d2).lates.length≤8:=by
  cases hf:(za3 b ex d2).isSome with
  | true=>exact (zca (zft hvb hf)).2.2.2.2.2.2.1
  | false =>
    have:za3 b ex d2=none:=by simpa using hf
    unfold frcF
    rw [this]
    decide
 have hwv:∀ w∈wksF b d2 (ex,st),zcc (frcF b ex d2) w=(markF (frcF b ex d2) w,0):=fun w hw=>by
  have h1:=wks_valid hvb d2 (ex,st) w hw
  have h2:(ex,st)∈keysF (selF b.ent d2):=by
   unfold wksF ofK at hw
   obtain ⟨e,he1,-⟩:=ybq.1 hw
   obtain ⟨he2,he3⟩:=List.mem_filter.1 he1
   exact mem_keysF.2 ⟨e,he2,eqK_iff.1 he3⟩
  exact if_pos ⟨zft hvb (zg9 hvb h2),h1⟩
 have h16:=rMarks_c hgr b hs he hv ex st d2 (by rw [hfc];omega) (by rw [hfc,selW_eq];exact hwv)
 have hwl:(wksF b d2 (ex,st)).length≤1000000:=by have:=wks_len hvb d2 (ex,st);omega
 rw [hfc] at h15 h16
 rw [selW_eq] at h16
 rw [hfs] at h15
 have e3:repK b d2=keyS b d2:=by unfold repK keyS;rw [hV,hD];rfl
 have e4:repE b d2=0:=by unfold repE;rw [hV,hD];rfl
 have e5:mksF b ex st d2=(wksF b d2 (ex,st)).map (markF (frcF b ex d2)):=by unfold mksF;rw [hV,hD];rfl
 have e6:mksE b ex st d2=if (wksF b d2 (ex,st)).isEmpty then 6 else 0:=by unfold mksE;rw [hV,hD];rfl
 have e1:schS b ex d2=frcF b ex d2:=by
  unfold schS
  rw [hV,hD]
  cases hf:(za3 b ex d2).isSome with
  | true=>rfl
  | false =>
    have:za3 b ex d2=none:=by simpa using hf
    unfold frcF
    rw [this]
    rfl
 have e2:schE b ex d2=if (za3 b ex d2).isSome then 0 else 6:=by unfold schE;rw [hV,hD];rfl
 rw [e3,e4] at h9
 rw [e5,e6] at h10
 rw [hV] at hrv h12
 rw [hD] at h13
 have hkl:∀ d,(keyS b d).length≤1000000:=fun d=>by
  unfold keyS
  rw [zeq]
  have h1:=zg8 (selF b.ent d)
  have h2:(selF b.ent d).length≤b.ent.length:=List.length_filter_le _ _
  omega
 have h17:=rowsEq_c (ptsF b d2) (keyS b d2) (hkl d2)
 have h20:=like_c b hb hla
 have hdf:(isDay d1=true∧chgE b d1 d2=0)∨(isDay d1=false∧chgE b d1 d2=2∧(if chgE b d1 d2=0 then chgK b d1 d2 else []).length=0):=by
  unfold chgE
  rw [hD,Bool.and_true]
  cases h:isDay d1 with
  | true =>
    refine .inl ⟨rfl,?_⟩
    unfold repE
    rw [hV,h]
    rfl
  | false=>exact .inr ⟨rfl,rfl,rfl⟩
 have hck:chgE b d1 d2=0→isDay d1=true→chgK b d1 d2=(keyS b d2).filter fun y=>!(keyS b d1).any fun x=>eqR (ptsF b d1) (ptsF b d2) x y:=fun _ h=>by
  unfold chgK
  have e8:repK b d1=keyS b d1:=by unfold repK keyS;rw [hV,h];rfl
  rw [e3,e8]
  congr 1
  funext y
  congr 2
  funext x
  rw [eqR_row]
 have h19:isDay d1=true→∀ H,VDet Tryz.prog 19 [.agg b.cells,.int .i64 d1,.int .i64 d2] H (.sl none (if chgE b d1 d2=0 then chgK b d1 d2 else []).length ((if chgE b d1 d2=0 then chgK b d1 d2 else []).flatMap (rowC (ptsF b d2)))):=fun h H=>by
  have hc0:chgE b d1 d2=0:=by
   rcases hdf with h2|h2
   ·exact h2.2
   ·rw [h2.1] at h;cases h
  rw [if_pos hc0,hck hc0 h]
  exact rChanges_k _ _ _ _ _ hcb (fun n=>zae n _) (fun n=>zag n _) d1 d2 (keyS b d1) (keyS b d2) (ptsF b d1) (ptsF b d2) (hkl d1) (hkl d2) (hrep d1) (hrep d2) H
 have hcl:(if chgE b d1 d2=0 then chgK b d1 d2 else []).length≤1000000:=by
  split
  ·unfold chgK
   have h9:=List.length_filter_le (fun k=>!(repK b d1).any (eqRow (ptsF b d1) k.1 k.2 (ptsF b d2 k))) (repK b d2)
   rw [e3] at h9
   rw [e3]
   have:=hkl d2
   omega
  ·exact yah _
 have h17b:=rowsEq_c (ptsF b d2) (if chgE b d1 d2=0 then chgK b d1 d2 else []) hcl
 have h18:=hrep d2
 have hgL:(((wksF b d2 (ex,st)).map (markF (frcF b ex d2))).length=0∧(if (wksF b d2 (ex,st)).isEmpty then (6:Int) else 0)=6)∨(0<((wksF b d2 (ex,st)).map (markF (frcF b ex d2))).length∧(if (wksF b d2 (ex,st)).isEmpty then (6:Int) else 0)=0):=by
  cases wksF b d2 (ex,st) with
  | nil=>exact .inl ⟨rfl,rfl⟩
  | cons w l=>exact .inr ⟨by simp,rfl⟩
 have hLl:((wksF b d2 (ex,st)).map (markF (frcF b ex d2))).length≤1000000:=by rw [yav];exact hwl
 rw [show (wksF b d2 (ex,st)).length=((wksF b d2 (ex,st)).map (markF (frcF b ex d2))).length by rw [yav]] at h16
 have hsame:=sameS_c (frcF b ex d2) (by omega)
 by_cases hown:(za3 b ex d2).isSome=true∧(frcF b ex d2).lates≠[]
 ·have h8o:=scheme_o b hb ex d2 hV hD hown.1 hown.2 (by omega)
  rw [hown.1] at h15
  have hl1:0<(frcF b ex d2).lates.length:=List.length_pos_iff.2 hown.2
  have hlend:=fun M i z h=>sc_lend (f2:=(frcF b ex d2).pts) (f3:=(frcF b ex d2).part) (f4:=(frcF b ex d2).att) (f5:=(frcF b ex d2).rty) (f6:=(frcF b ex d2).hnt) (f7:=(frcF b ex d2).cnt) (lates:=(frcF b ex d2).lates) (by omega) M i z h
  exact tells_o _ _ _ _ d1 d2 ex st _ _ _ _ _ _ (frcF b ex d2).lates hl1 hfl _ _ _ hLl _ hgL _ _ _ _ hdf haw hfew hgiv hrv h8o h9 h10 h11 h12 h13 h13b hlend h15 h16 h17 h17b h18 h19 h20 H
 ·have hlat:(frcF b ex d2).lates=[]:=by
    cases hf:(za3 b ex d2).isSome with
    | true =>
      cases hl:(frcF b ex d2).lates with
      | nil=>rfl
      | cons p l=>exact absurd ⟨hf,by rw [hl];simp⟩ hown
    | false =>
      have:za3 b ex d2=none:=by simpa using hf
      unfold frcF
      rw [this]
      rfl
  have hcell:(frcF b ex d2).cells=[.int .i64 (frcF b ex d2).pts,.int .i64 (frcF b ex d2).part,.sl none 0 [],.int .i64 (frcF b ex d2).att,.int .i64 (frcF b ex d2).rty,.int .i64 (frcF b ex d2).hnt,.int .u8 (frcF b ex d2).cnt]:=by
   unfold Sch.cells
   rw [hlat]
   rfl
  rw [e1,e2] at h8
  rw [hcell] at h8 h15 hsame
  have heo:((if (za3 b ex d2).isSome then (0:Int) else 6)=0∧(za3 b ex d2).isSome=true)∨((if (za3 b ex d2).isSome then (0:Int) else 6)=6∧(za3 b ex d2).isSome=false):=by
   cases (za3 b ex d2).isSome with
   | true=>exact .inl ⟨rfl,rfl⟩
   | false=>exact .inr ⟨rfl,rfl⟩
  exact tells_f _ _ _ _ d1 d2 ex st _ _ _ _ _ _ _ _ heo _ _ _ hLl _ hgL _ _ _ _ hdf haw hfew hgiv hrv h8 h9 h10 h11 h12 h13 h13b hsame h15 h16 h17 h17b h18 h19 h20 H
abbrev LateI:Type:=Int×Int×Unit
abbrev SchI:Type:=Int×Int×List LateI×Int×Int×Int×Int×Unit
abbrev VerI:Type:=Int×SchI×Unit
abbrev SerI:Type:=ByteArray×List VerI×Unit
abbrev WrkI:Type:=Int×Int×Int×Int×Unit
abbrev EntI:Type:=ByteArray×ByteArray×Int×WrkI×Unit
abbrev BookI:Type:=List SerI×List EntI×Unit
def lateTy:Ty:=.pair (.int .i64) (.pair (.int .i64) .unit)
def schTy:Ty:=.pair (.int .i64) (.pair (.int .i64) (.pair (.sl lateTy) (.pair (.int .i64) (.pair (.int .i64) (.pair (.int .i64) (.pair (.int .u8) .unit))))))
def verTy:Ty:=.pair (.int .i64) (.pair schTy .unit)
def serTy:Ty:=.pair .str (.pair (.sl verTy) .unit)
def wrkTy:Ty:=.pair (.int .i64) (.pair (.int .i64) (.pair (.int .i64) (.pair (.int .i64) .unit)))
def entTy:Ty:=.pair .str (.pair .str (.pair (.int .i64) (.pair wrkTy .unit)))
def bookTy:Ty:=.pair (.sl serTy) (.pair (.sl entTy) .unit)
def lateOf (x:LateI):Int×Int:=(x.1,x.2.1)
def schOf (x:SchI):Sch:=⟨x.1,x.2.1,x.2.2.2.1,x.2.2.2.2.1,x.2.2.2.2.2.1,x.2.2.2.2.2.2.1,x.2.2.1.map lateOf⟩
def verOf (x:VerI):Ver:=⟨x.1,schOf x.2.1⟩
def serOf (x:SerI):Ser:=⟨x.1,x.2.1.map verOf⟩
def entOf (x:EntI):Ent:=⟨x.1,x.2.1,x.2.2.1,⟨x.2.2.2.1.1,x.2.2.2.1.2.1,x.2.2.2.1.2.2.1,x.2.2.2.1.2.2.2.1⟩⟩
def bkOf (x:BookI):Bk:=⟨x.1.map serOf,x.2.1.map entOf⟩
theorem lates_enc (l:List LateI):(l.map lateOf).flatMap encP=l.flatMap lateTy.enc:=by
 rw [List.flatMap_map]
 congr 1
theorem ver_enc (x:VerI):(verOf x).cells=verTy.enc x:=by
 show [AV.int .i64 x.1,.int .i64 x.2.1.1,.int .i64 x.2.1.2.1,.sl none (x.2.1.2.2.1.map lateOf).length ((x.2.1.2.2.1.map lateOf).flatMap encP),.int .i64 x.2.1.2.2.2.1,.int .i64 x.2.1.2.2.2.2.1,.int .i64 x.2.1.2.2.2.2.2.1,.int .u8 x.2.1.2.2.2.2.2.2.1]=_
 rw [lates_enc,yav]
 rfl
theorem vers_enc (l:List VerI):(l.map verOf).flatMap Ver.cells=l.flatMap verTy.enc:=by
 rw [List.flatMap_map]
 congr 1
 funext x
 exact ver_enc x
theorem ser_enc (x:SerI):(serOf x).cells=serTy.enc x:=by
 show [AV.str x.1,.sl none (x.2.1.map verOf).length ((x.2.1.map verOf).flatMap Ver.cells)]=_
 rw [vers_enc,yav]
 rfl
theorem sers_enc (l:List SerI):(l.map serOf).flatMap Ser.cells=l.flatMap serTy.enc:=by
 rw [List.flatMap_map]
 congr 1
 funext x
 exact ser_enc x
theorem ents_enc (l:List EntI):(l.map entOf).flatMap Ent.cells=l.flatMap entTy.enc:=by
 rw [List.flatMap_map]
 congr 1
theorem bk_enc (x:BookI):(bkOf x).cells=bookTy.enc x:=by
 show [AV.sl none (x.1.map serOf).length ((x.1.map serOf).flatMap Ser.cells),.sl none (x.2.1.map entOf).length ((x.2.1.map entOf).flatMap Ent.cells)]=_
 rw [sers_enc,ents_enc,yav,yav]
 rfl
theorem dTells_c (x:BookI) (d1 d2:Int) (ex st:ByteArray) (H:Heap):VDet Tryz.prog 3 [.agg (bookTy.enc x),.int .i64 d1,.int .i64 d2,.str ex,.str st] H (.bool true):=by
 have:=tells_c (bkOf x) d1 d2 ex st H
 rwa [bk_enc] at this
end
end Go.Proofs.YtgopbbkpcjgihaaGreat
