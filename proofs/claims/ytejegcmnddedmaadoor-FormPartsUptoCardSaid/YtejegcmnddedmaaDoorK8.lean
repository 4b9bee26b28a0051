/- A text of the proof: the parts Y02, CA02, A02, SG02, SH02, SI02, SJ02, B02, C02, D02, E02, F02, G02, H02, I02, UB02, UC02, UD02, UE02, R02c, Y02s. -/
import Derived.Shelf.Small.Strs
import Derived.Shelf.SlSortCmp.NoneTotal
import Derived.Shelf.SlSortCmp.WholeK
import Derived.Test.YtejegcmnddedmaaDoorK7
set_option linter.unusedSimpArgs false
set_option linter.unusedVariables false
set_option maxHeartbeats 8000000
namespace Go.Proofs.YtejegcmnddedmaaDoor
section
open Go.Shelf
def Tryd.cmp31_ren:Go.Shelf.Ren:=⟨fun|106=>31|213=>61|265=>83|n=>n,fun|9=>9|3=>3|n=>n,fun|n=>n⟩
theorem Tryd.cmp31:Go.Proofs.Lays.n106 Tryd.prog Tryd.cmp31_ren:={
 mixed:=by kernel_rfl
 f106:=Tryd.func31.trans (congrArg some (by kernel_rfl))
 f213:=Tryd.func61.trans (congrArg some (by kernel_rfl))
 f265:=Tryd.func83.trans (congrArg some (by kernel_rfl))
 t3:=Tryd.underlying3
 a3:=Tryd.isAgg3
 z3:=Tryd.sizeOf3
 v3:=Tryd.zeroValue3
 t9:=Tryd.underlying9
 a9:=Tryd.isAgg9
 z9:=Tryd.sizeOf9
 v9:=Tryd.zeroValue9 }
end
end Go.Proofs.YtejegcmnddedmaaDoor
namespace Go.Proofs.YtejegcmnddedmaaDoor
open Go.Vsi
def cmpI (a b:Int):Int:=if a<b then -1 else if b<a then 1 else 0
def cmpB (a b:ByteArray):Int:=if a.data.toList<b.data.toList then -1 else if b.data.toList<a.data.toList then 1 else 0
def cmpV (v w:Bool):Int:=if v=w then 0 else if v then -1 else 1
def andC (c d:Int):Int:=if c=0 then d else c
mutual
def cT:Tm→Tm→Int
 | .mk v s l,.mk w t m=>andC (cmpV v w) (andC (cmpB s t) (andC (cmpI l.length m.length) (cTs l m)))
def cTs:List Tm→List Tm→Int
 | x::l,y::m=>andC (cT x y) (cTs l m)
 | _,_=>0
end
mutual
def cF:Fo→Fo→Int
 | .mk op s l a,.mk oq t m b=>andC (cmpI op oq) (andC (cmpB s t) (andC (andC (cmpI l.length m.length) (cTs l m)) (andC (cmpI a.length b.length) (cFs a b))))
def cFs:List Fo→List Fo→Int
 | x::l,y::m=>andC (cF x y) (cFs l m)
 | _,_=>0
end
theorem cTs_cons (x y:Tm) (l m:List Tm):cTs (x::l) (y::m)=andC (cT x y) (cTs l m):=by rw [cTs.eq_def]
theorem cFs_cons (x y:Fo) (l m:List Fo):cFs (x::l) (y::m)=andC (cF x y) (cFs l m):=by rw [cFs.eq_def]
theorem cTs_nil (m:List Tm):cTs [] m=0:=by rw [cTs.eq_def]
theorem cFs_nil (m:List Fo):cFs [] m=0:=by rw [cFs.eq_def]
theorem cT_mk (v w:Bool) (s t:ByteArray) (l m:List Tm):cT (.mk v s l) (.mk w t m)=andC (cmpV v w) (andC (cmpB s t) (andC (cmpI l.length m.length) (cTs l m))):=by rw [cT.eq_def]
theorem cF_mk (op oq:Nat) (s t:ByteArray) (l m:List Tm) (a b:List Fo):cF (.mk op s l a) (.mk oq t m b)=andC (cmpI op oq) (andC (cmpB s t) (andC (andC (cmpI l.length m.length) (cTs l m)) (andC (cmpI a.length b.length) (cFs a b)))):=by rw [cF.eq_def]
structure OrdAt {α:Type} (c:α→α→Int) (a:α):Prop where
 rng:∀ b,c a b=-1∨c a b=0∨c a b=1
 anti:∀ b,c b a=- c a b
 eq:∀ b,c a b=0→a=b
 refl:c a a=0
 tr:∀ b d,c a b≤0→c b d≤0→c a d≤0∧(c a d=0→c a b=0∧c b d=0)
theorem and_rng {c d:Int} (h1:c=-1∨c=0∨c=1) (h2:d=-1∨d=0∨d=1):andC c d=-1∨andC c d=0∨andC c d=1:=by
 unfold andC;split <;> assumption
theorem and_neg (c d:Int):andC (-c) (-d)=- andC c d:=by
 unfold andC
 by_cases h:c=0
 ·rw [if_pos h,if_pos (by omega)]
 ·rw [if_neg h,if_neg (by omega)]
theorem and_zero {c d:Int}:andC c d=0↔c=0∧d=0:=by
 unfold andC;split
 ·exact ⟨fun h=>⟨by assumption,h⟩,fun h=>h.2⟩
 ·exact ⟨fun h=>absurd h (by assumption),fun h=>h.1⟩
theorem and_tr {c1 c2 c3 d1 d2 d3:Int} (hc:c1≤0→c2≤0→c3≤0∧(c3=0→c1=0∧c2=0)) (hc0:c1=0→c2=0→c3=0) (hd:c1=0→c2=0→d1≤0→d2≤0→d3≤0∧(d3=0→d1=0∧d2=0)) (h1:andC c1 d1≤0) (h2:andC c2 d2≤0) :
  andC c3 d3≤0∧(andC c3 d3=0→andC c1 d1=0∧andC c2 d2=0):=by
 unfold andC at *
 by_cases e1:c1=0
 ·by_cases e2:c2=0
  ·have e3:=hc0 e1 e2
   rw [if_pos e1] at h1 ⊢
   rw [if_pos e2] at h2 ⊢
   rw [if_pos e3]
   exact hd e1 e2 h1 h2
  ·rw [if_pos e1] at h1 ⊢
   rw [if_neg e2] at h2 ⊢
   have:=hc (by omega) h2
   have e3:c3≠0:=fun h=>e2 (this.2 h).2
   rw [if_neg e3]
   exact ⟨this.1,fun h=>absurd h e3⟩
 ·rw [if_neg e1] at h1 ⊢
  have h2':c2≤0:=by
   by_cases e2:c2=0
   ·omega
   ·rw [if_neg e2] at h2;exact h2
  have:=hc h1 h2'
  have e3:c3≠0:=fun h=>e1 (this.2 h).1
  rw [if_neg e3]
  exact ⟨this.1,fun h=>absurd h e3⟩
theorem ordI (a:Int):OrdAt cmpI a:=⟨fun b=>by unfold cmpI;split <;> (try split) <;> omega,fun b=>by unfold cmpI;repeat' split <;> omega,fun b h=>by unfold cmpI at h;split at h <;> (try split at h) <;> omega,by unfold cmpI;split <;> (try split) <;> omega,fun b d h1 h2=>by
 have ha:a≤b:=by unfold cmpI at h1;split at h1 <;> (try split at h1) <;> omega
 have hb:b≤d:=by unfold cmpI at h2;split at h2 <;> (try split at h2) <;> omega
 refine ⟨by unfold cmpI;split <;> (try split) <;> omega,fun h=>?_⟩
 have:a=d:=by unfold cmpI at h;split at h <;> (try split at h) <;> omega
 obtain rfl:a=b:=by omega
 obtain rfl:a=d:=by omega
 unfold cmpI
 simp⟩
theorem ordV (a:Bool):OrdAt cmpV a:=⟨fun b=>by cases a <;> cases b <;> decide,fun b=>by cases a <;> cases b <;> decide,fun b=>by cases a <;> cases b <;> decide,by cases a <;> decide,fun b d=>by cases a <;> cases b <;> cases d <;> decide⟩
theorem lt_asymmL {a b:List UInt8} (h:a<b):¬ b<a:=List.lt_asymm h
theorem cmpB_zero {a b:ByteArray}:cmpB a b=0↔a=b:=by
 constructor
 ·intro h
  unfold cmpB at h
  split at h
  ·cases h
  ·split at h
   ·cases h
   ·rename_i h1 h2
    have:a.data.toList=b.data.toList:=List.le_antisymm (List.not_lt.1 h2) (List.not_lt.1 h1)
    obtain ⟨⟨x⟩⟩:=a
    obtain ⟨⟨y⟩⟩:=b
    simp only at this
    rw [this]
 ·rintro rfl
  unfold cmpB
  rw [if_neg (List.lt_irrefl _),if_neg (List.lt_irrefl _)]
theorem cmpB_le {a b:ByteArray}:cmpB a b≤0↔a.data.toList≤b.data.toList:=by
 unfold cmpB
 constructor
 ·intro h
  split at h
  ·exact List.le_of_lt (by assumption)
  ·split at h
   ·omega
   ·exact List.not_lt.1 (by assumption)
 ·intro h
  split
  ·omega
  ·rw [if_neg (List.not_lt.2 h)]
   omega
theorem ordB (a:ByteArray):OrdAt cmpB a:=⟨fun b=>by unfold cmpB;split <;> (try split) <;> omega,fun b=>by
  unfold cmpB
  by_cases h1:a.data.toList<b.data.toList
  ·rw [if_neg (lt_asymmL h1),if_pos h1,if_pos h1]
   rfl
  ·rw [if_neg h1,if_neg h1]
   split <;> rfl,fun b h=>cmpB_zero.1 h,cmpB_zero.2 rfl,fun b d h1 h2=>by
 refine ⟨cmpB_le.2 (List.le_trans (cmpB_le.1 h1) (cmpB_le.1 h2)),fun h=>?_⟩
 obtain rfl:=cmpB_zero.1 h
 have:a=b:=by
  have h3:a.data.toList=b.data.toList:=List.le_antisymm (cmpB_le.1 h1) (cmpB_le.1 h2)
  obtain ⟨⟨x⟩⟩:=a
  obtain ⟨⟨y⟩⟩:=b
  simp only at h3
  rw [h3]
 subst this
 exact ⟨cmpB_zero.2 rfl,cmpB_zero.2 rfl⟩⟩
theorem ordP {α β:Type} {c:α→α→Int} {d:β→β→Int} {a:α} {b:β} (h1:OrdAt c a) (hr:∀ a,c a a=0) (h2:OrdAt d b):OrdAt (fun p q:α×β=>andC (c p.1 q.1) (d p.2 q.2)) (a,b) :=
 ⟨fun q=>and_rng (h1.rng _) (h2.rng _),fun q=>by
  show andC (c q.1 a) (d q.2 b)=- andC (c a q.1) (d b q.2)
  rw [h1.anti,h2.anti,and_neg],fun q h=>by
  obtain ⟨e1,e2⟩:=and_zero.1 h
  exact Prod.ext (h1.eq _ e1) (h2.eq _ e2),and_zero.2 ⟨h1.refl,h2.refl⟩,fun q r e1 e2=>and_tr (h1.tr _ _) (fun z1 z2=>by
   have:=h1.eq _ z1
   rw [this]
   exact z2) (fun z1 z2=>h2.tr _ _) e1 e2⟩
theorem ordF {α β:Type} {c:α→α→Int} {d:β→β→Int} (f:α→β) (hi:∀ x y,f x=f y→x=y) (he:∀ x y,c x y=d (f x) (f y)) {a:α} (h:OrdAt d (f a)):OrdAt c a :=
 ⟨fun b=>by rw [he];exact h.rng _,fun b=>by rw [he,he];exact h.anti _,fun b e=>hi _ _ (h.eq _ (by rw [← he];exact e)),by rw [he];exact h.refl,fun b e e1 e2=>by
  rw [he] at e1 e2
  rw [he,he,he]
  exact h.tr _ _ e1 e2⟩
def zipC {α:Type} (c:α→α→Int):List α→List α→Int
 | x::l,y::m=>andC (c x y) (zipC c l m)
 | _,_=>0
def cmpL {α:Type} (c:α→α→Int) (l m:List α):Int:=andC (cmpI l.length m.length) (zipC c l m)
theorem zcn {a b:Int}:cmpI a b=0↔a=b:=⟨fun h=>(ordI a).eq b h,fun h=>h▸(ordI a).refl⟩
theorem cmpI_nat {a b:Nat}:cmpI a b=0↔a=b:=by rw [zcn];omega
theorem zip_rng {α:Type} {c:α→α→Int}:∀ l:List α,(∀ x∈l,OrdAt c x)→∀ m,zipC c l m=-1∨zipC c l m=0∨zipC c l m=1
 | [],_,m=>.inr (.inl (by unfold zipC;rfl))
 | x::l,h,[]=>.inr (.inl (by unfold zipC;rfl))
 | x::l,h,y::m=>and_rng ((h x (ya9 ..)).rng _) (zip_rng l (fun z hz=>h z (ya2 _ hz)) m)
theorem zip_anti {α:Type} {c:α→α→Int}:∀ l:List α,(∀ x∈l,OrdAt c x)→∀ m,zipC c m l=- zipC c l m
 | [],_,[]=>by unfold zipC;rfl
 | [],_,y::m=>by unfold zipC;rfl
 | x::l,h,[]=>by unfold zipC;rfl
 | x::l,h,y::m=>by
   unfold zipC
   rw [(h x (ya9 ..)).anti,zip_anti l (fun z hz=>h z (ya2 _ hz)) m,and_neg]
theorem zip_eq {α:Type} {c:α→α→Int}:∀ l:List α,(∀ x∈l,OrdAt c x)→∀ m,l.length=m.length→zipC c l m=0→l=m
 | [],_,[],_,_=>rfl
 | [],_,y::m,h,_=>by simp at h
 | x::l,_,[],h,_=>by simp at h
 | x::l,h,y::m,hl,hz=>by
   obtain ⟨e1,e2⟩:=and_zero.1 hz
   rw [(h x (ya9 ..)).eq _ e1,zip_eq l (fun z hz=>h z (ya2 _ hz)) m (by simpa using hl) e2]
theorem zip_refl {α:Type} {c:α→α→Int}:∀ l:List α,(∀ x∈l,OrdAt c x)→zipC c l l=0
 | [],_=>by unfold zipC;rfl
 | x::l,h=>and_zero.2 ⟨(h x (ya9 ..)).refl,zip_refl l (fun z hz=>h z (ya2 _ hz))⟩
theorem zip_tr {α:Type} {c:α→α→Int}:∀ l:List α,(∀ x∈l,OrdAt c x)→∀ m n,l.length=m.length→m.length=n.length→zipC c l m≤0→zipC c m n≤0→zipC c l n≤0∧(zipC c l n=0→zipC c l m=0∧zipC c m n=0)
 | [],_,[],[],_,_,_,_=>by unfold zipC;exact ⟨Int.le_refl _,fun _=>⟨rfl,rfl⟩⟩
 | [],_,y::m,_,h,_,_,_=>by simp at h
 | [],_,[],z::n,_,h,_,_=>by simp at h
 | x::l,_,[],_,h,_,_,_=>by simp at h
 | x::l,_,y::m,[],_,h,_,_=>by simp at h
 | x::l,h,y::m,z::n,h1,h2,e1,e2=>by
   have hx:=h x (ya9 ..)
   exact and_tr (hx.tr y z) (fun z1 z2=>by
    have:=hx.eq _ z1
    rw [this]
    exact z2) (fun _ _=>zip_tr l (fun z hz=>h z (ya2 _ hz)) m n (by simpa using h1) (by simpa using h2)) e1 e2
theorem ordL {α:Type} {c:α→α→Int} (l:List α) (h:∀ x∈l,OrdAt c x):OrdAt (cmpL c) l:=by
 refine ⟨fun m=>and_rng ((ordI _).rng _) (zip_rng l h m),fun m=>?_,fun m e=>?_,and_zero.2 ⟨(ordI _).refl,zip_refl l h⟩,fun m n e1 e2=>?_⟩
 ·unfold cmpL
  rw [(ordI _).anti,zip_anti l h,and_neg]
 ·obtain ⟨e1,e2⟩:=and_zero.1 e
  exact zip_eq l h m (cmpI_nat.1 e1) e2
 ·refine and_tr ((ordI _).tr _ _) (fun z1 z2=>?_) (fun z1 z2=>?_) e1 e2
  ·rw [cmpI_nat] at z1 z2 ⊢
   omega
  ·rw [cmpI_nat] at z1 z2
   exact zip_tr l h m n z1 z2
theorem zft:∀ l m:List Tm,cTs l m=zipC cT l m
 | [],m=>by rw [cTs_nil];unfold zipC;rfl
 | x::l,[]=>by rw [cTs.eq_def];unfold zipC;rfl
 | x::l,y::m=>by
   rw [cTs_cons,zft l m]
   rfl
theorem cFs_zip:∀ l m:List Fo,cFs l m=zipC cF l m
 | [],m=>by rw [cFs_nil];unfold zipC;rfl
 | x::l,[]=>by rw [cFs.eq_def];unfold zipC;rfl
 | x::l,y::m=>by
   rw [cFs_cons,cFs_zip l m]
   rfl
def tmP:Tm→Bool×ByteArray×List Tm
 | .mk v s l=>(v,s,l)
def foP:Fo→Int×ByteArray×List Tm×List Fo
 | .mk op s l a=>(op,s,l,a)
theorem ordT_of (v:Bool) (s:ByteArray) (l:List Tm) (h:OrdAt (cmpL cT) l):OrdAt cT (.mk v s l):=by
 refine ordF (d:=fun p q:Bool×ByteArray×List Tm=>andC (cmpV p.1 q.1) ((fun p q:ByteArray×List Tm=>andC (cmpB p.1 q.1) (cmpL cT p.2 q.2)) p.2 q.2)) tmP (fun x y e=>?_) (fun x y=>?_) (ordP (ordV v) (fun a=>(ordV a).refl) (ordP (ordB s) (fun a=>(ordB a).refl) h))
 ·obtain ⟨a,b,c⟩:=x
  obtain ⟨d,e,f⟩:=y
  simp only [tmP,yb1] at e
  rw [e.1,e.2.1,e.2.2]
 ·obtain ⟨a,b,c⟩:=x
  obtain ⟨d,e,f⟩:=y
  rw [cT_mk,zft]
  rfl
mutual
theorem ordT:∀ a:Tm,OrdAt cT a
 | .mk v s l=>ordT_of v s l (ordL l (ordTs l))
theorem ordTs:∀ l:List Tm,∀ x∈l,OrdAt cT x
 | [],x,h=>by cases h
 | y::l,x,h=>by
   have h1:=ordT y
   have h2:=ordTs l
   rcases yax.1 h with e|h
   ·exact e▸h1
   ·exact h2 x h
end
theorem ordF_of (op:Nat) (s:ByteArray) (l:List Tm) (a:List Fo) (h:OrdAt (cmpL cF) a):OrdAt cF (.mk op s l a):=by
 refine ordF (d:=fun p q:Int×ByteArray×List Tm×List Fo=>andC (cmpI p.1 q.1) ((fun p q:ByteArray×List Tm×List Fo=>andC (cmpB p.1 q.1) ((fun p q:List Tm×List Fo=>andC (cmpL cT p.1 q.1) (cmpL cF p.2 q.2)) p.2 q.2)) p.2 q.2)) foP (fun x y e=>?_) (fun x y=>?_) (ordP (ordI op) (fun a=>(ordI a).refl) (ordP (ordB s) (fun a=>(ordB a).refl) (ordP (ordL l (ordTs l)) (fun a=>(ordL a (ordTs a)).refl) h)))
 ·obtain ⟨a,b,c,d⟩:=x
  obtain ⟨e,f,g,h⟩:=y
  simp only [foP,yb1,Int.ofNat_inj] at e
  rw [e.1,e.2.1,e.2.2.1,e.2.2.2]
 ·obtain ⟨a,b,c,d⟩:=x
  obtain ⟨e,f,g,h⟩:=y
  rw [cF_mk,zft,cFs_zip]
  rfl
mutual
theorem ordFo:∀ a:Fo,OrdAt cF a
 | .mk op s l a=>ordF_of op s l a (ordL a (ordFos a))
theorem ordFos:∀ l:List Fo,∀ x∈l,OrdAt cF x
 | [],x,h=>by cases h
 | y::l,x,h=>by
   have h1:=ordFo y
   have h2:=ordFos l
   rcases yax.1 h with e|h
   ·exact e▸h1
   ·exact h2 x h
end
section
theorem cmpb_eq:∀ a b:List UInt8,Lib.compareBytes a b=if a<b then -1 else if b<a then 1 else 0
 | [],[]=>by simp [Lib.compareBytes]
 | [],_::_=>by simp [Lib.compareBytes]
 | _::_,[]=>by simp [Lib.compareBytes]
 | a::xs1,b::ys1=>by
   unfold Lib.compareBytes
   rw [cmpb_eq xs1 ys1]
   simp only [List.cons_lt_cons_iff]
   by_cases h1:a<b
   ·rw [if_pos h1,if_pos (.inl h1)]
   ·rw [if_neg h1]
    by_cases h2:b<a
    ·rw [if_pos h2,if_neg (fun h=>h.elim h1 fun h=>absurd (h.1▸h2) (by simp [UInt8.lt_irrefl])),if_pos (.inl h2)]
    ·rw [if_neg h2]
     have hab:a=b:=by
      apply UInt8.toNat_inj.1
      have h1:¬ a.toNat<b.toNat:=h1
      have h2:¬ b.toNat<a.toNat:=h2
      omega
     subst hab
     simp only [h1,false_or,true_and]
theorem strCmp_c (a b:ByteArray) (H:Heap):VDet Tryd.prog 31 [.str a,.str b] H (.int .i64 (cmpB a b)):=by
 refine ⟨⟨_,Tryd.func31,by kernel_rfl,rfl⟩,fun g w xs hH hL=>?_⟩
 simp only [LRel,VRel] at hL
 obtain ⟨c,r,has,rfl,d,r2,rfl,rfl,rfl⟩:=hL
 have has:xs=#[.string a,.string b]:=by simpa using congrArg List.toArray has
 subst has
 have hc:=Any.strings_Compare Tryd.cmp31 a b w
 change Calls Tryd.prog 31 _ _ _ at hc
 refine hc.mono ?_
 rintro e w' ⟨rfl,rfl⟩
 refine ⟨_,_,g,_,rfl,⟨rfl,rfl⟩,hH,?_,ycf _ _⟩
 simp only [VRel]
 rw [cmpb_eq]
 rfl
attribute [local irreducible] VW VCall VO bits
theorem nan8_c (a:Nat) (H:Heap):VDet Tryd.prog 60 [.int .u8 a] H (.bool false):=by
 refine zai Tryd.E0 zab Tryd.func60 (by kernel_rfl) rfl (ybq rfl) rfl fun hcl hbl=>?_
 conv=>whnf
 exact yaz trivial (zay (by simp))
theorem nan_c (a:Int) (H:Heap):VDet Tryd.prog 84 [.int .i64 a] H (.bool false):=by
 refine zai Tryd.E0 zab Tryd.func84 (by kernel_rfl) rfl (ybq rfl) rfl fun hcl hbl=>?_
 conv=>whnf
 exact yaz trivial (zay (by simp))
theorem cmp8_c (a b:Nat) (H:Heap):VDet Tryd.prog 30 [.int .u8 a,.int .u8 b] H (.int .i64 (cmpI a b)):=by
 refine zai Tryd.E0 zab Tryd.func30 (by kernel_rfl) rfl (ybq rfl) rfl fun hcl hbl=>?_
 (repeat' ((conv=>whnf);(first|(refine yai ?_;first|refine yat rfl ?_|refine zce (fun _=>?_) (fun _=>?_)|fail)|refine yab _ (nan8_c _ _) ?_|fail)));all_goals (conv=>whnf)
 all_goals
  refine yaz trivial (zay (congrArg (AV.int .i64) ?_))
  unfold cmpI
  repeat' split
  all_goals omega
theorem cmpi_c (a b:Int) (H:Heap):VDet Tryd.prog 62 [.int .i64 a,.int .i64 b] H (.int .i64 (cmpI a b)):=by
 refine zai Tryd.E0 zab Tryd.func62 (by kernel_rfl) rfl (ybq rfl) rfl fun hcl hbl=>?_
 (repeat' ((conv=>whnf);(first|(refine yai ?_;first|refine yat rfl ?_|refine zce (fun _=>?_) (fun _=>?_)|fail)|refine yab _ (nan_c _ _) ?_|fail)));all_goals (conv=>whnf)
 all_goals
  refine yaz trivial (zay (congrArg (AV.int .i64) ?_))
  unfold cmpI
  repeat' split
  all_goals omega
end
section
def inR (a b:Nat) (c:UInt8):Bool:=decide (a≤c.toNat)&&decide (c.toNat≤b)
def isCap:UInt8→Bool:=inR 65 90
def isSml:UInt8→Bool:=inR 97 122
def isDig:UInt8→Bool:=inR 48 57
def isAln (c:UInt8):Bool:=isSml c || (isCap c || isDig c)
def isVa1:UInt8→Bool:=inR 117 122
def isFu1:UInt8→Bool:=inR 97 116
def wordE (s:ByteArray) (l:Array UInt8):Bool:=s.toList==(ByteArray.mk l).toList
def isRes (s:ByteArray):Bool:=wordE s #[97,108,108] || (wordE s #[115,111,109,101] || (wordE s #[102,97,108,115,101] || (wordE s #[110,101,120,116] || (wordE s #[97,108,119,97,121,115] || wordE s #[117,110,116,105,108]))))
def bt (s:ByteArray) (i:Nat):UInt8:=s.data.toList.getD i 0
def nameB (p q:UInt8→Bool) (s:ByteArray):Bool:=decide (1≤s.size∧s.size≤16)&&(!isRes s&&(p (bt s 0)&&(List.range' 1 (s.size-1)).all fun i=>q (bt s i)))
def zem:ByteArray→Bool:=nameB isCap isAln
def isVar:ByteArray→Bool:=nameB isVa1 isDig
def isFun:ByteArray→Bool:=nameB isFu1 isAln
theorem bt_get (s:ByteArray) (i:Nat) (h:i<s.size) (j:Int) (hj:j=i):s[j.toNat]? = some (bt s i):=by
 subst hj
 rw [Int.toNat_natCast]
 have h2:i<s.data.toList.length:=by simpa using h
 have:s[i]? = s.data[i]? := by
  rw [getElem?_pos s i h]
  rw [ybp (show i<s.data.size from h)]
  rfl
 rw [this]
 unfold bt
 rw [ybi,yal h2]
 simp
attribute [local irreducible] VW VCall VO
def CharC (F:Nat) (p:UInt8→Bool):Prop:=∀ (c:UInt8) (H:Heap),VDet Tryd.prog F [.int .u8 c.toNat] H (.bool (p c))
theorem capital_g:CharC 80 isCap:=by
 intro c H
 refine zai Tryd.E0 zab Tryd.func80 (by kernel_rfl) rfl (ybq rfl) rfl fun hcl hbl=>?_
 (repeat' ((conv=>whnf);(first|refine zce (fun _=>?_) (fun _=>?_)|fail)));all_goals (conv=>whnf)
 all_goals (refine yaz trivial (zay (congrArg AV.bool (yb0.2 ?_)));simp only [isCap,inR,yak,decide_eq_true_eq,ya6,false_iff];omega)
theorem small_g:CharC 79 isSml:=by
 intro c H
 refine zai Tryd.E0 zab Tryd.func79 (by kernel_rfl) rfl (ybq rfl) rfl fun hcl hbl=>?_
 (repeat' ((conv=>whnf);(first|refine zce (fun _=>?_) (fun _=>?_)|fail)));all_goals (conv=>whnf)
 all_goals (refine yaz trivial (zay (congrArg AV.bool (yb0.2 ?_)));simp only [isSml,inR,yak,decide_eq_true_eq,ya6,false_iff];omega)
theorem digit_g:CharC 54 isDig:=by
 intro c H
 refine zai Tryd.E0 zab Tryd.func54 (by kernel_rfl) rfl (ybq rfl) rfl fun hcl hbl=>?_
 (repeat' ((conv=>whnf);(first|refine zce (fun _=>?_) (fun _=>?_)|fail)));all_goals (conv=>whnf)
 all_goals (refine yaz trivial (zay (congrArg AV.bool (yb0.2 ?_)));simp only [isDig,inR,yak,decide_eq_true_eq,ya6,false_iff];omega)
theorem va1_g:CharC 53 isVa1:=by
 intro c H
 refine zai Tryd.E0 zab Tryd.func53 (by kernel_rfl) rfl (ybq rfl) rfl fun hcl hbl=>?_
 (repeat' ((conv=>whnf);(first|refine zce (fun _=>?_) (fun _=>?_)|fail)));all_goals (conv=>whnf)
 all_goals (refine yaz trivial (zay (congrArg AV.bool (yb0.2 ?_)));simp only [isVa1,inR,yak,decide_eq_true_eq,ya6,false_iff];omega)
theorem fu1_g:CharC 55 isFu1:=by
 intro c H
 refine zai Tryd.E0 zab Tryd.func55 (by kernel_rfl) rfl (ybq rfl) rfl fun hcl hbl=>?_
 (repeat' ((conv=>whnf);(first|refine zce (fun _=>?_) (fun _=>?_)|fail)));all_goals (conv=>whnf)
 all_goals (refine yaz trivial (zay (congrArg AV.bool (yb0.2 ?_)));simp only [isFu1,inR,yak,decide_eq_true_eq,ya6,false_iff];omega)
theorem alnum_g:CharC 56 isAln:=by
 intro c H
 have h1:=small_g c
 have h2:=capital_g c
 have h3:=digit_g c
 unfold isAln
 generalize isSml c=a at *
 generalize isCap c=b at *
 generalize isDig c=d at *
 refine zai Tryd.E0 zab Tryd.func56 (by kernel_rfl) rfl (ybq rfl) rfl fun hcl hbl=>?_
 (repeat' ((conv=>whnf);(first|(refine IfN.mk ?_ ?_ <;> intro _)|(refine ybf ?_;first|refine yab _ (h1 _) ?_|refine yab _ (h2 _) ?_|refine yab _ (h3 _) ?_|fail)|fail)));all_goals (conv=>whnf)
 all_goals exact yaz trivial (zay (by simp_all))
theorem reserved_g (s:ByteArray) (H:Heap):VDet Tryd.prog 78 [.str s] H (.bool (isRes s)):=by
 unfold isRes
 have e1:(s.toList==(ByteArray.mk #[97,108,108]).toList)=wordE s #[97,108,108]:=rfl
 have e2:(s.toList==(ByteArray.mk #[115,111,109,101]).toList)=wordE s #[115,111,109,101]:=rfl
 have e3:(s.toList==(ByteArray.mk #[102,97,108,115,101]).toList)=wordE s #[102,97,108,115,101]:=rfl
 have e4:(s.toList==(ByteArray.mk #[110,101,120,116]).toList)=wordE s #[110,101,120,116]:=rfl
 have e5:(s.toList==(ByteArray.mk #[97,108,119,97,121,115]).toList)=wordE s #[97,108,119,97,121,115]:=rfl
 have e6:(s.toList==(ByteArray.mk #[117,110,116,105,108]).toList)=wordE s #[117,110,116,105,108]:=rfl
 generalize wordE s #[97,108,108]=b1 at *
 generalize wordE s #[115,111,109,101]=b2 at *
 generalize wordE s #[102,97,108,115,101]=b3 at *
 generalize wordE s #[110,101,120,116]=b4 at *
 generalize wordE s #[97,108,119,97,121,115]=b5 at *
 generalize wordE s #[117,110,116,105,108]=b6 at *
 cases b1
 ·cases b2
  ·cases b3
   ·cases b4
    ·cases b5
     ·cases b6
      ·refine zai Tryd.E0 zab Tryd.func78 (by kernel_rfl) rfl (ybq rfl) rfl fun hcl hbl=>?_
       (repeat' ((conv=>whnf);(first|(refine yai ?_;first|refine yat e1 ?_|refine yat e2 ?_|refine yat e3 ?_|refine yat e4 ?_|refine yat e5 ?_|refine yat e6 ?_|fail)|fail)));conv=>whnf
       exact eT trivial
      ·refine zai Tryd.E0 zab Tryd.func78 (by kernel_rfl) rfl (ybq rfl) rfl fun hcl hbl=>?_
       (repeat' ((conv=>whnf);(first|(refine yai ?_;first|refine yat e1 ?_|refine yat e2 ?_|refine yat e3 ?_|refine yat e4 ?_|refine yat e5 ?_|refine yaq e6 ?_|fail)|fail)));conv=>whnf
       exact eT trivial
     ·refine zai Tryd.E0 zab Tryd.func78 (by kernel_rfl) rfl (ybq rfl) rfl fun hcl hbl=>?_
      (repeat' ((conv=>whnf);(first|(refine yai ?_;first|refine yat e1 ?_|refine yat e2 ?_|refine yat e3 ?_|refine yat e4 ?_|refine yaq e5 ?_|fail)|fail)));conv=>whnf
      exact eT trivial
    ·refine zai Tryd.E0 zab Tryd.func78 (by kernel_rfl) rfl (ybq rfl) rfl fun hcl hbl=>?_
     (repeat' ((conv=>whnf);(first|(refine yai ?_;first|refine yat e1 ?_|refine yat e2 ?_|refine yat e3 ?_|refine yaq e4 ?_|fail)|fail)));conv=>whnf
     exact eT trivial
   ·refine zai Tryd.E0 zab Tryd.func78 (by kernel_rfl) rfl (ybq rfl) rfl fun hcl hbl=>?_
    (repeat' ((conv=>whnf);(first|(refine yai ?_;first|refine yat e1 ?_|refine yat e2 ?_|refine yaq e3 ?_|fail)|fail)));conv=>whnf
    exact eT trivial
  ·refine zai Tryd.E0 zab Tryd.func78 (by kernel_rfl) rfl (ybq rfl) rfl fun hcl hbl=>?_
   (repeat' ((conv=>whnf);(first|(refine yai ?_;first|refine yat e1 ?_|refine yaq e2 ?_|fail)|fail)));conv=>whnf
   exact eT trivial
 ·refine zai Tryd.E0 zab Tryd.func78 (by kernel_rfl) rfl (ybq rfl) rfl fun hcl hbl=>?_
  (repeat' ((conv=>whnf);(first|refine yaq e1 ?_|fail)));conv=>whnf
  exact eT trivial
theorem check_g (F1 F2:Nat) (p q:UInt8→Bool) (h1:CharC F1 p) (h2:CharC F2 q) (s:ByteArray) (hs:s.size≤9223372036854775807) (H:Heap):VDet Tryd.prog 77 [.str s,.rptr [.clo (.func F1) [] []],.rptr [.clo (.func F2) [] []]] H (.bool (nameB p q s)):=by
 have hr:=reserved_g s
 unfold nameB
 by_cases h0:1≤s.size∧s.size≤16
 ·rw [decide_eq_true h0,Bool.true_and]
  have hb0:=bt_get s 0 (by omega) 0 rfl
  have hp:=h1 (bt s 0)
  generalize isRes s=r at *
  cases r with
  | true =>
    refine zai Tryd.E0 zab Tryd.func77 (by kernel_rfl) rfl (ybq rfl) rfl fun hcl hbl=>?_
    (repeat' ((conv=>whnf);(first|(refine yai ?_;first|refine yaq rfl ?_|refine zan (by omega) ?_|fail)|refine yaf (by kernel_rfl) ?_|refine yan _ (fun _ hq X=>hr _) ?_|refine zaq [] ?_|fail)));conv=>whnf
    exact eT trivial
  | false =>
    cases hpb:p (bt s 0) with
    | false =>
      rw [hpb] at hp
      refine zai Tryd.E0 zab Tryd.func77 (by kernel_rfl) rfl (ybq rfl) rfl fun hcl hbl=>?_
      (repeat' ((conv=>whnf);(first|(refine yai ?_;first|refine yar ?_|refine yat rfl ?_|refine zan (by omega) ?_|fail)|(refine yaf ?_ ?_;· first|kernel_rfl|omega|fail)|(refine CallD.id ?_;first|refine yan _ (fun _ hq X=>hr _) ?_|refine yan _ (fun _ hq X=>hp _) ?_|fail)|refine ByteN.mk _ hb0 ?_|refine zaq [] ?_|fail)));conv=>whnf
      exact eT trivial
    | true =>
      rw [hpb] at hp
      refine zai Tryd.E0 zab Tryd.func77 (by kernel_rfl) rfl (ybq rfl) rfl fun hcl hbl=>?_
      (repeat' ((conv=>whnf);(first|(refine yai ?_;first|refine yar ?_|refine yaq rfl ?_|refine yat rfl ?_|refine zan (by omega) ?_|fail)|(refine yaf ?_ ?_;· first|kernel_rfl|omega|fail)|(refine CallD.id ?_;first|refine yan _ (fun _ hq X=>hr _) ?_|refine yan _ (fun _ hq X=>hp _) ?_|fail)|refine ByteN.mk _ hb0 ?_|refine zaq [] ?_|fail)));conv=>whnf
      refine zcf Tryd.E0 zab (σ:=Nat) (fun k=>1≤k∧k≤s.size∧∀ i,1≤i→i<k→q (bt s i)=true) (fun k=>s.size-k) (fun k=>[(5,.v (.int .i64 k))]) (fun _=>[]) _ 1 rfl hcl [0,2] rfl ⟨yaw _,by omega,fun i h1 h2=>by omega⟩ ⟨⟨_,rfl,yae _⟩,trivial⟩ rfl (fun _ _=>rfl) ?_
      rintro k ⟨hk1,hk,hall⟩
      clear hbl
      by_cases hlt:k<s.size
      ·have hbk:=bt_get s k hlt k rfl
       have hcq:=h2 (bt s k)
       cases hqb:q (bt s k) with
       | true =>
         rw [hqb] at hcq
         (repeat' ((conv=>whnf);(first|(refine yai ?_;first|refine yar ?_|refine yaq rfl ?_|refine zal (by omega) ?_|fail)|(refine zaz _ _ Cst.h Cst.h ?_ ?_;· omega)|(refine yaf ?_ ?_;· first|kernel_rfl|omega|fail)|refine yan _ (fun _ hq X=>hcq _) ?_|refine ByteN.mk _ hbk ?_|refine zaq [] ?_|fail)));conv=>whnf
         (refine ⟨⟨k+1,⟨by omega,by omega,fun i h3 h4=>by
          by_cases e:i=k
          ·rw [e];exact hqb
          ·exact hall i h3 (by omega)⟩,by omega,?_,.inl ⟨rfl,rfl⟩,rfl,_,rfl,?_⟩⟩;rotate_left 1;exact .inl rfl;exact ⟨⟨_,rfl,yae _⟩,trivial⟩)
       | false =>
         rw [hqb] at hcq
         (repeat' ((conv=>whnf);(first|(refine yai ?_;first|refine yar ?_|refine yat rfl ?_|refine zal (by omega) ?_|fail)|(refine yaf ?_ ?_;· first|kernel_rfl|omega|fail)|refine yan _ (fun _ hq X=>hcq _) ?_|refine ByteN.mk _ hbk ?_|refine zaq [] ?_|fail)));conv=>whnf
         refine yaz trivial (zay ?_)
         have:((List.range' 1 (s.size-1)).all fun i=>q (bt s i))=false:=by
          apply Bool.eq_false_iff.2
          intro hA
          have:=yao.1 hA k (List.mem_range'.2 ⟨k-1,by omega,by omega⟩)
          rw [hqb] at this
          cases this
         rw [this]
         rfl
      ·have:((List.range' 1 (s.size-1)).all fun i=>q (bt s i))=true:=by
        rw [yao]
        intro i hi
        obtain ⟨j,hj,rfl⟩:=List.mem_range'.1 hi
        exact hall _ (by omega) (by omega)
       rw [this]
       (repeat' ((conv=>whnf);(first|refine zan (by omega) ?_|fail)));conv=>whnf
       exact eT trivial
 ·rw [decide_eq_false h0,Bool.false_and]
  refine zai Tryd.E0 zab Tryd.func77 (by kernel_rfl) rfl (ybq rfl) rfl fun hcl hbl=>?_
  (repeat' ((conv=>whnf);(first|(refine yai ?_;first|refine zal (by omega) ?_|refine zce (fun _=>?_) (fun _=>?_)|fail)|refine yaf (by kernel_rfl) ?_|refine zaq [] ?_|fail)));all_goals (conv=>whnf)
  all_goals exact eT trivial
end
section
def jB (L:Int):Blk:=.box 72 [.bool false,.int .i64 L,.int .i64 40]
theorem ze6 (L:Int) (n:Nat):(jB L).below n:=by simp [jB,Blk.below,zae,below]
mutual
def jT (d:Nat):Tm→Int→Int×Bool
 | .mk v s l,L=>if ¬ (1≤L∧d≤40) then (L-1,false) else if v then (L-1,decide (l.length=0)&&isVar s) else if l.length≤4∧isFun s=true then jTs (d+1) l (L-1) else (L-1,false)
def jTs (d:Nat):List Tm→Int→Int×Bool
 | [],L=>(L,true)
 | x::l,L=>match jT d x L with
   | (M,true)=>jTs d l M
   | (M,false)=>(M,false)
end
mutual
theorem jT_bd (d:Nat):∀ (x:Tm) (L:Int),0≤L→-1≤(jT d x L).1∧(jT d x L).1≤L∧((jT d x L).2=true→0≤(jT d x L).1)
 | .mk v s l,L,h=>by
   unfold jT
   split
   ·exact ⟨by simp only;omega,by simp only;omega,fun h=>by cases h⟩
   ·split
    ·exact ⟨by simp only;omega,by simp only;omega,fun _=>by simp only;omega⟩
    ·split
     ·have:=jTs_bd (d+1) l (L-1) (by omega)
      exact ⟨this.1,by omega,this.2.2⟩
     ·exact ⟨by simp only;omega,by simp only;omega,fun h=>by cases h⟩
theorem jTs_bd (d:Nat):∀ (l:List Tm) (L:Int),0≤L→-1≤(jTs d l L).1∧(jTs d l L).1≤L∧((jTs d l L).2=true→0≤(jTs d l L).1)
 | [],L,h=>by unfold jTs;exact ⟨by simp only;omega,by simp only;omega,fun _=>h⟩
 | x::l,L,h=>by
   have h1:=jT_bd d x L h
   unfold jTs
   split
   ·rename_i M hM
    rw [hM] at h1
    have h2:=jTs_bd d l M (h1.2.2 rfl)
    exact ⟨h2.1,by have:=h1.2.1;simp only at this;omega,h2.2.2⟩
   ·rename_i M hM
    rw [hM] at h1
    exact ⟨h1.1,h1.2.1,fun h=>by cases h⟩
end
theorem zaf {α:Type} {f:α→List AV} {sz:Nat} {l:List α} {i:Int} {k:List AV→Prop} {c:List AV} (d:α) (m:Nat) (hi:i=m) (hm:m<l.length) (hsz:∀ x,(f x).length=sz) (e:f (l.getD m d)=c) (h:k c):SegN (l.flatMap f) (i.toNat * sz) k :=
 SegN.nth d m hi hm hsz (e▸h)
theorem zbl:∀ x:Tm,x.cells.length=3
 | .mk v s l=>by rw [zap];rfl
theorem set_self {H:Heap} {i:Nat} {B:Blk} (h:H[i]? = some B):H.set i B=H:=by
 apply ybk
 intro j
 rw [yav]
 split
 ·rename_i e
  subst e
  split
  ·exact h.symm
  ·rename_i hlt
   rw [yb9 (by omega)] at h
   cases h
 ·rfl
theorem ze9 {H:Heap} (h:zd4 H) (i:Nat) (B:Blk) (hB:B.below H.length):zd4 (H.set i B):=by
 intro j C hj
 rw [List.length_set]
 rw [yav] at hj
 split at hj
 ·split at hj
  ·cases hj;exact hB
  ·cases hj
 ·exact h j C hj
theorem zgh {α:Type} (l:List α) (k:Nat) (d:α) (h:k<l.length):l.drop k=l.getD k d::l.drop (k+1):=by
 rw [List.drop_eq_getElem_cons h]
 simp [ybi,yal h]
theorem zav {α:Type} (l:List α) (k:Nat) (d:α) (h:k<l.length):l.getD k d∈l:=by
 rw [show l.getD k d=l[k] by simp [ybi,yal h]]
 exact List.getElem_mem h
theorem jTs_nil (d:Nat) (L:Int):jTs d [] L=(L,true):=by unfold jTs;rfl
theorem zgc (d:Nat) (x:Tm) (l:List Tm) (L:Int):jTs d (x::l) L=if (jT d x L).2 then jTs d l (jT d x L).1 else ((jT d x L).1,false):=by
 rw [jTs.eq_def]
 simp only
 split
 ·rename_i M h;rw [h];rfl
 ·rename_i M h;rw [h];rfl
attribute [local irreducible] VW VCall VO bits
theorem node_g (H:Heap) (i:Nat) (L:Int) (d:Nat) (hi:H[i]? = some (jB L)) (hL:0≤L∧L≤400) (hd:d≤41):VCall Tryd.prog 70 [.ptr i 0,.int .i64 d] H (setR H i (jB (L-1)) (.bool (decide (1≤L∧d≤40)))):=by
 unfold jB at hi ⊢
 by_cases h:1≤L∧d≤40
 ·rw [decide_eq_true h]
  refine za4 Tryd.E0 zab Tryd.func70 (by kernel_rfl) rfl (ybq rfl) rfl fun hcl hbl=>?_
  (repeat' ((conv=>whnf);(first|refine zal (by omega) ?_|refine yb8 (by omega) ?_|refine yc6 _ rfl ?_|refine yb3 _ (by (repeat' (first|assumption|exact zax _ rfl|exact za9 rfl|refine za3 (B':=?_) ?_|refine zam ?_|fail))) ?_|fail)));conv=>whnf
  all_goals exact zaj (by simp [Blk.below,zae,below]) trivial (zay (by simp;try omega))
 ·rw [decide_eq_false h]
  refine za4 Tryd.E0 zab Tryd.func70 (by kernel_rfl) rfl (ybq rfl) rfl fun hcl hbl=>?_
  (repeat' ((conv=>whnf);(first|refine zce (fun _=>?_) (fun _=>?_)|refine yb8 (by omega) ?_|refine yc6 _ rfl ?_|refine yb3 _ (by (repeat' (first|assumption|exact zax _ rfl|exact za9 rfl|refine za3 (B':=?_) ?_|refine zam ?_|fail))) ?_|fail)));all_goals (conv=>whnf)
  all_goals exact zaj (by simp [Blk.below,zae,below]) trivial (zay (by simp;try omega))
def TermP (x:Tm):Prop:=∀ (H:Heap) (i:Nat) (L:Int) (d:Nat),H[i]? = some (jB L)→0≤L∧L≤400→d≤41→VCall Tryd.prog 85 [.ptr i 0,.agg x.cells,.int .i64 d] H (setR H i (jB (jT d x L).1) (.bool (jT d x L).2))
def TermsP (l:List Tm):Prop:=∀ (H:Heap) (i:Nat) (L:Int) (d:Nat),H[i]? = some (jB L)→0≤L∧L≤400→d≤41→VCall Tryd.prog 73 [.ptr i 0,.sl none l.length (l.flatMap Tm.cells),.int .i64 d] H (setR H i (jB (jTs d l L).1) (.bool (jTs d l L).2))
theorem terms_g (l:List Tm) (hlen:l.length≤9223372036854775807) (hl:∀ x∈l,TermP x):TermsP l:=by
 intro H i L d hi hL hd
 refine za4 Tryd.E0 zab Tryd.func73 (by kernel_rfl) rfl (ybq rfl) rfl fun hcl hbl=>?_
 conv=>whnf
 refine loop_B Tryd.E0 zab (σ:=Nat×Int) (fun p=>p.1≤l.length∧(0≤p.2∧p.2≤400)∧jTs d l L=jTs d (l.drop p.1) p.2) (fun p=>l.length-p.1) (fun p=>[(11,.v (.int .i64 p.1))]) (fun p=>H.set i (jB p.2)) (fun _=>[]) _ (0,L) (fun p _=>by simp) (fun p _=>ze9 hcl i _ (ze6 _ _)) [0,2,9,10] rfl ⟨yah _,hL,rfl⟩ ⟨⟨_,rfl,yae _⟩,trivial⟩ (set_self hi).symm rfl (fun _ _=>rfl) ?_
 rintro ⟨k,M⟩ ⟨hk,hM,hj⟩
 simp only at hk hM hj
 have hN:(H.set i (jB M)).length=H.length:=by simp
 by_cases hlt:k<l.length
 ·have hmem:=zav l k (Tm.mk false .empty []) hlt
  rw [zgh l k (Tm.mk false .empty []) hlt] at hj
  have hx:=fun X=>hl _ hmem (H.set i (jB M)++X) i M d (zam (za3 hi)) hM hd
  have hbd:=jT_bd d (l.getD k (Tm.mk false .empty [])) M hM.1
  rw [zgc] at hj
  obtain ⟨v,s,ar,hxe⟩:∃ v s ar,l.getD k (Tm.mk false .empty [])=Tm.mk v s ar:=by
   cases l.getD k (Tm.mk false .empty []) with
   | mk v s ar=>exact ⟨v,s,ar,rfl⟩
  have hce:(l.getD k (Tm.mk false .empty [])).cells=[.bool v,.str s,.sl none ar.length (ar.flatMap Tm.cells)]:=by rw [hxe,zap]
  rw [hce] at hx
  generalize hr:jT d (l.getD k (Tm.mk false .empty [])) M=r at *
  obtain ⟨M',b⟩:=r
  simp only at hx hbd hj
  generalize hB2:jB M'=B2 at *
  cases b with
  | true =>
    (repeat' ((conv=>whnf);(first|(refine yai ?_;first|refine yar ?_|refine yaq rfl ?_|refine zal (by omega) ?_|fail)|(refine zaz _ _ Cst.h Cst.h ?_ ?_;· omega)|(refine yaf ?_ ?_;· first|omega|exact yaa _ _|fail)|refine zaf (Tm.mk false .empty []) k rfl hlt zbl hce ?_|refine zah i _ _ _ _ (za3 hi) (by simp) rfl (hx _) (yb7 ..) ?_|fail)));conv=>whnf
    subst hB2
    (refine ⟨⟨(k+1,M'),⟨by simp only;omega,⟨hbd.2.2 rfl,by simp only;omega⟩,by simpa using hj⟩,by omega,?_,.inl ⟨rfl,rfl⟩,rfl,_,rfl,?_⟩⟩;rotate_left 1;exact .inr ⟨by simp [za2,below,zae,tr,and_self],by simp [zc3,Blk.below,zae,below,and_self]⟩;exact ⟨⟨_,rfl,yae _⟩,trivial⟩)
  | false =>
    (repeat' ((conv=>whnf);(first|(refine yai ?_;first|refine yar ?_|refine yat rfl ?_|refine zal (by omega) ?_|fail)|(refine yaf ?_ ?_;· first|omega|exact yaa _ _|fail)|refine zaf (Tm.mk false .empty []) k rfl hlt zbl hce ?_|refine zah i _ _ _ _ (za3 hi) (by simp) rfl (hx _) (yb7 ..) ?_|fail)));conv=>whnf
    subst hB2
    simp only [ya6,if_false] at hj
    rw [hj]
    exact zaj (ze6 _ _) trivial (yae _)
 ·have hke:k=l.length:=by omega
  subst hke
  rw [ybg,jTs_nil] at hj
  rw [hj]
  (repeat' ((conv=>whnf);(first|refine zan (by omega) ?_|fail)));conv=>whnf
  exact zaj (ze6 _ _) trivial (yae _)
end
section
attribute [local irreducible] VW VCall VO bits
theorem checkerV (H:Heap):VDet Tryd.prog 52 [.clo (.func 53) [] [],.clo (.func 54) [] []] H (.clo (.func 77) [] [.rptr [.clo (.func 53) [] []],.rptr [.clo (.func 54) [] []]]):=by
 refine zai Tryd.E0 zab Tryd.func52 (by kernel_rfl) rfl (ybq rfl) rfl fun hcl hbl=>?_
 conv=>whnf
 refine EndN.detF ?_ ?_ (yae _)
 ·simp [below,zae,zex]
 ·(repeat' (first|exact FrzL.nil|refine FrzL.cons ?_ ?_|refine Frz.clo ?_ ?_|refine Frz.ptr rfl rfl (FrzL.refl _)|fail))
theorem checkerF (H:Heap):VDet Tryd.prog 52 [.clo (.func 55) [] [],.clo (.func 56) [] []] H (.clo (.func 77) [] [.rptr [.clo (.func 55) [] []],.rptr [.clo (.func 56) [] []]]):=by
 refine zai Tryd.E0 zab Tryd.func52 (by kernel_rfl) rfl (ybq rfl) rfl fun hcl hbl=>?_
 conv=>whnf
 refine EndN.detF ?_ ?_ (yae _)
 ·simp [below,zae,zex]
 ·(repeat' (first|exact FrzL.nil|refine FrzL.cons ?_ ?_|refine Frz.clo ?_ ?_|refine Frz.ptr rfl rfl (FrzL.refl _)|fail))
theorem checkerP (H:Heap):VDet Tryd.prog 52 [.clo (.func 80) [] [],.clo (.func 56) [] []] H (.clo (.func 77) [] [.rptr [.clo (.func 80) [] []],.rptr [.clo (.func 56) [] []]]):=by
 refine zai Tryd.E0 zab Tryd.func52 (by kernel_rfl) rfl (ybq rfl) rfl fun hcl hbl=>?_
 conv=>whnf
 refine EndN.detF ?_ ?_ (yae _)
 ·simp [below,zae,zex]
 ·(repeat' (first|exact FrzL.nil|refine FrzL.cons ?_ ?_|refine Frz.clo ?_ ?_|refine Frz.ptr rfl rfl (FrzL.refl _)|fail))
theorem zc7 (s:ByteArray) (hs:s.size≤9223372036854775807) (H:Heap):VDet Tryd.prog 26 [.str s] H (.bool (isVar s)):=by
 have h:=check_g _ _ isVa1 isDig va1_g digit_g s hs
 unfold isVar
 generalize nameB isVa1 isDig s=b at *
 refine zai Tryd.E0 zab Tryd.func26 (by kernel_rfl) rfl (ybq rfl) rfl fun hcl hbl=>?_
 (repeat' ((conv=>whnf);(first|(refine ybf ?_;first|refine yab _ (checkerV _) ?_|refine yab _ (h _) ?_|fail)|fail)));conv=>whnf
 exact eT trivial
theorem zdb (s:ByteArray) (hs:s.size≤9223372036854775807) (H:Heap):VDet Tryd.prog 27 [.str s] H (.bool (isFun s)):=by
 have h:=check_g _ _ isFu1 isAln fu1_g alnum_g s hs
 unfold isFun
 generalize nameB isFu1 isAln s=b at *
 refine zai Tryd.E0 zab Tryd.func27 (by kernel_rfl) rfl (ybq rfl) rfl fun hcl hbl=>?_
 (repeat' ((conv=>whnf);(first|(refine ybf ?_;first|refine yab _ (checkerF _) ?_|refine yab _ (h _) ?_|fail)|fail)));conv=>whnf
 exact eT trivial
theorem zfr (s:ByteArray) (hs:s.size≤9223372036854775807) (H:Heap):VDet Tryd.prog 82 [.str s] H (.bool (zem s)):=by
 have h:=check_g _ _ isCap isAln capital_g alnum_g s hs
 unfold zem
 generalize nameB isCap isAln s=b at *
 refine zai Tryd.E0 zab Tryd.func82 (by kernel_rfl) rfl (ybq rfl) rfl fun hcl hbl=>?_
 (repeat' ((conv=>whnf);(first|(refine ybf ?_;first|refine yab _ (checkerP _) ?_|refine yab _ (h _) ?_|fail)|fail)));conv=>whnf
 exact eT trivial
theorem term_step (v:Bool) (s:ByteArray) (l:List Tm) (hs:s.size≤9223372036854775807) (hl:TermsP l):TermP (.mk v s l):=by
 intro H i L d hi hL hd
 have hn:=fun X=>node_g (H++X) i L d (zam hi) hL hd
 have hv:=zc7 s hs
 have hf:=zdb s hs
 rw [zap]
 unfold jT
 by_cases h:1≤L∧d≤40
 ·rw [if_neg (not_not_intro h)]
  rw [decide_eq_true h] at hn
  have ht:=fun X=>hl (H.set i (jB (L-1))++X) i (L-1) (d+1) (zam (za3 hi)) (by omega) (by omega)
  generalize isVar s=bv at *
  generalize isFun s=bf at *
  generalize hr:jTs (d+1) l (L-1)=r at *
  obtain ⟨M,b⟩:=r
  simp only at ht
  generalize l.flatMap Tm.cells=lc at *
  generalize l.length=n at *
  unfold jB at hi hn ht ⊢
  cases v with
  | true =>
    simp only [if_true]
    cases bv with
    | true =>
      refine za4 Tryd.E0 zab Tryd.func85 (by kernel_rfl) rfl (ybq rfl) rfl fun hcl hbl=>?_
      (repeat' ((conv=>whnf);(first|(refine yai ?_;first|refine yar ?_|refine yaq rfl ?_|refine zce (fun _=>?_) (fun _=>?_)|fail)|refine yab _ (hv _) ?_|refine zah i _ _ _ _ hi rfl rfl (hn _) rfl ?_|fail)));all_goals (conv=>whnf)
      all_goals exact zaj (by simp [Blk.below,zae,below]) trivial (zay (by simp;try omega))
    | false =>
      refine za4 Tryd.E0 zab Tryd.func85 (by kernel_rfl) rfl (ybq rfl) rfl fun hcl hbl=>?_
      (repeat' ((conv=>whnf);(first|(refine yai ?_;first|refine yar ?_|refine yaq rfl ?_|refine yat rfl ?_|refine zce (fun _=>?_) (fun _=>?_)|fail)|refine yab _ (hv _) ?_|refine zah i _ _ _ _ hi rfl rfl (hn _) rfl ?_|refine yb3 _ (by (repeat' (first|assumption|exact zax _ rfl|exact za9 rfl|refine za3 (B':=?_) ?_|refine zam ?_|fail))) ?_|fail)));all_goals (conv=>whnf)
      all_goals exact zaj (by simp [Blk.below,zae,below]) trivial (zay (by simp;try omega))
  | false =>
    simp only [ya6,if_false]
    by_cases h4:n≤4∧bf=true
    ·obtain ⟨h4,rfl⟩:=h4
     rw [if_pos ⟨h4,rfl⟩]
     refine za4 Tryd.E0 zab Tryd.func85 (by kernel_rfl) rfl (ybq rfl) rfl fun hcl hbl=>?_
     (repeat' ((conv=>whnf);(first|(refine yai ?_;first|refine yar ?_|refine yaq rfl ?_|refine yat rfl ?_|refine zal (by omega) ?_|fail)|(refine zaz _ _ Cst.h Cst.h ?_ ?_;· omega)|refine yab _ (hf _) ?_|refine zah i _ _ _ _ hi rfl rfl (hn _) rfl ?_|refine zah i _ _ _ _ (za3 hi) (by simp) rfl (ht _) (yb7 ..) ?_|fail)));conv=>whnf
     all_goals exact zaj (by simp [Blk.below,zae,below]) trivial (zay (by simp;try omega))
    ·rw [if_neg h4]
     cases bf with
     | true =>
       have h4:¬ n≤4:=fun e=>h4 ⟨e,rfl⟩
       refine za4 Tryd.E0 zab Tryd.func85 (by kernel_rfl) rfl (ybq rfl) rfl fun hcl hbl=>?_
       (repeat' ((conv=>whnf);(first|(refine yai ?_;first|refine yar ?_|refine yaq rfl ?_|refine yat rfl ?_|refine zan (by omega) ?_|fail)|refine zah i _ _ _ _ hi rfl rfl (hn _) rfl ?_|fail)));conv=>whnf
       all_goals exact zaj (by simp [Blk.below,zae,below]) trivial (zay (by simp;try omega))
     | false =>
       refine za4 Tryd.E0 zab Tryd.func85 (by kernel_rfl) rfl (ybq rfl) rfl fun hcl hbl=>?_
       (repeat' ((conv=>whnf);(first|(refine yai ?_;first|refine yar ?_|refine yaq rfl ?_|refine yat rfl ?_|refine zce (fun _=>?_) (fun _=>?_)|fail)|refine yab _ (hf _) ?_|refine zah i _ _ _ _ hi rfl rfl (hn _) rfl ?_|fail)));all_goals (conv=>whnf)
       all_goals exact zaj (by simp [Blk.below,zae,below]) trivial (zay (by simp;try omega))
 ·rw [if_pos h]
  rw [decide_eq_false h] at hn
  unfold jB at hi hn ⊢
  refine za4 Tryd.E0 zab Tryd.func85 (by kernel_rfl) rfl (ybq rfl) rfl fun hcl hbl=>?_
  (repeat' ((conv=>whnf);(first|(refine yai ?_;first|refine yar ?_|refine yat rfl ?_|fail)|refine zah i _ _ _ _ hi rfl rfl (hn _) rfl ?_|fail)));conv=>whnf
  exact zaj (by simp [Blk.below,zae,below]) trivial (yae _)
mutual
theorem term_g:∀ x:Tm,x.good→TermP x
 | .mk v s l,h=>term_step v s l (by have:=h.1;exact zak this) (terms_g l (zak h.2.1) (terms_all l h.2.2))
theorem terms_all:∀ l:List Tm,Tm.goodL l→∀ x∈l,TermP x
 | [],_,x,h=>by cases h
 | y::l,hg,x,h=>by
   have h1:=term_g y hg.1
   have h2:=terms_all l hg.2
   rcases yax.1 h with e|h
   ·exact e▸h1
   ·exact h2 x h
end
end
section
def encR (r:Bool×Bool×Nat×Nat×Nat):List AV:=[.bool r.1,.bool r.2.1,.int .u8 r.2.2.1,.int .i64 r.2.2.2.1,.int .i64 r.2.2.2.2]
def rowsL:List (Bool×Bool×Nat×Nat×Nat):=[(false,false,0,0,0),(true,true,1,4,0),(true,true,0,0,0),(true,true,0,0,1),(true,true,0,0,2),(true,true,0,0,2),(true,true,0,0,2),(true,true,0,0,2),(true,true,2,0,1),(true,true,2,0,1),(true,true,0,0,1),(true,true,0,0,1),(true,true,0,0,1),(true,true,0,0,1),(true,true,0,0,2),(false,true,3,0,0),(false,true,3,2,0)]
def row0:Bool×Bool×Nat×Nat×Nat:=(false,false,0,0,0)
def rowK (op:Nat):Bool:=(rowsL.getD op row0).1
def rowN (op:Nat):Nat:=(rowsL.getD op row0).2.2.1
def rowA (op:Nat):Nat:=(rowsL.getD op row0).2.2.2.1
def rowS (op:Nat):Nat:=(rowsL.getD op row0).2.2.2.2
theorem row_ok:∀ op,op<17→(rowsL.getD op row0).1=true→(rowN op=0∨rowN op=1∨rowN op=2)∧op≠16∧rowA op≤4∧rowS op≤2:=by decide
def emptyB (s:ByteArray):Bool:=s.toList==ByteArray.empty.toList
def zga (k:Nat) (s:ByteArray):Bool:=if k=1 then zem s else if k=2 then isVar s else emptyB s
mutual
def jF (d:Nat):Fo→Int→Int×Bool
 | .mk op s l m,L=>if ¬ (1≤L∧d≤40)∨17≤op then (L-1,false) else if rowK op=false then (L-1,false) else if ¬ (zga (rowN op) s=true∧l.length≤rowA op∧m.length=rowS op) then (L-1,false) else
   if (jTs (d+1) l (L-1)).2 then jFs (d+1) m (jTs (d+1) l (L-1)).1 else ((jTs (d+1) l (L-1)).1,false)
def jFs (d:Nat):List Fo→Int→Int×Bool
 | [],L=>(L,true)
 | x::l,L=>if (jF d x L).2 then jFs d l (jF d x L).1 else ((jF d x L).1,false)
end
theorem jFs_nil (d:Nat) (L:Int):jFs d [] L=(L,true):=by unfold jFs;rfl
theorem zeb (d:Nat) (x:Fo) (l:List Fo) (L:Int):jFs d (x::l) L=if (jF d x L).2 then jFs d l (jF d x L).1 else ((jF d x L).1,false):=by rw [jFs.eq_def]
mutual
theorem jF_bd (d:Nat):∀ (x:Fo) (L:Int),0≤L→-1≤(jF d x L).1∧(jF d x L).1≤L∧((jF d x L).2=true→0≤(jF d x L).1)
 | .mk op s l m,L,h=>by
   unfold jF
   split
   ·exact ⟨by simp only;omega,by simp only;omega,fun h=>by cases h⟩
   ·rename_i h1
    split
    ·exact ⟨by simp only;omega,by simp only;omega,fun h=>by cases h⟩
    ·split
     ·exact ⟨by simp only;omega,by simp only;omega,fun h=>by cases h⟩
     ·have ht:=jTs_bd (d+1) l (L-1) (by omega)
      split
      ·rename_i hb
       have:=jFs_bd (d+1) m _ (ht.2.2 hb)
       exact ⟨this.1,by omega,this.2.2⟩
      ·exact ⟨ht.1,by simp only;omega,fun h=>by cases h⟩
theorem jFs_bd (d:Nat):∀ (l:List Fo) (L:Int),0≤L→-1≤(jFs d l L).1∧(jFs d l L).1≤L∧((jFs d l L).2=true→0≤(jFs d l L).1)
 | [],L,h=>by rw [jFs_nil];exact ⟨by simp only;omega,by simp only;omega,fun _=>h⟩
 | x::l,L,h=>by
   have h1:=jF_bd d x L h
   rw [zeb]
   split
   ·rename_i hb
    have h2:=jFs_bd d l _ (h1.2.2 hb)
    exact ⟨h2.1,by omega,h2.2.2⟩
   ·exact ⟨h1.1,h1.2.1,fun h=>by cases h⟩
end
theorem zb2 {l l':List AV} {o:Nat} {k:List AV→Prop} (h:l=l') (a:SegN l' o k):SegN l o k:=h▸a
theorem zba:∀ x:Fo,x.cells.length=4
 | .mk op s l m=>by rw [zad];rfl
attribute [local irreducible] VW VCall VO bits
mutual
theorem tm_below (n:Nat):∀ x:Tm,zae n x.cells
 | .mk v s l=>by
   rw [zap]
   have:=zas n l
   simp [zae,below,this]
theorem zas (n:Nat):∀ l:List Tm,zae n (l.flatMap Tm.cells)
 | []=>trivial
 | x::l=>by
   rw [ya4]
   exact (zco _ _).2 ⟨tm_below n x,zas n l⟩
end
mutual
theorem zcl (n:Nat):∀ x:Fo,zae n x.cells
 | .mk op s l m=>by
   rw [zad]
   have:=zas n l
   have:=zat n m
   simp [zae,below, *]
theorem zat (n:Nat):∀ l:List Fo,zae n (l.flatMap Fo.cells)
 | []=>trivial
 | x::l=>by
   rw [ya4]
   exact (zco _ _).2 ⟨zcl n x,zat n l⟩
end
theorem named_g (k:Nat) (hk:k=0∨k=1∨k=2) (s:ByteArray) (hs:s.size≤9223372036854775807) (H:Heap):VDet Tryd.prog 71 [.int .u8 k,.str s] H (.bool (zga k s)):=by
 have hp:=zfr s hs
 have hv:=zc7 s hs
 have he:(s.toList==ByteArray.empty.toList)=emptyB s:=rfl
 unfold zga
 rcases hk with rfl|rfl|rfl
 ·simp only [show ¬ (0:Nat)=1 by decide,show ¬ (0:Nat)=2 by decide,if_false]
  refine zai Tryd.E0 zab Tryd.func71 (by kernel_rfl) rfl (ybq rfl) rfl fun hcl hbl=>?_
  (repeat' ((conv=>whnf);(first|refine yat rfl ?_|fail)));conv=>whnf
  exact yaz trivial (zay (by rw [← he];rfl))
 ·simp only [if_true]
  refine zai Tryd.E0 zab Tryd.func71 (by kernel_rfl) rfl (ybq rfl) rfl fun hcl hbl=>?_
  (repeat' ((conv=>whnf);(first|refine yaq rfl ?_|refine yab _ (hp _) ?_|fail)));conv=>whnf
  exact eT trivial
 ·simp only [show ¬ (2:Nat)=1 by decide,if_false,if_true]
  refine zai Tryd.E0 zab Tryd.func71 (by kernel_rfl) rfl (ybq rfl) rfl fun hcl hbl=>?_
  (repeat' ((conv=>whnf);(first|(refine yai ?_;first|refine yaq rfl ?_|refine yat rfl ?_|fail)|refine yab _ (hv _) ?_|fail)));conv=>whnf
  exact eT trivial
theorem zci:(Tryd.gl[0]).2=rowsL.flatMap encR:=by kernel_rfl
def FormP (x:Fo):Prop:=∀ (H:Heap) (i:Nat) (L:Int) (d:Nat),H[i]? = some (jB L)→0≤L∧L≤400→d≤41→VCall Tryd.prog 45 [.ptr i 0,.agg x.cells,.int .i64 d] H (setR H i (jB (jF d x L).1) (.bool (jF d x L).2))
theorem form_step (op:Nat) (s:ByteArray) (l:List Tm) (m:List Fo) (hop:op≤255) (hs:s.size≤9223372036854775807) (hll:l.length≤9223372036854775807) (hml:m.length≤9223372036854775807) (hl:TermsP l) (hm:∀ x∈m,FormP x):FormP (.mk op s l m):=by
 intro H i L d hi hL hd
 have hn:=fun X=>node_g (H++X) i L d (zam hi) hL hd
 rw [zad]
 unfold jF
 by_cases h:¬ (1≤L∧d≤40)∨17≤op
 ·rw [if_pos h]
  by_cases h1:1≤L∧d≤40
  ·rw [decide_eq_true h1] at hn
   have h17:17≤op:=by omega
   generalize l.flatMap Tm.cells=lc at *
   generalize m.flatMap Fo.cells=mc at *
   unfold jB at hi hn ⊢
   refine za4 Tryd.E0 zab Tryd.func45 (by kernel_rfl) rfl (ybq rfl) rfl fun hcl hbl=>?_
   (repeat' ((conv=>whnf);(first|(refine yai ?_;first|refine yar ?_|refine yaq rfl ?_|refine zal (by omega) ?_|fail)|refine yb8 (by omega) ?_|refine zah i _ _ _ _ hi rfl rfl (hn _) rfl ?_|fail)));conv=>whnf
   exact zaj (by simp [Blk.below,zae,below]) trivial (yae _)
  ·rw [decide_eq_false h1] at hn
   generalize l.flatMap Tm.cells=lc at *
   generalize m.flatMap Fo.cells=mc at *
   unfold jB at hi hn ⊢
   refine za4 Tryd.E0 zab Tryd.func45 (by kernel_rfl) rfl (ybq rfl) rfl fun hcl hbl=>?_
   (repeat' ((conv=>whnf);(first|(refine yai ?_;first|refine yar ?_|refine yat rfl ?_|fail)|refine zah i _ _ _ _ hi rfl rfl (hn _) rfl ?_|fail)));conv=>whnf
   exact zaj (by simp [Blk.below,zae,below]) trivial (yae _)
 ·rw [if_neg h]
  have h1:1≤L∧d≤40:=by omega
  have h17:op<17:=by omega
  rw [decide_eq_true h1] at hn
  have hrow:=row_ok op h17
  have hname:=fun (hk:rowN op=0∨rowN op=1∨rowN op=2)=>named_g (rowN op) hk s hs
  have hrc:encR (rowsL.getD op row0)=[.bool (rowK op),.bool (rowsL.getD op row0).2.1,.int .u8 (rowN op),.int .i64 (rowA op),.int .i64 (rowS op)]:=rfl
  have hrk:(rowsL.getD op row0).1=rowK op:=rfl
  rw [hrk] at hrow
  have ht:=fun X=>hl (H.set i (jB (L-1))++X) i (L-1) (d+1) (zam (za3 hi)) (by omega) (by omega)
  have htb:=jTs_bd (d+1) l (L-1) (by omega)
  generalize (rowsL.getD op row0).2.1=rsch at *
  generalize rowK op=rk at *
  generalize rowN op=rn at *
  generalize rowA op=ra at *
  generalize rowS op=rs at *
  generalize zga rn s=nok at *
  generalize hr:jTs (d+1) l (L-1)=r at *
  obtain ⟨M,b⟩:=r
  simp only at ht htb
  have h16:rk=true→op≠16:=fun e=>(hrow e).2.1
  cases rk with
  | false =>
    rw [if_pos rfl]
    generalize l.flatMap Tm.cells=lc at *
    generalize m.flatMap Fo.cells=mc at *
    unfold jB at hi hn ⊢
    refine za4 Tryd.E0 zab Tryd.func45 (by kernel_rfl) rfl (ybq rfl) rfl fun hcl hbl=>?_
    (repeat' ((conv=>whnf);(first|(refine yai ?_;first|refine yar ?_|refine yaq rfl ?_|refine yat rfl ?_|refine zan (by omega) ?_|fail)|refine yb8 (by omega) ?_|refine yaf (by omega) ?_|refine zah i _ _ _ _ hi rfl rfl (hn _) rfl ?_|refine zb2 zci (zaf row0 op rfl h17 (fun _=>rfl) hrc ?_)|refine yb3 _ (by (repeat' (first|assumption|exact zax _ rfl|exact za9 rfl|refine za3 (B':=?_) ?_|refine zam ?_|fail))) ?_|fail)));conv=>whnf
    exact zaj (by simp [Blk.below,zae,below]) trivial (yae _)
  | true =>
    simp only [Bool.true_eq_false,if_false]
    have h16:=h16 rfl
    have hname:=hname (hrow rfl).1
    have hra:=(hrow rfl).2.2.1
    by_cases h2:nok=true∧l.length≤ra∧m.length=rs
    ·rw [if_neg (not_not_intro h2)]
     obtain ⟨rfl,h3,h4⟩:=h2
     cases b with
     | false =>
       simp only [ya6,if_false]
       generalize l.flatMap Tm.cells=lc at *
       generalize m.flatMap Fo.cells=mc at *
       unfold jB at hi hn ht ⊢
       refine za4 Tryd.E0 zab Tryd.func45 (by kernel_rfl) rfl (ybq rfl) rfl fun hcl hbl=>?_
       (repeat' ((conv=>whnf);(first|(refine yai ?_;first|refine yar ?_|refine yaq rfl ?_|refine yat rfl ?_|refine zal (by omega) ?_|refine zan (by omega) ?_|fail)|(refine EqN.id ?_;first|(refine zaz _ _ Cst.h Cst.h ?_ ?_;· omega)|refine yb8 (by omega) ?_|fail)|refine yaf (by omega) ?_|refine yab _ (hname _) ?_|refine zah i _ _ _ _ hi rfl rfl (hn _) rfl ?_|refine zb2 zci (zaf row0 op rfl h17 (fun _=>rfl) hrc ?_)|refine zah i _ _ _ _ (za3 hi) (by simp) rfl (ht _) (yb7 ..) ?_|fail)));conv=>whnf
       exact zaj (by simp [Blk.below,zae,below]) trivial (yae _)
     | true =>
       simp only [if_true]
       have hMb:=htb.2.2 rfl
       have hmc:∀ n,zae n (m.flatMap Fo.cells):=fun n=>zat n m
       have hi':=hi
       unfold jB at hi hn ht
       refine za4 Tryd.E0 zab Tryd.func45 (by kernel_rfl) rfl (ybq rfl) rfl fun hcl hbl=>?_
       (repeat' ((conv=>whnf);(first|(refine yai ?_;first|refine yar ?_|refine yaq rfl ?_|refine zal (by omega) ?_|refine zan (by omega) ?_|fail)|(refine EqN.id ?_;first|(refine zaz _ _ Cst.h Cst.h ?_ ?_;· omega)|refine yb8 (by omega) ?_|fail)|refine yaf (by omega) ?_|refine yab _ (hname _) ?_|refine zah i _ _ _ _ hi rfl rfl (hn _) rfl ?_|refine zb2 zci (zaf row0 op rfl h17 (fun _=>rfl) hrc ?_)|refine zah i _ _ _ _ (za3 hi) (by simp) rfl (ht _) (yb7 ..) ?_|fail)));conv=>whnf
       refine loop_B Tryd.E0 zab (σ:=Nat×Int) (fun p=>p.1≤m.length∧(0≤p.2∧p.2≤400)∧jFs (d+1) m M=jFs (d+1) (m.drop p.1) p.2) (fun p=>m.length-p.1) (fun p=>[(79,.v (.int .i64 p.1))]) (fun p=>H.set i (jB p.2)) (fun _=>_) _ (0,M) (fun p _=>by simp) (fun p _=>ze9 hcl i _ (ze6 _ _)) [0,2,77,78] rfl ⟨yah _,⟨hMb,by omega⟩,rfl⟩ ⟨⟨_,rfl,yae _⟩,trivial⟩ rfl rfl (fun _ _=>rfl) ?_
       rintro ⟨k,N⟩ ⟨hk,hN,hj⟩
       simp only at hk hN hj
       have hNl:(H.set i (jB N)).length=H.length:=by simp
       by_cases hlt:k<m.length
       ·have hmem:=zav m k (Fo.mk 0 .empty [] []) hlt
        rw [zgh m k (Fo.mk 0 .empty [] []) hlt] at hj
        have hx:=fun X=>hm _ hmem (H.set i (jB N)++X) i N (d+1) (zam (za3 hi')) hN (by omega)
        have hbd:=jF_bd (d+1) (m.getD k (Fo.mk 0 .empty [] [])) N hN.1
        rw [zeb] at hj
        obtain ⟨o2,s2,l2,m2,hxe⟩:∃ o2 s2 l2 m2,m.getD k (Fo.mk 0 .empty [] [])=Fo.mk o2 s2 l2 m2:=by
         cases m.getD k (Fo.mk 0 .empty [] []) with
         | mk o2 s2 l2 m2=>exact ⟨o2,s2,l2,m2,rfl⟩
        have hce:(m.getD k (Fo.mk 0 .empty [] [])).cells=[.int .u8 o2,.str s2,.sl none l2.length (l2.flatMap Tm.cells),.sl none m2.length (m2.flatMap Fo.cells)]:=by rw [hxe,zad]
        rw [hce] at hx
        generalize hr2:jF (d+1) (m.getD k (Fo.mk 0 .empty [] [])) N=r2 at *
        obtain ⟨N',b2⟩:=r2
        simp only at hx hbd hj
        generalize hB2:jB N'=B2 at *
        cases b2 with
        | true =>
          (repeat' ((conv=>whnf);(first|(refine yai ?_;first|refine yar ?_|refine yaq rfl ?_|refine zal (by omega) ?_|fail)|(refine zaz _ _ Cst.h Cst.h ?_ ?_;· omega)|(refine yaf ?_ ?_;· first|omega|exact yaa _ _|fail)|refine zaf (Fo.mk 0 .empty [] []) k rfl hlt zba hce ?_|refine zah i _ _ _ _ (za3 hi') (by simp) rfl (hx _) (yb7 ..) ?_|fail)));conv=>whnf
          subst hB2
          (refine ⟨⟨(k+1,N'),⟨by simp only;omega,⟨hbd.2.2 rfl,by simp only;omega⟩,by simpa using hj⟩,by omega,?_,.inl ⟨rfl,rfl⟩,rfl,_,rfl,?_⟩⟩;rotate_left 1;exact .inr ⟨by simp [za2,below,zae,tr,zas,zat],by simp [zc3,Blk.below,zae,below,zas,zat]⟩;exact ⟨⟨_,rfl,yae _⟩,trivial⟩)
        | false =>
          (repeat' ((conv=>whnf);(first|(refine yai ?_;first|refine yar ?_|refine yat rfl ?_|refine zal (by omega) ?_|fail)|(refine zaz _ _ Cst.h Cst.h ?_ ?_;· omega)|(refine yaf ?_ ?_;· first|omega|exact yaa _ _|fail)|refine zaf (Fo.mk 0 .empty [] []) k rfl hlt zba hce ?_|refine zah i _ _ _ _ (za3 hi') (by simp) rfl (hx _) (yb7 ..) ?_|fail)));conv=>whnf
          subst hB2
          simp only [ya6,if_false] at hj
          rw [hj]
          exact zaj (ze6 _ _) trivial (yae _)
       ·have hke:k=m.length:=by omega
        subst hke
        rw [ybg,jFs_nil] at hj
        rw [hj]
        (repeat' ((conv=>whnf);(first|refine zan (by omega) ?_|fail)));conv=>whnf
        exact zaj (ze6 _ _) trivial (yae _)
    ·rw [if_pos h2]
     generalize l.flatMap Tm.cells=lc at *
     generalize m.flatMap Fo.cells=mc at *
     generalize l.length=ln at *
     generalize m.length=mn at *
     unfold jB at hi hn ⊢
     cases nok with
     | false =>
       refine za4 Tryd.E0 zab Tryd.func45 (by kernel_rfl) rfl (ybq rfl) rfl fun hcl hbl=>?_
       (repeat' ((conv=>whnf);(first|(refine yai ?_;first|refine yar ?_|refine yaq rfl ?_|refine yat rfl ?_|refine zan (by omega) ?_|fail)|refine yb8 (by omega) ?_|refine yaf (by omega) ?_|refine yab _ (hname _) ?_|refine zah i _ _ _ _ hi rfl rfl (hn _) rfl ?_|refine zb2 zci (zaf row0 op rfl h17 (fun _=>rfl) hrc ?_)|fail)));conv=>whnf
       exact zaj (by simp [Blk.below,zae,below]) trivial (yae _)
     | true =>
       by_cases h3:ln≤ra
       ·have h4:¬ mn=rs:=fun e=>h2 ⟨rfl,h3,e⟩
        refine za4 Tryd.E0 zab Tryd.func45 (by kernel_rfl) rfl (ybq rfl) rfl fun hcl hbl=>?_
        (repeat' ((conv=>whnf);(first|(refine yai ?_;first|refine yar ?_|refine yaq rfl ?_|refine zan (by omega) ?_|fail)|refine yb8 (by omega) ?_|refine yaf (by omega) ?_|refine yab _ (hname _) ?_|refine zah i _ _ _ _ hi rfl rfl (hn _) rfl ?_|refine zb2 zci (zaf row0 op rfl h17 (fun _=>rfl) hrc ?_)|fail)));conv=>whnf
        exact zaj (by simp [Blk.below,zae,below]) trivial (yae _)
       ·refine za4 Tryd.E0 zab Tryd.func45 (by kernel_rfl) rfl (ybq rfl) rfl fun hcl hbl=>?_
        (repeat' ((conv=>whnf);(first|(refine yai ?_;first|refine yar ?_|refine yaq rfl ?_|refine zal (by omega) ?_|refine zan (by omega) ?_|fail)|refine yb8 (by omega) ?_|refine yaf (by omega) ?_|refine yab _ (hname _) ?_|refine zah i _ _ _ _ hi rfl rfl (hn _) rfl ?_|refine zb2 zci (zaf row0 op rfl h17 (fun _=>rfl) hrc ?_)|fail)));conv=>whnf
        exact zaj (by simp [Blk.below,zae,below]) trivial (yae _)
mutual
theorem form_g:∀ x:Fo,x.good→FormP x
 | .mk op s l m,h=>form_step op s l m h.1 (zak h.2.1) (zak h.2.2.1) (zak h.2.2.2.2.1) (terms_g l (zak h.2.2.1) (terms_all l h.2.2.2.1)) (forms_all m h.2.2.2.2.2)
theorem forms_all:∀ l:List Fo,Fo.goodL l→∀ x∈l,FormP x
 | [],_,x,h=>by cases h
 | y::l,hg,x,h=>by
   have h1:=form_g y hg.1
   have h2:=forms_all l hg.2
   rcases yax.1 h with e|h
   ·exact e▸h1
   ·exact h2 x h
end
end
section
attribute [local irreducible] VW VCall VO bits
theorem zip_all {α:Type} {c:α→α→Int} {d:α}:∀ (l m:List α),l.length=m.length→(∀ i,i<l.length→c (l.getD i d) (m.getD i d)=0)→zipC c l m=0
 | [],m,_,_=>by unfold zipC;rfl
 | x::l,[],h,_=>by simp at h
 | x::l,y::m,h,hz=>and_zero.2 ⟨hz 0 (by simp),zip_all l m (by simpa using h) fun i hi=>by
   have:=hz (i+1) (by simpa using hi)
   simpa using this⟩
theorem zip_at {α:Type} {c:α→α→Int} {d:α}:∀ (l m:List α) (j:Nat),l.length=m.length→j<l.length→(∀ i,i<j→c (l.getD i d) (m.getD i d)=0)→c (l.getD j d) (m.getD j d)≠0→zipC c l m=c (l.getD j d) (m.getD j d)
 | [],m,j,_,h,_,_=>by simp at h
 | x::l,[],j,h,_,_,_=>by simp at h
 | x::l,y::m,0,h,_,_,hn=>by
   show andC (c x y) _=c x y
   exact if_neg (by simpa using hn)
 | x::l,y::m,j+1,h,hj,hz,hn=>by
   have h0:c x y=0:=by simpa using hz 0 (by omega)
   have:=zip_at (c:=c) (d:=d) l m j (by simpa using h) (by simpa using hj) (fun i hi=>by
    have:=hz (i+1) (by omega)
    simpa using this) (by simpa using hn)
   show andC (c x y) (zipC c l m)=_
   unfold andC
   rw [if_pos h0,this]
   simp
def tm0:Tm:=.mk false .empty []
def fo0:Fo:=.mk 0 .empty [] []
theorem tm_ex (x:Tm):∃ v s l,x=.mk v s l:=by cases x with|mk v s l=>exact ⟨v,s,l,rfl⟩
theorem fo_ex (x:Fo):∃ o s l m,x=.mk o s l m:=by cases x with|mk o s l m=>exact ⟨o,s,l,m,rfl⟩
def CmpT (x:Tm):Prop:=∀ (y:Tm) (H:Heap),y.good→VDet Tryd.prog 33 [.agg x.cells,.agg y.cells] H (.int .i64 (cT x y))
theorem cmpTs_c (l m:List Tm) (hl:l.length≤9223372036854775807) (hm:m.length≤9223372036854775807) (hg:Tm.goodL m) (h:∀ x∈l,CmpT x) (H:Heap):VDet Tryd.prog 32 [.sl none l.length (l.flatMap Tm.cells),.sl none m.length (m.flatMap Tm.cells),.clo (.func 33) [] []] H (.int .i64 (cmpL cT l m)):=by
 unfold cmpL
 have hc:=cmpi_c l.length m.length
 by_cases hlen:l.length=m.length
 ·rw [show cmpI (l.length:Int) (m.length:Int)=0 by rw [zcn];omega] at hc ⊢
  rw [show andC 0 (zipC cT l m)=zipC cT l m from rfl]
  refine zai Tryd.E0 zab Tryd.func32 (by kernel_rfl) rfl (ybq rfl) rfl fun hcl hbl=>?_
  (repeat' ((conv=>whnf);(first|(refine yai ?_;first|refine yar ?_|refine yaq rfl ?_|fail)|refine yab _ (hc _) ?_|fail)));conv=>whnf
  refine zcf Tryd.E0 zab (σ:=Nat) (fun j=>j≤l.length∧∀ i,i<j→cT (l.getD i tm0) (m.getD i tm0)=0) (fun j=>l.length-j) (fun j=>[(20,.v (.int .i64 j))]) (fun _=>_) _ 0 rfl hcl [0,1,2,19] rfl ⟨yah _,fun i hi=>by omega⟩ ⟨⟨_,rfl,yae _⟩,trivial⟩ rfl (fun _ _=>rfl) ?_
  rintro j ⟨hj,hall⟩
  clear hbl
  by_cases hlt:j<l.length
  ·have hx:=h _ (zav l j tm0 hlt) (m.getD j tm0)
   have hgy:=zdl hg _ (zav m j tm0 (by omega))
   have hx:=fun H=>hx H hgy
   have hat:=zip_at (c:=cT) l m j hlen hlt hall
   obtain ⟨v,s,a,e1⟩:=tm_ex (l.getD j tm0)
   obtain ⟨w,t,b,e2⟩:=tm_ex (m.getD j tm0)
   have q1:(l.getD j tm0).cells=[.bool v,.str s,.sl none a.length (a.flatMap Tm.cells)]:=by rw [e1,zap]
   have q2:(m.getD j tm0).cells=[.bool w,.str t,.sl none b.length (b.flatMap Tm.cells)]:=by rw [e2,zap]
   rw [q1,q2] at hx
   generalize hr:cT (l.getD j tm0) (m.getD j tm0)=r at *
   by_cases hr0:r=0
   ·(repeat' ((conv=>whnf);(first|(refine yai ?_;first|refine yar ?_|refine zal (by omega) ?_|fail)|(refine zaz _ _ Cst.h Cst.h ?_ ?_;· omega)|(refine yaf ?_ ?_;· first|kernel_rfl|omega|exact yaa _ _|fail)|refine yan _ (fun _ hq X=>hx _) ?_|refine zaf tm0 j rfl hlt zbl q1 ?_|refine zaf tm0 j rfl (by omega) zbl q2 ?_|refine zaq [] ?_|fail)));conv=>whnf
    (refine ⟨⟨j+1,⟨by omega,fun i hi=>by
     by_cases e:i=j
     ·rw [e,hr];exact hr0
     ·exact hall i (by omega)⟩,by omega,?_,.inl ⟨rfl,rfl⟩,rfl,_,rfl,?_⟩⟩;rotate_left 1;exact .inl rfl;exact ⟨⟨_,rfl,yae _⟩,trivial⟩)
   ·rw [hat hr0]
    (repeat' ((conv=>whnf);(first|(refine yai ?_;first|refine yar ?_|refine zal (by omega) ?_|refine zan (by omega) ?_|fail)|(refine yaf ?_ ?_;· first|kernel_rfl|omega|exact yaa _ _|fail)|refine yan _ (fun _ hq X=>hx _) ?_|refine zaf tm0 j rfl hlt zbl q1 ?_|refine zaf tm0 j rfl (by omega) zbl q2 ?_|refine zaq [] ?_|fail)));conv=>whnf
    exact eT trivial
  ·rw [zip_all (d:=tm0) l m hlen (fun i hi=>hall i (by omega))]
   (repeat' ((conv=>whnf);(first|refine zan (by omega) ?_|fail)));conv=>whnf
   exact eT trivial
 ·have hne:cmpI (l.length:Int) (m.length:Int)≠0:=fun h=>hlen (by rw [zcn] at h;omega)
  unfold andC
  rw [if_neg hne]
  generalize cmpI (l.length:Int) (m.length:Int)=r at *
  generalize l.flatMap Tm.cells=lc at *
  generalize m.flatMap Tm.cells=mc at *
  refine zai Tryd.E0 zab Tryd.func32 (by kernel_rfl) rfl (ybq rfl) rfl fun hcl hbl=>?_
  (repeat' ((conv=>whnf);(first|(refine yai ?_;first|refine yar ?_|refine zan (by omega) ?_|fail)|refine yab _ (hc _) ?_|fail)));conv=>whnf
  exact eT trivial
theorem cmpT_step (v:Bool) (s:ByteArray) (l:List Tm) (hl:l.length≤9223372036854775807) (h:∀ x∈l,CmpT x):CmpT (.mk v s l):=by
 intro y H hy
 obtain ⟨w,t,m,rfl⟩:=tm_ex y
 have hts:=cmpTs_c l m hl (zak hy.2.1) hy.2.2 h
 have hst:=strCmp_c s t
 rw [cT_mk,zap,zap]
 rw [show andC (cmpI l.length m.length) (cTs l m)=cmpL cT l m by rw [zft];rfl]
 generalize cmpL cT l m=r at *
 generalize cmpB s t=q at *
 generalize l.flatMap Tm.cells=lc at *
 generalize m.flatMap Tm.cells=mc at *
 generalize l.length=ln at *
 generalize m.length=mn at *
 by_cases hq:q=0
 ·subst hq
  cases v <;> cases w
  all_goals
   simp only [cmpV,andC]
   refine zai Tryd.E0 zab Tryd.func33 (by kernel_rfl) rfl (ybq rfl) rfl fun hcl hbl=>?_
   (repeat' ((conv=>whnf);(first|(refine yai ?_;first|refine yar ?_|refine yaq rfl ?_|refine yat rfl ?_|fail)|(refine ybf ?_;first|refine yab _ (hst _) ?_|refine yab _ (hts _) ?_|fail)|fail)));all_goals (conv=>whnf)
   all_goals exact eT trivial
 ·cases v <;> cases w
  all_goals
   simp only [cmpV,andC]
   refine zai Tryd.E0 zab Tryd.func33 (by kernel_rfl) rfl (ybq rfl) rfl fun hcl hbl=>?_
   (repeat' ((conv=>whnf);(first|(refine yai ?_;first|refine yar ?_|refine yaq rfl ?_|refine yat rfl ?_|refine zan (by omega) ?_|fail)|refine yab _ (hst _) ?_|fail)));all_goals (conv=>whnf)
   all_goals exact yaz trivial (zay (by simp [hq]))
mutual
theorem cmpT_g:∀ x:Tm,x.good→CmpT x
 | .mk v s l,h=>cmpT_step v s l (zak h.2.1) (cmpTs_g l h.2.2)
theorem cmpTs_g:∀ l:List Tm,Tm.goodL l→∀ x∈l,CmpT x
 | [],_,x,h=>by cases h
 | y::l,hg,x,h=>by
   have h1:=cmpT_g y hg.1
   have h2:=cmpTs_g l hg.2
   rcases yax.1 h with e|h
   ·exact e▸h1
   ·exact h2 x h
end
def CmpF (x:Fo):Prop:=∀ (y:Fo) (H:Heap),y.good→VDet Tryd.prog 8 [.agg x.cells,.agg y.cells] H (.int .i64 (cF x y))
theorem cmpFs_c (l m:List Fo) (hl:l.length≤9223372036854775807) (hm:m.length≤9223372036854775807) (hg:Fo.goodL m) (h:∀ x∈l,CmpF x) (H:Heap):VDet Tryd.prog 34 [.sl none l.length (l.flatMap Fo.cells),.sl none m.length (m.flatMap Fo.cells),.clo (.func 8) [] []] H (.int .i64 (cmpL cF l m)):=by
 unfold cmpL
 have hc:=cmpi_c l.length m.length
 by_cases hlen:l.length=m.length
 ·rw [show cmpI (l.length:Int) (m.length:Int)=0 by rw [zcn];omega] at hc ⊢
  rw [show andC 0 (zipC cF l m)=zipC cF l m from rfl]
  refine zai Tryd.E0 zab Tryd.func34 (by kernel_rfl) rfl (ybq rfl) rfl fun hcl hbl=>?_
  (repeat' ((conv=>whnf);(first|(refine yai ?_;first|refine yar ?_|refine yaq rfl ?_|fail)|refine yab _ (hc _) ?_|fail)));conv=>whnf
  refine zcf Tryd.E0 zab (σ:=Nat) (fun j=>j≤l.length∧∀ i,i<j→cF (l.getD i fo0) (m.getD i fo0)=0) (fun j=>l.length-j) (fun j=>[(20,.v (.int .i64 j))]) (fun _=>_) _ 0 rfl hcl [0,1,2,19] rfl ⟨yah _,fun i hi=>by omega⟩ ⟨⟨_,rfl,yae _⟩,trivial⟩ rfl (fun _ _=>rfl) ?_
  rintro j ⟨hj,hall⟩
  clear hbl
  by_cases hlt:j<l.length
  ·have hx:=h _ (zav l j fo0 hlt) (m.getD j fo0)
   have hgy:=zbp hg _ (zav m j fo0 (by omega))
   have hx:=fun H=>hx H hgy
   have hat:=zip_at (c:=cF) l m j hlen hlt hall
   obtain ⟨v,s,a,b,e1⟩:=fo_ex (l.getD j fo0)
   obtain ⟨w,t,c,d,e2⟩:=fo_ex (m.getD j fo0)
   have q1:(l.getD j fo0).cells=[.int .u8 v,.str s,.sl none a.length (a.flatMap Tm.cells),.sl none b.length (b.flatMap Fo.cells)]:=by rw [e1,zad]
   have q2:(m.getD j fo0).cells=[.int .u8 w,.str t,.sl none c.length (c.flatMap Tm.cells),.sl none d.length (d.flatMap Fo.cells)]:=by rw [e2,zad]
   rw [q1,q2] at hx
   generalize hr:cF (l.getD j fo0) (m.getD j fo0)=r at *
   by_cases hr0:r=0
   ·(repeat' ((conv=>whnf);(first|(refine yai ?_;first|refine yar ?_|refine zal (by omega) ?_|fail)|(refine zaz _ _ Cst.h Cst.h ?_ ?_;· omega)|(refine yaf ?_ ?_;· first|kernel_rfl|omega|exact yaa _ _|fail)|refine yan _ (fun _ hq X=>hx _) ?_|refine zaf fo0 j rfl hlt zba q1 ?_|refine zaf fo0 j rfl (by omega) zba q2 ?_|refine zaq [] ?_|fail)));conv=>whnf
    (refine ⟨⟨j+1,⟨by omega,fun i hi=>by
     by_cases e:i=j
     ·rw [e,hr];exact hr0
     ·exact hall i (by omega)⟩,by omega,?_,.inl ⟨rfl,rfl⟩,rfl,_,rfl,?_⟩⟩;rotate_left 1;exact .inl rfl;exact ⟨⟨_,rfl,yae _⟩,trivial⟩)
   ·rw [hat hr0]
    (repeat' ((conv=>whnf);(first|(refine yai ?_;first|refine yar ?_|refine zal (by omega) ?_|refine zan (by omega) ?_|fail)|(refine yaf ?_ ?_;· first|kernel_rfl|omega|exact yaa _ _|fail)|refine yan _ (fun _ hq X=>hx _) ?_|refine zaf fo0 j rfl hlt zba q1 ?_|refine zaf fo0 j rfl (by omega) zba q2 ?_|refine zaq [] ?_|fail)));conv=>whnf
    exact eT trivial
  ·rw [zip_all (d:=fo0) l m hlen (fun i hi=>hall i (by omega))]
   (repeat' ((conv=>whnf);(first|refine zan (by omega) ?_|fail)));conv=>whnf
   exact eT trivial
 ·have hne:cmpI (l.length:Int) (m.length:Int)≠0:=fun h=>hlen (by rw [zcn] at h;omega)
  unfold andC
  rw [if_neg hne]
  generalize cmpI (l.length:Int) (m.length:Int)=r at *
  generalize l.flatMap Fo.cells=lc at *
  generalize m.flatMap Fo.cells=mc at *
  refine zai Tryd.E0 zab Tryd.func34 (by kernel_rfl) rfl (ybq rfl) rfl fun hcl hbl=>?_
  (repeat' ((conv=>whnf);(first|(refine yai ?_;first|refine yar ?_|refine zan (by omega) ?_|fail)|refine yab _ (hc _) ?_|fail)));conv=>whnf
  exact eT trivial
theorem cmpF_step (op:Nat) (s:ByteArray) (l:List Tm) (a:List Fo) (hll:l.length≤9223372036854775807) (hal:a.length≤9223372036854775807) (hg:Tm.goodL l) (h:∀ x∈a,CmpF x):CmpF (.mk op s l a):=by
 intro y H hy
 obtain ⟨oq,t,m,b,rfl⟩:=fo_ex y
 have hop:=cmp8_c op oq
 have hts:=cmpTs_c l m hll (zak hy.2.2.1) hy.2.2.2.1 (cmpTs_g l hg)
 have hfs:=cmpFs_c a b hal (zak hy.2.2.2.2.1) hy.2.2.2.2.2 h
 have hst:=strCmp_c s t
 rw [cF_mk,zad,zad]
 rw [show andC (cmpI l.length m.length) (cTs l m)=cmpL cT l m by rw [zft];rfl,show andC (cmpI a.length b.length) (cFs a b)=cmpL cF a b by rw [cFs_zip];rfl]
 generalize cmpL cT l m=r at *
 generalize cmpL cF a b=p at *
 generalize cmpB s t=q at *
 generalize cmpI (op:Int) oq=o at *
 generalize l.flatMap Tm.cells=lc at *
 generalize m.flatMap Tm.cells=mc at *
 generalize a.flatMap Fo.cells=ac at *
 generalize b.flatMap Fo.cells=bc at *
 generalize l.length=ln at *
 generalize m.length=mn at *
 generalize a.length=an at *
 generalize b.length=bn at *
 unfold andC
 by_cases ho:o=0
 ·subst ho
  rw [if_pos rfl]
  by_cases hq:q=0
  ·subst hq
   rw [if_pos rfl]
   by_cases hr:r=0
   ·subst hr
    rw [if_pos rfl]
    refine zai Tryd.E0 zab Tryd.func8 (by kernel_rfl) rfl (ybq rfl) rfl fun hcl hbl=>?_
    (repeat' ((conv=>whnf);(first|(refine yai ?_;first|refine yar ?_|refine yaq rfl ?_|fail)|(refine ybf ?_;first|refine yab _ (hop _) ?_|refine yab _ (hst _) ?_|refine yab _ (hts _) ?_|refine yab _ (hfs _) ?_|fail)|fail)));conv=>whnf
    exact eT trivial
   ·rw [if_neg hr]
    refine zai Tryd.E0 zab Tryd.func8 (by kernel_rfl) rfl (ybq rfl) rfl fun hcl hbl=>?_
    (repeat' ((conv=>whnf);(first|(refine yai ?_;first|refine yar ?_|refine yaq rfl ?_|refine zan (by omega) ?_|fail)|(refine ybf ?_;first|refine yab _ (hop _) ?_|refine yab _ (hst _) ?_|refine yab _ (hts _) ?_|fail)|fail)));conv=>whnf
    exact eT trivial
  ·rw [if_neg hq]
   refine zai Tryd.E0 zab Tryd.func8 (by kernel_rfl) rfl (ybq rfl) rfl fun hcl hbl=>?_
   (repeat' ((conv=>whnf);(first|(refine yai ?_;first|refine yar ?_|refine yaq rfl ?_|refine zan (by omega) ?_|fail)|(refine ybf ?_;first|refine yab _ (hop _) ?_|refine yab _ (hst _) ?_|fail)|fail)));conv=>whnf
   exact eT trivial
 ·rw [if_neg ho]
  refine zai Tryd.E0 zab Tryd.func8 (by kernel_rfl) rfl (ybq rfl) rfl fun hcl hbl=>?_
  (repeat' ((conv=>whnf);(first|(refine yai ?_;first|refine yar ?_|refine zan (by omega) ?_|fail)|refine yab _ (hop _) ?_|fail)));conv=>whnf
  exact eT trivial
mutual
theorem cmpF_g:∀ x:Fo,x.good→CmpF x
 | .mk op s l m,h=>cmpF_step op s l m (zak h.2.2.1) (zak h.2.2.2.2.1) h.2.2.2.1 (cmpFs_g m h.2.2.2.2.2)
theorem cmpFs_g:∀ l:List Fo,Fo.goodL l→∀ x∈l,CmpF x
 | [],_,x,h=>by cases h
 | y::l,hg,x,h=>by
   have h1:=cmpF_g y hg.1
   have h2:=cmpFs_g l hg.2
   rcases yax.1 h with e|h
   ·exact e▸h1
   ·exact h2 x h
end
theorem sameS_c (x y:Fo) (hx:x.good) (hy:y.good) (H:Heap):VDet Tryd.prog 11 [.agg x.cells,.agg y.cells] H (.bool (decide (cF x y=0))):=by
 have h:=fun H=>cmpF_g x hx y H hy
 obtain ⟨op,s,l,a,rfl⟩:=fo_ex x
 obtain ⟨oq,t,m,b,rfl⟩:=fo_ex y
 rw [zad,zad] at h ⊢
 generalize cF _ _=r at *
 refine zai Tryd.E0 zab Tryd.func11 (by kernel_rfl) rfl (ybq rfl) rfl fun hcl hbl=>?_
 (repeat' ((conv=>whnf);(first|refine yab _ (h _) ?_|fail)));conv=>whnf
 exact eT trivial
def eqFo (x y:Fo):Bool:=decide (cF x y=0)
theorem eqFo_iff (x y:Fo):eqFo x y=true↔x=y:=by
 unfold eqFo
 rw [decide_eq_true_eq]
 exact ⟨(ordFo x).eq y,fun h=>h▸(ordFo x).refl⟩
theorem str_beq (a b:ByteArray):(a.toList==b.toList)=decide (cmpB a b=0):=by
 have e1:a.toList=a.data.toList:=ByteArray.toList_eq a
 have e2:b.toList=b.data.toList:=ByteArray.toList_eq b
 rw [yb0,beq_iff_eq,decide_eq_true_eq,cmpB_zero,e1,e2]
 constructor
 ·intro h
  obtain ⟨⟨x⟩⟩:=a
  obtain ⟨⟨y⟩⟩:=b
  simp only at h
  rw [h]
 ·rintro rfl;rfl
def SamT (x:Tm):Prop:=∀ (m:List Tm) (l:List Tm) (v:Bool) (s:ByteArray),x=.mk v s l→m.length≤9223372036854775807→Tm.goodL m→∀ H,VDet Tryd.prog 35 [.sl none l.length (l.flatMap Tm.cells),.sl none m.length (m.flatMap Tm.cells)] H (.bool (decide (cmpL cT l m=0)))
theorem samTs_c (l:List Tm) (hl:l.length≤9223372036854775807) (h:∀ x∈l,SamT x) (m:List Tm) (hg:Tm.goodL m) (hm:m.length≤9223372036854775807) (H:Heap):VDet Tryd.prog 35 [.sl none l.length (l.flatMap Tm.cells),.sl none m.length (m.flatMap Tm.cells)] H (.bool (decide (cmpL cT l m=0))):=by
 unfold cmpL
 by_cases hlen:l.length=m.length
 ·rw [show cmpI (l.length:Int) (m.length:Int)=0 by rw [zcn];omega]
  rw [show andC 0 (zipC cT l m)=zipC cT l m from rfl]
  refine zai Tryd.E0 zab Tryd.func35 (by kernel_rfl) rfl (ybq rfl) rfl fun hcl hbl=>?_
  (repeat' ((conv=>whnf);(first|(refine yai ?_;first|refine yar ?_|refine zal (by omega) ?_|fail)|fail)));conv=>whnf
  refine zcf Tryd.E0 zab (σ:=Nat) (fun j=>j≤l.length∧∀ i,i<j→cT (l.getD i tm0) (m.getD i tm0)=0) (fun j=>l.length-j) (fun j=>[(5,.v (.int .i64 j))]) (fun _=>_) _ 0 rfl hcl [0,1] rfl ⟨yah _,fun i hi=>by omega⟩ ⟨⟨_,rfl,yae _⟩,trivial⟩ rfl (fun _ _=>rfl) ?_
  rintro j ⟨hj,hall⟩
  clear hbl
  by_cases hlt:j<l.length
  ·have hx:=h _ (zav l j tm0 hlt)
   have hgy:=zdl hg _ (zav m j tm0 (by omega))
   have hat:=zip_at (c:=cT) l m j hlen hlt hall
   obtain ⟨v,s,a,e1⟩:=tm_ex (l.getD j tm0)
   obtain ⟨w,t,b,e2⟩:=tm_ex (m.getD j tm0)
   have q1:(l.getD j tm0).cells=[.bool v,.str s,.sl none a.length (a.flatMap Tm.cells)]:=by rw [e1,zap]
   have q2:(m.getD j tm0).cells=[.bool w,.str t,.sl none b.length (b.flatMap Tm.cells)]:=by rw [e2,zap]
   rw [e2] at hgy
   have hx:=fun H=>hx b a v s e1 (zak hgy.2.1) hgy.2.2 H
   have hst:=str_beq s t
   have hc:cT (l.getD j tm0) (m.getD j tm0)=andC (cmpV v w) (andC (cmpB s t) (cmpL cT a b)):=by rw [e1,e2,cT_mk,zft];rfl
   rw [hc] at hat
   have hnz:∀ {z:Int},z≠0→decide (z=0)=false:=fun h=>decide_eq_false h
   by_cases hv:v=w
   ·subst hv
    have hvv:(!v==v)=false:=by cases v <;> rfl
    rw [show cmpV v v=0 by cases v <;> rfl] at hat hc
    by_cases hs:cmpB s t=0
    ·rw [hs] at hat hc hst
     rw [decide_eq_true rfl] at hst
     by_cases hr:cmpL cT a b=0
     ·rw [hr,decide_eq_true rfl] at hx
      (repeat' ((conv=>whnf);(first|(refine yai ?_;first|refine yat hvv ?_|(rw [hst];refine yat rfl ?_)|refine yar ?_|refine yaq rfl ?_|refine zal (by omega) ?_|fail)|(refine zaz _ _ Cst.h Cst.h ?_ ?_;· omega)|(refine yaf ?_ ?_;· first|kernel_rfl|omega|exact yaa _ _|fail)|refine yan _ (fun _ hq X=>hx _) ?_|refine zaf tm0 j rfl hlt zbl q1 ?_|refine zaf tm0 j rfl (by omega) zbl q2 ?_|refine zaq [] ?_|fail)));conv=>whnf
      (refine ⟨⟨j+1,⟨by omega,fun i hi=>by
       by_cases e:i=j
       ·rw [e,hc,hr];rfl
       ·exact hall i (by omega)⟩,by omega,?_,.inl ⟨rfl,rfl⟩,rfl,_,rfl,?_⟩⟩;rotate_left 1;exact .inl rfl;exact ⟨⟨_,rfl,yae _⟩,trivial⟩)
     ·have hz:=hat (by rw [show ∀ z,andC 0 (andC 0 z)=z from fun _=>rfl];exact hr)
      rw [hz,show ∀ z,andC 0 (andC 0 z)=z from fun _=>rfl,decide_eq_false hr]
      rw [decide_eq_false hr] at hx
      (repeat' ((conv=>whnf);(first|(refine yai ?_;first|refine yat hvv ?_|(rw [hst];refine yat rfl ?_)|refine yar ?_|refine yat rfl ?_|refine zal (by omega) ?_|fail)|(refine yaf ?_ ?_;· first|kernel_rfl|omega|exact yaa _ _|fail)|refine yan _ (fun _ hq X=>hx _) ?_|refine zaf tm0 j rfl hlt zbl q1 ?_|refine zaf tm0 j rfl (by omega) zbl q2 ?_|refine zaq [] ?_|fail)));conv=>whnf
      exact eT trivial
    ·rw [decide_eq_false hs] at hst
     have hz:=hat (by rw [show ∀ z,andC 0 z=z from fun _=>rfl];unfold andC;rw [if_neg hs];exact hs)
     rw [hz,show ∀ z,andC 0 z=z from fun _=>rfl]
     unfold andC
     rw [if_neg hs,decide_eq_false hs]
     (repeat' ((conv=>whnf);(first|(refine yai ?_;first|refine yat hvv ?_|(rw [hst];refine yaq rfl ?_)|refine zal (by omega) ?_|fail)|(refine yaf ?_ ?_;· first|kernel_rfl|omega|exact yaa _ _|fail)|refine zaf tm0 j rfl hlt zbl q1 ?_|refine zaf tm0 j rfl (by omega) zbl q2 ?_|refine zaq [] ?_|fail)));conv=>whnf
     exact eT trivial
   ·have hv0:cmpV v w≠0:=by cases v <;> cases w <;> simp_all [cmpV]
    have hz:=hat (by unfold andC;rw [if_neg hv0];exact hv0)
    rw [hz]
    unfold andC
    rw [if_neg hv0,decide_eq_false hv0]
    have hvw:(!v==w)=true:=by cases v <;> cases w <;> simp_all
    (repeat' ((conv=>whnf);(first|(refine yai ?_;first|refine yaq hvw ?_|refine zal (by omega) ?_|fail)|(refine yaf ?_ ?_;· first|kernel_rfl|omega|exact yaa _ _|fail)|refine zaf tm0 j rfl hlt zbl q1 ?_|refine zaf tm0 j rfl (by omega) zbl q2 ?_|refine zaq [] ?_|fail)));conv=>whnf
    exact eT trivial
  ·rw [zip_all (d:=tm0) l m hlen (fun i hi=>hall i (by omega))]
   (repeat' ((conv=>whnf);(first|refine zan (by omega) ?_|fail)));conv=>whnf
   exact eT trivial
 ·have hne:cmpI (l.length:Int) (m.length:Int)≠0:=fun h=>hlen (by rw [zcn] at h;omega)
  unfold andC
  rw [if_neg hne,decide_eq_false hne]
  generalize l.flatMap Tm.cells=lc at *
  generalize m.flatMap Tm.cells=mc at *
  refine zai Tryd.E0 zab Tryd.func35 (by kernel_rfl) rfl (ybq rfl) rfl fun hcl hbl=>?_
  (repeat' ((conv=>whnf);(first|(refine yai ?_;first|refine yar ?_|refine zan (by omega) ?_|fail)|fail)));conv=>whnf
  exact eT trivial
mutual
theorem samT_g:∀ x:Tm,x.good→SamT x
 | .mk v s l,h=>by
   have h1:=samTs_g l h.2.2
   intro m l' v' s' e hm hg H
   cases e
   exact samTs_c l (zak h.2.1) h1 m hg hm H
theorem samTs_g:∀ l:List Tm,Tm.goodL l→∀ x∈l,SamT x
 | [],_,x,h=>by cases h
 | y::l,hg,x,h=>by
   have h1:=samT_g y hg.1
   have h2:=samTs_g l hg.2
   rcases yax.1 h with e|h
   ·exact e▸h1
   ·exact h2 x h
end
def SamF (x:Fo):Prop:=∀ (y:Fo),y.good→∀ H,VDet Tryd.prog 9 [.agg x.cells,.agg y.cells] H (.bool (eqFo x y))
theorem samFs_c (l:List Fo) (hl:l.length≤9223372036854775807) (h:∀ x∈l,SamF x) (m:List Fo) (hg:Fo.goodL m) (hm:m.length≤9223372036854775807) (H:Heap):VDet Tryd.prog 36 [.sl none l.length (l.flatMap Fo.cells),.sl none m.length (m.flatMap Fo.cells)] H (.bool (decide (cmpL cF l m=0))):=by
 unfold cmpL
 by_cases hlen:l.length=m.length
 ·rw [show cmpI (l.length:Int) (m.length:Int)=0 by rw [zcn];omega]
  rw [show andC 0 (zipC cF l m)=zipC cF l m from rfl]
  refine zai Tryd.E0 zab Tryd.func36 (by kernel_rfl) rfl (ybq rfl) rfl fun hcl hbl=>?_
  (repeat' ((conv=>whnf);(first|(refine yai ?_;first|refine yar ?_|refine zal (by omega) ?_|fail)|fail)));conv=>whnf
  refine zcf Tryd.E0 zab (σ:=Nat) (fun j=>j≤l.length∧∀ i,i<j→cF (l.getD i fo0) (m.getD i fo0)=0) (fun j=>l.length-j) (fun j=>[(5,.v (.int .i64 j))]) (fun _=>_) _ 0 rfl hcl [0,1] rfl ⟨yah _,fun i hi=>by omega⟩ ⟨⟨_,rfl,yae _⟩,trivial⟩ rfl (fun _ _=>rfl) ?_
  rintro j ⟨hj,hall⟩
  clear hbl
  by_cases hlt:j<l.length
  ·have hx:=h _ (zav l j fo0 hlt) (m.getD j fo0)
   have hgy:=zbp hg _ (zav m j fo0 (by omega))
   have hx:=fun H=>hx hgy H
   have hat:=zip_at (c:=cF) l m j hlen hlt hall
   obtain ⟨v,s,a,b,e1⟩:=fo_ex (l.getD j fo0)
   obtain ⟨w,t,c,d,e2⟩:=fo_ex (m.getD j fo0)
   have q1:(l.getD j fo0).cells=[.int .u8 v,.str s,.sl none a.length (a.flatMap Tm.cells),.sl none b.length (b.flatMap Fo.cells)]:=by rw [e1,zad]
   have q2:(m.getD j fo0).cells=[.int .u8 w,.str t,.sl none c.length (c.flatMap Tm.cells),.sl none d.length (d.flatMap Fo.cells)]:=by rw [e2,zad]
   rw [q1,q2] at hx
   unfold eqFo at hx
   generalize hr:cF (l.getD j fo0) (m.getD j fo0)=r at *
   by_cases hr0:r=0
   ·rw [decide_eq_true hr0] at hx
    (repeat' ((conv=>whnf);(first|(refine yai ?_;first|refine yar ?_|refine yaq rfl ?_|refine zal (by omega) ?_|fail)|(refine zaz _ _ Cst.h Cst.h ?_ ?_;· omega)|(refine yaf ?_ ?_;· first|kernel_rfl|omega|exact yaa _ _|fail)|refine yan _ (fun _ hq X=>hx _) ?_|refine zaf fo0 j rfl hlt zba q1 ?_|refine zaf fo0 j rfl (by omega) zba q2 ?_|refine zaq [] ?_|fail)));conv=>whnf
    (refine ⟨⟨j+1,⟨by omega,fun i hi=>by
     by_cases e:i=j
     ·rw [e,hr];exact hr0
     ·exact hall i (by omega)⟩,by omega,?_,.inl ⟨rfl,rfl⟩,rfl,_,rfl,?_⟩⟩;rotate_left 1;exact .inl rfl;exact ⟨⟨_,rfl,yae _⟩,trivial⟩)
   ·rw [hat hr0,decide_eq_false hr0]
    rw [decide_eq_false hr0] at hx
    (repeat' ((conv=>whnf);(first|(refine yai ?_;first|refine yar ?_|refine yat rfl ?_|refine zal (by omega) ?_|fail)|(refine yaf ?_ ?_;· first|kernel_rfl|omega|exact yaa _ _|fail)|refine yan _ (fun _ hq X=>hx _) ?_|refine zaf fo0 j rfl hlt zba q1 ?_|refine zaf fo0 j rfl (by omega) zba q2 ?_|refine zaq [] ?_|fail)));conv=>whnf
    exact eT trivial
  ·rw [zip_all (d:=fo0) l m hlen (fun i hi=>hall i (by omega))]
   (repeat' ((conv=>whnf);(first|refine zan (by omega) ?_|fail)));conv=>whnf
   exact eT trivial
 ·have hne:cmpI (l.length:Int) (m.length:Int)≠0:=fun h=>hlen (by rw [zcn] at h;omega)
  unfold andC
  rw [if_neg hne,decide_eq_false hne]
  generalize l.flatMap Fo.cells=lc at *
  generalize m.flatMap Fo.cells=mc at *
  refine zai Tryd.E0 zab Tryd.func36 (by kernel_rfl) rfl (ybq rfl) rfl fun hcl hbl=>?_
  (repeat' ((conv=>whnf);(first|(refine yai ?_;first|refine yar ?_|refine zan (by omega) ?_|fail)|fail)));conv=>whnf
  exact eT trivial
theorem samF_step (op:Nat) (s:ByteArray) (l:List Tm) (a:List Fo) (hll:l.length≤9223372036854775807) (hal:a.length≤9223372036854775807) (hg:Tm.goodL l) (h:∀ x∈a,SamF x):SamF (.mk op s l a):=by
 intro y hy H
 obtain ⟨oq,t,m,b,rfl⟩:=fo_ex y
 have hts:=samTs_c l hll (samTs_g l hg) m hy.2.2.2.1 (zak hy.2.2.1)
 have hfs:=samFs_c a hal h b hy.2.2.2.2.2 (zak hy.2.2.2.2.1)
 have hst:=str_beq s t
 unfold eqFo
 rw [cF_mk,zad,zad]
 rw [show andC (cmpI l.length m.length) (cTs l m)=cmpL cT l m by rw [zft];rfl,show andC (cmpI a.length b.length) (cFs a b)=cmpL cF a b by rw [cFs_zip];rfl]
 generalize cmpL cT l m=r at *
 generalize cmpL cF a b=p at *
 generalize l.flatMap Tm.cells=lc at *
 generalize m.flatMap Tm.cells=mc at *
 generalize a.flatMap Fo.cells=ac at *
 generalize b.flatMap Fo.cells=bc at *
 generalize l.length=ln at *
 generalize m.length=mn at *
 generalize a.length=an at *
 generalize b.length=bn at *
 unfold andC
 by_cases ho:cmpI (op:Int) oq=0
 ·rw [if_pos ho]
  obtain rfl:op=oq:=cmpI_nat.1 ho
  by_cases hq:cmpB s t=0
  ·rw [if_pos hq]
   rw [decide_eq_true hq] at hst
   by_cases hr:r=0
   ·rw [if_pos hr]
    rw [decide_eq_true hr] at hts
    refine zai Tryd.E0 zab Tryd.func9 (by kernel_rfl) rfl (ybq rfl) rfl fun hcl hbl=>?_
    (repeat' ((conv=>whnf);(first|(refine yai ?_;first|(rw [hst];refine yaq rfl ?_)|refine yaq rfl ?_|refine zal (by omega) ?_|fail)|(refine ybf ?_;first|refine yab _ (hts _) ?_|refine yab _ (hfs _) ?_|fail)|fail)));conv=>whnf
    exact eT trivial
   ·rw [if_neg hr,decide_eq_false hr]
    rw [decide_eq_false hr] at hts
    refine zai Tryd.E0 zab Tryd.func9 (by kernel_rfl) rfl (ybq rfl) rfl fun hcl hbl=>?_
    (repeat' ((conv=>whnf);(first|(refine yai ?_;first|(rw [hst];refine yaq rfl ?_)|refine yat rfl ?_|refine zal (by omega) ?_|fail)|refine yab _ (hts _) ?_|fail)));conv=>whnf
    exact eT trivial
  ·rw [if_neg hq,decide_eq_false hq]
   rw [decide_eq_false hq] at hst
   refine zai Tryd.E0 zab Tryd.func9 (by kernel_rfl) rfl (ybq rfl) rfl fun hcl hbl=>?_
   (repeat' ((conv=>whnf);(first|(refine yai ?_;first|(rw [hst];refine yat rfl ?_)|refine zal (by omega) ?_|fail)|fail)));conv=>whnf
   exact eT trivial
 ·have hne:op≠oq:=fun h=>ho (cmpI_nat.2 h)
  rw [if_neg ho,decide_eq_false ho]
  refine zai Tryd.E0 zab Tryd.func9 (by kernel_rfl) rfl (ybq rfl) rfl fun hcl hbl=>?_
  (repeat' ((conv=>whnf);(first|refine zan (by omega) ?_|fail)));conv=>whnf
  all_goals exact eT trivial
mutual
theorem samF_g:∀ x:Fo,x.good→SamF x
 | .mk op s l m,h=>samF_step op s l m (zak h.2.2.1) (zak h.2.2.2.2.1) h.2.2.2.1 (samFs_g m h.2.2.2.2.2)
theorem samFs_g:∀ l:List Fo,Fo.goodL l→∀ x∈l,SamF x
 | [],_,x,h=>by cases h
 | y::l,hg,x,h=>by
   have h1:=samF_g y hg.1
   have h2:=samFs_g l hg.2
   rcases yax.1 h with e|h
   ·exact e▸h1
   ·exact h2 x h
end
theorem take_flat {α:Type} (f:α→List AV) (l:List α) (d:α) (j:Nat) (h:j<l.length):(l.take j).flatMap f++f (l.getD j d)=(l.take (j+1)).flatMap f:=by
 rw [List.take_add_one,List.flatMap_append]
 simp [yal h]
end
section
def wI (n:Int):Int:=IntKind.i64.wrap n
mutual
def szT:Tm→Int→Int
 | .mk _ s l,left=>wI (1+(s.size:Int) / 40+szTs l left 0)
def szTs:List Tm→Int→Int→Int
 | [],_,n=>n
 | x::l,left,n=>if n≤left then szTs l left (wI (n+szT x (wI (left-n)))) else n
end
theorem szTs_cons (x:Tm) (l:List Tm) (left n:Int):szTs (x::l) left n=if n≤left then szTs l left (wI (n+szT x (wI (left-n)))) else n:=by rw [szTs.eq_def]
theorem szTs_nil (left n:Int):szTs [] left n=n:=by rw [szTs.eq_def]
theorem szT_mk (v:Bool) (s:ByteArray) (l:List Tm) (left:Int):szT (.mk v s l) left=wI (1+(s.size:Int) / 40+szTs l left 0):=by rw [szT.eq_def]
mutual
def szF:Fo→Int→Int
 | .mk _ s l m,left=>szFs m left (wI (1+(s.size:Int) / 40+szTs l left 0))
def szFs:List Fo→Int→Int→Int
 | [],_,n=>n
 | x::l,left,n=>if n≤left then szFs l left (wI (n+szF x (wI (left-n)))) else n
end
theorem zf5 (x:Fo) (l:List Fo) (left n:Int):szFs (x::l) left n=if n≤left then szFs l left (wI (n+szF x (wI (left-n)))) else n:=by rw [szFs.eq_def]
theorem szFs_nil (left n:Int):szFs [] left n=n:=by rw [szFs.eq_def]
theorem szF_mk (op:Nat) (s:ByteArray) (l:List Tm) (m:List Fo) (left:Int):szF (.mk op s l m) left=szFs m left (wI (1+(s.size:Int) / 40+szTs l left 0)):=by rw [szF.eq_def]
theorem zb6 {α:Type} (l:List α) (d:α) (j:Nat) (h:j<l.length):l.drop j=l.getD j d::l.drop (j+1):=by
 rw [List.drop_eq_getElem_cons h]
 simp [ybi,h]
attribute [local irreducible] VW VCall VO bits
def SizT (x:Tm):Prop:=∀ (v:Bool) (s:ByteArray) (l:List Tm),x=.mk v s l→s.size≤9223372036854775807∧∀ (left:Int) H,VDet Tryd.prog 59 [.sl none l.length (l.flatMap Tm.cells),.int .i64 left] H (.int .i64 (szTs l left 0))
theorem sizTs_c (l:List Tm) (hl:l.length≤9223372036854775807) (h:∀ x∈l,SizT x) (left:Int) (H:Heap):VDet Tryd.prog 59 [.sl none l.length (l.flatMap Tm.cells),.int .i64 left] H (.int .i64 (szTs l left 0)):=by
 refine zai Tryd.E0 zab Tryd.func59 (by kernel_rfl) rfl (ybq rfl) rfl fun hcl hbl=>?_
 conv=>whnf
 refine zcf Tryd.E0 zab (σ:=Nat×Int) (fun p=>p.1≤l.length∧szTs (l.drop p.1) left p.2=szTs l left 0) (fun p=>l.length-p.1) (fun p=>[(6,.v (.int .i64 p.1)),(5,.v (.int .i64 p.2))]) (fun _=>_) _ (0,0) rfl hcl [0,1] rfl ⟨yah _,rfl⟩ ⟨⟨_,rfl,yae _⟩,⟨_,rfl,yae _⟩,trivial⟩ rfl (fun _ _=>rfl) ?_
 rintro ⟨j,n⟩ ⟨hj,hinv⟩
 simp only at hj hinv
 clear hbl
 by_cases hlt:j<l.length
 ·obtain ⟨v,s,a,e1⟩:=tm_ex (l.getD j tm0)
  obtain ⟨hs,hx⟩:=h _ (zav l j tm0 hlt) v s a e1
  have q1:(l.getD j tm0).cells=[.bool v,.str s,.sl none a.length (a.flatMap Tm.cells)]:=by rw [e1,zap]
  rw [zb6 l tm0 j hlt,szTs_cons,e1,szT_mk] at hinv
  by_cases hn:n≤left
  ·rw [if_pos hn] at hinv
   have hx:=hx (wI (left-n))
   generalize hr:szTs a (wI (left-n)) 0=r at *
   (repeat' ((conv=>whnf);(first|refine zal (by omega) ?_|(refine EqN.id ?_;first|refine EqN.mk (wI (left-n)) rfl ?_|refine EqN.mk (wI (1+(s.size:Int) / 40+r)) rfl ?_|refine EqN.mk (wI (n+wI (1+(s.size:Int) / 40+r))) rfl ?_|(refine zaz _ _ Cst.h Cst.h ?_ ?_;· omega)|refine yb8 (by omega) ?_|refine EqN.quo (by omega) ?_|fail)|(refine yaf ?_ ?_;· first|kernel_rfl|omega|exact yaa _ _|fail)|refine yan _ (fun _ hq X=>hx _) ?_|refine zaf tm0 j rfl hlt zbl q1 ?_|refine zaq [] ?_|fail)));conv=>whnf
   (refine ⟨⟨(j+1,wI (n+wI (1+(s.size:Int) / 40+r))),⟨by show j+1≤l.length;omega,hinv⟩,by omega,?_,.inl ⟨rfl,rfl⟩,rfl,_,rfl,?_⟩⟩;rotate_left 1;exact .inl rfl;exact ⟨⟨_,rfl,yae _⟩,⟨_,rfl,yae _⟩,trivial⟩)
  ·rw [if_neg hn] at hinv
   (repeat' ((conv=>whnf);(first|(refine yai ?_;first|refine zal (by omega) ?_|refine zan (by omega) ?_|fail)|fail)));conv=>whnf
   exact yaz trivial (zay (by rw [hinv]))
 ·rw [yco (by omega),szTs_nil] at hinv
  (repeat' ((conv=>whnf);(first|refine zan (by omega) ?_|fail)));conv=>whnf
  exact yaz trivial (zay (by rw [hinv]))
mutual
theorem sizT_g:∀ x:Tm,x.good→SizT x
 | .mk v s l,h=>by
   have h1:=sizTs_g l h.2.2
   intro v' s' l' e
   cases e
   exact ⟨zak h.1,fun left H=>sizTs_c l (zak h.2.1) h1 left H⟩
theorem sizTs_g:∀ l:List Tm,Tm.goodL l→∀ x∈l,SizT x
 | [],_,x,h=>by cases h
 | y::l,hg,x,h=>by
   have h1:=sizT_g y hg.1
   have h2:=sizTs_g l hg.2
   rcases yax.1 h with e|h
   ·exact e▸h1
   ·exact h2 x h
end
def SizF (x:Fo):Prop:=∀ (left:Int) H,VDet Tryd.prog 29 [.agg x.cells,.int .i64 left] H (.int .i64 (szF x left))
theorem sizF_step (op:Nat) (s:ByteArray) (l:List Tm) (m:List Fo) (hs:s.size≤9223372036854775807) (hl:l.length≤9223372036854775807) (hm:m.length≤9223372036854775807) (hg:Tm.goodL l) (h:∀ x∈m,SizF x):SizF (.mk op s l m):=by
 intro left H
 have h1:=sizTs_c l hl (sizTs_g l hg) left
 rw [szF_mk,zad]
 generalize szTs l left 0=r at *
 have hb:=zas H.length l
 generalize l.flatMap Tm.cells=lc at *
 generalize l.length=ln at *
 generalize hn0:wI (1+(s.size:Int) / 40+r)=n0
 refine zai Tryd.E0 zab Tryd.func29 (by kernel_rfl) rfl (ybq rfl) rfl fun hcl hbl=>?_
 (repeat' ((conv=>whnf);(first|(refine EqN.id ?_;first|refine EqN.mk n0 hn0 ?_|refine yb8 (by omega) ?_|refine EqN.quo (by omega) ?_|fail)|(refine yaf ?_ ?_;· first|kernel_rfl|omega|fail)|refine yan _ (fun _ hq X=>h1 _) ?_|refine zaq [] ?_|fail)));conv=>whnf
 refine zcf Tryd.E0 zab (σ:=Nat×Int) (fun p=>p.1≤m.length∧szFs (m.drop p.1) left p.2=szFs m left n0) (fun p=>m.length-p.1) (fun p=>[(6,.v (.int .i64 p.1)),(5,.v (.int .i64 p.2))]) (fun _=>[.box 25 [.int .u8 op,.str s,.sl none ln lc,.sl none m.length (m.flatMap Fo.cells)]]) _ (0,n0) rfl hcl [1,2] rfl ⟨yah _,rfl⟩ ⟨⟨_,rfl,yae _⟩,⟨_,rfl,yae _⟩,trivial⟩ rfl (fun _ _=>rfl) ?_
 rintro ⟨j,n⟩ ⟨hj,hinv⟩
 simp only at hj hinv
 clear hbl
 by_cases hlt:j<m.length
 ·have hx:=h _ (zav m j fo0 hlt)
  obtain ⟨o,t,a,b,e1⟩:=fo_ex (m.getD j fo0)
  have q1:(m.getD j fo0).cells=[.int .u8 o,.str t,.sl none a.length (a.flatMap Tm.cells),.sl none b.length (b.flatMap Fo.cells)]:=by rw [e1,zad]
  rw [zb6 m fo0 j hlt,zf5] at hinv
  by_cases hn:n≤left
  ·rw [if_pos hn] at hinv
   have hx:=hx (wI (left-n))
   rw [q1] at hx
   generalize hr:szF (m.getD j fo0) (wI (left-n))=r at *
   (repeat' ((conv=>whnf);(first|refine zal (by omega) ?_|(refine EqN.id ?_;first|refine EqN.mk (wI (left-n)) rfl ?_|refine EqN.mk (wI (n+r)) rfl ?_|(refine zaz _ _ Cst.h Cst.h ?_ ?_;· omega)|fail)|(refine yaf ?_ ?_;· first|omega|exact yaa _ _|fail)|refine yab _ (hx _) ?_|refine zaf fo0 j rfl hlt zba q1 ?_|fail)));conv=>whnf
   (refine ⟨⟨(j+1,wI (n+r)),⟨by show j+1≤m.length;omega,hinv⟩,by omega,?_,.inl ⟨rfl,rfl⟩,rfl,_,rfl,?_⟩⟩;rotate_left 1;exact .inl rfl;exact ⟨⟨_,rfl,yae _⟩,⟨_,rfl,yae _⟩,trivial⟩)
  ·rw [if_neg hn] at hinv
   (repeat' ((conv=>whnf);(first|(refine yai ?_;first|refine zal (by omega) ?_|refine zan (by omega) ?_|fail)|fail)));conv=>whnf
   exact yaz trivial (zay (by rw [hinv]))
 ·rw [yco (by omega),szFs_nil] at hinv
  (repeat' ((conv=>whnf);(first|refine zan (by omega) ?_|fail)));conv=>whnf
  exact yaz trivial (zay (by rw [hinv]))
mutual
theorem sizF_g:∀ x:Fo,x.good→SizF x
 | .mk op s l m,h=>sizF_step op s l m (zak h.2.1) (zak h.2.2.1) (zak h.2.2.2.2.1) h.2.2.2.1 (sizFs_g m h.2.2.2.2.2)
theorem sizFs_g:∀ l:List Fo,Fo.goodL l→∀ x∈l,SizF x
 | [],_,x,h=>by cases h
 | y::l,hg,x,h=>by
   have h1:=sizF_g y hg.1
   have h2:=sizFs_g l hg.2
   rcases yax.1 h with e|h
   ·exact e▸h1
   ·exact h2 x h
end
def smallB (l:List Fo):Bool:=decide (szFs l 500 0≤500)
theorem small_c (m:List Fo) (hm:m.length≤9223372036854775807) (hg:Fo.goodL m) (H:Heap):VDet Tryd.prog 7 [.sl none m.length (m.flatMap Fo.cells)] H (.bool (smallB m)):=by
 have h:=sizFs_g m hg
 unfold smallB
 refine zai Tryd.E0 zab Tryd.func7 (by kernel_rfl) rfl (ybq rfl) rfl fun hcl hbl=>?_
 conv=>whnf
 refine zcf Tryd.E0 zab (σ:=Nat×Int) (fun p=>p.1≤m.length∧szFs (m.drop p.1) 500 p.2=szFs m 500 0) (fun p=>m.length-p.1) (fun p=>[(4,.v (.int .i64 p.1)),(3,.v (.int .i64 p.2))]) (fun _=>_) _ (0,0) rfl hcl [0] rfl ⟨yah _,rfl⟩ ⟨⟨_,rfl,yae _⟩,⟨_,rfl,yae _⟩,trivial⟩ rfl (fun _ _=>rfl) ?_
 rintro ⟨j,n⟩ ⟨hj,hinv⟩
 simp only at hj hinv
 clear hbl
 by_cases hlt:j<m.length
 ·have hx:=h _ (zav m j fo0 hlt)
  obtain ⟨o,t,a,b,e1⟩:=fo_ex (m.getD j fo0)
  have q1:(m.getD j fo0).cells=[.int .u8 o,.str t,.sl none a.length (a.flatMap Tm.cells),.sl none b.length (b.flatMap Fo.cells)]:=by rw [e1,zad]
  rw [zb6 m fo0 j hlt,zf5] at hinv
  by_cases hn:n≤500
  ·rw [if_pos hn] at hinv
   have hx:=hx (wI (500-n))
   rw [q1] at hx
   generalize hr:szF (m.getD j fo0) (wI (500-n))=r at *
   (repeat' ((conv=>whnf);(first|refine zal (by omega) ?_|(refine EqN.id ?_;first|refine EqN.mk (wI (500-n)) rfl ?_|refine EqN.mk (wI (n+r)) rfl ?_|(refine zaz _ _ Cst.h Cst.h ?_ ?_;· omega)|fail)|(refine yaf ?_ ?_;· first|omega|exact yaa _ _|fail)|refine yab _ (hx _) ?_|refine zaf fo0 j rfl hlt zba q1 ?_|fail)));conv=>whnf
   (refine ⟨⟨(j+1,wI (n+r)),⟨by show j+1≤m.length;omega,hinv⟩,by omega,?_,.inl ⟨rfl,rfl⟩,rfl,_,rfl,?_⟩⟩;rotate_left 1;exact .inl rfl;exact ⟨⟨_,rfl,yae _⟩,⟨_,rfl,yae _⟩,trivial⟩)
  ·rw [if_neg hn] at hinv
   (repeat' ((conv=>whnf);(first|(refine yai ?_;first|refine zal (by omega) ?_|refine zan (by omega) ?_|fail)|fail)));conv=>whnf
   exact yaz trivial (zay (by rw [hinv]))
 ·rw [yco (by omega),szFs_nil] at hinv
  (repeat' ((conv=>whnf);(first|refine zan (by omega) ?_|fail)));conv=>whnf
  exact yaz trivial (zay (by rw [hinv]))
end
section
attribute [local irreducible] VW VCall VO bits
def SyT (x:Tm):Prop:=∀ H,VDet Tryd.prog 64 [.agg x.cells] H (.agg x.cells)
theorem syTs_c (l:List Tm) (hf:l.length * 48≤capB) (h:∀ x∈l,SyT x) (H:Heap):VDet Tryd.prog 63 [.sl none l.length (l.flatMap Tm.cells),.clo (.func 64) [] []] H (.sl none l.length (l.flatMap Tm.cells)):=by
 unfold capB at hf
 by_cases h0:l.length=0
 ·obtain rfl:=ya1 h0
  refine zai Tryd.E0 zab Tryd.func63 (by kernel_rfl) rfl (ybq rfl) rfl fun hcl hbl=>?_
  (repeat' ((conv=>whnf);(first|refine yaq rfl ?_|fail)));conv=>whnf
  exact yaz ⟨(fun _ h=>by cases h),trivial⟩ zcd
 have hb0:l.length * 48≤281474976710656:=by omega
 refine zai Tryd.E0 zab Tryd.func63 (by kernel_rfl) rfl (ybq rfl) rfl fun hcl hbl=>?_
 (repeat' ((conv=>whnf);(first|refine zan (by omega) ?_|(refine OrN.natR ?_;refine NatN.mk _ rfl ?_;refine yaf ⟨rfl,?_,?_⟩ (OrN.l ?_);(· omega);(· first|omega|assumption|fail))|fail)));conv=>whnf
 refine zcf Tryd.E0 zab (σ:=Nat) (fun j=>j≤l.length) (fun j=>l.length-j) (fun j=>[(5,.v (.sl (some (H.length+0)) j ((l.take j).flatMap Tm.cells))),(16,.v (.int .i64 j))]) (fun j=>[.tok 57 3 ((l.take j).flatMap Tm.cells).length]) _ 0 rfl hcl [1,14,15] rfl (yah _) ⟨⟨_,rfl,yae _⟩,⟨_,rfl,yae _⟩,trivial⟩ rfl (fun _ _=>rfl) ?_
 intro j hj
 clear hbl
 by_cases hlt:j<l.length
 ·have hx:=h _ (zav l j tm0 hlt)
  unfold SyT at hx
  obtain ⟨v,s,a,e1⟩:=tm_ex (l.getD j tm0)
  have q1:(l.getD j tm0).cells=[.bool v,.str s,.sl none a.length (a.flatMap Tm.cells)]:=by rw [e1,zap]
  rw [q1] at hx
  have hns:=take_flat Tm.cells l tm0 j hlt
  rw [q1] at hns
  have hb1:(j+1) * 48≤140737488355328:=by omega
  have hb2:j+1≤maxLen:=by unfold maxLen;omega
  (repeat' ((conv=>whnf);(first|refine zal (by omega) ?_|(refine zaz _ _ Cst.h Cst.h ?_ ?_;· omega)|(refine yaf ?_ ?_;· first|omega|exact yaa _ _|fail)|refine yab _ (hx _) ?_|refine zaf tm0 j rfl hlt zbl q1 ?_|refine yaf ⟨rfl,rfl,rfl,hb1,hb2⟩ ?_|refine PtrN.loc _ rfl ?_|fail)));conv=>whnf
  all_goals rw [hns]
  all_goals (refine ⟨⟨j+1,by omega,by omega,?_,.inl ⟨rfl,rfl⟩,rfl,_,rfl,?_⟩⟩;rotate_left 1;exact .inr ⟨by simp [za2,below,zae,tr,zas,zat],by simp [zc3,Blk.below,zae,below,zas,zat]⟩;exact ⟨⟨_,rfl,yae _⟩,⟨_,rfl,yae _⟩,trivial⟩)
 ·obtain rfl:j=l.length:=by omega
  rw [ya0]
  (repeat' ((conv=>whnf);(first|refine zan (by omega) ?_|fail)));conv=>whnf
  exact yaz ⟨(fun _ h=>by cases h),zas _ _⟩ (wk_sl _ _ _)
theorem syT_step (v:Bool) (s:ByteArray) (l:List Tm) (hl:l.length * 48≤capB) (h:∀ x∈l,SyT x):SyT (.mk v s l):=by
 intro H
 have h1:=syTs_c l hl h
 have hb1:=fun n=>zas n l
 rw [zap]
 generalize l.flatMap Tm.cells=lc at *
 generalize l.length=ln at *
 refine zai Tryd.E0 zab Tryd.func64 (by kernel_rfl) rfl (ybq rfl) rfl fun hcl hbl=>?_
 (repeat' ((conv=>whnf);(first|refine yaf (by kernel_rfl) ?_|refine yan _ (fun _ hq X=>h1 _) ?_|refine zaq [] ?_|fail)));conv=>whnf
 exact eT (by simp [below,zae,hb1])
mutual
theorem syT_g:∀ x:Tm,x.fit→SyT x
 | .mk v s l,h=>syT_step v s l h.2.1 (syTs_g l h.2.2)
theorem syTs_g:∀ l:List Tm,Tm.fitL l→∀ x∈l,SyT x
 | [],_,x,h=>by cases h
 | y::l,hg,x,h=>by
   have h1:=syT_g y hg.1
   have h2:=syTs_g l hg.2
   rcases yax.1 h with e|h
   ·exact e▸h1
   ·exact h2 x h
end
def SyF (x:Fo):Prop:=∀ H,VDet Tryd.prog 40 [.agg x.cells] H (.agg x.cells)
theorem syFs_c (l:List Fo) (hf:l.length * 72≤capB) (h:∀ x∈l,SyF x) (H:Heap):VDet Tryd.prog 65 [.sl none l.length (l.flatMap Fo.cells),.clo (.func 40) [] []] H (.sl none l.length (l.flatMap Fo.cells)):=by
 unfold capB at hf
 by_cases h0:l.length=0
 ·obtain rfl:=ya1 h0
  refine zai Tryd.E0 zab Tryd.func65 (by kernel_rfl) rfl (ybq rfl) rfl fun hcl hbl=>?_
  (repeat' ((conv=>whnf);(first|refine yaq rfl ?_|fail)));conv=>whnf
  exact yaz ⟨(fun _ h=>by cases h),trivial⟩ zcd
 have hb0:l.length * 72≤281474976710656:=by omega
 refine zai Tryd.E0 zab Tryd.func65 (by kernel_rfl) rfl (ybq rfl) rfl fun hcl hbl=>?_
 (repeat' ((conv=>whnf);(first|refine zan (by omega) ?_|(refine OrN.natR ?_;refine NatN.mk _ rfl ?_;refine yaf ⟨rfl,?_,?_⟩ (OrN.l ?_);(· omega);(· first|omega|assumption|fail))|fail)));conv=>whnf
 refine zcf Tryd.E0 zab (σ:=Nat) (fun j=>j≤l.length) (fun j=>l.length-j) (fun j=>[(5,.v (.sl (some (H.length+0)) j ((l.take j).flatMap Fo.cells))),(16,.v (.int .i64 j))]) (fun j=>[.tok 25 4 ((l.take j).flatMap Fo.cells).length]) _ 0 rfl hcl [1,14,15] rfl (yah _) ⟨⟨_,rfl,yae _⟩,⟨_,rfl,yae _⟩,trivial⟩ rfl (fun _ _=>rfl) ?_
 intro j hj
 clear hbl
 by_cases hlt:j<l.length
 ·have hx:=h _ (zav l j fo0 hlt)
  unfold SyF at hx
  obtain ⟨o,s,a,b,e1⟩:=fo_ex (l.getD j fo0)
  have q1:(l.getD j fo0).cells=[.int .u8 o,.str s,.sl none a.length (a.flatMap Tm.cells),.sl none b.length (b.flatMap Fo.cells)]:=by rw [e1,zad]
  rw [q1] at hx
  have hns:=take_flat Fo.cells l fo0 j hlt
  rw [q1] at hns
  have hb1:(j+1) * 72≤140737488355328:=by omega
  have hb2:j+1≤maxLen:=by unfold maxLen;omega
  (repeat' ((conv=>whnf);(first|refine zal (by omega) ?_|(refine zaz _ _ Cst.h Cst.h ?_ ?_;· omega)|(refine yaf ?_ ?_;· first|omega|exact yaa _ _|fail)|refine yab _ (hx _) ?_|refine zaf fo0 j rfl hlt zba q1 ?_|refine yaf ⟨rfl,rfl,rfl,hb1,hb2⟩ ?_|refine PtrN.loc _ rfl ?_|fail)));conv=>whnf
  all_goals rw [hns]
  all_goals (refine ⟨⟨j+1,by omega,by omega,?_,.inl ⟨rfl,rfl⟩,rfl,_,rfl,?_⟩⟩;rotate_left 1;exact .inr ⟨by simp [za2,below,zae,tr,zas,zat],by simp [zc3,Blk.below,zae,below,zas,zat]⟩;exact ⟨⟨_,rfl,yae _⟩,⟨_,rfl,yae _⟩,trivial⟩)
 ·obtain rfl:j=l.length:=by omega
  rw [ya0]
  (repeat' ((conv=>whnf);(first|refine zan (by omega) ?_|fail)));conv=>whnf
  exact yaz ⟨(fun _ h=>by cases h),zat _ _⟩ (wk_sl _ _ _)
theorem syF_step (op:Nat) (s:ByteArray) (l:List Tm) (m:List Fo) (hl:l.length * 48≤capB) (hlf:Tm.fitL l) (hm:m.length * 72≤capB) (h:∀ x∈m,SyF x):SyF (.mk op s l m):=by
 intro H
 have h1:=syTs_c l hl (syTs_g l hlf)
 have h2:=syFs_c m hm h
 have hb1:=fun n=>zas n l
 have hb2:=fun n=>zat n m
 rw [zad]
 generalize l.flatMap Tm.cells=lc at *
 generalize m.flatMap Fo.cells=mc at *
 generalize l.length=ln at *
 generalize m.length=mn at *
 refine zai Tryd.E0 zab Tryd.func40 (by kernel_rfl) rfl (ybq rfl) rfl fun hcl hbl=>?_
 (repeat' ((conv=>whnf);(first|refine yaf (by kernel_rfl) ?_|(refine CallD.id ?_;first|refine yan _ (fun _ hq X=>h1 _) ?_|refine yan _ (fun _ hq X=>h2 _) ?_|fail)|refine zaq [] ?_|fail)));conv=>whnf
 exact eT (by simp [below,zae,hb1,hb2])
mutual
theorem syF_g:∀ x:Fo,x.fit→SyF x
 | .mk op s l m,h=>syF_step op s l m h.2.1 h.2.2.1 h.2.2.2.1 (syFs_g m h.2.2.2.2)
theorem syFs_g:∀ l:List Fo,Fo.fitL l→∀ x∈l,SyF x
 | [],_,x,h=>by cases h
 | y::l,hg,x,h=>by
   have h1:=syF_g y hg.1
   have h2:=syFs_g l hg.2
   rcases yax.1 h with e|h
   ·exact e▸h1
   ·exact h2 x h
end
end
section
def subs:Fo→List Fo
 | .mk _ _ _ m=>m
def findF:Fo→List Int→Option Fo
 | f,[]=>some f
 | f,i::l=>if 0≤i∧i<(subs f).length then findF ((subs f).getD i.toNat fo0) l else none
theorem zcu (f:Fo) (i:Int) (l:List Int):findF f (i::l)=if 0≤i∧i<(subs f).length then findF ((subs f).getD i.toNat fo0) l else none:=by rw [findF]
theorem zd1 (f:Fo):findF f []=some f:=by rw [findF]
def encI (i:Int):List AV:=[.int .i64 i]
theorem ze7 (n:Nat) (l:List Int):zae n (l.flatMap encI):=belowL_flat _ fun x=>by simp [encI,zae,below]
theorem fo0_cells:fo0.cells=[.int .u8 0,.str .empty,.sl none 0 [],.sl none 0 []]:=by
 unfold fo0
 rw [zad]
 rfl
attribute [local irreducible] VW VCall VO bits
def findA:Option Fo→AV
 | some g=>.tup [.agg g.cells,.bool true]
 | none=>.tup [.agg fo0.cells,.bool false]
def atA:Option Fo→AV
 | some g=>.tup [.agg g.cells,.int .i64 0]
 | none=>.tup [.agg fo0.cells,.int .i64 6]
theorem find_c (f:Fo) (hg:f.good) (pl:List Int) (hl:pl.length≤9223372036854775807) (H:Heap):VDet Tryd.prog 39 [.agg f.cells,.sl none pl.length (pl.flatMap encI)] H (findA (findF f pl)):=by
 obtain ⟨op,s,l,m,rfl⟩:=fo_ex f
 rw [zad]
 refine zai Tryd.E0 zab Tryd.func39 (by kernel_rfl) rfl (ybq rfl) rfl fun hcl hbl=>?_
 conv=>whnf
 rw [← zad]
 refine zcf Tryd.E0 zab (σ:=Nat×Fo) (fun p=>p.1≤pl.length∧p.2.good∧findF p.2 (pl.drop p.1)=findF (.mk op s l m) pl) (fun p=>pl.length-p.1) (fun p=>[(10,.v (.int .i64 p.1))]) (fun p=>[.box 25 p.2.cells,.box 25 [.int .u8 0,.str .empty,.nils,.nils]]) _ (0,.mk op s l m) rfl hcl [2,4,8,9] rfl ⟨yah _,hg,rfl⟩ ⟨⟨_,rfl,yae _⟩,trivial⟩ rfl (fun _ _=>rfl) ?_
 rintro ⟨j,g⟩ ⟨hj,hgg,hinv⟩
 simp only at hj hgg hinv
 clear hbl
 by_cases hlt:j<pl.length
 ·rw [zb6 pl 0 j hlt,zcu] at hinv
  generalize hi:pl.getD j 0=i at *
  have qi:encI (pl.getD j 0)=[.int .i64 i]:=by rw [hi];rfl
  obtain ⟨o,t,a,b,rfl⟩:=fo_ex g
  simp only [zad]
  have hbl:=zak hgg.2.2.2.2.1
  by_cases hin:0≤i∧i<(b.length:Int)
  ·rw [if_pos (by exact hin)] at hinv
   obtain ⟨h0,h1⟩:=hin
   have hlt2:i.toNat<b.length:=by omega
   have hgx:=zbp hgg.2.2.2.2.2 _ (zav b i.toNat fo0 hlt2)
   obtain ⟨o2,t2,a2,b2,e1⟩:=fo_ex (b.getD i.toNat fo0)
   have q1:(b.getD i.toNat fo0).cells=[.int .u8 o2,.str t2,.sl none a2.length (a2.flatMap Tm.cells),.sl none b2.length (b2.flatMap Fo.cells)]:=by rw [e1,zad]
   (repeat' ((conv=>whnf);(first|(refine yai ?_;first|refine zal (by omega) ?_|refine zan (by omega) ?_|fail)|(refine zaz _ _ Cst.h Cst.h ?_ ?_;· omega)|(refine yaf ?_ ?_;· first|omega|exact yaa _ _|fail)|refine zaf 0 j rfl hlt (fun _=>rfl) qi ?_|refine zaf fo0 i.toNat (by omega) hlt2 zba q1 ?_|fail)));conv=>whnf
   rw [← q1]
   (refine ⟨⟨(j+1,b.getD i.toNat fo0),⟨by show j+1≤pl.length;omega,hgx,hinv⟩,by omega,?_,.inl ⟨rfl,rfl⟩,rfl,_,rfl,?_⟩⟩;rotate_left 1;exact .inl rfl;exact ⟨⟨_,rfl,yae _⟩,trivial⟩)
  ·rw [if_neg (by exact hin)] at hinv
   rw [← hinv]
   unfold findA
   rw [fo0_cells]
   by_cases h0:i<0
   ·(repeat' ((conv=>whnf);(first|refine zal (by omega) ?_|(refine yaf ?_ ?_;· first|omega|exact yaa _ _|fail)|refine zaf 0 j rfl hlt (fun _=>rfl) qi ?_|fail)));conv=>whnf
    exact yaz (by simp [below,zae]) (wk_tup ⟨wk_agg ⟨yae _,yae _,zcd,zcd,trivial⟩,yae _,trivial⟩)
   ·have h1:(b.length:Int)≤i:=by omega
    (repeat' ((conv=>whnf);(first|(refine yai ?_;first|refine zal (by omega) ?_|refine zan (by omega) ?_|fail)|(refine yaf ?_ ?_;· first|omega|exact yaa _ _|fail)|refine zaf 0 j rfl hlt (fun _=>rfl) qi ?_|fail)));conv=>whnf
    exact yaz (by simp [below,zae]) (wk_tup ⟨wk_agg ⟨yae _,yae _,zcd,zcd,trivial⟩,yae _,trivial⟩)
 ·rw [yco (by omega),zd1] at hinv
  rw [← hinv]
  unfold findA
  obtain ⟨o,t,a,b,rfl⟩:=fo_ex g
  simp only [zad]
  (repeat' ((conv=>whnf);(first|refine zan (by omega) ?_|fail)));conv=>whnf
  exact eT (by simp [below,zae,zas,zat])
theorem findF_fit:∀ (pl:List Int) (f g:Fo),f.fit→findF f pl=some g→g.fit
 | [],f,g,h,e=>by
   rw [zd1] at e
   cases e
   exact h
 | i::l,f,g,h,e=>by
   rw [zcu] at e
   split at e
   ·rename_i hi
    obtain ⟨o,t,a,b,rfl⟩:=fo_ex f
    refine findF_fit l _ g (zf0 h.2.2.2.2 _ (zav b i.toNat fo0 ?_)) e
    have h2:i<(b.length:Int):=hi.2
    omega
   ·cases e
theorem findF_good:∀ (pl:List Int) (f g:Fo),f.good→findF f pl=some g→g.good
 | [],f,g,h,e=>by
   rw [zd1] at e
   cases e
   exact h
 | i::l,f,g,h,e=>by
   rw [zcu] at e
   split at e
   ·rename_i hi
    obtain ⟨o,t,a,b,rfl⟩:=fo_ex f
    refine findF_good l _ g (zbp h.2.2.2.2.2 _ (zav b i.toNat fo0 ?_)) e
    have h2:i<(b.length:Int):=hi.2
    omega
   ·cases e
theorem at_c (f:Fo) (hg:f.good) (hf:f.fit) (pl:List Int) (hl:pl.length≤9223372036854775807) (H:Heap):VDet Tryd.prog 12 [.agg f.cells,.sl none pl.length (pl.flatMap encI)] H (atA (findF f pl)):=by
 have h1:=find_c f hg pl hl
 have h2:=fun g (e:findF f pl=some g)=>syF_g g (findF_fit pl f g hf e)
 generalize findF f pl=r at *
 obtain ⟨op,s,l,m,rfl⟩:=fo_ex f
 rw [zad] at h1 ⊢
 generalize l.flatMap Tm.cells=lc at *
 generalize m.flatMap Fo.cells=mc at *
 generalize l.length=ln at *
 generalize m.length=mn at *
 cases r with
 | some g =>
   have h2:=h2 g rfl
   unfold SyF at h2
   unfold findA at h1
   unfold atA
   simp only at h1 ⊢
   obtain ⟨o,t,a,b,rfl⟩:=fo_ex g
   rw [zad] at h1 h2 ⊢
   refine zai Tryd.E0 zab Tryd.func12 (by kernel_rfl) rfl (ybq rfl) rfl fun hcl hbl=>?_
   (repeat' ((conv=>whnf);(first|(refine yai ?_;first|refine yar ?_|refine yaq rfl ?_|fail)|(refine ybf ?_;first|refine yab _ (h1 _) ?_|refine yab _ (h2 _) ?_|fail)|fail)));conv=>whnf
   exact eT (by simp [below,zae,zas,zat])
 | none =>
   unfold findA at h1
   unfold atA
   simp only at h1 ⊢
   rw [fo0_cells] at h1 ⊢
   refine zai Tryd.E0 zab Tryd.func12 (by kernel_rfl) rfl (ybq rfl) rfl fun hcl hbl=>?_
   (repeat' ((conv=>whnf);(first|(refine yai ?_;first|refine yar ?_|refine yat rfl ?_|fail)|refine yab _ (h1 _) ?_|fail)));conv=>whnf
   exact yaz (by simp [below,zae]) (wk_tup ⟨wk_agg ⟨yae _,yae _,zcd,zcd,trivial⟩,yae _,trivial⟩)
end
end Go.Proofs.YtejegcmnddedmaaDoor
namespace Go.Proofs.YtejegcmnddedmaaDoor
section
open Go.Shelf Go.RowKit Go.Lib Go.Sort
theorem nan84_k (x:Int) (W:World):Calls Tryd.prog 84 #[.int .i64 x] W fun e w'=>e=.returned (.bool false)∧w'=W:=by
 go_enter Tryd.func84,Tryd.ntmps84
 go_wp2_with fail
 go_ret
 simp
theorem cmp62_k (x y:Int) (W:World):Calls Tryd.prog 62 #[.int .i64 x,.int .i64 y] W fun e w'=>e=.returned (.int .i64 (cmpI x y))∧w'=W:=by
 have hcon:=nan84_k
 unfold cmpI
 by_cases h1:x<y
 ·rw [if_pos h1]
  go_enter Tryd.func62,Tryd.ntmps62
  go_wp2_with (go_at_call 84;refine (hcon _ _).mono ?_;rintro e w' ⟨rfl,rfl⟩)
  all_goals (try simp [h1])
  all_goals go_ret
  all_goals exact ⟨rfl,rfl⟩
 ·rw [if_neg h1]
  by_cases h2:y<x
  ·rw [if_pos h2]
   go_enter Tryd.func62,Tryd.ntmps62
   go_wp2_with (go_at_call 84;refine (hcon _ _).mono ?_;rintro e w' ⟨rfl,rfl⟩)
   all_goals (try simp [h1,h2])
   all_goals go_ret
   all_goals exact ⟨rfl,rfl⟩
  ·rw [if_neg h2]
   go_enter Tryd.func62,Tryd.ntmps62
   go_wp2_with (go_at_call 84;refine (hcon _ _).mono ?_;rintro e w' ⟨rfl,rfl⟩)
   all_goals (try simp [h1,h2])
   all_goals go_ret
   all_goals exact ⟨rfl,rfl⟩
theorem cmp31_k (a b:ByteArray) (W:World):Calls Tryd.prog 31 #[.string a,.string b] W fun e w'=>e=.returned (.int .i64 (cmpB a b))∧w'=W:=by
 have hc:=Any.strings_Compare Tryd.cmp31 a b W
 change Calls Tryd.prog 31 _ _ _ at hc
 refine hc.mono ?_
 rintro e w' ⟨rfl,rfl⟩
 refine ⟨?_,rfl⟩
 rw [cmpb_eq]
 rfl
def symV (x:ByteArray×Nat):List Value:=[.string x.1,.int .i64 (x.2:Nat)]
def cSym (x y:ByteArray×Nat):Int:=andC (cmpB x.1 y.1) (cmpI (x.2:Nat) (y.2:Nat))
theorem clo76_k (x y:ByteArray×Nat) (W:World):Calls Tryd.prog 76 #[.agg #[.string x.1,.int .i64 (x.2:Nat)],.agg #[.string y.1,.int .i64 (y.2:Nat)]] W fun e w'=>e=.returned (.int .i64 (cSym x y))∧∃ q os',w'=grow (W.drewN q) os':=by
 have hs:=cmp31_k x.1 y.1
 have hi:=cmp62_k (x.2:Nat) (y.2:Nat)
 unfold cSym andC
 generalize cmpB x.1 y.1=c at *
 generalize cmpI (x.2:Nat) (y.2:Nat)=d at *
 by_cases h0:c=0
 ·rw [if_pos h0]
  go_enter Tryd.func76,Tryd.ntmps76
  go_wp2_with (first|(go_at_call 31;refine (hs _).mono ?_;rintro e w' ⟨rfl,rfl⟩)|(go_at_call 62;refine (hi _).mono ?_;rintro e w' ⟨rfl,rfl⟩))
  all_goals (try simp [h0])
  all_goals go_ret
  all_goals exact ⟨rfl,0,_,by rw [alloc_eq_grow,alloc_eq_grow,grow_grow];rfl⟩
 ·rw [if_neg h0]
  go_enter Tryd.func76,Tryd.ntmps76
  go_wp2_with (first|(go_at_call 31;refine (hs _).mono ?_;rintro e w' ⟨rfl,rfl⟩)|(go_at_call 62;refine (hi _).mono ?_;rintro e w' ⟨rfl,rfl⟩))
  all_goals (try simp [h0])
  all_goals go_ret
  all_goals exact ⟨rfl,0,_,by rw [alloc_eq_grow,alloc_eq_grow,grow_grow];rfl⟩
theorem clo76_lays (blk off size:Nat) (w:World):CmpLays Tryd.prog 76 #[] symV 2 cSym blk off size w :=
 fun _ _ _ _ x y=>clo76_k x y _
end
section
open Go.Shelf
def Tryd.sortf87_ren:Go.Shelf.Ren:=⟨fun|6=>87|15=>92|14=>91|28=>101|29=>102|20=>93|21=>94|22=>95|23=>96|24=>97|25=>98|26=>99|27=>100|46=>103|47=>104|48=>105|49=>106|50=>107|57=>108|n=>n,fun|22=>44|24=>50|25=>102|3=>3|39=>111|0=>0|53=>41|55=>122|4=>4|46=>114|45=>113|50=>118|5=>5|9=>9|66=>123|70=>127|76=>129|77=>130|n=>n,fun|n=>n⟩
theorem Tryd.sortf87:Go.Proofs.SlLaysF0.n6 Tryd.prog Tryd.sortf87_ren:={
 mixed:=by kernel_rfl
 f6:=⟨Tryd.f87.name,by decide,Tryd.func87.trans (congrArg some (by kernel_rfl))⟩
 f14:=⟨Tryd.f91.name,by decide,Tryd.func91.trans (congrArg some (by kernel_rfl))⟩
 f15:=Tryd.func92.trans (congrArg some (by kernel_rfl))
 f20:=⟨Tryd.f93.name,by decide,Tryd.func93.trans (congrArg some (by kernel_rfl))⟩
 f21:=⟨Tryd.f94.name,by decide,Tryd.func94.trans (congrArg some (by kernel_rfl))⟩
 f22:=⟨Tryd.f95.name,by decide,Tryd.func95.trans (congrArg some (by kernel_rfl))⟩
 f23:=⟨Tryd.f96.name,by decide,Tryd.func96.trans (congrArg some (by kernel_rfl))⟩
 f24:=⟨Tryd.f97.name,by decide,Tryd.func97.trans (congrArg some (by kernel_rfl))⟩
 f25:=⟨Tryd.f98.name,by decide,Tryd.func98.trans (congrArg some (by kernel_rfl))⟩
 f26:=⟨Tryd.f99.name,by decide,Tryd.func99.trans (congrArg some (by kernel_rfl))⟩
 f27:=⟨Tryd.f100.name,by decide,Tryd.func100.trans (congrArg some (by kernel_rfl))⟩
 f28:=Tryd.func101.trans (congrArg some (by kernel_rfl))
 f29:=Tryd.func102.trans (congrArg some (by kernel_rfl))
 f46:=⟨Tryd.f103.name,by decide,Tryd.func103.trans (congrArg some (by kernel_rfl))⟩
 f47:=Tryd.func104.trans (congrArg some (by kernel_rfl))
 f48:=Tryd.func105.trans (congrArg some (by kernel_rfl))
 f49:=⟨Tryd.f106.name,by decide,Tryd.func106.trans (congrArg some (by kernel_rfl))⟩
 f50:=⟨Tryd.f107.name,by decide,Tryd.func107.trans (congrArg some (by kernel_rfl))⟩
 f57:=⟨Tryd.f108.name,by decide,Tryd.func108.trans (congrArg some (by kernel_rfl))⟩
 t0:=Tryd.underlying0
 a0:=Tryd.isAgg0
 z0:=Tryd.sizeOf0
 v0:=Tryd.zeroValue0
 t3:=Tryd.underlying3
 a3:=Tryd.isAgg3
 z3:=Tryd.sizeOf3
 v3:=Tryd.zeroValue3
 t4:=Tryd.underlying4
 a4:=Tryd.isAgg4
 z4:=Tryd.sizeOf4
 v4:=Tryd.zeroValue4
 t5:=Tryd.underlying5
 a5:=Tryd.isAgg5
 z5:=Tryd.sizeOf5
 v5:=Tryd.zeroValue5
 t9:=Tryd.underlying9
 a9:=Tryd.isAgg9
 z9:=Tryd.sizeOf9
 v9:=Tryd.zeroValue9
 t22:=Tryd.underlying44
 a22:=Tryd.isAgg44
 z22:=Tryd.sizeOf44
 v22:=Tryd.zeroValue44
 t25:=Tryd.underlying102
 a25:=Tryd.isAgg102
 z25:=Tryd.sizeOf102
 v25:=Tryd.zeroValue102
 t39:=Tryd.underlying111
 a39:=Tryd.isAgg111
 z39:=Tryd.sizeOf111
 v39:=Tryd.zeroValue111
 t45:=Tryd.underlying113
 a45:=Tryd.isAgg113
 z45:=Tryd.sizeOf113
 v45:=Tryd.zeroValue113
 t46:=Tryd.underlying114
 a46:=Tryd.isAgg114
 z46:=Tryd.sizeOf114
 v46:=Tryd.zeroValue114
 t50:=Tryd.underlying118
 a50:=Tryd.isAgg118
 z50:=Tryd.sizeOf118
 v50:=Tryd.zeroValue118
 t53:=Tryd.underlying41
 a53:=Tryd.isAgg41
 z53:=Tryd.sizeOf41
 v53:=Tryd.zeroValue41
 t55:=Tryd.underlying122
 a55:=Tryd.isAgg122
 z55:=Tryd.sizeOf122
 v55:=Tryd.zeroValue122
 t66:=Tryd.underlying123
 a66:=Tryd.isAgg123
 z66:=Tryd.sizeOf123
 v66:=Tryd.zeroValue123
 t70:=Tryd.underlying127
 a70:=Tryd.isAgg127
 z70:=Tryd.sizeOf127
 v70:=Tryd.zeroValue127
 t76:=Tryd.underlying129
 a76:=Tryd.isAgg129
 z76:=Tryd.sizeOf129
 v76:=Tryd.zeroValue129
 t77:=Tryd.underlying130
 a77:=Tryd.isAgg130
 z77:=Tryd.sizeOf130
 v77:=Tryd.zeroValue130 }
end
end Go.Proofs.YtejegcmnddedmaaDoor
