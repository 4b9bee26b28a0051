/- A text of the proof: the parts Y02z, CA02z, A02z, SG02z, SH02z, SI02z, SJ02z, B02z, C02z, D02z, E02z, F02z, G02z, H02z, GA02z, GB02z, GC02z, IA02z, JA02z, MA02z. -/
import Derived.Shelf.Small.Strs
import Derived.Test.YtejegcmnddedmaaGreatDoorK8
set_option linter.unusedSimpArgs false
set_option linter.unusedVariables false
set_option maxHeartbeats 8000000
namespace Go.Proofs.YtejegcmnddedmaaGreatDoor
section
open Go.Shelf
def Tryz.cmp31_ren:Go.Shelf.Ren:=⟨fun|106=>45|213=>78|265=>94|n=>n,fun|9=>9|3=>3|n=>n,fun|n=>n⟩
theorem Tryz.cmp31:Go.Proofs.Lays.n106 Tryz.prog Tryz.cmp31_ren:={
 mixed:=by kernel_rfl
 f106:=Tryz.func45.trans (congrArg some (by kernel_rfl))
 f213:=Tryz.func78.trans (congrArg some (by kernel_rfl))
 f265:=Tryz.func94.trans (congrArg some (by kernel_rfl))
 t3:=Tryz.underlying3
 a3:=Tryz.isAgg3
 z3:=Tryz.sizeOf3
 v3:=Tryz.zeroValue3
 t9:=Tryz.underlying9
 a9:=Tryz.isAgg9
 z9:=Tryz.sizeOf9
 v9:=Tryz.zeroValue9 }
end
end Go.Proofs.YtejegcmnddedmaaGreatDoor
namespace Go.Proofs.YtejegcmnddedmaaGreatDoor
open Go.Vsi
def cmpI (a b:Int):Int:=if a<b then -1 else if b<a then 1 else 0
def cmpB (a b:ByteArray):Int:=if a.data.toList<b.data.toList then -1 else if b.data.toList<a.data.toList then 1 else 0
def cmpV (v w:Bool):Int:=if v=w then 0 else if v then -1 else 1
def andC (c d:Int):Int:=if c=0 then d else c
mutual
def cT:Tm→Tm→Int
 | .mk v s l,.mk w t m=>andC (cmpV v w) (andC (cmpB s t) (andC (cmpI l.length m.length) (cTs l m)))
def cTs:List Tm→List Tm→Int
 | x::l,y::m=>andC (cT x y) (cTs l m)
 | _,_=>0
end
mutual
def cF:Fo→Fo→Int
 | .mk op s l a,.mk oq t m b=>andC (cmpI op oq) (andC (cmpB s t) (andC (andC (cmpI l.length m.length) (cTs l m)) (andC (cmpI a.length b.length) (cFs a b))))
def cFs:List Fo→List Fo→Int
 | x::l,y::m=>andC (cF x y) (cFs l m)
 | _,_=>0
end
theorem cTs_cons (x y:Tm) (l m:List Tm):cTs (x::l) (y::m)=andC (cT x y) (cTs l m):=by rw [cTs.eq_def]
theorem cFs_cons (x y:Fo) (l m:List Fo):cFs (x::l) (y::m)=andC (cF x y) (cFs l m):=by rw [cFs.eq_def]
theorem cTs_nil (m:List Tm):cTs [] m=0:=by rw [cTs.eq_def]
theorem cFs_nil (m:List Fo):cFs [] m=0:=by rw [cFs.eq_def]
theorem cT_mk (v w:Bool) (s t:ByteArray) (l m:List Tm):cT (.mk v s l) (.mk w t m)=andC (cmpV v w) (andC (cmpB s t) (andC (cmpI l.length m.length) (cTs l m))):=by rw [cT.eq_def]
theorem cF_mk (op oq:Nat) (s t:ByteArray) (l m:List Tm) (a b:List Fo):cF (.mk op s l a) (.mk oq t m b)=andC (cmpI op oq) (andC (cmpB s t) (andC (andC (cmpI l.length m.length) (cTs l m)) (andC (cmpI a.length b.length) (cFs a b)))):=by rw [cF.eq_def]
structure OrdAt {α:Type} (c:α→α→Int) (a:α):Prop where
 rng:∀ b,c a b=-1∨c a b=0∨c a b=1
 anti:∀ b,c b a=- c a b
 eq:∀ b,c a b=0→a=b
 refl:c a a=0
 tr:∀ b d,c a b≤0→c b d≤0→c a d≤0∧(c a d=0→c a b=0∧c b d=0)
theorem and_rng {c d:Int} (h1:c=-1∨c=0∨c=1) (h2:d=-1∨d=0∨d=1):andC c d=-1∨andC c d=0∨andC c d=1:=by
 unfold andC;split <;> assumption
theorem and_neg (c d:Int):andC (-c) (-d)=- andC c d:=by
 unfold andC
 by_cases h:c=0
 ·rw [if_pos h,if_pos (by omega)]
 ·rw [if_neg h,if_neg (by omega)]
theorem and_zero {c d:Int}:andC c d=0↔c=0∧d=0:=by
 unfold andC;split
 ·exact ⟨fun h=>⟨by assumption,h⟩,fun h=>h.2⟩
 ·exact ⟨fun h=>absurd h (by assumption),fun h=>h.1⟩
theorem and_tr {c1 c2 c3 d1 d2 d3:Int} (hc:c1≤0→c2≤0→c3≤0∧(c3=0→c1=0∧c2=0)) (hc0:c1=0→c2=0→c3=0) (hd:c1=0→c2=0→d1≤0→d2≤0→d3≤0∧(d3=0→d1=0∧d2=0)) (h1:andC c1 d1≤0) (h2:andC c2 d2≤0) :
  andC c3 d3≤0∧(andC c3 d3=0→andC c1 d1=0∧andC c2 d2=0):=by
 unfold andC at *
 by_cases e1:c1=0
 ·by_cases e2:c2=0
  ·have e3:=hc0 e1 e2
   rw [if_pos e1] at h1 ⊢
   rw [if_pos e2] at h2 ⊢
   rw [if_pos e3]
   exact hd e1 e2 h1 h2
  ·rw [if_pos e1] at h1 ⊢
   rw [if_neg e2] at h2 ⊢
   have:=hc (by omega) h2
   have e3:c3≠0:=fun h=>e2 (this.2 h).2
   rw [if_neg e3]
   exact ⟨this.1,fun h=>absurd h e3⟩
 ·rw [if_neg e1] at h1 ⊢
  have h2':c2≤0:=by
   by_cases e2:c2=0
   ·omega
   ·rw [if_neg e2] at h2;exact h2
  have:=hc h1 h2'
  have e3:c3≠0:=fun h=>e1 (this.2 h).1
  rw [if_neg e3]
  exact ⟨this.1,fun h=>absurd h e3⟩
theorem ordI (a:Int):OrdAt cmpI a:=⟨fun b=>by unfold cmpI;split <;> (try split) <;> omega,fun b=>by unfold cmpI;repeat' split <;> omega,fun b h=>by unfold cmpI at h;split at h <;> (try split at h) <;> omega,by unfold cmpI;split <;> (try split) <;> omega,fun b d h1 h2=>by
 have ha:a≤b:=by unfold cmpI at h1;split at h1 <;> (try split at h1) <;> omega
 have hb:b≤d:=by unfold cmpI at h2;split at h2 <;> (try split at h2) <;> omega
 refine ⟨by unfold cmpI;split <;> (try split) <;> omega,fun h=>?_⟩
 have:a=d:=by unfold cmpI at h;split at h <;> (try split at h) <;> omega
 obtain rfl:a=b:=by omega
 obtain rfl:a=d:=by omega
 unfold cmpI
 simp⟩
theorem ordV (a:Bool):OrdAt cmpV a:=⟨fun b=>by cases a <;> cases b <;> decide,fun b=>by cases a <;> cases b <;> decide,fun b=>by cases a <;> cases b <;> decide,by cases a <;> decide,fun b d=>by cases a <;> cases b <;> cases d <;> decide⟩
theorem lt_asymmL {a b:List UInt8} (h:a<b):¬ b<a:=List.lt_asymm h
theorem cmpB_zero {a b:ByteArray}:cmpB a b=0↔a=b:=by
 constructor
 ·intro h
  unfold cmpB at h
  split at h
  ·cases h
  ·split at h
   ·cases h
   ·rename_i h1 h2
    have:a.data.toList=b.data.toList:=List.le_antisymm (List.not_lt.1 h2) (List.not_lt.1 h1)
    obtain ⟨⟨x⟩⟩:=a
    obtain ⟨⟨y⟩⟩:=b
    simp only at this
    rw [this]
 ·rintro rfl
  unfold cmpB
  rw [if_neg (List.lt_irrefl _),if_neg (List.lt_irrefl _)]
theorem cmpB_le {a b:ByteArray}:cmpB a b≤0↔a.data.toList≤b.data.toList:=by
 unfold cmpB
 constructor
 ·intro h
  split at h
  ·exact List.le_of_lt (by assumption)
  ·split at h
   ·omega
   ·exact List.not_lt.1 (by assumption)
 ·intro h
  split
  ·omega
  ·rw [if_neg (List.not_lt.2 h)]
   omega
theorem ordB (a:ByteArray):OrdAt cmpB a:=⟨fun b=>by unfold cmpB;split <;> (try split) <;> omega,fun b=>by
  unfold cmpB
  by_cases h1:a.data.toList<b.data.toList
  ·rw [if_neg (lt_asymmL h1),if_pos h1,if_pos h1]
   rfl
  ·rw [if_neg h1,if_neg h1]
   split <;> rfl,fun b h=>cmpB_zero.1 h,cmpB_zero.2 rfl,fun b d h1 h2=>by
 refine ⟨cmpB_le.2 (List.le_trans (cmpB_le.1 h1) (cmpB_le.1 h2)),fun h=>?_⟩
 obtain rfl:=cmpB_zero.1 h
 have:a=b:=by
  have h3:a.data.toList=b.data.toList:=List.le_antisymm (cmpB_le.1 h1) (cmpB_le.1 h2)
  obtain ⟨⟨x⟩⟩:=a
  obtain ⟨⟨y⟩⟩:=b
  simp only at h3
  rw [h3]
 subst this
 exact ⟨cmpB_zero.2 rfl,cmpB_zero.2 rfl⟩⟩
theorem ordP {α β:Type} {c:α→α→Int} {d:β→β→Int} {a:α} {b:β} (h1:OrdAt c a) (hr:∀ a,c a a=0) (h2:OrdAt d b):OrdAt (fun p q:α×β=>andC (c p.1 q.1) (d p.2 q.2)) (a,b) :=
 ⟨fun q=>and_rng (h1.rng _) (h2.rng _),fun q=>by
  show andC (c q.1 a) (d q.2 b)=- andC (c a q.1) (d b q.2)
  rw [h1.anti,h2.anti,and_neg],fun q h=>by
  obtain ⟨e1,e2⟩:=and_zero.1 h
  exact Prod.ext (h1.eq _ e1) (h2.eq _ e2),and_zero.2 ⟨h1.refl,h2.refl⟩,fun q r e1 e2=>and_tr (h1.tr _ _) (fun z1 z2=>by
   have:=h1.eq _ z1
   rw [this]
   exact z2) (fun z1 z2=>h2.tr _ _) e1 e2⟩
theorem ordF {α β:Type} {c:α→α→Int} {d:β→β→Int} (f:α→β) (hi:∀ x y,f x=f y→x=y) (he:∀ x y,c x y=d (f x) (f y)) {a:α} (h:OrdAt d (f a)):OrdAt c a :=
 ⟨fun b=>by rw [he];exact h.rng _,fun b=>by rw [he,he];exact h.anti _,fun b e=>hi _ _ (h.eq _ (by rw [← he];exact e)),by rw [he];exact h.refl,fun b e e1 e2=>by
  rw [he] at e1 e2
  rw [he,he,he]
  exact h.tr _ _ e1 e2⟩
def zipC {α:Type} (c:α→α→Int):List α→List α→Int
 | x::l,y::m=>andC (c x y) (zipC c l m)
 | _,_=>0
def cmpL {α:Type} (c:α→α→Int) (l m:List α):Int:=andC (cmpI l.length m.length) (zipC c l m)
theorem zcr {a b:Int}:cmpI a b=0↔a=b:=⟨fun h=>(ordI a).eq b h,fun h=>h▸(ordI a).refl⟩
theorem cmpI_nat {a b:Nat}:cmpI a b=0↔a=b:=by rw [zcr];omega
theorem zip_rng {α:Type} {c:α→α→Int}:∀ l:List α,(∀ x∈l,OrdAt c x)→∀ m,zipC c l m=-1∨zipC c l m=0∨zipC c l m=1
 | [],_,m=>.inr (.inl (by unfold zipC;rfl))
 | x::l,h,[]=>.inr (.inl (by unfold zipC;rfl))
 | x::l,h,y::m=>and_rng ((h x (ya9 ..)).rng _) (zip_rng l (fun z hz=>h z (ya2 _ hz)) m)
theorem zip_anti {α:Type} {c:α→α→Int}:∀ l:List α,(∀ x∈l,OrdAt c x)→∀ m,zipC c m l=- zipC c l m
 | [],_,[]=>by unfold zipC;rfl
 | [],_,y::m=>by unfold zipC;rfl
 | x::l,h,[]=>by unfold zipC;rfl
 | x::l,h,y::m=>by
   unfold zipC
   rw [(h x (ya9 ..)).anti,zip_anti l (fun z hz=>h z (ya2 _ hz)) m,and_neg]
theorem zip_eq {α:Type} {c:α→α→Int}:∀ l:List α,(∀ x∈l,OrdAt c x)→∀ m,l.length=m.length→zipC c l m=0→l=m
 | [],_,[],_,_=>rfl
 | [],_,y::m,h,_=>by simp at h
 | x::l,_,[],h,_=>by simp at h
 | x::l,h,y::m,hl,hz=>by
   obtain ⟨e1,e2⟩:=and_zero.1 hz
   rw [(h x (ya9 ..)).eq _ e1,zip_eq l (fun z hz=>h z (ya2 _ hz)) m (by simpa using hl) e2]
theorem zip_refl {α:Type} {c:α→α→Int}:∀ l:List α,(∀ x∈l,OrdAt c x)→zipC c l l=0
 | [],_=>by unfold zipC;rfl
 | x::l,h=>and_zero.2 ⟨(h x (ya9 ..)).refl,zip_refl l (fun z hz=>h z (ya2 _ hz))⟩
theorem zip_tr {α:Type} {c:α→α→Int}:∀ l:List α,(∀ x∈l,OrdAt c x)→∀ m n,l.length=m.length→m.length=n.length→zipC c l m≤0→zipC c m n≤0→zipC c l n≤0∧(zipC c l n=0→zipC c l m=0∧zipC c m n=0)
 | [],_,[],[],_,_,_,_=>by unfold zipC;exact ⟨Int.le_refl _,fun _=>⟨rfl,rfl⟩⟩
 | [],_,y::m,_,h,_,_,_=>by simp at h
 | [],_,[],z::n,_,h,_,_=>by simp at h
 | x::l,_,[],_,h,_,_,_=>by simp at h
 | x::l,_,y::m,[],_,h,_,_=>by simp at h
 | x::l,h,y::m,z::n,h1,h2,e1,e2=>by
   have hx:=h x (ya9 ..)
   exact and_tr (hx.tr y z) (fun z1 z2=>by
    have:=hx.eq _ z1
    rw [this]
    exact z2) (fun _ _=>zip_tr l (fun z hz=>h z (ya2 _ hz)) m n (by simpa using h1) (by simpa using h2)) e1 e2
theorem ordL {α:Type} {c:α→α→Int} (l:List α) (h:∀ x∈l,OrdAt c x):OrdAt (cmpL c) l:=by
 refine ⟨fun m=>and_rng ((ordI _).rng _) (zip_rng l h m),fun m=>?_,fun m e=>?_,and_zero.2 ⟨(ordI _).refl,zip_refl l h⟩,fun m n e1 e2=>?_⟩
 ·unfold cmpL
  rw [(ordI _).anti,zip_anti l h,and_neg]
 ·obtain ⟨e1,e2⟩:=and_zero.1 e
  exact zip_eq l h m (cmpI_nat.1 e1) e2
 ·refine and_tr ((ordI _).tr _ _) (fun z1 z2=>?_) (fun z1 z2=>?_) e1 e2
  ·rw [cmpI_nat] at z1 z2 ⊢
   omega
  ·rw [cmpI_nat] at z1 z2
   exact zip_tr l h m n z1 z2
theorem zfx:∀ l m:List Tm,cTs l m=zipC cT l m
 | [],m=>by rw [cTs_nil];unfold zipC;rfl
 | x::l,[]=>by rw [cTs.eq_def];unfold zipC;rfl
 | x::l,y::m=>by
   rw [cTs_cons,zfx l m]
   rfl
theorem cFs_zip:∀ l m:List Fo,cFs l m=zipC cF l m
 | [],m=>by rw [cFs_nil];unfold zipC;rfl
 | x::l,[]=>by rw [cFs.eq_def];unfold zipC;rfl
 | x::l,y::m=>by
   rw [cFs_cons,cFs_zip l m]
   rfl
def tmP:Tm→Bool×ByteArray×List Tm
 | .mk v s l=>(v,s,l)
def foP:Fo→Int×ByteArray×List Tm×List Fo
 | .mk op s l a=>(op,s,l,a)
theorem ordT_of (v:Bool) (s:ByteArray) (l:List Tm) (h:OrdAt (cmpL cT) l):OrdAt cT (.mk v s l):=by
 refine ordF (d:=fun p q:Bool×ByteArray×List Tm=>andC (cmpV p.1 q.1) ((fun p q:ByteArray×List Tm=>andC (cmpB p.1 q.1) (cmpL cT p.2 q.2)) p.2 q.2)) tmP (fun x y e=>?_) (fun x y=>?_) (ordP (ordV v) (fun a=>(ordV a).refl) (ordP (ordB s) (fun a=>(ordB a).refl) h))
 ·obtain ⟨a,b,c⟩:=x
  obtain ⟨d,e,f⟩:=y
  simp only [tmP,yb1] at e
  rw [e.1,e.2.1,e.2.2]
 ·obtain ⟨a,b,c⟩:=x
  obtain ⟨d,e,f⟩:=y
  rw [cT_mk,zfx]
  rfl
mutual
theorem ordT:∀ a:Tm,OrdAt cT a
 | .mk v s l=>ordT_of v s l (ordL l (ordTs l))
theorem ordTs:∀ l:List Tm,∀ x∈l,OrdAt cT x
 | [],x,h=>by cases h
 | y::l,x,h=>by
   have h1:=ordT y
   have h2:=ordTs l
   rcases yax.1 h with e|h
   ·exact e▸h1
   ·exact h2 x h
end
theorem ordF_of (op:Nat) (s:ByteArray) (l:List Tm) (a:List Fo) (h:OrdAt (cmpL cF) a):OrdAt cF (.mk op s l a):=by
 refine ordF (d:=fun p q:Int×ByteArray×List Tm×List Fo=>andC (cmpI p.1 q.1) ((fun p q:ByteArray×List Tm×List Fo=>andC (cmpB p.1 q.1) ((fun p q:List Tm×List Fo=>andC (cmpL cT p.1 q.1) (cmpL cF p.2 q.2)) p.2 q.2)) p.2 q.2)) foP (fun x y e=>?_) (fun x y=>?_) (ordP (ordI op) (fun a=>(ordI a).refl) (ordP (ordB s) (fun a=>(ordB a).refl) (ordP (ordL l (ordTs l)) (fun a=>(ordL a (ordTs a)).refl) h)))
 ·obtain ⟨a,b,c,d⟩:=x
  obtain ⟨e,f,g,h⟩:=y
  simp only [foP,yb1,Int.ofNat_inj] at e
  rw [e.1,e.2.1,e.2.2.1,e.2.2.2]
 ·obtain ⟨a,b,c,d⟩:=x
  obtain ⟨e,f,g,h⟩:=y
  rw [cF_mk,zfx,cFs_zip]
  rfl
mutual
theorem ordFo:∀ a:Fo,OrdAt cF a
 | .mk op s l a=>ordF_of op s l a (ordL a (ordFos a))
theorem ordFos:∀ l:List Fo,∀ x∈l,OrdAt cF x
 | [],x,h=>by cases h
 | y::l,x,h=>by
   have h1:=ordFo y
   have h2:=ordFos l
   rcases yax.1 h with e|h
   ·exact e▸h1
   ·exact h2 x h
end
section
theorem cmpb_eq:∀ a b:List UInt8,Lib.compareBytes a b=if a<b then -1 else if b<a then 1 else 0
 | [],[]=>by simp [Lib.compareBytes]
 | [],_::_=>by simp [Lib.compareBytes]
 | _::_,[]=>by simp [Lib.compareBytes]
 | a::xs1,b::ys1=>by
   unfold Lib.compareBytes
   rw [cmpb_eq xs1 ys1]
   simp only [List.cons_lt_cons_iff]
   by_cases h1:a<b
   ·rw [if_pos h1,if_pos (.inl h1)]
   ·rw [if_neg h1]
    by_cases h2:b<a
    ·rw [if_pos h2,if_neg (fun h=>h.elim h1 fun h=>absurd (h.1▸h2) (by simp [UInt8.lt_irrefl])),if_pos (.inl h2)]
    ·rw [if_neg h2]
     have hab:a=b:=by
      apply UInt8.toNat_inj.1
      have h1:¬ a.toNat<b.toNat:=h1
      have h2:¬ b.toNat<a.toNat:=h2
      omega
     subst hab
     simp only [h1,false_or,true_and]
theorem strCmp_c (a b:ByteArray) (H:Heap):VDet Tryz.prog 45 [.str a,.str b] H (.int .i64 (cmpB a b)):=by
 refine ⟨⟨_,Tryz.func45,by kernel_rfl,rfl⟩,fun g w xs hH hL=>?_⟩
 simp only [LRel,VRel] at hL
 obtain ⟨c,r,has,rfl,d,r2,rfl,rfl,rfl⟩:=hL
 have has:xs=#[.string a,.string b]:=by simpa using congrArg List.toArray has
 subst has
 have hc:=Any.strings_Compare Tryz.cmp31 a b w
 change Calls Tryz.prog 45 _ _ _ at hc
 refine hc.mono ?_
 rintro e w' ⟨rfl,rfl⟩
 refine ⟨_,_,g,_,rfl,⟨rfl,rfl⟩,hH,?_,ycg _ _⟩
 simp only [VRel]
 rw [cmpb_eq]
 rfl
attribute [local irreducible] VW VCall VO bits
theorem nan8_c (a:Nat) (H:Heap):VDet Tryz.prog 77 [.int .u8 a] H (.bool false):=by
 refine zah Tryz.E0 zab Tryz.func77 (by kernel_rfl) rfl (ybq rfl) rfl fun hcl hbl=>?_
 conv=>whnf
 exact yaz trivial (Wk.of_eq (by simp))
theorem nan_c (a:Int) (H:Heap):VDet Tryz.prog 95 [.int .i64 a] H (.bool false):=by
 refine zah Tryz.E0 zab Tryz.func95 (by kernel_rfl) rfl (ybq rfl) rfl fun hcl hbl=>?_
 conv=>whnf
 exact yaz trivial (Wk.of_eq (by simp))
theorem cmp8_c (a b:Nat) (H:Heap):VDet Tryz.prog 44 [.int .u8 a,.int .u8 b] H (.int .i64 (cmpI a b)):=by
 refine zah Tryz.E0 zab Tryz.func44 (by kernel_rfl) rfl (ybq rfl) rfl fun hcl hbl=>?_
 (repeat' ((conv=>whnf);(first|(refine yai ?_;first|refine yat rfl ?_|refine zc6 (fun _=>?_) (fun _=>?_)|fail)|refine yab _ (nan8_c _ _) ?_|fail)));all_goals (conv=>whnf)
 all_goals
  refine yaz trivial (Wk.of_eq (congrArg (AV.int .i64) ?_))
  unfold cmpI
  repeat' split
  all_goals omega
theorem cmpi_c (a b:Int) (H:Heap):VDet Tryz.prog 79 [.int .i64 a,.int .i64 b] H (.int .i64 (cmpI a b)):=by
 refine zah Tryz.E0 zab Tryz.func79 (by kernel_rfl) rfl (ybq rfl) rfl fun hcl hbl=>?_
 (repeat' ((conv=>whnf);(first|(refine yai ?_;first|refine yat rfl ?_|refine zc6 (fun _=>?_) (fun _=>?_)|fail)|refine yab _ (nan_c _ _) ?_|fail)));all_goals (conv=>whnf)
 all_goals
  refine yaz trivial (Wk.of_eq (congrArg (AV.int .i64) ?_))
  unfold cmpI
  repeat' split
  all_goals omega
end
section
def inR (a b:Nat) (c:UInt8):Bool:=decide (a≤c.toNat)&&decide (c.toNat≤b)
def isCap:UInt8→Bool:=inR 65 90
def isSml:UInt8→Bool:=inR 97 122
def isDig:UInt8→Bool:=inR 48 57
def isAln (c:UInt8):Bool:=isSml c || (isCap c || isDig c)
def isVa1:UInt8→Bool:=inR 117 122
def isFu1:UInt8→Bool:=inR 97 116
def wordE (s:ByteArray) (l:Array UInt8):Bool:=s.toList==(ByteArray.mk l).toList
def isRes (s:ByteArray):Bool:=wordE s #[97,108,108] || (wordE s #[115,111,109,101] || (wordE s #[102,97,108,115,101] || (wordE s #[110,101,120,116] || (wordE s #[97,108,119,97,121,115] || wordE s #[117,110,116,105,108]))))
def bt (s:ByteArray) (i:Nat):UInt8:=s.data.toList.getD i 0
def nameB (p q:UInt8→Bool) (s:ByteArray):Bool:=decide (1≤s.size∧s.size≤16)&&(!isRes s&&(p (bt s 0)&&(List.range' 1 (s.size-1)).all fun i=>q (bt s i)))
def zfm:ByteArray→Bool:=nameB isCap isAln
def isVar:ByteArray→Bool:=nameB isVa1 isDig
def isFun:ByteArray→Bool:=nameB isFu1 isAln
theorem bt_get (s:ByteArray) (i:Nat) (h:i<s.size) (j:Int) (hj:j=i):s[j.toNat]? = some (bt s i):=by
 subst hj
 rw [ybg]
 have h2:i<s.data.toList.length:=by simpa using h
 have:s[i]? = s.data[i]? := by
  rw [getElem?_pos s i h]
  rw [ybp (show i<s.data.size from h)]
  rfl
 rw [this]
 unfold bt
 rw [ybi,yal h2]
 simp
attribute [local irreducible] VW VCall VO
def CharC (F:Nat) (p:UInt8→Bool):Prop:=∀ (c:UInt8) (H:Heap),VDet Tryz.prog F [.int .u8 c.toNat] H (.bool (p c))
theorem capital_g:CharC 90 isCap:=by
 intro c H
 refine zah Tryz.E0 zab Tryz.func90 (by kernel_rfl) rfl (ybq rfl) rfl fun hcl hbl=>?_
 (repeat' ((conv=>whnf);(first|refine zc6 (fun _=>?_) (fun _=>?_)|fail)));all_goals (conv=>whnf)
 all_goals (refine yaz trivial (Wk.of_eq (congrArg AV.bool (yb0.2 ?_)));simp only [isCap,inR,yak,decide_eq_true_eq,ya6,false_iff];omega)
theorem small_g:CharC 89 isSml:=by
 intro c H
 refine zah Tryz.E0 zab Tryz.func89 (by kernel_rfl) rfl (ybq rfl) rfl fun hcl hbl=>?_
 (repeat' ((conv=>whnf);(first|refine zc6 (fun _=>?_) (fun _=>?_)|fail)));all_goals (conv=>whnf)
 all_goals (refine yaz trivial (Wk.of_eq (congrArg AV.bool (yb0.2 ?_)));simp only [isSml,inR,yak,decide_eq_true_eq,ya6,false_iff];omega)
theorem digit_g:CharC 65 isDig:=by
 intro c H
 refine zah Tryz.E0 zab Tryz.func65 (by kernel_rfl) rfl (ybq rfl) rfl fun hcl hbl=>?_
 (repeat' ((conv=>whnf);(first|refine zc6 (fun _=>?_) (fun _=>?_)|fail)));all_goals (conv=>whnf)
 all_goals (refine yaz trivial (Wk.of_eq (congrArg AV.bool (yb0.2 ?_)));simp only [isDig,inR,yak,decide_eq_true_eq,ya6,false_iff];omega)
theorem va1_g:CharC 64 isVa1:=by
 intro c H
 refine zah Tryz.E0 zab Tryz.func64 (by kernel_rfl) rfl (ybq rfl) rfl fun hcl hbl=>?_
 (repeat' ((conv=>whnf);(first|refine zc6 (fun _=>?_) (fun _=>?_)|fail)));all_goals (conv=>whnf)
 all_goals (refine yaz trivial (Wk.of_eq (congrArg AV.bool (yb0.2 ?_)));simp only [isVa1,inR,yak,decide_eq_true_eq,ya6,false_iff];omega)
theorem fu1_g:CharC 66 isFu1:=by
 intro c H
 refine zah Tryz.E0 zab Tryz.func66 (by kernel_rfl) rfl (ybq rfl) rfl fun hcl hbl=>?_
 (repeat' ((conv=>whnf);(first|refine zc6 (fun _=>?_) (fun _=>?_)|fail)));all_goals (conv=>whnf)
 all_goals (refine yaz trivial (Wk.of_eq (congrArg AV.bool (yb0.2 ?_)));simp only [isFu1,inR,yak,decide_eq_true_eq,ya6,false_iff];omega)
theorem alnum_g:CharC 67 isAln:=by
 intro c H
 have h1:=small_g c
 have h2:=capital_g c
 have h3:=digit_g c
 unfold isAln
 generalize isSml c=a at *
 generalize isCap c=b at *
 generalize isDig c=d at *
 refine zah Tryz.E0 zab Tryz.func67 (by kernel_rfl) rfl (ybq rfl) rfl fun hcl hbl=>?_
 (repeat' ((conv=>whnf);(first|(refine IfN.mk ?_ ?_ <;> intro _)|(refine ybe ?_;first|refine yab _ (h1 _) ?_|refine yab _ (h2 _) ?_|refine yab _ (h3 _) ?_|fail)|fail)));all_goals (conv=>whnf)
 all_goals exact yaz trivial (Wk.of_eq (by simp_all))
theorem reserved_g (s:ByteArray) (H:Heap):VDet Tryz.prog 88 [.str s] H (.bool (isRes s)):=by
 unfold isRes
 have e1:(s.toList==(ByteArray.mk #[97,108,108]).toList)=wordE s #[97,108,108]:=rfl
 have e2:(s.toList==(ByteArray.mk #[115,111,109,101]).toList)=wordE s #[115,111,109,101]:=rfl
 have e3:(s.toList==(ByteArray.mk #[102,97,108,115,101]).toList)=wordE s #[102,97,108,115,101]:=rfl
 have e4:(s.toList==(ByteArray.mk #[110,101,120,116]).toList)=wordE s #[110,101,120,116]:=rfl
 have e5:(s.toList==(ByteArray.mk #[97,108,119,97,121,115]).toList)=wordE s #[97,108,119,97,121,115]:=rfl
 have e6:(s.toList==(ByteArray.mk #[117,110,116,105,108]).toList)=wordE s #[117,110,116,105,108]:=rfl
 generalize wordE s #[97,108,108]=b1 at *
 generalize wordE s #[115,111,109,101]=b2 at *
 generalize wordE s #[102,97,108,115,101]=b3 at *
 generalize wordE s #[110,101,120,116]=b4 at *
 generalize wordE s #[97,108,119,97,121,115]=b5 at *
 generalize wordE s #[117,110,116,105,108]=b6 at *
 cases b1
 ·cases b2
  ·cases b3
   ·cases b4
    ·cases b5
     ·cases b6
      ·refine zah Tryz.E0 zab Tryz.func88 (by kernel_rfl) rfl (ybq rfl) rfl fun hcl hbl=>?_
       (repeat' ((conv=>whnf);(first|(refine yai ?_;first|refine yat e1 ?_|refine yat e2 ?_|refine yat e3 ?_|refine yat e4 ?_|refine yat e5 ?_|refine yat e6 ?_|fail)|fail)));conv=>whnf
       exact eT trivial
      ·refine zah Tryz.E0 zab Tryz.func88 (by kernel_rfl) rfl (ybq rfl) rfl fun hcl hbl=>?_
       (repeat' ((conv=>whnf);(first|(refine yai ?_;first|refine yat e1 ?_|refine yat e2 ?_|refine yat e3 ?_|refine yat e4 ?_|refine yat e5 ?_|refine yaq e6 ?_|fail)|fail)));conv=>whnf
       exact eT trivial
     ·refine zah Tryz.E0 zab Tryz.func88 (by kernel_rfl) rfl (ybq rfl) rfl fun hcl hbl=>?_
      (repeat' ((conv=>whnf);(first|(refine yai ?_;first|refine yat e1 ?_|refine yat e2 ?_|refine yat e3 ?_|refine yat e4 ?_|refine yaq e5 ?_|fail)|fail)));conv=>whnf
      exact eT trivial
    ·refine zah Tryz.E0 zab Tryz.func88 (by kernel_rfl) rfl (ybq rfl) rfl fun hcl hbl=>?_
     (repeat' ((conv=>whnf);(first|(refine yai ?_;first|refine yat e1 ?_|refine yat e2 ?_|refine yat e3 ?_|refine yaq e4 ?_|fail)|fail)));conv=>whnf
     exact eT trivial
   ·refine zah Tryz.E0 zab Tryz.func88 (by kernel_rfl) rfl (ybq rfl) rfl fun hcl hbl=>?_
    (repeat' ((conv=>whnf);(first|(refine yai ?_;first|refine yat e1 ?_|refine yat e2 ?_|refine yaq e3 ?_|fail)|fail)));conv=>whnf
    exact eT trivial
  ·refine zah Tryz.E0 zab Tryz.func88 (by kernel_rfl) rfl (ybq rfl) rfl fun hcl hbl=>?_
   (repeat' ((conv=>whnf);(first|(refine yai ?_;first|refine yat e1 ?_|refine yaq e2 ?_|fail)|fail)));conv=>whnf
   exact eT trivial
 ·refine zah Tryz.E0 zab Tryz.func88 (by kernel_rfl) rfl (ybq rfl) rfl fun hcl hbl=>?_
  (repeat' ((conv=>whnf);(first|refine yaq e1 ?_|fail)));conv=>whnf
  exact eT trivial
theorem check_g (F1 F2:Nat) (p q:UInt8→Bool) (h1:CharC F1 p) (h2:CharC F2 q) (s:ByteArray) (hs:s.size≤9223372036854775807) (H:Heap):VDet Tryz.prog 87 [.str s,.rptr [.clo (.func F1) [] []],.rptr [.clo (.func F2) [] []]] H (.bool (nameB p q s)):=by
 have hr:=reserved_g s
 unfold nameB
 by_cases h0:1≤s.size∧s.size≤16
 ·rw [decide_eq_true h0,Bool.true_and]
  have hb0:=bt_get s 0 (by omega) 0 rfl
  have hp:=h1 (bt s 0)
  generalize isRes s=r at *
  cases r with
  | true =>
    refine zah Tryz.E0 zab Tryz.func87 (by kernel_rfl) rfl (ybq rfl) rfl fun hcl hbl=>?_
    (repeat' ((conv=>whnf);(first|(refine yai ?_;first|refine yaq rfl ?_|refine zal (by omega) ?_|fail)|refine yaf (by kernel_rfl) ?_|refine yan _ (fun _ hq X=>hr _) ?_|refine zam [] ?_|fail)));conv=>whnf
    exact eT trivial
  | false =>
    cases hpb:p (bt s 0) with
    | false =>
      rw [hpb] at hp
      refine zah Tryz.E0 zab Tryz.func87 (by kernel_rfl) rfl (ybq rfl) rfl fun hcl hbl=>?_
      (repeat' ((conv=>whnf);(first|(refine yai ?_;first|refine yar ?_|refine yat rfl ?_|refine zal (by omega) ?_|fail)|(refine yaf ?_ ?_;· first|kernel_rfl|omega|fail)|(refine CallD.id ?_;first|refine yan _ (fun _ hq X=>hr _) ?_|refine yan _ (fun _ hq X=>hp _) ?_|fail)|refine ByteN.mk _ hb0 ?_|refine zam [] ?_|fail)));conv=>whnf
      exact eT trivial
    | true =>
      rw [hpb] at hp
      refine zah Tryz.E0 zab Tryz.func87 (by kernel_rfl) rfl (ybq rfl) rfl fun hcl hbl=>?_
      (repeat' ((conv=>whnf);(first|(refine yai ?_;first|refine yar ?_|refine yaq rfl ?_|refine yat rfl ?_|refine zal (by omega) ?_|fail)|(refine yaf ?_ ?_;· first|kernel_rfl|omega|fail)|(refine CallD.id ?_;first|refine yan _ (fun _ hq X=>hr _) ?_|refine yan _ (fun _ hq X=>hp _) ?_|fail)|refine ByteN.mk _ hb0 ?_|refine zam [] ?_|fail)));conv=>whnf
      refine zcg Tryz.E0 zab (σ:=Nat) (fun k=>1≤k∧k≤s.size∧∀ i,1≤i→i<k→q (bt s i)=true) (fun k=>s.size-k) (fun k=>[(5,.v (.int .i64 k))]) (fun _=>[]) _ 1 rfl hcl [0,2] rfl ⟨yaw _,by omega,fun i h1 h2=>by omega⟩ ⟨⟨_,rfl,yae _⟩,trivial⟩ rfl (fun _ _=>rfl) ?_
      rintro k ⟨hk1,hk,hall⟩
      clear hbl
      by_cases hlt:k<s.size
      ·have hbk:=bt_get s k hlt k rfl
       have hcq:=h2 (bt s k)
       cases hqb:q (bt s k) with
       | true =>
         rw [hqb] at hcq
         (repeat' ((conv=>whnf);(first|(refine yai ?_;first|refine yar ?_|refine yaq rfl ?_|refine zaq (by omega) ?_|fail)|(refine zaw _ _ Cst.h Cst.h ?_ ?_;· omega)|(refine yaf ?_ ?_;· first|kernel_rfl|omega|fail)|refine yan _ (fun _ hq X=>hcq _) ?_|refine ByteN.mk _ hbk ?_|refine zam [] ?_|fail)));conv=>whnf
         (refine ⟨⟨k+1,⟨by omega,by omega,fun i h3 h4=>by
          by_cases e:i=k
          ·rw [e];exact hqb
          ·exact hall i h3 (by omega)⟩,by omega,?_,.inl ⟨rfl,rfl⟩,rfl,_,rfl,?_⟩⟩;rotate_left 1;exact .inl rfl;exact ⟨⟨_,rfl,yae _⟩,trivial⟩)
       | false =>
         rw [hqb] at hcq
         (repeat' ((conv=>whnf);(first|(refine yai ?_;first|refine yar ?_|refine yat rfl ?_|refine zaq (by omega) ?_|fail)|(refine yaf ?_ ?_;· first|kernel_rfl|omega|fail)|refine yan _ (fun _ hq X=>hcq _) ?_|refine ByteN.mk _ hbk ?_|refine zam [] ?_|fail)));conv=>whnf
         refine yaz trivial (Wk.of_eq ?_)
         have:((List.range' 1 (s.size-1)).all fun i=>q (bt s i))=false:=by
          apply Bool.eq_false_iff.2
          intro hA
          have:=yao.1 hA k (List.mem_range'.2 ⟨k-1,by omega,by omega⟩)
          rw [hqb] at this
          cases this
         rw [this]
         rfl
      ·have:((List.range' 1 (s.size-1)).all fun i=>q (bt s i))=true:=by
        rw [yao]
        intro i hi
        obtain ⟨j,hj,rfl⟩:=List.mem_range'.1 hi
        exact hall _ (by omega) (by omega)
       rw [this]
       (repeat' ((conv=>whnf);(first|refine zal (by omega) ?_|fail)));conv=>whnf
       exact eT trivial
 ·rw [decide_eq_false h0,Bool.false_and]
  refine zah Tryz.E0 zab Tryz.func87 (by kernel_rfl) rfl (ybq rfl) rfl fun hcl hbl=>?_
  (repeat' ((conv=>whnf);(first|(refine yai ?_;first|refine zaq (by omega) ?_|refine zc6 (fun _=>?_) (fun _=>?_)|fail)|refine yaf (by kernel_rfl) ?_|refine zam [] ?_|fail)));all_goals (conv=>whnf)
  all_goals exact eT trivial
end
section
def jB (L:Int):Blk:=.box 60 [.bool false,.int .i64 L,.int .i64 40]
theorem zfb (L:Int) (n:Nat):(jB L).below n:=by simp [jB,Blk.below,zae,below]
mutual
def jT (d:Nat):Tm→Int→Int×Bool
 | .mk v s l,L=>if ¬ (1≤L∧d≤40) then (L-1,false) else if v then (L-1,decide (l.length=0)&&isVar s) else if l.length≤4∧isFun s=true then jTs (d+1) l (L-1) else (L-1,false)
def jTs (d:Nat):List Tm→Int→Int×Bool
 | [],L=>(L,true)
 | x::l,L=>match jT d x L with
   | (M,true)=>jTs d l M
   | (M,false)=>(M,false)
end
mutual
theorem jT_bd (d:Nat):∀ (x:Tm) (L:Int),0≤L→-1≤(jT d x L).1∧(jT d x L).1≤L∧((jT d x L).2=true→0≤(jT d x L).1)
 | .mk v s l,L,h=>by
   unfold jT
   split
   ·exact ⟨by simp only;omega,by simp only;omega,fun h=>by cases h⟩
   ·split
    ·exact ⟨by simp only;omega,by simp only;omega,fun _=>by simp only;omega⟩
    ·split
     ·have:=jTs_bd (d+1) l (L-1) (by omega)
      exact ⟨this.1,by omega,this.2.2⟩
     ·exact ⟨by simp only;omega,by simp only;omega,fun h=>by cases h⟩
theorem jTs_bd (d:Nat):∀ (l:List Tm) (L:Int),0≤L→-1≤(jTs d l L).1∧(jTs d l L).1≤L∧((jTs d l L).2=true→0≤(jTs d l L).1)
 | [],L,h=>by unfold jTs;exact ⟨by simp only;omega,by simp only;omega,fun _=>h⟩
 | x::l,L,h=>by
   have h1:=jT_bd d x L h
   unfold jTs
   split
   ·rename_i M hM
    rw [hM] at h1
    have h2:=jTs_bd d l M (h1.2.2 rfl)
    exact ⟨h2.1,by have:=h1.2.1;simp only at this;omega,h2.2.2⟩
   ·rename_i M hM
    rw [hM] at h1
    exact ⟨h1.1,h1.2.1,fun h=>by cases h⟩
end
theorem zaf {α:Type} {f:α→List AV} {sz:Nat} {l:List α} {i:Int} {k:List AV→Prop} {c:List AV} (d:α) (m:Nat) (hi:i=m) (hm:m<l.length) (hsz:∀ x,(f x).length=sz) (e:f (l.getD m d)=c) (h:k c):SegN (l.flatMap f) (i.toNat * sz) k :=
 SegN.nth d m hi hm hsz (e▸h)
theorem zbh:∀ x:Tm,x.cells.length=3
 | .mk v s l=>by rw [zai];rfl
theorem set_self {H:Heap} {i:Nat} {B:Blk} (h:H[i]? = some B):H.set i B=H:=by
 apply ybk
 intro j
 rw [yav]
 split
 ·rename_i e
  subst e
  split
  ·exact h.symm
  ·rename_i hlt
   rw [yca (by omega)] at h
   cases h
 ·rfl
theorem closed_set {H:Heap} (h:zb5 H) (i:Nat) (B:Blk) (hB:B.below H.length):zb5 (H.set i B):=by
 intro j C hj
 rw [List.length_set]
 rw [yav] at hj
 split at hj
 ·split at hj
  ·cases hj;exact hB
  ·cases hj
 ·exact h j C hj
theorem drop_getD {α:Type} (l:List α) (k:Nat) (d:α) (h:k<l.length):l.drop k=l.getD k d::l.drop (k+1):=by
 rw [List.drop_eq_getElem_cons h]
 simp [ybi,yal h]
theorem zak {α:Type} (l:List α) (k:Nat) (d:α) (h:k<l.length):l.getD k d∈l:=by
 rw [show l.getD k d=l[k] by simp [ybi,yal h]]
 exact List.getElem_mem h
theorem jTs_nil (d:Nat) (L:Int):jTs d [] L=(L,true):=by unfold jTs;rfl
theorem jTs_cons (d:Nat) (x:Tm) (l:List Tm) (L:Int):jTs d (x::l) L=if (jT d x L).2 then jTs d l (jT d x L).1 else ((jT d x L).1,false):=by
 rw [jTs.eq_def]
 simp only
 split
 ·rename_i M h;rw [h];rfl
 ·rename_i M h;rw [h];rfl
attribute [local irreducible] VW VCall VO bits
theorem node_g (H:Heap) (i:Nat) (L:Int) (d:Nat) (hi:H[i]? = some (jB L)) (hL:0≤L∧L≤400) (hd:d≤41):VCall Tryz.prog 70 [.ptr i 0,.int .i64 d] H (setR H i (jB (L-1)) (.bool (decide (1≤L∧d≤40)))):=by
 unfold jB at hi ⊢
 by_cases h:1≤L∧d≤40
 ·rw [decide_eq_true h]
  refine za7 Tryz.E0 zab Tryz.func70 (by kernel_rfl) rfl (ybq rfl) rfl fun hcl hbl=>?_
  (repeat' ((conv=>whnf);(first|refine zaq (by omega) ?_|refine yb9 (by omega) ?_|refine ydf _ rfl ?_|refine yb3 _ (by (repeat' (first|assumption|exact zav _ rfl|exact za1 rfl|refine za9 (B':=?_) ?_|refine zas ?_|fail))) ?_|fail)));conv=>whnf
  all_goals exact za6 (by simp [Blk.below,zae,below]) trivial (Wk.of_eq (by simp;try omega))
 ·rw [decide_eq_false h]
  refine za7 Tryz.E0 zab Tryz.func70 (by kernel_rfl) rfl (ybq rfl) rfl fun hcl hbl=>?_
  (repeat' ((conv=>whnf);(first|refine zc6 (fun _=>?_) (fun _=>?_)|refine yb9 (by omega) ?_|refine ydf _ rfl ?_|refine yb3 _ (by (repeat' (first|assumption|exact zav _ rfl|exact za1 rfl|refine za9 (B':=?_) ?_|refine zas ?_|fail))) ?_|fail)));all_goals (conv=>whnf)
  all_goals exact za6 (by simp [Blk.below,zae,below]) trivial (Wk.of_eq (by simp;try omega))
def TermP (x:Tm):Prop:=∀ (H:Heap) (i:Nat) (L:Int) (d:Nat),H[i]? = some (jB L)→0≤L∧L≤400→d≤41→VCall Tryz.prog 93 [.ptr i 0,.agg x.cells,.int .i64 d] H (setR H i (jB (jT d x L).1) (.bool (jT d x L).2))
def TermsP (l:List Tm):Prop:=∀ (H:Heap) (i:Nat) (L:Int) (d:Nat),H[i]? = some (jB L)→0≤L∧L≤400→d≤41→VCall Tryz.prog 73 [.ptr i 0,.sl none l.length (l.flatMap Tm.cells),.int .i64 d] H (setR H i (jB (jTs d l L).1) (.bool (jTs d l L).2))
theorem terms_g (l:List Tm) (hlen:l.length≤9223372036854775807) (hl:∀ x∈l,TermP x):TermsP l:=by
 intro H i L d hi hL hd
 refine za7 Tryz.E0 zab Tryz.func73 (by kernel_rfl) rfl (ybq rfl) rfl fun hcl hbl=>?_
 conv=>whnf
 refine zfl Tryz.E0 zab (σ:=Nat×Int) (fun p=>p.1≤l.length∧(0≤p.2∧p.2≤400)∧jTs d l L=jTs d (l.drop p.1) p.2) (fun p=>l.length-p.1) (fun p=>[(11,.v (.int .i64 p.1))]) (fun p=>H.set i (jB p.2)) (fun _=>[]) _ (0,L) (fun p _=>by simp) (fun p _=>closed_set hcl i _ (zfb _ _)) [0,2,9,10] rfl ⟨yah _,hL,rfl⟩ ⟨⟨_,rfl,yae _⟩,trivial⟩ (set_self hi).symm rfl (fun _ _=>rfl) ?_
 rintro ⟨k,M⟩ ⟨hk,hM,hj⟩
 simp only at hk hM hj
 have hN:(H.set i (jB M)).length=H.length:=by simp
 by_cases hlt:k<l.length
 ·have hmem:=zak l k (Tm.mk false .empty []) hlt
  rw [drop_getD l k (Tm.mk false .empty []) hlt] at hj
  have hx:=fun X=>hl _ hmem (H.set i (jB M)++X) i M d (zas (za9 hi)) hM hd
  have hbd:=jT_bd d (l.getD k (Tm.mk false .empty [])) M hM.1
  rw [jTs_cons] at hj
  obtain ⟨v,s,ar,hxe⟩:∃ v s ar,l.getD k (Tm.mk false .empty [])=Tm.mk v s ar:=by
   cases l.getD k (Tm.mk false .empty []) with
   | mk v s ar=>exact ⟨v,s,ar,rfl⟩
  have hce:(l.getD k (Tm.mk false .empty [])).cells=[.bool v,.str s,.sl none ar.length (ar.flatMap Tm.cells)]:=by rw [hxe,zai]
  rw [hce] at hx
  generalize hr:jT d (l.getD k (Tm.mk false .empty [])) M=r at *
  obtain ⟨M',b⟩:=r
  simp only at hx hbd hj
  generalize hB2:jB M'=B2 at *
  cases b with
  | true =>
    (repeat' ((conv=>whnf);(first|(refine yai ?_;first|refine yar ?_|refine yaq rfl ?_|refine zaq (by omega) ?_|fail)|(refine zaw _ _ Cst.h Cst.h ?_ ?_;· omega)|(refine yaf ?_ ?_;· first|omega|exact yaa _ _|fail)|refine zaf (Tm.mk false .empty []) k rfl hlt zbh hce ?_|refine zaz i _ _ _ _ (za9 hi) (by simp) rfl (hx _) (yb8 ..) ?_|fail)));conv=>whnf
    subst hB2
    (refine ⟨⟨(k+1,M'),⟨by simp only;omega,⟨hbd.2.2 rfl,by simp only;omega⟩,by simpa using hj⟩,by omega,?_,.inl ⟨rfl,rfl⟩,rfl,_,rfl,?_⟩⟩;rotate_left 1;exact .inr ⟨by simp [za4,below,zae,tr,and_self],by simp [zdu,Blk.below,zae,below,and_self]⟩;exact ⟨⟨_,rfl,yae _⟩,trivial⟩)
  | false =>
    (repeat' ((conv=>whnf);(first|(refine yai ?_;first|refine yar ?_|refine yat rfl ?_|refine zaq (by omega) ?_|fail)|(refine yaf ?_ ?_;· first|omega|exact yaa _ _|fail)|refine zaf (Tm.mk false .empty []) k rfl hlt zbh hce ?_|refine zaz i _ _ _ _ (za9 hi) (by simp) rfl (hx _) (yb8 ..) ?_|fail)));conv=>whnf
    subst hB2
    simp only [ya6,if_false] at hj
    rw [hj]
    exact za6 (zfb _ _) trivial (yae _)
 ·have hke:k=l.length:=by omega
  subst hke
  rw [ybf,jTs_nil] at hj
  rw [hj]
  (repeat' ((conv=>whnf);(first|refine zal (by omega) ?_|fail)));conv=>whnf
  exact za6 (zfb _ _) trivial (yae _)
end
section
attribute [local irreducible] VW VCall VO bits
theorem checkerV (H:Heap):VDet Tryz.prog 63 [.clo (.func 64) [] [],.clo (.func 65) [] []] H (.clo (.func 87) [] [.rptr [.clo (.func 64) [] []],.rptr [.clo (.func 65) [] []]]):=by
 refine zah Tryz.E0 zab Tryz.func63 (by kernel_rfl) rfl (ybq rfl) rfl fun hcl hbl=>?_
 conv=>whnf
 refine EndN.detF ?_ ?_ (yae _)
 ·simp [below,zae,ze0]
 ·(repeat' (first|exact FrzL.nil|refine FrzL.cons ?_ ?_|refine Frz.clo ?_ ?_|refine Frz.ptr rfl rfl (FrzL.refl _)|fail))
theorem checkerF (H:Heap):VDet Tryz.prog 63 [.clo (.func 66) [] [],.clo (.func 67) [] []] H (.clo (.func 87) [] [.rptr [.clo (.func 66) [] []],.rptr [.clo (.func 67) [] []]]):=by
 refine zah Tryz.E0 zab Tryz.func63 (by kernel_rfl) rfl (ybq rfl) rfl fun hcl hbl=>?_
 conv=>whnf
 refine EndN.detF ?_ ?_ (yae _)
 ·simp [below,zae,ze0]
 ·(repeat' (first|exact FrzL.nil|refine FrzL.cons ?_ ?_|refine Frz.clo ?_ ?_|refine Frz.ptr rfl rfl (FrzL.refl _)|fail))
theorem checkerP (H:Heap):VDet Tryz.prog 63 [.clo (.func 90) [] [],.clo (.func 67) [] []] H (.clo (.func 87) [] [.rptr [.clo (.func 90) [] []],.rptr [.clo (.func 67) [] []]]):=by
 refine zah Tryz.E0 zab Tryz.func63 (by kernel_rfl) rfl (ybq rfl) rfl fun hcl hbl=>?_
 conv=>whnf
 refine EndN.detF ?_ ?_ (yae _)
 ·simp [below,zae,ze0]
 ·(repeat' (first|exact FrzL.nil|refine FrzL.cons ?_ ?_|refine Frz.clo ?_ ?_|refine Frz.ptr rfl rfl (FrzL.refl _)|fail))
theorem ze6 (s:ByteArray) (hs:s.size≤9223372036854775807) (H:Heap):VDet Tryz.prog 31 [.str s] H (.bool (isVar s)):=by
 have h:=check_g _ _ isVa1 isDig va1_g digit_g s hs
 unfold isVar
 generalize nameB isVa1 isDig s=b at *
 refine zah Tryz.E0 zab Tryz.func31 (by kernel_rfl) rfl (ybq rfl) rfl fun hcl hbl=>?_
 (repeat' ((conv=>whnf);(first|(refine ybe ?_;first|refine yab _ (checkerV _) ?_|refine yab _ (h _) ?_|fail)|fail)));conv=>whnf
 exact eT trivial
theorem zfc (s:ByteArray) (hs:s.size≤9223372036854775807) (H:Heap):VDet Tryz.prog 32 [.str s] H (.bool (isFun s)):=by
 have h:=check_g _ _ isFu1 isAln fu1_g alnum_g s hs
 unfold isFun
 generalize nameB isFu1 isAln s=b at *
 refine zah Tryz.E0 zab Tryz.func32 (by kernel_rfl) rfl (ybq rfl) rfl fun hcl hbl=>?_
 (repeat' ((conv=>whnf);(first|(refine ybe ?_;first|refine yab _ (checkerF _) ?_|refine yab _ (h _) ?_|fail)|fail)));conv=>whnf
 exact eT trivial
theorem predicate_g (s:ByteArray) (hs:s.size≤9223372036854775807) (H:Heap):VDet Tryz.prog 92 [.str s] H (.bool (zfm s)):=by
 have h:=check_g _ _ isCap isAln capital_g alnum_g s hs
 unfold zfm
 generalize nameB isCap isAln s=b at *
 refine zah Tryz.E0 zab Tryz.func92 (by kernel_rfl) rfl (ybq rfl) rfl fun hcl hbl=>?_
 (repeat' ((conv=>whnf);(first|(refine ybe ?_;first|refine yab _ (checkerP _) ?_|refine yab _ (h _) ?_|fail)|fail)));conv=>whnf
 exact eT trivial
theorem term_step (v:Bool) (s:ByteArray) (l:List Tm) (hs:s.size≤9223372036854775807) (hl:TermsP l):TermP (.mk v s l):=by
 intro H i L d hi hL hd
 have hn:=fun X=>node_g (H++X) i L d (zas hi) hL hd
 have hv:=ze6 s hs
 have hf:=zfc s hs
 rw [zai]
 unfold jT
 by_cases h:1≤L∧d≤40
 ·rw [if_neg (not_not_intro h)]
  rw [decide_eq_true h] at hn
  have ht:=fun X=>hl (H.set i (jB (L-1))++X) i (L-1) (d+1) (zas (za9 hi)) (by omega) (by omega)
  generalize isVar s=bv at *
  generalize isFun s=bf at *
  generalize hr:jTs (d+1) l (L-1)=r at *
  obtain ⟨M,b⟩:=r
  simp only at ht
  generalize l.flatMap Tm.cells=lc at *
  generalize l.length=n at *
  unfold jB at hi hn ht ⊢
  cases v with
  | true =>
    simp only [if_true]
    cases bv with
    | true =>
      refine za7 Tryz.E0 zab Tryz.func93 (by kernel_rfl) rfl (ybq rfl) rfl fun hcl hbl=>?_
      (repeat' ((conv=>whnf);(first|(refine yai ?_;first|refine yar ?_|refine yaq rfl ?_|refine zc6 (fun _=>?_) (fun _=>?_)|fail)|refine yab _ (hv _) ?_|refine zaz i _ _ _ _ hi rfl rfl (hn _) rfl ?_|fail)));all_goals (conv=>whnf)
      all_goals exact za6 (by simp [Blk.below,zae,below]) trivial (Wk.of_eq (by simp;try omega))
    | false =>
      refine za7 Tryz.E0 zab Tryz.func93 (by kernel_rfl) rfl (ybq rfl) rfl fun hcl hbl=>?_
      (repeat' ((conv=>whnf);(first|(refine yai ?_;first|refine yar ?_|refine yaq rfl ?_|refine yat rfl ?_|refine zc6 (fun _=>?_) (fun _=>?_)|fail)|refine yab _ (hv _) ?_|refine zaz i _ _ _ _ hi rfl rfl (hn _) rfl ?_|refine yb3 _ (by (repeat' (first|assumption|exact zav _ rfl|exact za1 rfl|refine za9 (B':=?_) ?_|refine zas ?_|fail))) ?_|fail)));all_goals (conv=>whnf)
      all_goals exact za6 (by simp [Blk.below,zae,below]) trivial (Wk.of_eq (by simp;try omega))
  | false =>
    simp only [ya6,if_false]
    by_cases h4:n≤4∧bf=true
    ·obtain ⟨h4,rfl⟩:=h4
     rw [if_pos ⟨h4,rfl⟩]
     refine za7 Tryz.E0 zab Tryz.func93 (by kernel_rfl) rfl (ybq rfl) rfl fun hcl hbl=>?_
     (repeat' ((conv=>whnf);(first|(refine yai ?_;first|refine yar ?_|refine yaq rfl ?_|refine yat rfl ?_|refine zaq (by omega) ?_|fail)|(refine zaw _ _ Cst.h Cst.h ?_ ?_;· omega)|refine yab _ (hf _) ?_|refine zaz i _ _ _ _ hi rfl rfl (hn _) rfl ?_|refine zaz i _ _ _ _ (za9 hi) (by simp) rfl (ht _) (yb8 ..) ?_|fail)));conv=>whnf
     all_goals exact za6 (by simp [Blk.below,zae,below]) trivial (Wk.of_eq (by simp;try omega))
    ·rw [if_neg h4]
     cases bf with
     | true =>
       have h4:¬ n≤4:=fun e=>h4 ⟨e,rfl⟩
       refine za7 Tryz.E0 zab Tryz.func93 (by kernel_rfl) rfl (ybq rfl) rfl fun hcl hbl=>?_
       (repeat' ((conv=>whnf);(first|(refine yai ?_;first|refine yar ?_|refine yaq rfl ?_|refine yat rfl ?_|refine zal (by omega) ?_|fail)|refine zaz i _ _ _ _ hi rfl rfl (hn _) rfl ?_|fail)));conv=>whnf
       all_goals exact za6 (by simp [Blk.below,zae,below]) trivial (Wk.of_eq (by simp;try omega))
     | false =>
       refine za7 Tryz.E0 zab Tryz.func93 (by kernel_rfl) rfl (ybq rfl) rfl fun hcl hbl=>?_
       (repeat' ((conv=>whnf);(first|(refine yai ?_;first|refine yar ?_|refine yaq rfl ?_|refine yat rfl ?_|refine zc6 (fun _=>?_) (fun _=>?_)|fail)|refine yab _ (hf _) ?_|refine zaz i _ _ _ _ hi rfl rfl (hn _) rfl ?_|fail)));all_goals (conv=>whnf)
       all_goals exact za6 (by simp [Blk.below,zae,below]) trivial (Wk.of_eq (by simp;try omega))
 ·rw [if_pos h]
  rw [decide_eq_false h] at hn
  unfold jB at hi hn ⊢
  refine za7 Tryz.E0 zab Tryz.func93 (by kernel_rfl) rfl (ybq rfl) rfl fun hcl hbl=>?_
  (repeat' ((conv=>whnf);(first|(refine yai ?_;first|refine yar ?_|refine yat rfl ?_|fail)|refine zaz i _ _ _ _ hi rfl rfl (hn _) rfl ?_|fail)));conv=>whnf
  exact za6 (by simp [Blk.below,zae,below]) trivial (yae _)
mutual
theorem term_g:∀ x:Tm,x.good→TermP x
 | .mk v s l,h=>term_step v s l (by have:=h.1;exact zao this) (terms_g l (zao h.2.1) (terms_all l h.2.2))
theorem terms_all:∀ l:List Tm,Tm.goodL l→∀ x∈l,TermP x
 | [],_,x,h=>by cases h
 | y::l,hg,x,h=>by
   have h1:=term_g y hg.1
   have h2:=terms_all l hg.2
   rcases yax.1 h with e|h
   ·exact e▸h1
   ·exact h2 x h
end
end
section
def encR (r:Bool×Bool×Nat×Nat×Nat):List AV:=[.bool r.1,.bool r.2.1,.int .u8 r.2.2.1,.int .i64 r.2.2.2.1,.int .i64 r.2.2.2.2]
def rowsL:List (Bool×Bool×Nat×Nat×Nat):=[(false,false,0,0,0),(true,true,1,4,0),(true,true,0,0,0),(true,true,0,0,1),(true,true,0,0,2),(true,true,0,0,2),(true,true,0,0,2),(true,true,0,0,2),(true,true,2,0,1),(true,true,2,0,1),(true,true,0,0,1),(true,true,0,0,1),(true,true,0,0,1),(true,true,0,0,1),(true,true,0,0,2),(false,true,3,0,0),(false,true,3,2,0)]
def row0:Bool×Bool×Nat×Nat×Nat:=(false,false,0,0,0)
def rowK (op:Nat):Bool:=(rowsL.getD op row0).1
def rowN (op:Nat):Nat:=(rowsL.getD op row0).2.2.1
def rowA (op:Nat):Nat:=(rowsL.getD op row0).2.2.2.1
def rowS (op:Nat):Nat:=(rowsL.getD op row0).2.2.2.2
theorem row_ok:∀ op,op<17→(rowsL.getD op row0).1=true→(rowN op=0∨rowN op=1∨rowN op=2)∧op≠16∧rowA op≤4∧rowS op≤2:=by decide
def emptyB (s:ByteArray):Bool:=s.toList==ByteArray.empty.toList
def nameOk (k:Nat) (s:ByteArray):Bool:=if k=1 then zfm s else if k=2 then isVar s else emptyB s
mutual
def jF (d:Nat):Fo→Int→Int×Bool
 | .mk op s l m,L=>if ¬ (1≤L∧d≤40)∨17≤op then (L-1,false) else if rowK op=false then (L-1,false) else if ¬ (nameOk (rowN op) s=true∧l.length≤rowA op∧m.length=rowS op) then (L-1,false) else
   if (jTs (d+1) l (L-1)).2 then jFs (d+1) m (jTs (d+1) l (L-1)).1 else ((jTs (d+1) l (L-1)).1,false)
def jFs (d:Nat):List Fo→Int→Int×Bool
 | [],L=>(L,true)
 | x::l,L=>if (jF d x L).2 then jFs d l (jF d x L).1 else ((jF d x L).1,false)
end
theorem jFs_nil (d:Nat) (L:Int):jFs d [] L=(L,true):=by unfold jFs;rfl
theorem jFs_cons (d:Nat) (x:Fo) (l:List Fo) (L:Int):jFs d (x::l) L=if (jF d x L).2 then jFs d l (jF d x L).1 else ((jF d x L).1,false):=by rw [jFs.eq_def]
mutual
theorem jF_bd (d:Nat):∀ (x:Fo) (L:Int),0≤L→-1≤(jF d x L).1∧(jF d x L).1≤L∧((jF d x L).2=true→0≤(jF d x L).1)
 | .mk op s l m,L,h=>by
   unfold jF
   split
   ·exact ⟨by simp only;omega,by simp only;omega,fun h=>by cases h⟩
   ·rename_i h1
    split
    ·exact ⟨by simp only;omega,by simp only;omega,fun h=>by cases h⟩
    ·split
     ·exact ⟨by simp only;omega,by simp only;omega,fun h=>by cases h⟩
     ·have ht:=jTs_bd (d+1) l (L-1) (by omega)
      split
      ·rename_i hb
       have:=jFs_bd (d+1) m _ (ht.2.2 hb)
       exact ⟨this.1,by omega,this.2.2⟩
      ·exact ⟨ht.1,by simp only;omega,fun h=>by cases h⟩
theorem jFs_bd (d:Nat):∀ (l:List Fo) (L:Int),0≤L→-1≤(jFs d l L).1∧(jFs d l L).1≤L∧((jFs d l L).2=true→0≤(jFs d l L).1)
 | [],L,h=>by rw [jFs_nil];exact ⟨by simp only;omega,by simp only;omega,fun _=>h⟩
 | x::l,L,h=>by
   have h1:=jF_bd d x L h
   rw [jFs_cons]
   split
   ·rename_i hb
    have h2:=jFs_bd d l _ (h1.2.2 hb)
    exact ⟨h2.1,by omega,h2.2.2⟩
   ·exact ⟨h1.1,h1.2.1,fun h=>by cases h⟩
end
theorem zfh {l l':List AV} {o:Nat} {k:List AV→Prop} (h:l=l') (a:SegN l' o k):SegN l o k:=h▸a
theorem zba:∀ x:Fo,x.cells.length=4
 | .mk op s l m=>by rw [zac];rfl
attribute [local irreducible] VW VCall VO bits
mutual
theorem tm_below (n:Nat):∀ x:Tm,zae n x.cells
 | .mk v s l=>by
   rw [zai]
   have:=zau n l
   simp [zae,below,this]
theorem zau (n:Nat):∀ l:List Tm,zae n (l.flatMap Tm.cells)
 | []=>trivial
 | x::l=>by
   rw [ya4]
   exact (zbr _ _).2 ⟨tm_below n x,zau n l⟩
end
mutual
theorem zco (n:Nat):∀ x:Fo,zae n x.cells
 | .mk op s l m=>by
   rw [zac]
   have:=zau n l
   have:=zax n m
   simp [zae,below, *]
theorem zax (n:Nat):∀ l:List Fo,zae n (l.flatMap Fo.cells)
 | []=>trivial
 | x::l=>by
   rw [ya4]
   exact (zbr _ _).2 ⟨zco n x,zax n l⟩
end
theorem named_g (k:Nat) (hk:k=0∨k=1∨k=2) (s:ByteArray) (hs:s.size≤9223372036854775807) (H:Heap):VDet Tryz.prog 71 [.int .u8 k,.str s] H (.bool (nameOk k s)):=by
 have hp:=predicate_g s hs
 have hv:=ze6 s hs
 have he:(s.toList==ByteArray.empty.toList)=emptyB s:=rfl
 unfold nameOk
 rcases hk with rfl|rfl|rfl
 ·simp only [show ¬ (0:Nat)=1 by decide,show ¬ (0:Nat)=2 by decide,if_false]
  refine zah Tryz.E0 zab Tryz.func71 (by kernel_rfl) rfl (ybq rfl) rfl fun hcl hbl=>?_
  (repeat' ((conv=>whnf);(first|refine yat rfl ?_|fail)));conv=>whnf
  exact yaz trivial (Wk.of_eq (by rw [← he];rfl))
 ·simp only [if_true]
  refine zah Tryz.E0 zab Tryz.func71 (by kernel_rfl) rfl (ybq rfl) rfl fun hcl hbl=>?_
  (repeat' ((conv=>whnf);(first|refine yaq rfl ?_|refine yab _ (hp _) ?_|fail)));conv=>whnf
  exact eT trivial
 ·simp only [show ¬ (2:Nat)=1 by decide,if_false,if_true]
  refine zah Tryz.E0 zab Tryz.func71 (by kernel_rfl) rfl (ybq rfl) rfl fun hcl hbl=>?_
  (repeat' ((conv=>whnf);(first|(refine yai ?_;first|refine yaq rfl ?_|refine yat rfl ?_|fail)|refine yab _ (hv _) ?_|fail)));conv=>whnf
  exact eT trivial
theorem rows_eq:(Tryz.gl[0]).2=rowsL.flatMap encR:=by kernel_rfl
def FormP (x:Fo):Prop:=∀ (H:Heap) (i:Nat) (L:Int) (d:Nat),H[i]? = some (jB L)→0≤L∧L≤400→d≤41→VCall Tryz.prog 38 [.ptr i 0,.agg x.cells,.int .i64 d] H (setR H i (jB (jF d x L).1) (.bool (jF d x L).2))
theorem form_step (op:Nat) (s:ByteArray) (l:List Tm) (m:List Fo) (hop:op≤255) (hs:s.size≤9223372036854775807) (hll:l.length≤9223372036854775807) (hml:m.length≤9223372036854775807) (hl:TermsP l) (hm:∀ x∈m,FormP x):FormP (.mk op s l m):=by
 intro H i L d hi hL hd
 have hn:=fun X=>node_g (H++X) i L d (zas hi) hL hd
 rw [zac]
 unfold jF
 by_cases h:¬ (1≤L∧d≤40)∨17≤op
 ·rw [if_pos h]
  by_cases h1:1≤L∧d≤40
  ·rw [decide_eq_true h1] at hn
   have h17:17≤op:=by omega
   generalize l.flatMap Tm.cells=lc at *
   generalize m.flatMap Fo.cells=mc at *
   unfold jB at hi hn ⊢
   refine za7 Tryz.E0 zab Tryz.func38 (by kernel_rfl) rfl (ybq rfl) rfl fun hcl hbl=>?_
   (repeat' ((conv=>whnf);(first|(refine yai ?_;first|refine yar ?_|refine yaq rfl ?_|refine zaq (by omega) ?_|fail)|refine yb9 (by omega) ?_|refine zaz i _ _ _ _ hi rfl rfl (hn _) rfl ?_|fail)));conv=>whnf
   exact za6 (by simp [Blk.below,zae,below]) trivial (yae _)
  ·rw [decide_eq_false h1] at hn
   generalize l.flatMap Tm.cells=lc at *
   generalize m.flatMap Fo.cells=mc at *
   unfold jB at hi hn ⊢
   refine za7 Tryz.E0 zab Tryz.func38 (by kernel_rfl) rfl (ybq rfl) rfl fun hcl hbl=>?_
   (repeat' ((conv=>whnf);(first|(refine yai ?_;first|refine yar ?_|refine yat rfl ?_|fail)|refine zaz i _ _ _ _ hi rfl rfl (hn _) rfl ?_|fail)));conv=>whnf
   exact za6 (by simp [Blk.below,zae,below]) trivial (yae _)
 ·rw [if_neg h]
  have h1:1≤L∧d≤40:=by omega
  have h17:op<17:=by omega
  rw [decide_eq_true h1] at hn
  have hrow:=row_ok op h17
  have hname:=fun (hk:rowN op=0∨rowN op=1∨rowN op=2)=>named_g (rowN op) hk s hs
  have hrc:encR (rowsL.getD op row0)=[.bool (rowK op),.bool (rowsL.getD op row0).2.1,.int .u8 (rowN op),.int .i64 (rowA op),.int .i64 (rowS op)]:=rfl
  have hrk:(rowsL.getD op row0).1=rowK op:=rfl
  rw [hrk] at hrow
  have ht:=fun X=>hl (H.set i (jB (L-1))++X) i (L-1) (d+1) (zas (za9 hi)) (by omega) (by omega)
  have htb:=jTs_bd (d+1) l (L-1) (by omega)
  generalize (rowsL.getD op row0).2.1=rsch at *
  generalize rowK op=rk at *
  generalize rowN op=rn at *
  generalize rowA op=ra at *
  generalize rowS op=rs at *
  generalize nameOk rn s=nok at *
  generalize hr:jTs (d+1) l (L-1)=r at *
  obtain ⟨M,b⟩:=r
  simp only at ht htb
  have h16:rk=true→op≠16:=fun e=>(hrow e).2.1
  cases rk with
  | false =>
    rw [if_pos rfl]
    generalize l.flatMap Tm.cells=lc at *
    generalize m.flatMap Fo.cells=mc at *
    unfold jB at hi hn ⊢
    refine za7 Tryz.E0 zab Tryz.func38 (by kernel_rfl) rfl (ybq rfl) rfl fun hcl hbl=>?_
    (repeat' ((conv=>whnf);(first|(refine yai ?_;first|refine yar ?_|refine yaq rfl ?_|refine yat rfl ?_|refine zal (by omega) ?_|fail)|refine yb9 (by omega) ?_|refine yaf (by omega) ?_|refine zaz i _ _ _ _ hi rfl rfl (hn _) rfl ?_|refine zfh rows_eq (zaf row0 op rfl h17 (fun _=>rfl) hrc ?_)|refine yb3 _ (by (repeat' (first|assumption|exact zav _ rfl|exact za1 rfl|refine za9 (B':=?_) ?_|refine zas ?_|fail))) ?_|fail)));conv=>whnf
    exact za6 (by simp [Blk.below,zae,below]) trivial (yae _)
  | true =>
    simp only [Bool.true_eq_false,if_false]
    have h16:=h16 rfl
    have hname:=hname (hrow rfl).1
    have hra:=(hrow rfl).2.2.1
    by_cases h2:nok=true∧l.length≤ra∧m.length=rs
    ·rw [if_neg (not_not_intro h2)]
     obtain ⟨rfl,h3,h4⟩:=h2
     cases b with
     | false =>
       simp only [ya6,if_false]
       generalize l.flatMap Tm.cells=lc at *
       generalize m.flatMap Fo.cells=mc at *
       unfold jB at hi hn ht ⊢
       refine za7 Tryz.E0 zab Tryz.func38 (by kernel_rfl) rfl (ybq rfl) rfl fun hcl hbl=>?_
       (repeat' ((conv=>whnf);(first|(refine yai ?_;first|refine yar ?_|refine yaq rfl ?_|refine yat rfl ?_|refine zaq (by omega) ?_|refine zal (by omega) ?_|fail)|(refine EqN.id ?_;first|(refine zaw _ _ Cst.h Cst.h ?_ ?_;· omega)|refine yb9 (by omega) ?_|fail)|refine yaf (by omega) ?_|refine yab _ (hname _) ?_|refine zaz i _ _ _ _ hi rfl rfl (hn _) rfl ?_|refine zfh rows_eq (zaf row0 op rfl h17 (fun _=>rfl) hrc ?_)|refine zaz i _ _ _ _ (za9 hi) (by simp) rfl (ht _) (yb8 ..) ?_|fail)));conv=>whnf
       exact za6 (by simp [Blk.below,zae,below]) trivial (yae _)
     | true =>
       simp only [if_true]
       have hMb:=htb.2.2 rfl
       have hmc:∀ n,zae n (m.flatMap Fo.cells):=fun n=>zax n m
       have hi':=hi
       unfold jB at hi hn ht
       refine za7 Tryz.E0 zab Tryz.func38 (by kernel_rfl) rfl (ybq rfl) rfl fun hcl hbl=>?_
       (repeat' ((conv=>whnf);(first|(refine yai ?_;first|refine yar ?_|refine yaq rfl ?_|refine zaq (by omega) ?_|refine zal (by omega) ?_|fail)|(refine EqN.id ?_;first|(refine zaw _ _ Cst.h Cst.h ?_ ?_;· omega)|refine yb9 (by omega) ?_|fail)|refine yaf (by omega) ?_|refine yab _ (hname _) ?_|refine zaz i _ _ _ _ hi rfl rfl (hn _) rfl ?_|refine zfh rows_eq (zaf row0 op rfl h17 (fun _=>rfl) hrc ?_)|refine zaz i _ _ _ _ (za9 hi) (by simp) rfl (ht _) (yb8 ..) ?_|fail)));conv=>whnf
       refine zfl Tryz.E0 zab (σ:=Nat×Int) (fun p=>p.1≤m.length∧(0≤p.2∧p.2≤400)∧jFs (d+1) m M=jFs (d+1) (m.drop p.1) p.2) (fun p=>m.length-p.1) (fun p=>[(79,.v (.int .i64 p.1))]) (fun p=>H.set i (jB p.2)) (fun _=>_) _ (0,M) (fun p _=>by simp) (fun p _=>closed_set hcl i _ (zfb _ _)) [0,2,77,78] rfl ⟨yah _,⟨hMb,by omega⟩,rfl⟩ ⟨⟨_,rfl,yae _⟩,trivial⟩ rfl rfl (fun _ _=>rfl) ?_
       rintro ⟨k,N⟩ ⟨hk,hN,hj⟩
       simp only at hk hN hj
       have hNl:(H.set i (jB N)).length=H.length:=by simp
       by_cases hlt:k<m.length
       ·have hmem:=zak m k (Fo.mk 0 .empty [] []) hlt
        rw [drop_getD m k (Fo.mk 0 .empty [] []) hlt] at hj
        have hx:=fun X=>hm _ hmem (H.set i (jB N)++X) i N (d+1) (zas (za9 hi')) hN (by omega)
        have hbd:=jF_bd (d+1) (m.getD k (Fo.mk 0 .empty [] [])) N hN.1
        rw [jFs_cons] at hj
        obtain ⟨o2,s2,l2,m2,hxe⟩:∃ o2 s2 l2 m2,m.getD k (Fo.mk 0 .empty [] [])=Fo.mk o2 s2 l2 m2:=by
         cases m.getD k (Fo.mk 0 .empty [] []) with
         | mk o2 s2 l2 m2=>exact ⟨o2,s2,l2,m2,rfl⟩
        have hce:(m.getD k (Fo.mk 0 .empty [] [])).cells=[.int .u8 o2,.str s2,.sl none l2.length (l2.flatMap Tm.cells),.sl none m2.length (m2.flatMap Fo.cells)]:=by rw [hxe,zac]
        rw [hce] at hx
        generalize hr2:jF (d+1) (m.getD k (Fo.mk 0 .empty [] [])) N=r2 at *
        obtain ⟨N',b2⟩:=r2
        simp only at hx hbd hj
        generalize hB2:jB N'=B2 at *
        cases b2 with
        | true =>
          (repeat' ((conv=>whnf);(first|(refine yai ?_;first|refine yar ?_|refine yaq rfl ?_|refine zaq (by omega) ?_|fail)|(refine zaw _ _ Cst.h Cst.h ?_ ?_;· omega)|(refine yaf ?_ ?_;· first|omega|exact yaa _ _|fail)|refine zaf (Fo.mk 0 .empty [] []) k rfl hlt zba hce ?_|refine zaz i _ _ _ _ (za9 hi') (by simp) rfl (hx _) (yb8 ..) ?_|fail)));conv=>whnf
          subst hB2
          (refine ⟨⟨(k+1,N'),⟨by simp only;omega,⟨hbd.2.2 rfl,by simp only;omega⟩,by simpa using hj⟩,by omega,?_,.inl ⟨rfl,rfl⟩,rfl,_,rfl,?_⟩⟩;rotate_left 1;exact .inr ⟨by simp [za4,below,zae,tr,zau,zax],by simp [zdu,Blk.below,zae,below,zau,zax]⟩;exact ⟨⟨_,rfl,yae _⟩,trivial⟩)
        | false =>
          (repeat' ((conv=>whnf);(first|(refine yai ?_;first|refine yar ?_|refine yat rfl ?_|refine zaq (by omega) ?_|fail)|(refine zaw _ _ Cst.h Cst.h ?_ ?_;· omega)|(refine yaf ?_ ?_;· first|omega|exact yaa _ _|fail)|refine zaf (Fo.mk 0 .empty [] []) k rfl hlt zba hce ?_|refine zaz i _ _ _ _ (za9 hi') (by simp) rfl (hx _) (yb8 ..) ?_|fail)));conv=>whnf
          subst hB2
          simp only [ya6,if_false] at hj
          rw [hj]
          exact za6 (zfb _ _) trivial (yae _)
       ·have hke:k=m.length:=by omega
        subst hke
        rw [ybf,jFs_nil] at hj
        rw [hj]
        (repeat' ((conv=>whnf);(first|refine zal (by omega) ?_|fail)));conv=>whnf
        exact za6 (zfb _ _) trivial (yae _)
    ·rw [if_pos h2]
     generalize l.flatMap Tm.cells=lc at *
     generalize m.flatMap Fo.cells=mc at *
     generalize l.length=ln at *
     generalize m.length=mn at *
     unfold jB at hi hn ⊢
     cases nok with
     | false =>
       refine za7 Tryz.E0 zab Tryz.func38 (by kernel_rfl) rfl (ybq rfl) rfl fun hcl hbl=>?_
       (repeat' ((conv=>whnf);(first|(refine yai ?_;first|refine yar ?_|refine yaq rfl ?_|refine yat rfl ?_|refine zal (by omega) ?_|fail)|refine yb9 (by omega) ?_|refine yaf (by omega) ?_|refine yab _ (hname _) ?_|refine zaz i _ _ _ _ hi rfl rfl (hn _) rfl ?_|refine zfh rows_eq (zaf row0 op rfl h17 (fun _=>rfl) hrc ?_)|fail)));conv=>whnf
       exact za6 (by simp [Blk.below,zae,below]) trivial (yae _)
     | true =>
       by_cases h3:ln≤ra
       ·have h4:¬ mn=rs:=fun e=>h2 ⟨rfl,h3,e⟩
        refine za7 Tryz.E0 zab Tryz.func38 (by kernel_rfl) rfl (ybq rfl) rfl fun hcl hbl=>?_
        (repeat' ((conv=>whnf);(first|(refine yai ?_;first|refine yar ?_|refine yaq rfl ?_|refine zal (by omega) ?_|fail)|refine yb9 (by omega) ?_|refine yaf (by omega) ?_|refine yab _ (hname _) ?_|refine zaz i _ _ _ _ hi rfl rfl (hn _) rfl ?_|refine zfh rows_eq (zaf row0 op rfl h17 (fun _=>rfl) hrc ?_)|fail)));conv=>whnf
        exact za6 (by simp [Blk.below,zae,below]) trivial (yae _)
       ·refine za7 Tryz.E0 zab Tryz.func38 (by kernel_rfl) rfl (ybq rfl) rfl fun hcl hbl=>?_
        (repeat' ((conv=>whnf);(first|(refine yai ?_;first|refine yar ?_|refine yaq rfl ?_|refine zaq (by omega) ?_|refine zal (by omega) ?_|fail)|refine yb9 (by omega) ?_|refine yaf (by omega) ?_|refine yab _ (hname _) ?_|refine zaz i _ _ _ _ hi rfl rfl (hn _) rfl ?_|refine zfh rows_eq (zaf row0 op rfl h17 (fun _=>rfl) hrc ?_)|fail)));conv=>whnf
        exact za6 (by simp [Blk.below,zae,below]) trivial (yae _)
mutual
theorem form_g:∀ x:Fo,x.good→FormP x
 | .mk op s l m,h=>form_step op s l m h.1 (zao h.2.1) (zao h.2.2.1) (zao h.2.2.2.2.1) (terms_g l (zao h.2.2.1) (terms_all l h.2.2.2.1)) (forms_all m h.2.2.2.2.2)
theorem forms_all:∀ l:List Fo,Fo.goodL l→∀ x∈l,FormP x
 | [],_,x,h=>by cases h
 | y::l,hg,x,h=>by
   have h1:=form_g y hg.1
   have h2:=forms_all l hg.2
   rcases yax.1 h with e|h
   ·exact e▸h1
   ·exact h2 x h
end
end
section
attribute [local irreducible] VW VCall VO bits
theorem zip_all {α:Type} {c:α→α→Int} {d:α}:∀ (l m:List α),l.length=m.length→(∀ i,i<l.length→c (l.getD i d) (m.getD i d)=0)→zipC c l m=0
 | [],m,_,_=>by unfold zipC;rfl
 | x::l,[],h,_=>by simp at h
 | x::l,y::m,h,hz=>and_zero.2 ⟨hz 0 (by simp),zip_all l m (by simpa using h) fun i hi=>by
   have:=hz (i+1) (by simpa using hi)
   simpa using this⟩
theorem zip_at {α:Type} {c:α→α→Int} {d:α}:∀ (l m:List α) (j:Nat),l.length=m.length→j<l.length→(∀ i,i<j→c (l.getD i d) (m.getD i d)=0)→c (l.getD j d) (m.getD j d)≠0→zipC c l m=c (l.getD j d) (m.getD j d)
 | [],m,j,_,h,_,_=>by simp at h
 | x::l,[],j,h,_,_,_=>by simp at h
 | x::l,y::m,0,h,_,_,hn=>by
   show andC (c x y) _=c x y
   exact if_neg (by simpa using hn)
 | x::l,y::m,j+1,h,hj,hz,hn=>by
   have h0:c x y=0:=by simpa using hz 0 (by omega)
   have:=zip_at (c:=c) (d:=d) l m j (by simpa using h) (by simpa using hj) (fun i hi=>by
    have:=hz (i+1) (by omega)
    simpa using this) (by simpa using hn)
   show andC (c x y) (zipC c l m)=_
   unfold andC
   rw [if_pos h0,this]
   simp
def tm0:Tm:=.mk false .empty []
def fo0:Fo:=.mk 0 .empty [] []
theorem tm_ex (x:Tm):∃ v s l,x=.mk v s l:=by cases x with|mk v s l=>exact ⟨v,s,l,rfl⟩
theorem fo_ex (x:Fo):∃ o s l m,x=.mk o s l m:=by cases x with|mk o s l m=>exact ⟨o,s,l,m,rfl⟩
def CmpT (x:Tm):Prop:=∀ (y:Tm) (H:Heap),y.good→VDet Tryz.prog 47 [.agg x.cells,.agg y.cells] H (.int .i64 (cT x y))
theorem cmpTs_c (l m:List Tm) (hl:l.length≤9223372036854775807) (hm:m.length≤9223372036854775807) (hg:Tm.goodL m) (h:∀ x∈l,CmpT x) (H:Heap):VDet Tryz.prog 46 [.sl none l.length (l.flatMap Tm.cells),.sl none m.length (m.flatMap Tm.cells),.clo (.func 47) [] []] H (.int .i64 (cmpL cT l m)):=by
 unfold cmpL
 have hc:=cmpi_c l.length m.length
 by_cases hlen:l.length=m.length
 ·rw [show cmpI (l.length:Int) (m.length:Int)=0 by rw [zcr];omega] at hc ⊢
  rw [show andC 0 (zipC cT l m)=zipC cT l m from rfl]
  refine zah Tryz.E0 zab Tryz.func46 (by kernel_rfl) rfl (ybq rfl) rfl fun hcl hbl=>?_
  (repeat' ((conv=>whnf);(first|(refine yai ?_;first|refine yar ?_|refine yaq rfl ?_|fail)|refine yab _ (hc _) ?_|fail)));conv=>whnf
  refine zcg Tryz.E0 zab (σ:=Nat) (fun j=>j≤l.length∧∀ i,i<j→cT (l.getD i tm0) (m.getD i tm0)=0) (fun j=>l.length-j) (fun j=>[(20,.v (.int .i64 j))]) (fun _=>_) _ 0 rfl hcl [0,1,2,19] rfl ⟨yah _,fun i hi=>by omega⟩ ⟨⟨_,rfl,yae _⟩,trivial⟩ rfl (fun _ _=>rfl) ?_
  rintro j ⟨hj,hall⟩
  clear hbl
  by_cases hlt:j<l.length
  ·have hx:=h _ (zak l j tm0 hlt) (m.getD j tm0)
   have hgy:=zdw hg _ (zak m j tm0 (by omega))
   have hx:=fun H=>hx H hgy
   have hat:=zip_at (c:=cT) l m j hlen hlt hall
   obtain ⟨v,s,a,e1⟩:=tm_ex (l.getD j tm0)
   obtain ⟨w,t,b,e2⟩:=tm_ex (m.getD j tm0)
   have q1:(l.getD j tm0).cells=[.bool v,.str s,.sl none a.length (a.flatMap Tm.cells)]:=by rw [e1,zai]
   have q2:(m.getD j tm0).cells=[.bool w,.str t,.sl none b.length (b.flatMap Tm.cells)]:=by rw [e2,zai]
   rw [q1,q2] at hx
   generalize hr:cT (l.getD j tm0) (m.getD j tm0)=r at *
   by_cases hr0:r=0
   ·(repeat' ((conv=>whnf);(first|(refine yai ?_;first|refine yar ?_|refine zaq (by omega) ?_|fail)|(refine zaw _ _ Cst.h Cst.h ?_ ?_;· omega)|(refine yaf ?_ ?_;· first|kernel_rfl|omega|exact yaa _ _|fail)|refine yan _ (fun _ hq X=>hx _) ?_|refine zaf tm0 j rfl hlt zbh q1 ?_|refine zaf tm0 j rfl (by omega) zbh q2 ?_|refine zam [] ?_|fail)));conv=>whnf
    (refine ⟨⟨j+1,⟨by omega,fun i hi=>by
     by_cases e:i=j
     ·rw [e,hr];exact hr0
     ·exact hall i (by omega)⟩,by omega,?_,.inl ⟨rfl,rfl⟩,rfl,_,rfl,?_⟩⟩;rotate_left 1;exact .inl rfl;exact ⟨⟨_,rfl,yae _⟩,trivial⟩)
   ·rw [hat hr0]
    (repeat' ((conv=>whnf);(first|(refine yai ?_;first|refine yar ?_|refine zaq (by omega) ?_|refine zal (by omega) ?_|fail)|(refine yaf ?_ ?_;· first|kernel_rfl|omega|exact yaa _ _|fail)|refine yan _ (fun _ hq X=>hx _) ?_|refine zaf tm0 j rfl hlt zbh q1 ?_|refine zaf tm0 j rfl (by omega) zbh q2 ?_|refine zam [] ?_|fail)));conv=>whnf
    exact eT trivial
  ·rw [zip_all (d:=tm0) l m hlen (fun i hi=>hall i (by omega))]
   (repeat' ((conv=>whnf);(first|refine zal (by omega) ?_|fail)));conv=>whnf
   exact eT trivial
 ·have hne:cmpI (l.length:Int) (m.length:Int)≠0:=fun h=>hlen (by rw [zcr] at h;omega)
  unfold andC
  rw [if_neg hne]
  generalize cmpI (l.length:Int) (m.length:Int)=r at *
  generalize l.flatMap Tm.cells=lc at *
  generalize m.flatMap Tm.cells=mc at *
  refine zah Tryz.E0 zab Tryz.func46 (by kernel_rfl) rfl (ybq rfl) rfl fun hcl hbl=>?_
  (repeat' ((conv=>whnf);(first|(refine yai ?_;first|refine yar ?_|refine zal (by omega) ?_|fail)|refine yab _ (hc _) ?_|fail)));conv=>whnf
  exact eT trivial
theorem cmpT_step (v:Bool) (s:ByteArray) (l:List Tm) (hl:l.length≤9223372036854775807) (h:∀ x∈l,CmpT x):CmpT (.mk v s l):=by
 intro y H hy
 obtain ⟨w,t,m,rfl⟩:=tm_ex y
 have hts:=cmpTs_c l m hl (zao hy.2.1) hy.2.2 h
 have hst:=strCmp_c s t
 rw [cT_mk,zai,zai]
 rw [show andC (cmpI l.length m.length) (cTs l m)=cmpL cT l m by rw [zfx];rfl]
 generalize cmpL cT l m=r at *
 generalize cmpB s t=q at *
 generalize l.flatMap Tm.cells=lc at *
 generalize m.flatMap Tm.cells=mc at *
 generalize l.length=ln at *
 generalize m.length=mn at *
 by_cases hq:q=0
 ·subst hq
  cases v <;> cases w
  all_goals
   simp only [cmpV,andC]
   refine zah Tryz.E0 zab Tryz.func47 (by kernel_rfl) rfl (ybq rfl) rfl fun hcl hbl=>?_
   (repeat' ((conv=>whnf);(first|(refine yai ?_;first|refine yar ?_|refine yaq rfl ?_|refine yat rfl ?_|fail)|(refine ybe ?_;first|refine yab _ (hst _) ?_|refine yab _ (hts _) ?_|fail)|fail)));all_goals (conv=>whnf)
   all_goals exact eT trivial
 ·cases v <;> cases w
  all_goals
   simp only [cmpV,andC]
   refine zah Tryz.E0 zab Tryz.func47 (by kernel_rfl) rfl (ybq rfl) rfl fun hcl hbl=>?_
   (repeat' ((conv=>whnf);(first|(refine yai ?_;first|refine yar ?_|refine yaq rfl ?_|refine yat rfl ?_|refine zal (by omega) ?_|fail)|refine yab _ (hst _) ?_|fail)));all_goals (conv=>whnf)
   all_goals exact yaz trivial (Wk.of_eq (by simp [hq]))
mutual
theorem cmpT_g:∀ x:Tm,x.good→CmpT x
 | .mk v s l,h=>cmpT_step v s l (zao h.2.1) (cmpTs_g l h.2.2)
theorem cmpTs_g:∀ l:List Tm,Tm.goodL l→∀ x∈l,CmpT x
 | [],_,x,h=>by cases h
 | y::l,hg,x,h=>by
   have h1:=cmpT_g y hg.1
   have h2:=cmpTs_g l hg.2
   rcases yax.1 h with e|h
   ·exact e▸h1
   ·exact h2 x h
end
def CmpF (x:Fo):Prop:=∀ (y:Fo) (H:Heap),y.good→VDet Tryz.prog 17 [.agg x.cells,.agg y.cells] H (.int .i64 (cF x y))
theorem cmpFs_c (l m:List Fo) (hl:l.length≤9223372036854775807) (hm:m.length≤9223372036854775807) (hg:Fo.goodL m) (h:∀ x∈l,CmpF x) (H:Heap):VDet Tryz.prog 48 [.sl none l.length (l.flatMap Fo.cells),.sl none m.length (m.flatMap Fo.cells),.clo (.func 17) [] []] H (.int .i64 (cmpL cF l m)):=by
 unfold cmpL
 have hc:=cmpi_c l.length m.length
 by_cases hlen:l.length=m.length
 ·rw [show cmpI (l.length:Int) (m.length:Int)=0 by rw [zcr];omega] at hc ⊢
  rw [show andC 0 (zipC cF l m)=zipC cF l m from rfl]
  refine zah Tryz.E0 zab Tryz.func48 (by kernel_rfl) rfl (ybq rfl) rfl fun hcl hbl=>?_
  (repeat' ((conv=>whnf);(first|(refine yai ?_;first|refine yar ?_|refine yaq rfl ?_|fail)|refine yab _ (hc _) ?_|fail)));conv=>whnf
  refine zcg Tryz.E0 zab (σ:=Nat) (fun j=>j≤l.length∧∀ i,i<j→cF (l.getD i fo0) (m.getD i fo0)=0) (fun j=>l.length-j) (fun j=>[(20,.v (.int .i64 j))]) (fun _=>_) _ 0 rfl hcl [0,1,2,19] rfl ⟨yah _,fun i hi=>by omega⟩ ⟨⟨_,rfl,yae _⟩,trivial⟩ rfl (fun _ _=>rfl) ?_
  rintro j ⟨hj,hall⟩
  clear hbl
  by_cases hlt:j<l.length
  ·have hx:=h _ (zak l j fo0 hlt) (m.getD j fo0)
   have hgy:=zbc hg _ (zak m j fo0 (by omega))
   have hx:=fun H=>hx H hgy
   have hat:=zip_at (c:=cF) l m j hlen hlt hall
   obtain ⟨v,s,a,b,e1⟩:=fo_ex (l.getD j fo0)
   obtain ⟨w,t,c,d,e2⟩:=fo_ex (m.getD j fo0)
   have q1:(l.getD j fo0).cells=[.int .u8 v,.str s,.sl none a.length (a.flatMap Tm.cells),.sl none b.length (b.flatMap Fo.cells)]:=by rw [e1,zac]
   have q2:(m.getD j fo0).cells=[.int .u8 w,.str t,.sl none c.length (c.flatMap Tm.cells),.sl none d.length (d.flatMap Fo.cells)]:=by rw [e2,zac]
   rw [q1,q2] at hx
   generalize hr:cF (l.getD j fo0) (m.getD j fo0)=r at *
   by_cases hr0:r=0
   ·(repeat' ((conv=>whnf);(first|(refine yai ?_;first|refine yar ?_|refine zaq (by omega) ?_|fail)|(refine zaw _ _ Cst.h Cst.h ?_ ?_;· omega)|(refine yaf ?_ ?_;· first|kernel_rfl|omega|exact yaa _ _|fail)|refine yan _ (fun _ hq X=>hx _) ?_|refine zaf fo0 j rfl hlt zba q1 ?_|refine zaf fo0 j rfl (by omega) zba q2 ?_|refine zam [] ?_|fail)));conv=>whnf
    (refine ⟨⟨j+1,⟨by omega,fun i hi=>by
     by_cases e:i=j
     ·rw [e,hr];exact hr0
     ·exact hall i (by omega)⟩,by omega,?_,.inl ⟨rfl,rfl⟩,rfl,_,rfl,?_⟩⟩;rotate_left 1;exact .inl rfl;exact ⟨⟨_,rfl,yae _⟩,trivial⟩)
   ·rw [hat hr0]
    (repeat' ((conv=>whnf);(first|(refine yai ?_;first|refine yar ?_|refine zaq (by omega) ?_|refine zal (by omega) ?_|fail)|(refine yaf ?_ ?_;· first|kernel_rfl|omega|exact yaa _ _|fail)|refine yan _ (fun _ hq X=>hx _) ?_|refine zaf fo0 j rfl hlt zba q1 ?_|refine zaf fo0 j rfl (by omega) zba q2 ?_|refine zam [] ?_|fail)));conv=>whnf
    exact eT trivial
  ·rw [zip_all (d:=fo0) l m hlen (fun i hi=>hall i (by omega))]
   (repeat' ((conv=>whnf);(first|refine zal (by omega) ?_|fail)));conv=>whnf
   exact eT trivial
 ·have hne:cmpI (l.length:Int) (m.length:Int)≠0:=fun h=>hlen (by rw [zcr] at h;omega)
  unfold andC
  rw [if_neg hne]
  generalize cmpI (l.length:Int) (m.length:Int)=r at *
  generalize l.flatMap Fo.cells=lc at *
  generalize m.flatMap Fo.cells=mc at *
  refine zah Tryz.E0 zab Tryz.func48 (by kernel_rfl) rfl (ybq rfl) rfl fun hcl hbl=>?_
  (repeat' ((conv=>whnf);(first|(refine yai ?_;first|refine yar ?_|refine zal (by omega) ?_|fail)|refine yab _ (hc _) ?_|fail)));conv=>whnf
  exact eT trivial
theorem cmpF_step (op:Nat) (s:ByteArray) (l:List Tm) (a:List Fo) (hll:l.length≤9223372036854775807) (hal:a.length≤9223372036854775807) (hg:Tm.goodL l) (h:∀ x∈a,CmpF x):CmpF (.mk op s l a):=by
 intro y H hy
 obtain ⟨oq,t,m,b,rfl⟩:=fo_ex y
 have hop:=cmp8_c op oq
 have hts:=cmpTs_c l m hll (zao hy.2.2.1) hy.2.2.2.1 (cmpTs_g l hg)
 have hfs:=cmpFs_c a b hal (zao hy.2.2.2.2.1) hy.2.2.2.2.2 h
 have hst:=strCmp_c s t
 rw [cF_mk,zac,zac]
 rw [show andC (cmpI l.length m.length) (cTs l m)=cmpL cT l m by rw [zfx];rfl,show andC (cmpI a.length b.length) (cFs a b)=cmpL cF a b by rw [cFs_zip];rfl]
 generalize cmpL cT l m=r at *
 generalize cmpL cF a b=p at *
 generalize cmpB s t=q at *
 generalize cmpI (op:Int) oq=o at *
 generalize l.flatMap Tm.cells=lc at *
 generalize m.flatMap Tm.cells=mc at *
 generalize a.flatMap Fo.cells=ac at *
 generalize b.flatMap Fo.cells=bc at *
 generalize l.length=ln at *
 generalize m.length=mn at *
 generalize a.length=an at *
 generalize b.length=bn at *
 unfold andC
 by_cases ho:o=0
 ·subst ho
  rw [if_pos rfl]
  by_cases hq:q=0
  ·subst hq
   rw [if_pos rfl]
   by_cases hr:r=0
   ·subst hr
    rw [if_pos rfl]
    refine zah Tryz.E0 zab Tryz.func17 (by kernel_rfl) rfl (ybq rfl) rfl fun hcl hbl=>?_
    (repeat' ((conv=>whnf);(first|(refine yai ?_;first|refine yar ?_|refine yaq rfl ?_|fail)|(refine ybe ?_;first|refine yab _ (hop _) ?_|refine yab _ (hst _) ?_|refine yab _ (hts _) ?_|refine yab _ (hfs _) ?_|fail)|fail)));conv=>whnf
    exact eT trivial
   ·rw [if_neg hr]
    refine zah Tryz.E0 zab Tryz.func17 (by kernel_rfl) rfl (ybq rfl) rfl fun hcl hbl=>?_
    (repeat' ((conv=>whnf);(first|(refine yai ?_;first|refine yar ?_|refine yaq rfl ?_|refine zal (by omega) ?_|fail)|(refine ybe ?_;first|refine yab _ (hop _) ?_|refine yab _ (hst _) ?_|refine yab _ (hts _) ?_|fail)|fail)));conv=>whnf
    exact eT trivial
  ·rw [if_neg hq]
   refine zah Tryz.E0 zab Tryz.func17 (by kernel_rfl) rfl (ybq rfl) rfl fun hcl hbl=>?_
   (repeat' ((conv=>whnf);(first|(refine yai ?_;first|refine yar ?_|refine yaq rfl ?_|refine zal (by omega) ?_|fail)|(refine ybe ?_;first|refine yab _ (hop _) ?_|refine yab _ (hst _) ?_|fail)|fail)));conv=>whnf
   exact eT trivial
 ·rw [if_neg ho]
  refine zah Tryz.E0 zab Tryz.func17 (by kernel_rfl) rfl (ybq rfl) rfl fun hcl hbl=>?_
  (repeat' ((conv=>whnf);(first|(refine yai ?_;first|refine yar ?_|refine zal (by omega) ?_|fail)|refine yab _ (hop _) ?_|fail)));conv=>whnf
  exact eT trivial
mutual
theorem cmpF_g:∀ x:Fo,x.good→CmpF x
 | .mk op s l m,h=>cmpF_step op s l m (zao h.2.2.1) (zao h.2.2.2.2.1) h.2.2.2.1 (cmpFs_g m h.2.2.2.2.2)
theorem cmpFs_g:∀ l:List Fo,Fo.goodL l→∀ x∈l,CmpF x
 | [],_,x,h=>by cases h
 | y::l,hg,x,h=>by
   have h1:=cmpF_g y hg.1
   have h2:=cmpFs_g l hg.2
   rcases yax.1 h with e|h
   ·exact e▸h1
   ·exact h2 x h
end
theorem sameS_c (x y:Fo) (hx:x.good) (hy:y.good) (H:Heap):VDet Tryz.prog 19 [.agg x.cells,.agg y.cells] H (.bool (decide (cF x y=0))):=by
 have h:=fun H=>cmpF_g x hx y H hy
 obtain ⟨op,s,l,a,rfl⟩:=fo_ex x
 obtain ⟨oq,t,m,b,rfl⟩:=fo_ex y
 rw [zac,zac] at h ⊢
 generalize cF _ _=r at *
 refine zah Tryz.E0 zab Tryz.func19 (by kernel_rfl) rfl (ybq rfl) rfl fun hcl hbl=>?_
 (repeat' ((conv=>whnf);(first|refine yab _ (h _) ?_|fail)));conv=>whnf
 exact eT trivial
def eqFo (x y:Fo):Bool:=decide (cF x y=0)
theorem eqFo_iff (x y:Fo):eqFo x y=true↔x=y:=by
 unfold eqFo
 rw [decide_eq_true_eq]
 exact ⟨(ordFo x).eq y,fun h=>h▸(ordFo x).refl⟩
theorem str_beq (a b:ByteArray):(a.toList==b.toList)=decide (cmpB a b=0):=by
 have e1:a.toList=a.data.toList:=ByteArray.toList_eq a
 have e2:b.toList=b.data.toList:=ByteArray.toList_eq b
 rw [yb0,beq_iff_eq,decide_eq_true_eq,cmpB_zero,e1,e2]
 constructor
 ·intro h
  obtain ⟨⟨x⟩⟩:=a
  obtain ⟨⟨y⟩⟩:=b
  simp only at h
  rw [h]
 ·rintro rfl;rfl
def SamT (x:Tm):Prop:=∀ (m:List Tm) (l:List Tm) (v:Bool) (s:ByteArray),x=.mk v s l→m.length≤9223372036854775807→Tm.goodL m→∀ H,VDet Tryz.prog 61 [.sl none l.length (l.flatMap Tm.cells),.sl none m.length (m.flatMap Tm.cells)] H (.bool (decide (cmpL cT l m=0)))
theorem samTs_c (l:List Tm) (hl:l.length≤9223372036854775807) (h:∀ x∈l,SamT x) (m:List Tm) (hg:Tm.goodL m) (hm:m.length≤9223372036854775807) (H:Heap):VDet Tryz.prog 61 [.sl none l.length (l.flatMap Tm.cells),.sl none m.length (m.flatMap Tm.cells)] H (.bool (decide (cmpL cT l m=0))):=by
 unfold cmpL
 by_cases hlen:l.length=m.length
 ·rw [show cmpI (l.length:Int) (m.length:Int)=0 by rw [zcr];omega]
  rw [show andC 0 (zipC cT l m)=zipC cT l m from rfl]
  refine zah Tryz.E0 zab Tryz.func61 (by kernel_rfl) rfl (ybq rfl) rfl fun hcl hbl=>?_
  (repeat' ((conv=>whnf);(first|(refine yai ?_;first|refine yar ?_|refine zaq (by omega) ?_|fail)|fail)));conv=>whnf
  refine zcg Tryz.E0 zab (σ:=Nat) (fun j=>j≤l.length∧∀ i,i<j→cT (l.getD i tm0) (m.getD i tm0)=0) (fun j=>l.length-j) (fun j=>[(5,.v (.int .i64 j))]) (fun _=>_) _ 0 rfl hcl [0,1] rfl ⟨yah _,fun i hi=>by omega⟩ ⟨⟨_,rfl,yae _⟩,trivial⟩ rfl (fun _ _=>rfl) ?_
  rintro j ⟨hj,hall⟩
  clear hbl
  by_cases hlt:j<l.length
  ·have hx:=h _ (zak l j tm0 hlt)
   have hgy:=zdw hg _ (zak m j tm0 (by omega))
   have hat:=zip_at (c:=cT) l m j hlen hlt hall
   obtain ⟨v,s,a,e1⟩:=tm_ex (l.getD j tm0)
   obtain ⟨w,t,b,e2⟩:=tm_ex (m.getD j tm0)
   have q1:(l.getD j tm0).cells=[.bool v,.str s,.sl none a.length (a.flatMap Tm.cells)]:=by rw [e1,zai]
   have q2:(m.getD j tm0).cells=[.bool w,.str t,.sl none b.length (b.flatMap Tm.cells)]:=by rw [e2,zai]
   rw [e2] at hgy
   have hx:=fun H=>hx b a v s e1 (zao hgy.2.1) hgy.2.2 H
   have hst:=str_beq s t
   have hc:cT (l.getD j tm0) (m.getD j tm0)=andC (cmpV v w) (andC (cmpB s t) (cmpL cT a b)):=by rw [e1,e2,cT_mk,zfx];rfl
   rw [hc] at hat
   have hnz:∀ {z:Int},z≠0→decide (z=0)=false:=fun h=>decide_eq_false h
   by_cases hv:v=w
   ·subst hv
    have hvv:(!v==v)=false:=by cases v <;> rfl
    rw [show cmpV v v=0 by cases v <;> rfl] at hat hc
    by_cases hs:cmpB s t=0
    ·rw [hs] at hat hc hst
     rw [decide_eq_true rfl] at hst
     by_cases hr:cmpL cT a b=0
     ·rw [hr,decide_eq_true rfl] at hx
      (repeat' ((conv=>whnf);(first|(refine yai ?_;first|refine yat hvv ?_|(rw [hst];refine yat rfl ?_)|refine yar ?_|refine yaq rfl ?_|refine zaq (by omega) ?_|fail)|(refine zaw _ _ Cst.h Cst.h ?_ ?_;· omega)|(refine yaf ?_ ?_;· first|kernel_rfl|omega|exact yaa _ _|fail)|refine yan _ (fun _ hq X=>hx _) ?_|refine zaf tm0 j rfl hlt zbh q1 ?_|refine zaf tm0 j rfl (by omega) zbh q2 ?_|refine zam [] ?_|fail)));conv=>whnf
      (refine ⟨⟨j+1,⟨by omega,fun i hi=>by
       by_cases e:i=j
       ·rw [e,hc,hr];rfl
       ·exact hall i (by omega)⟩,by omega,?_,.inl ⟨rfl,rfl⟩,rfl,_,rfl,?_⟩⟩;rotate_left 1;exact .inl rfl;exact ⟨⟨_,rfl,yae _⟩,trivial⟩)
     ·have hz:=hat (by rw [show ∀ z,andC 0 (andC 0 z)=z from fun _=>rfl];exact hr)
      rw [hz,show ∀ z,andC 0 (andC 0 z)=z from fun _=>rfl,decide_eq_false hr]
      rw [decide_eq_false hr] at hx
      (repeat' ((conv=>whnf);(first|(refine yai ?_;first|refine yat hvv ?_|(rw [hst];refine yat rfl ?_)|refine yar ?_|refine yat rfl ?_|refine zaq (by omega) ?_|fail)|(refine yaf ?_ ?_;· first|kernel_rfl|omega|exact yaa _ _|fail)|refine yan _ (fun _ hq X=>hx _) ?_|refine zaf tm0 j rfl hlt zbh q1 ?_|refine zaf tm0 j rfl (by omega) zbh q2 ?_|refine zam [] ?_|fail)));conv=>whnf
      exact eT trivial
    ·rw [decide_eq_false hs] at hst
     have hz:=hat (by rw [show ∀ z,andC 0 z=z from fun _=>rfl];unfold andC;rw [if_neg hs];exact hs)
     rw [hz,show ∀ z,andC 0 z=z from fun _=>rfl]
     unfold andC
     rw [if_neg hs,decide_eq_false hs]
     (repeat' ((conv=>whnf);(first|(refine yai ?_;first|refine yat hvv ?_|(rw [hst];refine yaq rfl ?_)|refine zaq (by omega) ?_|fail)|(refine yaf ?_ ?_;· first|kernel_rfl|omega|exact yaa _ _|fail)|refine zaf tm0 j rfl hlt zbh q1 ?_|refine zaf tm0 j rfl (by omega) zbh q2 ?_|refine zam [] ?_|fail)));conv=>whnf
     exact eT trivial
   ·have hv0:cmpV v w≠0:=by cases v <;> cases w <;> simp_all [cmpV]
    have hz:=hat (by unfold andC;rw [if_neg hv0];exact hv0)
    rw [hz]
    unfold andC
    rw [if_neg hv0,decide_eq_false hv0]
    have hvw:(!v==w)=true:=by cases v <;> cases w <;> simp_all
    (repeat' ((conv=>whnf);(first|(refine yai ?_;first|refine yaq hvw ?_|refine zaq (by omega) ?_|fail)|(refine yaf ?_ ?_;· first|kernel_rfl|omega|exact yaa _ _|fail)|refine zaf tm0 j rfl hlt zbh q1 ?_|refine zaf tm0 j rfl (by omega) zbh q2 ?_|refine zam [] ?_|fail)));conv=>whnf
    exact eT trivial
  ·rw [zip_all (d:=tm0) l m hlen (fun i hi=>hall i (by omega))]
   (repeat' ((conv=>whnf);(first|refine zal (by omega) ?_|fail)));conv=>whnf
   exact eT trivial
 ·have hne:cmpI (l.length:Int) (m.length:Int)≠0:=fun h=>hlen (by rw [zcr] at h;omega)
  unfold andC
  rw [if_neg hne,decide_eq_false hne]
  generalize l.flatMap Tm.cells=lc at *
  generalize m.flatMap Tm.cells=mc at *
  refine zah Tryz.E0 zab Tryz.func61 (by kernel_rfl) rfl (ybq rfl) rfl fun hcl hbl=>?_
  (repeat' ((conv=>whnf);(first|(refine yai ?_;first|refine yar ?_|refine zal (by omega) ?_|fail)|fail)));conv=>whnf
  exact eT trivial
mutual
theorem samT_g:∀ x:Tm,x.good→SamT x
 | .mk v s l,h=>by
   have h1:=samTs_g l h.2.2
   intro m l' v' s' e hm hg H
   cases e
   exact samTs_c l (zao h.2.1) h1 m hg hm H
theorem samTs_g:∀ l:List Tm,Tm.goodL l→∀ x∈l,SamT x
 | [],_,x,h=>by cases h
 | y::l,hg,x,h=>by
   have h1:=samT_g y hg.1
   have h2:=samTs_g l hg.2
   rcases yax.1 h with e|h
   ·exact e▸h1
   ·exact h2 x h
end
def SamF (x:Fo):Prop:=∀ (y:Fo),y.good→∀ H,VDet Tryz.prog 30 [.agg x.cells,.agg y.cells] H (.bool (eqFo x y))
theorem samFs_c (l:List Fo) (hl:l.length≤9223372036854775807) (h:∀ x∈l,SamF x) (m:List Fo) (hg:Fo.goodL m) (hm:m.length≤9223372036854775807) (H:Heap):VDet Tryz.prog 62 [.sl none l.length (l.flatMap Fo.cells),.sl none m.length (m.flatMap Fo.cells)] H (.bool (decide (cmpL cF l m=0))):=by
 unfold cmpL
 by_cases hlen:l.length=m.length
 ·rw [show cmpI (l.length:Int) (m.length:Int)=0 by rw [zcr];omega]
  rw [show andC 0 (zipC cF l m)=zipC cF l m from rfl]
  refine zah Tryz.E0 zab Tryz.func62 (by kernel_rfl) rfl (ybq rfl) rfl fun hcl hbl=>?_
  (repeat' ((conv=>whnf);(first|(refine yai ?_;first|refine yar ?_|refine zaq (by omega) ?_|fail)|fail)));conv=>whnf
  refine zcg Tryz.E0 zab (σ:=Nat) (fun j=>j≤l.length∧∀ i,i<j→cF (l.getD i fo0) (m.getD i fo0)=0) (fun j=>l.length-j) (fun j=>[(5,.v (.int .i64 j))]) (fun _=>_) _ 0 rfl hcl [0,1] rfl ⟨yah _,fun i hi=>by omega⟩ ⟨⟨_,rfl,yae _⟩,trivial⟩ rfl (fun _ _=>rfl) ?_
  rintro j ⟨hj,hall⟩
  clear hbl
  by_cases hlt:j<l.length
  ·have hx:=h _ (zak l j fo0 hlt) (m.getD j fo0)
   have hgy:=zbc hg _ (zak m j fo0 (by omega))
   have hx:=fun H=>hx hgy H
   have hat:=zip_at (c:=cF) l m j hlen hlt hall
   obtain ⟨v,s,a,b,e1⟩:=fo_ex (l.getD j fo0)
   obtain ⟨w,t,c,d,e2⟩:=fo_ex (m.getD j fo0)
   have q1:(l.getD j fo0).cells=[.int .u8 v,.str s,.sl none a.length (a.flatMap Tm.cells),.sl none b.length (b.flatMap Fo.cells)]:=by rw [e1,zac]
   have q2:(m.getD j fo0).cells=[.int .u8 w,.str t,.sl none c.length (c.flatMap Tm.cells),.sl none d.length (d.flatMap Fo.cells)]:=by rw [e2,zac]
   rw [q1,q2] at hx
   unfold eqFo at hx
   generalize hr:cF (l.getD j fo0) (m.getD j fo0)=r at *
   by_cases hr0:r=0
   ·rw [decide_eq_true hr0] at hx
    (repeat' ((conv=>whnf);(first|(refine yai ?_;first|refine yar ?_|refine yaq rfl ?_|refine zaq (by omega) ?_|fail)|(refine zaw _ _ Cst.h Cst.h ?_ ?_;· omega)|(refine yaf ?_ ?_;· first|kernel_rfl|omega|exact yaa _ _|fail)|refine yan _ (fun _ hq X=>hx _) ?_|refine zaf fo0 j rfl hlt zba q1 ?_|refine zaf fo0 j rfl (by omega) zba q2 ?_|refine zam [] ?_|fail)));conv=>whnf
    (refine ⟨⟨j+1,⟨by omega,fun i hi=>by
     by_cases e:i=j
     ·rw [e,hr];exact hr0
     ·exact hall i (by omega)⟩,by omega,?_,.inl ⟨rfl,rfl⟩,rfl,_,rfl,?_⟩⟩;rotate_left 1;exact .inl rfl;exact ⟨⟨_,rfl,yae _⟩,trivial⟩)
   ·rw [hat hr0,decide_eq_false hr0]
    rw [decide_eq_false hr0] at hx
    (repeat' ((conv=>whnf);(first|(refine yai ?_;first|refine yar ?_|refine yat rfl ?_|refine zaq (by omega) ?_|fail)|(refine yaf ?_ ?_;· first|kernel_rfl|omega|exact yaa _ _|fail)|refine yan _ (fun _ hq X=>hx _) ?_|refine zaf fo0 j rfl hlt zba q1 ?_|refine zaf fo0 j rfl (by omega) zba q2 ?_|refine zam [] ?_|fail)));conv=>whnf
    exact eT trivial
  ·rw [zip_all (d:=fo0) l m hlen (fun i hi=>hall i (by omega))]
   (repeat' ((conv=>whnf);(first|refine zal (by omega) ?_|fail)));conv=>whnf
   exact eT trivial
 ·have hne:cmpI (l.length:Int) (m.length:Int)≠0:=fun h=>hlen (by rw [zcr] at h;omega)
  unfold andC
  rw [if_neg hne,decide_eq_false hne]
  generalize l.flatMap Fo.cells=lc at *
  generalize m.flatMap Fo.cells=mc at *
  refine zah Tryz.E0 zab Tryz.func62 (by kernel_rfl) rfl (ybq rfl) rfl fun hcl hbl=>?_
  (repeat' ((conv=>whnf);(first|(refine yai ?_;first|refine yar ?_|refine zal (by omega) ?_|fail)|fail)));conv=>whnf
  exact eT trivial
theorem samF_step (op:Nat) (s:ByteArray) (l:List Tm) (a:List Fo) (hll:l.length≤9223372036854775807) (hal:a.length≤9223372036854775807) (hg:Tm.goodL l) (h:∀ x∈a,SamF x):SamF (.mk op s l a):=by
 intro y hy H
 obtain ⟨oq,t,m,b,rfl⟩:=fo_ex y
 have hts:=samTs_c l hll (samTs_g l hg) m hy.2.2.2.1 (zao hy.2.2.1)
 have hfs:=samFs_c a hal h b hy.2.2.2.2.2 (zao hy.2.2.2.2.1)
 have hst:=str_beq s t
 unfold eqFo
 rw [cF_mk,zac,zac]
 rw [show andC (cmpI l.length m.length) (cTs l m)=cmpL cT l m by rw [zfx];rfl,show andC (cmpI a.length b.length) (cFs a b)=cmpL cF a b by rw [cFs_zip];rfl]
 generalize cmpL cT l m=r at *
 generalize cmpL cF a b=p at *
 generalize l.flatMap Tm.cells=lc at *
 generalize m.flatMap Tm.cells=mc at *
 generalize a.flatMap Fo.cells=ac at *
 generalize b.flatMap Fo.cells=bc at *
 generalize l.length=ln at *
 generalize m.length=mn at *
 generalize a.length=an at *
 generalize b.length=bn at *
 unfold andC
 by_cases ho:cmpI (op:Int) oq=0
 ·rw [if_pos ho]
  obtain rfl:op=oq:=cmpI_nat.1 ho
  by_cases hq:cmpB s t=0
  ·rw [if_pos hq]
   rw [decide_eq_true hq] at hst
   by_cases hr:r=0
   ·rw [if_pos hr]
    rw [decide_eq_true hr] at hts
    refine zah Tryz.E0 zab Tryz.func30 (by kernel_rfl) rfl (ybq rfl) rfl fun hcl hbl=>?_
    (repeat' ((conv=>whnf);(first|(refine yai ?_;first|(rw [hst];refine yaq rfl ?_)|refine yaq rfl ?_|refine zaq (by omega) ?_|fail)|(refine ybe ?_;first|refine yab _ (hts _) ?_|refine yab _ (hfs _) ?_|fail)|fail)));conv=>whnf
    exact eT trivial
   ·rw [if_neg hr,decide_eq_false hr]
    rw [decide_eq_false hr] at hts
    refine zah Tryz.E0 zab Tryz.func30 (by kernel_rfl) rfl (ybq rfl) rfl fun hcl hbl=>?_
    (repeat' ((conv=>whnf);(first|(refine yai ?_;first|(rw [hst];refine yaq rfl ?_)|refine yat rfl ?_|refine zaq (by omega) ?_|fail)|refine yab _ (hts _) ?_|fail)));conv=>whnf
    exact eT trivial
  ·rw [if_neg hq,decide_eq_false hq]
   rw [decide_eq_false hq] at hst
   refine zah Tryz.E0 zab Tryz.func30 (by kernel_rfl) rfl (ybq rfl) rfl fun hcl hbl=>?_
   (repeat' ((conv=>whnf);(first|(refine yai ?_;first|(rw [hst];refine yat rfl ?_)|refine zaq (by omega) ?_|fail)|fail)));conv=>whnf
   exact eT trivial
 ·have hne:op≠oq:=fun h=>ho (cmpI_nat.2 h)
  rw [if_neg ho,decide_eq_false ho]
  refine zah Tryz.E0 zab Tryz.func30 (by kernel_rfl) rfl (ybq rfl) rfl fun hcl hbl=>?_
  (repeat' ((conv=>whnf);(first|refine zal (by omega) ?_|fail)));conv=>whnf
  all_goals exact eT trivial
mutual
theorem samF_g:∀ x:Fo,x.good→SamF x
 | .mk op s l m,h=>samF_step op s l m (zao h.2.2.1) (zao h.2.2.2.2.1) h.2.2.2.1 (samFs_g m h.2.2.2.2.2)
theorem samFs_g:∀ l:List Fo,Fo.goodL l→∀ x∈l,SamF x
 | [],_,x,h=>by cases h
 | y::l,hg,x,h=>by
   have h1:=samF_g y hg.1
   have h2:=samFs_g l hg.2
   rcases yax.1 h with e|h
   ·exact e▸h1
   ·exact h2 x h
end
theorem zf6 {α:Type} (f:α→List AV) (l:List α) (d:α) (j:Nat) (h:j<l.length):(l.take j).flatMap f++f (l.getD j d)=(l.take (j+1)).flatMap f:=by
 rw [List.take_add_one,List.flatMap_append]
 simp [yal h]
def CpyT (x:Tm):Prop:=∀ (v:Bool) (s:ByteArray) (l:List Tm),x=.mk v s l→∀ H,VDet Tryz.prog 39 [.sl none l.length (l.flatMap Tm.cells)] H (.sl none l.length (l.flatMap Tm.cells))
theorem cpyTs_c (l:List Tm) (hf:l.length * 48≤capB) (h:∀ x∈l,CpyT x) (H:Heap):VDet Tryz.prog 39 [.sl none l.length (l.flatMap Tm.cells)] H (.sl none l.length (l.flatMap Tm.cells)):=by
 unfold capB at hf
 refine zah Tryz.E0 zab Tryz.func39 (by kernel_rfl) rfl (ybq rfl) rfl fun hcl hbl=>?_
 conv=>whnf
 refine LoopN.tok 3 36 3 rfl rfl rfl ?_
 refine zcg Tryz.E0 zab (σ:=Nat) (fun j=>j≤l.length) (fun j=>l.length-j) (fun j=>[(3,.v (.sl (some (H.length+0)) j ((l.take j).flatMap Tm.cells))),(4,.v (.int .i64 j))]) (fun j=>[.tok 36 3 ((l.take j).flatMap Tm.cells).length]) _ 0 rfl hcl [0] rfl (yah _) ⟨⟨_,rfl,yae _⟩,⟨_,rfl,yae _⟩,trivial⟩ rfl (fun _ _=>rfl) ?_
 intro j hj
 clear hbl
 by_cases hlt:j<l.length
 ·have hx:=h _ (zak l j tm0 hlt)
  obtain ⟨v,s,a,e1⟩:=tm_ex (l.getD j tm0)
  have q1:(l.getD j tm0).cells=[.bool v,.str s,.sl none a.length (a.flatMap Tm.cells)]:=by rw [e1,zai]
  have hx:=hx v s a e1
  have hln:((l.take j).flatMap Tm.cells).length=j * 3:=by rw [zcw zbh,yb7,yb6 hj]
  have hns:=zf6 Tm.cells l tm0 j hlt
  rw [q1] at hns
  have hb1:(j+1) * 48≤140737488355328:=by omega
  have hb2:j+1≤maxLen:=by unfold maxLen;omega
  (repeat' ((conv=>whnf);(first|refine zaq (by omega) ?_|(refine zaw _ _ Cst.h Cst.h ?_ ?_;· omega)|(refine yaf ?_ ?_;· first|kernel_rfl|omega|exact yaa _ _|fail)|refine yan _ (fun _ hq X=>hx _) ?_|refine zaf tm0 j rfl hlt zbh q1 ?_|refine yaf ⟨rfl,rfl,rfl,hb1,hb2⟩ ?_|refine PtrN.loc _ rfl ?_|refine zam [] ?_|fail)));conv=>whnf
  all_goals rw [hns]
  all_goals (refine ⟨⟨j+1,by omega,by omega,?_,.inl ⟨rfl,rfl⟩,rfl,_,rfl,?_⟩⟩;rotate_left 1;exact .inl rfl;exact ⟨⟨_,rfl,yae _⟩,⟨_,rfl,yae _⟩,trivial⟩)
 ·obtain rfl:j=l.length:=by omega
  rw [ya0]
  (repeat' ((conv=>whnf);(first|refine zal (by omega) ?_|fail)));conv=>whnf
  exact yaz ⟨(fun _ h=>by cases h),zau _ _⟩ (wk_sl _ _ _)
mutual
theorem cpyT_g:∀ x:Tm,x.fit→CpyT x
 | .mk v s l,h=>by
   have h1:=cpyTs_g l h.2.2
   intro v' s' l' e H
   cases e
   exact cpyTs_c l h.2.1 h1 H
theorem cpyTs_g:∀ l:List Tm,Tm.fitL l→∀ x∈l,CpyT x
 | [],_,x,h=>by cases h
 | y::l,hg,x,h=>by
   have h1:=cpyT_g y hg.1
   have h2:=cpyTs_g l hg.2
   rcases yax.1 h with e|h
   ·exact e▸h1
   ·exact h2 x h
end
def CpyF (x:Fo):Prop:=∀ H,VDet Tryz.prog 11 [.agg x.cells] H (.agg x.cells)
theorem cpyFs_c (l:List Fo) (hf:l.length * 72≤capB) (h:∀ x∈l,CpyF x) (H:Heap):VDet Tryz.prog 40 [.sl none l.length (l.flatMap Fo.cells)] H (.sl none l.length (l.flatMap Fo.cells)):=by
 unfold capB at hf
 refine zah Tryz.E0 zab Tryz.func40 (by kernel_rfl) rfl (ybq rfl) rfl fun hcl hbl=>?_
 conv=>whnf
 refine LoopN.tok 3 25 4 rfl rfl rfl ?_
 refine zcg Tryz.E0 zab (σ:=Nat) (fun j=>j≤l.length) (fun j=>l.length-j) (fun j=>[(3,.v (.sl (some (H.length+0)) j ((l.take j).flatMap Fo.cells))),(4,.v (.int .i64 j))]) (fun j=>[.tok 25 4 ((l.take j).flatMap Fo.cells).length]) _ 0 rfl hcl [0] rfl (yah _) ⟨⟨_,rfl,yae _⟩,⟨_,rfl,yae _⟩,trivial⟩ rfl (fun _ _=>rfl) ?_
 intro j hj
 clear hbl
 by_cases hlt:j<l.length
 ·have hx:=h _ (zak l j fo0 hlt)
  unfold CpyF at hx
  obtain ⟨o,s,a,b,e1⟩:=fo_ex (l.getD j fo0)
  have q1:(l.getD j fo0).cells=[.int .u8 o,.str s,.sl none a.length (a.flatMap Tm.cells),.sl none b.length (b.flatMap Fo.cells)]:=by rw [e1,zac]
  rw [q1] at hx
  have hns:=zf6 Fo.cells l fo0 j hlt
  rw [q1] at hns
  have hb1:(j+1) * 72≤140737488355328:=by omega
  have hb2:j+1≤maxLen:=by unfold maxLen;omega
  (repeat' ((conv=>whnf);(first|refine zaq (by omega) ?_|(refine zaw _ _ Cst.h Cst.h ?_ ?_;· omega)|(refine yaf ?_ ?_;· first|omega|exact yaa _ _|fail)|refine yab _ (hx _) ?_|refine zaf fo0 j rfl hlt zba q1 ?_|refine yaf ⟨rfl,rfl,rfl,hb1,hb2⟩ ?_|refine PtrN.loc _ rfl ?_|fail)));conv=>whnf
  all_goals rw [hns]
  all_goals (refine ⟨⟨j+1,by omega,by omega,?_,.inl ⟨rfl,rfl⟩,rfl,_,rfl,?_⟩⟩;rotate_left 1;exact .inl rfl;exact ⟨⟨_,rfl,yae _⟩,⟨_,rfl,yae _⟩,trivial⟩)
 ·obtain rfl:j=l.length:=by omega
  rw [ya0]
  (repeat' ((conv=>whnf);(first|refine zal (by omega) ?_|fail)));conv=>whnf
  exact yaz ⟨(fun _ h=>by cases h),zax _ _⟩ (wk_sl _ _ _)
theorem cpyF_step (op:Nat) (s:ByteArray) (l:List Tm) (m:List Fo) (hl:l.length * 48≤capB) (hlf:Tm.fitL l) (hm:m.length * 72≤capB) (h:∀ x∈m,CpyF x):CpyF (.mk op s l m):=by
 intro H
 have h1:=cpyTs_c l hl (cpyTs_g l hlf)
 have h2:=cpyFs_c m hm h
 have hb1:=fun n=>zau n l
 have hb2:=fun n=>zax n m
 rw [zac]
 generalize l.flatMap Tm.cells=lc at *
 generalize m.flatMap Fo.cells=mc at *
 generalize l.length=ln at *
 generalize m.length=mn at *
 refine zah Tryz.E0 zab Tryz.func11 (by kernel_rfl) rfl (ybq rfl) rfl fun hcl hbl=>?_
 (repeat' ((conv=>whnf);(first|refine yaf (by kernel_rfl) ?_|(refine CallD.id ?_;first|refine yan _ (fun _ hq X=>h1 _) ?_|refine yan _ (fun _ hq X=>h2 _) ?_|fail)|refine zam [] ?_|fail)));conv=>whnf
 exact eT (by simp [below,zae,hb1,hb2])
mutual
theorem cpyF_g:∀ x:Fo,x.fit→CpyF x
 | .mk op s l m,h=>cpyF_step op s l m h.2.1 h.2.2.1 h.2.2.2.1 (cpyFs_g m h.2.2.2.2)
theorem cpyFs_g:∀ l:List Fo,Fo.fitL l→∀ x∈l,CpyF x
 | [],_,x,h=>by cases h
 | y::l,hg,x,h=>by
   have h1:=cpyF_g y hg.1
   have h2:=cpyFs_g l hg.2
   rcases yax.1 h with e|h
   ·exact e▸h1
   ·exact h2 x h
end
end
section
def wI (n:Int):Int:=IntKind.i64.wrap n
mutual
def szT:Tm→Int→Int
 | .mk _ s l,left=>wI (1+(s.size:Int) / 40+szTs l left 0)
def szTs:List Tm→Int→Int→Int
 | [],_,n=>n
 | x::l,left,n=>if n≤left then szTs l left (wI (n+szT x (wI (left-n)))) else n
end
theorem szTs_cons (x:Tm) (l:List Tm) (left n:Int):szTs (x::l) left n=if n≤left then szTs l left (wI (n+szT x (wI (left-n)))) else n:=by rw [szTs.eq_def]
theorem szTs_nil (left n:Int):szTs [] left n=n:=by rw [szTs.eq_def]
theorem szT_mk (v:Bool) (s:ByteArray) (l:List Tm) (left:Int):szT (.mk v s l) left=wI (1+(s.size:Int) / 40+szTs l left 0):=by rw [szT.eq_def]
mutual
def szF:Fo→Int→Int
 | .mk _ s l m,left=>szFs m left (wI (1+(s.size:Int) / 40+szTs l left 0))
def szFs:List Fo→Int→Int→Int
 | [],_,n=>n
 | x::l,left,n=>if n≤left then szFs l left (wI (n+szF x (wI (left-n)))) else n
end
theorem szFs_cons (x:Fo) (l:List Fo) (left n:Int):szFs (x::l) left n=if n≤left then szFs l left (wI (n+szF x (wI (left-n)))) else n:=by rw [szFs.eq_def]
theorem szFs_nil (left n:Int):szFs [] left n=n:=by rw [szFs.eq_def]
theorem szF_mk (op:Nat) (s:ByteArray) (l:List Tm) (m:List Fo) (left:Int):szF (.mk op s l m) left=szFs m left (wI (1+(s.size:Int) / 40+szTs l left 0)):=by rw [szF.eq_def]
theorem zce {α:Type} (l:List α) (d:α) (j:Nat) (h:j<l.length):l.drop j=l.getD j d::l.drop (j+1):=by
 rw [List.drop_eq_getElem_cons h]
 simp [ybi,h]
attribute [local irreducible] VW VCall VO bits
def SizT (x:Tm):Prop:=∀ (v:Bool) (s:ByteArray) (l:List Tm),x=.mk v s l→s.size≤9223372036854775807∧∀ (left:Int) H,VDet Tryz.prog 43 [.sl none l.length (l.flatMap Tm.cells),.int .i64 left] H (.int .i64 (szTs l left 0))
theorem sizTs_c (l:List Tm) (hl:l.length≤9223372036854775807) (h:∀ x∈l,SizT x) (left:Int) (H:Heap):VDet Tryz.prog 43 [.sl none l.length (l.flatMap Tm.cells),.int .i64 left] H (.int .i64 (szTs l left 0)):=by
 refine zah Tryz.E0 zab Tryz.func43 (by kernel_rfl) rfl (ybq rfl) rfl fun hcl hbl=>?_
 conv=>whnf
 refine zcg Tryz.E0 zab (σ:=Nat×Int) (fun p=>p.1≤l.length∧szTs (l.drop p.1) left p.2=szTs l left 0) (fun p=>l.length-p.1) (fun p=>[(6,.v (.int .i64 p.1)),(5,.v (.int .i64 p.2))]) (fun _=>_) _ (0,0) rfl hcl [0,1] rfl ⟨yah _,rfl⟩ ⟨⟨_,rfl,yae _⟩,⟨_,rfl,yae _⟩,trivial⟩ rfl (fun _ _=>rfl) ?_
 rintro ⟨j,n⟩ ⟨hj,hinv⟩
 simp only at hj hinv
 clear hbl
 by_cases hlt:j<l.length
 ·obtain ⟨v,s,a,e1⟩:=tm_ex (l.getD j tm0)
  obtain ⟨hs,hx⟩:=h _ (zak l j tm0 hlt) v s a e1
  have q1:(l.getD j tm0).cells=[.bool v,.str s,.sl none a.length (a.flatMap Tm.cells)]:=by rw [e1,zai]
  rw [zce l tm0 j hlt,szTs_cons,e1,szT_mk] at hinv
  by_cases hn:n≤left
  ·rw [if_pos hn] at hinv
   have hx:=hx (wI (left-n))
   generalize hr:szTs a (wI (left-n)) 0=r at *
   (repeat' ((conv=>whnf);(first|refine zaq (by omega) ?_|(refine EqN.id ?_;first|refine EqN.mk (wI (left-n)) rfl ?_|refine EqN.mk (wI (1+(s.size:Int) / 40+r)) rfl ?_|refine EqN.mk (wI (n+wI (1+(s.size:Int) / 40+r))) rfl ?_|(refine zaw _ _ Cst.h Cst.h ?_ ?_;· omega)|refine yb9 (by omega) ?_|refine EqN.quo (by omega) ?_|fail)|(refine yaf ?_ ?_;· first|kernel_rfl|omega|exact yaa _ _|fail)|refine yan _ (fun _ hq X=>hx _) ?_|refine zaf tm0 j rfl hlt zbh q1 ?_|refine zam [] ?_|fail)));conv=>whnf
   (refine ⟨⟨(j+1,wI (n+wI (1+(s.size:Int) / 40+r))),⟨by show j+1≤l.length;omega,hinv⟩,by omega,?_,.inl ⟨rfl,rfl⟩,rfl,_,rfl,?_⟩⟩;rotate_left 1;exact .inl rfl;exact ⟨⟨_,rfl,yae _⟩,⟨_,rfl,yae _⟩,trivial⟩)
  ·rw [if_neg hn] at hinv
   (repeat' ((conv=>whnf);(first|(refine yai ?_;first|refine zaq (by omega) ?_|refine zal (by omega) ?_|fail)|fail)));conv=>whnf
   exact yaz trivial (Wk.of_eq (by rw [hinv]))
 ·rw [ycp (by omega),szTs_nil] at hinv
  (repeat' ((conv=>whnf);(first|refine zal (by omega) ?_|fail)));conv=>whnf
  exact yaz trivial (Wk.of_eq (by rw [hinv]))
mutual
theorem sizT_g:∀ x:Tm,x.good→SizT x
 | .mk v s l,h=>by
   have h1:=sizTs_g l h.2.2
   intro v' s' l' e
   cases e
   exact ⟨zao h.1,fun left H=>sizTs_c l (zao h.2.1) h1 left H⟩
theorem sizTs_g:∀ l:List Tm,Tm.goodL l→∀ x∈l,SizT x
 | [],_,x,h=>by cases h
 | y::l,hg,x,h=>by
   have h1:=sizT_g y hg.1
   have h2:=sizTs_g l hg.2
   rcases yax.1 h with e|h
   ·exact e▸h1
   ·exact h2 x h
end
def SizF (x:Fo):Prop:=∀ (left:Int) H,VDet Tryz.prog 16 [.agg x.cells,.int .i64 left] H (.int .i64 (szF x left))
theorem sizF_step (op:Nat) (s:ByteArray) (l:List Tm) (m:List Fo) (hs:s.size≤9223372036854775807) (hl:l.length≤9223372036854775807) (hm:m.length≤9223372036854775807) (hg:Tm.goodL l) (h:∀ x∈m,SizF x):SizF (.mk op s l m):=by
 intro left H
 have h1:=sizTs_c l hl (sizTs_g l hg) left
 rw [szF_mk,zac]
 generalize szTs l left 0=r at *
 have hb:=zau H.length l
 generalize l.flatMap Tm.cells=lc at *
 generalize l.length=ln at *
 generalize hn0:wI (1+(s.size:Int) / 40+r)=n0
 refine zah Tryz.E0 zab Tryz.func16 (by kernel_rfl) rfl (ybq rfl) rfl fun hcl hbl=>?_
 (repeat' ((conv=>whnf);(first|(refine EqN.id ?_;first|refine EqN.mk n0 hn0 ?_|refine yb9 (by omega) ?_|refine EqN.quo (by omega) ?_|fail)|(refine yaf ?_ ?_;· first|kernel_rfl|omega|fail)|refine yan _ (fun _ hq X=>h1 _) ?_|refine zam [] ?_|fail)));conv=>whnf
 refine zcg Tryz.E0 zab (σ:=Nat×Int) (fun p=>p.1≤m.length∧szFs (m.drop p.1) left p.2=szFs m left n0) (fun p=>m.length-p.1) (fun p=>[(6,.v (.int .i64 p.1)),(5,.v (.int .i64 p.2))]) (fun _=>[.box 25 [.int .u8 op,.str s,.sl none ln lc,.sl none m.length (m.flatMap Fo.cells)]]) _ (0,n0) rfl hcl [1,2] rfl ⟨yah _,rfl⟩ ⟨⟨_,rfl,yae _⟩,⟨_,rfl,yae _⟩,trivial⟩ rfl (fun _ _=>rfl) ?_
 rintro ⟨j,n⟩ ⟨hj,hinv⟩
 simp only at hj hinv
 clear hbl
 by_cases hlt:j<m.length
 ·have hx:=h _ (zak m j fo0 hlt)
  obtain ⟨o,t,a,b,e1⟩:=fo_ex (m.getD j fo0)
  have q1:(m.getD j fo0).cells=[.int .u8 o,.str t,.sl none a.length (a.flatMap Tm.cells),.sl none b.length (b.flatMap Fo.cells)]:=by rw [e1,zac]
  rw [zce m fo0 j hlt,szFs_cons] at hinv
  by_cases hn:n≤left
  ·rw [if_pos hn] at hinv
   have hx:=hx (wI (left-n))
   rw [q1] at hx
   generalize hr:szF (m.getD j fo0) (wI (left-n))=r at *
   (repeat' ((conv=>whnf);(first|refine zaq (by omega) ?_|(refine EqN.id ?_;first|refine EqN.mk (wI (left-n)) rfl ?_|refine EqN.mk (wI (n+r)) rfl ?_|(refine zaw _ _ Cst.h Cst.h ?_ ?_;· omega)|fail)|(refine yaf ?_ ?_;· first|omega|exact yaa _ _|fail)|refine yab _ (hx _) ?_|refine zaf fo0 j rfl hlt zba q1 ?_|fail)));conv=>whnf
   (refine ⟨⟨(j+1,wI (n+r)),⟨by show j+1≤m.length;omega,hinv⟩,by omega,?_,.inl ⟨rfl,rfl⟩,rfl,_,rfl,?_⟩⟩;rotate_left 1;exact .inl rfl;exact ⟨⟨_,rfl,yae _⟩,⟨_,rfl,yae _⟩,trivial⟩)
  ·rw [if_neg hn] at hinv
   (repeat' ((conv=>whnf);(first|(refine yai ?_;first|refine zaq (by omega) ?_|refine zal (by omega) ?_|fail)|fail)));conv=>whnf
   exact yaz trivial (Wk.of_eq (by rw [hinv]))
 ·rw [ycp (by omega),szFs_nil] at hinv
  (repeat' ((conv=>whnf);(first|refine zal (by omega) ?_|fail)));conv=>whnf
  exact yaz trivial (Wk.of_eq (by rw [hinv]))
mutual
theorem sizF_g:∀ x:Fo,x.good→SizF x
 | .mk op s l m,h=>sizF_step op s l m (zao h.2.1) (zao h.2.2.1) (zao h.2.2.2.2.1) h.2.2.2.1 (sizFs_g m h.2.2.2.2.2)
theorem sizFs_g:∀ l:List Fo,Fo.goodL l→∀ x∈l,SizF x
 | [],_,x,h=>by cases h
 | y::l,hg,x,h=>by
   have h1:=sizF_g y hg.1
   have h2:=sizFs_g l hg.2
   rcases yax.1 h with e|h
   ·exact e▸h1
   ·exact h2 x h
end
def smallB (l:List Fo):Bool:=decide (szFs l 500 0≤500)
theorem small_c (m:List Fo) (hm:m.length≤9223372036854775807) (hg:Fo.goodL m) (H:Heap):VDet Tryz.prog 6 [.sl none m.length (m.flatMap Fo.cells)] H (.bool (smallB m)):=by
 have h:=sizFs_g m hg
 unfold smallB
 refine zah Tryz.E0 zab Tryz.func6 (by kernel_rfl) rfl (ybq rfl) rfl fun hcl hbl=>?_
 conv=>whnf
 refine zcg Tryz.E0 zab (σ:=Nat×Int) (fun p=>p.1≤m.length∧szFs (m.drop p.1) 500 p.2=szFs m 500 0) (fun p=>m.length-p.1) (fun p=>[(4,.v (.int .i64 p.1)),(3,.v (.int .i64 p.2))]) (fun _=>_) _ (0,0) rfl hcl [0] rfl ⟨yah _,rfl⟩ ⟨⟨_,rfl,yae _⟩,⟨_,rfl,yae _⟩,trivial⟩ rfl (fun _ _=>rfl) ?_
 rintro ⟨j,n⟩ ⟨hj,hinv⟩
 simp only at hj hinv
 clear hbl
 by_cases hlt:j<m.length
 ·have hx:=h _ (zak m j fo0 hlt)
  obtain ⟨o,t,a,b,e1⟩:=fo_ex (m.getD j fo0)
  have q1:(m.getD j fo0).cells=[.int .u8 o,.str t,.sl none a.length (a.flatMap Tm.cells),.sl none b.length (b.flatMap Fo.cells)]:=by rw [e1,zac]
  rw [zce m fo0 j hlt,szFs_cons] at hinv
  by_cases hn:n≤500
  ·rw [if_pos hn] at hinv
   have hx:=hx (wI (500-n))
   rw [q1] at hx
   generalize hr:szF (m.getD j fo0) (wI (500-n))=r at *
   (repeat' ((conv=>whnf);(first|refine zaq (by omega) ?_|(refine EqN.id ?_;first|refine EqN.mk (wI (500-n)) rfl ?_|refine EqN.mk (wI (n+r)) rfl ?_|(refine zaw _ _ Cst.h Cst.h ?_ ?_;· omega)|fail)|(refine yaf ?_ ?_;· first|omega|exact yaa _ _|fail)|refine yab _ (hx _) ?_|refine zaf fo0 j rfl hlt zba q1 ?_|fail)));conv=>whnf
   (refine ⟨⟨(j+1,wI (n+r)),⟨by show j+1≤m.length;omega,hinv⟩,by omega,?_,.inl ⟨rfl,rfl⟩,rfl,_,rfl,?_⟩⟩;rotate_left 1;exact .inl rfl;exact ⟨⟨_,rfl,yae _⟩,⟨_,rfl,yae _⟩,trivial⟩)
  ·rw [if_neg hn] at hinv
   (repeat' ((conv=>whnf);(first|(refine yai ?_;first|refine zaq (by omega) ?_|refine zal (by omega) ?_|fail)|fail)));conv=>whnf
   exact yaz trivial (Wk.of_eq (by rw [hinv]))
 ·rw [ycp (by omega),szFs_nil] at hinv
  (repeat' ((conv=>whnf);(first|refine zal (by omega) ?_|fail)));conv=>whnf
  exact yaz trivial (Wk.of_eq (by rw [hinv]))
end
section
attribute [local irreducible] VW VCall VO bits
def SyT (x:Tm):Prop:=∀ H,VDet Tryz.prog 75 [.agg x.cells] H (.agg x.cells)
theorem syTs_c (l:List Tm) (hf:l.length * 48≤capB) (h:∀ x∈l,SyT x) (H:Heap):VDet Tryz.prog 74 [.sl none l.length (l.flatMap Tm.cells),.clo (.func 75) [] []] H (.sl none l.length (l.flatMap Tm.cells)):=by
 unfold capB at hf
 by_cases h0:l.length=0
 ·obtain rfl:=ya1 h0
  refine zah Tryz.E0 zab Tryz.func74 (by kernel_rfl) rfl (ybq rfl) rfl fun hcl hbl=>?_
  (repeat' ((conv=>whnf);(first|refine yaq rfl ?_|fail)));conv=>whnf
  exact yaz ⟨(fun _ h=>by cases h),trivial⟩ zbe
 have hb0:l.length * 48≤281474976710656:=by omega
 refine zah Tryz.E0 zab Tryz.func74 (by kernel_rfl) rfl (ybq rfl) rfl fun hcl hbl=>?_
 (repeat' ((conv=>whnf);(first|refine zal (by omega) ?_|(refine OrN.natR ?_;refine NatN.mk _ rfl ?_;refine yaf ⟨rfl,?_,?_⟩ (OrN.l ?_);(· omega);(· first|omega|assumption|fail))|fail)));conv=>whnf
 refine zcg Tryz.E0 zab (σ:=Nat) (fun j=>j≤l.length) (fun j=>l.length-j) (fun j=>[(5,.v (.sl (some (H.length+0)) j ((l.take j).flatMap Tm.cells))),(16,.v (.int .i64 j))]) (fun j=>[.tok 36 3 ((l.take j).flatMap Tm.cells).length]) _ 0 rfl hcl [1,14,15] rfl (yah _) ⟨⟨_,rfl,yae _⟩,⟨_,rfl,yae _⟩,trivial⟩ rfl (fun _ _=>rfl) ?_
 intro j hj
 clear hbl
 by_cases hlt:j<l.length
 ·have hx:=h _ (zak l j tm0 hlt)
  unfold SyT at hx
  obtain ⟨v,s,a,e1⟩:=tm_ex (l.getD j tm0)
  have q1:(l.getD j tm0).cells=[.bool v,.str s,.sl none a.length (a.flatMap Tm.cells)]:=by rw [e1,zai]
  rw [q1] at hx
  have hns:=zf6 Tm.cells l tm0 j hlt
  rw [q1] at hns
  have hb1:(j+1) * 48≤140737488355328:=by omega
  have hb2:j+1≤maxLen:=by unfold maxLen;omega
  (repeat' ((conv=>whnf);(first|refine zaq (by omega) ?_|(refine zaw _ _ Cst.h Cst.h ?_ ?_;· omega)|(refine yaf ?_ ?_;· first|omega|exact yaa _ _|fail)|refine yab _ (hx _) ?_|refine zaf tm0 j rfl hlt zbh q1 ?_|refine yaf ⟨rfl,rfl,rfl,hb1,hb2⟩ ?_|refine PtrN.loc _ rfl ?_|fail)));conv=>whnf
  all_goals rw [hns]
  all_goals (refine ⟨⟨j+1,by omega,by omega,?_,.inl ⟨rfl,rfl⟩,rfl,_,rfl,?_⟩⟩;rotate_left 1;exact .inr ⟨by simp [za4,below,zae,tr,zau,zax],by simp [zdu,Blk.below,zae,below,zau,zax]⟩;exact ⟨⟨_,rfl,yae _⟩,⟨_,rfl,yae _⟩,trivial⟩)
 ·obtain rfl:j=l.length:=by omega
  rw [ya0]
  (repeat' ((conv=>whnf);(first|refine zal (by omega) ?_|fail)));conv=>whnf
  exact yaz ⟨(fun _ h=>by cases h),zau _ _⟩ (wk_sl _ _ _)
theorem syT_step (v:Bool) (s:ByteArray) (l:List Tm) (hl:l.length * 48≤capB) (h:∀ x∈l,SyT x):SyT (.mk v s l):=by
 intro H
 have h1:=syTs_c l hl h
 have hb1:=fun n=>zau n l
 rw [zai]
 generalize l.flatMap Tm.cells=lc at *
 generalize l.length=ln at *
 refine zah Tryz.E0 zab Tryz.func75 (by kernel_rfl) rfl (ybq rfl) rfl fun hcl hbl=>?_
 (repeat' ((conv=>whnf);(first|refine yaf (by kernel_rfl) ?_|refine yan _ (fun _ hq X=>h1 _) ?_|refine zam [] ?_|fail)));conv=>whnf
 exact eT (by simp [below,zae,hb1])
mutual
theorem syT_g:∀ x:Tm,x.fit→SyT x
 | .mk v s l,h=>syT_step v s l h.2.1 (syTs_g l h.2.2)
theorem syTs_g:∀ l:List Tm,Tm.fitL l→∀ x∈l,SyT x
 | [],_,x,h=>by cases h
 | y::l,hg,x,h=>by
   have h1:=syT_g y hg.1
   have h2:=syTs_g l hg.2
   rcases yax.1 h with e|h
   ·exact e▸h1
   ·exact h2 x h
end
def SyF (x:Fo):Prop:=∀ H,VDet Tryz.prog 42 [.agg x.cells] H (.agg x.cells)
theorem syFs_c (l:List Fo) (hf:l.length * 72≤capB) (h:∀ x∈l,SyF x) (H:Heap):VDet Tryz.prog 76 [.sl none l.length (l.flatMap Fo.cells),.clo (.func 42) [] []] H (.sl none l.length (l.flatMap Fo.cells)):=by
 unfold capB at hf
 by_cases h0:l.length=0
 ·obtain rfl:=ya1 h0
  refine zah Tryz.E0 zab Tryz.func76 (by kernel_rfl) rfl (ybq rfl) rfl fun hcl hbl=>?_
  (repeat' ((conv=>whnf);(first|refine yaq rfl ?_|fail)));conv=>whnf
  exact yaz ⟨(fun _ h=>by cases h),trivial⟩ zbe
 have hb0:l.length * 72≤281474976710656:=by omega
 refine zah Tryz.E0 zab Tryz.func76 (by kernel_rfl) rfl (ybq rfl) rfl fun hcl hbl=>?_
 (repeat' ((conv=>whnf);(first|refine zal (by omega) ?_|(refine OrN.natR ?_;refine NatN.mk _ rfl ?_;refine yaf ⟨rfl,?_,?_⟩ (OrN.l ?_);(· omega);(· first|omega|assumption|fail))|fail)));conv=>whnf
 refine zcg Tryz.E0 zab (σ:=Nat) (fun j=>j≤l.length) (fun j=>l.length-j) (fun j=>[(5,.v (.sl (some (H.length+0)) j ((l.take j).flatMap Fo.cells))),(16,.v (.int .i64 j))]) (fun j=>[.tok 25 4 ((l.take j).flatMap Fo.cells).length]) _ 0 rfl hcl [1,14,15] rfl (yah _) ⟨⟨_,rfl,yae _⟩,⟨_,rfl,yae _⟩,trivial⟩ rfl (fun _ _=>rfl) ?_
 intro j hj
 clear hbl
 by_cases hlt:j<l.length
 ·have hx:=h _ (zak l j fo0 hlt)
  unfold SyF at hx
  obtain ⟨o,s,a,b,e1⟩:=fo_ex (l.getD j fo0)
  have q1:(l.getD j fo0).cells=[.int .u8 o,.str s,.sl none a.length (a.flatMap Tm.cells),.sl none b.length (b.flatMap Fo.cells)]:=by rw [e1,zac]
  rw [q1] at hx
  have hns:=zf6 Fo.cells l fo0 j hlt
  rw [q1] at hns
  have hb1:(j+1) * 72≤140737488355328:=by omega
  have hb2:j+1≤maxLen:=by unfold maxLen;omega
  (repeat' ((conv=>whnf);(first|refine zaq (by omega) ?_|(refine zaw _ _ Cst.h Cst.h ?_ ?_;· omega)|(refine yaf ?_ ?_;· first|omega|exact yaa _ _|fail)|refine yab _ (hx _) ?_|refine zaf fo0 j rfl hlt zba q1 ?_|refine yaf ⟨rfl,rfl,rfl,hb1,hb2⟩ ?_|refine PtrN.loc _ rfl ?_|fail)));conv=>whnf
  all_goals rw [hns]
  all_goals (refine ⟨⟨j+1,by omega,by omega,?_,.inl ⟨rfl,rfl⟩,rfl,_,rfl,?_⟩⟩;rotate_left 1;exact .inr ⟨by simp [za4,below,zae,tr,zau,zax],by simp [zdu,Blk.below,zae,below,zau,zax]⟩;exact ⟨⟨_,rfl,yae _⟩,⟨_,rfl,yae _⟩,trivial⟩)
 ·obtain rfl:j=l.length:=by omega
  rw [ya0]
  (repeat' ((conv=>whnf);(first|refine zal (by omega) ?_|fail)));conv=>whnf
  exact yaz ⟨(fun _ h=>by cases h),zax _ _⟩ (wk_sl _ _ _)
theorem syF_step (op:Nat) (s:ByteArray) (l:List Tm) (m:List Fo) (hl:l.length * 48≤capB) (hlf:Tm.fitL l) (hm:m.length * 72≤capB) (h:∀ x∈m,SyF x):SyF (.mk op s l m):=by
 intro H
 have h1:=syTs_c l hl (syTs_g l hlf)
 have h2:=syFs_c m hm h
 have hb1:=fun n=>zau n l
 have hb2:=fun n=>zax n m
 rw [zac]
 generalize l.flatMap Tm.cells=lc at *
 generalize m.flatMap Fo.cells=mc at *
 generalize l.length=ln at *
 generalize m.length=mn at *
 refine zah Tryz.E0 zab Tryz.func42 (by kernel_rfl) rfl (ybq rfl) rfl fun hcl hbl=>?_
 (repeat' ((conv=>whnf);(first|refine yaf (by kernel_rfl) ?_|(refine CallD.id ?_;first|refine yan _ (fun _ hq X=>h1 _) ?_|refine yan _ (fun _ hq X=>h2 _) ?_|fail)|refine zam [] ?_|fail)));conv=>whnf
 exact eT (by simp [below,zae,hb1,hb2])
mutual
theorem syF_g:∀ x:Fo,x.fit→SyF x
 | .mk op s l m,h=>syF_step op s l m h.2.1 h.2.2.1 h.2.2.2.1 (syFs_g m h.2.2.2.2)
theorem syFs_g:∀ l:List Fo,Fo.fitL l→∀ x∈l,SyF x
 | [],_,x,h=>by cases h
 | y::l,hg,x,h=>by
   have h1:=syF_g y hg.1
   have h2:=syFs_g l hg.2
   rcases yax.1 h with e|h
   ·exact e▸h1
   ·exact h2 x h
end
end
def hN:Nat→Nat→Nat
 | 0,_=>0
 | _+1,k=>k+1
mutual
def nT:Tm→Nat
 | .mk _ _ l=>2+hN l.length (nTl l)
def nTl:List Tm→Nat
 | []=>0
 | x::l=>1+nT x+nTl l
end
mutual
def nF:Fo→Nat
 | .mk _ _ l m=>2+(hN l.length (nTl l)+hN m.length (nFl m))
def nFl:List Fo→Nat
 | []=>0
 | x::l=>1+nF x+nFl l
end
def hV:Nat→Nat→AV
 | 0,_=>.nils
 | n+1,q=>.vs q (n+1)
def hB (ty sz:Nat):Nat→Nat→(Nat→List AV×Heap)→Heap
 | 0,_,_=>[]
 | _+1,q,c=>.vec ty sz (c (q+1)).1::(c (q+1)).2
mutual
def layT:Tm→Nat→List AV×Heap
 | .mk v s l,p=>([.bool v,.str s,hV l.length (p+2)],.box 36 [.bool v,.str s,.sl none l.length (l.flatMap Tm.cells)]::.box 36 [.bool v,.str s,hV l.length (p+2)]::hB 36 3 l.length (p+2) (layTl l))
def layTl:List Tm→Nat→List AV×Heap
 | [],_=>([],[])
 | x::l,r=>((layT x (r+1)).1++(layTl l (r+1+nT x)).1,.box 36 x.cells::((layT x (r+1)).2++(layTl l (r+1+nT x)).2))
end
mutual
def layF:Fo→Nat→List AV×Heap
 | .mk o s l m,p=>([.int .u8 (o:Nat),.str s,hV l.length (p+2),hV m.length (p+2+hN l.length (nTl l))],
   .box 25 [.int .u8 (o:Nat),.str s,.sl none l.length (l.flatMap Tm.cells),.sl none m.length (m.flatMap Fo.cells)]::.box 25 [.int .u8 (o:Nat),.str s,hV l.length (p+2),hV m.length (p+2+hN l.length (nTl l))] ::
    (hB 36 3 l.length (p+2) (layTl l)++hB 25 4 m.length (p+2+hN l.length (nTl l)) (layFl m)))
def layFl:List Fo→Nat→List AV×Heap
 | [],_=>([],[])
 | x::l,r=>((layF x (r+1)).1++(layFl l (r+1+nF x)).1,.box 25 x.cells::((layF x (r+1)).2++(layFl l (r+1+nF x)).2))
end
theorem hB_len {ty sz n q k:Nat} {c:Nat→List AV×Heap} (h:(c (q+1)).2.length=k):(hB ty sz n q c).length=hN n k:=by
 cases n with
 | zero=>rfl
 | succ n=>simp only [hB,hN,List.length_cons,h]
mutual
theorem layT_len:∀ (x:Tm) (p:Nat),(layT x p).2.length=nT x
 | .mk v s l,p=>by
   rw [layT,nT]
   simp only [List.length_cons]
   rw [hB_len (zdh l _)]
   omega
theorem zdh:∀ (l:List Tm) (r:Nat),(layTl l r).2.length=nTl l
 | [],r=>by rw [layTl,nTl];rfl
 | x::l,r=>by
   rw [layTl,nTl]
   simp only [List.length_cons,ya3]
   rw [layT_len x,zdh l]
   omega
end
mutual
theorem zca:∀ (x:Fo) (p:Nat),(layF x p).2.length=nF x
 | .mk o s l m,p=>by
   rw [layF,nF]
   simp only [List.length_cons,ya3]
   rw [hB_len (zdh l _),hB_len (zge m _)]
   omega
theorem zge:∀ (l:List Fo) (r:Nat),(layFl l r).2.length=nFl l
 | [],r=>by rw [layFl,nFl];rfl
 | x::l,r=>by
   rw [layFl,nFl]
   simp only [List.length_cons,ya3]
   rw [zca x,zge l]
   omega
end
theorem layTl_snoc:∀ (l:List Tm) (x:Tm) (r:Nat),layTl (l++[x]) r=((layTl l r).1++(layT x (r+nTl l+1)).1,(layTl l r).2++.box 36 x.cells::(layT x (r+nTl l+1)).2)
 | [],x,r=>by
   rw [yc9,layTl,layTl,layTl,nTl]
   simp
 | y::l,x,r=>by
   rw [ycc,layTl,layTl_snoc l x,layTl,nTl]
   have e:r+1+nT y+nTl l+1=r+(1+nT y+nTl l)+1:=by omega
   rw [e]
   simp
theorem layFl_snoc:∀ (l:List Fo) (x:Fo) (r:Nat),layFl (l++[x]) r=((layFl l r).1++(layF x (r+nFl l+1)).1,(layFl l r).2++.box 25 x.cells::(layF x (r+nFl l+1)).2)
 | [],x,r=>by
   rw [yc9,layFl,layFl,layFl,nFl]
   simp
 | y::l,x,r=>by
   rw [ycc,layFl,layFl_snoc l x,layFl,nFl]
   have e:r+1+nF y+nFl l+1=r+(1+nF y+nFl l)+1:=by omega
   rw [e]
   simp
theorem layT_cells (x:Tm) (p:Nat):(layT x p).1.length=3:=by cases x;rw [layT];rfl
theorem layF_cells (x:Fo) (p:Nat):(layF x p).1.length=4:=by cases x;rw [layF];rfl
theorem layTl_cells:∀ (l:List Tm) (r:Nat),(layTl l r).1.length=l.length * 3
 | [],r=>by rw [layTl];rfl
 | x::l,r=>by
   rw [layTl]
   simp only [ya3,List.length_cons]
   rw [layT_cells,layTl_cells l]
   omega
theorem layFl_cells:∀ (l:List Fo) (r:Nat),(layFl l r).1.length=l.length * 4
 | [],r=>by rw [layFl];rfl
 | x::l,r=>by
   rw [layFl]
   simp only [ya3,List.length_cons]
   rw [layF_cells,layFl_cells l]
   omega
theorem zdb {α:Type} (l:List α) (d:α) (k:Nat) (h:k<l.length):l.take (k+1)=l.take k++[l.getD k d]:=by
 rw [List.take_add_one]
 simp [yal h]
section
attribute [local irreducible] VW VCall VO bits
def CpT (x:Tm):Prop:=∀ H,VCall Tryz.prog 75 [.agg x.cells] H fun r H'=>r=.agg (layT x H.length).1∧H'=H++(layT x H.length).2
def tmH (l:List Tm) (p k:Nat):Heap:=.vec 36 3 (layTl (l.take k) (p+1)).1::(layTl (l.take k) (p+1)).2
theorem tmH_len (l:List Tm) (p k:Nat):(tmH l p k).length=1+nTl (l.take k):=by
 unfold tmH
 rw [List.length_cons,zdh]
 omega
theorem cpTs_v (l:List Tm) (hf:l.length * 48≤capB) (h:∀ x∈l,CpT x) (H:Heap):VCall Tryz.prog 74 [.sl none l.length (l.flatMap Tm.cells),.clo (.func 75) [] []] H fun r H'=>r=hV l.length H.length∧H'=H++hB 36 3 l.length H.length (layTl l):=by
 unfold capB at hf
 by_cases h0:l.length=0
 ·obtain rfl:=ya1 h0
  refine za7 Tryz.E0 zab Tryz.func74 (by kernel_rfl) rfl (ybq rfl) rfl fun hcl hbl=>?_
  (repeat' ((conv=>whnf);(first|refine yaq rfl ?_|fail)));conv=>whnf
  exact ydh _ (yae _) ⟨rfl,rfl⟩
 obtain ⟨n,hn⟩:∃ n,l.length=n+1:=⟨l.length-1,by omega⟩
 have hb0:l.length * 48≤281474976710656:=by omega
 refine za7 Tryz.E0 zab Tryz.func74 (by kernel_rfl) rfl (ybq rfl) rfl fun hcl hbl=>?_
 (repeat' ((conv=>whnf);(first|(refine OrN.natR ?_;refine NatN.mk _ rfl ?_;refine yaf ⟨rfl,by omega,by dsimp only;omega⟩ (OrN.r ?_))|refine zal (by omega) ?_|fail)));conv=>whnf
 refine loop_X Tryz.E0 zab (σ:=Nat) (fun k=>k≤l.length) (fun k=>l.length-k) (fun k=>[(5,.v (.vs (H.length+0) k)),(16,.v (.int .i64 k))]) (fun k=>tmH l H.length k) _ 0 rfl hcl [1,14,15] rfl (yah _) ⟨⟨_,rfl,yae _⟩,⟨_,rfl,yae _⟩,trivial⟩ rfl (fun s _=>by simp [tmH,layTl]) ?_
 intro k hk
 have hHl:=tmH_len l H.length k
 have hCl:=layTl_cells (l.take k) (H.length+1)
 rw [yb7,yb6 hk] at hCl
 rcases yag k l.length with hlt|hge
 ·have hx:=h _ (zak l k tm0 hlt)
  have es:=layTl_snoc (l.take k) (l.getD k tm0) (H.length+1)
  rw [← zdb l tm0 k hlt] at es
  have hx2:VCall Tryz.prog 75 [.agg (l.getD k tm0).cells] ((H++tmH l H.length k)++[.box 36 (l.getD k tm0).cells]) fun r H'=>r=.agg (layT (l.getD k tm0) (H.length+1+nTl (l.take k)+1)).1∧H'=((H++tmH l H.length k)++[.box 36 (l.getD k tm0).cells])++(layT (l.getD k tm0) (H.length+1+nTl (l.take k)+1)).2:=by
   have:=hx ((H++tmH l H.length k)++[.box 36 (l.getD k tm0).cells])
   have e:((H++tmH l H.length k)++[Blk.box 36 (l.getD k tm0).cells]).length=H.length+1+nTl (l.take k)+1:=by
    simp only [ya3,hHl,List.length_singleton]
    omega
   rw [e] at this
   exact this
  have hXn:=layT_len (l.getD k tm0) (H.length+1+nTl (l.take k)+1)
  have hm0:(H++tmH l H.length k)[H.length+0]? = some (.vec 36 3 (layTl (l.take k) (H.length+1)).1):=za1 rfl
  have hset:∀ D,(H++tmH l H.length k).set (H.length+0) (.vec 36 3 D)=H++(.vec 36 3 D::(layTl (l.take k) (H.length+1)).2):=fun D=>by
   rw [zbn]
   rfl
  have hend:tmH l H.length (k+1)=.vec 36 3 (layTl (l.take (k+1)) (H.length+1)).1::(layTl (l.take (k+1)) (H.length+1)).2:=rfl
  rw [es] at hend
  generalize H.length+1+nTl (l.take k)+1=p at *
  generalize (layTl (l.take k) (H.length+1)).1=C at *
  generalize (layTl (l.take k) (H.length+1)).2=X at *
  obtain ⟨v,s,a,e1⟩:=tm_ex (l.getD k tm0)
  have q1:(l.getD k tm0).cells=[.bool v,.str s,.sl none a.length (a.flatMap Tm.cells)]:=by rw [e1,zai]
  have q2:(layT (l.getD k tm0) p).1=[.bool v,.str s,hV a.length (p+2)]:=by rw [e1,layT]
  rw [q1,q2] at hx2 hend
  generalize (layT (l.getD k tm0) p).2=Y at *
  generalize nT (l.getD k tm0)=ny at *
  rw [hHl]
  have hk1:∀ B:Blk,(B::Y:Heap).length=1+ny:=fun B=>by rw [List.length_cons,hXn];omega
  have hbl2:(H++tmH l H.length k).length=H.length+(1+nTl (l.take k)):=by rw [ya3,hHl]
  generalize hG:tmH l H.length k=L at *
  rcases a with _|⟨a0,a⟩
  ·have hx2:VCall Tryz.prog 75 [.agg [.bool v,.str s,.sl none 0 []]] ((H++L)++[.box 36 [.bool v,.str s,.sl none 0 []]]) fun r H'=>r=.agg [.bool v,.str s,.nils]∧H'=((H++L)++[.box 36 [.bool v,.str s,.sl none 0 []]])++Y:=hx2
   (repeat' ((conv=>whnf);(first|refine ydf _ (hset _) ?_|refine zaq (by omega) ?_|(refine zaw _ _ Cst.h Cst.h ?_ ?_;· omega)|(refine yaf ?_ ?_;· first|omega|exact yaa _ _|fail)|refine zaf tm0 k rfl hlt zbh q1 ?_|refine ydg _ _ _ (1+ny) hx2 hbl2 rfl (hk1 _) ?_|refine yb3 _ hm0 ?_|refine yaf ⟨hCl,rfl,rfl,by dsimp only;omega,by simp only [maxLen];omega⟩ ?_|fail)));conv=>whnf
   refine ⟨⟨k+1,by show k+1≤_;omega,by show l.length-(k+1)<l.length-k;omega,⟨⟨_,rfl,yae _⟩,⟨_,rfl,yae _⟩,trivial⟩,.inr ⟨⟨_,rfl,yae _⟩,⟨_,rfl,yae _⟩,⟨_,rfl,yae _⟩,trivial⟩,[],.of_eq ?_,.inl rfl⟩⟩
   rw [yas,hend]
   simp [hV]
  ·have hx2:VCall Tryz.prog 75 [.agg [.bool v,.str s,.sl none (a.length+1) ((a0::a).flatMap Tm.cells)]] ((H++L)++[.box 36 [.bool v,.str s,.sl none (a.length+1) ((a0::a).flatMap Tm.cells)]]) fun r H'=>r=.agg [.bool v,.str s,.vs (p+2) (a.length+1)]∧H'=((H++L)++[.box 36 [.bool v,.str s,.sl none (a.length+1) ((a0::a).flatMap Tm.cells)]])++Y:=hx2
   have q1:(l.getD k tm0).cells=[.bool v,.str s,.sl none (a.length+1) ((a0::a).flatMap Tm.cells)]:=q1
   have hend:tmH l H.length (k+1)=.vec 36 3 (C++[.bool v,.str s,.vs (p+2) (a.length+1)])::(X++.box 36 [.bool v,.str s,.sl none (a.length+1) ((a0::a).flatMap Tm.cells)]::Y):=hend
   generalize (a0::a).flatMap Tm.cells=ac at *
   (repeat' ((conv=>whnf);(first|refine ydf _ (hset _) ?_|refine zaq (by omega) ?_|(refine zaw _ _ Cst.h Cst.h ?_ ?_;· omega)|(refine yaf ?_ ?_;· first|omega|exact yaa _ _|fail)|refine zaf tm0 k rfl hlt zbh q1 ?_|refine ydg _ _ _ (1+ny) hx2 hbl2 rfl (hk1 _) ?_|refine yb3 _ hm0 ?_|refine yaf ⟨hCl,rfl,rfl,by dsimp only;omega,by simp only [maxLen];omega⟩ ?_|fail)));conv=>whnf
   refine ⟨⟨k+1,by show k+1≤_;omega,by show l.length-(k+1)<l.length-k;omega,⟨⟨_,rfl,yae _⟩,⟨_,rfl,yae _⟩,trivial⟩,.inr ⟨⟨_,rfl,yae _⟩,⟨_,rfl,yae _⟩,⟨_,rfl,yae _⟩,trivial⟩,[],.of_eq ?_,.inl rfl⟩⟩
   rw [yas,hend]
   simp [hV]
 ·obtain rfl:k=l.length:=by omega
  have hend:H++tmH l H.length l.length=H++hB 36 3 l.length H.length (layTl l):=by
   unfold tmH
   rw [ya0,hn]
   rfl
  generalize hG:tmH l H.length l.length=L at *
  (repeat' ((conv=>whnf);(first|refine zal (by omega) ?_|fail)));conv=>whnf
  refine LeftX.ofB _ [(1,.v (.clo (.func 75) [] [])),(14,.v (.sl none l.length (l.flatMap Tm.cells))),(15,.v (.int .i64 l.length))] rfl rfl rfl ?_
  conv=>whnf
  exact ydh _ (yae _) ⟨by rw [hn];rfl,by rw [yas];exact hend⟩
theorem cpT_step (v:Bool) (s:ByteArray) (l:List Tm) (hl:l.length * 48≤capB) (h:∀ x∈l,CpT x):CpT (.mk v s l):=by
 intro H
 have h1:∀ B1 B2,VCall Tryz.prog 74 [.sl none l.length (l.flatMap Tm.cells),.clo (.func 75) [] []] (H++[B1,B2]) fun r H'=>r=hV l.length (H.length+2)∧H'=(H++[B1,B2])++hB 36 3 l.length (H.length+2) (layTl l):=fun B1 B2=>by
  have:=cpTs_v l hl h (H++[B1,B2])
  rw [ya3] at this
  exact this
 have hXl:=hB_len (ty:=36) (sz:=3) (n:=l.length) (zdh l (H.length+2+1))
 have hb1:=fun n=>zau n l
 rw [zai,layT]
 generalize hB 36 3 l.length (H.length+2) (layTl l)=X at *
 generalize l.flatMap Tm.cells=lc at *
 generalize hN l.length (nTl l)=nx at *
 clear h hl
 cases hn:l.length with
 | zero =>
   rw [hn] at h1
   have h1:∀ B1 B2,VCall Tryz.prog 74 [.sl none 0 lc,.clo (.func 75) [] []] (H++[B1,B2]) fun r H'=>r=.nils∧H'=(H++[B1,B2])++X:=h1
   refine za7 Tryz.E0 zab Tryz.func75 (by kernel_rfl) rfl (ybq rfl) rfl fun hcl hbl=>?_
   (repeat' ((conv=>whnf);(first|refine yaf (by kernel_rfl) ?_|refine zfi _ X _ _ (h1 _ _) rfl rfl hXl ?_|refine zam [] ?_|fail)));conv=>whnf
   exact ydh _ (yae _) ⟨rfl,rfl⟩
 | succ n =>
   rw [hn] at h1
   have h1:∀ B1 B2,VCall Tryz.prog 74 [.sl none (n+1) lc,.clo (.func 75) [] []] (H++[B1,B2]) fun r H'=>r=.vs (H.length+2) (n+1)∧H'=(H++[B1,B2])++X:=h1
   refine za7 Tryz.E0 zab Tryz.func75 (by kernel_rfl) rfl (ybq rfl) rfl fun hcl hbl=>?_
   (repeat' ((conv=>whnf);(first|refine yaf (by kernel_rfl) ?_|refine zfi _ X _ _ (h1 _ _) rfl rfl hXl ?_|refine zam [] ?_|fail)));conv=>whnf
   exact ydh _ (yae _) ⟨rfl,rfl⟩
mutual
theorem cpT_g:∀ x:Tm,x.fit→CpT x
 | .mk v s l,h=>cpT_step v s l h.2.1 (cpTs_g l h.2.2)
theorem cpTs_g:∀ l:List Tm,Tm.fitL l→∀ x∈l,CpT x
 | [],_,x,h=>by cases h
 | y::l,hg,x,h=>by
   have h1:=cpT_g y hg.1
   have h2:=cpTs_g l hg.2
   rcases yax.1 h with e|h
   ·exact e▸h1
   ·exact h2 x h
end
theorem hV_or (n q:Nat):hV n q=.nils∨∃ i m,hV n q=.vs i m:=by
 cases n with
 | zero=>exact .inl rfl
 | succ n=>exact .inr ⟨_,_,rfl⟩
def CpF (x:Fo):Prop:=∀ H,VCall Tryz.prog 42 [.agg x.cells] H fun r H'=>r=.agg (layF x H.length).1∧H'=H++(layF x H.length).2
def foH (l:List Fo) (p k:Nat):Heap:=.vec 25 4 (layFl (l.take k) (p+1)).1::(layFl (l.take k) (p+1)).2
theorem foH_len (l:List Fo) (p k:Nat):(foH l p k).length=1+nFl (l.take k):=by
 unfold foH
 rw [List.length_cons,zge]
 omega
theorem cpFs_v (l:List Fo) (hf:l.length * 72≤capB) (h:∀ x∈l,CpF x) (H:Heap):VCall Tryz.prog 76 [.sl none l.length (l.flatMap Fo.cells),.clo (.func 42) [] []] H fun r H'=>r=hV l.length H.length∧H'=H++hB 25 4 l.length H.length (layFl l):=by
 unfold capB at hf
 by_cases h0:l.length=0
 ·obtain rfl:=ya1 h0
  refine za7 Tryz.E0 zab Tryz.func76 (by kernel_rfl) rfl (ybq rfl) rfl fun hcl hbl=>?_
  (repeat' ((conv=>whnf);(first|refine yaq rfl ?_|fail)));conv=>whnf
  exact ydh _ (yae _) ⟨rfl,rfl⟩
 obtain ⟨n,hn⟩:∃ n,l.length=n+1:=⟨l.length-1,by omega⟩
 have hb0:l.length * 72≤281474976710656:=by omega
 refine za7 Tryz.E0 zab Tryz.func76 (by kernel_rfl) rfl (ybq rfl) rfl fun hcl hbl=>?_
 (repeat' ((conv=>whnf);(first|(refine OrN.natR ?_;refine NatN.mk _ rfl ?_;refine yaf ⟨rfl,by omega,by dsimp only;omega⟩ (OrN.r ?_))|refine zal (by omega) ?_|fail)));conv=>whnf
 refine loop_X Tryz.E0 zab (σ:=Nat) (fun k=>k≤l.length) (fun k=>l.length-k) (fun k=>[(5,.v (.vs (H.length+0) k)),(16,.v (.int .i64 k))]) (fun k=>foH l H.length k) _ 0 rfl hcl [1,14,15] rfl (yah _) ⟨⟨_,rfl,yae _⟩,⟨_,rfl,yae _⟩,trivial⟩ rfl (fun s _=>by simp [foH,layFl]) ?_
 intro k hk
 have hHl:=foH_len l H.length k
 have hCl:=layFl_cells (l.take k) (H.length+1)
 rw [yb7,yb6 hk] at hCl
 rcases yag k l.length with hlt|hge
 ·have hx:=h _ (zak l k fo0 hlt)
  have es:=layFl_snoc (l.take k) (l.getD k fo0) (H.length+1)
  rw [← zdb l fo0 k hlt] at es
  have hx2:VCall Tryz.prog 42 [.agg (l.getD k fo0).cells] ((H++foH l H.length k)++[.box 25 (l.getD k fo0).cells]) fun r H'=>r=.agg (layF (l.getD k fo0) (H.length+1+nFl (l.take k)+1)).1∧H'=((H++foH l H.length k)++[.box 25 (l.getD k fo0).cells])++(layF (l.getD k fo0) (H.length+1+nFl (l.take k)+1)).2:=by
   have:=hx ((H++foH l H.length k)++[.box 25 (l.getD k fo0).cells])
   have e:((H++foH l H.length k)++[Blk.box 25 (l.getD k fo0).cells]).length=H.length+1+nFl (l.take k)+1:=by
    simp only [ya3,hHl,List.length_singleton]
    omega
   rw [e] at this
   exact this
  have hXn:=zca (l.getD k fo0) (H.length+1+nFl (l.take k)+1)
  have hm0:(H++foH l H.length k)[H.length+0]? = some (.vec 25 4 (layFl (l.take k) (H.length+1)).1):=za1 rfl
  have hset:∀ D,(H++foH l H.length k).set (H.length+0) (.vec 25 4 D)=H++(.vec 25 4 D::(layFl (l.take k) (H.length+1)).2):=fun D=>by
   rw [zbn]
   rfl
  have hend:foH l H.length (k+1)=.vec 25 4 (layFl (l.take (k+1)) (H.length+1)).1::(layFl (l.take (k+1)) (H.length+1)).2:=rfl
  rw [es] at hend
  generalize H.length+1+nFl (l.take k)+1=p at *
  generalize (layFl (l.take k) (H.length+1)).1=C at *
  generalize (layFl (l.take k) (H.length+1)).2=X at *
  obtain ⟨o,s,a,b,e1⟩:=fo_ex (l.getD k fo0)
  have q1:(l.getD k fo0).cells=[.int .u8 o,.str s,.sl none a.length (a.flatMap Tm.cells),.sl none b.length (b.flatMap Fo.cells)]:=by rw [e1,zac]
  have q2:(layF (l.getD k fo0) p).1=[.int .u8 o,.str s,hV a.length (p+2),hV b.length (p+2+hN a.length (nTl a))]:=by rw [e1,layF]
  rw [q1,q2] at hx2 hend
  have hu:=hV_or a.length (p+2)
  have hw:=hV_or b.length (p+2+hN a.length (nTl a))
  generalize hV a.length (p+2)=u at *
  generalize hV b.length (p+2+hN a.length (nTl a))=w at *
  generalize a.flatMap Tm.cells=ac at *
  generalize b.flatMap Fo.cells=bc at *
  generalize a.length=an at *
  generalize b.length=bn at *
  generalize (layF (l.getD k fo0) p).2=Y at *
  generalize nF (l.getD k fo0)=ny at *
  rw [hHl]
  have hk1:∀ B:Blk,(B::Y:Heap).length=1+ny:=fun B=>by rw [List.length_cons,hXn];omega
  have hbl2:(H++foH l H.length k).length=H.length+(1+nFl (l.take k)):=by rw [ya3,hHl]
  generalize hG:foH l H.length k=L at *
  rcases hu with rfl|⟨iu,mu,rfl⟩ <;> rcases hw with rfl|⟨iw,mw,rfl⟩
  all_goals
   (repeat' ((conv=>whnf);(first|refine ydf _ (hset _) ?_|refine zaq (by omega) ?_|(refine zaw _ _ Cst.h Cst.h ?_ ?_;· omega)|(refine yaf ?_ ?_;· first|omega|exact yaa _ _|fail)|refine zaf fo0 k rfl hlt zba q1 ?_|refine ydg _ _ _ (1+ny) hx2 hbl2 rfl (hk1 _) ?_|refine yb3 _ hm0 ?_|refine yaf ⟨hCl,rfl,rfl,by dsimp only;omega,by simp only [maxLen];omega⟩ ?_|fail)));all_goals (conv=>whnf)
   refine ⟨⟨k+1,by show k+1≤_;omega,by show l.length-(k+1)<l.length-k;omega,⟨⟨_,rfl,yae _⟩,⟨_,rfl,yae _⟩,trivial⟩,.inr ⟨⟨_,rfl,yae _⟩,⟨_,rfl,yae _⟩,⟨_,rfl,yae _⟩,trivial⟩,[],.of_eq ?_,.inl rfl⟩⟩
   rw [yas,hend]
   simp
 ·obtain rfl:k=l.length:=by omega
  have hend:H++foH l H.length l.length=H++hB 25 4 l.length H.length (layFl l):=by
   unfold foH
   rw [ya0,hn]
   rfl
  generalize hG:foH l H.length l.length=L at *
  (repeat' ((conv=>whnf);(first|refine zal (by omega) ?_|fail)));conv=>whnf
  refine LeftX.ofB _ [(1,.v (.clo (.func 42) [] [])),(14,.v (.sl none l.length (l.flatMap Fo.cells))),(15,.v (.int .i64 l.length))] rfl rfl rfl ?_
  conv=>whnf
  exact ydh _ (yae _) ⟨by rw [hn];rfl,by rw [yas];exact hend⟩
theorem cpF_step (o:Nat) (s:ByteArray) (l:List Tm) (m:List Fo) (hl:l.length * 48≤capB) (hlf:Tm.fitL l) (hm:m.length * 72≤capB) (h:∀ x∈m,CpF x):CpF (.mk o s l m):=by
 intro H
 have h1:∀ B1 B2,VCall Tryz.prog 74 [.sl none l.length (l.flatMap Tm.cells),.clo (.func 75) [] []] (H++[B1,B2]) fun r H'=>r=hV l.length (H.length+2)∧H'=(H++[B1,B2])++hB 36 3 l.length (H.length+2) (layTl l):=fun B1 B2=>by
  have:=cpTs_v l hl (cpTs_g l hlf) (H++[B1,B2])
  rw [ya3] at this
  exact this
 have hXl:=hB_len (ty:=36) (sz:=3) (n:=l.length) (zdh l (H.length+2+1))
 have h2:∀ (B1 B2:Blk) (X:Heap),X.length=hN l.length (nTl l)→VCall Tryz.prog 76 [.sl none m.length (m.flatMap Fo.cells),.clo (.func 42) [] []] (H++(B1::B2::X)) fun r H'=>r=hV m.length (H.length+2+hN l.length (nTl l))∧H'=(H++(B1::B2::X))++hB 25 4 m.length (H.length+2+hN l.length (nTl l)) (layFl m):=fun B1 B2 X hX=>by
  have:=cpFs_v m hm h (H++(B1::B2::X))
  have e:(H++(B1::B2::X)).length=H.length+2+hN l.length (nTl l):=by
   simp only [ya3,List.length_cons,hX]
   omega
  rw [e] at this
  exact this
 have hYl:=hB_len (ty:=25) (sz:=4) (n:=m.length) (zge m (H.length+2+hN l.length (nTl l)+1))
 have hb1:=fun n=>zau n l
 have hb2:=fun n=>zax n m
 rw [zac,layF]
 have hu:=hV_or l.length (H.length+2)
 have hw:=hV_or m.length (H.length+2+hN l.length (nTl l))
 generalize hV l.length (H.length+2)=u at *
 generalize hV m.length (H.length+2+hN l.length (nTl l))=w at *
 generalize hB 36 3 l.length (H.length+2) (layTl l)=X at *
 generalize hB 25 4 m.length (H.length+2+hN l.length (nTl l)) (layFl m)=Y at *
 generalize l.flatMap Tm.cells=lc at *
 generalize m.flatMap Fo.cells=mc at *
 generalize hN l.length (nTl l)=nx at *
 generalize hN m.length (nFl m)=ny at *
 clear h hl hm hlf
 generalize l.length=ln at *
 generalize m.length=mn at *
 have h2:=fun B1 B2=>h2 B1 B2 X hXl
 rcases hu with rfl|⟨iu,mu,rfl⟩ <;> rcases hw with rfl|⟨iw,mw,rfl⟩
 all_goals
  refine za7 Tryz.E0 zab Tryz.func42 (by kernel_rfl) rfl (ybq rfl) rfl fun hcl hbl=>?_
  (repeat' ((conv=>whnf);(first|refine yaf (by kernel_rfl) ?_|refine zfi _ X _ _ (h1 _ _) rfl rfl hXl ?_|refine zfi _ Y _ _ (h2 _ _) rfl rfl hYl ?_|refine zam [] ?_|fail)));all_goals (conv=>whnf)
  exact ydh _ (yae _) ⟨rfl,by simp⟩
mutual
theorem cpF_g:∀ x:Fo,x.fit→CpF x
 | .mk o s l m,h=>cpF_step o s l m h.2.1 h.2.2.1 h.2.2.2.1 (cpFs_g m h.2.2.2.2)
theorem cpFs_g:∀ l:List Fo,Fo.fitL l→∀ x∈l,CpF x
 | [],_,x,h=>by cases h
 | y::l,hg,x,h=>by
   have h1:=cpF_g y hg.1
   have h2:=cpFs_g l hg.2
   rcases yax.1 h with e|h
   ·exact e▸h1
   ·exact h2 x h
end
end
def HdAt (ty sz:Nat) (H:Heap) (n:Nat) (a:AV) (S:List Nat) (P:List AV→List Nat→Prop):Prop :=
 (n=0∧a=.nils∧S=[])∨∃ i bs S',a=.vs i n∧H[i]? = some (.vec ty sz bs)∧S=i::S'∧P bs S'
mutual
def AtT (H:Heap):Tm→List AV→List Nat→Prop
 | .mk v s l,cs,S=>∃ a,cs=[.bool v,.str s,a]∧HdAt 36 3 H l.length a S (AtTl H l)
def AtTl (H:Heap):List Tm→List AV→List Nat→Prop
 | [],cs,S=>cs=[]∧S=[]
 | x::l,cs,S=>∃ c1 c2 S1 S2,cs=c1++c2∧S=S1++S2∧AtT H x c1 S1∧AtTl H l c2 S2
end
mutual
def AtF (H:Heap):Fo→List AV→List Nat→Prop
 | .mk o s l m,cs,S=>∃ a b S1 S2,cs=[.int .u8 (o:Nat),.str s,a,b]∧S=S1++S2∧HdAt 36 3 H l.length a S1 (AtTl H l)∧HdAt 25 4 H m.length b S2 (AtFl H m)
def AtFl (H:Heap):List Fo→List AV→List Nat→Prop
 | [],cs,S=>cs=[]∧S=[]
 | x::l,cs,S=>∃ c1 c2 S1 S2,cs=c1++c2∧S=S1++S2∧AtF H x c1 S1∧AtFl H l c2 S2
end
theorem HdAt.mono {ty sz n:Nat} {H H':Heap} {a:AV} {S:List Nat} {P Q:List AV→List Nat→Prop} (h:HdAt ty sz H n a S P) (hs:∀ i∈S,H'[i]? = H[i]?) (hp:∀ bs S',(∀ i∈S',i∈S)→P bs S'→Q bs S'):HdAt ty sz H' n a S Q:=by
 rcases h with h|⟨i,bs,S',h1,h2,rfl,h4⟩
 ·exact .inl h
 ·exact .inr ⟨i,bs,S',h1,by rw [hs i (ya9 ..)];exact h2,rfl,hp bs S' (fun j hj=>ya2 _ hj) h4⟩
mutual
theorem AtT.mono {H H':Heap}:∀ (x:Tm) {cs:List AV} {S:List Nat},AtT H x cs S→(∀ i∈S,H'[i]? = H[i]?)→AtT H' x cs S
 | .mk v s l,cs,S,h,hs=>by
   rw [AtT] at h ⊢
   obtain ⟨a,h1,h2⟩:=h
   exact ⟨a,h1,h2.mono hs fun bs S' hS hb=>AtTl.mono l hb fun i hi=>hs i (hS i hi)⟩
theorem AtTl.mono {H H':Heap}:∀ (l:List Tm) {cs:List AV} {S:List Nat},AtTl H l cs S→(∀ i∈S,H'[i]? = H[i]?)→AtTl H' l cs S
 | [],cs,S,h,hs=>by rw [AtTl] at h ⊢;exact h
 | x::l,cs,S,h,hs=>by
   rw [AtTl] at h ⊢
   obtain ⟨c1,c2,S1,S2,h1,rfl,h3,h4⟩:=h
   exact ⟨c1,c2,S1,S2,h1,rfl,AtT.mono x h3 fun i hi=>hs i (List.mem_append_left _ hi),AtTl.mono l h4 fun i hi=>hs i (List.mem_append_right _ hi)⟩
end
mutual
theorem AtF.mono {H H':Heap}:∀ (x:Fo) {cs:List AV} {S:List Nat},AtF H x cs S→(∀ i∈S,H'[i]? = H[i]?)→AtF H' x cs S
 | .mk o s l m,cs,S,h,hs=>by
   rw [AtF] at h ⊢
   obtain ⟨a,b,S1,S2,h1,rfl,h2,h3⟩:=h
   exact ⟨a,b,S1,S2,h1,rfl,h2.mono (fun i hi=>hs i (List.mem_append_left _ hi)) fun bs S' hS hb=>AtTl.mono l hb fun i hi=>hs i (List.mem_append_left _ (hS i hi)),
    h3.mono (fun i hi=>hs i (List.mem_append_right _ hi)) fun bs S' hS hb=>AtFl.mono m hb fun i hi=>hs i (List.mem_append_right _ (hS i hi))⟩
theorem AtFl.mono {H H':Heap}:∀ (l:List Fo) {cs:List AV} {S:List Nat},AtFl H l cs S→(∀ i∈S,H'[i]? = H[i]?)→AtFl H' l cs S
 | [],cs,S,h,hs=>by rw [AtFl] at h ⊢;exact h
 | x::l,cs,S,h,hs=>by
   rw [AtFl] at h ⊢
   obtain ⟨c1,c2,S1,S2,h1,rfl,h3,h4⟩:=h
   exact ⟨c1,c2,S1,S2,h1,rfl,AtF.mono x h3 fun i hi=>hs i (List.mem_append_left _ hi),AtFl.mono l h4 fun i hi=>hs i (List.mem_append_right _ hi)⟩
end
def SubH (p:Nat) (X M:Heap):Prop:=∀ (j:Nat) (B:Blk),X[j]? = some B→M[p+j]? = some B
theorem SubH.app {p:Nat} {X Y M:Heap} (h:SubH p (X++Y) M):SubH p X M∧SubH (p+X.length) Y M:=by
 refine ⟨fun j B hj=>h j B (by rw [yaj (yac.1 hj).1];exact hj),fun j B hj=>?_⟩
 have:=h (X.length+j) B (by rw [yam (by omega)];simpa using hj)
 rwa [← yc8] at this
theorem SubH.cons {p:Nat} {B:Blk} {X M:Heap} (h:SubH p (B::X) M):M[p]? = some B∧SubH (p+1) X M:=by
 refine ⟨h 0 B rfl,fun j C hj=>?_⟩
 have:=h (j+1) C (by simpa using hj)
 rwa [show p+(j+1)=p+1+j by omega] at this
theorem SubH.self (H X:Heap):SubH H.length X (H++X):=fun j B hj=>by rw [yam (by omega)];simpa using hj
def InS (p n:Nat) (S:List Nat):Prop:=S.Nodup∧∀ i∈S,p≤i∧i<p+n
theorem InS.nil (p n:Nat):InS p n []:=⟨yc4,fun i h=>by cases h⟩
theorem InS.mono {p n p' n':Nat} {S:List Nat} (h:InS p n S) (h1:p'≤p) (h2:p+n≤p'+n'):InS p' n' S:=⟨h.1,fun i hi=>by have:=h.2 i hi;omega⟩
theorem InS.app {p n m:Nat} {S T:List Nat} (h:InS p n S) (k:InS (p+n) m T):InS p (n+m) (S++T):=by
 refine ⟨List.nodup_append.2 ⟨h.1,k.1,fun a ha b hb e=>?_⟩,fun i hi=>?_⟩
 ·have h1:=h.2 a ha
  have h2:=k.2 b hb
  omega
 ·rcases ybd.1 hi with hi|hi
  ·have:=h.2 i hi;omega
  ·have:=k.2 i hi;omega
theorem InS.cons {p n:Nat} {S:List Nat} (k:InS (p+1) n S):InS p (n+1) (p::S):=by
 refine ⟨List.nodup_cons.2 ⟨fun h=>?_,k.1⟩,fun i hi=>?_⟩
 ·have:=k.2 p h;omega
 ·rcases yax.1 hi with rfl|hi
  ·omega
  ·have:=k.2 i hi;omega
theorem hB_at {ty sz n q k:Nat} {M:Heap} {c:Nat→List AV×Heap} {P:List AV→List Nat→Prop} (h:SubH q (hB ty sz n q c) M) (hc:SubH (q+1) (c (q+1)).2 M→∃ S,P (c (q+1)).1 S∧InS (q+1) k S):∃ S,HdAt ty sz M n (hV n q) S P∧InS q (hN n k) S:=by
 cases n with
 | zero=>exact ⟨[],.inl ⟨rfl,rfl,rfl⟩,InS.nil _ _⟩
 | succ n =>
   obtain ⟨h1,h2⟩:=SubH.cons h
   obtain ⟨S,h3,h4⟩:=hc h2
   exact ⟨q::S,.inr ⟨q,_,S,rfl,h1,rfl,h3⟩,h4.cons⟩
mutual
theorem layT_at (M:Heap):∀ (x:Tm) (p:Nat),SubH p (layT x p).2 M→∃ S,AtT M x (layT x p).1 S∧InS p (nT x) S
 | .mk v s l,p,h=>by
   rw [layT] at h ⊢
   obtain ⟨-,h⟩:=SubH.cons h
   obtain ⟨-,h⟩:=SubH.cons h
   obtain ⟨S,h1,h2⟩:=hB_at (P:=AtTl M l) h (layTl_at M l (p+2+1))
   refine ⟨S,by rw [AtT];exact ⟨_,rfl,h1⟩,?_⟩
   rw [nT]
   exact h2.mono (by omega) (by omega)
theorem layTl_at (M:Heap):∀ (l:List Tm) (r:Nat),SubH r (layTl l r).2 M→∃ S,AtTl M l (layTl l r).1 S∧InS r (nTl l) S
 | [],r,h=>⟨[],by rw [layTl,AtTl];exact ⟨rfl,rfl⟩,InS.nil _ _⟩
 | x::l,r,h=>by
   rw [layTl] at h ⊢
   obtain ⟨-,h⟩:=SubH.cons h
   obtain ⟨h1,h2⟩:=SubH.app h
   rw [layT_len] at h2
   obtain ⟨S1,a1,b1⟩:=layT_at M x (r+1) h1
   obtain ⟨S2,a2,b2⟩:=layTl_at M l (r+1+nT x) h2
   refine ⟨S1++S2,by rw [AtTl];exact ⟨_,_,S1,S2,rfl,rfl,a1,a2⟩,?_⟩
   rw [nTl]
   exact (b1.app b2).mono (by omega) (by omega)
end
mutual
theorem zdi (M:Heap):∀ (x:Fo) (p:Nat),SubH p (layF x p).2 M→∃ S,AtF M x (layF x p).1 S∧InS p (nF x) S
 | .mk o s l m,p,h=>by
   rw [layF] at h ⊢
   obtain ⟨-,h⟩:=SubH.cons h
   obtain ⟨-,h⟩:=SubH.cons h
   obtain ⟨h1,h2⟩:=SubH.app h
   rw [hB_len (zdh l _)] at h2
   obtain ⟨S1,a1,b1⟩:=hB_at (P:=AtTl M l) h1 (layTl_at M l (p+2+1))
   obtain ⟨S2,a2,b2⟩:=hB_at (P:=AtFl M m) h2 (layFl_at M m (p+2+hN l.length (nTl l)+1))
   refine ⟨S1++S2,by rw [AtF];exact ⟨_,_,S1,S2,rfl,rfl,a1,a2⟩,?_⟩
   rw [nF]
   exact (b1.app b2).mono (by omega) (by omega)
theorem layFl_at (M:Heap):∀ (l:List Fo) (r:Nat),SubH r (layFl l r).2 M→∃ S,AtFl M l (layFl l r).1 S∧InS r (nFl l) S
 | [],r,h=>⟨[],by rw [layFl,AtFl];exact ⟨rfl,rfl⟩,InS.nil _ _⟩
 | x::l,r,h=>by
   rw [layFl] at h ⊢
   obtain ⟨-,h⟩:=SubH.cons h
   obtain ⟨h1,h2⟩:=SubH.app h
   rw [zca] at h2
   obtain ⟨S1,a1,b1⟩:=zdi M x (r+1) h1
   obtain ⟨S2,a2,b2⟩:=layFl_at M l (r+1+nF x) h2
   refine ⟨S1++S2,by rw [AtFl];exact ⟨_,_,S1,S2,rfl,rfl,a1,a2⟩,?_⟩
   rw [nFl]
   exact (b1.app b2).mono (by omega) (by omega)
end
theorem LendL.app {H:Heap}:∀ {a a' b b':List AV},LendL H a a'→LendL H b b'→LendL H (a++b) (a'++b')
 | [],_,_,_,.nil,h=>h
 | _::_,_,_,_,.cons h1 h2,h=>.cons h1 (LendL.app h2 h)
mutual
theorem AtT.len {H:Heap}:∀ (x:Tm) {cs:List AV} {S:List Nat},AtT H x cs S→cs.length=3
 | .mk v s l,cs,S,h=>by
   rw [AtT] at h
   obtain ⟨a,rfl,-⟩:=h
   rfl
theorem AtTl.len {H:Heap}:∀ (l:List Tm) {cs:List AV} {S:List Nat},AtTl H l cs S→cs.length=l.length * 3
 | [],cs,S,h=>by
   rw [AtTl] at h
   rw [h.1]
   rfl
 | x::l,cs,S,h=>by
   rw [AtTl] at h
   obtain ⟨c1,c2,S1,S2,rfl,rfl,h3,h4⟩:=h
   rw [ya3,AtT.len x h3,AtTl.len l h4,List.length_cons]
   omega
end
mutual
theorem AtF.len {H:Heap}:∀ (x:Fo) {cs:List AV} {S:List Nat},AtF H x cs S→cs.length=4
 | .mk o s l m,cs,S,h=>by
   rw [AtF] at h
   obtain ⟨a,b,S1,S2,rfl,-⟩:=h
   rfl
theorem AtFl.len {H:Heap}:∀ (l:List Fo) {cs:List AV} {S:List Nat},AtFl H l cs S→cs.length=l.length * 4
 | [],cs,S,h=>by
   rw [AtFl] at h
   rw [h.1]
   rfl
 | x::l,cs,S,h=>by
   rw [AtFl] at h
   obtain ⟨c1,c2,S1,S2,rfl,rfl,h3,h4⟩:=h
   rw [ya3,AtF.len x h3,AtFl.len l h4,List.length_cons]
   omega
end
theorem HdAt.lend {ty sz n:Nat} {H:Heap} {a:AV} {S:List Nat} {P:List AV→List Nat→Prop} {C:List AV} (h:HdAt ty sz H n a S P) (h0:n=0→C=[]) (hp:∀ bs S',P bs S'→bs.length=n * sz∧∃ ys,LendL H bs ys∧WkL ys C):∃ y,Lend H a y∧Wk y (.sl none n C):=by
 rcases h with ⟨rfl,rfl,-⟩|⟨i,bs,S',rfl,h2,-,h4⟩
 ·rw [h0 rfl]
  exact ⟨_,.refl _,zbe⟩
 ·obtain ⟨hl,ys,h5,h6⟩:=hp bs S' h4
  exact ⟨_,.vs h2 hl h5,wk_slL h6⟩
mutual
theorem AtT.lend {H:Heap}:∀ (x:Tm) {cs:List AV} {S:List Nat},AtT H x cs S→∃ ys,LendL H cs ys∧WkL ys x.cells
 | .mk v s l,cs,S,h=>by
   rw [AtT] at h
   obtain ⟨a,rfl,h2⟩:=h
   obtain ⟨y,h3,h4⟩:=h2.lend (C:=l.flatMap Tm.cells) (fun e=>by rw [ya1 e];rfl) fun bs S' hb=>⟨AtTl.len l hb,AtTl.lend l hb⟩
   rw [zai]
   exact ⟨[.bool v,.str s,y],.cons (.refl _) (.cons (.refl _) (.cons h3 .nil)),yae _,yae _,h4,trivial⟩
theorem AtTl.lend {H:Heap}:∀ (l:List Tm) {cs:List AV} {S:List Nat},AtTl H l cs S→∃ ys,LendL H cs ys∧WkL ys (l.flatMap Tm.cells)
 | [],cs,S,h=>by
   rw [AtTl] at h
   rw [h.1]
   exact ⟨[],.nil,trivial⟩
 | x::l,cs,S,h=>by
   rw [AtTl] at h
   obtain ⟨c1,c2,S1,S2,rfl,rfl,h3,h4⟩:=h
   obtain ⟨y1,a1,b1⟩:=AtT.lend x h3
   obtain ⟨y2,a2,b2⟩:=AtTl.lend l h4
   rw [ya4]
   exact ⟨y1++y2,LendL.app a1 a2,WkL.app b1 b2⟩
end
mutual
theorem AtF.lend {H:Heap}:∀ (x:Fo) {cs:List AV} {S:List Nat},AtF H x cs S→∃ ys,LendL H cs ys∧WkL ys x.cells
 | .mk o s l m,cs,S,h=>by
   rw [AtF] at h
   obtain ⟨a,b,S1,S2,rfl,rfl,h2,h3⟩:=h
   obtain ⟨y,p1,q1⟩:=h2.lend (C:=l.flatMap Tm.cells) (fun e=>by rw [ya1 e];rfl) fun bs S' hb=>⟨AtTl.len l hb,AtTl.lend l hb⟩
   obtain ⟨z,p2,q2⟩:=h3.lend (C:=m.flatMap Fo.cells) (fun e=>by rw [ya1 e];rfl) fun bs S' hb=>⟨AtFl.len m hb,AtFl.lend m hb⟩
   rw [zac]
   exact ⟨[.int .u8 (o:Nat),.str s,y,z],.cons (.refl _) (.cons (.refl _) (.cons p1 (.cons p2 .nil))),yae _,yae _,q1,q2,trivial⟩
theorem AtFl.lend {H:Heap}:∀ (l:List Fo) {cs:List AV} {S:List Nat},AtFl H l cs S→∃ ys,LendL H cs ys∧WkL ys (l.flatMap Fo.cells)
 | [],cs,S,h=>by
   rw [AtFl] at h
   rw [h.1]
   exact ⟨[],.nil,trivial⟩
 | x::l,cs,S,h=>by
   rw [AtFl] at h
   obtain ⟨c1,c2,S1,S2,rfl,rfl,h3,h4⟩:=h
   obtain ⟨y1,a1,b1⟩:=AtF.lend x h3
   obtain ⟨y2,a2,b2⟩:=AtFl.lend l h4
   rw [ya4]
   exact ⟨y1++y2,LendL.app a1 a2,WkL.app b1 b2⟩
end
inductive Adr where
 | top
 | blk (i o:Nat)
def dashC:List AV:=[.bool false,.str ⟨#[45]⟩,.nils]
def f99C:List AV:=[.int .u8 99,.str ⟨#[]⟩,.nils,.nils]
def dash:Tm:=.mk false ⟨#[45]⟩ []
def f99:Fo:=.mk 99 ⟨#[]⟩ [] []
def cstB:Blk→Blk
 | .vec t z bs=>if t=36 then .vec t z (repC (bs.length / 3) dashC) else if t=25 then .vec t z (repC (bs.length / 4) f99C) else .vec t z bs
 | B=>B
theorem ze7 {c:List AV} (h:∀ m,zae m c) (m:Nat):∀ n,zae m (repC n c)
 | 0=>by simp [repC,zae]
 | n+1=>by
   rw [repC]
   exact (zbr _ _).2 ⟨h m,ze7 h m n⟩
theorem dashC_below (m:Nat):zae m dashC:=by simp [dashC,zae,below]
theorem f99C_below (m:Nat):zae m f99C:=by simp [f99C,zae,below]
theorem zcq (t:TypeId) (z:Nat) (bs:List AV):cstB (.vec t z bs)=if t=36 then .vec t z (repC (bs.length / 3) dashC) else if t=25 then .vec t z (repC (bs.length / 4) f99C) else .vec t z bs:=rfl
theorem cstB_low (B:Blk):cstB B=B∨∀ n,(cstB B).below n:=by
 cases B with
 | vec t z bs =>
   rw [zcq]
   by_cases h1:t=36
   ·rw [if_pos h1]
    exact .inr fun n=>ze7 dashC_below n _
   ·rw [if_neg h1]
    by_cases h2:t=25
    ·rw [if_pos h2]
     exact .inr fun n=>ze7 f99C_below n _
    ·rw [if_neg h2]
     exact .inl rfl
 | _=>exact .inl rfl
theorem cstB_cst (B:Blk):cstB (cstB B)=cstB B:=by
 cases B with
 | vec t z bs =>
   rw [zcq]
   by_cases h1:t=36
   ·rw [if_pos h1,zcq,if_pos h1,zbf]
    rw [show bs.length / 3 * dashC.length=bs.length / 3 * 3 from rfl,Nat.mul_div_cancel _ (by omega)]
   ·rw [if_neg h1]
    by_cases h2:t=25
    ·rw [if_pos h2,zcq,if_neg h1,if_pos h2,zbf]
     rw [show bs.length / 4 * f99C.length=bs.length / 4 * 4 from rfl,Nat.mul_div_cancel _ (by omega)]
    ·rw [if_neg h2,zcq,if_neg h1,if_neg h2]
 | _=>rfl
structure OvS (S:List Nat) (H H':Heap):Prop where
 len:H'.length=H.length
 eq:∀ j,H'[j]? = if j∈S then (H[j]?).map cstB else H[j]?
theorem OvS.nil (H:Heap):OvS [] H H:=⟨rfl,fun _=>by simp⟩
theorem OvS.same {S:List Nat} {H H':Heap} (h:OvS S H H') (j:Nat) (hj:j ∉ S):H'[j]? = H[j]? := by rw [h.eq,if_neg hj]
theorem OvS.cst {S:List Nat} {H H':Heap} (h:OvS S H H') {j:Nat} {B:Blk} (hB:H[j]? = some B) (hc:cstB B=B):H'[j]? = some B:=by
 rw [h.eq]
 split
 ·rw [hB,ya8,hc]
 ·exact hB
theorem OvS.app {S T:List Nat} {H1 H2 H3:Heap} (h1:OvS S H1 H2) (h2:OvS T H2 H3):OvS (S++T) H1 H3:=by
 refine ⟨h2.len.trans h1.len,fun j=>?_⟩
 rw [h2.eq,h1.eq]
 by_cases hs:j∈S <;> by_cases ht:j∈T <;> simp [hs,ht]
 cases H1[j]? with
 | none=>rfl
 | some B=>simp [cstB_cst]
theorem OvS.over {S:List Nat} {H H':Heap} (h:OvS S H H'):OverR (fun j=>j ∉ S) H H' :=
 ⟨h.len,fun j hj=>h.same j hj,fun j B hB=>by
  rw [h.eq] at hB
  split at hB
  ·cases hb:H[j]? with
   | none=>rw [hb] at hB;cases hB
   | some C =>
     rw [hb] at hB
     cases hB
     rcases cstB_low C with h1|h1
     ·exact .inl (by rw [h1])
     ·exact .inr h1
  ·exact .inl hB⟩
theorem OvS.closed {S:List Nat} {H H':Heap} (h:OvS S H H') (hc:zb5 H):zb5 H':=h.over.closed hc
structure OvI (i:Nat) (X:Blk) (S:List Nat) (H M:Heap):Prop where
 len:M.length=H.length
 at_:M[i]? = some X
 eq:∀ j,j≠i→M[j]? = if j∈S then (H[j]?).map cstB else H[j]?
 cl:zb5 M
theorem OvI.call {i:Nat} {X:Blk} {S T:List Nat} {H M M':Heap} (h:OvI i X S H M) (h1:OvS T M M') (hi:i ∉ T):OvI i X (S++T) H M':=by
 refine ⟨h1.len.trans h.len,by rw [h1.same i hi];exact h.at_,fun j hj=>?_,h1.closed h.cl⟩
 rw [h1.eq,h.eq j hj]
 by_cases hs:j∈S <;> by_cases ht:j∈T <;> simp [hs,ht]
 cases H[j]? with
 | none=>rfl
 | some B=>simp [cstB_cst]
theorem OvI.set {i:Nat} {X Y:Blk} {S:List Nat} {H M:Heap} (h:OvI i X S H M) (hY:Y.below H.length):OvI i Y S H (M.set i Y):=by
 have hi:=(yac.1 h.at_).1
 refine ⟨by rw [List.length_set];exact h.len,by rw [List.getElem?_set_self hi],fun j hj=>?_,closed_set h.cl i Y (h.len▸hY)⟩
 rw [yc3 (fun e=>hj e.symm)]
 exact h.eq j hj
theorem OvI.first {i:Nat} {X:Blk} {H:Heap} (h:H[i]? = some X) (hc:zb5 H):OvI i X [] H H:=⟨rfl,h,fun _ _=>by simp,hc⟩
theorem OvI.last {i:Nat} {X Y:Blk} {S:List Nat} {H M:Heap} (h:OvI i Y S H M) (hX:H[i]? = some X) (hY:Y=cstB X):OvS (i::S) H M:=by
 subst hY
 refine ⟨h.len,fun j=>?_⟩
 by_cases hj:j=i
 ·subst hj
  rw [if_pos (ya9 ..),h.at_,hX]
  rfl
 ·rw [h.eq j hj]
  simp [hj]
theorem HdAt.low {ty sz n:Nat} {H:Heap} {a:AV} {S:List Nat} {P:List AV→List Nat→Prop} (h:HdAt ty sz H n a S P) (hp:∀ bs S',P bs S'→∀ j∈S',j<H.length):∀ j∈S,j<H.length:=by
 rcases h with ⟨-,-,rfl⟩|⟨i,bs,S',-,h2,rfl,h4⟩
 ·exact fun j hj=>by cases hj
 ·intro j hj
  rcases yax.1 hj with rfl|hj
  ·exact (yac.1 h2).1
  ·exact hp bs S' h4 j hj
mutual
theorem AtT.low {H:Heap}:∀ (x:Tm) {cs:List AV} {S:List Nat},AtT H x cs S→∀ j∈S,j<H.length
 | .mk v s l,cs,S,h=>by
   rw [AtT] at h
   obtain ⟨a,-,h2⟩:=h
   exact h2.low fun _ _ hb=>AtTl.low l hb
theorem AtTl.low {H:Heap}:∀ (l:List Tm) {cs:List AV} {S:List Nat},AtTl H l cs S→∀ j∈S,j<H.length
 | [],cs,S,h=>by
   rw [AtTl] at h
   rw [h.2]
   exact fun j hj=>by cases hj
 | x::l,cs,S,h=>by
   rw [AtTl] at h
   obtain ⟨c1,c2,S1,S2,-,rfl,h3,h4⟩:=h
   exact fun j hj=>(ybd.1 hj).elim (AtT.low x h3 j) (AtTl.low l h4 j)
end
mutual
theorem AtF.low {H:Heap}:∀ (x:Fo) {cs:List AV} {S:List Nat},AtF H x cs S→∀ j∈S,j<H.length
 | .mk o s l m,cs,S,h=>by
   rw [AtF] at h
   obtain ⟨a,b,S1,S2,-,rfl,h2,h3⟩:=h
   exact fun j hj=>(ybd.1 hj).elim (h2.low (fun _ _ hb=>AtTl.low l hb) j) (h3.low (fun _ _ hb=>AtFl.low m hb) j)
theorem AtFl.low {H:Heap}:∀ (l:List Fo) {cs:List AV} {S:List Nat},AtFl H l cs S→∀ j∈S,j<H.length
 | [],cs,S,h=>by
   rw [AtFl] at h
   rw [h.2]
   exact fun j hj=>by cases hj
 | x::l,cs,S,h=>by
   rw [AtFl] at h
   obtain ⟨c1,c2,S1,S2,-,rfl,h3,h4⟩:=h
   exact fun j hj=>(ybd.1 hj).elim (AtF.low x h3 j) (AtFl.low l h4 j)
end
theorem OvI.free {i:Nat} {X:Blk} {S:List Nat} {H M:Heap} (h:OvI i X S H M) (j:Nat) (h1:j≠i) (h2:j ∉ S):M[j]? = H[j]? := by rw [h.eq j h1,if_neg h2]
def ovC (c:List AV) (bs:List AV) (k:Nat):List AV:=repC k c++bs.drop (k * c.length)
theorem ovC_len {c bs:List AV} {k:Nat} (h:k * c.length≤bs.length):(ovC c bs k).length=bs.length:=by
 unfold ovC
 rw [ya3,zbf,List.length_drop]
 omega
theorem repC_snoc (c:List AV):∀ k,repC (k+1) c=repC k c++c
 | 0=>by simp [repC]
 | k+1=>by
   show c++repC (k+1) c=(c++repC k c)++c
   rw [repC_snoc c k,yba]
theorem ovC_zero (c bs:List AV):ovC c bs 0=bs:=by simp [ovC,repC]
theorem ovC_set {c bs:List AV} {k:Nat}:setL (ovC c bs k) (k * c.length) c=ovC c bs (k+1):=by
 have hp:(repC k c).length=k * c.length:=zbf c k
 unfold setL ovC
 rw [List.take_append_of_le_length (by omega),yby (by omega),List.drop_append,List.drop_eq_nil_of_le (by omega),yc9,ydj,repC_snoc,hp]
 have e:k * c.length+(k * c.length+c.length-k * c.length)=(k+1) * c.length:=by rw [ybz];omega
 rw [e]
 try simp [yba]
theorem ovC_drop {c bs:List AV} {k:Nat}:(ovC c bs k).drop (k * c.length)=bs.drop (k * c.length):=by
 unfold ovC
 rw [List.drop_append,zbf,List.drop_eq_nil_of_le (by rw [zbf];omega),ycl]
 rfl
theorem ovC_below {c bs:List AV} {m:Nat} (hc:∀ m,zae m c) (h:zae m bs) (k:Nat):zae m (ovC c bs k):=by
 unfold ovC
 refine (zbr _ _).2 ⟨ze7 hc m k,?_⟩
 have:=(zbr (bs.take (k * c.length)) (bs.drop (k * c.length))).1 (by rw [yce];exact h)
 exact this.2
theorem ovC_all {c bs:List AV} {n:Nat} (h:bs.length=n * c.length):ovC c bs n=repC n c:=by
 unfold ovC
 rw [← h,ybf,yas]
theorem AtTl.next {H:Heap} {l:List Tm} {bs:List AV} {k:Nat} {S:List Nat} (h:AtTl H (l.drop k) (bs.drop (k * 3)) S) (hk:k<l.length) :
  ∃ v s a S1 S2 r x,l.getD k tm0=.mk v s x∧bs.drop (k * 3)=[.bool v,.str s,a]++r∧S=S1++S2∧HdAt 36 3 H x.length a S1 (AtTl H x)∧AtTl H (l.drop (k+1)) (bs.drop ((k+1) * 3)) S2:=by
 have e:l.drop k=l.getD k tm0::l.drop (k+1):=by
  rw [List.drop_eq_getElem_cons hk,ybi,yal hk]
  rfl
 rw [e,AtTl] at h
 obtain ⟨c1,c2,S1,S2,h1,rfl,h3,h4⟩:=h
 obtain ⟨v,s,x,ex⟩:=tm_ex (l.getD k tm0)
 rw [ex,AtT] at h3
 obtain ⟨a,rfl,h5⟩:=h3
 refine ⟨v,s,a,S1,S2,c2,x,ex,h1,rfl,h5,?_⟩
 have:bs.drop ((k+1) * 3)=c2:=by
  rw [show (k+1) * 3=k * 3+3 by omega,← ydj,h1]
  rfl
 rw [this]
 exact h4
theorem AtFl.next {H:Heap} {l:List Fo} {bs:List AV} {k:Nat} {S:List Nat} (h:AtFl H (l.drop k) (bs.drop (k * 4)) S) (hk:k<l.length) :
  ∃ o s a b S0 S1 S2 r x y,l.getD k fo0=.mk o s x y∧bs.drop (k * 4)=[.int .u8 (o:Nat),.str s,a,b]++r∧S=(S0++S1)++S2∧HdAt 36 3 H x.length a S0 (AtTl H x)∧HdAt 25 4 H y.length b S1 (AtFl H y)∧AtFl H (l.drop (k+1)) (bs.drop ((k+1) * 4)) S2:=by
 have e:l.drop k=l.getD k fo0::l.drop (k+1):=by
  rw [List.drop_eq_getElem_cons hk,ybi,yal hk]
  rfl
 rw [e,AtFl] at h
 obtain ⟨c1,c2,S1,S2,h1,rfl,h3,h4⟩:=h
 obtain ⟨o,s,x,y,ex⟩:=fo_ex (l.getD k fo0)
 rw [ex,AtF] at h3
 obtain ⟨a,b,T1,T2,rfl,rfl,h5,h6⟩:=h3
 refine ⟨o,s,a,b,T1,T2,S2,c2,x,y,ex,h1,rfl,h5,h6,?_⟩
 have:bs.drop ((k+1) * 4)=c2:=by
  rw [show (k+1) * 4=k * 4+4 by omega,← ydj,h1]
  rfl
 rw [this]
 exact h4
theorem HdAt.monoT {H M:Heap} {n:Nat} {l:List Tm} {a:AV} {S:List Nat} (h:HdAt 36 3 H n a S (AtTl H l)) (hs:∀ j∈S,M[j]? = H[j]?):HdAt 36 3 M n a S (AtTl M l) :=
 h.mono hs fun _ _ hS hb=>AtTl.mono l hb fun i hi=>hs i (hS i hi)
theorem HdAt.monoF {H M:Heap} {n:Nat} {l:List Fo} {a:AV} {S:List Nat} (h:HdAt 25 4 H n a S (AtFl H l)) (hs:∀ j∈S,M[j]? = H[j]?):HdAt 25 4 M n a S (AtFl M l) :=
 h.mono hs fun _ _ hS hb=>AtFl.mono l hb fun i hi=>hs i (hS i hi)
def CstT (q:Nat) (H:Heap) (a:AV):Prop:=a=.nils∨∃ i n,a=.vs i n∧q≤i∧n * 48≤capB∧H[i]? = some (.vec 36 3 (repC n dashC))
def CstF (q:Nat) (H:Heap) (a:AV):Prop:=a=.nils∨∃ i n,a=.vs i n∧q≤i∧n * 72≤capB∧H[i]? = some (.vec 25 4 (repC n f99C))
def OvQ (q:Nat) (H H':Heap):Prop:=∃ S,(∀ j∈S,q≤j∧j<H.length)∧OvS S H H'
theorem OvQ.len {q:Nat} {H H':Heap} (h:OvQ q H H'):H'.length=H.length:=h.choose_spec.2.len
theorem OvQ.trans {q:Nat} {H1 H2 H3:Heap} (h1:OvQ q H1 H2) (h2:OvQ q H2 H3):OvQ q H1 H3:=by
 obtain ⟨S,a1,b1⟩:=h1
 obtain ⟨T,a2,b2⟩:=h2
 exact ⟨S++T,fun j hj=>(ybd.1 hj).elim (a1 j) fun hj=>b1.len▸a2 j hj,b1.app b2⟩
theorem OvQ.cst {q:Nat} {H H':Heap} (h:OvQ q H H') {j:Nat} {B:Blk} (hB:H[j]? = some B) (hc:cstB B=B):H'[j]? = some B:=h.choose_spec.2.cst hB hc
theorem OvQ.box {q:Nat} {H H':Heap} (h:OvQ q H H') {j:Nat} {t:TypeId} {l:List AV} (hB:H[j]? = some (.box t l)):H'[j]? = some (.box t l):=h.cst hB rfl
theorem OvQ.pre {H X B:Heap} (h:OvQ H.length (H++X) B):∃ Y,B=H++Y:=by
 obtain ⟨S,a1,b1⟩:=h
 exact b1.over.pre fun j hj hs=>by have:=a1 j hs;omega
theorem cstB_T (n:Nat):cstB (.vec 36 3 (repC n dashC))=.vec 36 3 (repC n dashC):=by
 rw [zcq,if_pos rfl,zbf]
 rw [show n * dashC.length=n * 3 from rfl,Nat.mul_div_cancel _ (by omega)]
theorem cstB_F (n:Nat):cstB (.vec 25 4 (repC n f99C))=.vec 25 4 (repC n f99C):=by
 rw [zcq,zbf,if_neg (by decide),if_pos rfl,show n * f99C.length=n * 4 from rfl,Nat.mul_div_cancel _ (by omega)]
theorem CstT.keep {q r:Nat} {H H':Heap} {a:AV} (h:CstT q H a) (h1:OvQ r H H'):CstT q H' a:=by
 rcases h with h|⟨i,n,h2,h5,h3,h4⟩
 ·exact .inl h
 ·exact .inr ⟨i,n,h2,h5,h3,h1.cst h4 (cstB_T n)⟩
theorem CstF.keep {q r:Nat} {H H':Heap} {a:AV} (h:CstF q H a) (h1:OvQ r H H'):CstF q H' a:=by
 rcases h with h|⟨i,n,h2,h5,h3,h4⟩
 ·exact .inl h
 ·exact .inr ⟨i,n,h2,h5,h3,h1.cst h4 (cstB_F n)⟩
theorem atTl_dash (H:Heap):∀ n,AtTl H (List.replicate n dash) (repC n dashC) []
 | 0=>by simp [AtTl,repC]
 | n+1=>by
   rw [List.replicate_succ,AtTl,repC]
   refine ⟨dashC,repC n dashC,[],[],rfl,rfl,?_,atTl_dash H n⟩
   unfold dash
   rw [AtT]
   exact ⟨.nils,rfl,.inl ⟨rfl,rfl,rfl⟩⟩
theorem atFl_f99 (H:Heap):∀ n,AtFl H (List.replicate n f99) (repC n f99C) []
 | 0=>by simp [AtFl,repC]
 | n+1=>by
   rw [List.replicate_succ,AtFl,repC]
   refine ⟨f99C,repC n f99C,[],[],rfl,rfl,?_,atFl_f99 H n⟩
   unfold f99
   rw [AtF]
   exact ⟨.nils,.nils,[],[],rfl,rfl,.inl ⟨rfl,rfl,rfl⟩,.inl ⟨rfl,rfl,rfl⟩⟩
theorem CstT.hd {q:Nat} {H:Heap} {a:AV} (h:CstT q H a):∃ n S,n * 48≤capB∧S.Nodup∧HdAt 36 3 H n a S (AtTl H (List.replicate n dash))∧∀ j∈S,q≤j∧j<H.length:=by
 rcases h with h|⟨i,n,h2,h5,h3,h4⟩
 ·exact ⟨0,[],by simp [capB],yc4,.inl ⟨rfl,h,rfl⟩,fun j hj=>by cases hj⟩
 ·exact ⟨n,[i],h3,by simp,.inr ⟨i,_,[],h2,h4,rfl,atTl_dash H n⟩,fun j hj=>by
   rcases yay.1 hj with rfl
   exact ⟨h5,(yac.1 h4).1⟩⟩
theorem CstF.hd {q:Nat} {H:Heap} {a:AV} (h:CstF q H a):∃ n S,n * 72≤capB∧S.Nodup∧HdAt 25 4 H n a S (AtFl H (List.replicate n f99))∧∀ j∈S,q≤j∧j<H.length:=by
 rcases h with h|⟨i,n,h2,h5,h3,h4⟩
 ·exact ⟨0,[],by simp [capB],yc4,.inl ⟨rfl,h,rfl⟩,fun j hj=>by cases hj⟩
 ·exact ⟨n,[i],h3,by simp,.inr ⟨i,_,[],h2,h4,rfl,atFl_f99 H n⟩,fun j hj=>by
   rcases yay.1 hj with rfl
   exact ⟨h5,(yac.1 h4).1⟩⟩
theorem HdAt.cstT {q:Nat} {S T:List Nat} {H H':Heap} {l:List Tm} {a:AV} (h:HdAt 36 3 H l.length a S (AtTl H l)) (hl:l.length * 48≤capB) (h1:OvS T H H') (hs:∀ j∈S,j∈T) (hq:∀ j∈S,q≤j):CstT q H' a:=by
 rcases h with ⟨-,h,-⟩|⟨i,bs,S',h2,h3,rfl,h4⟩
 ·exact .inl h
 ·refine .inr ⟨i,l.length,h2,hq i (ya9 ..),hl,?_⟩
  rw [h1.eq,if_pos (hs i (ya9 ..)),h3,ya8]
  rw [zcq,if_pos rfl,AtTl.len l h4,Nat.mul_div_cancel _ (by omega)]
theorem HdAt.cstF {q:Nat} {S T:List Nat} {H H':Heap} {l:List Fo} {a:AV} (h:HdAt 25 4 H l.length a S (AtFl H l)) (hl:l.length * 72≤capB) (h1:OvS T H H') (hs:∀ j∈S,j∈T) (hq:∀ j∈S,q≤j):CstF q H' a:=by
 rcases h with ⟨-,h,-⟩|⟨i,bs,S',h2,h3,rfl,h4⟩
 ·exact .inl h
 ·refine .inr ⟨i,l.length,h2,hq i (ya9 ..),hl,?_⟩
  rw [h1.eq,if_pos (hs i (ya9 ..)),h3,ya8]
  rw [zcq,if_neg (by decide),if_pos rfl,AtFl.len l h4,Nat.mul_div_cancel _ (by omega)]
theorem fit_dash:∀ n,Tm.fitL (List.replicate n dash)
 | 0=>trivial
 | n+1=>⟨⟨by decide,by decide,trivial⟩,fit_dash n⟩
theorem fit_f99:∀ n,Fo.fitL (List.replicate n f99)
 | 0=>trivial
 | n+1=>⟨⟨by decide,by decide,trivial,by decide,trivial⟩,fit_f99 n⟩
theorem EndN.ovs {S:List Nat} {H base loc:Heap} (h:OvS S H base):EndN H base loc (.tup []) (fun r H'=>r=.tup []∧OvS S H H') :=
 .cut h.len (fun j B hB=>(h.over.low j B hB).imp id fun q=>q _) ⟨_,_,.refl _,yae _,trivial,rfl,h⟩
theorem zgp [Glob] {P:Program} {F:FuncId} {xs:List AV} {n0:Nat} {base loc:Heap} {k:Nat} {K:AV→Heap→Nat→Heap→Prop} (S:List Nat) (h:VCall P F xs (base++loc) fun r H'=>r=.tup []∧OvS S (base++loc) H') (hn:base.length=n0) (hk:loc.length=k) (hS:∀ j∈S,j<n0)
  (a:∀ base',OvS S base base'→K (.tup []) base' k loc):CallN P (.func F) xs n0 base k loc K:=by
 refine .gen _ h fun r H' hr=>?_
 obtain ⟨rfl,ho⟩:=hr
 have hlen:H'.length=n0+k:=by have:=ho.len;rw [ya3] at this;omega
 have hl:(H'.take n0).length=n0:=by simp;omega
 refine ⟨H'.take n0,k,loc,?_,hk,hl,a _ ⟨by omega,fun j=>?_⟩⟩
 ·apply ybk
  intro j
  rcases yag j n0 with hj|hj
  ·rw [yaj (by omega),List.getElem?_take_of_lt hj]
  ·rw [yam (by omega),ho.same j (fun hs=>by have:=hS j hs;omega),yam (by omega),hl,hn]
 ·rcases yag j n0 with hj|hj
  ·rw [List.getElem?_take_of_lt hj,ho.eq,yaj (by omega)]
  ·have hn1:j ∉ S:=fun hs=>by have:=hS j hs;omega
   rw [yca (by omega),if_neg hn1,yca (by omega)]
theorem zgq [Glob] {q:Nat} {P:Program} {F:FuncId} {xs:List AV} {n0:Nat} {base loc:Heap} {k:Nat} {K:AV→Heap→Nat→Heap→Prop} (h:∃ S,(∀ j∈S,q≤j∧j<base.length)∧VCall P F xs (base++loc) fun r H'=>r=.tup []∧OvS S (base++loc) H') (hn:base.length=n0) (hk:loc.length=k)
  (a:∀ base',OvQ q base base'→K (.tup []) base' k loc):CallN P (.func F) xs n0 base k loc K:=by
 obtain ⟨S,h1,h2⟩:=h
 exact zgp S h2 hn hk (fun j hj=>hn▸(h1 j hj).2) fun base' ho=>a base' ⟨S,h1,ho⟩
theorem CallN.ovs1 [Glob] {P:Program} {F:FuncId} {xs:List AV} {n0:Nat} {base loc:Heap} {k:Nat} {K:AV→Heap→Nat→Heap→Prop} (S:List Nat) (c:Nat) (loc2:Heap) (h:VCall P F xs (base++loc) fun r H'=>r=.tup []∧OvS ((n0+c)::S) (base++loc) H') (hn:base.length=n0) (hk:loc.length=k) (hS:∀ j∈S,j<n0) {B:Blk} (hc:loc[c]? = some B) (hl2:loc.set c (cstB B)=loc2)
  (a:∀ base',OvS S base base'→K (.tup []) base' k loc2):CallN P (.func F) xs n0 base k loc K:=by
 subst hl2
 refine .gen _ h fun q H' hr=>?_
 obtain ⟨rfl,ho⟩:=hr
 have hlen:H'.length=n0+k:=by have:=ho.len;rw [ya3] at this;omega
 have hl:(H'.take n0).length=n0:=by simp;omega
 have hck:=(yac.1 hc).1
 refine ⟨H'.take n0,k,loc.set c (cstB B),?_,by simpa using hk,hl,a _ ⟨by omega,fun j=>?_⟩⟩
 ·apply ybk
  intro j
  rcases yag j n0 with hj|hj
  ·rw [yaj (by omega),List.getElem?_take_of_lt hj]
  ·rw [yam (by omega),ho.eq,yam (by omega),hl,hn]
   by_cases e:j=n0+c
   ·subst e
    rw [if_pos (ya9 ..),ybh,hc,List.getElem?_set_self hck]
    rfl
   ·rw [if_neg (fun hs=>by
     rcases yax.1 hs with h1|h1
     ·exact e h1
     ·have:=hS j h1;omega),yc3 (by omega)]
 ·rcases yag j n0 with hj|hj
  ·rw [List.getElem?_take_of_lt hj,ho.eq,yaj (by omega)]
   have:(j∈(n0+c)::S)↔j∈S:=by simp;omega
   simp [this]
  ·have hn1:j ∉ S:=fun hs=>by have:=hS j hs;omega
   rw [yca (by omega),if_neg hn1,yca (by omega)]
end Go.Proofs.YtejegcmnddedmaaGreatDoor
