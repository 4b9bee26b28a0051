/- A text of the proof: the parts YA02, YB02, YC02, YD02, YE02, YF02, DY02. -/
import Derived.ProofKit
import Derived.LaidMore
import Derived.OpenShut
import Derived.Test.YtejegcmnddedmaaDoorK9
set_option linter.unusedSimpArgs false
set_option linter.unusedVariables false
set_option maxHeartbeats 8000000
namespace Go.Proofs.YtejegcmnddedmaaDoor
open Go.Vsi
theorem zd0 (ps:List Fo) (x:Fo) (l:List Fo):(foldB stepP ps (x::l)).1=(foldB stepP (stepP ps x).1 l).1:=by
 rw [zbh]
 rfl
theorem foldP_mem:∀ (l ps:List Fo) (y:Fo),y∈(foldB stepP ps l).1↔y∈ps∨y∈l
 | [],ps,y=>by simp [foldB]
 | x::l,ps,y=>by
   rw [zd0,foldP_mem l]
   unfold stepP
   simp only
   split
   ·rename_i h
    obtain ⟨z,hz,he⟩:=ycq.1 h
    obtain rfl:=sameB_iff.1 he
    constructor
    ·rintro (h|h)
     ·exact .inl h
     ·exact .inr (ya2 _ h)
    ·rintro (h|h)
     ·exact .inl h
     ·rcases yax.1 h with e|h
      ·exact .inl (e▸hz)
      ·exact .inr h
   ·simp [ybe,or_assoc]
theorem foldP_pre:∀ (l ps:List Fo),∃ r,(foldB stepP ps l).1=ps++r
 | [],ps=>⟨[],by simp [foldB]⟩
 | x::l,ps=>by
   rw [zd0]
   obtain ⟨r,hr⟩:=foldP_pre l (stepP ps x).1
   rw [hr]
   unfold stepP
   simp only
   split
   ·exact ⟨r,rfl⟩
   ·exact ⟨x::r,by simp⟩
theorem foldP_nd:∀ (l ps:List Fo),ps.Nodup→(foldB stepP ps l).1.Nodup
 | [],ps,h=>by simpa [foldB] using h
 | x::l,ps,h=>by
   rw [zd0]
   refine foldP_nd l _ ?_
   unfold stepP
   simp only
   split
   ·exact h
   ·rename_i hn
    rw [List.nodup_append]
    refine ⟨h,by simp,fun a ha b hb=>?_⟩
    simp at hb
    subst hb
    exact fun e=>hn (ycq.2 ⟨b,e▸ha,sameB_iff.2 rfl⟩)
structure PartsI (f:Fo) (l:List Fo):Prop where
 head:∃ r,l=f::r
 mem:∀ y,y∈l↔y∈fpart f
 nd:l.Nodup
theorem parts_ok (f:Fo) (h:¬ 1000<cntF 1000 f):PartsI f (zc4 f):=by
 unfold zc4
 rw [if_neg h]
 refine ⟨?_,fun y=>by rw [foldP_mem];simp,foldP_nd _ _ ycz⟩
 obtain ⟨o,s,l,m,rfl⟩:=fo_ex f
 rw [zbs,zd0]
 obtain ⟨r,hr⟩:=foldP_pre (fparts m) (stepP [] (.mk o s l m)).1
 exact ⟨r,hr⟩
def tmN (x:Tm):Nat:=(tpart x).length
theorem tmsN_cons (x:Tm) (l:List Tm):tmsN (x::l)=tmN x+tmsN l:=by unfold tmsN tmN;rw [zfk,ya3]
theorem tmsN_nil:tmsN []=0:=by unfold tmsN;rw [tparts_nil];rfl
theorem tmN_mk (v:Bool) (s:ByteArray) (l:List Tm):tmN (.mk v s l)=tmsN l+1:=by unfold tmsN tmN;rw [tpart_mk];rfl
mutual
theorem szT_bd:∀ (x:Tm) (left:Int),0≤left→left≤500→x.blk≤2097152→0≤szT x left∧szT x left≤x.blk∧(szT x left≤left→(tmN x:Int)≤szT x left)
 | .mk v s l,left,h0,h1,hb=>by
   rw [ze1] at hb
   have h2:=szTs_bd l left 0 h0 h1 (by omega) (by omega)
   rw [szT_mk,ze1,tmN_mk,wI_id (by omega) (by omega)]
   refine ⟨by omega,by omega,fun h=>?_⟩
   have:=h2.2.2 (by omega)
   omega
theorem szTs_bd:∀ (l:List Tm) (left n:Int),0≤left→left≤500→0≤n→n+Tm.blkL l≤2097152→n≤szTs l left n∧szTs l left n≤n+Tm.blkL l∧(szTs l left n≤left→n+tmsN l≤szTs l left n)
 | [],left,n,h0,h1,hn,hb=>by
   rw [szTs_nil,tmsN_nil,zfy]
   exact ⟨by omega,by omega,fun _=>by omega⟩
 | x::l,left,n,h0,h1,hn,hb=>by
   rw [zdm] at hb ⊢
   rw [szTs_cons,tmsN_cons]
   by_cases h:n≤left
   ·rw [if_pos h,wI_id (n:=left-n) (by omega) (by omega)]
    have h2:=szT_bd x (left-n) (by omega) (by omega) (by omega)
    rw [wI_id (by omega) (by omega)]
    have h3:=szTs_bd l left (n+szT x (left-n)) h0 h1 (by omega) (by omega)
    refine ⟨by omega,by omega,fun h4=>?_⟩
    have:=h3.2.2 h4
    have:=h2.2.2 (by omega)
    omega
   ·rw [if_neg h]
    exact ⟨by omega,by omega,fun h4=>by omega⟩
end
theorem szTs_ok (l:List Tm) (left:Int) (h0:0≤left) (h1:left≤500) (hb:Tm.blkL l≤2097152):0≤szTs l left 0∧szTs l left 0≤Tm.blkL l∧(szTs l left 0≤left→(tmsN l:Int)≤szTs l left 0):=by
 have:=szTs_bd l left 0 h0 h1 (by omega) (by omega)
 refine ⟨by omega,by omega,fun h=>?_⟩
 have:=this.2.2 h
 omega
mutual
theorem szF_bd:∀ (x:Fo) (left:Int),0≤left→left≤500→x.blk≤2097152→0≤szF x left∧szF x left≤x.blk∧(szF x left≤left→(zbb x:Int)≤szF x left)
 | .mk o s l m,left,h0,h1,hb=>by
   rw [zgl] at hb ⊢
   have h2:=szTs_ok l left h0 h1 (by omega)
   rw [szF_mk,zdy,zb4,wI_id (n:=1+(s.size:Int) / 40+szTs l left 0) (by omega) (by omega)]
   have h3:=szFs_bd m left (1+(s.size:Int) / 40+szTs l left 0) h0 h1 (by omega) (by omega)
   refine ⟨by omega,by omega,fun h=>?_⟩
   have h4:=h3.2.2 h
   have:=h2.2.2 (by omega)
   omega
theorem szFs_bd:∀ (l:List Fo) (left n:Int),0≤left→left≤500→0≤n→n+Fo.blkL l≤2097152→n≤szFs l left n∧szFs l left n≤n+Fo.blkL l∧(szFs l left n≤left→n+sumN l≤szFs l left n)
 | [],left,n,h0,h1,hn,hb=>by
   rw [szFs_nil,zf1]
   exact ⟨by omega,by omega,fun _=>by simp [sumN]⟩
 | x::l,left,n,h0,h1,hn,hb=>by
   rw [zdn] at hb ⊢
   have hs:sumN (x::l)=zbb x+sumN l:=by simp [sumN]
   rw [zf5,hs]
   by_cases h:n≤left
   ·rw [if_pos h,wI_id (n:=left-n) (by omega) (by omega)]
    have h2:=szF_bd x (left-n) (by omega) (by omega) (by omega)
    rw [wI_id (by omega) (by omega)]
    have h3:=szFs_bd l left (n+szF x (left-n)) h0 h1 (by omega) (by omega)
    refine ⟨by omega,by omega,fun h4=>?_⟩
    have:=h3.2.2 h4
    have:=h2.2.2 (by omega)
    omega
   ·rw [if_neg h]
    exact ⟨by omega,by omega,fun h4=>by omega⟩
end
theorem small_nodes (f:Fo) (hb:f.blk≤1048576) (h:smallB [f]=true):zbb f≤500:=by
 unfold smallB at h
 rw [decide_eq_true_eq,zf5,if_pos (by omega),szFs_nil] at h
 rw [show wI (500-0)=500 from wI_id (by omega) (by omega)] at h
 have h2:=szF_bd f 500 (by omega) (by omega) (by omega)
 rw [wI_id (by omega) (by omega)] at h
 have:=h2.2.2 (by omega)
 omega
theorem foldE_lim (lim:Int) (hl:lim≤1000):∀ (l:List Tm) (a:Int),0≤a→a+l.length≤lim→foldE (stepT lim) a l=(a+l.length,true)
 | [],a,_,_=>by simp [foldE]
 | x::l,a,h0,h1=>by
   simp only [List.length_cons] at h1
   rw [zbg]
   have e:stepT lim a x=(a+1,true):=by
    unfold stepT
    rw [wI_id (by omega) (by omega)]
    simp
    omega
   rw [e]
   simp only [if_true]
   rw [foldE_lim lim hl l (a+1) (by omega) (by omega)]
   simp only [List.length_cons,yb1,and_true]
   omega
theorem foldB_lim (lim:Int) (hl:lim≤1000):∀ (l:List Fo) (a:Int),0≤a→a+zbu l≤lim→foldB (stepC lim) a l=(a+zbu l,none)
 | [],a,_,_=>by simp [foldB,zbu]
 | x::l,a,h0,h1=>by
   simp only [zbu] at h1
   have e0:cntT lim a (targs x)=a+(tmsN (targs x)+1:Nat):=by
    unfold cntT
    rw [wI_id (by omega) (by omega),foldE_lim lim hl _ _ (by omega) (by unfold tmsN at h1;omega)]
    unfold tmsN
    simp only
    omega
   have e:stepC lim a x=(a+(tmsN (targs x)+1:Nat),none):=by
    unfold stepC
    rw [e0,if_neg (by omega)]
   rw [zbh,e]
   simp only [Option.isNone_none,if_true]
   rw [foldB_lim lim hl l _ (by omega) (by omega)]
   simp only [zbu,yb1,and_true]
   omega
theorem cnt_small (f:Fo) (h:zbb f≤1000):cntF 1000 f=zbb f:=by
 unfold cntF
 rw [foldB_lim 1000 (by omega) (fpart f) 0 (by omega) (by unfold zbb at h;omega)]
 simp [zbb]
mutual
theorem part_nodes:∀ (f x:Fo),x∈fpart f→zbb x≤zbb f
 | .mk o s l m,x,h=>by
   rw [zbs] at h
   rcases yax.1 h with rfl|h
   ·exact yaw _
   ·have:=zfs m x h
    rw [zdy,zb4]
    omega
theorem zfs:∀ (m:List Fo) (x:Fo),x∈fparts m→zbb x≤sumN m
 | [],x,h=>by rw [zb1] at h;cases h
 | y::m,x,h=>by
   rw [zbj] at h
   have hs:sumN (y::m)=zbb y+sumN m:=by simp [sumN]
   rcases ybe.1 h with h|h
   ·have:=part_nodes y x h
    omega
   ·have:=zfs m x h
    omega
end
theorem part_lt (f x:Fo) (h:x∈fpart f) (hne:x≠f):zbb x<zbb f:=by
 obtain ⟨o,s,l,m,rfl⟩:=fo_ex f
 rw [zbs] at h
 rcases yax.1 h with rfl|h
 ·exact absurd rfl hne
 ·have:=zfs m x h
  rw [zdy,zb4]
  omega
mutual
theorem depT_bd:∀ x:Tm,tmN x≤1000→1≤depT x∧depT x≤tmN x
 | .mk v s l,h=>by
   rw [tmN_mk] at h ⊢
   have:=depTs_bd l 0 (by omega) (by omega) (by omega)
   rw [depT_mk,wI_id (by omega) (by omega)]
   omega
theorem depTs_bd:∀ (l:List Tm) (d:Int),0≤d→d≤1000→tmsN l≤1000→d≤depTs l d∧depTs l d≤max d (tmsN l)
 | [],d,_,_,_=>by rw [depTs_nil];omega
 | x::l,d,h0,h1,h=>by
   rw [tmsN_cons] at h ⊢
   rw [depTs_cons]
   have h2:=depT_bd x (by omega)
   have h3:=depTs_bd l (max d (depT x)) (by omega) (by omega) (by omega)
   omega
end
mutual
theorem depF_bd:∀ x:Fo,zbb x≤1000→1≤depF x∧depF x≤zbb x
 | .mk o s l m,h=>by
   rw [zdy,zb4] at h ⊢
   have h1:=depTs_bd l 0 (by omega) (by omega) (by omega)
   have h2:=depFs_bd m (depTs l 0) (by omega) (by omega) (by omega)
   rw [depF_mk,wI_id (by omega) (by omega)]
   omega
theorem depFs_bd:∀ (m:List Fo) (d:Int),0≤d→d≤1000→sumN m≤1000→d≤depFs m d∧depFs m d≤max d (sumN m)
 | [],d,_,_,_=>by rw [depFs_nil];omega
 | x::l,d,h0,h1,h=>by
   have hs:sumN (x::l)=zbb x+sumN l:=by simp [sumN]
   rw [hs] at h ⊢
   rw [depFs_cons]
   have h2:=depF_bd x (by omega)
   have h3:=depFs_bd l (max d (depF x)) (by omega) (by omega) (by omega)
   omega
end
theorem depFs_mem:∀ (m:List Fo) (d:Int) (x:Fo),0≤d→d≤1000→sumN m≤1000→x∈m→depF x≤depFs m d
 | y::m,d,x,h0,h1,h,hx=>by
   have hs:sumN (y::m)=zbb y+sumN m:=by simp [sumN]
   rw [hs] at h
   rw [depFs_cons]
   have h2:=depF_bd y (by omega)
   have h3:=depFs_bd m (max d (depF y)) (by omega) (by omega) (by omega)
   rcases yax.1 hx with rfl|hx
   ·omega
   ·exact depFs_mem m _ x (by omega) (by omega) (by omega) hx
theorem depF_sub (o:Nat) (s:ByteArray) (l:List Tm) (m:List Fo) (h:zbb (.mk o s l m)≤1000) (x:Fo) (hx:x∈m):depF x<depF (.mk o s l m):=by
 rw [zdy,zb4] at h
 have h1:=depTs_bd l 0 (by omega) (by omega) (by omega)
 have h2:=depFs_bd m (depTs l 0) (by omega) (by omega) (by omega)
 have h3:=depFs_mem m (depTs l 0) x (by omega) (by omega) (by omega) hx
 rw [depF_mk,wI_id (by omega) (by omega)]
 omega
mutual
theorem part_dep:∀ (f x:Fo),zbb f≤1000→x∈fpart f→x=f∨depF x<depF f
 | .mk o s l m,x,hn,h=>by
   rw [zbs] at h
   rcases yax.1 h with rfl|h
   ·exact .inl rfl
   ·have hs:sumN m≤1000:=by rw [zdy,zb4] at hn;omega
    obtain ⟨y,hy,hd⟩:=parts_dep m x hs h
    have:=depF_sub o s l m hn y hy
    exact .inr (by omega)
theorem parts_dep:∀ (m:List Fo) (x:Fo),sumN m≤1000→x∈fparts m→∃ y∈m,depF x≤depF y
 | [],x,_,h=>by rw [zb1] at h;cases h
 | y::m,x,hs,h=>by
   have hs2:sumN (y::m)=zbb y+sumN m:=by simp [sumN]
   rw [zbj] at h
   rcases ybe.1 h with h|h
   ·refine ⟨y,ya9 ..,?_⟩
    rcases part_dep y x (by omega) h with rfl|h
    ·exact Int.le_refl _
    ·omega
   ·obtain ⟨z,hz,hd⟩:=parts_dep m x (by omega) h
    exact ⟨z,ya2 _ hz,hd⟩
end
mutual
theorem zdv:∀ (f x y:Fo),x∈fpart f→y∈fpart x→y∈fpart f
 | .mk o s l m,x,y,hx,hy=>by
   rw [zbs] at hx
   rcases yax.1 hx with rfl|hx
   ·exact hy
   ·rw [zbs]
    exact ya2 _ (parts_trans m x y hx hy)
theorem parts_trans:∀ (m:List Fo) (x y:Fo),x∈fparts m→y∈fpart x→y∈fparts m
 | [],x,y,hx,_=>by rw [zb1] at hx;cases hx
 | z::m,x,y,hx,hy=>by
   rw [zbj] at hx ⊢
   rcases ybe.1 hx with hx|hx
   ·exact ybe.2 (.inl (zdv z x y hx hy))
   ·exact ybe.2 (.inr (parts_trans m x y hx hy))
end
def fop:Fo→Nat
 | .mk o _ _ _=>o
def stepO (m:Nat) (x:Fo):Nat×Option Code:=(if fop x<32 then m ||| 1 <<< fop x else m,none)
def opsM (f:Fo):Nat:=(foldB stepO 0 (fpart f)).1
theorem foldO_cons (m:Nat) (x:Fo) (l:List Fo):(foldB stepO m (x::l)).1=(foldB stepO (stepO m x).1 l).1:=by
 rw [zbh]
 rfl
theorem foldO_bit:∀ (l:List Fo) (m i:Nat),(foldB stepO m l).1.testBit i=true↔m.testBit i=true∨∃ x∈l,fop x=i∧i<32
 | [],m,i=>by simp [foldB]
 | x::l,m,i=>by
   rw [foldO_cons,foldO_bit l]
   unfold stepO
   simp only
   have hb:(if fop x<32 then m ||| 1 <<< fop x else m).testBit i=true↔m.testBit i=true∨(fop x=i∧i<32):=by
    split
    ·rename_i h
     rw [Nat.testBit_or,Nat.one_shiftLeft,Nat.testBit_two_pow,Bool.or_eq_true,decide_eq_true_eq]
     constructor
     ·rintro (h1|h1)
      ·exact .inl h1
      ·exact .inr ⟨h1,h1▸h⟩
     ·rintro (h1|⟨h1,-⟩)
      ·exact .inl h1
      ·exact .inr h1
    ·rename_i h
     constructor
     ·exact .inl
     ·rintro (h1|⟨rfl,h2⟩)
      ·exact h1
      ·exact absurd h2 h
   rw [hb]
   constructor
   ·rintro ((h|h)|⟨y,hy,h⟩)
    ·exact .inl h
    ·exact .inr ⟨x,ya9 ..,h⟩
    ·exact .inr ⟨y,ya2 _ hy,h⟩
   ·rintro (h|⟨y,hy,h⟩)
    ·exact .inl (.inl h)
    ·rcases yax.1 hy with rfl|hy
     ·exact .inl (.inr h)
     ·exact .inr ⟨y,hy,h⟩
theorem foldO_lt:∀ (l:List Fo) (m:Nat),m<4294967296→(foldB stepO m l).1<4294967296
 | [],m,h=>by simpa [foldB] using h
 | x::l,m,h=>by
   rw [foldO_cons]
   refine foldO_lt l _ ?_
   unfold stepO
   simp only
   split
   ·rename_i h1
    refine Nat.or_lt_two_pow (n:=32) h ?_
    rw [Nat.one_shiftLeft]
    exact Nat.pow_lt_pow_right (by omega) h1
   ·exact h
theorem ops_sub (f x:Fo) (h:x∈fpart f):opsM x ^^^ (opsM x &&& opsM f)=0:=by
 apply Nat.eq_of_testBit_eq
 intro i
 rw [Nat.testBit_xor,Nat.testBit_and,Nat.zero_testBit]
 cases hx:(opsM x).testBit i with
 | false=>simp
 | true =>
   have hf:(opsM f).testBit i=true:=by
    unfold opsM at hx ⊢
    rw [foldO_bit] at hx ⊢
    rcases hx with hx|⟨y,hy,hi⟩
    ·simp at hx
    ·exact .inr ⟨y,zdv f x y h hy,hi⟩
   simp [hf]
section
open Go.Shelf Go.RowKit Go.Sort
theorem insY_mem (ks:List Sym) (x y:Sym):y∈insY ks x↔y∈ks∨y=x:=by
 unfold insY
 split
 ·rename_i h
  rw [memY_iff] at h
  constructor
  ·exact .inl
  ·rintro (h1|rfl)
   ·exact h1
   ·exact h
 ·simp
theorem insY_nd (ks:List Sym) (x:Sym) (h:ks.Nodup):(insY ks x).Nodup:=by
 unfold insY
 split
 ·exact h
 ·rename_i hn
  rw [List.nodup_append]
  refine ⟨h,by simp,fun a ha b hb=>?_⟩
  simp at hb
  subst hb
  exact fun e=>hn ((memY_iff _ _).2 (e▸ha))
theorem foldY_cons (ks:List Sym) (x:Fo) (l:List Fo):(foldB stepY ks (x::l)).1=(foldB stepY (stepY ks x).1 l).1:=by
 rw [zbh]
 have hn:(stepY ks x).2.isNone=true:=by cases x;rfl
 rw [hn,if_pos rfl]
def isSymP (x:Fo) (s:Sym):Prop:=match x with
 | .mk o t l _=>o=1∧s=(t,l.length)
theorem foldY_mem:∀ (l:List Fo) (ks:List Sym) (s:Sym),s∈(foldB stepY ks l).1↔s∈ks∨∃ x∈l,isSymP x s
 | [],ks,s=>by simp [foldB]
 | x::l,ks,s=>by
   rw [foldY_cons,foldY_mem l]
   have hs:s∈(stepY ks x).1↔s∈ks∨isSymP x s:=by
    obtain ⟨o,t,a,m,rfl⟩:=fo_ex x
    unfold stepY isSymP
    simp only
    split
    ·rename_i h
     rw [insY_mem]
     simp [h]
    ·rename_i h
     simp [h]
   rw [hs]
   constructor
   ·rintro ((h|h)|⟨y,hy,h⟩)
    ·exact .inl h
    ·exact .inr ⟨x,ya9 ..,h⟩
    ·exact .inr ⟨y,ya2 _ hy,h⟩
   ·rintro (h|⟨y,hy,h⟩)
    ·exact .inl (.inl h)
    ·rcases yax.1 hy with rfl|hy
     ·exact .inl (.inr h)
     ·exact .inr ⟨y,hy,h⟩
theorem foldY_nd:∀ (l:List Fo) (ks:List Sym),ks.Nodup→(foldB stepY ks l).1.Nodup
 | [],ks,h=>by simpa [foldB] using h
 | x::l,ks,h=>by
   rw [foldY_cons]
   refine foldY_nd l _ ?_
   obtain ⟨o,t,a,m,rfl⟩:=fo_ex x
   unfold stepY
   simp only
   split
   ·exact insY_nd _ _ h
   ·exact h
theorem predY_nd (f:Fo):(predY f).Nodup:=foldY_nd _ _ ycz
theorem predY_sub (f x:Fo) (h:x∈fpart f):∀ s∈predY x,s∈predY f:=by
 intro s hs
 unfold predY at hs ⊢
 rw [foldY_mem] at hs ⊢
 rcases hs with hs|⟨y,hy,hs⟩
 ·cases hs
 ·exact .inr ⟨y,zdv f x y h hy,hs⟩
def isSymF (x:Tm) (s:Sym):Prop:=match x with
 | .mk v t l=>v=false∧s=(t,l.length)
theorem foldW_mem:∀ (l:List Tm) (ks:List Sym) (s:Sym),s∈(foldE stepW ks l).1↔s∈ks∨∃ x∈l,isSymF x s
 | [],ks,s=>by simp [foldE]
 | x::l,ks,s=>by
   have hn:(stepW ks x).2=true:=by cases x;rfl
   rw [zbg,hn,if_pos rfl,foldW_mem l]
   have hs:s∈(stepW ks x).1↔s∈ks∨isSymF x s:=by
    obtain ⟨v,t,a,rfl⟩:=tm_ex x
    unfold stepW isSymF
    simp only
    cases v with
    | true=>simp
    | false =>
      simp only [ya6,if_false]
      rw [insY_mem]
      simp
   rw [hs]
   constructor
   ·rintro ((h|h)|⟨y,hy,h⟩)
    ·exact .inl h
    ·exact .inr ⟨x,ya9 ..,h⟩
    ·exact .inr ⟨y,ya2 _ hy,h⟩
   ·rintro (h|⟨y,hy,h⟩)
    ·exact .inl (.inl h)
    ·rcases yax.1 hy with rfl|hy
     ·exact .inl (.inr h)
     ·exact .inr ⟨y,hy,h⟩
theorem foldW_nd:∀ (l:List Tm) (ks:List Sym),ks.Nodup→(foldE stepW ks l).1.Nodup
 | [],ks,h=>by simpa [foldE] using h
 | x::l,ks,h=>by
   have hn:(stepW ks x).2=true:=by cases x;rfl
   rw [zbg,hn,if_pos rfl]
   refine foldW_nd l _ ?_
   obtain ⟨v,t,a,rfl⟩:=tm_ex x
   unfold stepW
   simp only
   split
   ·exact h
   ·exact insY_nd _ _ h
theorem foldZ_cons (ks:List Sym) (x:Fo) (l:List Fo):(foldB stepZ ks (x::l)).1=(foldB stepZ (stepZ ks x).1 l).1:=by
 rw [zbh]
 rfl
theorem foldZ_mem:∀ (l:List Fo) (ks:List Sym) (s:Sym),s∈(foldB stepZ ks l).1↔s∈ks∨∃ x∈l,∃ t∈tparts (targs x),isSymF t s
 | [],ks,s=>by simp [foldB]
 | x::l,ks,s=>by
   rw [foldZ_cons,foldZ_mem l]
   unfold stepZ
   simp only
   rw [foldW_mem]
   constructor
   ·rintro ((h|h)|⟨y,hy,h⟩)
    ·exact .inl h
    ·exact .inr ⟨x,ya9 ..,h⟩
    ·exact .inr ⟨y,ya2 _ hy,h⟩
   ·rintro (h|⟨y,hy,h⟩)
    ·exact .inl (.inl h)
    ·rcases yax.1 hy with rfl|hy
     ·exact .inl (.inr h)
     ·exact .inr ⟨y,hy,h⟩
theorem foldZ_nd:∀ (l:List Fo) (ks:List Sym),ks.Nodup→(foldB stepZ ks l).1.Nodup
 | [],ks,h=>by simpa [foldB] using h
 | x::l,ks,h=>by
   rw [foldZ_cons]
   exact foldZ_nd l _ (foldW_nd _ _ h)
theorem funY_nd (f:Fo):(funY f).Nodup:=foldZ_nd _ _ ycz
theorem funY_sub (f x:Fo) (h:x∈fpart f):∀ s∈funY x,s∈funY f:=by
 intro s hs
 unfold funY at hs ⊢
 rw [foldZ_mem] at hs ⊢
 rcases hs with hs|⟨y,hy,hs⟩
 ·cases hs
 ·exact .inr ⟨y,zdv f x y h hy,hs⟩
theorem insY_len (ks:List Sym) (x:Sym):(insY ks x).length≤ks.length+1:=by
 unfold insY
 split <;> simp
theorem foldY_len:∀ (l:List Fo) (ks:List Sym),(foldB stepY ks l).1.length≤ks.length+zbu l
 | [],ks=>by simp [foldB,zbu]
 | x::l,ks=>by
   rw [foldY_cons]
   have h1:=foldY_len l (stepY ks x).1
   have h2:(stepY ks x).1.length≤ks.length+1:=by
    obtain ⟨o,t,a,m,rfl⟩:=fo_ex x
    unfold stepY
    simp only
    split
    ·exact insY_len _ _
    ·omega
   simp only [zbu]
   omega
theorem predY_len (f:Fo):(predY f).length≤zbb f:=by
 have:=foldY_len (fpart f) []
 simpa [predY,zbb] using this
theorem foldW_len:∀ (l:List Tm) (ks:List Sym),(foldE stepW ks l).1.length≤ks.length+l.length
 | [],ks=>by simp [foldE]
 | x::l,ks=>by
   have hn:(stepW ks x).2=true:=by cases x;rfl
   rw [zbg,hn,if_pos rfl]
   have h1:=foldW_len l (stepW ks x).1
   have h2:(stepW ks x).1.length≤ks.length+1:=by
    obtain ⟨v,t,a,rfl⟩:=tm_ex x
    unfold stepW
    simp only
    split
    ·omega
    ·exact insY_len _ _
   simp only [List.length_cons]
   omega
theorem foldZ_len:∀ (l:List Fo) (ks:List Sym),(foldB stepZ ks l).1.length≤ks.length+zbu l
 | [],ks=>by simp [foldB,zbu]
 | x::l,ks=>by
   rw [foldZ_cons]
   have h1:=foldZ_len l (stepZ ks x).1
   have h2:(stepZ ks x).1.length≤ks.length+tmsN (targs x):=foldW_len _ _
   simp only [zbu]
   omega
theorem funY_len (f:Fo):(funY f).length≤zbb f:=by
 have:=foldZ_len (fpart f) []
 simpa [funY,zbb] using this
def ltS (x y:Sym):Prop:=ltOf cSym x y=true
theorem sortY_le (l:List Sym):(sortY l).Pairwise fun x y=>(!(ltOf cSym) y x)=true:=by
 unfold sortY
 refine List.pairwise_mergeSort (fun a b c h1 h2=>?_) (fun a b=>?_) l
 ·have:=swoSym.3 c b a (by simpa using h2) (by simpa using h1)
  simpa using this
 ·cases h:ltOf cSym b a with
  | false=>simp
  | true =>
    cases h2:ltOf cSym a b with
    | false=>simp
    | true =>
      have:=swoSym.2 a b a h2 h
      rw [swoSym.1 a] at this
      cases this
theorem sortY_lt (l:List Sym) (h:l.Nodup):(sortY l).Pairwise ltS:=by
 have h1:=sortY_le l
 have h2:(sortY l).Nodup:=(zc9 l).nodup_iff.2 h
 have h3:=h1.and h2
 refine h3.imp fun {x y} hxy=>?_
 unfold ltS
 cases hc:ltOf cSym x y with
 | true=>rfl
 | false=>exact absurd (totSym x y hc (by simpa using hxy.1)) hxy.2
theorem sorted_sub:∀ (a b:List Sym),a.Pairwise ltS→b.Pairwise ltS→(∀ s∈a,s∈b)→a.Sublist b
 | [],b,_,_,_=>List.nil_sublist _
 | x::a,[],_,_,h=>by have:=h x (ya9 ..);cases this
 | x::a,y::b,ha,hb,h=>by
   rw [List.pairwise_cons] at ha hb
   have irr:∀ z,¬ ltS z z:=fun z hz=>by unfold ltS at hz;rw [swoSym.1 z] at hz;cases hz
   have asy:∀ z w,ltS z w→ltS w z→False:=fun z w h1 h2=>irr z (swoSym.2 z w z h1 h2)
   rcases yax.1 (h x (ya9 ..)) with rfl|hxb
   ·refine (sorted_sub a b ha.2 hb.2 fun s hs=>?_).cons_cons x
    rcases yax.1 (h s (ya2 _ hs)) with rfl|hsb
    ·exact absurd (ha.1 s hs) (irr s)
    ·exact hsb
   ·refine (sorted_sub (x::a) b (List.pairwise_cons.2 ha) hb.2 fun s hs=>?_).cons y
    rcases yax.1 (h s hs) with rfl|hsb
    ·rcases yax.1 hs with rfl|hs
     ·exact hxb
     ·exact (asy _ _ (ha.1 s hs) (hb.1 x hxb)).elim
    ·exact hsb
theorem sortY_sub (a b:List Sym) (ha:a.Nodup) (hb:b.Nodup) (h:∀ s∈a,s∈b):(sortY a).Sublist (sortY b) :=
 sorted_sub _ _ (sortY_lt a ha) (sortY_lt b hb) fun s hs=>(zc9 b).mem_iff.2 (h s ((zc9 a).mem_iff.1 hs))
end
section
theorem bits32 (op:BinOp) (m n r:Nat) (hr:r<4294967296)
  (h:(match op with
   | .and=>BitVec.ofInt 32 (m:Int) &&& BitVec.ofInt 32 (n:Int)
   | .or=>BitVec.ofInt 32 (m:Int) ||| BitVec.ofInt 32 (n:Int)
   | .xor=>BitVec.ofInt 32 (m:Int) ^^^ BitVec.ofInt 32 (n:Int)
   | _=>BitVec.ofInt 32 (m:Int) &&& ~~~BitVec.ofInt 32 (n:Int)).toNat=r):bits op .u32 m n=(r:Int):=by
 unfold bits
 have h2:IntKind.u32.wrap (r:Int)=r:=IntWalk.u32_in _ (by omega)
 rw [← h2,← h]
 cases op <;> rfl
theorem ofInt32 (m:Nat) (h:m<4294967296):(BitVec.ofInt 32 (m:Int)).toNat=m:=by
 rw [BitVec.toNat_ofInt]
 have:((m:Int) % ((2 ^ 32:Nat):Int))=m:=by
  rw [Int.emod_eq_of_lt (by omega) (by have:(2 ^ 32:Nat)=4294967296:=rfl;omega)]
 rw [this];simp
theorem or32 (m n:Nat) (hm:m<4294967296) (hn:n<4294967296):bits .or .u32 m n=((m ||| n:Nat):Int):=by
 refine bits32 .or m n _ (Nat.or_lt_two_pow (n:=32) hm hn) ?_
 simp only [BitVec.toNat_or,ofInt32 m hm,ofInt32 n hn]
theorem andNot32 (m n:Nat) (hm:m<4294967296) (hn:n<4294967296):bits .andNot .u32 m n=((m ^^^ (m &&& n):Nat):Int):=by
 refine bits32 .andNot m n _ (Nat.xor_lt_two_pow (n:=32) hm (Nat.lt_of_le_of_lt Nat.and_le_left hm)) ?_
 apply Nat.eq_of_testBit_eq
 intro i
 simp only
 rw [BitVec.toNat_and,ofInt32 m hm,Nat.testBit_and,Nat.testBit_xor,Nat.testBit_and]
 by_cases hi:i<32
 ·have:(~~~BitVec.ofInt 32 (n:Int)).toNat.testBit i=!n.testBit i:=by
   have h1:(~~~BitVec.ofInt 32 (n:Int)).toNat.testBit i=(~~~BitVec.ofInt 32 (n:Int)).getLsbD i:=rfl
   have h2:(BitVec.ofInt 32 (n:Int)).getLsbD i=(BitVec.ofInt 32 (n:Int)).toNat.testBit i:=rfl
   rw [h1,BitVec.getLsbD_not,h2,ofInt32 n hn]
   simp [hi]
  rw [this]
  cases m.testBit i <;> cases n.testBit i <;> rfl
 ·have:m.testBit i=false:=Nat.testBit_lt_two_pow (ybo hm (ybd (by decide:4294967296≤2 ^ 32) (Nat.pow_le_pow_right (by decide) (by omega))))
  rw [this];rfl
theorem shl32 (n:Nat) (h:n<32):IntKind.u32.wrap ((1:Int) * 2 ^ min ((n:Nat):Int).toNat IntKind.u32.bits)=((1 <<< n:Nat):Int):=by
 have h2:(1 <<< n:Nat)<4294967296:=by
  rw [Nat.one_shiftLeft]
  exact Nat.pow_lt_pow_right (by omega) h
 rw [Int.toNat_natCast,Int.one_mul]
 show IntKind.u32.wrap (2 ^ min n 32)=_
 rw [Nat.min_eq_left (show n≤32 by omega)]
 have:((2:Int) ^ n)=((1 <<< n:Nat):Int):=by rw [Nat.one_shiftLeft];simp
 rw [this]
 exact IntWalk.u32_in _ ⟨Int.natCast_nonneg _,by omega⟩
theorem opsM_lt (f:Fo):opsM f<4294967296:=foldO_lt _ _ (by omega)
theorem stepO_lt (m:Nat) (x:Fo) (h:m<4294967296):(stepO m x).1<4294967296:=by
 unfold stepO
 simp only
 split
 ·rename_i h1
  refine Nat.or_lt_two_pow (n:=32) h ?_
  rw [Nat.one_shiftLeft]
  exact Nat.pow_lt_pow_right (by omega) h1
 ·exact h
theorem stepO_none (l:List Fo):∀ m,(foldB stepO m l).2=none:=by
 induction l with
 | nil=>intro m;rfl
 | cons x l ih =>
   intro m
   rw [zbh]
   have hn:(stepO m x).2.isNone=true:=rfl
   rw [hn,if_pos rfl]
   exact ih _
attribute [local irreducible] VW VCall VO bits
theorem ops_c (f:Fo) (hg:f.good) (H:Heap):VDet Tryd.prog 18 [.agg f.cells] H (.int .u32 (opsM f)):=by
 have hw:=walk_c f (H++[.box 25 f.cells,.box 41 [.int .u32 (0:Nat)]])
 rw [ya3] at hw
 have hfb:=fun n=>zcl n f
 unfold opsM
 have hce:∃ o s ln lc mn mc,f.cells=[.int .u8 (o:Nat),.str s,.sl none ln lc,.sl none mn mc]:=by
  obtain ⟨o,s,l,m,rfl⟩:=fo_ex f
  rw [zad]
  exact ⟨_,_,_,_,_,_,rfl⟩
 obtain ⟨o,s,ln,lc,mn,mc,hce⟩:=hce
 rw [hce] at hw hfb ⊢
 refine zai Tryd.E0 zab Tryd.func18 (by kernel_rfl) rfl (ybq rfl) rfl fun hcl hbl=>?_
 (repeat' ((conv=>whnf);(first|refine CallN.grow _ _ _ 3 hw rfl rfl rfl ?_|fail)));conv=>whnf
 refine zdu clo_good f hg rfl hcl rfl [3] _ rfl (by decide) rfl (by simp [za2,below,tr])
  (fun m:Nat=>[.box 25 [.int .u8 o,.str s,.sl none ln lc,.sl none mn mc],.box 41 [.int .u32 (m:Nat)],.box 25 [.int .u8 o,.str s,.sl none ln lc,.sl none mn mc]]) (fun m=>m<4294967296) (fun m=>m<4294967296) stepO 0 (by omega) rfl 2 (by rw [hce];rfl) (fun _ h=>h) (fun _ _=>rfl) ?_ (fun m x h _=>⟨stepO_lt m x h,fun _=>stepO_lt m x h⟩) ?_ ?_
 ·intro n _ B hB
  have:=hfb (H.length+(3+1))
  simp only [yax,ycl,or_false] at hB
  rcases hB with rfl|rfl|rfl
  ·exact this
  ·simp [Blk.below,zae,below]
  ·exact this
 ·intro m x Y hm hx
  obtain ⟨o2,t2,a2,m2,rfl⟩:=fo_ex x
  have hst:stepO m (.mk o2 t2 a2 m2)=(if o2<32 then m ||| 1 <<< o2 else m,none):=rfl
  rw [hst,zad]
  have hbl2:∀ z:Nat,∀ C∈([.box 25 [.int .u8 o,.str s,.sl none ln lc,.sl none mn mc],.box 41 [.int .u32 (z:Nat)],.box 25 [.int .u8 o,.str s,.sl none ln lc,.sl none mn mc]]:Heap),C.below (H.length+(3+1)):=by
   intro z C hC
   have:=hfb (H.length+(3+1))
   simp only [yax,ycl,or_false] at hC
   rcases hC with rfl|rfl|rfl
   ·exact this
   ·simp [Blk.below,zae,below]
   ·exact this
  by_cases h32:o2<32
  ·rw [if_pos h32]
   have hsl:(1 <<< o2:Nat)<4294967296:=by
    rw [Nat.one_shiftLeft]
    exact Nat.pow_lt_pow_right (by omega) h32
   have e1:=shl32 o2 h32
   have e2:=or32 m (1 <<< o2) hm hsl
   conv=>whnf
   refine ⟨none,_,zax Y rfl,zbd rfl,?_⟩
   generalize hB:Blk.loop LoopState.busy none _ _=B
   (repeat' ((conv=>whnf);(first|refine yc6 _ (zbd rfl) ?_|refine zal (by omega) ?_|(refine EqN.id ?_;first|refine EqN.mk _ e1 ?_|refine EqN.mk _ e2 ?_|fail)|refine yaf (by omega) ?_|refine yb3 _ (by (repeat' (first|assumption|exact zax _ rfl|exact za9 rfl|refine za3 (B':=?_) ?_|refine zam ?_|fail))) ?_|fail)));conv=>whnf
   subst hB
   exact zdo (l':=[_,_,_]) .normal rfl rfl (hbl2 _) (by simp [za2,below,tr])
  ·rw [if_neg h32]
   conv=>whnf
   refine ⟨none,_,zax Y rfl,zbd rfl,?_⟩
   generalize hB:Blk.loop LoopState.busy none _ _=B
   (repeat' ((conv=>whnf);(first|refine zan (by omega) ?_|fail)));conv=>whnf
   subst hB
   exact zdo (l':=[_,_,_]) .normal rfl rfl (hbl2 _) (by simp [za2,below,tr])
 ·have hjp:=stepO_none (fpart f) 0
  generalize foldB stepO 0 (fpart f)=res at *
  obtain ⟨n2,jp⟩:=res
  simp only at hjp ⊢
  subst hjp
  conv=>whnf
  exact eT trivial
theorem sym_size (x:Sym):(symC x).length=2:=rfl
theorem symNe (x y:Sym):(!(x.1.toList==y.1.toList&&(((x.2:Nat):Int)==((y.2:Nat):Int)&&true)))=!(decide (x=y)):=congrArg not (Option.some.inj (eqSym x y))
theorem within_c (a b:List Sym) (ha:a.length≤9223372036854775807) (hb:b.length≤9223372036854775807) (h:a.Sublist b) (H:Heap):VDet Tryd.prog 20 [.sl none a.length (a.flatMap symC),.sl none b.length (b.flatMap symC)] H (.bool true):=by
 refine zai Tryd.E0 zab Tryd.func20 (by kernel_rfl) rfl (ybq rfl) rfl fun hcl hbl=>?_
 conv=>whnf
 refine zcf Tryd.E0 zab (σ:=Nat×Nat) (fun p=>p.1≤a.length∧p.2≤b.length∧(a.drop p.1).Sublist (b.drop p.2)) (fun p=>a.length-p.1) (fun p=>[(6,.v (.int .i64 p.1)),(5,.v (.int .i64 p.2))]) (fun _=>_) _ (0,0) rfl hcl [0,1] rfl ⟨yah _,yah _,h⟩ ⟨⟨_,rfl,yae _⟩,⟨_,rfl,yae _⟩,trivial⟩ rfl (fun _ _=>rfl) ?_
 rintro ⟨i,j⟩ ⟨hi,hj,hs⟩
 simp only at hi hj hs
 clear hbl
 by_cases hlt:i<a.length
 ·have hds:=zb6 a sym0 i hlt
  obtain ⟨xs,xn,hx⟩:∃ xs xn,a.getD i sym0=(xs,xn):=⟨_,_,rfl⟩
  have q1:symC (a.getD i sym0)=[.str xs,.int .i64 (xn:Nat)]:=by rw [hx];rfl
  rw [hds] at hs
  (repeat' ((conv=>whnf);(first|refine zal (by omega) ?_|fail)));conv=>whnf
  refine zcf Tryd.E0 zab (σ:=Nat) (fun k=>k≤b.length∧(a.getD i sym0::a.drop (i+1)).Sublist (b.drop k)) (fun k=>b.length-k) (fun k=>[(5,.v (.int .i64 k))]) (fun _=>_) _ j rfl hcl [0,1,6] rfl ⟨hj,hs⟩ ⟨⟨_,rfl,yae _⟩,trivial⟩ rfl (fun _ _=>rfl) ?_
  rintro k ⟨hk,hsk⟩
  have hklt:k<b.length:=by
   rcases yag k b.length with h1|h1
   ·exact h1
   ·rw [yco h1] at hsk
    cases hsk
  have hdk:=zb6 b sym0 k hklt
  obtain ⟨ys,yn,hy⟩:∃ ys yn,b.getD k sym0=(ys,yn):=⟨_,_,rfl⟩
  have q2:symC (b.getD k sym0)=[.str ys,.int .i64 (yn:Nat)]:=by rw [hy];rfl
  have hne:=symNe (ys,yn) (xs,xn)
  simp only at hne
  rw [hdk] at hsk
  by_cases he:(ys,yn)=(xs,xn)
  ·rw [decide_eq_true he] at hne
   have hne:_=false:=hne
   have hnx:(a.drop (i+1)).Sublist (b.drop k):=by rw [hdk];exact (List.sublist_cons_self _ _).trans hsk
   (repeat' ((conv=>whnf);(first|(refine yai ?_;first|refine yat hne ?_|refine zal (by omega) ?_|refine zan (by omega) ?_|fail)|(refine zaz _ _ Cst.h Cst.h ?_ ?_;· omega)|(refine yaf ?_ ?_;· first|kernel_rfl|omega|exact yaa _ _|fail)|refine zaf sym0 k rfl hklt sym_size q2 ?_|refine zaf sym0 i rfl hlt sym_size q1 ?_|refine zaq [] ?_|fail)));conv=>whnf
   (refine ⟨⟨(i+1,k),⟨by show i+1≤a.length;omega,hk,hnx⟩,by omega,?_,.inr ?_,rfl,_,rfl,?_⟩⟩;rotate_left 2;exact .inl rfl;all_goals (repeat' (first|exact trivial|refine ⟨⟨_,rfl,?_⟩,?_⟩|fail));all_goals exact yae _)
  ·rw [decide_eq_false he] at hne
   have hne:_=true:=hne
   have hnx:(a.getD i sym0::a.drop (i+1)).Sublist (b.drop (k+1)):=by
    rw [hx,hy] at hsk
    rw [hx]
    cases hsk with
    | cons _ h=>exact h
    | cons_cons _ h=>exact absurd rfl he
   (repeat' ((conv=>whnf);(first|(refine yai ?_;first|refine yaq hne ?_|refine zal (by omega) ?_|fail)|(refine zaz _ _ Cst.h Cst.h ?_ ?_;· omega)|(refine yaf ?_ ?_;· first|kernel_rfl|omega|exact yaa _ _|fail)|refine zaf sym0 k rfl hklt sym_size q2 ?_|refine zaf sym0 i rfl hlt sym_size q1 ?_|refine zaq [] ?_|fail)));conv=>whnf
   (refine ⟨⟨k+1,⟨by omega,hnx⟩,by omega,?_,.inl ⟨rfl,rfl⟩,rfl,_,rfl,?_⟩⟩;rotate_left 1;exact .inl rfl;exact ⟨⟨_,rfl,yae _⟩,trivial⟩)
 ·(repeat' ((conv=>whnf);(first|refine zan (by omega) ?_|fail)));conv=>whnf
  exact eT trivial
end
section
attribute [local irreducible] VW VCall VO bits
theorem findF_app1:∀ (pl:List Int) (f g:Fo) (i:Int),findF f pl=some g→findF f (pl++[i])=findF g [i]
 | [],f,g,i,h=>by rw [zd1] at h;cases h;rfl
 | j::r,f,g,i,h=>by
   rw [zcu] at h
   split at h
   ·rename_i hj
    rw [ycb,zcu,if_pos hj]
    exact findF_app1 r _ g i h
   ·cases h
theorem fo_exz (x:Fo):∃ o s ln lc mn mc,x.cells=[.int .u8 (o:Nat),.str s,.sl none ln lc,.sl none mn mc]∧∀ n,zae n lc∧zae n mc:=by
 obtain ⟨o,s,l,m,rfl⟩:=fo_ex x
 rw [zad]
 exact ⟨_,_,_,_,_,_,rfl,fun n=>⟨zas n _,zat n _⟩⟩
theorem take_any (p:Fo→Bool) (l:List Fo) (j:Nat) (h:j<l.length):(l.take (j+1)).any p=((l.take j).any p || p (l.getD j fo0)):=by
 rw [List.take_add_one,List.any_append]
 simp [yal h]
theorem placed_step (f:Fo) (l:List Fo) (hl:l.length≤1000) (hlg:Fo.goodL l) (left:Nat) (hleft:left≤12) (go:Nat) (gs:ByteArray) (gl:List Tm) (gm:List Fo) (hgg:(Fo.mk go gs gl gm).good) (pn:Nat) (pc:List AV) (hpn:pn≤12) (hpc:pc.length=pn)
  (h1:∀ H,VDet Tryd.prog 12 [.agg f.cells,.sl none pn pc] H (.tup [.agg (Fo.mk go gs gl gm).cells,.int .i64 0]))
  (h2:∀ H,VDet Tryd.prog 12 [.agg f.cells,.sl none (pn+1) (pc++[.int .i64 (gm.length:Int)])] H (.tup [.agg fo0.cells,.int .i64 6]))
  (hmem:l.any (fun x=>eqFo x (.mk go gs gl gm))=true)
  (hsub:0<left→∀ k,k<gm.length→∀ H,VDet Tryd.prog 23 [.agg f.cells,.agg (gm.getD k fo0).cells,.sl none (pn+1) (pc++[.int .i64 (k:Nat)]),.sl none l.length (l.flatMap Fo.cells),.int .i64 ((left-1:Nat):Int)] H (.bool true)) (H:Heap) :
  VDet Tryd.prog 23 [.agg f.cells,.agg (Fo.mk go gs gl gm).cells,.sl none pn pc,.sl none l.length (l.flatMap Fo.cells),.int .i64 left] H (.bool true):=by
 have hgg2:=samF_g _ hgg _ hgg
 rw [show eqFo (Fo.mk go gs gl gm) (Fo.mk go gs gl gm)=true from (eqFo_iff _ _).2 rfl] at hgg2
 have hS:∀ x∈l,∀ H,VDet Tryd.prog 9 [.agg x.cells,.agg (Fo.mk go gs gl gm).cells] H (.bool (eqFo x (.mk go gs gl gm))):=fun x hx=>samF_g x (zbp hlg x hx) _ hgg
 have hml:=zak hgg.2.2.2.2.1
 obtain ⟨fo,fs,fl,flc,fm,fmc,ef,hfb⟩:=fo_exz f
 rw [ef] at h1 h2 hsub ⊢
 rw [zad] at h1 hgg2 hS ⊢
 rw [fo0_cells] at h2
 clear ef
 obtain ⟨E,hE⟩:∃ E:Fo→Bool,E=fun x=>eqFo x (Fo.mk go gs gl gm):=⟨_,rfl⟩
 rw [← hE] at hmem
 have hS:∀ x∈l,∀ H,VDet Tryd.prog 9 [.agg x.cells,.agg [.int .u8 go,.str gs,.sl none gl.length (gl.flatMap Tm.cells),.sl none gm.length (gm.flatMap Fo.cells)]] H (.bool (E x)):=by rw [hE];exact hS
 have htk:=fun j hj=>take_any E l j hj
 clear hgg hE
 have hcs:(pn=0∧pc=[])∨0<pn:=by
  rcases ycr pn with h|h
  ·exact .inl ⟨h,ya1 (by omega)⟩
  ·exact .inr h
 have hb1:(0+pn) * 8≤140737488355328:=by omega
 have hb2:0+pn≤maxLen:=ybd (show 0+pn≤12 by omega) (by decide)
 have hb3:(0+pn+1) * 8≤140737488355328:=by omega
 have hb4:0+pn+1≤maxLen:=ybd (show 0+pn+1≤13 by omega) (by decide)
 have hpc1:pc.length=pn * 1:=by omega
 have hx1:(0+1) * 8≤140737488355328:=by omega
 have hx2:0+1≤maxLen:=by decide
 have h2b:∀ H,VDet Tryd.prog 12 [.agg [.int .u8 fo,.str fs,.sl none fl flc,.sl none fm fmc],.sl none (0+pn+1) ([]++pc++[.int .i64 (gm.length:Int)])] H (.tup [.agg [.int .u8 0,.str .empty,.sl none 0 [],.sl none 0 []],.int .i64 6]):=by
  rw [ybn,yc2];exact h2
 refine zai Tryd.E0 zab Tryd.func23 (by kernel_rfl) rfl (ybq rfl) rfl fun hcl hbl=>?_
 (repeat' ((conv=>whnf);(first|refine yab _ (h1 _) ?_|fail)));conv=>whnf
 refine zcf Tryd.E0 zab (σ:=Nat×Bool) (fun p=>p.1≤l.length∧p.2=(l.take p.1).any E) (fun p=>l.length-p.1) (fun p=>[(14,.v (.int .i64 p.1)),(13,.v (.bool p.2))]) (fun _=>_) _ (0,false) rfl hcl [2,3,4,5,6,11,12] rfl ⟨yah _,rfl⟩ ⟨⟨_,rfl,yae _⟩,⟨_,rfl,yae _⟩,trivial⟩ rfl (fun _ _=>rfl) ?_
 rintro ⟨j,b⟩ ⟨hj,hb⟩
 simp only at hj hb
 clear hbl
 by_cases hlt:j<l.length
 ·have hx:=hS _ (zav l j fo0 hlt)
  have ht:=htk j hlt
  rw [← hb] at ht
  obtain ⟨o2,t2,a2,m2,e2⟩:=fo_ex (l.getD j fo0)
  have q1:(l.getD j fo0).cells=[.int .u8 o2,.str t2,.sl none a2.length (a2.flatMap Tm.cells),.sl none m2.length (m2.flatMap Fo.cells)]:=by rw [e2,zad]
  rw [q1] at hx
  generalize E (l.getD j fo0)=e at *
  cases b with
  | true =>
    (repeat' ((conv=>whnf);(first|(refine yai ?_;first|refine yaq rfl ?_|refine zal (by omega) ?_|fail)|(refine zaz _ _ Cst.h Cst.h ?_ ?_;· omega)|refine yaf (by kernel_rfl) ?_|refine zaq [] ?_|fail)));conv=>whnf
    (refine ⟨⟨(j+1,true),⟨by show j+1≤l.length;omega,by rw [ht];rfl⟩,by omega,?_,.inl ⟨rfl,rfl⟩,rfl,_,rfl,?_⟩⟩;rotate_left 1;exact .inl rfl;exact ⟨⟨_,rfl,yae _⟩,⟨_,rfl,yae _⟩,trivial⟩)
  | false =>
    (repeat' ((conv=>whnf);(first|(refine yai ?_;first|refine yat rfl ?_|refine zal (by omega) ?_|fail)|(refine zaz _ _ Cst.h Cst.h ?_ ?_;· omega)|(refine yaf ?_ ?_;· first|kernel_rfl|omega|exact yaa _ _|fail)|refine yan _ (fun _ hq X=>hx _) ?_|refine zaf fo0 j rfl hlt zba q1 ?_|refine zaq [] ?_|fail)));conv=>whnf
    (refine ⟨⟨(j+1,e),⟨by show j+1≤l.length;omega,by rw [ht];rfl⟩,by omega,?_,.inl ⟨rfl,rfl⟩,rfl,_,rfl,?_⟩⟩;rotate_left 1;exact .inl rfl;exact ⟨⟨_,rfl,yae _⟩,⟨_,rfl,yae _⟩,trivial⟩)
 ·have hbt:b=true:=by rw [hb,yby (by omega),hmem]
  subst hbt
  clear hS htk hmem
  (repeat' ((conv=>whnf);(first|(refine yai ?_;first|refine yar ?_|refine yaq rfl ?_|refine zan (by omega) ?_|fail)|refine yab _ (hgg2 _) ?_|fail)));conv=>whnf
  refine zcf Tryd.E0 zab (σ:=Nat) (fun k=>k≤gm.length) (fun k=>gm.length-k) (fun k=>[(15,.v (.int .i64 k))]) (fun _=>_) _ 0 rfl hcl [2,3,4,5,6] rfl (yah _) ⟨⟨_,rfl,yae _⟩,trivial⟩ rfl (fun _ _=>rfl) ?_
  intro k hk
  by_cases hkl:k<gm.length
  ·by_cases h0:0<left
   ·have hR:=hsub h0 k hkl
    obtain ⟨o2,t2,a2,m2,e2⟩:=fo_ex (gm.getD k fo0)
    have q1:(gm.getD k fo0).cells=[.int .u8 o2,.str t2,.sl none a2.length (a2.flatMap Tm.cells),.sl none m2.length (m2.flatMap Fo.cells)]:=by rw [e2,zad]
    rw [q1] at hR
    rcases hcs with ⟨rfl,rfl⟩|hp0
    ·have hR:=fun HX=>VDet.wk (hR HX) (show WkL [_,_,.sl (some (H.length+3)) (0+1) ([]++[.int .i64 (k:Nat)]),_,_] _ from ⟨yae _,yae _,wk_sl _ _ _,yae _,yae _,trivial⟩)
     (repeat' ((conv=>whnf);(first|(refine yai ?_;first|refine yar ?_|refine yaq rfl ?_|refine zal (by omega) ?_|fail)|(refine EqN.id ?_;first|(refine zaz _ _ Cst.h Cst.h ?_ ?_;· omega)|(refine EqN.subN _ _ Cst.h Cst.h ?_ ?_;· omega)|fail)|(refine yaf ?_ ?_;· first|kernel_rfl|omega|exact yaa _ _|fail)|refine yan _ (fun _ hq X=>hR _) ?_|refine zaf fo0 k rfl hkl zba q1 ?_|refine OrN.r (OrN.l (yaf rfl ?_))|refine OrN.l (yaf ⟨by decide,rfl,rfl,hx1,hx2⟩ ?_)|refine zaq [] ?_|fail)));conv=>whnf
     (refine ⟨⟨k+1,by omega,by omega,?_,.inl ⟨rfl,rfl⟩,rfl,_,rfl,?_⟩⟩;rotate_left 1;exact .inr ⟨by simp [za2,below,zae,tr,zas,zat,ze7,hfb],by simp [zc3,Blk.below,zae,below,zas,zat,ze7,hfb]⟩;exact ⟨⟨_,rfl,yae _⟩,trivial⟩)
    ·have hR:=fun HX=>VDet.wk (hR HX) (show WkL [_,_,.sl (some (H.length+3)) (0+pn+1) ([]++pc++[.int .i64 (k:Nat)]),_,_] _ from ⟨yae _,yae _,by rw [ybn,yc2];exact wk_sl _ _ _,yae _,yae _,trivial⟩)
     (repeat' ((conv=>whnf);(first|(refine yai ?_;first|refine yar ?_|refine yaq rfl ?_|refine zal (by omega) ?_|fail)|(refine EqN.id ?_;first|(refine zaz _ _ Cst.h Cst.h ?_ ?_;· omega)|(refine EqN.subN _ _ Cst.h Cst.h ?_ ?_;· omega)|fail)|(refine yaf ?_ ?_;· first|kernel_rfl|omega|exact yaa _ _|fail)|refine yan _ (fun _ hq X=>hR _) ?_|refine zaf fo0 k rfl hkl zba q1 ?_|refine OrN.l (yaf ⟨hp0,rfl,hpc1,hb1,hb2⟩ ?_)|refine yaf ⟨rfl,rfl,rfl,hb3,hb4⟩ ?_|refine PtrN.loc _ rfl ?_|refine zaq [] ?_|fail)));conv=>whnf
     (refine ⟨⟨k+1,by omega,by omega,?_,.inl ⟨rfl,rfl⟩,rfl,_,rfl,?_⟩⟩;rotate_left 1;exact .inr ⟨by simp [za2,below,zae,tr,zas,zat,ze7,hfb],by simp [zc3,Blk.below,zae,below,zas,zat,ze7,hfb]⟩;exact ⟨⟨_,rfl,yae _⟩,trivial⟩)
   ·obtain rfl:left=0:=by omega
    rcases hcs with ⟨rfl,rfl⟩|hp0
    ·have hR:=fun HX=>VDet.wk (h2 HX) (show WkL [_,.sl (some (H.length+4)) (0+1) ([]++[.int .i64 (gm.length:Int)])] _ from ⟨yae _,wk_sl _ _ _,trivial⟩)
     (repeat' ((conv=>whnf);(first|refine zaq [2000016,13,0,1,2,3,4,5,6,7,8,9,10,11,12,14,15,3000000] ?_|(refine yai ?_;first|refine yat rfl ?_|refine zal (by omega) ?_|fail)|refine yaf (by kernel_rfl) ?_|refine yan _ (fun _ hq X=>hR _) ?_|refine OrN.r (OrN.l (yaf rfl ?_))|refine OrN.l (yaf ⟨by decide,rfl,rfl,hx1,hx2⟩ ?_)|fail)));conv=>whnf
     exact eT trivial
    ·have hR:=fun HX=>VDet.wk (h2b HX) (show WkL [_,.sl (some (H.length+4)) (0+pn+1) ([]++pc++[.int .i64 (gm.length:Int)])] _ from ⟨yae _,wk_sl _ _ _,trivial⟩)
     (repeat' ((conv=>whnf);(first|refine zaq [2000016,13,0,1,2,3,4,5,6,7,8,9,10,11,12,14,15,3000000] ?_|(refine yai ?_;first|refine yat rfl ?_|refine zal (by omega) ?_|fail)|refine yaf (by kernel_rfl) ?_|refine yan _ (fun _ hq X=>hR _) ?_|refine OrN.l (yaf ⟨hp0,rfl,hpc1,hb1,hb2⟩ ?_)|refine yaf ⟨rfl,rfl,rfl,hb3,hb4⟩ ?_|refine PtrN.loc _ rfl ?_|fail)));conv=>whnf
     exact eT trivial
  ·rcases hcs with ⟨rfl,rfl⟩|hp0
   ·have hR:=fun HX=>VDet.wk (h2 HX) (show WkL [_,.sl (some (H.length+4)) (0+1) ([]++[.int .i64 (gm.length:Int)])] _ from ⟨yae _,wk_sl _ _ _,trivial⟩)
    (repeat' ((conv=>whnf);(first|refine zaq [2000016,13,0,1,2,3,4,5,6,7,8,9,10,11,12,14,15,3000000] ?_|refine zan (by omega) ?_|refine yaf (by kernel_rfl) ?_|refine yan _ (fun _ hq X=>hR _) ?_|refine OrN.r (OrN.l (yaf rfl ?_))|refine OrN.l (yaf ⟨by decide,rfl,rfl,hx1,hx2⟩ ?_)|fail)));conv=>whnf
    exact eT trivial
   ·have hR:=fun HX=>VDet.wk (h2b HX) (show WkL [_,.sl (some (H.length+4)) (0+pn+1) ([]++pc++[.int .i64 (gm.length:Int)])] _ from ⟨yae _,wk_sl _ _ _,trivial⟩)
    (repeat' ((conv=>whnf);(first|refine zaq [2000016,13,0,1,2,3,4,5,6,7,8,9,10,11,12,14,15,3000000] ?_|refine zan (by omega) ?_|refine yaf (by kernel_rfl) ?_|refine yan _ (fun _ hq X=>hR _) ?_|refine OrN.l (yaf ⟨hp0,rfl,hpc1,hb1,hb2⟩ ?_)|refine yaf ⟨rfl,rfl,rfl,hb3,hb4⟩ ?_|refine PtrN.loc _ rfl ?_|fail)));conv=>whnf
    exact eT trivial
theorem placed_c (f:Fo) (hf:f.good) (hff:f.fit) (l:List Fo) (hl:l.length≤1000) (hlg:Fo.goodL l) (hall:∀ x∈fpart f,x∈l):∀ (left:Nat),left≤12→∀ (g:Fo) (pl:List Int),pl.length+left≤12→findF f pl=some g→g∈fpart f→∀ H,VDet Tryd.prog 23 [.agg f.cells,.agg g.cells,.sl none pl.length (pl.flatMap encI),.sl none l.length (l.flatMap Fo.cells),.int .i64 left] H (.bool true)
 | left,hleft,g,pl,hpl,hfd,hgm,H=>by
   have hgg:=findF_good pl f g hf hfd
   have h1:=at_c f hf hff pl (by omega)
   rw [hfd] at h1
   obtain ⟨go,gs,gl,gm,rfl⟩:=fo_ex g
   have hlast:findF f (pl++[(gm.length:Int)])=none:=by
    rw [findF_app1 pl f _ _ hfd,zcu,if_neg]
    rintro ⟨-,h⟩
    change (gm.length:Int)<(gm.length:Int) at h
    omega
   have h2:=at_c f hf hff (pl++[(gm.length:Int)]) (by rw [ya3,List.length_singleton];omega)
   rw [hlast,ya3,List.length_singleton,List.flatMap_append] at h2
   have hpc:(pl.flatMap encI).length=pl.length:=by rw [flat_length (f:=encI) (sz:=1) (fun _=>rfl)];omega
   refine placed_step f l hl hlg left hleft go gs gl gm hgg pl.length (pl.flatMap encI) (by omega) hpc h1 h2 (ycq.2 ⟨_,hall _ hgm,(eqFo_iff _ _).2 rfl⟩) (fun h0 k hk H=>?_) H
   have hfk:findF f (pl++[(k:Int)])=some (gm.getD k fo0):=by
    rw [findF_app1 pl f _ _ hfd,zcu,if_pos (by show 0≤(k:Int)∧(k:Int)<(gm.length:Int);omega),zd1]
    rfl
   have hmk:gm.getD k fo0∈fpart f:=zdv f _ _ hgm (by rw [zbs];exact ya2 _ (mem_fparts gm _ _ (zav gm k fo0 hk) (fpart_self _)))
   have:=placed_c f hf hff l hl hlg hall (left-1) (by omega) (gm.getD k fo0) (pl++[(k:Int)]) (by rw [ya3,List.length_singleton];omega) hfk hmk H
   rw [ya3,List.length_singleton,List.flatMap_append] at this
   exact this
termination_by left=>left
theorem foldP_len:∀ (l ps:List Fo),(foldB stepP ps l).1.length≤ps.length+l.length
 | [],ps=>by simp [foldB]
 | x::l,ps=>by
   rw [zd0]
   have ih:=foldP_len l (stepP ps x).1
   have h:(stepP ps x).1.length≤ps.length+1:=by
    unfold stepP
    split <;> simp
   simp only [List.length_cons]
   omega
theorem nodesL_len:∀ l:List Fo,l.length≤zbu l
 | []=>yah _
 | x::l=>by
   have:=nodesL_len l
   simp only [zbu,List.length_cons]
   omega
theorem partsF_len (f:Fo) (h:¬ 1000<cntF 1000 f):(zc4 f).length≤zbb f:=by
 unfold zc4
 rw [if_neg h]
 have h1:=foldP_len (fpart f) []
 have h2:=nodesL_len (fpart f)
 unfold zbb
 simp only [List.length_nil] at h1
 omega
theorem good_allL:∀ l:List Fo,(∀ x∈l,x.good)→Fo.goodL l
 | [],_=>trivial
 | x::l,h=>⟨h x (ya9 ..),good_allL l fun y hy=>h y (ya2 _ hy)⟩
structure PF (f x:Fo) (rb sb:Bool) (Of:Nat) (Nf Df:Int) (pn:Nat) (pcs:List AV) (qn:Nat) (qcs:List AV) (R S:Bool) (O:Nat) (N D:Int) (pa pb:Nat) (pac pbc:List AV):Prop where
 c16:∀ H,VDet Tryd.prog 16 [.agg x.cells] H (.bool R)
 c17:∀ H,VDet Tryd.prog 17 [.agg x.cells] H (.bool S)
 c18:∀ H,VDet Tryd.prog 18 [.agg x.cells] H (.int .u32 O)
 c14:∀ H,VDet Tryd.prog 14 [.agg x.cells] H (.int .i64 N)
 c19:∀ H,VDet Tryd.prog 19 [.agg x.cells] H (.int .i64 D)
 c21:∀ H,VDet Tryd.prog 21 [.agg x.cells] H (.sl none pa pac)
 c22:∀ H,VDet Tryd.prog 22 [.agg x.cells] H (.sl none pb pbc)
 r:rb=true→R=true
 s:sb=true→S=true
 o:bits .andNot .u32 O Of=0
 nd:x=f∨(N<Nf∧D<Df)
 wa:∀ H,VDet Tryd.prog 20 [.sl none pa pac,.sl none pn pcs] H (.bool true)
 wb:∀ H,VDet Tryd.prog 20 [.sl none pb pbc,.sl none qn qcs] H (.bool true)
theorem nodesC (x:Fo) (hg:x.good) (hn:zbb x≤500) (H:Heap):VDet Tryd.prog 14 [.agg x.cells] H (.int .i64 (zbb x:Nat)):=by
 have h:=nodes_c x hg H
 rwa [cntF_nodes,wI_id (by omega) (by omega)] at h
theorem part_facts (f x:Fo) (hg:f.good) (hn:zbb f≤500) (hx:x∈fpart f):∃ R S O N D pa pb pac pbc,PF f x (jF 1 f 400).2 (kF 1 f 400).2 (opsM f) (zbb f:Nat) (depF f) (predY f).length ((sortY (predY f)).flatMap symC) (funY f).length ((sortY (funY f)).flatMap symC) R S O N D pa pb pac pbc:=by
 have hxg:=fpart_good f hg x hx
 have hxn:=part_nodes f x hx
 have hp1:=predY_len x
 have hp2:=predY_len f
 have hf1:=funY_len x
 have hf2:=funY_len f
 refine ⟨_,_,_,_,_,_,_,_,_,right_c x hxg,schema_c x hxg,ops_c x hxg,nodesC x hxg (by omega),depF_g x hxg,pred_c x hxg (by omega),func_c x hxg (by omega),fun h=>jF_part f 1 400 h x hx,fun h=>kF_part f 1 400 h x hx,?_,?_,fun H=>?_,fun H=>?_⟩
 ·rw [andNot32 _ _ (opsM_lt x) (opsM_lt f),ops_sub f x hx]
  rfl
 ·rcases part_dep f x (by omega) hx with h|h
  ·exact .inl h
  ·by_cases he:x=f
   ·exact .inl he
   ·have:=part_lt f x hx he
    exact .inr ⟨by omega,h⟩
 ·have:=within_c (sortY (predY x)) (sortY (predY f)) (by rw [zb3];omega) (by rw [zb3];omega) (sortY_sub _ _ (predY_nd x) (predY_nd f) (predY_sub f x hx)) H
  rwa [zb3,zb3] at this
 ·have:=within_c (sortY (funY x)) (sortY (funY f)) (by rw [zb3];omega) (by rw [zb3];omega) (sortY_sub _ _ (funY_nd x) (funY_nd f) (funY_sub f x hx)) H
  rwa [zb3,zb3] at this
theorem nd_getD {l:List Fo} (h:l.Nodup) {i k:Nat} (hk:k<i) (hi:i<l.length):l.getD i fo0≠l.getD k fo0:=by
 rw [ybi,ybi,yal hi,yal (show k<l.length by omega)]
 intro e
 have e:l[i]'hi=l[k]'(by omega):=e
 have:=(List.getElem_inj (h₀:=hi) (h₁:=by omega) h).1 e
 omega
theorem fo_exy (x:Fo):∃ o s ln lc mn mc,x.cells=[.int .u8 (o:Nat),.str s,.sl none ln lc,.sl none mn mc]:=by
 obtain ⟨o,s,l,m,rfl⟩:=fo_ex x
 rw [zad]
 exact ⟨_,_,_,_,_,_,rfl⟩
theorem formParts_c (f:Fo) (hg:f.good) (hf:f.fit) (hb:f.blk≤1048576) (H:Heap):VDet Tryd.prog 5 [.agg f.cells] H (.bool true):=by
 have haw:=awake_c
 have hsm:=fun H=>(small_c [f] (by show 1≤_;omega) ⟨hg,trivial⟩ H)
 simp only [ya4,ybb,yas,List.length_cons,List.length_nil] at hsm
 cases hsb:smallB [f] with
 | false =>
   rw [hsb] at hsm
   obtain ⟨fo,fs,fl,flc,fm,fmc,ef⟩:=fo_exy f
   rw [ef] at hsm ⊢
   have hsm:∀ H,VDet Tryd.prog 7 [.sx 1 [.int .u8 fo,.str fs,.sl none fl flc,.sl none fm fmc]] H (.bool false):=fun H=>(hsm H).wk (by (repeat' (first|exact trivial|refine ybu ?_ ?_|exact wk_sx _ _|fail));done)
   refine zai Tryd.E0 zab Tryd.func5 (by kernel_rfl) rfl (ybq rfl) rfl fun hcl hbl=>?_
   (repeat' ((conv=>whnf);(first|(refine yai ?_;first|refine yar ?_|refine yaq rfl ?_|refine yat rfl ?_|fail)|(refine ybf ?_;first|refine yab _ (haw _) ?_|refine yab _ (hsm _) ?_|fail)|fail)));conv=>whnf
   exact eT trivial
 | true =>
   rw [hsb] at hsm
   have hn:=small_nodes f hb hsb
   have hc:=cnt_small f (by omega)
   have hp:¬ 1000<cntF 1000 f:=by rw [hc];omega
   have hP:=parts_ok f hp
   have hlen:=partsF_len f hp
   have h15:=parts_c f hg hf
   rw [if_neg hp] at h15
   have hF:=fun x hx=>part_facts f x hg hn ((hP.mem x).1 hx)
   have hp2:=predY_len f
   have hf2:=funY_len f
   have e16:=right_c f hg
   have e17:=schema_c f hg
   have e18:=ops_c f hg
   have e14:=nodesC f hg hn
   have e19:∀ H,VDet Tryd.prog 19 [.agg f.cells] H (.int .i64 (depF f)):=depF_g f hg
   have e21:=pred_c f hg (by omega)
   have e22:=func_c f hg (by omega)
   have hgood:∀ x∈zc4 f,x.good:=fun x hx=>fpart_good f hg x ((hP.mem x).1 hx)
   have hpl:=placed_c f hg hf (zc4 f) (by omega) (good_allL _ hgood) (fun x hx=>(hP.mem x).2 hx) 12 (by omega) f [] (by simp) (zd1 f) (fpart_self f)
   have hsame:∀ x∈zc4 f,∀ y∈zc4 f,x≠y→∀ H,VDet Tryd.prog 9 [.agg x.cells,.agg y.cells] H (.bool false):=fun x hx y hy hne=>by
    have h:=samF_g x (hgood x hx) y (hgood y hy)
    rwa [show eqFo x y=false from by
     cases h:eqFo x y with
     | false=>rfl
     | true=>exact absurd ((eqFo_iff x y).1 h) hne] at h
   have hself:∀ H,VDet Tryd.prog 9 [.agg f.cells,.agg f.cells] H (.bool true):=by
    have h:=samF_g f hg f hg
    rwa [show eqFo f f=true from (eqFo_iff f f).2 rfl] at h
   have rs:=right_schema f
   obtain ⟨r0,hr0⟩:=hP.head
   have hnd:=hP.nd
   have hlen:(zc4 f).length≤500:=by omega
   clear hP hp hc hgood hb hsb hn hp2 hf2
   generalize zc4 f=l at *
   generalize (jF 1 f 400).2=rb at *
   generalize (kF 1 f 400).2=sb at *
   generalize opsM f=Of at *
   generalize ((zbb f:Nat):Int)=Nf at *
   generalize depF f=Df at *
   generalize (predY f).length=pn at *
   generalize (sortY (predY f)).flatMap symC=pcs at *
   generalize (funY f).length=qn at *
   generalize (sortY (funY f)).flatMap symC=qcs at *
   have hl0:0<l.length:=by rw [hr0];simp
   have hg0:l.getD 0 fo0=f:=by rw [hr0];rfl
   obtain ⟨fo,fs,fl,flc,fm,fmc,ef⟩:=fo_exy f
   have q0:(l.getD 0 fo0).cells=[.int .u8 fo,.str fs,.sl none fl flc,.sl none fm fmc]:=by rw [hg0,ef]
   rw [ef] at hsm h15 e16 e17 e18 e14 e19 e21 e22 hpl hself ⊢
   have hsm:∀ H,VDet Tryd.prog 7 [.sx 1 [.int .u8 fo,.str fs,.sl none fl flc,.sl none fm fmc]] H (.bool true):=fun H=>(hsm H).wk (by (repeat' (first|exact trivial|refine ybu ?_ ?_|exact wk_sx _ _|fail));done)
   have hpl:∀ H,VDet Tryd.prog 23 [.agg [.int .u8 fo,.str fs,.sl none fl flc,.sl none fm fmc],.agg [.int .u8 fo,.str fs,.sl none fl flc,.sl none fm fmc],.nils,.sl none l.length (l.flatMap Fo.cells),.int .i64 12] H (.bool true):=fun H=>(hpl H).wk (by (repeat' (first|exact trivial|refine ybu ?_ ?_|exact yae _|exact zcd|fail));done)
   clear hr0
   cases rb <;> cases sb
   all_goals first
    | (exact absurd (rs rfl) (by decide))
    | skip
   all_goals
    refine zai Tryd.E0 zab Tryd.func5 (by kernel_rfl) rfl (ybq rfl) rfl fun hcl hbl=>?_
    (repeat' ((conv=>whnf);(first|(refine yai ?_;first|refine yar ?_|refine yaq rfl ?_|refine yat rfl ?_|refine zan (by omega) ?_|fail)|(refine yaf ?_ ?_;· first|kernel_rfl|omega|exact yaa _ _|fail)|(refine ybf ?_;first|refine yab _ (haw _) ?_|refine yab _ (hsm _) ?_|refine yab _ (h15 _) ?_|fail)|(refine CallD.id ?_;first|refine yan _ (fun _ hq X=>hself _) ?_|refine yan _ (fun _ hq X=>e16 _) ?_|refine yan _ (fun _ hq X=>e17 _) ?_|fail)|refine zaf fo0 0 rfl hl0 zba q0 ?_|refine zaq [] ?_|fail)));all_goals (conv=>whnf)
    refine zcf Tryd.E0 zab (σ:=Nat) (fun i=>i≤l.length) (fun i=>l.length-i) (fun i=>[(6,.v (.int .i64 i))]) (fun _=>_) _ 0 rfl hcl [1,3,4,5] rfl (yah _) ⟨⟨_,rfl,yae _⟩,trivial⟩ rfl (fun _ _=>rfl) ?_
    intro i hi
    clear hbl
    by_cases hlt:i<l.length
    ·obtain ⟨R,S,O,N,D,pa,pb,pac,pbc,F⟩:=hF _ (zav l i fo0 hlt)
     have c16:=F.c16
     have c17:=F.c17
     have c18:=F.c18
     have c14:=F.c14
     have c19:=F.c19
     have c21:=F.c21
     have c22:=F.c22
     have ho:=F.o
     have wa:=F.wa
     have wb:=F.wb
     have hcs:i=0∨(0<i∧N<Nf∧D<Df):=by
      rcases ycr i with h|h
      ·exact .inl h
      ·rcases F.nd with h2|h2
       ·exact absurd (h2.trans hg0.symm) (nd_getD hnd h hlt)
       ·exact .inr ⟨h,h2⟩
     have hrr:=F.r
     have hss:=F.s
     obtain ⟨xo,xs,xl,xlc,xm,xmc,q1⟩:=fo_exy (l.getD i fo0)
     rw [q1] at c16 c17 c18 c14 c19 c21 c22
     have hsk:∀ k,k<i→∀ H,VDet Tryd.prog 9 [.agg [.int .u8 xo,.str xs,.sl none xl xlc,.sl none xm xmc],.agg (l.getD k fo0).cells] H (.bool false):=fun k hk H=>by
      have h:=hsame _ (zav l i fo0 hlt) _ (zav l k fo0 (by omega)) (nd_getD hnd hk hlt) H
      rwa [q1] at h
     clear F
     first
      | (obtain rfl:=hrr rfl)
      | skip
     first
      | (obtain rfl:=hss rfl)
      | skip
     rcases hcs with hi0|⟨hi0,hN,hD⟩
     all_goals
      (repeat' ((conv=>whnf);(first|(refine yai ?_;first|refine yar ?_|refine yaq rfl ?_|refine yat rfl ?_|refine zal (by omega) ?_|refine zan (by omega) ?_|fail)|refine EqN.mk 0 ho ?_|(refine yaf ?_ ?_;· first|kernel_rfl|omega|exact yaa _ _|fail)|(refine CallD.id ?_;first|refine yan _ (fun _ hq X=>c16 _) ?_|refine yan _ (fun _ hq X=>c17 _) ?_|refine yan _ (fun _ hq X=>c18 _) ?_|refine yan _ (fun _ hq X=>e18 _) ?_|refine yan _ (fun _ hq X=>c14 _) ?_|refine yan _ (fun _ hq X=>e14 _) ?_|refine yan _ (fun _ hq X=>c19 _) ?_|refine yan _ (fun _ hq X=>e19 _) ?_|refine yan _ (fun _ hq X=>c21 _) ?_|refine yan _ (fun _ hq X=>e21 _) ?_|refine yan _ (fun _ hq X=>c22 _) ?_|refine yan _ (fun _ hq X=>e22 _) ?_|refine yan _ (fun _ hq X=>wa _) ?_|refine yan _ (fun _ hq X=>wb _) ?_|fail)|refine zaf fo0 _ rfl hlt zba q1 ?_|refine zaq [] ?_|fail)));all_goals (conv=>whnf)
      refine zcf Tryd.E0 zab (σ:=Nat) (fun k=>k≤i) (fun k=>i-k) (fun k=>[(7,.v (.int .i64 k))]) (fun _=>_) _ 0 rfl hcl [1,3,4,5,6] rfl (yah _) ⟨⟨_,rfl,yae _⟩,trivial⟩ rfl (fun _ _=>rfl) ?_
      intro k hk
      by_cases hlk:k<i
      ·have hS:=hsk k hlk
       have hlk2:k<l.length:=by omega
       obtain ⟨yo,ys,yl,ylc,ym,ymc,q2⟩:=fo_exy (l.getD k fo0)
       rw [q2] at hS
       (repeat' ((conv=>whnf);(first|(refine yai ?_;first|refine yat rfl ?_|refine zal (by omega) ?_|fail)|(refine zaz _ _ Cst.h Cst.h ?_ ?_;· omega)|(refine yaf ?_ ?_;· first|kernel_rfl|omega|exact yaa _ _|fail)|refine yan _ (fun _ hq X=>hS _) ?_|refine zaf fo0 i rfl hlt zba q1 ?_|refine zaf fo0 k rfl hlk2 zba q2 ?_|refine zaq [] ?_|fail)));all_goals (conv=>whnf)
       (refine ⟨⟨k+1,by omega,by omega,?_,.inl ⟨rfl,rfl⟩,rfl,_,rfl,?_⟩⟩;rotate_left 1;exact .inl rfl;exact ⟨⟨_,rfl,yae _⟩,trivial⟩)
      ·(repeat' ((conv=>whnf);(first|refine zan (by omega) ?_|(refine zaz _ _ Cst.h Cst.h ?_ ?_;· omega)|fail)));all_goals (conv=>whnf)
       (refine ⟨⟨i+1,by omega,by omega,?_,.inr ?_,rfl,_,rfl,?_⟩⟩;rotate_left 2;exact .inl rfl;all_goals (repeat' (first|exact trivial|refine ⟨⟨_,rfl,?_⟩,?_⟩|fail));all_goals exact yae _)
    ·(repeat' ((conv=>whnf);(first|refine zan (by omega) ?_|refine yab _ (hpl _) ?_|fail)));all_goals (conv=>whnf)
     exact eT trivial
end
theorem tm_blk1 (x:Tm):1≤x.blk:=by
 cases x with
 | mk v s l=>rw [ze1];omega
theorem fo_blk1 (x:Fo):1≤x.blk:=by
 cases x with
 | mk o s l m=>rw [zgl];omega
theorem tm_lenL:∀ l:List Tm,l.length≤Tm.blkL l
 | []=>yah _
 | x::l=>by
   have h1:=tm_lenL l
   have h2:=tm_blk1 x
   rw [zdm,List.length_cons]
   omega
theorem fo_lenL:∀ l:List Fo,l.length≤Fo.blkL l
 | []=>yah _
 | x::l=>by
   have h1:=fo_lenL l
   have h2:=fo_blk1 x
   rw [zdn,List.length_cons]
   omega
mutual
theorem tm_fit_blk:∀ x:Tm,x.blk≤1048576→x.fit
 | .mk v s l,h=>by
   rw [ze1] at h
   have h1:=tm_lenL l
   exact ⟨ybd (show s.size≤1048576 by omega) (by decide),ybd (show l.length * 48≤1048576 * 48 by omega) (by decide),zfl l (by omega)⟩
theorem zfl:∀ l:List Tm,Tm.blkL l≤1048576→Tm.fitL l
 | [],_=>trivial
 | x::l,h=>by
   rw [zdm] at h
   exact ⟨tm_fit_blk x (by omega),zfl l (by omega)⟩
end
mutual
theorem fo_fit_blk:∀ x:Fo,x.blk≤1048576→x.fit
 | .mk o s l m,h=>by
   rw [zgl] at h
   have h1:=tm_lenL l
   have h2:=fo_lenL m
   exact ⟨ybd (show s.size≤1048576 by omega) (by decide),ybd (show l.length * 48≤1048576 * 48 by omega) (by decide),zfl l (by omega),ybd (show m.length * 72≤1048576 * 72 by omega) (by decide),fos_fit_blk m (by omega)⟩
theorem fos_fit_blk:∀ l:List Fo,Fo.blkL l≤1048576→Fo.fitL l
 | [],_=>trivial
 | x::l,h=>by
   rw [zdn] at h
   exact ⟨fo_fit_blk x (by omega),fos_fit_blk l (by omega)⟩
end
theorem formParts_up (f:Fo) (hg:f.good) (hb:f.blk≤1048576) (H:Heap):VDet Tryd.prog 5 [.agg f.cells] H (.bool true):=formParts_c f hg (fo_fit_blk f hb) hb H
end Go.Proofs.YtejegcmnddedmaaDoor
namespace Go.Proofs.YtejegcmnddedmaaDoor
section
open Go.ChangeShapes Go.WideShapes Go.ChangeAt Go.RowKit Go.Vsi
theorem mrel_of {g:G} {W:World} {b:Nat} (hg:∀ b o,¬ g.own b o):∀ (l:List AV) (cs:List Value) (o:Nat),LRel g W l cs→(∀ (i:Nat) c,cs[i]? = some c→W.cell? ⟨b,o+i,.none⟩=some c)→MRel g W l b o
 | [],_,_,_,_=>trivial
 | v::l,cs,o,h,hc=>by
   simp only [LRel] at h
   obtain ⟨c,r,rfl,h1,h2⟩:=h
   refine ⟨⟨c,by simpa using hc 0 c rfl,h1,hg _ _⟩,?_⟩
   exact mrel_of hg l r (o+1) h2 fun i c' hi=>by
    have:=hc (i+1) c' (by simpa using hi)
    rwa [show o+(i+1)=o+1+i by omega] at this
theorem mone {W:World} {n:String} {gi:Nat} {ty:TypeId} {T:Ty} {D:DataW Unit} {cells:List AV} {g0:Nat} {t0:TypeId} {cs0:Array Value} {f0:Nat} {p0:List MemPlace}
  (hg:Tryd.prog.globalNamed n=some gi) (ht:(Tryd.prog.globals[gi]?).map (·.type)=some ty) (hty:TyOk Tryd.prog ty T) (hpl:PlTy T) (hD:∃ l',DatOf (H:=Unit) D l'∧l'=cells)
  (hg0:Tryd.prog.globalNamed n=some g0) (ht0:(Tryd.prog.globals[g0]?).map (·.type)=some t0) (hv0:W.var? Tryd.prog n=some cs0) (hd0:DataW.trod (fun _=>()) Tryd.prog W 0 (fun _=>true) false f0 t0 cs0.toList=some (D,p0)):MRel G.none W cells gi 0:=by
 obtain rfl:=Option.some.inj (hg.symm.trans hg0)
 obtain rfl:=Option.some.inj (ht.symm.trans ht0)
 obtain ⟨l,h1,h2⟩:=trod_dat (g:=G.none) _ hpl hty hd0
 obtain ⟨l',hl1,hl2⟩:=hD
 have hll:l=cells:=(DatOf.det h1 hl1).trans hl2
 rw [← hll]
 refine mrel_of (fun _ _ h=>h) l cs0.toList 0 h2 fun i c hi=>?_
 have:=World.var?_cell hg0 hv0 i
 rw [ybn,this]
 simpa using hi
theorem gl_of_laid {W:World} (h:laidMetH Tryd.prog [("lyceum/syntax.rows",Rows.laid_lyceum_syntax_rows)] W):∀ p∈Glob.gl,MRel G.none W p.2 p.1 0:=by
 rw [MakeChecks.laidMetH_plain _ _ _ (by kernel_rfl)] at h
 obtain ⟨ps,⟨g0,t0,cs0,f0,p0,q0,hg0,ht0,hv0,hd0,_⟩,_⟩:=h
 have m0:MRel G.none W (Tryd.gl[0]).2 0 0:=mone (T:=repTy 17 (.pair .bool (.pair .bool (.pair (.int .u8) (.pair (.int .i64) (.pair (.int .i64) .unit)))))) (ty:=94) (by kernel_rfl) (by kernel_rfl) (tyOf_ok Tryd.T_ok 12 94 _ (by kernel_rfl)) (by simp [repTy,PlTy]) ⟨_,by unfold Rows.laid_lyceum_syntax_rows;repeat constructor,by kernel_rfl⟩ hg0 ht0 hv0 hd0
 intro p hp
 have hp0:p=Tryd.gl[0]:=by
  have:p∈Tryd.gl:=hp
  simpa [Tryd.gl] using this
 subst hp0
 ·exact m0
end
end Go.Proofs.YtejegcmnddedmaaDoor
