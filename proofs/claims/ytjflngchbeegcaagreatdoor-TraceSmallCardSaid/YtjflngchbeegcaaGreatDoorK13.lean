/- A text of the proof: the parts TT13c, SU13c, RV13c, ZA13c, AW13c, ZB13c, ZC13c, TW13c, TX13c, YS13c. -/
import Derived.Test.YtjflngchbeegcaaGreatDoorK12
set_option linter.unusedSimpArgs false
set_option linter.unusedVariables false
set_option maxHeartbeats 8000000
namespace Go.Proofs.YtjflngchbeegcaaGreatDoor.P10.C
open Go.Vsi
section
attribute [local irreducible] VW VCall VO bits
def row (n:Nat) (f:Nat→Bool):List AV:=(List.range n).map fun q=>.bool (f q)
theorem zcn (k n:Nat) (f:Nat→Bool):zaa k (row n f):=by
 unfold row
 induction List.range n with
 | nil=>trivial
 | cons x l ih=>exact ⟨trivial,ih⟩
theorem row_len (n:Nat) (f:Nat→Bool):(row n f).length=n:=by simp [row]
theorem zf7 {n:Nat} {f g:Nat→Bool} (h:∀ q,q<n→f q=g q):row n f=row n g :=
 List.map_congr_left fun q hq=>by rw [h q (ybs.1 hq)]
theorem zs5 (v:AV):∀ (l:List AV) (o:Nat),o<l.length→setC l o [v]=some (l.set o v)
 | [],o,h=>absurd h (by simp)
 | x::l,0,_=>by simp [setC,replC]
 | x::l,o+1,h=>by
   simp only [setC,zs5 v l o (by simpa using h),List.set_cons_succ]
theorem row_set (n p:Nat) (f:Nat→Bool) (x:Bool) (hp:p<n):setC (row n f) p [.bool x]=some (row n fun q=>if q=p then x else f q):=by
 rw [zs5 _ _ _ (by rw [row_len];exact hp)]
 congr 1
 unfold row
 apply ybr
 intro j
 rw [yaw]
 by_cases hj:j<n
 ·rw [ya7,ya7,ydc hj]
  by_cases e:p=j
  ·subst e
   simp [hp]
  ·simp [e,ycu e]
 ·rw [if_neg (by omega)]
  rw [ycl (by simpa using hj),ycl (by simpa using hj)]
theorem row_drop (n p:Nat) (f:Nat→Bool) (hp:p<n):∃ r,dropC p (row n f)=some (.bool (f p)::r):=by
 have h:∀ (l:List AV) (o:Nat) (v:AV),l[o]? = some v→∃ r,dropC o l=some (v::r):=by
  intro l
  induction l with
  | nil=>intro o v h;simp at h
  | cons x l ih =>
    intro o v h
    cases o with
    | zero=>simp at h;exact ⟨l,by simp [dropC,h]⟩
    | succ o =>
      obtain ⟨r,hr⟩:=ih o v (by simpa using h)
      exact ⟨r,by simpa [dropC] using hr⟩
 exact h _ _ _ (by simp [row,hp])
theorem zta (v:AV):∀ n,repC n [v]=List.replicate n v
 | 0=>rfl
 | n+1=>by
   simp only [repC,zta v n,List.replicate_succ]
   rfl
theorem zex (n:Nat):repC n [.bool false]=row n fun _=>false:=by
 rw [zta]
 unfold row
 apply ybr
 intro j
 by_cases hj:j<n
 ·rw [List.getElem?_replicate,if_pos hj,ya7,ydc hj]
  rfl
 ·rw [ycl (by simpa using hj),ycl (by simpa using hj)]
theorem zgy {n:Nat} {f:Nat→Bool} {i:Int} {k:List AV→Prop} (m:Nat) (hi:i=m) (hm:m<n) (h:k [.bool (f m)]):SegN (row n f) (i.toNat * 1) k:=by
 refine SegN.nthE (f:=fun b:Bool=>[AV.bool b]) (l:=(List.range n).map f) (sz:=1) (c:=[.bool (f m)]) false m hi (by simpa using hm) (fun _=>rfl) (by simp [List.getD,hm]) h |> fun h=>?_
 have e:((List.range n).map f).flatMap (fun b:Bool=>[AV.bool b])=row n f:=by
  unfold row
  rw [List.flatMap_map]
  induction List.range n with
  | nil=>rfl
  | cons x l ih=>rw [ya6,yb1,ih];rfl
 rwa [e] at h
def stg (F:Nat→Bool) (p q:Nat):Bool:=decide (q<p)&&F q
def stx (F:Nat→Bool) (p:Nat) (x:Bool) (q:Nat):Bool:=if q=p then x else stg F p q
theorem stg_0 (n:Nat) (F:Nat→Bool):(row n fun _=>false)=row n (stg F 0):=zf7 fun q _=>by simp [stg]
theorem stg_n (n:Nat) (F:Nat→Bool):row n (stg F n)=row n F:=zf7 fun q hq=>by simp [stg,hq]
theorem stx_f (n p:Nat) (F:Nat→Bool):row n (stg F p)=row n (stx F p false):=zf7 fun q _=>by
 unfold stx stg
 by_cases h:q=p
 ·subst h;simp
 ·rw [if_neg h]
theorem stx_t (n p:Nat) (F:Nat→Bool):row n (stx F p (F p))=row n (stg F (p+1)):=zf7 fun q _=>by
 unfold stx stg
 by_cases h:q=p
 ·subst h;simp
 ·rw [if_neg h]
  congr 1
  rw [decide_eq_decide]
  omega
theorem stx_x (n p:Nat) (F:Nat→Bool) (x y:Bool):(row n fun q=>if q=p then y else stx F p x q)=row n (stx F p y):=zf7 fun q _=>by
 unfold stx
 by_cases h:q=p
 ·rw [if_pos h,if_pos h]
 ·rw [if_neg h,if_neg h,if_neg h]
theorem zqt (n p:Nat) (F:Nat→Bool) (x y:Bool) (hp:p<n):setC (row n (stx F p x)) p [.bool y]=some (row n (stx F p y)):=by
 rw [row_set n p _ y hp,stx_x]
theorem zfm (n p:Nat) (F:Nat→Bool) (y:Bool) (hp:p<n) (hy:y=F p):setC (row n (stg F p)) p [.bool y]=some (row n (stg F (p+1))):=by
 rw [stx_f,zqt n p F false y hp,hy,stx_t]
theorem zvp {loc:Heap} {u:TypeId} {l r:List AV} {j o:Nat} {b:Bool} (hj:lget loc j=some (.box u l)) (hd:dropC o l=some (.bool b::r)):loadS Tryz.T 4 loc (some (.lp j o))=.mem (.v (.bool b)):=by
 simp only [loadS,hj,hd]
 rfl
def TrP (t:Tr) (f:Tf):Prop:=∀ H,VDet Tryz.prog 106 [.agg t.cells,.agg f.cells] H (.sl none t.n (row t.n (evT t f).testBit))
theorem tr_f1_3 (t:Tr) (ht:t.Ok) (a:Tf) (iha:TrP t a) (H:Heap):VDet Tryz.prog 106 [.agg t.cells,.agg (Tf.f1 3 a).cells] H (.sl none t.n (row t.n (nt (every t.n) (evT t a)).testBit)):=by
 unfold TrP at iha
 have hF:∀ p,p<t.n→(nt (every t.n) (evT t a)).testBit p=(!(evT t a).testBit p):=fun p hp=>by rw [zx6,zh3,decide_eq_true hp];rfl
 rw [show (Tf.f1 3 a).cells=[.int .u8 (3:Nat),.str .empty,.sl none 0 [],.sl none 1 [.int .u8 a.op,.str a.nmB,.sl none 0 [],.sl none a.sn a.sc]] from rfl]
 unfold Tf.cells at iha
 generalize a.op=ao at iha ⊢
 generalize a.nmB=an at iha ⊢
 generalize a.sn=asn at iha ⊢
 generalize a.sc=asc at iha ⊢
 generalize (nt (every t.n) (evT t a)).testBit=F at hF ⊢
 generalize (evT t a).testBit=A at iha hF
 obtain ⟨n,lp,fs⟩:=t
 have h1:=ht.n1
 have h2:=ht.n5
 have h3:=ht.lp
 unfold Tr.cells at *
 simp only at h1 h2 h3 hF iha ⊢
 refine fdD Tryz.func106 ⟨rfl,rfl,rfl⟩ fun hcl hbl=>?_
 (repeat' ((conv=>whnf);(first|(refine OrN.l ?_;refine yc7 n rfl ?_;refine yaf ⟨rfl,by omega,by dsimp only;omega⟩ ?_;refine OrN.r ?_)|(refine yai ?_;first|refine yaq rfl ?_|refine yau rfl ?_|fail)|(refine yaf ?_ ?_;· first|kernel_rfl|omega|exact yaa _ _|fail)|refine yan _ (fun _ hq X=>iha _) ?_|refine ydf _ (zb3 rfl) ?_|refine zad [] ?_|fail)));conv=>whnf
 refine zam Tryz.E0 zaf (σ:=Nat) (fun p=>p≤n) (fun p=>n-p) (fun p=>[(8,.v (.int .i64 p))]) (fun p=>[.box 27 [.int .u8 5,.int .i64 n,.sl none 0 [],.int .i64 lp,.sl none fs.length (fs.flatMap encT),.sl none 0 [],.sl none 0 []],.box 50 [.int .u8 (3:Nat),.str .empty,.sl none 0 [],.sl none 1 [.int .u8 ao,.str an,.sl none 0 [],.sl none asn asc]],.box 4 (row n (stg F p))]) _ 0 rfl hcl [2,3,5,6,7] rfl (yah _) ⟨⟨_,rfl,yae _⟩,trivial⟩ (by rw [zex,stg_0 n F]) (fun _ _=>rfl) ?_
 intro p hp
 clear hbl
 rcases yag p n with hlt|hge
 ·have hFp:=hF p hlt
  (repeat' ((conv=>whnf);(first|(refine yai ?_;first|refine yaq rfl ?_|refine yau rfl ?_|refine yar (by omega) ?_|fail)|(refine yaf ?_ ?_;· first|omega|exact yaa _ _|fail)|refine zgy p rfl hlt ?_|refine OfsN.mk p (by omega) hlt ?_|refine yca _ rfl ?_|fail)));conv=>whnf
  have hstore:∀ X,X=F p→zeh Tryz.T 4 [.box 27 [.int .u8 5,.int .i64 n,.sl none 0 [],.int .i64 lp,.sl none fs.length (fs.flatMap encT),.sl none 0 [],.sl none 0 []],.box 50 [.int .u8 (3:Nat),.str .empty,.sl none 0 [],.sl none 1 [.int .u8 ao,.str an,.sl none 0 [],.sl none asn asc]],.box 4 (row n (stg F p))] (some (.lp 2 (0+p * 1))) (some (.bool X))=.upd 2 (.box 4 (row n (stg F (p+1)))) none:=fun X hX=>zcq rfl rfl rfl rfl (by rw [ybv,Nat.mul_one];exact zfm n p F X hlt hX)
  refine Eq.mpr (congrArg (@SR.rec (fun _=>Prop) _ _ _ _ _ _ _ _ _ _ _ _ _ _ _ _ _ _ _ _ _) (hstore _ hFp.symm)) ?_
  (repeat' ((conv=>whnf);(first|(refine zac _ _ Cst.h Cst.h ?_ ?_;· omega)|fail)));conv=>whnf
  (refine ⟨⟨p+1,by show p+1≤_;omega,by omega,?_,.inl ⟨rfl,rfl⟩,rfl,_,rfl,?_⟩⟩;rotate_left 1;exact .inl rfl;exact ⟨⟨_,rfl,yae _⟩,trivial⟩)
 ·obtain rfl:p=n:=by omega
  rw [stg_n]
  (repeat' ((conv=>whnf);(first|refine zah (by omega) ?_|fail)));conv=>whnf
  exact ydi (u':=.sl none p (row p F)) (by simp [below,zaa,zcn]) (Frz.ms rfl rfl (ydh _)) (yae _)
theorem tr_f2_4 (t:Tr) (ht:t.Ok) (a b:Tf) (iha:TrP t a) (ihb:TrP t b) (H:Heap):VDet Tryz.prog 106 [.agg t.cells,.agg (Tf.f2 4 a b).cells] H (.sl none t.n (row t.n (evT t a &&& evT t b).testBit)):=by
 unfold TrP at iha ihb
 have hF:∀ p,p<t.n→(evT t a &&& evT t b).testBit p=((evT t a).testBit p&&(evT t b).testBit p):=fun p hp=>Nat.testBit_and ..
 rw [show (Tf.f2 4 a b).cells=[.int .u8 (4:Nat),.str .empty,.sl none 0 [],.sl none 2 [.int .u8 a.op,.str a.nmB,.sl none 0 [],.sl none a.sn a.sc,.int .u8 b.op,.str b.nmB,.sl none 0 [],.sl none b.sn b.sc]] from rfl]
 unfold Tf.cells at iha ihb
 generalize a.op=ao at iha ⊢
 generalize a.nmB=an at iha ⊢
 generalize a.sn=asn at iha ⊢
 generalize a.sc=asc at iha ⊢
 generalize b.op=bo at ihb ⊢
 generalize b.nmB=bn at ihb ⊢
 generalize b.sn=bsn at ihb ⊢
 generalize b.sc=bsc at ihb ⊢
 generalize (evT t a &&& evT t b).testBit=F at hF ⊢
 generalize (evT t a).testBit=A at iha hF
 generalize (evT t b).testBit=B at ihb hF
 obtain ⟨n,lp,fs⟩:=t
 have h1:=ht.n1
 have h2:=ht.n5
 have h3:=ht.lp
 unfold Tr.cells at *
 simp only at h1 h2 h3 hF iha ihb ⊢
 refine fdD Tryz.func106 ⟨rfl,rfl,rfl⟩ fun hcl hbl=>?_
 (repeat' ((conv=>whnf);(first|(refine OrN.l ?_;refine yc7 n rfl ?_;refine yaf ⟨rfl,by omega,by dsimp only;omega⟩ ?_;refine OrN.r ?_)|refine yaq rfl ?_|(refine yaf ?_ ?_;· first|kernel_rfl|omega|exact yaa _ _|fail)|(refine ycg ?_;first|refine yan _ (fun _ hq X=>iha _) ?_|refine yan _ (fun _ hq X=>ihb _) ?_|fail)|refine ydf _ (zb3 rfl) ?_|refine zad [] ?_|fail)));conv=>whnf
 refine zam Tryz.E0 zaf (σ:=Nat) (fun p=>p≤n) (fun p=>n-p) (fun p=>[(8,.v (.int .i64 p))]) (fun p=>[.box 27 [.int .u8 5,.int .i64 n,.sl none 0 [],.int .i64 lp,.sl none fs.length (fs.flatMap encT),.sl none 0 [],.sl none 0 []],.box 50 [.int .u8 (4:Nat),.str .empty,.sl none 0 [],.sl none 2 [.int .u8 ao,.str an,.sl none 0 [],.sl none asn asc,.int .u8 bo,.str bn,.sl none 0 [],.sl none bsn bsc]],.box 4 (row n (stg F p))]) _ 0 rfl hcl [2,3,5,6,7] rfl (yah _) ⟨⟨_,rfl,yae _⟩,trivial⟩ (by rw [zex,stg_0 n F]) (fun _ _=>rfl) ?_
 intro p hp
 clear hbl
 rcases yag p n with hlt|hge
 ·have hFp:=hF p hlt
  (repeat' ((conv=>whnf);(first|(refine yai ?_;first|refine yaq rfl ?_|refine yau rfl ?_|refine yar (by omega) ?_|(refine IfN.mk ?_ ?_ <;> intro _)|fail)|(refine yaf ?_ ?_;· first|omega|exact yaa _ _|fail)|refine zgy p rfl hlt ?_|refine OfsN.mk p (by omega) hlt ?_|refine yca _ rfl ?_|fail)));all_goals (conv=>whnf)
  all_goals
   rename_i hA
   have hstore:∀ X,X=F p→zeh Tryz.T 4 [.box 27 [.int .u8 5,.int .i64 n,.sl none 0 [],.int .i64 lp,.sl none fs.length (fs.flatMap encT),.sl none 0 [],.sl none 0 []],.box 50 [.int .u8 (4:Nat),.str .empty,.sl none 0 [],.sl none 2 [.int .u8 ao,.str an,.sl none 0 [],.sl none asn asc,.int .u8 bo,.str bn,.sl none 0 [],.sl none bsn bsc]],.box 4 (row n (stg F p))] (some (.lp 2 (0+p * 1))) (some (.bool X))=.upd 2 (.box 4 (row n (stg F (p+1)))) none:=fun X hX=>zcq rfl rfl rfl rfl (by rw [ybv,Nat.mul_one];exact zfm n p F X hlt hX)
   refine Eq.mpr (congrArg (@SR.rec (fun _=>Prop) _ _ _ _ _ _ _ _ _ _ _ _ _ _ _ _ _ _ _ _ _) (hstore _ (by rw [hFp,hA];rfl))) ?_
   (repeat' ((conv=>whnf);(first|(refine zac _ _ Cst.h Cst.h ?_ ?_;· omega)|fail)));all_goals (conv=>whnf)
   (refine ⟨⟨p+1,by show p+1≤_;omega,by omega,?_,.inl ⟨rfl,rfl⟩,rfl,_,rfl,?_⟩⟩;rotate_left 1;exact .inl rfl;exact ⟨⟨_,rfl,yae _⟩,trivial⟩)
 ·obtain rfl:p=n:=by omega
  rw [stg_n]
  (repeat' ((conv=>whnf);(first|refine zah (by omega) ?_|fail)));conv=>whnf
  exact ydi (u':=.sl none p (row p F)) (by simp [below,zaa,zcn]) (Frz.ms rfl rfl (ydh _)) (yae _)
theorem tr_f2_5 (t:Tr) (ht:t.Ok) (a b:Tf) (iha:TrP t a) (ihb:TrP t b) (H:Heap):VDet Tryz.prog 106 [.agg t.cells,.agg (Tf.f2 5 a b).cells] H (.sl none t.n (row t.n (evT t a ||| evT t b).testBit)):=by
 unfold TrP at iha ihb
 have hF:∀ p,p<t.n→(evT t a ||| evT t b).testBit p=((evT t a).testBit p || (evT t b).testBit p):=fun p hp=>Nat.testBit_or ..
 rw [show (Tf.f2 5 a b).cells=[.int .u8 (5:Nat),.str .empty,.sl none 0 [],.sl none 2 [.int .u8 a.op,.str a.nmB,.sl none 0 [],.sl none a.sn a.sc,.int .u8 b.op,.str b.nmB,.sl none 0 [],.sl none b.sn b.sc]] from rfl]
 unfold Tf.cells at iha ihb
 generalize a.op=ao at iha ⊢
 generalize a.nmB=an at iha ⊢
 generalize a.sn=asn at iha ⊢
 generalize a.sc=asc at iha ⊢
 generalize b.op=bo at ihb ⊢
 generalize b.nmB=bn at ihb ⊢
 generalize b.sn=bsn at ihb ⊢
 generalize b.sc=bsc at ihb ⊢
 generalize (evT t a ||| evT t b).testBit=F at hF ⊢
 generalize (evT t a).testBit=A at iha hF
 generalize (evT t b).testBit=B at ihb hF
 obtain ⟨n,lp,fs⟩:=t
 have h1:=ht.n1
 have h2:=ht.n5
 have h3:=ht.lp
 unfold Tr.cells at *
 simp only at h1 h2 h3 hF iha ihb ⊢
 refine fdD Tryz.func106 ⟨rfl,rfl,rfl⟩ fun hcl hbl=>?_
 (repeat' ((conv=>whnf);(first|(refine OrN.l ?_;refine yc7 n rfl ?_;refine yaf ⟨rfl,by omega,by dsimp only;omega⟩ ?_;refine OrN.r ?_)|refine yaq rfl ?_|(refine yaf ?_ ?_;· first|kernel_rfl|omega|exact yaa _ _|fail)|(refine ycg ?_;first|refine yan _ (fun _ hq X=>iha _) ?_|refine yan _ (fun _ hq X=>ihb _) ?_|fail)|refine ydf _ (zb3 rfl) ?_|refine zad [] ?_|fail)));conv=>whnf
 refine zam Tryz.E0 zaf (σ:=Nat) (fun p=>p≤n) (fun p=>n-p) (fun p=>[(8,.v (.int .i64 p))]) (fun p=>[.box 27 [.int .u8 5,.int .i64 n,.sl none 0 [],.int .i64 lp,.sl none fs.length (fs.flatMap encT),.sl none 0 [],.sl none 0 []],.box 50 [.int .u8 (5:Nat),.str .empty,.sl none 0 [],.sl none 2 [.int .u8 ao,.str an,.sl none 0 [],.sl none asn asc,.int .u8 bo,.str bn,.sl none 0 [],.sl none bsn bsc]],.box 4 (row n (stg F p))]) _ 0 rfl hcl [2,3,5,6,7] rfl (yah _) ⟨⟨_,rfl,yae _⟩,trivial⟩ (by rw [zex,stg_0 n F]) (fun _ _=>rfl) ?_
 intro p hp
 clear hbl
 rcases yag p n with hlt|hge
 ·have hFp:=hF p hlt
  (repeat' ((conv=>whnf);(first|(refine yai ?_;first|refine yaq rfl ?_|refine yau rfl ?_|refine yar (by omega) ?_|(refine IfN.mk ?_ ?_ <;> intro _)|fail)|(refine yaf ?_ ?_;· first|omega|exact yaa _ _|fail)|refine zgy p rfl hlt ?_|refine OfsN.mk p (by omega) hlt ?_|refine yca _ rfl ?_|fail)));all_goals (conv=>whnf)
  all_goals
   rename_i hA
   have hstore:∀ X,X=F p→zeh Tryz.T 4 [.box 27 [.int .u8 5,.int .i64 n,.sl none 0 [],.int .i64 lp,.sl none fs.length (fs.flatMap encT),.sl none 0 [],.sl none 0 []],.box 50 [.int .u8 (5:Nat),.str .empty,.sl none 0 [],.sl none 2 [.int .u8 ao,.str an,.sl none 0 [],.sl none asn asc,.int .u8 bo,.str bn,.sl none 0 [],.sl none bsn bsc]],.box 4 (row n (stg F p))] (some (.lp 2 (0+p * 1))) (some (.bool X))=.upd 2 (.box 4 (row n (stg F (p+1)))) none:=fun X hX=>zcq rfl rfl rfl rfl (by rw [ybv,Nat.mul_one];exact zfm n p F X hlt hX)
   refine Eq.mpr (congrArg (@SR.rec (fun _=>Prop) _ _ _ _ _ _ _ _ _ _ _ _ _ _ _ _ _ _ _ _ _) (hstore _ (by rw [hFp,hA];rfl))) ?_
   (repeat' ((conv=>whnf);(first|(refine zac _ _ Cst.h Cst.h ?_ ?_;· omega)|fail)));all_goals (conv=>whnf)
   (refine ⟨⟨p+1,by show p+1≤_;omega,by omega,?_,.inl ⟨rfl,rfl⟩,rfl,_,rfl,?_⟩⟩;rotate_left 1;exact .inl rfl;exact ⟨⟨_,rfl,yae _⟩,trivial⟩)
 ·obtain rfl:p=n:=by omega
  rw [stg_n]
  (repeat' ((conv=>whnf);(first|refine zah (by omega) ?_|fail)));conv=>whnf
  exact ydi (u':=.sl none p (row p F)) (by simp [below,zaa,zcn]) (Frz.ms rfl rfl (ydh _)) (yae _)
theorem tr_f2_6 (t:Tr) (ht:t.Ok) (a b:Tf) (iha:TrP t a) (ihb:TrP t b) (H:Heap):VDet Tryz.prog 106 [.agg t.cells,.agg (Tf.f2 6 a b).cells] H (.sl none t.n (row t.n (nt (every t.n) (evT t a) ||| evT t b).testBit)):=by
 unfold TrP at iha ihb
 have hF:∀ p,p<t.n→(nt (every t.n) (evT t a) ||| evT t b).testBit p=(!(evT t a).testBit p || (evT t b).testBit p):=fun p hp=>by rw [Nat.testBit_or,zx6,zh3,decide_eq_true hp];rfl
 rw [show (Tf.f2 6 a b).cells=[.int .u8 (6:Nat),.str .empty,.sl none 0 [],.sl none 2 [.int .u8 a.op,.str a.nmB,.sl none 0 [],.sl none a.sn a.sc,.int .u8 b.op,.str b.nmB,.sl none 0 [],.sl none b.sn b.sc]] from rfl]
 unfold Tf.cells at iha ihb
 generalize a.op=ao at iha ⊢
 generalize a.nmB=an at iha ⊢
 generalize a.sn=asn at iha ⊢
 generalize a.sc=asc at iha ⊢
 generalize b.op=bo at ihb ⊢
 generalize b.nmB=bn at ihb ⊢
 generalize b.sn=bsn at ihb ⊢
 generalize b.sc=bsc at ihb ⊢
 generalize (nt (every t.n) (evT t a) ||| evT t b).testBit=F at hF ⊢
 generalize (evT t a).testBit=A at iha hF
 generalize (evT t b).testBit=B at ihb hF
 obtain ⟨n,lp,fs⟩:=t
 have h1:=ht.n1
 have h2:=ht.n5
 have h3:=ht.lp
 unfold Tr.cells at *
 simp only at h1 h2 h3 hF iha ihb ⊢
 refine fdD Tryz.func106 ⟨rfl,rfl,rfl⟩ fun hcl hbl=>?_
 (repeat' ((conv=>whnf);(first|(refine OrN.l ?_;refine yc7 n rfl ?_;refine yaf ⟨rfl,by omega,by dsimp only;omega⟩ ?_;refine OrN.r ?_)|refine yaq rfl ?_|(refine yaf ?_ ?_;· first|kernel_rfl|omega|exact yaa _ _|fail)|(refine ycg ?_;first|refine yan _ (fun _ hq X=>iha _) ?_|refine yan _ (fun _ hq X=>ihb _) ?_|fail)|refine ydf _ (zb3 rfl) ?_|refine zad [] ?_|fail)));conv=>whnf
 refine zam Tryz.E0 zaf (σ:=Nat) (fun p=>p≤n) (fun p=>n-p) (fun p=>[(8,.v (.int .i64 p))]) (fun p=>[.box 27 [.int .u8 5,.int .i64 n,.sl none 0 [],.int .i64 lp,.sl none fs.length (fs.flatMap encT),.sl none 0 [],.sl none 0 []],.box 50 [.int .u8 (6:Nat),.str .empty,.sl none 0 [],.sl none 2 [.int .u8 ao,.str an,.sl none 0 [],.sl none asn asc,.int .u8 bo,.str bn,.sl none 0 [],.sl none bsn bsc]],.box 4 (row n (stg F p))]) _ 0 rfl hcl [2,3,5,6,7] rfl (yah _) ⟨⟨_,rfl,yae _⟩,trivial⟩ (by rw [zex,stg_0 n F]) (fun _ _=>rfl) ?_
 intro p hp
 clear hbl
 rcases yag p n with hlt|hge
 ·have hFp:=hF p hlt
  (repeat' ((conv=>whnf);(first|(refine yai ?_;first|refine yas ?_|refine yaq rfl ?_|refine yau rfl ?_|refine yar (by omega) ?_|(refine IfN.mk ?_ ?_ <;> intro _)|fail)|(refine yaf ?_ ?_;· first|omega|exact yaa _ _|fail)|refine zgy p rfl hlt ?_|refine OfsN.mk p (by omega) hlt ?_|refine yca _ rfl ?_|fail)));all_goals (conv=>whnf)
  all_goals
   rename_i hA
   have hstore:∀ X,X=F p→zeh Tryz.T 4 [.box 27 [.int .u8 5,.int .i64 n,.sl none 0 [],.int .i64 lp,.sl none fs.length (fs.flatMap encT),.sl none 0 [],.sl none 0 []],.box 50 [.int .u8 (6:Nat),.str .empty,.sl none 0 [],.sl none 2 [.int .u8 ao,.str an,.sl none 0 [],.sl none asn asc,.int .u8 bo,.str bn,.sl none 0 [],.sl none bsn bsc]],.box 4 (row n (stg F p))] (some (.lp 2 (0+p * 1))) (some (.bool X))=.upd 2 (.box 4 (row n (stg F (p+1)))) none:=fun X hX=>zcq rfl rfl rfl rfl (by rw [ybv,Nat.mul_one];exact zfm n p F X hlt hX)
   refine Eq.mpr (congrArg (@SR.rec (fun _=>Prop) _ _ _ _ _ _ _ _ _ _ _ _ _ _ _ _ _ _ _ _ _) (hstore _ (by rw [hFp,hA];rfl))) ?_
   (repeat' ((conv=>whnf);(first|(refine zac _ _ Cst.h Cst.h ?_ ?_;· omega)|fail)));all_goals (conv=>whnf)
   (refine ⟨⟨p+1,by show p+1≤_;omega,by omega,?_,.inl ⟨rfl,rfl⟩,rfl,_,rfl,?_⟩⟩;rotate_left 1;exact .inl rfl;exact ⟨⟨_,rfl,yae _⟩,trivial⟩)
 ·obtain rfl:p=n:=by omega
  rw [stg_n]
  (repeat' ((conv=>whnf);(first|refine zah (by omega) ?_|fail)));conv=>whnf
  exact ydi (u':=.sl none p (row p F)) (by simp [below,zaa,zcn]) (Frz.ms rfl rfl (ydh _)) (yae _)
theorem tr_f2_7 (t:Tr) (ht:t.Ok) (a b:Tf) (iha:TrP t a) (ihb:TrP t b) (H:Heap):VDet Tryz.prog 106 [.agg t.cells,.agg (Tf.f2 7 a b).cells] H (.sl none t.n (row t.n (nt (every t.n) (evT t a ^^^ evT t b)).testBit)):=by
 unfold TrP at iha ihb
 have hF:∀ p,p<t.n→(nt (every t.n) (evT t a ^^^ evT t b)).testBit p=((evT t a).testBit p==(evT t b).testBit p):=fun p hp=>by rw [zx6,zh3,decide_eq_true hp,Nat.testBit_xor];cases (evT t a).testBit p <;> cases (evT t b).testBit p <;> rfl
 rw [show (Tf.f2 7 a b).cells=[.int .u8 (7:Nat),.str .empty,.sl none 0 [],.sl none 2 [.int .u8 a.op,.str a.nmB,.sl none 0 [],.sl none a.sn a.sc,.int .u8 b.op,.str b.nmB,.sl none 0 [],.sl none b.sn b.sc]] from rfl]
 unfold Tf.cells at iha ihb
 generalize a.op=ao at iha ⊢
 generalize a.nmB=an at iha ⊢
 generalize a.sn=asn at iha ⊢
 generalize a.sc=asc at iha ⊢
 generalize b.op=bo at ihb ⊢
 generalize b.nmB=bn at ihb ⊢
 generalize b.sn=bsn at ihb ⊢
 generalize b.sc=bsc at ihb ⊢
 generalize (nt (every t.n) (evT t a ^^^ evT t b)).testBit=F at hF ⊢
 generalize (evT t a).testBit=A at iha hF
 generalize (evT t b).testBit=B at ihb hF
 obtain ⟨n,lp,fs⟩:=t
 have h1:=ht.n1
 have h2:=ht.n5
 have h3:=ht.lp
 unfold Tr.cells at *
 simp only at h1 h2 h3 hF iha ihb ⊢
 refine fdD Tryz.func106 ⟨rfl,rfl,rfl⟩ fun hcl hbl=>?_
 (repeat' ((conv=>whnf);(first|(refine OrN.l ?_;refine yc7 n rfl ?_;refine yaf ⟨rfl,by omega,by dsimp only;omega⟩ ?_;refine OrN.r ?_)|refine yaq rfl ?_|(refine yaf ?_ ?_;· first|kernel_rfl|omega|exact yaa _ _|fail)|(refine ycg ?_;first|refine yan _ (fun _ hq X=>iha _) ?_|refine yan _ (fun _ hq X=>ihb _) ?_|fail)|refine ydf _ (zb3 rfl) ?_|refine zad [] ?_|fail)));conv=>whnf
 refine zam Tryz.E0 zaf (σ:=Nat) (fun p=>p≤n) (fun p=>n-p) (fun p=>[(8,.v (.int .i64 p))]) (fun p=>[.box 27 [.int .u8 5,.int .i64 n,.sl none 0 [],.int .i64 lp,.sl none fs.length (fs.flatMap encT),.sl none 0 [],.sl none 0 []],.box 50 [.int .u8 (7:Nat),.str .empty,.sl none 0 [],.sl none 2 [.int .u8 ao,.str an,.sl none 0 [],.sl none asn asc,.int .u8 bo,.str bn,.sl none 0 [],.sl none bsn bsc]],.box 4 (row n (stg F p))]) _ 0 rfl hcl [2,3,5,6,7] rfl (yah _) ⟨⟨_,rfl,yae _⟩,trivial⟩ (by rw [zex,stg_0 n F]) (fun _ _=>rfl) ?_
 intro p hp
 clear hbl
 rcases yag p n with hlt|hge
 ·have hFp:=hF p hlt
  (repeat' ((conv=>whnf);(first|(refine yai ?_;first|refine yaq rfl ?_|refine yau rfl ?_|refine yar (by omega) ?_|fail)|(refine yaf ?_ ?_;· first|omega|exact yaa _ _|fail)|refine zgy p rfl hlt ?_|refine OfsN.mk p (by omega) hlt ?_|refine yca _ rfl ?_|refine zad [] ?_|fail)));conv=>whnf
  have hstore:∀ X,X=F p→zeh Tryz.T 4 [.box 27 [.int .u8 5,.int .i64 n,.sl none 0 [],.int .i64 lp,.sl none fs.length (fs.flatMap encT),.sl none 0 [],.sl none 0 []],.box 50 [.int .u8 (7:Nat),.str .empty,.sl none 0 [],.sl none 2 [.int .u8 ao,.str an,.sl none 0 [],.sl none asn asc,.int .u8 bo,.str bn,.sl none 0 [],.sl none bsn bsc]],.box 4 (row n (stg F p))] (some (.lp 2 (0+p * 1))) (some (.bool X))=.upd 2 (.box 4 (row n (stg F (p+1)))) none:=fun X hX=>zcq rfl rfl rfl rfl (by rw [ybv,Nat.mul_one];exact zfm n p F X hlt hX)
  refine Eq.mpr (congrArg (@SR.rec (fun _=>Prop) _ _ _ _ _ _ _ _ _ _ _ _ _ _ _ _ _ _ _ _ _) (hstore _ hFp.symm)) ?_
  (repeat' ((conv=>whnf);(first|(refine zac _ _ Cst.h Cst.h ?_ ?_;· omega)|refine yaf (by kernel_rfl) ?_|fail)));conv=>whnf
  (refine ⟨⟨p+1,by show p+1≤_;omega,by omega,?_,.inl ⟨rfl,rfl⟩,rfl,_,rfl,?_⟩⟩;rotate_left 1;exact .inl rfl;exact ⟨⟨_,rfl,yae _⟩,trivial⟩)
 ·obtain rfl:p=n:=by omega
  rw [stg_n]
  (repeat' ((conv=>whnf);(first|refine zah (by omega) ?_|fail)));conv=>whnf
  exact ydi (u':=.sl none p (row p F)) (by simp [below,zaa,zcn]) (Frz.ms rfl rfl (ydh _)) (yae _)
theorem tr_f1_12 (t:Tr) (ht:t.Ok) (a:Tf) (iha:TrP t a) (H:Heap):VDet Tryz.prog 106 [.agg t.cells,.agg (Tf.f1 12 a).cells] H (.sl none t.n (row t.n (befN t.n t.lp (evT t a)).testBit)):=by
 unfold TrP at iha
 have hnx:=fun q hq H=>ztk t ht q hq H
 have hF:∀ p,p<t.n→(befN t.n t.lp (evT t a)).testBit p=(evT t a).testBit (posN t.n t.lp (p+1)):=fun p hp=>by rw [befN,znx,decide_eq_true hp];rfl
 rw [show (Tf.f1 12 a).cells=[.int .u8 (12:Nat),.str .empty,.sl none 0 [],.sl none 1 [.int .u8 a.op,.str a.nmB,.sl none 0 [],.sl none a.sn a.sc]] from rfl]
 unfold Tf.cells at iha
 generalize a.op=ao at iha ⊢
 generalize a.nmB=an at iha ⊢
 generalize a.sn=asn at iha ⊢
 generalize a.sc=asc at iha ⊢
 generalize (befN t.n t.lp (evT t a)).testBit=F at hF ⊢
 generalize (evT t a).testBit=A at iha hF
 obtain ⟨n,lp,fs⟩:=t
 have h1:=ht.n1
 have h2:=ht.n5
 have h3:=ht.lp
 unfold Tr.cells at *
 simp only at h1 h2 h3 hF hnx iha ⊢
 refine fdD Tryz.func106 ⟨rfl,rfl,rfl⟩ fun hcl hbl=>?_
 (repeat' ((conv=>whnf);(first|(refine OrN.l ?_;refine yc7 n rfl ?_;refine yaf ⟨rfl,by omega,by dsimp only;omega⟩ ?_;refine OrN.r ?_)|(refine yai ?_;first|refine yaq rfl ?_|refine yau rfl ?_|fail)|(refine yaf ?_ ?_;· first|kernel_rfl|omega|exact yaa _ _|fail)|refine yan _ (fun _ hq X=>iha _) ?_|refine ydf _ (zb3 rfl) ?_|refine zad [] ?_|fail)));conv=>whnf
 refine zam Tryz.E0 zaf (σ:=Nat) (fun p=>p≤n) (fun p=>n-p) (fun p=>[(8,.v (.int .i64 p))]) (fun p=>[.box 27 [.int .u8 5,.int .i64 n,.sl none 0 [],.int .i64 lp,.sl none fs.length (fs.flatMap encT),.sl none 0 [],.sl none 0 []],.box 50 [.int .u8 (12:Nat),.str .empty,.sl none 0 [],.sl none 1 [.int .u8 ao,.str an,.sl none 0 [],.sl none asn asc]],.box 4 (row n (stg F p))]) _ 0 rfl hcl [2,3,5,6,7] rfl (yah _) ⟨⟨_,rfl,yae _⟩,trivial⟩ (by rw [zex,stg_0 n F]) (fun _ _=>rfl) ?_
 intro p hp
 clear hbl
 rcases yag p n with hlt|hge
 ·have hFp:=hF p hlt
  have hx:=hnx p hlt
  have hq:=zdm (x:=p+1) h3
  generalize posN n lp (p+1)=q at *
  (repeat' ((conv=>whnf);(first|(refine yai ?_;first|refine yaq rfl ?_|refine yau rfl ?_|refine yar (by omega) ?_|fail)|(refine yaf ?_ ?_;· first|omega|exact yaa _ _|fail)|refine yab _ (hx _) ?_|refine zgy q rfl hq ?_|refine OfsN.mk p (by omega) hlt ?_|refine yca _ rfl ?_|fail)));conv=>whnf
  have hstore:∀ X,X=F p→zeh Tryz.T 4 [.box 27 [.int .u8 5,.int .i64 n,.sl none 0 [],.int .i64 lp,.sl none fs.length (fs.flatMap encT),.sl none 0 [],.sl none 0 []],.box 50 [.int .u8 (12:Nat),.str .empty,.sl none 0 [],.sl none 1 [.int .u8 ao,.str an,.sl none 0 [],.sl none asn asc]],.box 4 (row n (stg F p))] (some (.lp 2 (0+p * 1))) (some (.bool X))=.upd 2 (.box 4 (row n (stg F (p+1)))) none:=fun X hX=>zcq rfl rfl rfl rfl (by rw [ybv,Nat.mul_one];exact zfm n p F X hlt hX)
  refine Eq.mpr (congrArg (@SR.rec (fun _=>Prop) _ _ _ _ _ _ _ _ _ _ _ _ _ _ _ _ _ _ _ _ _) (hstore _ hFp.symm)) ?_
  (repeat' ((conv=>whnf);(first|(refine zac _ _ Cst.h Cst.h ?_ ?_;· omega)|fail)));conv=>whnf
  (refine ⟨⟨p+1,by show p+1≤_;omega,by omega,?_,.inl ⟨rfl,rfl⟩,rfl,_,rfl,?_⟩⟩;rotate_left 1;exact .inl rfl;exact ⟨⟨_,rfl,yae _⟩,trivial⟩)
 ·obtain rfl:p=n:=by omega
  rw [stg_n]
  (repeat' ((conv=>whnf);(first|refine zah (by omega) ?_|fail)));conv=>whnf
  exact ydi (u':=.sl none p (row p F)) (by simp [below,zaa,zcn]) (Frz.ms rfl rfl (ydh _)) (yae _)
theorem tr_f1_13 (t:Tr) (ht:t.Ok) (a:Tf) (iha:TrP t a) (H:Heap):VDet Tryz.prog 106 [.agg t.cells,.agg (Tf.f1 13 a).cells] H (.sl none t.n (row t.n (alN t.n t.lp (evT t a)).testBit)):=by
 unfold TrP at iha
 have ha:=zc9 ht a
 have hnx:=fun q hq H=>ztk t ht q hq H
 have hF:∀ p,p<t.n→(alN t.n t.lp (evT t a)).testBit p=allN t.n t.lp (evT t a) p (t.n+1):=fun p hp=>by rw [← al_n ht.n5 ht.lp ha];unfold tm;rw [zhs hp]
 rw [show (Tf.f1 13 a).cells=[.int .u8 (13:Nat),.str .empty,.sl none 0 [],.sl none 1 [.int .u8 a.op,.str a.nmB,.sl none 0 [],.sl none a.sn a.sc]] from rfl]
 unfold Tf.cells at iha
 generalize a.op=ao at iha ⊢
 generalize a.nmB=an at iha ⊢
 generalize a.sn=asn at iha ⊢
 generalize a.sc=asc at iha ⊢
 generalize (alN t.n t.lp (evT t a)).testBit=F at hF ⊢
 have hA:∀ p k,allN t.n t.lp (evT t a) p (k+1)=(allN t.n t.lp (evT t a) p k&&(evT t a).testBit (posN t.n t.lp (p+k))):=fun p k=>zp0 ..
 have hA0:∀ p,allN t.n t.lp (evT t a) p 0=true:=fun p=>rfl
 have hpa:=fun x u=>zm2 ht.n5 ht.lp x u
 generalize allN t.n t.lp (evT t a)=W at hF hA hA0
 generalize (evT t a).testBit=A at iha hA
 obtain ⟨n,lp,fs⟩:=t
 have h1:=ht.n1
 have h2:=ht.n5
 have h3:=ht.lp
 unfold Tr.cells at *
 clear ha
 simp only at h1 h2 h3 hF hA hA0 hpa hnx iha ⊢
 refine fdD Tryz.func106 ⟨rfl,rfl,rfl⟩ fun hcl hbl=>?_
 (repeat' ((conv=>whnf);(first|(refine OrN.l ?_;refine yc7 n rfl ?_;refine yaf ⟨rfl,by omega,by dsimp only;omega⟩ ?_;refine OrN.r ?_)|(refine yai ?_;first|refine yaq rfl ?_|refine yau rfl ?_|fail)|(refine yaf ?_ ?_;· first|kernel_rfl|omega|exact yaa _ _|fail)|refine yan _ (fun _ hq X=>iha _) ?_|refine ydf _ (zb3 rfl) ?_|refine zad [] ?_|fail)));conv=>whnf
 refine zam Tryz.E0 zaf (σ:=Nat) (fun p=>p≤n) (fun p=>n-p) (fun p=>[(8,.v (.int .i64 p))]) (fun p=>[.box 27 [.int .u8 5,.int .i64 n,.sl none 0 [],.int .i64 lp,.sl none fs.length (fs.flatMap encT),.sl none 0 [],.sl none 0 []],.box 50 [.int .u8 (13:Nat),.str .empty,.sl none 0 [],.sl none 1 [.int .u8 ao,.str an,.sl none 0 [],.sl none asn asc]],.box 4 (row n (stg F p))]) _ 0 rfl hcl [2,3,5,6,7] rfl (yah _) ⟨⟨_,rfl,yae _⟩,trivial⟩ (by rw [zex,stg_0 n F]) (fun _ _=>rfl) ?_
 intro p hp
 clear hbl
 rcases yag p n with hlt|hge
 ·have hFp:=hF p hlt
  have hAp:=hA p
  have hp0:p=posN n lp (p+0):=by rw [yb2,zhs hlt]
  (repeat' ((conv=>whnf);(first|(refine yai ?_;first|refine yaq rfl ?_|refine yau rfl ?_|refine yar (by omega) ?_|fail)|fail)));conv=>whnf
  refine zam Tryz.E0 zaf (σ:=Nat) (fun i=>i≤n+1) (fun i=>n+1-i) (fun i=>[(12,.v (.int .i64 i)),(10,.v (.bool (W p i))),(11,.v (.int .i64 (posN n lp (p+i):Nat)))]) (fun _=>_) _ 0 rfl hcl [2,3,5,6,7,8] rfl (yah _) ⟨⟨_,rfl,yae _⟩,⟨_,rfl,Wk.of_eq (by rw [hA0];rfl)⟩,⟨_,rfl,Wk.of_eq (by rw [← hp0])⟩,trivial⟩ rfl (fun _ _=>rfl) ?_
  intro i hi
  rcases yag i (n+1) with hil|hig
  ·have hs:=hAp i
   have hq:=zdm (x:=p+i) h3
   have hx:=hnx _ hq
   rw [hpa,show p+i+1=p+(i+1) by omega] at hx
   generalize posN n lp (p+i)=q at *
   generalize W p i=w at *
   cases w
   all_goals
    (repeat' ((conv=>whnf);(first|(refine yai ?_;first|refine yaq rfl ?_|refine yau rfl ?_|refine yar (by omega) ?_|fail)|(refine zac _ _ Cst.h Cst.h ?_ ?_;· omega)|(refine yaf ?_ ?_;· first|omega|exact yaa _ _|fail)|refine yab _ (hx _) ?_|refine zgy q rfl hq ?_|fail)));all_goals (conv=>whnf)
    (refine ⟨⟨i+1,by show i+1≤_;omega,by omega,?_,.inl ⟨rfl,rfl⟩,rfl,_,rfl,?_⟩⟩;rotate_left 1;exact .inl rfl;(repeat' (first|exact trivial|refine ⟨⟨_,rfl,?_⟩,?_⟩|fail));all_goals try exact yae _)
    exact Wk.of_eq (by rw [hs];rfl)
  ·obtain rfl:i=n+1:=by omega
   (repeat' ((conv=>whnf);(first|refine zah (by omega) ?_|refine OfsN.mk p (by omega) hlt ?_|refine yca _ rfl ?_|fail)));conv=>whnf
   have hstore:∀ X,X=F p→zeh Tryz.T 4 [.box 27 [.int .u8 5,.int .i64 n,.sl none 0 [],.int .i64 lp,.sl none fs.length (fs.flatMap encT),.sl none 0 [],.sl none 0 []],.box 50 [.int .u8 (13:Nat),.str .empty,.sl none 0 [],.sl none 1 [.int .u8 ao,.str an,.sl none 0 [],.sl none asn asc]],.box 4 (row n (stg F p))] (some (.lp 2 (0+p * 1))) (some (.bool X))=.upd 2 (.box 4 (row n (stg F (p+1)))) none:=fun X hX=>zcq rfl rfl rfl rfl (by rw [ybv,Nat.mul_one];exact zfm n p F X hlt hX)
   refine Eq.mpr (congrArg (@SR.rec (fun _=>Prop) _ _ _ _ _ _ _ _ _ _ _ _ _ _ _ _ _ _ _ _ _) (hstore _ hFp.symm)) ?_
   (repeat' ((conv=>whnf);(first|(refine zac _ _ Cst.h Cst.h ?_ ?_;· omega)|fail)));conv=>whnf
   (refine ⟨⟨p+1,by show p+1≤_;omega,by omega,?_,.inr ?_,rfl,_,rfl,?_⟩⟩;rotate_left 2;exact .inl rfl;all_goals (repeat' (first|exact trivial|refine ⟨⟨_,rfl,?_⟩,?_⟩|fail));all_goals exact yae _)
 ·obtain rfl:p=n:=by omega
  rw [stg_n]
  (repeat' ((conv=>whnf);(first|refine zah (by omega) ?_|fail)));conv=>whnf
  exact ydi (u':=.sl none p (row p F)) (by simp [below,zaa,zcn]) (Frz.ms rfl rfl (ydh _)) (yae _)
theorem tr_f2_14 (t:Tr) (ht:t.Ok) (a b:Tf) (iha:TrP t a) (ihb:TrP t b) (H:Heap):VDet Tryz.prog 106 [.agg t.cells,.agg (Tf.f2 14 a b).cells] H (.sl none t.n (row t.n (unN t.n t.lp (evT t a) (evT t b)).testBit)):=by
 unfold TrP at iha ihb
 have ha:=zc9 ht a
 have hnx:=fun q hq H=>ztk t ht q hq H
 have hb:=zc9 ht b
 have hF:∀ p,p<t.n→(unN t.n t.lp (evT t a) (evT t b)).testBit p=unO t.n t.lp (evT t a) (evT t b) p (t.n+1):=fun p hp=>by rw [← un_n ht.n5 ht.lp ha hb];unfold tm;rw [zhs hp]
 rw [show (Tf.f2 14 a b).cells=[.int .u8 (14:Nat),.str .empty,.sl none 0 [],.sl none 2 [.int .u8 a.op,.str a.nmB,.sl none 0 [],.sl none a.sn a.sc,.int .u8 b.op,.str b.nmB,.sl none 0 [],.sl none b.sn b.sc]] from rfl]
 unfold Tf.cells at iha ihb
 generalize a.op=ao at iha ⊢
 generalize a.nmB=an at iha ⊢
 generalize a.sn=asn at iha ⊢
 generalize a.sc=asc at iha ⊢
 generalize b.op=bo at ihb ⊢
 generalize b.nmB=bn at ihb ⊢
 generalize b.sn=bsn at ihb ⊢
 generalize b.sc=bsc at ihb ⊢
 generalize (unN t.n t.lp (evT t a) (evT t b)).testBit=F at hF ⊢
 have hA:∀ p k,allN t.n t.lp (evT t a) p (k+1)=(allN t.n t.lp (evT t a) p k&&(evT t a).testBit (posN t.n t.lp (p+k))):=fun p k=>zp0 ..
 have hA0:∀ p,allN t.n t.lp (evT t a) p 0=true:=fun p=>rfl
 have hU:∀ p k,unO t.n t.lp (evT t a) (evT t b) p (k+1)=(unO t.n t.lp (evT t a) (evT t b) p k || (allN t.n t.lp (evT t a) p k&&(evT t b).testBit (posN t.n t.lp (p+k)))):=fun p k=>rfl
 have hU0:∀ p,unO t.n t.lp (evT t a) (evT t b) p 0=false:=fun p=>rfl
 have hpa:=fun x u=>zm2 ht.n5 ht.lp x u
 generalize unO t.n t.lp (evT t a) (evT t b)=V at hF hU hU0
 generalize allN t.n t.lp (evT t a)=W at hA hA0 hU
 generalize (evT t a).testBit=A at iha hA
 generalize (evT t b).testBit=B at ihb hU
 obtain ⟨n,lp,fs⟩:=t
 have h1:=ht.n1
 have h2:=ht.n5
 have h3:=ht.lp
 unfold Tr.cells at *
 clear ha hb
 simp only at h1 h2 h3 hF hA hA0 hU hU0 hpa hnx iha ihb ⊢
 refine fdD Tryz.func106 ⟨rfl,rfl,rfl⟩ fun hcl hbl=>?_
 (repeat' ((conv=>whnf);(first|(refine OrN.l ?_;refine yc7 n rfl ?_;refine yaf ⟨rfl,by omega,by dsimp only;omega⟩ ?_;refine OrN.r ?_)|refine yaq rfl ?_|(refine yaf ?_ ?_;· first|kernel_rfl|omega|exact yaa _ _|fail)|(refine ycg ?_;first|refine yan _ (fun _ hq X=>iha _) ?_|refine yan _ (fun _ hq X=>ihb _) ?_|fail)|refine ydf _ (zb3 rfl) ?_|refine zad [] ?_|fail)));conv=>whnf
 refine zam Tryz.E0 zaf (σ:=Nat) (fun p=>p≤n) (fun p=>n-p) (fun p=>[(8,.v (.int .i64 p))]) (fun p=>[.box 27 [.int .u8 5,.int .i64 n,.sl none 0 [],.int .i64 lp,.sl none fs.length (fs.flatMap encT),.sl none 0 [],.sl none 0 []],.box 50 [.int .u8 (14:Nat),.str .empty,.sl none 0 [],.sl none 2 [.int .u8 ao,.str an,.sl none 0 [],.sl none asn asc,.int .u8 bo,.str bn,.sl none 0 [],.sl none bsn bsc]],.box 4 (row n (stg F p))]) _ 0 rfl hcl [2,3,5,6,7] rfl (yah _) ⟨⟨_,rfl,yae _⟩,trivial⟩ (by rw [zex,stg_0 n F]) (fun _ _=>rfl) ?_
 intro p hp
 clear hbl
 rcases yag p n with hlt|hge
 ·have hFp:=hF p hlt
  have hAp:=hA p
  have hUp:=hU p
  have hp0:p=posN n lp (p+0):=by rw [yb2,zhs hlt]
  (repeat' ((conv=>whnf);(first|(refine yai ?_;first|refine yaq rfl ?_|refine yau rfl ?_|refine yar (by omega) ?_|fail)|fail)));conv=>whnf
  refine zam Tryz.E0 zaf (σ:=Nat) (fun i=>i≤n+1) (fun i=>n+1-i) (fun i=>[(15,.v (.int .i64 i)),(13,.v (.bool (W p i))),(14,.v (.int .i64 (posN n lp (p+i):Nat)))]) (fun i=>[.box 27 [.int .u8 5,.int .i64 n,.sl none 0 [],.int .i64 lp,.sl none fs.length (fs.flatMap encT),.sl none 0 [],.sl none 0 []],.box 50 [.int .u8 (14:Nat),.str .empty,.sl none 0 [],.sl none 2 [.int .u8 ao,.str an,.sl none 0 [],.sl none asn asc,.int .u8 bo,.str bn,.sl none 0 [],.sl none bsn bsc]],.box 4 (row n (stx F p (V p i)))]) _ 0 rfl hcl [2,3,5,6,7,8] rfl (yah _) ⟨⟨_,rfl,yae _⟩,⟨_,rfl,Wk.of_eq (by rw [hA0];rfl)⟩,⟨_,rfl,Wk.of_eq (by rw [← hp0])⟩,trivial⟩ (by rw [hU0,← stx_f]) (fun _ _=>rfl) ?_
  intro i hi
  rcases yag i (n+1) with hil|hig
  ·have hs:=hAp i
   have hv:=hUp i
   have hq:=zdm (x:=p+i) h3
   have hx:=hnx _ hq
   rw [hpa,show p+i+1=p+(i+1) by omega] at hx
   obtain ⟨rr,hrr⟩:=row_drop n p (stx F p (V p i)) hlt
   rw [show stx F p (V p i) p=V p i from if_pos rfl] at hrr
   have hput:=zqt n p F (V p i) (V p (i+1)) hlt
   generalize posN n lp (p+i)=q at *
   generalize V p i=v at *
   generalize W p i=w at *
   (repeat' ((conv=>whnf);(first|refine yar (by omega) ?_|refine OfsN.mk p (by omega) hlt ?_|refine yca _ rfl ?_|fail)));conv=>whnf
   have hld:loadS Tryz.T 4 [.box 27 [.int .u8 5,.int .i64 n,.sl none 0 [],.int .i64 lp,.sl none fs.length (fs.flatMap encT),.sl none 0 [],.sl none 0 []],.box 50 [.int .u8 (14:Nat),.str .empty,.sl none 0 [],.sl none 2 [.int .u8 ao,.str an,.sl none 0 [],.sl none asn asc,.int .u8 bo,.str bn,.sl none 0 [],.sl none bsn bsc]],.box 4 (row n (stx F p v))] (some (.lp 2 (0+p * 1)))=.mem (.v (.bool v)):=zvp (u:=4) (l:=row n (stx F p v)) (r:=rr) rfl (by rw [ybv,Nat.mul_one];exact hrr)
   refine Eq.mpr (congrArg (@SR.rec (fun _=>Prop) _ _ _ _ _ _ _ _ _ _ _ _ _ _ _ _ _ _ _ _ _) hld) ?_
   cases v <;> cases w
   all_goals
    (repeat' ((conv=>whnf);(first|(refine yai ?_;first|refine yaq rfl ?_|refine yau rfl ?_|fail)|(refine yaf ?_ ?_;· first|omega|exact yaa _ _|fail)|refine zgy q rfl hq ?_|refine OfsN.mk p (by omega) hlt ?_|refine yca _ rfl ?_|fail)));all_goals (conv=>whnf)
    have hstore:∀ (v X:Bool),X=V p (i+1)→setC (row n (stx F p v)) p [.bool (V p (i+1))]=some (row n (stx F p (V p (i+1))))→zeh Tryz.T 4 [.box 27 [.int .u8 5,.int .i64 n,.sl none 0 [],.int .i64 lp,.sl none fs.length (fs.flatMap encT),.sl none 0 [],.sl none 0 []],.box 50 [.int .u8 (14:Nat),.str .empty,.sl none 0 [],.sl none 2 [.int .u8 ao,.str an,.sl none 0 [],.sl none asn asc,.int .u8 bo,.str bn,.sl none 0 [],.sl none bsn bsc]],.box 4 (row n (stx F p v))] (some (.lp 2 (0+p * 1))) (some (.bool X))=.upd 2 (.box 4 (row n (stx F p (V p (i+1))))) none:=fun v X hX h=>zcq rfl rfl rfl rfl (by rw [ybv,Nat.mul_one,hX];exact h)
    refine Eq.mpr (congrArg (@SR.rec (fun _=>Prop) _ _ _ _ _ _ _ _ _ _ _ _ _ _ _ _ _ _ _ _ _) (hstore _ _ (by rw [hv];rfl) hput)) ?_
    (repeat' ((conv=>whnf);(first|(refine yai ?_;first|refine yaq rfl ?_|refine yau rfl ?_|fail)|(refine zac _ _ Cst.h Cst.h ?_ ?_;· omega)|(refine yaf ?_ ?_;· first|omega|exact yaa _ _|fail)|refine yab _ (hx _) ?_|refine zgy q rfl hq ?_|fail)));all_goals (conv=>whnf)
    (refine ⟨⟨i+1,by show i+1≤_;omega,by omega,?_,.inl ⟨rfl,rfl⟩,rfl,_,rfl,?_⟩⟩;rotate_left 1;exact .inl rfl;(repeat' (first|exact trivial|refine ⟨⟨_,rfl,?_⟩,?_⟩|fail));all_goals try exact yae _)
    exact Wk.of_eq (by rw [hs];rfl)
  ·obtain rfl:i=n+1:=by omega
   rw [← hFp,stx_t]
   (repeat' ((conv=>whnf);(first|refine zah (by omega) ?_|(refine zac _ _ Cst.h Cst.h ?_ ?_;· omega)|fail)));conv=>whnf
   (refine ⟨⟨p+1,by show p+1≤_;omega,by omega,?_,.inr ?_,rfl,_,rfl,?_⟩⟩;rotate_left 2;exact .inl rfl;all_goals (repeat' (first|exact trivial|refine ⟨⟨_,rfl,?_⟩,?_⟩|fail));all_goals exact yae _)
 ·obtain rfl:p=n:=by omega
  rw [stg_n]
  (repeat' ((conv=>whnf);(first|refine zah (by omega) ?_|fail)));conv=>whnf
  exact ydi (u':=.sl none p (row p F)) (by simp [below,zaa,zcn]) (Frz.ms rfl rfl (ydh _)) (yae _)
theorem tr_fa (t:Tr) (ht:t.Ok) (H:Heap):VDet Tryz.prog 106 [.agg t.cells,.agg Tf.fa.cells] H (.sl none t.n (row t.n (0:Nat).testBit)):=by
 have hF:∀ p,(0:Nat).testBit p=false:=fun p=>Nat.zero_testBit p
 rw [show Tf.fa.cells=[.int .u8 (2:Nat),.str .empty,.sl none 0 [],.sl none 0 []] from rfl]
 generalize (0:Nat).testBit=F at hF ⊢
 obtain ⟨n,lp,fs⟩:=t
 have h1:=ht.n1
 have h2:=ht.n5
 unfold Tr.cells at *
 simp only at h1 h2 ⊢
 refine fdD Tryz.func106 ⟨rfl,rfl,rfl⟩ fun hcl hbl=>?_
 (repeat' ((conv=>whnf);(first|(refine OrN.l ?_;refine yc7 n rfl ?_;refine yaf ⟨rfl,by omega,by dsimp only;omega⟩ ?_;refine OrN.r ?_)|refine yau rfl ?_|fail)));conv=>whnf
 refine zam Tryz.E0 zaf (σ:=Nat) (fun p=>p≤n) (fun p=>n-p) (fun p=>[(8,.v (.int .i64 p))]) (fun p=>[.box 27 [.int .u8 5,.int .i64 n,.sl none 0 [],.int .i64 lp,.sl none fs.length (fs.flatMap encT),.sl none 0 [],.sl none 0 []],.box 50 [.int .u8 (2:Nat),.str .empty,.sl none 0 [],.sl none 0 []],.box 4 (row n (stg F p))]) _ 0 rfl hcl [2,3,5,6,7] rfl (yah _) ⟨⟨_,rfl,yae _⟩,trivial⟩ (by rw [zex,stg_0 n F]) (fun _ _=>rfl) ?_
 intro p hp
 clear hbl
 rcases yag p n with hlt|hge
 ·have e:row n (stg F p)=row n (stg F (p+1)):=by rw [stx_f,← hF p,stx_t]
  rw [e]
  (repeat' ((conv=>whnf);(first|(refine yai ?_;first|refine yau rfl ?_|refine yar (by omega) ?_|fail)|(refine zac _ _ Cst.h Cst.h ?_ ?_;· omega)|fail)));conv=>whnf
  (refine ⟨⟨p+1,by show p+1≤_;omega,by omega,?_,.inl ⟨rfl,rfl⟩,rfl,_,rfl,?_⟩⟩;rotate_left 1;exact .inl rfl;exact ⟨⟨_,rfl,yae _⟩,trivial⟩)
 ·obtain rfl:p=n:=by omega
  rw [stg_n]
  (repeat' ((conv=>whnf);(first|refine zah (by omega) ?_|fail)));conv=>whnf
  exact ydi (u':=.sl none p (row p F)) (by simp [below,zaa,zcn]) (Frz.ms rfl rfl (ydh _)) (yae _)
theorem zt2 (c:ByteArray) (x:ByteArray×Nat):∀ l,fnd c (l++[x])=match fnd c l with
  | some v=>some v
  | none=>match decide (c=x.1) with
    | true=>some x.2
    | false=>none
 | []=>rfl
 | y::l=>by
   rw [ycn]
   simp only [fnd]
   cases h:decide (c=y.1) with
   | true=>rfl
   | false=>exact zt2 c x l
theorem tr_at (t:Tr) (ht:t.Ok) (c:ByteArray) (H:Heap):VDet Tryz.prog 106 [.agg t.cells,.agg (Tf.at c).cells] H (.sl none t.n (row t.n ((fnd c t.fs).getD 0).testBit)):=by
 have hnew:=fun k hk=>ht.new (k:=k) hk
 have hl:=ht.len
 have hsm:=ht.small
 rw [show (Tf.at c).cells=[.int .u8 (1:Nat),.str c,.sl none 0 [],.sl none 0 []] from rfl]
 obtain ⟨n,lp,fs⟩:=t
 obtain ⟨F,hF⟩:∃ F,F=((fnd c fs).getD 0).testBit:=⟨_,rfl⟩
 simp only
 rw [← hF]
 have h1:=ht.n1
 have h2:=ht.n5
 unfold Tr.cells at *
 unfold ft at hnew hsm
 simp only at h1 h2 hnew hl hsm ⊢
 refine fdD Tryz.func106 ⟨rfl,rfl,rfl⟩ fun hcl hbl=>?_
 (repeat' ((conv=>whnf);(first|(refine OrN.l ?_;refine yc7 n rfl ?_;refine yaf ⟨rfl,by omega,by dsimp only;omega⟩ ?_;refine OrN.r ?_)|refine yau rfl ?_|fail)));conv=>whnf
 refine zam Tryz.E0 zaf (σ:=Nat) (fun p=>p≤n) (fun p=>n-p) (fun p=>[(8,.v (.int .i64 p))]) (fun p=>[.box 27 [.int .u8 5,.int .i64 n,.sl none 0 [],.int .i64 lp,.sl none fs.length (fs.flatMap encT),.sl none 0 [],.sl none 0 []],.box 50 [.int .u8 (1:Nat),.str c,.sl none 0 [],.sl none 0 []],.box 4 (row n (stg F p))]) _ 0 rfl hcl [2,3,5,6,7] rfl (yah _) ⟨⟨_,rfl,yae _⟩,trivial⟩ (by rw [zex,stg_0 n F]) (fun _ _=>rfl) ?_
 intro p hp
 clear hbl
 rcases yag p n with hlt|hge
 ·(repeat' ((conv=>whnf);(first|(refine yai ?_;first|refine yaq rfl ?_|refine yar (by omega) ?_|fail)|fail)));conv=>whnf
  refine zam Tryz.E0 zaf (σ:=Nat) (fun k=>k≤fs.length) (fun k=>fs.length-k) (fun k=>[(9,.v (.int .i64 k))]) (fun k=>[.box 27 [.int .u8 5,.int .i64 n,.sl none 0 [],.int .i64 lp,.sl none fs.length (fs.flatMap encT),.sl none 0 [],.sl none 0 []],.box 50 [.int .u8 (1:Nat),.str c,.sl none 0 [],.sl none 0 []],.box 4 (row n (stx F p (((fnd c (fs.take k)).getD 0).testBit p)))]) _ 0 rfl hcl [2,3,5,6,7,8] rfl (yah _) ⟨⟨_,rfl,yae _⟩,trivial⟩ (by rw [show ((fnd c (fs.take 0)).getD 0).testBit p=false from Nat.zero_testBit p,← stx_f]) (fun _ _=>rfl) ?_
  intro k hk
  rcases yag k fs.length with hkl|hkg
  ·obtain ⟨s,m,e2⟩:∃ s m,fs.getD k p0=(s,m):=⟨_,_,rfl⟩
   have qc:encT (fs.getD k p0)=[.str s,.int .i64 0,.int .i64 m]:=by rw [e2];rfl
   have hm32:=hsm k hkl
   have hnk:=hnew k hkl
   have hsn:=zt2 c (s,m) (fs.take k)
   rw [e2] at hnk hm32
   rw [← e2,← zdr fs p0 k hkl,e2] at hsn
   by_cases hc:c=s
   ·subst hc
    simp only at hnk
    rw [hnk] at hsn ⊢
    simp only [decide_true] at hsn
    have hbit:∀ X:Bool,X=(((m >>> p % 2:Nat):Int)==1)→X=((fnd c (fs.take (k+1))).getD 0).testBit p:=fun X hX=>by
     rw [hsn,hX,yb9]
     simp only [ycw,Nat.testBit_eq_decide_div_mod_eq,Nat.shiftRight_eq_div_pow,decide_eq_true_eq,beq_iff_eq]
     omega
    have hput:=zqt n p F ((Option.getD (none:Option Nat) 0).testBit p) (((fnd c (fs.take (k+1))).getD 0).testBit p) hlt
    (repeat' ((conv=>whnf);(first|(refine yai ?_;first|refine yaq (beq_self_eq_true _) ?_|refine yar (by omega) ?_|fail)|(refine yct ?_;first|(refine zd4 _ _ Cst.h Cst.h rfl ?_ ?_;· (repeat' (first|omega|refine yb3 ?_ ?_|exact zag (by omega)|exact zat (by omega)|refine zbf ?_ ?_|refine zas ?_ ?_|refine za2 ?_ ?_|refine zao ?_ ?_|refine za3 ?_|refine za4 ?_ ?_|refine za5 ?_|refine zag ?_|fail)))|refine zby _ _ Cst.h Cst.h ?_|fail)|(refine yaf ?_ ?_;· first|kernel_rfl|omega|exact yaa _ _|fail)|refine SegN.nthE p0 k rfl hkl zbb qc ?_|refine OfsN.mk p (by omega) hlt ?_|refine yca _ rfl ?_|refine zad [] ?_|fail)));conv=>whnf
    have hstore:∀ X:Bool,X=(((m >>> p % 2:Nat):Int)==1)→zeh Tryz.T 4 [.box 27 [.int .u8 5,.int .i64 n,.sl none 0 [],.int .i64 lp,.sl none fs.length (fs.flatMap encT),.sl none 0 [],.sl none 0 []],.box 50 [.int .u8 (1:Nat),.str c,.sl none 0 [],.sl none 0 []],.box 4 (row n (stx F p ((Option.getD (none:Option Nat) 0).testBit p)))] (some (.lp 2 (0+p * 1))) (some (.bool X))=.upd 2 (.box 4 (row n (stx F p (((fnd c (fs.take (k+1))).getD 0).testBit p)))) none:=fun X hX=>zcq rfl rfl rfl rfl (by rw [ybv,Nat.mul_one,hbit X hX];exact hput)
    refine Eq.mpr (congrArg (@SR.rec (fun _=>Prop) _ _ _ _ _ _ _ _ _ _ _ _ _ _ _ _ _ _ _ _ _) (hstore _ rfl)) ?_
    (repeat' ((conv=>whnf);(first|(refine zac _ _ Cst.h Cst.h ?_ ?_;· omega)|fail)));conv=>whnf
    (refine ⟨⟨k+1,by show k+1≤_;omega,by omega,?_,.inl ⟨rfl,rfl⟩,rfl,_,rfl,?_⟩⟩;rotate_left 1;exact .inl rfl;exact ⟨⟨_,rfl,yae _⟩,trivial⟩)
   ·rw [decide_eq_false hc] at hsn
    have hsn:fnd c (fs.take (k+1))=fnd c (fs.take k):=by rw [hsn];cases fnd c (fs.take k) <;> rfl
    (repeat' ((conv=>whnf);(first|(refine yai ?_;first|refine yau (by rw [zi5];exact decide_eq_false (ycu hc)) ?_|refine yar (by omega) ?_|fail)|(refine zac _ _ Cst.h Cst.h ?_ ?_;· omega)|(refine yaf ?_ ?_;· first|kernel_rfl|omega|exact yaa _ _|fail)|refine SegN.nthE p0 k rfl hkl zbb qc ?_|refine zad [] ?_|fail)));conv=>whnf
    rw [← hsn]
    (refine ⟨⟨k+1,by show k+1≤_;omega,by omega,?_,.inl ⟨rfl,rfl⟩,rfl,_,rfl,?_⟩⟩;rotate_left 1;exact .inl rfl;exact ⟨⟨_,rfl,yae _⟩,trivial⟩)
  ·obtain rfl:k=fs.length:=by omega
   rw [ya2,← congrFun hF p,stx_t]
   (repeat' ((conv=>whnf);(first|refine zah (by omega) ?_|(refine zac _ _ Cst.h Cst.h ?_ ?_;· omega)|fail)));conv=>whnf
   (refine ⟨⟨p+1,by show p+1≤_;omega,by omega,?_,.inr ?_,rfl,_,rfl,?_⟩⟩;rotate_left 2;exact .inl rfl;all_goals (repeat' (first|exact trivial|refine ⟨⟨_,rfl,?_⟩,?_⟩|fail));all_goals exact yae _)
 ·obtain rfl:p=n:=by omega
  rw [stg_n]
  (repeat' ((conv=>whnf);(first|refine zah (by omega) ?_|fail)));conv=>whnf
  exact ydi (u':=.sl none p (row p F)) (by simp [below,zaa,zcn]) (Frz.ms rfl rfl (ydh _)) (yae _)
theorem tr_c (t:Tr) (ht:t.Ok):∀ f:Tf,f.Temp→TrP t f
 | .at c,_=>tr_at t ht c
 | .fa,_=>tr_fa t ht
 | .f1 k a,h=>by
   have ih:=tr_c t ht a h.2
   rcases h.1 with rfl|rfl|rfl
   ·exact tr_f1_3 t ht a ih
   ·exact tr_f1_12 t ht a ih
   ·exact tr_f1_13 t ht a ih
 | .f2 k a b,h=>by
   have iha:=tr_c t ht a h.2.1
   have ihb:=tr_c t ht b h.2.2
   rcases h.1 with rfl|rfl|rfl|rfl|rfl
   ·exact tr_f2_4 t ht a b iha ihb
   ·exact tr_f2_5 t ht a b iha ihb
   ·exact tr_f2_6 t ht a b iha ihb
   ·exact tr_f2_7 t ht a b iha ihb
   ·exact tr_f2_14 t ht a b iha ihb
def sufT (t:Tr) (x:Nat):Tr:=zbu t (olds t.n t.lp (posN t.n t.lp x) (sufK t.n t.lp (posN t.n t.lp x))) (sufI t.lp (posN t.n t.lp x))
theorem zum (t:Tr) (ht:t.Ok) (h0:0<t.fs.length) (x:Nat) (hx:x<9223372036854775808) (H:Heap) :
  VCall Tryz.prog 37 [.agg t.cells,.int .i64 x] H fun r H'=>r=.tup [mdK (sufT t x).n (sufT t x).lp (.vs H.length t.fs.length),.int .i64 0]∧H'=H++[.vec 60 3 ((sufT t x).fs.flatMap encT)]:=by
 have hv:=fun H=>zev ht H
 have hp:=fun H=>zdt t ht x hx H
 have hq0:=zdm (x:=x) ht.lp
 rw [show ((sufT t x).n:Int)=(sufK t.n t.lp (posN t.n t.lp x):Nat) by simp [sufT,zbu,za8],show ((sufT t x).lp:Int)=(sufI t.lp (posN t.n t.lp x):Nat) from rfl]
 unfold sufT
 generalize posN t.n t.lp x=p0 at hp hq0 ⊢
 obtain ⟨hno,hyes⟩:=zp8 ht.n5 ht.lp hq0
 have hk5:sufK t.n t.lp p0≤5:=by unfold sufK;have:=ht.n5;omega
 have hsm:∀ j,pth t.n t.lp p0 j<5:=fun j=>ybw (zoy ht.lp hq0 j) ht.n5
 have hix:∀ j H,j≤5→VDet Tryz.prog 83 [.sl none j (cel t.n t.lp p0 j),.int .i64 (pth t.n t.lp p0 j:Nat)] H (.int .i64 (ixF (pth t.n t.lp p0 j) (olds t.n t.lp p0 j) 0)):=fun j H hj=>by
  have:=zyz (olds t.n t.lp p0 j) (pth t.n t.lp p0 j) (by rw [za8];omega) H
  rwa [za8] at this
 have hfl:((zbu t (olds t.n t.lp p0 (sufK t.n t.lp p0)) (sufI t.lp p0)).fs.flatMap encT).length=t.fs.length * 3:=by
  rw [zaq (f:=encT) (sz:=3) zbb]
  simp [zbu]
 have htk:∀ (B:Heap) (N:Nat),B.length=N→VCall Tryz.prog 46 [.agg t.cells,.sl none (sufK t.n t.lp p0) (cel t.n t.lp p0 (sufK t.n t.lp p0)),.int .i64 (sufI t.lp p0:Nat)] (B++[]) fun r H'=>r=mdK (sufK t.n t.lp p0:Nat) (sufI t.lp p0:Nat) (.vs (N+0) t.fs.length)∧H'=(B++[])++[.vec 60 3 ((zbu t (olds t.n t.lp p0 (sufK t.n t.lp p0)) (sufI t.lp p0)).fs.flatMap encT)]:=fun B N hN=>by
  subst hN
  have:=zw2 t ht h0 (olds t.n t.lp p0 (sufK t.n t.lp p0)) (sufI t.lp p0) (by rw [za8];exact hk5) (fun i hi=>by
   rw [za8] at hi
   rw [zgn _ _ _ hi]
   exact hsm i) (B++[])
  rw [za8,ya5] at this
  exact this
 have hix2:=fun H=>hix (sufK t.n t.lp p0) H hk5
 have hst5:VCall Tryz.prog 45 [.agg t.cells,.int .i64 p0] (H++[.box 27 t.cells,.box 27 [.int .u8 0,.int .i64 0,.nils,.int .i64 0,.nils,.nils,.nils],.box 33 [.int .i64 0],.box 22 [.nils]]) (fun r H'=>r=.clo (.func 89) [] [.ptr (H.length+5) 0,.ptr (H.length+4) 0]∧H'=(H++[.box 27 t.cells,.box 27 [.int .u8 0,.int .i64 0,.nils,.int .i64 0,.nils,.nils,.nils],.box 33 [.int .i64 0],.box 22 [.nils]])++[.box 27 t.cells,.box 3 [.int .i64 p0]]):=by
  have:=zmq t p0 (H++[.box 27 t.cells,.box 27 [.int .u8 0,.int .i64 0,.nils,.int .i64 0,.nils,.nils,.nils],.box 33 [.int .i64 0],.box 22 [.nils]])
  rw [ya5] at this
  exact this
 have hfb:∀ m,zaa m ((zbu t (olds t.n t.lp p0 (sufK t.n t.lp p0)) (sufI t.lp p0)).fs.flatMap encT):=fun m=>zar m _
 refine ziy (u:=.tup [.agg [.int .u8 5,.int .i64 (sufK t.n t.lp p0:Nat),.nils,.int .i64 (sufI t.lp p0:Nat),.vs (H.length+8) t.fs.length,.nils,.nils],.int .i64 0]) (u':=.tup [mdK (sufK t.n t.lp p0:Nat) (sufI t.lp p0:Nat) (.vs H.length t.fs.length),.int .i64 0])
  (loc:=blk7 t.cells [.int .u8 5,.int .i64 (sufK t.n t.lp p0:Nat),.nils,.int .i64 (sufI t.lp p0:Nat),.vs (H.length+8) t.fs.length,.nils,.nils] H.length (cel t.n t.lp p0 (sufK t.n t.lp p0)) (sufK t.n t.lp p0) (pth t.n t.lp p0 (sufK t.n t.lp p0))++([.dead]++[.vec 60 3 ((zbu t (olds t.n t.lp p0 (sufK t.n t.lp p0)) (sufI t.lp p0)).fs.flatMap encT)])) (j:=8) (t:=60) (sz:=3) (l:=(zbu t (olds t.n t.lp p0 (sufK t.n t.lp p0)) (sufI t.lp p0)).fs.flatMap encT) ?_
  (.tup (.cons (.agg (.cons (.low _ trivial) (.cons (.low _ trivial) (.cons (.low _ trivial) (.cons (.low _ trivial) (.cons (.vv rfl hfl) (.cons (.low _ trivial) (.cons (.low _ trivial) .nil)))))))) (.cons (.low _ trivial) .nil))) rfl (by rw [hfl];omega) (KpL.low (hfb _))
 generalize (zbu t (olds t.n t.lp p0 (sufK t.n t.lp p0)) (sufI t.lp p0)).fs.flatMap encT=Fc at *
 generalize hcs:t.cells=tc at hv hp hst5 htk ⊢
 have hbt:∀ m,zaa m tc:=fun m=>by rw [← hcs];simp [Tr.cells,below,zaa,zar]
 have hl7:tc=[.int .u8 5,.int .i64 t.n,.sl none 0 [],.int .i64 t.lp,.sl none t.fs.length (t.fs.flatMap encT),.sl none 0 [],.sl none 0 []]:=hcs.symm
 subst hl7
 refine fdG Tryz.func37 ⟨rfl,rfl,rfl⟩ fun hcl hbl=>?_
 (repeat' ((conv=>whnf);(first|(refine yai ?_;first|refine yas ?_|refine yaq rfl ?_|refine yau rfl ?_|fail)|refine yaf (by kernel_rfl) ?_|refine yab _ (hv _) ?_|refine yan _ (fun _ hq X=>hp _) ?_|refine zmm _ _ _ 6 hst5 rfl rfl rfl ?_|refine zad [] ?_|fail)));conv=>whnf
 refine RangeN.tokB 3 0 3 1 rfl rfl rfl rfl rfl ?_
 refine zm0 t ht rfl hcl rfl [2,4,5,6] _ rfl (by simp) rfl (sufK t.n t.lp p0) (pth t.n t.lp p0) (fun _ _=>rfl) hsm 4 5
  (fun j=>blk7 [.int .u8 5,.int .i64 t.n,.sl none 0 [],.int .i64 t.lp,.sl none t.fs.length (t.fs.flatMap encT),.sl none 0 [],.sl none 0 []] zm H.length (cel t.n t.lp p0 j) j (pth t.n t.lp p0 j)) (fun j=>blk7 [.int .u8 5,.int .i64 t.n,.sl none 0 [],.int .i64 t.lp,.sl none t.fs.length (t.fs.flatMap encT),.sl none 0 [],.sl none 0 []] zm H.length (cel t.n t.lp p0 (j+1)) (j+1) (pth t.n t.lp p0 j)) (blk7 [.int .u8 5,.int .i64 t.n,.sl none 0 [],.int .i64 t.lp,.sl none t.fs.length (t.fs.flatMap encT),.sl none 0 [],.sl none 0 []] [.int .u8 5,.int .i64 (sufK t.n t.lp p0:Nat),.nils,.int .i64 (sufI t.lp p0:Nat),.vs (H.length+8) t.fs.length,.nils,.nils] H.length (cel t.n t.lp p0 (sufK t.n t.lp p0)) (sufK t.n t.lp p0) (pth t.n t.lp p0 (sufK t.n t.lp p0))) [.vec 60 3 Fc] 1 .ret rfl
  (fun _ _=>rfl) (fun _ _=>rfl) rfl rfl (fun _ _=>rfl) (fun _ _=>rfl) (fun _ _=>rfl) (fun _ _=>rfl)
  (fun _ _=>zct hbt (fun m=>by simp [zm,zaa,below]) (zda _ _ _ _)) (by simp [zbe,below,tr]) ?_ ?_ ?_
 ·intro j hj
  have hj5:j≤5:=by omega
  have hixj:=hix j
  rw [hno j hj] at hixj
  conv=>whnf
  refine ⟨none,_,zaj rfl,zbj,?_⟩
  (repeat' ((conv=>whnf);(first|refine ydt _ zbj ?_|refine yau rfl ?_|refine yab _ (zbs (hixj _ hj5) (by (repeat' (first|exact trivial|refine yb3 ?_ ?_|exact yae _|exact wk_sl _ _ _|fail));done)) ?_|refine yaf ⟨rfl,rfl,rfl,by dsimp only;omega,by simp only [maxLen];omega⟩ ?_|refine ycd _ (by (repeat' (first|assumption|exact za7 _ rfl|exact zaj rfl|refine zbc (B':=?_) ?_|refine zap ?_|fail))) ?_|fail)));conv=>whnf
  refine ⟨none,none,true,.ready,_,.normal,zaj rfl,?_,?_,zrd (fun B hB=>?_),rfl,rfl⟩
  ·rw [zbj,← zgu]
   rfl
  ·simp only [ya5,List.length_set]
  ·rcases ybj.1 hB with h|h
   ·exact yde (Nat.le_of_eq (by simp [blk7])) (zct hbt (fun m=>by simp [zm,zaa,below]) (zda _ _ _ _) B h)
   ·simp only [yaz] at h
    subst h
    exact zea (by simp [zbe,below,tr,blk7])
 ·rw [hyes] at hix2
  conv=>whnf
  refine ⟨none,_,zaj rfl,zbj,?_⟩
  (repeat' ((conv=>whnf);(first|refine ydt _ zbj ?_|refine yaq rfl ?_|refine yab _ (zbs (hix2 _) (by (repeat' (first|exact trivial|refine yb3 ?_ ?_|exact yae _|exact wk_sl _ _ _|fail));done)) ?_|refine growN (fun N=>mdK (sufK t.n t.lp p0:Nat) (sufI t.lp p0:Nat) (.vs (N+0) t.fs.length)) _ (fun N hN=>zdb (htk _ N hN) (by (repeat' (first|exact trivial|refine yb3 ?_ ?_|exact yae _|exact wk_sl _ _ _|fail));done)) (by simp [blk7]) ?_|refine ycd _ (by (repeat' (first|assumption|exact za7 _ rfl|exact zaj rfl|refine zbc (B':=?_) ?_|refine zap ?_|fail))) ?_|fail)));conv=>whnf
  refine ⟨none,some .ret,false,.done,_,.ret,zaj rfl,rfl,rfl,?_⟩
  rw [zbj,ybe]
  have hN:∀ Y:Heap,(H++Y).length=H.length+Y.length:=fun Y=>ya5
  simp only [hN]
  rfl
 ·conv=>whnf
  exact ydu _ (yae _) ⟨rfl,rfl⟩
theorem Suffix_0 (n lp:Nat) (ht:(Tr.mk n lp []).Ok) (x:Nat) (hx:x<9223372036854775808) (H:Heap):VDet Tryz.prog 37 [.agg (Tr.mk n lp []).cells,.int .i64 x] H (.tup [mdK (sufT (Tr.mk n lp []) x).n (sufT (Tr.mk n lp []) x).lp .nils,.int .i64 0]):=by
 have hv:=fun H=>zev ht H
 have hp:=fun H=>zdt _ ht x hx H
 have hq0:=zdm (x:=x) ht.lp
 rw [show ((sufT (Tr.mk n lp []) x).n:Int)=(sufK n lp (posN n lp x):Nat) by simp [sufT,zbu,za8],show ((sufT (Tr.mk n lp []) x).lp:Int)=(sufI lp (posN n lp x):Nat) from rfl]
 have hcells:(Tr.mk n lp []).cells=[.int .u8 5,.int .i64 n,.sl none 0 [],.int .i64 lp,.sl none 0 [],.sl none 0 [],.sl none 0 []]:=rfl
 simp only at hp hq0
 generalize posN n lp x=p0 at hp hq0 ⊢
 have h5:=ht.n5
 have hlp:=ht.lp
 simp only at h5 hlp
 obtain ⟨hno,hyes⟩:=zp8 h5 hlp hq0
 have hk5:sufK n lp p0≤5:=by unfold sufK;omega
 have hsm:∀ j,pth n lp p0 j<5:=fun j=>ybw (zoy hlp hq0 j) h5
 have hix:∀ j H,j≤5→VDet Tryz.prog 83 [.sl none j (cel n lp p0 j),.int .i64 (pth n lp p0 j:Nat)] H (.int .i64 (ixF (pth n lp p0 j) (olds n lp p0 j) 0)):=fun j H hj=>by
  have:=zyz (olds n lp p0 j) (pth n lp p0 j) (by rw [za8];omega) H
  rwa [za8] at this
 have hix2:=fun H=>hix (sufK n lp p0) H hk5
 have htk:∀ Z:Heap,VDet Tryz.prog 46 [.agg [.int .u8 5,.int .i64 n,.sl none 0 [],.int .i64 lp,.sl none 0 [],.sl none 0 [],.sl none 0 []],.sl none (sufK n lp p0) (cel n lp p0 (sufK n lp p0)),.int .i64 (sufI lp p0:Nat)] Z (mdK (sufK n lp p0:Nat) (sufI lp p0:Nat) .nils):=fun Z=>by
  have:=zw3 n lp (olds n lp p0 (sufK n lp p0)) (sufI lp p0) (by rw [za8];exact hk5) Z
  rw [za8] at this
  exact this
 have hst5:VCall Tryz.prog 45 [.agg [.int .u8 5,.int .i64 n,.sl none 0 [],.int .i64 lp,.sl none 0 [],.sl none 0 [],.sl none 0 []],.int .i64 p0] (H++[.box 27 [.int .u8 5,.int .i64 n,.sl none 0 [],.int .i64 lp,.sl none 0 [],.sl none 0 [],.sl none 0 []],.box 27 [.int .u8 0,.int .i64 0,.nils,.int .i64 0,.nils,.nils,.nils],.box 33 [.int .i64 0],.box 22 [.nils]]) (fun r H'=>r=.clo (.func 89) [] [.ptr (H.length+5) 0,.ptr (H.length+4) 0]∧H'=(H++[.box 27 [.int .u8 5,.int .i64 n,.sl none 0 [],.int .i64 lp,.sl none 0 [],.sl none 0 [],.sl none 0 []],.box 27 [.int .u8 0,.int .i64 0,.nils,.int .i64 0,.nils,.nils,.nils],.box 33 [.int .i64 0],.box 22 [.nils]])++[.box 27 [.int .u8 5,.int .i64 n,.sl none 0 [],.int .i64 lp,.sl none 0 [],.sl none 0 [],.sl none 0 []],.box 3 [.int .i64 p0]]):=by
  have:=zmq (Tr.mk n lp []) p0 (H++[.box 27 [.int .u8 5,.int .i64 n,.sl none 0 [],.int .i64 lp,.sl none 0 [],.sl none 0 [],.sl none 0 []],.box 27 [.int .u8 0,.int .i64 0,.nils,.int .i64 0,.nils,.nils,.nils],.box 33 [.int .i64 0],.box 22 [.nils]])
  rw [ya5] at this
  exact this
 have hbt:∀ m,zaa m [.int .u8 5,.int .i64 n,.sl none 0 [],.int .i64 lp,.sl none 0 [],.sl none 0 [],.sl none 0 []]:=fun m=>by simp [below,zaa]
 rw [hcells] at hv hp ⊢
 refine fdD Tryz.func37 ⟨rfl,rfl,rfl⟩ fun hcl hbl=>?_
 (repeat' ((conv=>whnf);(first|(refine yai ?_;first|refine yas ?_|refine yaq rfl ?_|refine yau rfl ?_|fail)|refine yaf (by kernel_rfl) ?_|refine yab _ (hv _) ?_|refine yan _ (fun _ hq X=>hp _) ?_|refine zmm _ _ _ 6 hst5 rfl rfl rfl ?_|refine zad [] ?_|fail)));conv=>whnf
 refine RangeN.tokB 3 0 3 1 rfl rfl rfl rfl rfl ?_
 refine zm0 (Tr.mk n lp []) ht rfl hcl rfl [2,4,5,6] _ rfl (by simp) rfl (sufK n lp p0) (pth n lp p0) (fun _ _=>rfl) hsm 4 5
  (fun j=>blk7 [.int .u8 5,.int .i64 n,.sl none 0 [],.int .i64 lp,.sl none 0 [],.sl none 0 [],.sl none 0 []] zm H.length (cel n lp p0 j) j (pth n lp p0 j)) (fun j=>blk7 [.int .u8 5,.int .i64 n,.sl none 0 [],.int .i64 lp,.sl none 0 [],.sl none 0 [],.sl none 0 []] zm H.length (cel n lp p0 (j+1)) (j+1) (pth n lp p0 j)) (blk7 [.int .u8 5,.int .i64 n,.sl none 0 [],.int .i64 lp,.sl none 0 [],.sl none 0 [],.sl none 0 []] [.int .u8 5,.int .i64 (sufK n lp p0:Nat),.nils,.int .i64 (sufI lp p0:Nat),.nils,.nils,.nils] H.length (cel n lp p0 (sufK n lp p0)) (sufK n lp p0) (pth n lp p0 (sufK n lp p0))) [] 0 .ret rfl
  (fun _ _=>rfl) (fun _ _=>rfl) rfl rfl (fun _ _=>rfl) (fun _ _=>rfl) (fun _ _=>rfl) (fun _ _=>rfl)
  (fun _ _=>zct hbt (fun m=>by simp [zm,zaa,below]) (zda _ _ _ _)) (by simp [zbe,below,tr]) ?_ ?_ ?_
 ·intro j hj
  have hj5:j≤5:=by omega
  have hixj:=hix j
  rw [hno j hj] at hixj
  conv=>whnf
  refine ⟨none,_,zaj rfl,zbj,?_⟩
  (repeat' ((conv=>whnf);(first|refine ydt _ zbj ?_|refine yau rfl ?_|refine yab _ (zbs (hixj _ hj5) (by (repeat' (first|exact trivial|refine yb3 ?_ ?_|exact yae _|exact wk_sl _ _ _|fail));done)) ?_|refine yaf ⟨rfl,rfl,rfl,by dsimp only;omega,by simp only [maxLen];omega⟩ ?_|refine ycd _ (by (repeat' (first|assumption|exact za7 _ rfl|exact zaj rfl|refine zbc (B':=?_) ?_|refine zap ?_|fail))) ?_|fail)));conv=>whnf
  refine ⟨none,none,true,.ready,_,.normal,zaj rfl,?_,?_,zrd (fun B hB=>?_),rfl,rfl⟩
  ·rw [zbj,← zgu]
   rfl
  ·simp only [ya5,List.length_set]
  ·rcases ybj.1 hB with h|h
   ·exact yde (Nat.le_of_eq (by simp [blk7])) (zct hbt (fun m=>by simp [zm,zaa,below]) (zda _ _ _ _) B h)
   ·simp only [yaz] at h
    subst h
    exact zea (by simp [zbe,below,tr,blk7])
 ·rw [hyes] at hix2
  conv=>whnf
  refine ⟨none,_,zaj rfl,zbj,?_⟩
  (repeat' ((conv=>whnf);(first|refine ydt _ zbj ?_|refine yaq rfl ?_|(refine ybk ?_;first|refine yab _ (zbs (hix2 _) (by (repeat' (first|exact trivial|refine yb3 ?_ ?_|exact yae _|exact wk_sl _ _ _|fail));done)) ?_|refine yab _ (zbs (htk _) (by (repeat' (first|exact trivial|refine yb3 ?_ ?_|exact yae _|exact wk_sl _ _ _|fail));done)) ?_|fail)|refine ycd _ (by (repeat' (first|assumption|exact za7 _ rfl|exact zaj rfl|refine zbc (B':=?_) ?_|refine zap ?_|fail))) ?_|fail)));conv=>whnf
  refine ⟨none,some .ret,false,.done,_,.ret,zaj rfl,rfl,rfl,?_⟩
  rw [zbj,ybe]
  rfl
 ·conv=>whnf
  exact eT (by simp [below,zaa])
theorem zwo (m:Mdl) (hm:∀ H,VDet Tryz.prog 43 [.agg m.cells] H (.bool false)) (x:Int) (H:Heap):VDet Tryz.prog 37 [.agg m.cells,.int .i64 x] H (.tup [mdZ,.int .i64 2]):=by
 unfold Mdl.cells at *
 refine fdD Tryz.func37 ⟨rfl,rfl,rfl⟩ fun hcl hbl=>?_
 (repeat' ((conv=>whnf);(first|(refine yai ?_;first|refine yas ?_|refine yau rfl ?_|fail)|refine yab _ (hm _) ?_|fail)));conv=>whnf
 exact eT (by simp [below,zaa])
theorem zwn (t:Tr) (ht:t.Ok) (x:Int) (hx:x<0) (H:Heap):VDet Tryz.prog 37 [.agg t.cells,.int .i64 x] H (.tup [mdZ,.int .i64 2]):=by
 have hm:=fun H=>zev ht H
 unfold Tr.cells at *
 refine fdD Tryz.func37 ⟨rfl,rfl,rfl⟩ fun hcl hbl=>?_
 (repeat' ((conv=>whnf);(first|(refine yai ?_;first|refine yas ?_|refine yaq rfl ?_|refine yar (by omega) ?_|fail)|refine yab _ (hm _) ?_|fail)));conv=>whnf
 exact eT (by simp [below,zaa])
theorem zml (t:Tr) (ht:t.Ok) (x:Nat) (hx:x<9223372036854775808) (H:Heap):VDet Tryz.prog 33 [.agg t.cells,.int .i64 x] H (.tup [.int .i64 (posN t.n t.lp x),.int .i64 0]):=by
 have hm:=fun H=>zev ht H
 have hp:=fun H=>zdt t ht x hx H
 unfold Tr.cells at *
 refine fdD Tryz.func33 ⟨rfl,rfl,rfl⟩ fun hcl hbl=>?_
 (repeat' ((conv=>whnf);(first|(refine yai ?_;first|refine yas ?_|refine yaq rfl ?_|refine yau rfl ?_|fail)|(refine ybk ?_;first|refine yab _ (hm _) ?_|refine yab _ (hp _) ?_|fail)|fail)));conv=>whnf
 exact eT (by simp [below,zaa])
theorem zp2 (t:Tr) (ht:t.Ok) (x:Int) (hx:x<0) (H:Heap):VDet Tryz.prog 33 [.agg t.cells,.int .i64 x] H (.tup [.int .i64 0,.int .i64 2]):=by
 have hm:=fun H=>zev ht H
 unfold Tr.cells at *
 refine fdD Tryz.func33 ⟨rfl,rfl,rfl⟩ fun hcl hbl=>?_
 (repeat' ((conv=>whnf);(first|(refine yai ?_;first|refine yas ?_|refine yaq rfl ?_|refine yar (by omega) ?_|fail)|refine yab _ (hm _) ?_|fail)));conv=>whnf
 exact eT (by simp [below,zaa])
theorem zp3 (m:Mdl) (hm:∀ H,VDet Tryz.prog 43 [.agg m.cells] H (.bool false)) (x:Int) (H:Heap):VDet Tryz.prog 33 [.agg m.cells,.int .i64 x] H (.tup [.int .i64 0,.int .i64 2]):=by
 unfold Mdl.cells at *
 refine fdD Tryz.func33 ⟨rfl,rfl,rfl⟩ fun hcl hbl=>?_
 (repeat' ((conv=>whnf);(first|(refine yai ?_;first|refine yas ?_|refine yau rfl ?_|fail)|refine yab _ (hm _) ?_|fail)));conv=>whnf
 exact eT (by simp [below,zaa])
theorem refAt_t (t:Tr) (ht:t.Ok) (f:Tf) (htf:f.Temp) (hr:∀ H,VDet Tryz.prog 73 [.agg f.cells] H (.bool true)) (H:Heap) :
  VDet Tryz.prog 70 [.agg t.cells,.agg f.cells] H (.tup [.int .i64 ((if miss t f=true then 0 else evT t f:Nat):Int),.int .i64 (if miss t f=true then 6 else 0)]):=by
 have hv:=fun H=>zeg ht H
 have hh:=has_c t ht f htf
 have hT:=tr_c t ht f htf
 have he:=zc9 ht f
 unfold HasP at hh
 unfold TrP at hT
 have hS0:∀ k,sumK (evT t f) k=evT t f % 2 ^ k:=zw4 _
 have hS:sumK (evT t f) t.n=evT t f:=by rw [hS0,Nat.mod_eq_of_lt he]
 have hSl:∀ k,k≤5→sumK (evT t f) k<32:=fun k hk=>by rw [hS0];exact p2_32 (Nat.mod_lt _ (Nat.two_pow_pos k)) hk
 have hst:∀ k,sumK (evT t f) (k+1)=sumK (evT t f) k+if (evT t f).testBit k=true then 1 <<< k else 0:=fun k=>rfl
 have hs0:sumK (evT t f) 0=0:=rfl
 generalize miss t f=b at *
 cases b with
 | true =>
   obtain ⟨n,lp,fs⟩:=t
   unfold Tr.cells Tf.cells at *
   refine fdD Tryz.func70 ⟨rfl,rfl,rfl⟩ fun hcl hbl=>?_
   (repeat' ((conv=>whnf);(first|(refine yai ?_;first|refine yas ?_|refine yaq rfl ?_|fail)|(refine ybk ?_;first|refine yab _ (hv _) ?_|refine yab _ (hr _) ?_|refine yab _ (hh _) ?_|fail)|fail)));conv=>whnf
   exact eT (by simp [below,zaa])
 | false =>
   simp only [ya9,if_false]
   generalize sumK (evT t f)=S at hS hSl hst hs0
   generalize (evT t f).testBit=F at hT hst
   generalize evT t f=e at *
   clear hS0
   obtain ⟨n,lp,fs⟩:=t
   have h1:=ht.n1
   have h2:=ht.n5
   unfold Tr.cells Tf.cells at *
   simp only at h1 h2 hv hh hT hr hS ⊢
   refine fdD Tryz.func70 ⟨rfl,rfl,rfl⟩ fun hcl hbl=>?_
   (repeat' ((conv=>whnf);(first|(refine yai ?_;first|refine yas ?_|refine yaq rfl ?_|refine yau rfl ?_|fail)|(refine ybk ?_;first|refine yab _ (hv _) ?_|refine yab _ (hr _) ?_|refine yab _ (hh _) ?_|refine yab _ (hT _) ?_|fail)|fail)));conv=>whnf
   refine zam Tryz.E0 zaf (σ:=Nat) (fun k=>k≤n) (fun k=>n-k) (fun k=>[(8,.v (.int .i64 k)),(6,.v (.int .i64 (S k:Nat)))]) (fun _=>_) _ 0 rfl hcl [2,3,7] rfl (yah _) ⟨⟨_,rfl,yae _⟩,⟨_,rfl,Wk.of_eq (by rw [hs0];rfl)⟩,trivial⟩ rfl (fun _ _=>rfl) ?_
   intro k hk
   clear hbl
   have hl:=hSl k (by omega)
   have hsl:1 <<< k=2 ^ k:=Nat.one_shiftLeft k
   have h32:2 ^ k≤32:=ybi (yb7 (n:=2) (by decide) (show k≤5 by omega)) (by decide)
   have hn:=hst k
   rcases yag k n with hlt|hge
   ·(repeat' ((conv=>whnf);(first|(refine yai ?_;first|refine yar (by omega) ?_|(refine IfN.mk ?_ ?_ <;> intro _)|fail)|(refine yct ?_;first|refine zac (S k) (1 <<< k) rfl rfl (by omega) ?_|(refine zde _ _ Cst.h Cst.h rfl ?_ ?_ ?_;(· (repeat' (first|omega|refine yb3 ?_ ?_|exact zag (by omega)|exact zat (by omega)|refine zbf ?_ ?_|refine zas ?_ ?_|refine za2 ?_ ?_|refine zao ?_ ?_|refine za3 ?_|refine za4 ?_ ?_|refine za5 ?_|refine zag ?_|fail)));(· (repeat' (first|omega|refine yb3 ?_ ?_|exact zag (by omega)|exact zat (by omega)|refine zbf ?_ ?_|refine zas ?_ ?_|refine za2 ?_ ?_|refine zao ?_ ?_|refine za3 ?_|refine za4 ?_ ?_|refine za5 ?_|refine zag ?_|fail))))|(refine zac _ _ Cst.h Cst.h ?_ ?_;· omega)|fail)|(refine yaf ?_ ?_;· first|omega|exact yaa _ _|fail)|refine zgy k rfl hlt ?_|fail)));all_goals (conv=>whnf)
    ·rename_i hA
     rw [if_pos hA] at hn
     rw [← hn]
     (refine ⟨⟨k+1,by show k+1≤_;omega,by omega,?_,.inl ⟨rfl,rfl⟩,rfl,_,rfl,?_⟩⟩;rotate_left 1;exact .inl rfl;exact ⟨⟨_,rfl,yae _⟩,⟨_,rfl,yae _⟩,trivial⟩)
    ·rename_i hA
     have hn:S (k+1)=S k:=by rw [hst k,hA];rfl
     rw [← hn]
     (refine ⟨⟨k+1,by show k+1≤_;omega,by omega,?_,.inl ⟨rfl,rfl⟩,rfl,_,rfl,?_⟩⟩;rotate_left 1;exact .inl rfl;exact ⟨⟨_,rfl,yae _⟩,⟨_,rfl,yae _⟩,trivial⟩)
   ·obtain rfl:k=n:=by omega
    rw [hS]
    (repeat' ((conv=>whnf);(first|refine zah (by omega) ?_|fail)));conv=>whnf
    exact eT (by simp [below,zaa])
theorem refAt_no (m:Mdl) (f:Fo) (x y:Bool) (hxy:x=false∨(x=true∧y=false)) (hm:∀ H,VDet Tryz.prog 57 [.agg m.cells] H (.bool x)) (hr:∀ H,VDet Tryz.prog 73 [.agg f.cells] H (.bool y)) (H:Heap):VDet Tryz.prog 70 [.agg m.cells,.agg f.cells] H (.tup [.int .i64 0,.int .i64 2]):=by
 obtain ⟨w1,w2,w3,w4,w5,w6,hce,-⟩:=zer f
 rw [hce] at hr ⊢
 unfold Mdl.cells at *
 rcases hxy with rfl|⟨rfl,rfl⟩
 all_goals
  refine fdD Tryz.func70 ⟨rfl,rfl,rfl⟩ fun hcl hbl=>?_
  (repeat' ((conv=>whnf);(first|(refine yai ?_;first|refine yas ?_|refine yaq rfl ?_|refine yau rfl ?_|fail)|(refine ybk ?_;first|refine yab _ (hm _) ?_|refine yab _ (hr _) ?_|fail)|fail)));all_goals (conv=>whnf)
  exact eT (by simp [below,zaa])
theorem refPos_t (t:Tr) (ht:t.Ok) (x:Nat) (hx:x<9223372036854775808) (H:Heap):VDet Tryz.prog 71 [.agg t.cells,.int .i64 x] H (.tup [.int .i64 (posN t.n t.lp x),.int .i64 0]):=by
 have hm:=fun H=>zeg ht H
 have hp:=fun H=>zdl t ht x hx H
 unfold Tr.cells at *
 refine fdD Tryz.func71 ⟨rfl,rfl,rfl⟩ fun hcl hbl=>?_
 (repeat' ((conv=>whnf);(first|(refine yai ?_;first|refine yas ?_|refine yaq rfl ?_|refine yau rfl ?_|fail)|(refine ybk ?_;first|refine yab _ (hm _) ?_|refine yab _ (hp _) ?_|fail)|fail)));conv=>whnf
 exact eT (by simp [below,zaa])
theorem zu7 (t:Tr) (ht:t.Ok) (x:Int) (hx:x<0) (H:Heap):VDet Tryz.prog 71 [.agg t.cells,.int .i64 x] H (.tup [.int .i64 0,.int .i64 2]):=by
 have hm:=fun H=>zeg ht H
 unfold Tr.cells at *
 refine fdD Tryz.func71 ⟨rfl,rfl,rfl⟩ fun hcl hbl=>?_
 (repeat' ((conv=>whnf);(first|(refine yai ?_;first|refine yas ?_|refine yaq rfl ?_|refine yar (by omega) ?_|fail)|refine yab _ (hm _) ?_|fail)));conv=>whnf
 exact eT (by simp [below,zaa])
theorem zu8 (m:Mdl) (hm:∀ H,VDet Tryz.prog 57 [.agg m.cells] H (.bool false)) (x:Int) (H:Heap):VDet Tryz.prog 71 [.agg m.cells,.int .i64 x] H (.tup [.int .i64 0,.int .i64 2]):=by
 unfold Mdl.cells at *
 refine fdD Tryz.func71 ⟨rfl,rfl,rfl⟩ fun hcl hbl=>?_
 (repeat' ((conv=>whnf);(first|(refine yai ?_;first|refine yas ?_|refine yau rfl ?_|fail)|refine yab _ (hm _) ?_|fail)));conv=>whnf
 exact eT (by simp [below,zaa])
theorem zu3 (t:Tr) (ht:t.Ok) (x:Int) (hx:x<0) (H:Heap):VDet Tryz.prog 72 [.agg t.cells,.int .i64 x] H (.tup [mdZ,.int .i64 2]):=by
 have hm:=fun H=>zeg ht H
 unfold Tr.cells at *
 refine fdD Tryz.func72 ⟨rfl,rfl,rfl⟩ fun hcl hbl=>?_
 (repeat' ((conv=>whnf);(first|(refine yai ?_;first|refine yas ?_|refine yaq rfl ?_|refine yar (by omega) ?_|fail)|refine yab _ (hm _) ?_|fail)));conv=>whnf
 exact eT (by simp [below,zaa])
theorem zu4 (m:Mdl) (hm:∀ H,VDet Tryz.prog 57 [.agg m.cells] H (.bool false)) (x:Int) (H:Heap):VDet Tryz.prog 72 [.agg m.cells,.int .i64 x] H (.tup [mdZ,.int .i64 2]):=by
 unfold Mdl.cells at *
 refine fdD Tryz.func72 ⟨rfl,rfl,rfl⟩ fun hcl hbl=>?_
 (repeat' ((conv=>whnf);(first|(refine yai ?_;first|refine yas ?_|refine yau rfl ?_|fail)|refine yab _ (hm _) ?_|fail)));conv=>whnf
 exact eT (by simp [below,zaa])
theorem ixF_ge (v:Nat):∀ (l:List Nat) (k:Nat),ixF v l k=-1∨(k:Int)≤ixF v l k
 | [],_=>.inl rfl
 | p::l,k=>by
   unfold ixF
   split
   ·exact .inr (Int.le_refl _)
   ·rcases ixF_ge v l (k+1) with h|h
    ·exact .inl h
    ·exact .inr (by omega)
theorem ixF_no (v:Nat):∀ (l:List Nat) (k:Nat),ixF v l k=-1→∀ i,i<l.length→l.getD i 0≠v
 | [],_,_,i,hi=>by simp at hi
 | p::l,k,h,i,hi=>by
   unfold ixF at h
   split at h
   ·omega
   ·rename_i hp
    cases i with
    | zero=>exact hp
    | succ i=>exact ixF_no v l (k+1) h i (by simpa using hi)
theorem zyv (v:Nat):∀ (l:List Nat) (k I:Nat),ixF v l k=((k+I:Nat):Int)→I<l.length∧l.getD I 0=v∧∀ i,i<I→l.getD i 0≠v
 | [],k,I,h=>by unfold ixF at h;omega
 | p::l,k,I,h=>by
   unfold ixF at h
   split at h
   ·rename_i hp
    have:I=0:=by omega
    subst this
    exact ⟨by simp,hp,fun i hi=>absurd hi (Nat.not_lt_zero i)⟩
   ·rename_i hp
    rcases I with _|I
    ·rcases ixF_ge v l (k+1) with h2|h2 <;> omega
    ·obtain ⟨h1,h2,h3⟩:=zyv v l (k+1) I (by rw [h];congr 1;omega)
     refine ⟨by simpa using h1,h2,fun i hi=>?_⟩
     cases i with
     | zero=>exact hp
     | succ i=>exact h3 i (by omega)
theorem refSuf_t (t:Tr) (ht:t.Ok) (x:Nat) (hx:x<9223372036854775808) (H:Heap) :
  VDet Tryz.prog 72 [.agg t.cells,.int .i64 x] H (.tup [mdK (sufT t x).n (sufT t x).lp (.sl none t.fs.length ((sufT t x).fs.flatMap encT)),.int .i64 0]):=by
 have hv:=fun H=>zeg ht H
 have hp:=fun H=>zdl t ht x hx H
 have hq0:=zdm (x:=x) ht.lp
 have hnx:=fun q hq H=>ztk t ht q hq H
 rw [show ((sufT t x).n:Int)=(sufK t.n t.lp (posN t.n t.lp x):Nat) by simp [sufT,zbu,za8],show ((sufT t x).lp:Int)=(sufI t.lp (posN t.n t.lp x):Nat) from rfl]
 unfold sufT
 generalize posN t.n t.lp x=q0 at hp hq0 ⊢
 obtain ⟨hno,hyes⟩:=zp8 ht.n5 ht.lp hq0
 have hk5:sufK t.n t.lp q0≤5:=by unfold sufK;have:=ht.n5;omega
 have hyes:=zyv (pth t.n t.lp q0 (sufK t.n t.lp q0)) (olds t.n t.lp q0 (sufK t.n t.lp q0)) 0 (sufI t.lp q0) (by rw [hyes,ybv])
 rw [za8] at hyes
 obtain ⟨hI1,hI2,hI3⟩:=hyes
 have hno:∀ j,j<sufK t.n t.lp q0→∀ i,i<j→(olds t.n t.lp q0 j).getD i 0≠pth t.n t.lp q0 j:=fun j hj i hi=>ixF_no _ _ 0 (hno j hj) i (by rw [za8];exact hi)
 have hsm:∀ j,pth t.n t.lp q0 j<t.n:=fun j=>zoy ht.lp hq0 j
 have hnx:∀ j H,VDet Tryz.prog 107 [.agg t.cells,.int .i64 (pth t.n t.lp q0 j:Nat)] H (.int .i64 (pth t.n t.lp q0 (j+1):Nat)):=fun j H=>hnx _ (hsm j) H
 have hol:∀ j,(olds t.n t.lp q0 j).length=j:=fun j=>za8 _ _ _ _
 have hog:∀ i,i<sufK t.n t.lp q0→(olds t.n t.lp q0 (sufK t.n t.lp q0)).getD i 0<5:=fun i hi=>by
  rw [zgn _ _ _ hi]
  exact ybw (hsm i) ht.n5
 have hsc:∀ j,(olds t.n t.lp q0 (j+1)).flatMap encN=(olds t.n t.lp q0 j).flatMap encN++[.int .i64 (pth t.n t.lp q0 j:Nat)]:=fun j=>(zgu _ _ _ _).symm
 have hfs:(zbu t (olds t.n t.lp q0 (sufK t.n t.lp q0)) (sufI t.lp q0)).fs=t.fs.map (tkF (olds t.n t.lp q0 (sufK t.n t.lp q0))):=rfl
 have hp00:pth t.n t.lp q0 0=q0:=rfl
 have ho0:olds t.n t.lp q0 0=[]:=rfl
 have hlen:=ht.len
 have hsmm:=fun i hi=>ht.small i hi
 have h5:=ht.n5
 rw [hfs]
 generalize sufK t.n t.lp q0=K at *
 generalize sufI t.lp q0=I at *
 generalize pth t.n t.lp q0=P at *
 generalize olds t.n t.lp q0=O at *
 have hpl:∀ j,P j<5:=fun j=>ybw (hsm j) h5
 clear hfs hsm
 obtain ⟨n,lp,fs⟩:=t
 unfold Tr.cells at hv hp hnx ⊢
 simp only at hv hp hnx h5 hlen hsmm ⊢
 refine fdD Tryz.func72 ⟨rfl,rfl,rfl⟩ fun hcl hbl=>?_
 (repeat' ((conv=>whnf);(first|(refine yai ?_;first|refine yas ?_|refine yaq rfl ?_|refine yau rfl ?_|fail)|(refine ybk ?_;first|refine yab _ (hv _) ?_|refine yab _ (hp _) ?_|fail)|fail)));conv=>whnf
 refine LoopN.tok 6 3 1 rfl rfl rfl ?_
 refine zam Tryz.E0 zaf (σ:=Nat) (fun j=>j≤K) (fun j=>K-j) (fun j=>[(6,.v (.sl (some (H.length+2)) j ((O j).flatMap encN))),(7,.v (.int .i64 (P j:Nat)))]) (fun j=>[.box 27 [.int .u8 5,.int .i64 n,.sl none 0 [],.int .i64 lp,.sl none fs.length (fs.flatMap encT),.sl none 0 [],.sl none 0 []],.box 27 [.int .u8 0,.int .i64 0,.nils,.int .i64 0,.nils,.nils,.nils],.tok 3 1 ((O j).flatMap encN).length]) _ 0 rfl hcl [1,2,4,5] rfl (yah _) ⟨⟨_,rfl,Wk.of_eq (by rw [ho0];rfl)⟩,⟨_,rfl,Wk.of_eq (by rw [hp00])⟩,trivial⟩ (by rw [ho0];rfl) (fun _ _=>rfl) ?_
 intro j hj
 clear hbl
 have hoj:((O j).flatMap encN).length=j:=by rw [zaq (sz:=1) (fun _=>rfl),hol];omega
 conv=>whnf
 refine zam Tryz.E0 zaf (σ:=Nat) (fun i=>i≤j∧(j=K→i≤I)) (fun i=>j-i) (fun i=>[(8,.v (.int .i64 i))]) (fun _=>_) _ 0 rfl hcl [1,2,4,5,6,7] rfl ⟨yah _,fun _=>yah _⟩ ⟨⟨_,rfl,yae _⟩,trivial⟩ rfl (fun _ _=>rfl) ?_
 rintro i ⟨hi,hiK⟩
 rcases yag i j with hil|hig
 ·by_cases hfound:j=K∧i=I
  ·obtain ⟨rfl,rfl⟩:=hfound
   have hol2:=hol j
   have hbc:∀ m,zaa m ((O j).flatMap encN):=fun m=>zbo m _
   (repeat' ((conv=>whnf);(first|(refine yai ?_;first|refine yaq (by rw [hI2];exact beq_self_eq_true _) ?_|refine yar (by omega) ?_|fail)|(refine yaf ?_ ?_;· first|omega|exact yaa _ _|fail)|refine zce 0 i rfl (by omega) (fun _=>rfl) ?_|fail)));conv=>whnf
   refine LoopN.tokB 3 4 60 3 rfl rfl rfl rfl rfl rfl ?_
   refine zam Tryz.E0 zaf (σ:=Nat×List AV) (fun k=>k.1≤fs.length∧k.2=((fs.take k.1).map (tkF (O j))).flatMap encT) (fun k=>fs.length-k.1) (fun k=>[(10,.v (.int .i64 k.1))]) (fun k=>[.box 27 [.int .u8 5,.int .i64 n,.sl none 0 [],.int .i64 lp,.sl none fs.length (fs.flatMap encT),.sl none 0 [],.sl none 0 []],.box 27 [.int .u8 0,.int .i64 0,.nils,.int .i64 0,.nils,.nils,.nils],.tok 3 1 ((O j).flatMap encN).length,.box 27 [.int .u8 5,.int .i64 j,.nils,.int .i64 i,.sl (some (H.length+4)) k.1 k.2,.nils,.nils],.tok 60 3 k.2.length]) _ (0,[]) rfl hcl [1,2,4,5,6,7,8,9] rfl ⟨yah _,rfl⟩ ⟨⟨_,rfl,yae _⟩,trivial⟩ rfl (fun _ _=>rfl) ?_
   rintro ⟨k,cs⟩ ⟨hk,hcs⟩
   simp only at hk hcs ⊢
   have hcb:∀ m,zaa m cs:=fun m=>by rw [hcs];exact zar m _
   rcases yag k fs.length with hkl|hkg
   ·obtain ⟨s,m,e2⟩:∃ s m,fs.getD k p0=(s,m):=⟨_,_,rfl⟩
    have qc:encT (fs.getD k p0)=[.str s,.int .i64 0,.int .i64 m]:=by rw [e2];rfl
    have h32:m<32:=by
     have:=hsmm k hkl
     unfold ft at this
     rw [e2] at this
     exact this
    have hcl3:cs.length=k * 3:=by
     rw [hcs,zaq (sz:=3) (fun _=>rfl)]
     simp [ych hk]
    have hnew:((fs.take (k+1)).map (tkF (O j))).flatMap encT=cs++[.str s,.int .i64 0,.int .i64 (tkK (O j) m j:Nat)]:=by
     rw [← zdn (tkF (O j)) fs p0 k hkl,ybx,hcs,e2]
     unfold tkF
     rw [hol]
     rfl
    (repeat' ((conv=>whnf);(first|refine yar (by omega) ?_|(refine yaf ?_ ?_;· first|omega|exact yaa _ _|fail)|refine SegN.nthE p0 k rfl hkl zbb qc ?_|fail)));conv=>whnf
    refine zam Tryz.E0 zaf (σ:=Nat) (fun s=>s≤j) (fun s=>j-s) (fun s=>[(12,.v (.int .i64 s))]) (fun y=>[.box 27 [.int .u8 5,.int .i64 n,.sl none 0 [],.int .i64 lp,.sl none fs.length (fs.flatMap encT),.sl none 0 [],.sl none 0 []],.box 27 [.int .u8 0,.int .i64 0,.nils,.int .i64 0,.nils,.nils,.nils],.tok 3 1 ((O j).flatMap encN).length,.box 27 [.int .u8 5,.int .i64 j,.nils,.int .i64 i,.sl (some (H.length+4)) k cs,.nils,.nils],.tok 60 3 cs.length,.box 60 [.str s,.int .i64 0,.int .i64 (tkK (O j) m y:Nat)]]) _ 0 rfl hcl [1,2,4,5,6,7,8,9,10,11] rfl (yah _) ⟨⟨_,rfl,yae _⟩,trivial⟩ rfl (fun _ _=>rfl) ?_
    intro y hy
    have hb:tkK (O j) m y<2 ^ y:=zll _ _ y
    have hb2:2 ^ y≤32:=ybi (yb7 (n:=2) (by decide) (show y≤5 by omega)) (by decide)
    rcases yag y j with hyl|hyg
    ·have hg:=hog y hyl
     have h1:=fun h=>@tk_one (O j) m y h
     have h2:=fun h=>@zwv (O j) m y h
     have hsl:1 <<< y=2 ^ y:=Nat.one_shiftLeft y
     obtain ⟨g,hgg⟩:∃ g,(O j).getD y 0=g:=⟨_,rfl⟩
     have qg:encN ((O j).getD y 0)=[.int .i64 (g:Nat)]:=by rw [hgg];rfl
     rw [hgg] at h1 h2 hg
     generalize hT:tkK (O j) m y=T at *
     generalize hT2:tkK (O j) m (y+1)=T2 at *
     (repeat' ((conv=>whnf);(first|(refine yai ?_;first|refine yar (by omega) ?_|refine za1 (fun _=>?_) (fun _=>?_)|fail)|(refine yct ?_;first|refine zd4 m g rfl rfl (by decide) (by omega) ?_|refine zby (m >>> g) 2 rfl rfl ?_|refine zac T (1 <<< y) rfl rfl (by omega) ?_|(refine zde _ _ Cst.h Cst.h rfl ?_ ?_ ?_;(· (repeat' (first|omega|refine yb3 ?_ ?_|exact zag (by omega)|exact zat (by omega)|refine zbf ?_ ?_|refine zas ?_ ?_|refine za2 ?_ ?_|refine zao ?_ ?_|refine za3 ?_|refine za4 ?_ ?_|refine za5 ?_|refine zag ?_|fail)));(· (repeat' (first|omega|refine yb3 ?_ ?_|exact zag (by omega)|exact zat (by omega)|refine zbf ?_ ?_|refine zas ?_ ?_|refine za2 ?_ ?_|refine zao ?_ ?_|refine za3 ?_|refine za4 ?_ ?_|refine za5 ?_|refine zag ?_|fail))))|(refine zac _ _ Cst.h Cst.h ?_ ?_;· omega)|fail)|(refine yaf ?_ ?_;· first|kernel_rfl|omega|exact yaa _ _|fail)|refine SegN.nthE p0 k rfl hkl zbb qc ?_|refine SegN.nthE (f:=encN) 0 y rfl (by omega) (fun _=>rfl) qg ?_|refine zad [] ?_|fail)));all_goals (conv=>whnf)
     ·rename_i h3
      have h4:=h1 (by omega)
      rw [← h4]
      subst hT2
      (refine ⟨⟨y+1,by show y+1≤_;omega,by omega,?_,.inl ⟨rfl,rfl⟩,rfl,_,rfl,?_⟩⟩;rotate_left 1;exact .inl rfl;exact ⟨⟨_,rfl,yae _⟩,trivial⟩)
     ·rename_i h3
      have h4:=h2 (fun q=>h3 (by rw [q];rfl))
      rw [← h4]
      subst hT2
      (refine ⟨⟨y+1,by show y+1≤_;omega,by omega,?_,.inl ⟨rfl,rfl⟩,rfl,_,rfl,?_⟩⟩;rotate_left 1;exact .inl rfl;exact ⟨⟨_,rfl,yae _⟩,trivial⟩)
    ·obtain rfl:y=j:=by omega
     (repeat' ((conv=>whnf);(first|refine zah (by omega) ?_|(refine zac _ _ Cst.h Cst.h ?_ ?_;· omega)|refine yaf ⟨rfl,rfl,rfl,by dsimp only;omega,by simp only [maxLen];omega⟩ ?_|refine yca _ rfl ?_|fail)));conv=>whnf
     (refine ⟨⟨(k+1,cs++[.str s,.int .i64 0,.int .i64 (tkK (O y) m y:Nat)]),⟨by simp only;omega,hnew.symm⟩,by omega,?_,.inr ?_,rfl,_,rfl,?_⟩⟩;rotate_left 2;exact .inr ⟨by simp [zbe,below,zaa,tr,zar,Tf.sc_below,zcn,zbo,hbc,zak,hcb],by simp [zcj,Blk.below,zaa,below,zar,Tf.sc_below,zcn,zbo,hbc,zak,hcb]⟩;all_goals (repeat' (first|exact trivial|refine ⟨⟨_,rfl,?_⟩,?_⟩|fail));all_goals exact yae _)
   ·obtain rfl:k=fs.length:=by omega
    rw [ya2] at hcs
    subst hcs
    (repeat' ((conv=>whnf);(first|refine zah (by omega) ?_|fail)));conv=>whnf
    exact ya1 (by simp [below,zaa,zar]) (by (repeat' (first|exact trivial|refine yb3 ?_ ?_|exact yae _|exact wk_sl _ _ _|refine zbm ?_|refine zhl ?_|fail));done)
  ·have hne:(O j).getD i 0≠P j:=by
    rcases yag j K with h|h
    ·exact hno j h i hil
    ·obtain rfl:j=K:=by omega
     exact hI3 i (by have:=hiK rfl;omega)
   have hol2:=hol j
   obtain ⟨g,hgg⟩:∃ g,(O j).getD i 0=g:=⟨_,rfl⟩
   have qg:encN ((O j).getD i 0)=[.int .i64 (g:Nat)]:=by rw [hgg];rfl
   rw [hgg] at hne
   (repeat' ((conv=>whnf);(first|(refine yai ?_;first|refine yau (beq_eq_false_iff_ne.2 fun e=>hne (Int.natCast_inj.1 e)) ?_|refine yar (by omega) ?_|fail)|(refine zac _ _ Cst.h Cst.h ?_ ?_;· omega)|(refine yaf ?_ ?_;· first|omega|exact yaa _ _|fail)|refine SegN.nthE (f:=encN) 0 i rfl (by omega) (fun _=>rfl) qg ?_|fail)));conv=>whnf
   (refine ⟨⟨i+1,⟨by omega,fun e=>by have:=hiK e;omega⟩,by omega,?_,.inl ⟨rfl,rfl⟩,rfl,_,rfl,?_⟩⟩;rotate_left 1;exact .inl rfl;exact ⟨⟨_,rfl,yae _⟩,trivial⟩)
 ·obtain rfl:i=j:=by omega
  have hjK:i<K:=by
   rcases yag i K with h|h
   ·exact h
   ·have:=hiK (by omega)
    omega
  have hx1:=hnx i
  have hsi:=hsc i
  have hpi:=hpl i
  (repeat' ((conv=>whnf);(first|refine zah (by omega) ?_|refine yab _ (hx1 _) ?_|refine yaf ⟨rfl,rfl,rfl,by dsimp only;omega,by simp only [maxLen];omega⟩ ?_|refine yca _ rfl ?_|fail)));conv=>whnf
  rw [← hsi]
  (refine ⟨⟨i+1,by show i+1≤_;omega,by omega,?_,.inr ?_,rfl,_,rfl,?_⟩⟩;rotate_left 2;exact .inl rfl;all_goals (repeat' (first|exact trivial|refine ⟨⟨_,rfl,?_⟩,?_⟩|fail));all_goals exact yae _)
theorem cmp_ms (H:Heap) (ka sa la:Int) (na1 na2 na3 na4 ia1 ia2 ia3 ia4 ma1 ma2 ma3 ma4:Nat) (ca1 ca2 ca3 ca4:List AV) (kb sb lb:Int) (nb1 nb2 nb3 nb4 ib1 ib2 ib3 ib4 mb1 mb2 mb3 mb4:Nat) (cb1 cb2 cb3 cb4:List AV) (nn:Nat) (nc:List AV) (hn:nn≤20) (size N:Int) (XA XB:Heap) (xa xb:Nat) (hXa:XA.length=xa) (hXb:XB.length=xb) (VT V1:Blk) (Bt:Nat→Blk) (q p13:Nat)
  (sm:Bool) (e1 e2 e3 e4 e5 v3 k2 z2 p2 k5 z5 p5:Int) (v4:Int) (f2 f5:Nat) (F2 F5:List AV) (S S2:Nat→Prop)
  (h6a:∀ H,VDet Tryz.prog 6 [.agg [.int .u8 ka,.int .i64 sa,.sl none na1 ca1,.int .i64 la,.sl none na2 ca2,.sl none na3 ca3,.sl none na4 ca4]] H (.bool true)) (h6b:∀ H,VDet Tryz.prog 6 [.agg [.int .u8 kb,.int .i64 sb,.sl none nb1 cb1,.int .i64 lb,.sl none nb2 cb2,.sl none nb3 cb3,.sl none nb4 cb4]] H (.bool true))
  (h8a:∀ Z:Heap,Z.length=H.length+4→VCall Tryz.prog 8 [.agg [.int .u8 ka,.int .i64 sa,.sl none na1 ca1,.int .i64 la,.sl none na2 ca2,.sl none na3 ca3,.sl none na4 ca4]] Z fun r H'=>r=.agg [.int .u8 ka,.int .i64 sa,.vk ia1 na1 ma1,.int .i64 la,.vk ia2 na2 ma2,.vk ia3 na3 ma3,.vk ia4 na4 ma4]∧H'=Z++XA)
  (h8b:∀ Z:Heap,Z.length=H.length+(XA.length+4)→VCall Tryz.prog 8 [.agg [.int .u8 kb,.int .i64 sb,.sl none nb1 cb1,.int .i64 lb,.sl none nb2 cb2,.sl none nb3 cb3,.sl none nb4 cb4]] Z fun r H'=>r=.agg [.int .u8 kb,.int .i64 sb,.vk ib1 nb1 mb1,.int .i64 lb,.vk ib2 nb2 mb2,.vk ib3 nb3 mb3,.vk ib4 nb4 mb4]∧H'=Z++XB)
  (h9:∀ Z:Heap,Z.length=H.length+((XA++XB).length+4)→VCall Tryz.prog 9 [.sl none nn nc] Z fun r H'=>r=.vk p13 nn (nn+12)∧H'=Z++[VT])
  (G:Heap→Prop) (hG:G (H++(.box 27 [.int .u8 ka,.int .i64 sa,.sl none na1 ca1,.int .i64 la,.sl none na2 ca2,.sl none na3 ca3,.sl none na4 ca4]::.box 27 [.int .u8 kb,.int .i64 sb,.sl none nb1 cb1,.int .i64 lb,.sl none nb2 cb2,.sl none nb3 cb3,.sl none nb4 cb4]::.box 27 [.int .u8 ka,.int .i64 sa,.vk ia1 na1 ma1,.int .i64 la,.vk ia2 na2 ma2,.vk ia3 na3 ma3,.vk ia4 na4 ma4]::.box 27 [.int .u8 kb,.int .i64 sb,.vk ib1 nb1 mb1,.int .i64 lb,.vk ib2 nb2 mb2,.vk ib3 nb3 mb3,.vk ib4 nb4 mb4]::((XA++XB)++[VT]))))
  (hGq:∀ B,G B→B.length=q) (hGp:∀ B,G B→∃ X,B=H++X)
  (g5:∀ B,G B→B[H.length+0]? = some (.box 27 [.int .u8 ka,.int .i64 sa,.sl none na1 ca1,.int .i64 la,.sl none na2 ca2,.sl none na3 ca3,.sl none na4 ca4])) (g6:∀ B,G B→B[H.length+1]? = some (.box 27 [.int .u8 kb,.int .i64 sb,.sl none nb1 cb1,.int .i64 lb,.sl none nb2 cb2,.sl none nb3 cb3,.sl none nb4 cb4]))
  (g11:∀ B,G B→B[H.length+2]? = some (.box 27 [.int .u8 ka,.int .i64 sa,.vk ia1 na1 ma1,.int .i64 la,.vk ia2 na2 ma2,.vk ia3 na3 ma3,.vk ia4 na4 ma4])) (g12:∀ B,G B→B[H.length+3]? = some (.box 27 [.int .u8 kb,.int .i64 sb,.vk ib1 nb1 mb1,.int .i64 lb,.vk ib2 nb2 mb2,.vk ib3 nb3 mb3,.vk ib4 nb4 mb4]))
  (h10:∀ B X,G B→VDet Tryz.prog 10 [.agg [.int .u8 ka,.int .i64 sa,.vk ia1 na1 ma1,.int .i64 la,.vk ia2 na2 ma2,.vk ia3 na3 ma3,.vk ia4 na4 ma4],.agg [.int .u8 kb,.int .i64 sb,.vk ib1 nb1 mb1,.int .i64 lb,.vk ib2 nb2 mb2,.vk ib3 nb3 mb3,.vk ib4 nb4 mb4]] (B++X) (.tup [.bool sm,.int .i64 e1]))
  (h11:∀ B,G B→VCall Tryz.prog 11 [.agg [.int .u8 ka,.int .i64 sa,.vk ia1 na1 ma1,.int .i64 la,.vk ia2 na2 ma2,.vk ia3 na3 ma3,.vk ia4 na4 ma4]] (B++[]) fun r H'=>r=.tup [mdW k2 z2 p2 (.vs (q+0) f2),.int .i64 e2]∧H'=(B++[])++[V1])
  (h12:∀ B X,G B→VDet Tryz.prog 12 [.agg [.int .u8 ka,.int .i64 sa,.vk ia1 na1 ma1,.int .i64 la,.vk ia2 na2 ma2,.vk ia3 na3 ma3,.vk ia4 na4 ma4]] (B++X) (.tup [.int .i64 v3,.int .i64 e3]))
  (h13:∀ B X,G B→VDet Tryz.prog 13 [.vk p13 nn (nn+12),.int .i64 size] (B++X) (.tup [.int .i64 v4,.int .i64 e4]))
  (h14:∀ B B1 B2,G B→VCall Tryz.prog 14 [.vk p13 nn (nn+12),.int .i64 size,.int .i64 N] (B++[B1,B2]) fun r H'=>∃ s,r=.tup [mdW k5 z5 p5 (.ms (q+2) 0 f5),.int .i64 e5]∧H'=(B++[B1,B2])++[Bt s])
  (h15a:∀ B X,G B→VDet Tryz.prog 15 [.agg [.int .u8 ka,.int .i64 sa,.vk ia1 na1 ma1,.int .i64 la,.vk ia2 na2 ma2,.vk ia3 na3 ma3,.vk ia4 na4 ma4],.agg [.int .u8 ka,.int .i64 sa,.sl none na1 ca1,.int .i64 la,.sl none na2 ca2,.sl none na3 ca3,.sl none na4 ca4]] (B++X) (.bool true)) (h15b:∀ B X,G B→VDet Tryz.prog 15 [.agg [.int .u8 kb,.int .i64 sb,.vk ib1 nb1 mb1,.int .i64 lb,.vk ib2 nb2 mb2,.vk ib3 nb3 mb3,.vk ib4 nb4 mb4],.agg [.int .u8 kb,.int .i64 sb,.sl none nb1 cb1,.int .i64 lb,.sl none nb2 cb2,.sl none nb3 cb3,.sl none nb4 cb4]] (B++X) (.bool true))
  (h16:∀ B X,G B→VDet Tryz.prog 16 [.vk p13 nn (nn+12),.sl none nn nc] (B++X) (.bool true))
  (h17:∀ B X,G B→VCall Tryz.prog 17 [.agg [.int .u8 ka,.int .i64 sa,.vk ia1 na1 ma1,.int .i64 la,.vk ia2 na2 ma2,.vk ia3 na3 ma3,.vk ia4 na4 ma4]] (B++X) fun r H'=>r=.tup []∧OverR S (B++X) H')
  (h18:∀ B B' X,G B→OverR S B B'→VCall Tryz.prog 18 [.vk p13 nn (nn+12)] (B'++X) fun r H'=>r=.tup []∧OverR S2 (B'++X) H')
  (hS0:∀ j,j<H.length→S j∧S2 j) (hSq:∀ j,q≤j→S j∧S2 j) (hS5:S (H.length+0)∧S2 (H.length+0)) (hS6:S (H.length+1)∧S2 (H.length+1))
  (h19:∀ H,VDet Tryz.prog 19 [.agg [.int .u8 ka,.int .i64 sa,.sl none na1 ca1,.int .i64 la,.sl none na2 ca2,.sl none na3 ca3,.sl none na4 ca4],.agg [.int .u8 kb,.int .i64 sb,.sl none nb1 cb1,.int .i64 lb,.sl none nb2 cb2,.sl none nb3 cb3,.sl none nb4 cb4]] H (.tup [.bool sm,.int .i64 e1]))
  (h20:∀ H,VDet Tryz.prog 20 [.agg [.int .u8 ka,.int .i64 sa,.sl none na1 ca1,.int .i64 la,.sl none na2 ca2,.sl none na3 ca3,.sl none na4 ca4]] H (.tup [mdW k2 z2 p2 (.sl none f2 F2),.int .i64 e2]))
  (h21:∀ H,VDet Tryz.prog 21 [.agg [.int .u8 ka,.int .i64 sa,.sl none na1 ca1,.int .i64 la,.sl none na2 ca2,.sl none na3 ca3,.sl none na4 ca4]] H (.tup [.int .i64 v3,.int .i64 e3]))
  (h22:∀ H,VDet Tryz.prog 22 [.sl none nn nc,.int .i64 size] H (.tup [.int .i64 v4,.int .i64 e4]))
  (h23:∀ H,VDet Tryz.prog 23 [.sl none nn nc,.int .i64 size,.int .i64 N] H (.tup [mdW k5 z5 p5 (.sl none f5 F5),.int .i64 e5]))
  (h24a:∀ H i,H[i]? = some V1→VDet Tryz.prog 24 [mdW k2 z2 p2 (.vs i f2),mdW k2 z2 p2 (.sl none f2 F2)] H (.bool true))
  (h24b:∀ H i s,H[i]? = some (Bt s)→VDet Tryz.prog 24 [mdW k5 z5 p5 (.ms i 0 f5),mdW k5 z5 p5 (.sl none f5 F5)] H (.bool true))
  (h7:∀ H,VDet Tryz.prog 7 [] H (.bool true)) :
  VDet Tryz.prog 3 [.agg [.int .u8 ka,.int .i64 sa,.sl none na1 ca1,.int .i64 la,.sl none na2 ca2,.sl none na3 ca3,.sl none na4 ca4],.agg [.int .u8 kb,.int .i64 sb,.sl none nb1 cb1,.int .i64 lb,.sl none nb2 cb2,.sl none nb3 cb3,.sl none nb4 cb4],.sl none nn nc,.int .i64 size,.int .i64 N] H (.bool true):=by
 show VCall _ _ _ _ (detR H (.bool true))
 refine zy8 Tryz.E0 zaf 3 Tryz.func3 (by kernel_rfl) rfl (ybz rfl) rfl fun hcl hbl=>?_
 clear hbl
 (repeat' ((conv=>whnf);(first|refine zad [2000011,6,7,0,1,2,3,4,5,8,9,10] ?_|(refine yai ?_;first|refine yas ?_|refine yaq rfl ?_|refine zah (by omega) ?_|fail)|refine yaf (by kernel_rfl) ?_|(refine ybk ?_;first|refine yab _ (h6a _) ?_|refine yab _ (h6b _) ?_|fail)|refine zdg _ XA (_::_::_::_::XA) xa h8a rfl rfl rfl hXa ?_|refine zdg _ XB (_::_::_::_::(XA++XB)) xb h8b rfl rfl rfl hXb ?_|refine zdg _ [VT] (_::_::_::_::((XA++XB)++[VT])) 1 h9 rfl rfl rfl rfl ?_|fail)));conv=>whnf
 refine zn7 [2,3,4,5,6,11,12,13] (H1:=H++(.box 27 [.int .u8 ka,.int .i64 sa,.sl none na1 ca1,.int .i64 la,.sl none na2 ca2,.sl none na3 ca3,.sl none na4 ca4]::.box 27 [.int .u8 kb,.int .i64 sb,.sl none nb1 cb1,.int .i64 lb,.sl none nb2 cb2,.sl none nb3 cb3,.sl none nb4 cb4]::.box 27 [.int .u8 ka,.int .i64 sa,.vk ia1 na1 ma1,.int .i64 la,.vk ia2 na2 ma2,.vk ia3 na3 ma3,.vk ia4 na4 ma4]::.box 27 [.int .u8 kb,.int .i64 sb,.vk ib1 nb1 mb1,.int .i64 lb,.vk ib2 nb2 mb2,.vk ib3 nb3 mb3,.vk ib4 nb4 mb4]::((XA++XB)++[VT]))) rfl rfl rfl ?_
 revert hG
 generalize H++(.box 27 [.int .u8 ka,.int .i64 sa,.sl none na1 ca1,.int .i64 la,.sl none na2 ca2,.sl none na3 ca3,.sl none na4 ca4]::.box 27 [.int .u8 kb,.int .i64 sb,.sl none nb1 cb1,.int .i64 lb,.sl none nb2 cb2,.sl none nb3 cb3,.sl none nb4 cb4]::.box 27 [.int .u8 ka,.int .i64 sa,.vk ia1 na1 ma1,.int .i64 la,.vk ia2 na2 ma2,.vk ia3 na3 ma3,.vk ia4 na4 ma4]::.box 27 [.int .u8 kb,.int .i64 sb,.vk ib1 nb1 mb1,.int .i64 lb,.vk ib2 nb2 mb2,.vk ib3 nb3 mb3,.vk ib4 nb4 mb4]::((XA++XB)++[VT]))=B
 intro hG
 have hBq:=hGq B hG
 obtain ⟨X,hBX⟩:=hGp B hG
 have hp5:=g5 B hG
 have hp6:=g6 B hG
 have hp11:=g11 B hG
 have hp12:=g12 B hG
 clear g5 g6 g11 g12 hGq hGp h8a h8b h9 h6a h6b hcl
 refine Ends.walk Tryz.E0 zaf fun hcl1 hbl1=>?_
 clear hbl1
 (repeat' ((conv=>whnf);(first|(refine yai ?_;first|refine yau (bne_self_eq_false _) ?_|refine yas ?_|refine yaq rfl ?_|fail)|(refine ybk ?_;first|refine yab _ (h10 _ _ hG) ?_|refine yab _ (h12 _ _ hG) ?_|refine yab _ (h13 _ _ hG) ?_|refine yab _ (h15a _ _ hG) ?_|refine yab _ (h15b _ _ hG) ?_|refine yab _ (h16 _ _ hG) ?_|refine yab _ (h19 _) ?_|refine yab _ (h20 _) ?_|refine yab _ (h21 _) ?_|refine yab _ (h22 _) ?_|refine yab _ (h23 _) ?_|refine yab _ (h24a _ _ (zgh ((o2.len.trans o1.len).trans hBq) rfl)) ?_|refine yab _ (h24b _ _ _ (zgh ((o2.len.trans o1.len).trans hBq) rfl)) ?_|refine yab _ (h7 _) ?_|fail)|refine zb1 _ _ _ 1 (h11 _ hG) rfl rfl rfl ?_|refine zfh _ _ (h14 _ _ _ hG) rfl _ (fun _=>rfl) 3 (fun _=>rfl) fun s9=>?_|refine CallN.over S (h17 _ _ hG) rfl rfl (fun j hj=>(hSq j (hBq▸hj)).1) fun B1 o1=>?_|refine CallN.over S2 (h18 _ _ _ hG o1) o1.len rfl (fun j hj=>(hSq j (hBq▸hj)).2) fun B2 o2=>?_|refine ycd _ ((o2.same _ hS5.2).trans ((o1.same _ hS5.1).trans hp5)) ?_|refine ycd _ ((o2.same _ hS6.2).trans ((o1.same _ hS6.1).trans hp6)) ?_|refine ycd _ (by (repeat' (first|assumption|exact za7 _ rfl|exact zaj rfl|refine zbc (B':=?_) ?_|refine zap ?_|fail))) ?_|fail)));conv=>whnf
 rw [hBX] at o1
 obtain ⟨Y,hY⟩:=(OverR.trans o1 o2 (S:=fun j=>S j∧S2 j) fun j hj=>hj).pre hS0
 exact EndN2.det Y hY trivial (yae _)
theorem cmp_vs (H:Heap) (ka sa la:Int) (na1 na2 na3 na4 ia1 ia2 ia3 ia4 ma1 ma2 ma3 ma4:Nat) (ca1 ca2 ca3 ca4:List AV) (kb sb lb:Int) (nb1 nb2 nb3 nb4 ib1 ib2 ib3 ib4 mb1 mb2 mb3 mb4:Nat) (cb1 cb2 cb3 cb4:List AV) (nn:Nat) (nc:List AV) (hn:nn≤20) (size N:Int) (XA XB:Heap) (xa xb:Nat) (hXa:XA.length=xa) (hXb:XB.length=xb) (VT V1:Blk) (Bt:Nat→Blk) (q p13:Nat)
  (sm:Bool) (e1 e2 e3 e4 e5 v3 k2 z2 p2 k5 z5 p5:Int) (v4:Int) (f2 f5:Nat) (F2 F5:List AV) (S S2:Nat→Prop)
  (h6a:∀ H,VDet Tryz.prog 6 [.agg [.int .u8 ka,.int .i64 sa,.sl none na1 ca1,.int .i64 la,.sl none na2 ca2,.sl none na3 ca3,.sl none na4 ca4]] H (.bool true)) (h6b:∀ H,VDet Tryz.prog 6 [.agg [.int .u8 kb,.int .i64 sb,.sl none nb1 cb1,.int .i64 lb,.sl none nb2 cb2,.sl none nb3 cb3,.sl none nb4 cb4]] H (.bool true))
  (h8a:∀ Z:Heap,Z.length=H.length+4→VCall Tryz.prog 8 [.agg [.int .u8 ka,.int .i64 sa,.sl none na1 ca1,.int .i64 la,.sl none na2 ca2,.sl none na3 ca3,.sl none na4 ca4]] Z fun r H'=>r=.agg [.int .u8 ka,.int .i64 sa,.vk ia1 na1 ma1,.int .i64 la,.vk ia2 na2 ma2,.vk ia3 na3 ma3,.vk ia4 na4 ma4]∧H'=Z++XA)
  (h8b:∀ Z:Heap,Z.length=H.length+(XA.length+4)→VCall Tryz.prog 8 [.agg [.int .u8 kb,.int .i64 sb,.sl none nb1 cb1,.int .i64 lb,.sl none nb2 cb2,.sl none nb3 cb3,.sl none nb4 cb4]] Z fun r H'=>r=.agg [.int .u8 kb,.int .i64 sb,.vk ib1 nb1 mb1,.int .i64 lb,.vk ib2 nb2 mb2,.vk ib3 nb3 mb3,.vk ib4 nb4 mb4]∧H'=Z++XB)
  (h9:∀ Z:Heap,Z.length=H.length+((XA++XB).length+4)→VCall Tryz.prog 9 [.sl none nn nc] Z fun r H'=>r=.vk p13 nn (nn+12)∧H'=Z++[VT])
  (G:Heap→Prop) (hG:G (H++(.box 27 [.int .u8 ka,.int .i64 sa,.sl none na1 ca1,.int .i64 la,.sl none na2 ca2,.sl none na3 ca3,.sl none na4 ca4]::.box 27 [.int .u8 kb,.int .i64 sb,.sl none nb1 cb1,.int .i64 lb,.sl none nb2 cb2,.sl none nb3 cb3,.sl none nb4 cb4]::.box 27 [.int .u8 ka,.int .i64 sa,.vk ia1 na1 ma1,.int .i64 la,.vk ia2 na2 ma2,.vk ia3 na3 ma3,.vk ia4 na4 ma4]::.box 27 [.int .u8 kb,.int .i64 sb,.vk ib1 nb1 mb1,.int .i64 lb,.vk ib2 nb2 mb2,.vk ib3 nb3 mb3,.vk ib4 nb4 mb4]::((XA++XB)++[VT]))))
  (hGq:∀ B,G B→B.length=q) (hGp:∀ B,G B→∃ X,B=H++X)
  (g5:∀ B,G B→B[H.length+0]? = some (.box 27 [.int .u8 ka,.int .i64 sa,.sl none na1 ca1,.int .i64 la,.sl none na2 ca2,.sl none na3 ca3,.sl none na4 ca4])) (g6:∀ B,G B→B[H.length+1]? = some (.box 27 [.int .u8 kb,.int .i64 sb,.sl none nb1 cb1,.int .i64 lb,.sl none nb2 cb2,.sl none nb3 cb3,.sl none nb4 cb4]))
  (g11:∀ B,G B→B[H.length+2]? = some (.box 27 [.int .u8 ka,.int .i64 sa,.vk ia1 na1 ma1,.int .i64 la,.vk ia2 na2 ma2,.vk ia3 na3 ma3,.vk ia4 na4 ma4])) (g12:∀ B,G B→B[H.length+3]? = some (.box 27 [.int .u8 kb,.int .i64 sb,.vk ib1 nb1 mb1,.int .i64 lb,.vk ib2 nb2 mb2,.vk ib3 nb3 mb3,.vk ib4 nb4 mb4]))
  (h10:∀ B X,G B→VDet Tryz.prog 10 [.agg [.int .u8 ka,.int .i64 sa,.vk ia1 na1 ma1,.int .i64 la,.vk ia2 na2 ma2,.vk ia3 na3 ma3,.vk ia4 na4 ma4],.agg [.int .u8 kb,.int .i64 sb,.vk ib1 nb1 mb1,.int .i64 lb,.vk ib2 nb2 mb2,.vk ib3 nb3 mb3,.vk ib4 nb4 mb4]] (B++X) (.tup [.bool sm,.int .i64 e1]))
  (h11:∀ B,G B→VCall Tryz.prog 11 [.agg [.int .u8 ka,.int .i64 sa,.vk ia1 na1 ma1,.int .i64 la,.vk ia2 na2 ma2,.vk ia3 na3 ma3,.vk ia4 na4 ma4]] (B++[]) fun r H'=>r=.tup [mdW k2 z2 p2 (.vs (q+0) f2),.int .i64 e2]∧H'=(B++[])++[V1])
  (h12:∀ B X,G B→VDet Tryz.prog 12 [.agg [.int .u8 ka,.int .i64 sa,.vk ia1 na1 ma1,.int .i64 la,.vk ia2 na2 ma2,.vk ia3 na3 ma3,.vk ia4 na4 ma4]] (B++X) (.tup [.int .i64 v3,.int .i64 e3]))
  (h13:∀ B X,G B→VDet Tryz.prog 13 [.vk p13 nn (nn+12),.int .i64 size] (B++X) (.tup [.int .i64 v4,.int .i64 e4]))
  (h14:∀ B B1 B2,G B→VCall Tryz.prog 14 [.vk p13 nn (nn+12),.int .i64 size,.int .i64 N] (B++[B1,B2]) fun r H'=>∃ s,r=.tup [mdW k5 z5 p5 (.vs (q+2) f5),.int .i64 e5]∧H'=(B++[B1,B2])++[Bt s])
  (h15a:∀ B X,G B→VDet Tryz.prog 15 [.agg [.int .u8 ka,.int .i64 sa,.vk ia1 na1 ma1,.int .i64 la,.vk ia2 na2 ma2,.vk ia3 na3 ma3,.vk ia4 na4 ma4],.agg [.int .u8 ka,.int .i64 sa,.sl none na1 ca1,.int .i64 la,.sl none na2 ca2,.sl none na3 ca3,.sl none na4 ca4]] (B++X) (.bool true)) (h15b:∀ B X,G B→VDet Tryz.prog 15 [.agg [.int .u8 kb,.int .i64 sb,.vk ib1 nb1 mb1,.int .i64 lb,.vk ib2 nb2 mb2,.vk ib3 nb3 mb3,.vk ib4 nb4 mb4],.agg [.int .u8 kb,.int .i64 sb,.sl none nb1 cb1,.int .i64 lb,.sl none nb2 cb2,.sl none nb3 cb3,.sl none nb4 cb4]] (B++X) (.bool true))
  (h16:∀ B X,G B→VDet Tryz.prog 16 [.vk p13 nn (nn+12),.sl none nn nc] (B++X) (.bool true))
  (h17:∀ B X,G B→VCall Tryz.prog 17 [.agg [.int .u8 ka,.int .i64 sa,.vk ia1 na1 ma1,.int .i64 la,.vk ia2 na2 ma2,.vk ia3 na3 ma3,.vk ia4 na4 ma4]] (B++X) fun r H'=>r=.tup []∧OverR S (B++X) H')
  (h18:∀ B B' X,G B→OverR S B B'→VCall Tryz.prog 18 [.vk p13 nn (nn+12)] (B'++X) fun r H'=>r=.tup []∧OverR S2 (B'++X) H')
  (hS0:∀ j,j<H.length→S j∧S2 j) (hSq:∀ j,q≤j→S j∧S2 j) (hS5:S (H.length+0)∧S2 (H.length+0)) (hS6:S (H.length+1)∧S2 (H.length+1))
  (h19:∀ H,VDet Tryz.prog 19 [.agg [.int .u8 ka,.int .i64 sa,.sl none na1 ca1,.int .i64 la,.sl none na2 ca2,.sl none na3 ca3,.sl none na4 ca4],.agg [.int .u8 kb,.int .i64 sb,.sl none nb1 cb1,.int .i64 lb,.sl none nb2 cb2,.sl none nb3 cb3,.sl none nb4 cb4]] H (.tup [.bool sm,.int .i64 e1]))
  (h20:∀ H,VDet Tryz.prog 20 [.agg [.int .u8 ka,.int .i64 sa,.sl none na1 ca1,.int .i64 la,.sl none na2 ca2,.sl none na3 ca3,.sl none na4 ca4]] H (.tup [mdW k2 z2 p2 (.sl none f2 F2),.int .i64 e2]))
  (h21:∀ H,VDet Tryz.prog 21 [.agg [.int .u8 ka,.int .i64 sa,.sl none na1 ca1,.int .i64 la,.sl none na2 ca2,.sl none na3 ca3,.sl none na4 ca4]] H (.tup [.int .i64 v3,.int .i64 e3]))
  (h22:∀ H,VDet Tryz.prog 22 [.sl none nn nc,.int .i64 size] H (.tup [.int .i64 v4,.int .i64 e4]))
  (h23:∀ H,VDet Tryz.prog 23 [.sl none nn nc,.int .i64 size,.int .i64 N] H (.tup [mdW k5 z5 p5 (.sl none f5 F5),.int .i64 e5]))
  (h24a:∀ H i,H[i]? = some V1→VDet Tryz.prog 24 [mdW k2 z2 p2 (.vs i f2),mdW k2 z2 p2 (.sl none f2 F2)] H (.bool true))
  (h24b:∀ H i s,H[i]? = some (Bt s)→VDet Tryz.prog 24 [mdW k5 z5 p5 (.vs i f5),mdW k5 z5 p5 (.sl none f5 F5)] H (.bool true))
  (h7:∀ H,VDet Tryz.prog 7 [] H (.bool true)) :
  VDet Tryz.prog 3 [.agg [.int .u8 ka,.int .i64 sa,.sl none na1 ca1,.int .i64 la,.sl none na2 ca2,.sl none na3 ca3,.sl none na4 ca4],.agg [.int .u8 kb,.int .i64 sb,.sl none nb1 cb1,.int .i64 lb,.sl none nb2 cb2,.sl none nb3 cb3,.sl none nb4 cb4],.sl none nn nc,.int .i64 size,.int .i64 N] H (.bool true):=by
 show VCall _ _ _ _ (detR H (.bool true))
 refine zy8 Tryz.E0 zaf 3 Tryz.func3 (by kernel_rfl) rfl (ybz rfl) rfl fun hcl hbl=>?_
 clear hbl
 (repeat' ((conv=>whnf);(first|refine zad [2000011,6,7,0,1,2,3,4,5,8,9,10] ?_|(refine yai ?_;first|refine yas ?_|refine yaq rfl ?_|refine zah (by omega) ?_|fail)|refine yaf (by kernel_rfl) ?_|(refine ybk ?_;first|refine yab _ (h6a _) ?_|refine yab _ (h6b _) ?_|fail)|refine zdg _ XA (_::_::_::_::XA) xa h8a rfl rfl rfl hXa ?_|refine zdg _ XB (_::_::_::_::(XA++XB)) xb h8b rfl rfl rfl hXb ?_|refine zdg _ [VT] (_::_::_::_::((XA++XB)++[VT])) 1 h9 rfl rfl rfl rfl ?_|fail)));conv=>whnf
 refine zn7 [2,3,4,5,6,11,12,13] (H1:=H++(.box 27 [.int .u8 ka,.int .i64 sa,.sl none na1 ca1,.int .i64 la,.sl none na2 ca2,.sl none na3 ca3,.sl none na4 ca4]::.box 27 [.int .u8 kb,.int .i64 sb,.sl none nb1 cb1,.int .i64 lb,.sl none nb2 cb2,.sl none nb3 cb3,.sl none nb4 cb4]::.box 27 [.int .u8 ka,.int .i64 sa,.vk ia1 na1 ma1,.int .i64 la,.vk ia2 na2 ma2,.vk ia3 na3 ma3,.vk ia4 na4 ma4]::.box 27 [.int .u8 kb,.int .i64 sb,.vk ib1 nb1 mb1,.int .i64 lb,.vk ib2 nb2 mb2,.vk ib3 nb3 mb3,.vk ib4 nb4 mb4]::((XA++XB)++[VT]))) rfl rfl rfl ?_
 revert hG
 generalize H++(.box 27 [.int .u8 ka,.int .i64 sa,.sl none na1 ca1,.int .i64 la,.sl none na2 ca2,.sl none na3 ca3,.sl none na4 ca4]::.box 27 [.int .u8 kb,.int .i64 sb,.sl none nb1 cb1,.int .i64 lb,.sl none nb2 cb2,.sl none nb3 cb3,.sl none nb4 cb4]::.box 27 [.int .u8 ka,.int .i64 sa,.vk ia1 na1 ma1,.int .i64 la,.vk ia2 na2 ma2,.vk ia3 na3 ma3,.vk ia4 na4 ma4]::.box 27 [.int .u8 kb,.int .i64 sb,.vk ib1 nb1 mb1,.int .i64 lb,.vk ib2 nb2 mb2,.vk ib3 nb3 mb3,.vk ib4 nb4 mb4]::((XA++XB)++[VT]))=B
 intro hG
 have hBq:=hGq B hG
 obtain ⟨X,hBX⟩:=hGp B hG
 have hp5:=g5 B hG
 have hp6:=g6 B hG
 have hp11:=g11 B hG
 have hp12:=g12 B hG
 clear g5 g6 g11 g12 hGq hGp h8a h8b h9 h6a h6b hcl
 refine Ends.walk Tryz.E0 zaf fun hcl1 hbl1=>?_
 clear hbl1
 (repeat' ((conv=>whnf);(first|(refine yai ?_;first|refine yau (bne_self_eq_false _) ?_|refine yas ?_|refine yaq rfl ?_|fail)|(refine ybk ?_;first|refine yab _ (h10 _ _ hG) ?_|refine yab _ (h12 _ _ hG) ?_|refine yab _ (h13 _ _ hG) ?_|refine yab _ (h15a _ _ hG) ?_|refine yab _ (h15b _ _ hG) ?_|refine yab _ (h16 _ _ hG) ?_|refine yab _ (h19 _) ?_|refine yab _ (h20 _) ?_|refine yab _ (h21 _) ?_|refine yab _ (h22 _) ?_|refine yab _ (h23 _) ?_|refine yab _ (h24a _ _ (zgh ((o2.len.trans o1.len).trans hBq) rfl)) ?_|refine yab _ (h24b _ _ _ (zgh ((o2.len.trans o1.len).trans hBq) rfl)) ?_|refine yab _ (h7 _) ?_|fail)|refine zb1 _ _ _ 1 (h11 _ hG) rfl rfl rfl ?_|refine zfh _ _ (h14 _ _ _ hG) rfl _ (fun _=>rfl) 3 (fun _=>rfl) fun s9=>?_|refine CallN.over S (h17 _ _ hG) rfl rfl (fun j hj=>(hSq j (hBq▸hj)).1) fun B1 o1=>?_|refine CallN.over S2 (h18 _ _ _ hG o1) o1.len rfl (fun j hj=>(hSq j (hBq▸hj)).2) fun B2 o2=>?_|refine ycd _ ((o2.same _ hS5.2).trans ((o1.same _ hS5.1).trans hp5)) ?_|refine ycd _ ((o2.same _ hS6.2).trans ((o1.same _ hS6.1).trans hp6)) ?_|refine ycd _ (by (repeat' (first|assumption|exact za7 _ rfl|exact zaj rfl|refine zbc (B':=?_) ?_|refine zap ?_|fail))) ?_|fail)));conv=>whnf
 rw [hBX] at o1
 obtain ⟨Y,hY⟩:=(OverR.trans o1 o2 (S:=fun j=>S j∧S2 j) fun j hj=>hj).pre hS0
 exact EndN2.det Y hY trivial (yae _)
def nP:ByteArray:=⟨#[80]⟩
def nQ:ByteArray:=⟨#[81]⟩
def nR:ByteArray:=⟨#[82]⟩
theorem zzx (s:ByteArray) (H:Heap):VDet Tryz.prog 25 [.str s] H (.agg (Tf.at s).cells):=by
 unfold Tf.cells
 refine fdD Tryz.func25 ⟨rfl,rfl,rfl⟩ fun hcl hbl=>?_
 conv=>whnf
 exact ya1 (by simp [below,zaa,Tf.sc]) (by (repeat' (first|exact trivial|refine yb3 ?_ ?_|exact yae _|exact zal|refine zbm ?_|fail));done)
theorem join_g (k:Int) (n:Nat) (c:List AV) (H:Heap):VDet Tryz.prog 26 [.int .u8 k,.sl none n c] H (.agg [.int .u8 k,.str .empty,.sl none 0 [],.sl none n c]):=by
 refine fdD Tryz.func26 ⟨rfl,rfl,rfl⟩ fun hcl hbl=>?_
 conv=>whnf
 exact ya1 (by simpa [below,zaa] using hbl) (by (repeat' (first|exact trivial|refine yb3 ?_ ?_|exact yae _|exact zal|refine zbm ?_|fail));done)
theorem zph (k:Int) (n:Nat) (c:List AV) (H:Heap):VDet Tryz.prog 26 [.int .u8 k,.sx n c] H (.agg [.int .u8 k,.str .empty,.sl none 0 [],.sl none n c]) :=
 zbs (join_g k n c H) ⟨yae _,wk_sx _ _,trivial⟩
theorem join_n (k:Int) (H:Heap):VDet Tryz.prog 26 [.int .u8 k,.nils] H (.agg [.int .u8 k,.str .empty,.sl none 0 [],.sl none 0 []]) :=
 zbs (join_g k 0 [] H) ⟨yae _,zal,trivial⟩
theorem zub (a b:Int) (H:Heap):VDet Tryz.prog 28 [.sx 2 [.int .i64 a,.int .i64 b]] H (.sl none 2 [.str nP,.int .i64 0,.int .i64 a,.str nQ,.int .i64 0,.int .i64 b]):=by
 refine fdD Tryz.func28 ⟨rfl,rfl,rfl⟩ fun hcl hbl=>?_
 conv=>whnf
 refine LoopN.tok 3 60 3 rfl rfl rfl ?_
 refine ybd Tryz.E0 zaf 3 rfl ?_
 (repeat' ((conv=>whnf);(first|(refine yai ?_;first|refine yaq rfl ?_|refine yau rfl ?_|fail)|(refine yct ?_;first|(refine zac _ _ Cst.h Cst.h ?_ ?_;· omega)|refine zby _ _ (by first|with_reducible rfl|exact Cst.h) (by first|with_reducible rfl|exact Cst.h) ?_|fail)|(refine yaf ?_ ?_;· first|omega|exact yaa _ _|fail)|refine yaf ⟨rfl,rfl,rfl,by simp,by simp [maxLen]⟩ ?_|refine yca _ rfl ?_|refine ydf _ (zb3 rfl) ?_|fail)));conv=>whnf
 exact ya1 ⟨(fun _ h=>by cases h),by simp [below,zaa]⟩ (Wk.trans (wk_sl _ _ _) (Wk.of_eq (by kernel_rfl)))
theorem facts3_g (a b c:Int) (H:Heap):VDet Tryz.prog 28 [.sx 3 [.int .i64 a,.int .i64 b,.int .i64 c]] H (.sl none 3 [.str nP,.int .i64 0,.int .i64 a,.str nQ,.int .i64 0,.int .i64 b,.str nR,.int .i64 0,.int .i64 c]):=by
 refine fdD Tryz.func28 ⟨rfl,rfl,rfl⟩ fun hcl hbl=>?_
 conv=>whnf
 refine LoopN.tok 3 60 3 rfl rfl rfl ?_
 refine ybd Tryz.E0 zaf 4 rfl ?_
 (repeat' ((conv=>whnf);(first|(refine yai ?_;first|refine yaq rfl ?_|refine yau rfl ?_|fail)|(refine yct ?_;first|(refine zac _ _ Cst.h Cst.h ?_ ?_;· omega)|refine zby _ _ (by first|with_reducible rfl|exact Cst.h) (by first|with_reducible rfl|exact Cst.h) ?_|fail)|(refine yaf ?_ ?_;· first|omega|exact yaa _ _|fail)|refine yaf ⟨rfl,rfl,rfl,by simp,by simp [maxLen]⟩ ?_|refine yca _ rfl ?_|refine ydf _ (zb3 rfl) ?_|fail)));conv=>whnf
 exact ya1 ⟨(fun _ h=>by cases h),by simp [below,zaa]⟩ (Wk.trans (wk_sl _ _ _) (Wk.of_eq (by kernel_rfl)))
def Tf.gdB:Tf→Bool
 | .at c=>decide (c.size≤1000)
 | .fa=>true
 | .f1 k a=>decide (k≤255)&&a.gdB
 | .f2 k a b=>decide (k≤255)&&(a.gdB&&b.gdB)
theorem Tf.good:∀ p:Tf,p.gdB=true→p.fo.good
 | .at c,h=>by
   have h:=of_decide_eq_true h
   unfold Tf.fo
   exact ⟨by decide,ybi h (by decide),yah _,trivial,yah _,trivial⟩
 | .fa,_=>by
   unfold Tf.fo
   exact ⟨by decide,yah _,yah _,trivial,yah _,trivial⟩
 | .f1 k a,h=>by
   unfold Tf.gdB at h
   rw [yak,decide_eq_true_eq] at h
   unfold Tf.fo
   exact ⟨h.1,yah _,yah _,trivial,(show 1≤maxLen by decide),Tf.good a h.2,trivial⟩
 | .f2 k a b,h=>by
   unfold Tf.gdB at h
   rw [yak,yak,decide_eq_true_eq] at h
   unfold Tf.fo
   exact ⟨h.1,yah _,yah _,trivial,(show 2≤maxLen by decide),Tf.good a h.2.1,Tf.good b h.2.2,trivial⟩
def fP:Tf:=.at nP
def fQ:Tf:=.at nQ
def m3:Tr:=⟨3,1,[(nP,5),(nQ,2)]⟩
def m2:Tr:=⟨2,0,[(nP,1),(nQ,2)]⟩
theorem ok_of (n lp a b:Nat) (h1:1≤n) (h5:n≤5) (hl:lp<n) (ha:a<2 ^ n) (hb:b<2 ^ n):Tr.Ok ⟨n,lp,[(nP,a),(nQ,b)]⟩ :=
 ⟨h1,h5,hl,(show 2≤1000000 by decide),(by kernel_rfl:isNmG [nP,nQ]=true),fun f hf=>by
  simp only [yay,ycx,or_false] at hf
  rcases hf with rfl|rfl <;> exact (show 1≤9223372036854775807 by decide),fun i hi=>by
  have hi:i<2:=hi
  have:i=0∨i=1:=by omega
  rcases this with rfl|rfl
  ·exact ha
  ·exact hb⟩
theorem m3_ok:m3.Ok:=ok_of 3 1 5 2 (by decide) (by decide) (by decide) (by decide) (by decide)
theorem m2_ok:m2.Ok:=ok_of 2 0 1 2 (by decide) (by decide) (by decide) (by decide) (by decide)
abbrev vM (n lp a b:Int):AV:=.agg [.int .u8 5,.int .i64 n,.nils,.int .i64 lp,.sl none 2 [.str nP,.int .i64 0,.int .i64 a,.str nQ,.int .i64 0,.int .i64 b],.nils,.nils]
theorem vM_wk (n lp a b:Nat):Wk (vM n lp a b) (.agg (Tr.mk n lp [(nP,a),(nQ,b)]).cells):=zbm ⟨yae _,yae _,zal,yae _,yae _,zal,zal,trivial⟩
theorem at3 (p:Tf) (v:Nat) (hp:p.gdB=true) (hT:p.Temp) (hr:ze2 p.fo=true) (hm:miss m3 p=false) (hv:evT m3 p=v) (H:Heap):VDet Tryz.prog 34 [vM 3 1 5 2,.agg p.cells] H (.tup [.int .i64 (v:Nat),.int .i64 0]):=by
 have hR:=fun H=>zqu p.fo (Tf.good p hp) H
 rw [hr,za6] at hR
 have:=At_t m3 m3_ok p hT hR H
 rw [hm,hv] at this
 exact zbs this ⟨vM_wk 3 1 5 2,yae _,trivial⟩
theorem growL {P:Program} {F:FuncId} {xs:List AV} {n0:Nat} {base loc:Heap} {k:Nat} {K:AV→Heap→Nat→Heap→Prop} (v:Nat→AV) (V:Blk) (loc2:Heap) (h:∀ Z N,Z.length=N→VCall P F xs Z fun r H'=>r=v N∧H'=Z++[V]) (hn:base.length=n0) (hk:loc.length=k) (hl:loc++[V]=loc2) (a:K (v (n0+k)) base (k+1) loc2):CallN P (.func F) xs n0 base k loc K :=
 zb1 (v (n0+k)) [V] loc2 (k+1) (h (base++loc) (n0+k) (by rw [ya5,hn,hk])) hn hl (by rw [← hl,ya5,hk];rfl) a
theorem zsc (H:Heap):VDet Tryz.prog 7 [] H (.bool true):=by
 have a1:=at3 (.f1 12 fP) 2 rfl ⟨by simp,trivial⟩ (by kernel_rfl) (by kernel_rfl) (by kernel_rfl)
 have a2:=at3 (.f1 13 fP) 0 rfl ⟨by simp,trivial⟩ (by kernel_rfl) (by kernel_rfl) (by kernel_rfl)
 have a3:=at3 (.f1 13 (.f2 5 fP fQ)) 7 rfl ⟨by simp,by simp [is2],trivial,trivial⟩ (by kernel_rfl) (by kernel_rfl) (by kernel_rfl)
 have a4:=at3 (.f2 14 fP fQ) 7 rfl ⟨by simp [is2],trivial,trivial⟩ (by kernel_rfl) (by kernel_rfl) (by kernel_rfl)
 have a5:=at3 (.f2 14 fQ (.f1 12 fQ)) 7 rfl ⟨by simp [is2],trivial,by simp,trivial⟩ (by kernel_rfl) (by kernel_rfl) (by kernel_rfl)
 have pos:∀ x:Nat,x<5→∀ H,VDet Tryz.prog 33 [vM 3 1 5 2,.int .i64 x] H (.tup [.int .i64 (posN 3 1 x),.int .i64 0]):=fun x hx H=>zbs (zml m3 m3_ok x (by omega) H) ⟨vM_wk 3 1 5 2,yae _,trivial⟩
 have q0:=pos 0 (by decide)
 have q1:=pos 1 (by decide)
 have q2:=pos 2 (by decide)
 have q3:=pos 3 (by decide)
 have q4:=pos 4 (by decide)
 rw [show posN 3 1 0=0 by kernel_rfl] at q0
 rw [show posN 3 1 1=1 by kernel_rfl] at q1
 rw [show posN 3 1 2=2 by kernel_rfl] at q2
 rw [show posN 3 1 3=1 by kernel_rfl] at q3
 rw [show posN 3 1 4=2 by kernel_rfl] at q4
 have s1:∀ (Z:Heap) (N:Nat),Z.length=N→VCall Tryz.prog 37 [vM 3 1 5 2,.int .i64 2] Z fun r H'=>r=.tup [mdK 2 0 (.vs N 2),.int .i64 0]∧H'=Z++[.vec 60 3 (m2.fs.flatMap encT)]:=fun Z N hN=>by
  have:=zum m3 m3_ok (by decide) 2 (by decide) Z
  rw [show sufT m3 2=m2 by kernel_rfl,hN] at this
  exact zdb this ⟨vM_wk 3 1 5 2,yae _,trivial⟩
 have s2:∀ (Z:Heap) (N:Nat),Z.length=N→VCall Tryz.prog 11 [vM 3 1 5 2] Z fun r H'=>r=.tup [mdK 2 0 (.vs N 2),.int .i64 0]∧H'=Z++[.vec 60 3 (m2.fs.flatMap encT)]:=fun Z N hN=>by
  have:=zz5 m3 m3_ok (by decide) 1 0 (by decide) (by decide) (fun j hj x hx=>by
   have:j=0:=by omega
   subst this
   have:x=0:=by omega
   subst this
   exact (by kernel_rfl:shB m3 0 0=false)) (fun x hx=>absurd hx (Nat.not_lt_zero x)) (by kernel_rfl) Z
  rw [show shT m3 1 0=m2 by kernel_rfl,hN] at this
  exact zdb this ⟨vM_wk 3 1 5 2,trivial⟩
 have s3:∀ H,VDet Tryz.prog 10 [vM 3 1 5 2,vM 2 0 1 2] H (.tup [.bool true,.int .i64 0]):=fun H=>by
  have:=zz7 m3 m2 m3_ok m2_ok (zev m3_ok) (zev m2_ok) H
  rw [show sameB 25 m3 m2=true by kernel_rfl] at this
  exact zbs this ⟨vM_wk 3 1 5 2,vM_wk 2 0 1 2,trivial⟩
 have c1:∀ H,VDet Tryz.prog 13 [.sx 1 [.str nP],.int .i64 2] H (.tup [.int .i64 8,.int .i64 0]):=fun H=>by
  have:=zld [nP] (by decide) (fun c hc=>by rw [yaz.1 hc];decide) 2 H
  rw [show cntV [nP] 2=8 by kernel_rfl,show cntE [nP] 2=0 by kernel_rfl] at this
  exact zbs this ⟨wk_sx _ _,yae _,trivial⟩
 have c2:∀ (Z:Heap) (N:Nat),Z.length=N→VCall Tryz.prog 14 [.sx 1 [.str nP],.int .i64 2,.int .i64 5] Z fun r H'=>∃ s:Nat,r=.tup [mdK 2 1 (.ms N 0 1),.int .i64 0]∧H'=Z++[.box 60 ([.str nP,.int .i64 0,.int .i64 1]++List.replicate s .junk)]:=fun Z N hN=>by
  have:=Nth_ok [nP] (by decide) (fun c hc=>by rw [yaz.1 hc];decide) (by kernel_rfl) 2 (by decide) (by decide) (by decide) 5 (by decide) Z
  rw [show FN [nP] 2 5 0=[.str nP,.int .i64 0,.int .i64 1] by kernel_rfl,hN] at this
  exact zdb this ⟨wk_sx _ _,yae _,yae _,trivial⟩
 have e1:∀ (Z:Heap) (i:Nat),Z[i]? = some (.vec 60 3 (m2.fs.flatMap encT))→VDet Tryz.prog 24 [mdK 2 0 (.vs i 2),vM 2 0 1 2] Z (.bool true):=fun Z i h=>zj2 5 2 0 [⟨nP,0,1⟩,⟨nQ,0,2⟩] (by decide) Z i h
 refine fdD Tryz.func7 ⟨rfl,rfl,rfl⟩ fun hcl hbl=>?_
 (repeat' ((conv=>whnf);(first|refine yaf (by kernel_rfl) ?_|(refine ybk ?_;first|refine yab _ (zzx _ _) ?_|refine yab _ (zub _ _ _) ?_|fail)|refine yan _ (fun _ hq X=>zph _ _ _ _) ?_|refine zad [] ?_|fail)));conv=>whnf
 refine ybd Tryz.E0 zaf 6 rfl ?_
 (repeat' ((conv=>whnf);(first|(refine yai ?_;first|refine yas ?_|refine yaq rfl ?_|refine yau rfl ?_|fail)|(refine zac _ _ Cst.h Cst.h ?_ ?_;· omega)|(refine yaf ?_ ?_;· first|omega|exact yaa _ _|fail)|(refine ybk ?_;first|refine yab _ (zub _ _ _) ?_|refine yab _ (a1 _) ?_|refine yab _ (a2 _) ?_|refine yab _ (a3 _) ?_|refine yab _ (a4 _) ?_|refine yab _ (a5 _) ?_|refine yab _ (q0 _) ?_|refine yab _ (q1 _) ?_|refine yab _ (q2 _) ?_|refine yab _ (q3 _) ?_|refine yab _ (q4 _) ?_|refine yab _ (s3 _) ?_|refine yab _ (c1 _) ?_|refine yab _ (e1 _ _ (zaj rfl)) ?_|fail)|refine growL (fun N=>.tup [mdK 2 0 (.vs N 2),.int .i64 0]) _ _ s1 rfl rfl rfl ?_|refine growL (fun N=>.tup [mdK 2 0 (.vs N 2),.int .i64 0]) _ _ s2 rfl rfl rfl ?_|refine zfh (ι:=Nat) _ _ (c2 _ (H.length+13) (by simp)) rfl _ (fun _=>rfl) 14 (fun _=>rfl) fun s=>?_|refine yca _ rfl ?_|refine ydf _ (zb3 rfl) ?_|refine OfsN.at_ (by omega) ?_|fail)));conv=>whnf
 exact ya1 trivial (Wk.of_eq (by kernel_rfl))
theorem cmp_no (x y:Bool) (CA CB:List AV) (nn:Nat) (nc:List AV) (size N:Int) (ka sa la kb sb lb:Int) (na1 na2 na3 na4 nb1 nb2 nb3 nb4:Nat) (ca1 ca2 ca3 ca4 cb1 cb2 cb3 cb4:List AV)
  (hCA:CA=[.int .u8 ka,.int .i64 sa,.sl none na1 ca1,.int .i64 la,.sl none na2 ca2,.sl none na3 ca3,.sl none na4 ca4]) (hCB:CB=[.int .u8 kb,.int .i64 sb,.sl none nb1 cb1,.int .i64 lb,.sl none nb2 cb2,.sl none nb3 cb3,.sl none nb4 cb4])
  (hno:x=false∨(x=true∧y=false)∨(x=true∧y=true∧20<nn))
  (h6a:∀ H,VDet Tryz.prog 6 [.agg CA] H (.bool x)) (h6b:∀ H,VDet Tryz.prog 6 [.agg CB] H (.bool y)) (h7:∀ H,VDet Tryz.prog 7 [] H (.bool true)) (H:Heap) :
  VDet Tryz.prog 3 [.agg CA,.agg CB,.sl none nn nc,.int .i64 size,.int .i64 N] H (.bool true):=by
 subst hCA hCB
 rcases hno with rfl|⟨rfl,rfl⟩|⟨rfl,rfl,hn⟩
 ·refine fdD Tryz.func3 ⟨rfl,rfl,rfl⟩ fun hcl hbl=>?_
  (repeat' ((conv=>whnf);(first|(refine yai ?_;first|refine yas ?_|refine yau rfl ?_|fail)|(refine ybk ?_;first|refine yab _ (h6a _) ?_|refine yab _ (h7 _) ?_|fail)|fail)));conv=>whnf
  exact eT trivial
 ·refine fdD Tryz.func3 ⟨rfl,rfl,rfl⟩ fun hcl hbl=>?_
  (repeat' ((conv=>whnf);(first|(refine yai ?_;first|refine yas ?_|refine yaq rfl ?_|refine yau rfl ?_|fail)|(refine ybk ?_;first|refine yab _ (h6a _) ?_|refine yab _ (h6b _) ?_|refine yab _ (h7 _) ?_|fail)|fail)));conv=>whnf
  exact eT trivial
 ·refine fdD Tryz.func3 ⟨rfl,rfl,rfl⟩ fun hcl hbl=>?_
  (repeat' ((conv=>whnf);(first|(refine yai ?_;first|refine yas ?_|refine yaq rfl ?_|refine yar (by omega) ?_|fail)|(refine ybk ?_;first|refine yab _ (h6a _) ?_|refine yab _ (h6b _) ?_|refine yab _ (h7 _) ?_|fail)|fail)));conv=>whnf
  exact eT trivial
theorem zky {m:Mdl} (h:few13 m=true):m.rel.length≤20∧m.facts.length≤12∧m.funcs.length≤12∧m.binds.length≤12:=by
 unfold few13 at h
 simpa [yak,decide_eq_true_eq] using h
def hpC (H:Heap) (a b:Mdl) (l:List ByteArray):Heap:=H++(.box 27 a.cells::.box 27 b.cells::.box 27 (mdL a (H.length+4))::.box 27 (mdL b (H.length+((lnH a (H.length+4)).length+4)))::((lnH a (H.length+4)++lnH b (H.length+((lnH a (H.length+4)).length+4)))++[.vec 9 1 (l.flatMap encSG++mks encSG mkB 12)]))
theorem hpC_a (H:Heap) (a b:Mdl) (l:List ByteArray):MdAt a (H.length+4) (hpC H a b l):=by
 refine MdAt.of ?_
 have:=Has.app (H:=H++[.box 27 a.cells,.box 27 b.cells,.box 27 (mdL a (H.length+4)),.box 27 (mdL b (H.length+((lnH a (H.length+4)).length+4)))]) (A:=lnH b (H.length+((lnH a (H.length+4)).length+4))++[.vec 9 1 (l.flatMap encSG++mks encSG mkB 12)]) (lnH a (H.length+4))
 rw [ya5] at this
 have e:hpC H a b l=((H++[.box 27 a.cells,.box 27 b.cells,.box 27 (mdL a (H.length+4)),.box 27 (mdL b (H.length+((lnH a (H.length+4)).length+4)))])++lnH a (H.length+4))++(lnH b (H.length+((lnH a (H.length+4)).length+4))++[.vec 9 1 (l.flatMap encSG++mks encSG mkB 12)]):=by
  unfold hpC
  simp
 rw [e]
 exact this
theorem hpC_b (H:Heap) (a b:Mdl) (l:List ByteArray):MdAt b (H.length+((lnH a (H.length+4)).length+4)) (hpC H a b l):=by
 refine MdAt.of ?_
 have:=Has.app (H:=H++(.box 27 a.cells::.box 27 b.cells::.box 27 (mdL a (H.length+4))::.box 27 (mdL b (H.length+((lnH a (H.length+4)).length+4)))::lnH a (H.length+4))) (A:=[.vec 9 1 (l.flatMap encSG++mks encSG mkB 12)]) (lnH b (H.length+((lnH a (H.length+4)).length+4)))
 rw [ya5] at this
 have e:hpC H a b l=((H++(.box 27 a.cells::.box 27 b.cells::.box 27 (mdL a (H.length+4))::.box 27 (mdL b (H.length+((lnH a (H.length+4)).length+4)))::lnH a (H.length+4)))++lnH b (H.length+((lnH a (H.length+4)).length+4)))++[.vec 9 1 (l.flatMap encSG++mks encSG mkB 12)]:=by
  unfold hpC
  simp
 rw [e]
 exact this
theorem hpC_t (H:Heap) (a b:Mdl) (l:List ByteArray):(hpC H a b l)[H.length+((lnH a (H.length+4)++lnH b (H.length+((lnH a (H.length+4)).length+4))).length+4)]? = some (.vec 9 1 (l.flatMap encSG++mks encSG mkB 12)):=by
 unfold hpC
 generalize lnH a (H.length+4)++lnH b (H.length+((lnH a (H.length+4)).length+4))=X
 rw [yam (by omega),ybo]
 show (_::_::_::_::(X++[_]))[X.length+1+1+1+1]? = _
 simp
theorem zuy (k2 z2 p2 e2:Int) (F:List Fct) (as':List AV) (h:∀ H,VCall Tryz.prog 11 as' H fun r H'=>r=.tup [mdW k2 z2 p2 (.vs H.length F.length),.int .i64 e2]∧H'=H++[.vec 60 3 (F.flatMap Fct.cells)]) (xs zs:List AV) (H:Heap) (hl:LendL H xs zs) (hw:WkL zs as') :
  VCall Tryz.prog 11 xs H fun r H'=>r=.tup [mdW k2 z2 p2 (.vs H.length F.length),.int .i64 e2]∧H'=H++[.vec 60 3 (F.flatMap Fct.cells)]:=by
 refine VCall.mono (VCall.lend (ι:=Unit) (v:=fun _=>.tup [mdW k2 z2 p2 (.vs H.length F.length),.int .i64 e2]) (X:=fun _=>[.vec 60 3 (F.flatMap Fct.cells)]) (fun H2 h2=>?_) hl (fun _=>?_) (fun _=>⟨?_,trivial⟩)) fun r H' ⟨_,h⟩=>h
 ·rw [← h2]
  exact VCall.mono (zdb (h H2) hw) fun r H' h=>⟨(),h⟩
 ·simp [freeV,freeL]
 ·refine zhx fun v hv=>?_
  obtain ⟨f,-,hf⟩:=List.mem_flatMap.1 hv
  simp only [Fct.cells,yay,ycx,or_false] at hf
  rcases hf with rfl|rfl|rfl <;> trivial
theorem nth_lend (k5 z5 p5 e5:Int) (W:Nat→AV) (hWf:∀ p,freeV p (W p)) (Bt:Nat→Blk) (hB:∀ M s,freeB M (Bt s)) (as':List AV) (h:∀ H,VCall Tryz.prog 14 as' H fun r H'=>∃ s,r=.tup [mdW k5 z5 p5 (W H.length),.int .i64 e5]∧H'=H++[Bt s]) (xs zs:List AV) (H:Heap) (hl:LendL H xs zs) (hw:WkL zs as') :
  VCall Tryz.prog 14 xs H fun r H'=>∃ s,r=.tup [mdW k5 z5 p5 (W H.length),.int .i64 e5]∧H'=H++[Bt s]:=by
 refine VCall.lend (ι:=Nat) (v:=fun _=>.tup [mdW k5 z5 p5 (W H.length),.int .i64 e5]) (X:=fun s=>[Bt s]) (fun H2 h2=>?_) hl (fun _=>?_) (fun s=>⟨hB _ s,trivial⟩)
 ·rw [← h2]
  exact zdb (h H2) hw
 ·simp only [freeV,freeL]
  exact ⟨⟨trivial,trivial,trivial,trivial,hWf _,trivial,trivial,trivial⟩,trivial,trivial⟩
theorem zwj (a b:Mdl) (l:List ByteArray) (hna:a.Nm) (hnb:b.Nm) (hva:∀ f∈a.funcs,f.vl.length≤17592186044404) (hvb:∀ f∈b.funcs,f.vl.length≤17592186044404) (hsz:∀ c∈l,c.size≤9223372036854775807) (size N:Int) (H:Heap) :
  VDet Tryz.prog 3 [.agg a.cells,.agg b.cells,.sl none l.length (l.flatMap encSG),.int .i64 size,.int .i64 N] H (.bool true):=by
 have w6a:=fun H=>zrz a H
 have w6b:=fun H=>zrz b H
 have w7:∀ H,VDet Tryz.prog 7 [] H (.bool true):=fun H=>zsc H
 by_cases hyes:few13 a=true∧few13 b=true∧l.length≤20
 ·obtain ⟨ya,yb,h20⟩:=hyes
  rw [ya] at w6a
  rw [yb] at w6b
  obtain ⟨la1,la2,la3,la4⟩:=zky ya
  obtain ⟨lb1,lb2,lb3,lb4⟩:=zky yb
  have fa:a.Few:=⟨by omega,by omega,by omega,by omega,hva⟩
  have fb:b.Few:=⟨by omega,by omega,by omega,by omega,hvb⟩
  obtain ⟨sm,e1,c10,r19⟩:=same_all a b la2 lb2 hna hnb
  obtain ⟨v3,e3,c12,r21⟩:=zvl a la2 hna
  obtain ⟨k2,z2,p2,e2,F2,c11,r20,hF2⟩:=zxk a la2 hna
  have c13:=fun H=>zld l (by omega) hsz size H
  have r22:=fun H=>zga l (by omega) hsz size H
  obtain ⟨k5,z5,p5,e5,F5,W,Bt,hW,c14,r23,r24,hBt⟩:=nth_all l h20 hsz size N
  have hMa:=hpC_a H a b l
  have hMb:=hpC_b H a b l
  have hMt:=hpC_t H a b l
  have hXl:=zye a (H.length+4)
  have w8a:∀ Z:Heap,Z.length=H.length+4→VCall Tryz.prog 8 [.agg a.cells] Z fun r H'=>r=.agg (mdL a (H.length+4))∧H'=Z++lnH a (H.length+4):=fun Z hz=>by rw [← hz];exact zhd a fa (by omega) Z
  have w8b:∀ Z:Heap,Z.length=H.length+((lnH a (H.length+4)).length+4)→VCall Tryz.prog 8 [.agg b.cells] Z fun r H'=>r=.agg (mdL b (H.length+((lnH a (H.length+4)).length+4)))∧H'=Z++lnH b (H.length+((lnH a (H.length+4)).length+4)):=fun Z hz=>by rw [← hz];exact zhd b fb (by omega) Z
  have w9:∀ Z:Heap,Z.length=H.length+((lnH a (H.length+4)++lnH b (H.length+((lnH a (H.length+4)).length+4))).length+4)→VCall Tryz.prog 9 [.sl none l.length (l.flatMap encSG)] Z fun r H'=>r=.vk (H.length+((lnH a (H.length+4)++lnH b (H.length+((lnH a (H.length+4)).length+4))).length+4)) l.length (l.length+12)∧H'=Z++[.vec 9 1 (l.flatMap encSG++mks encSG mkB 12)]:=fun Z hz=>by rw [← hz];exact zvq l (by omega) Z
  have hq:(hpC H a b l).length=H.length+((lnH a (H.length+4)++lnH b (H.length+((lnH a (H.length+4)).length+4))).length+4)+1:=by
   unfold hpC
   simp only [ya5,List.length_cons,List.length_nil]
   omega
  have hXX:(lnH a (H.length+4)++lnH b (H.length+((lnH a (H.length+4)).length+4))).length=(lnH a (H.length+4)).length+(lnH b (H.length+((lnH a (H.length+4)).length+4))).length:=ya5
  have hG0:hpC H a b l=H++(.box 27 a.cells::.box 27 b.cells::.box 27 (mdL a (H.length+4))::.box 27 (mdL b (H.length+((lnH a (H.length+4)).length+4)))::((lnH a (H.length+4)++lnH b (H.length+((lnH a (H.length+4)).length+4)))++[.vec 9 1 (l.flatMap encSG++mks encSG mkB 12)])):=rfl
  generalize hpb:H.length+((lnH a (H.length+4)).length+4)=pb at *
  generalize hXA:lnH a (H.length+4)=XA at *
  generalize hXB:lnH b pb=XB at *
  have tl:∀ X:Heap,Lend ((hpC H a b l)++X) (.vk (H.length+((XA++XB).length+4)) l.length (l.length+12)) (.sk l.length (l.length+12) (l.flatMap encSG++mks encSG mkB 12)):=fun X=>zoi ((yaj (yac.1 hMt).1).trans hMt)
  have w10:∀ X:Heap,VDet Tryz.prog 10 [.agg (mdL a (H.length+4)),.agg (mdL b pb)] (hpC H a b l++X) (.tup [.bool sm,.int .i64 e1]):=fun X=>zb8 (.cons (.agg (hMa.app X).lend) (.cons (.agg (hMb.app X).lend) .nil)) c10 ⟨zbm (zg2 a),zbm (zg2 b),trivial⟩ rfl
  have w11:VCall Tryz.prog 11 [.agg (mdL a (H.length+4))] (hpC H a b l++[]) fun r H'=>r=.tup [mdW k2 z2 p2 (.vs ((hpC H a b l).length+0) F2.length),.int .i64 e2]∧H'=(hpC H a b l++[])++[.vec 60 3 (F2.flatMap Fct.cells)]:=by
   have:=zuy k2 z2 p2 e2 F2 _ c11 [.agg (mdL a (H.length+4))] [.agg (lnM a)] (hpC H a b l++[]) (.cons (.agg (hMa.app []).lend) .nil) ⟨zbm (zg2 a),trivial⟩
   rw [ya5] at this
   exact this
  have w12:∀ X:Heap,VDet Tryz.prog 12 [.agg (mdL a (H.length+4))] (hpC H a b l++X) (.tup [.int .i64 v3,.int .i64 e3]):=fun X=>zb8 (.cons (.agg (hMa.app X).lend) .nil) c12 ⟨zbm (zg2 a),trivial⟩ rfl
  have w13:∀ X:Heap,VDet Tryz.prog 13 [.vk (H.length+((XA++XB).length+4)) l.length (l.length+12),.int .i64 size] (hpC H a b l++X) (.tup [.int .i64 (cntV l size),.int .i64 (cntE l size)]):=fun X=>zb8 (.cons (tl X) (.cons (.refl _) .nil)) c13 ⟨wk_sk _ _ _ _,yae _,trivial⟩ rfl
  have hWf:∀ p,freeV p (W p):=fun p=>by
   rcases hW with rfl|rfl
   ·exact yax p
   ·exact yax p
  have w14:∀ B1 B2:Blk,VCall Tryz.prog 14 [.vk (H.length+((XA++XB).length+4)) l.length (l.length+12),.int .i64 size,.int .i64 N] (hpC H a b l++[B1,B2]) fun r H'=>∃ s,r=.tup [mdW k5 z5 p5 (W ((hpC H a b l).length+2)),.int .i64 e5]∧H'=(hpC H a b l++[B1,B2])++[Bt s]:=fun B1 B2=>by
   have:=nth_lend k5 z5 p5 e5 W hWf Bt hBt _ c14 [.vk (H.length+((XA++XB).length+4)) l.length (l.length+12),.int .i64 size,.int .i64 N] [.sk l.length (l.length+12) (l.flatMap encSG++mks encSG mkB 12),.int .i64 size,.int .i64 N] (hpC H a b l++[B1,B2]) (.cons (tl _) (.cons (.refl _) (.cons (.refl _) .nil))) ⟨wk_sk _ _ _ _,yae _,yae _,trivial⟩
   rw [show (hpC H a b l++[B1,B2]).length=(hpC H a b l).length+2 from ya5] at this
   exact this
  have w16:∀ X:Heap,VDet Tryz.prog 16 [.vk (H.length+((XA++XB).length+4)) l.length (l.length+12),.sl none l.length (l.flatMap encSG)] (hpC H a b l++X) (.bool true):=fun X=>zv5 l (by omega) _ _ ((yaj (yac.1 hMt).1).trans hMt)
  have w17:∀ X:Heap,VCall Tryz.prog 17 [.agg (mdL a (H.length+4))] (hpC H a b l++X) fun r H'=>r=.tup []∧OverR (fun j=>j<H.length+4∨H.length+4+6+4 * a.funcs.length≤j) (hpC H a b l++X) H':=fun X=>zkg a fa (by omega) (by omega) (by omega) _ _ (hMa.app X)
  have w18:∀ (B' X:Heap),OverR (fun j=>j<H.length+4∨H.length+4+6+4 * a.funcs.length≤j) (hpC H a b l) B'→VCall Tryz.prog 18 [.vk (H.length+((XA++XB).length+4)) l.length (l.length+12)] (B'++X) fun r H'=>r=.tup []∧OverR (fun j=>j≠H.length+((XA++XB).length+4)) (B'++X) H':=fun B' X o=>by
   have h1:B'[H.length+((XA++XB).length+4)]? = some (.vec 9 1 (l.flatMap encSG++mks encSG mkB 12)):=(o.same _ (.inr (by omega))).trans hMt
   refine zvb _ _ _ (by omega) ?_ _ ((yaj (yac.1 h1).1).trans h1)
   rw [ya5,zaq (f:=encSG) (sz:=1) zdz]
   rfl
  rcases hW with rfl|rfl
  ·simp only at w14 r24
   refine cmp_ms H (hn:=h20) (XA:=XA) (XB:=XB) (hXa:=rfl) (hXb:=rfl) (VT:=.vec 9 1 (l.flatMap encSG++mks encSG mkB 12)) (V1:=.vec 60 3 (F2.flatMap Fct.cells)) (Bt:=Bt) (q:=(hpC H a b l).length) (p13:=H.length+((XA++XB).length+4))
    (S:=fun j=>j<H.length+4∨H.length+4+6+4 * a.funcs.length≤j) (S2:=fun j=>j≠H.length+((XA++XB).length+4)) (G:=fun B=>B=hpC H a b l) (f2:=F2.length) (f5:=F5.length) (F2:=F2.flatMap Fct.cells) (F5:=F5.flatMap Fct.cells)
    (h6a:=w6a) (h6b:=w6b) (h8a:=w8a) (h8b:=fun Z hz=>w8b Z (hz.trans hpb)) (h9:=w9) (hG:=hG0.symm) (hGq:=fun B e=>by rw [e]) (hGp:=fun B e=>⟨_,e.trans hG0⟩)
    (g5:=fun B e=>by rw [e,hG0];exact zaj rfl) (g6:=fun B e=>by rw [e,hG0];exact zaj rfl) (g11:=fun B e=>by rw [e,hG0];exact zaj rfl) (g12:=fun B e=>by rw [e,hG0];exact zaj rfl)
    (h10:=fun B X e=>by rw [e];exact w10 X) (h11:=fun B e=>by rw [e];exact w11) (h12:=fun B X e=>by rw [e];exact w12 X) (h13:=fun B X e=>by rw [e];exact w13 X) (h14:=fun B B1 B2 e=>by rw [e];exact w14 B1 B2)
    (h15a:=fun B X e=>by rw [e];exact zek a fa _ _ (hMa.app X)) (h15b:=fun B X e=>by rw [e];exact zek b fb _ _ (hMb.app X)) (h16:=fun B X e=>by rw [e];exact w16 X)
    (h17:=fun B X e=>by rw [e];exact w17 X) (h18:=fun B B' X e o=>w18 B' X (e▸o))
    (hS0:=fun j hj=>⟨.inl (by omega),by omega⟩) (hSq:=fun j hj=>⟨.inr (by omega),by omega⟩) (hS5:=⟨.inl (by omega),by omega⟩) (hS6:=⟨.inl (by omega),by omega⟩)
    (h19:=r19) (h20:=r20) (h21:=r21) (h22:=r22) (h23:=r23) (h24a:=fun H i h=>zj2 _ _ _ F2 (by omega) H i h) (h24b:=fun H i s h=>r24 H i s h) (h7:=w7)
  ·simp only at w14 r24
   refine cmp_vs H (hn:=h20) (XA:=XA) (XB:=XB) (hXa:=rfl) (hXb:=rfl) (VT:=.vec 9 1 (l.flatMap encSG++mks encSG mkB 12)) (V1:=.vec 60 3 (F2.flatMap Fct.cells)) (Bt:=Bt) (q:=(hpC H a b l).length) (p13:=H.length+((XA++XB).length+4))
    (S:=fun j=>j<H.length+4∨H.length+4+6+4 * a.funcs.length≤j) (S2:=fun j=>j≠H.length+((XA++XB).length+4)) (G:=fun B=>B=hpC H a b l) (f2:=F2.length) (f5:=F5.length) (F2:=F2.flatMap Fct.cells) (F5:=F5.flatMap Fct.cells)
    (h6a:=w6a) (h6b:=w6b) (h8a:=w8a) (h8b:=fun Z hz=>w8b Z (hz.trans hpb)) (h9:=w9) (hG:=hG0.symm) (hGq:=fun B e=>by rw [e]) (hGp:=fun B e=>⟨_,e.trans hG0⟩)
    (g5:=fun B e=>by rw [e,hG0];exact zaj rfl) (g6:=fun B e=>by rw [e,hG0];exact zaj rfl) (g11:=fun B e=>by rw [e,hG0];exact zaj rfl) (g12:=fun B e=>by rw [e,hG0];exact zaj rfl)
    (h10:=fun B X e=>by rw [e];exact w10 X) (h11:=fun B e=>by rw [e];exact w11) (h12:=fun B X e=>by rw [e];exact w12 X) (h13:=fun B X e=>by rw [e];exact w13 X) (h14:=fun B B1 B2 e=>by rw [e];exact w14 B1 B2)
    (h15a:=fun B X e=>by rw [e];exact zek a fa _ _ (hMa.app X)) (h15b:=fun B X e=>by rw [e];exact zek b fb _ _ (hMb.app X)) (h16:=fun B X e=>by rw [e];exact w16 X)
    (h17:=fun B X e=>by rw [e];exact w17 X) (h18:=fun B B' X e o=>w18 B' X (e▸o))
    (hS0:=fun j hj=>⟨.inl (by omega),by omega⟩) (hSq:=fun j hj=>⟨.inr (by omega),by omega⟩) (hS5:=⟨.inl (by omega),by omega⟩) (hS6:=⟨.inl (by omega),by omega⟩)
    (h19:=r19) (h20:=r20) (h21:=r21) (h22:=r22) (h23:=r23) (h24a:=fun H i h=>zj2 _ _ _ F2 (by omega) H i h) (h24b:=fun H i s h=>r24 H i s h) (h7:=w7)
 ·refine cmp_no (few13 a) (few13 b) _ _ _ _ _ _ _ _ _ _ _ _ _ _ _ _ _ _ _ _ _ _ _ _ _ _ _ _ rfl rfl ?_ w6a w6b w7 H
  cases ha:few13 a with
  | false=>exact .inl rfl
  | true =>
    cases hb:few13 b with
    | false=>exact .inr (.inl ⟨rfl,rfl⟩)
    | true=>exact .inr (.inr ⟨rfl,rfl,by
      rcases yag 20 l.length with h|h
      ·exact h
      ·exact absurd ⟨ha,hb,h⟩ hyes⟩)
theorem tells_no (x y:Bool) (hxy:x=false∨(x=true∧y=false)) (H:Heap) (ka sa la:Int) (na1 na2 na3 na4:Nat) (ca1 ca2 ca3 ca4:List AV) (fo f1 f2:Nat) (fs:ByteArray) (g1 g2:List AV) (T:Int)
  (h6:∀ H,VDet Tryz.prog 6 [.agg [.int .u8 ka,.int .i64 sa,.sl none na1 ca1,.int .i64 la,.sl none na2 ca2,.sl none na3 ca3,.sl none na4 ca4]] H (.bool x)) (h66:∀ H,VDet Tryz.prog 66 [.sx 1 [.int .u8 (fo:Nat),.str fs,.sl none f1 g1,.sl none f2 g2]] H (.bool y)) (h7:∀ H,VDet Tryz.prog 7 [] H (.bool true)) :
  VDet Tryz.prog 27 [.agg [.int .u8 ka,.int .i64 sa,.sl none na1 ca1,.int .i64 la,.sl none na2 ca2,.sl none na3 ca3,.sl none na4 ca4],.agg [.int .u8 (fo:Nat),.str fs,.sl none f1 g1,.sl none f2 g2],.int .i64 T] H (.bool true):=by
 rcases hxy with rfl|⟨rfl,rfl⟩
 all_goals
  refine fdD Tryz.func27 ⟨rfl,rfl,rfl⟩ fun hcl hbl=>?_
  (repeat' ((conv=>whnf);(first|(refine yai ?_;first|refine yas ?_|refine yaq rfl ?_|refine yau rfl ?_|fail)|(refine ybk ?_;first|refine yab _ (h6 _) ?_|refine yab _ (h66 _) ?_|refine yab _ (h7 _) ?_|fail)|fail)));all_goals (conv=>whnf)
  exact eT trivial
theorem zur (H:Heap) (ka sa la:Int) (na1 na2 na3 na4 ia1 ia2 ia3 ia4 ma1 ma2 ma3 ma4:Nat) (ca1 ca2 ca3 ca4:List AV) (fo f1 f2 e1 e2:Nat) (fs:ByteArray) (g1 g2 d1 d2:List AV) (T:Int) (XA:Heap) (xa:Nat) (hXa:XA.length=xa) (V1:Blk) (q:Nat)
  (v:Nat) (ea ep es p:Int) (k2 z2 p2:Int) (n2:Nat) (F2:List AV) (vm vf:Bool) (S:Nat→Prop)
  (h6:∀ H,VDet Tryz.prog 6 [.agg [.int .u8 ka,.int .i64 sa,.sl none na1 ca1,.int .i64 la,.sl none na2 ca2,.sl none na3 ca3,.sl none na4 ca4]] H (.bool true)) (h66:∀ H,VDet Tryz.prog 66 [.sx 1 [.int .u8 (fo:Nat),.str fs,.sl none f1 g1,.sl none f2 g2]] H (.bool true))
  (h8:∀ Z:Heap,Z.length=H.length+4→VCall Tryz.prog 8 [.agg [.int .u8 ka,.int .i64 sa,.sl none na1 ca1,.int .i64 la,.sl none na2 ca2,.sl none na3 ca3,.sl none na4 ca4]] Z fun r H'=>r=.agg [.int .u8 ka,.int .i64 sa,.vk ia1 na1 ma1,.int .i64 la,.vk ia2 na2 ma2,.vk ia3 na3 ma3,.vk ia4 na4 ma4]∧H'=Z++XA)
  (h67:∀ H,VDet Tryz.prog 67 [.agg [.int .u8 (fo:Nat),.str fs,.sl none f1 g1,.sl none f2 g2]] H (.agg [.int .u8 (fo:Nat),.str fs,.sk f1 e1 d1,.sk f2 e2 d2]))
  (G:Heap→Prop) (hG:G (H++(.box 27 [.int .u8 ka,.int .i64 sa,.sl none na1 ca1,.int .i64 la,.sl none na2 ca2,.sl none na3 ca3,.sl none na4 ca4]::.box 50 [.int .u8 (fo:Nat),.str fs,.sl none f1 g1,.sl none f2 g2]::.box 27 [.int .u8 ka,.int .i64 sa,.vk ia1 na1 ma1,.int .i64 la,.vk ia2 na2 ma2,.vk ia3 na3 ma3,.vk ia4 na4 ma4]::.box 50 [.int .u8 (fo:Nat),.str fs,.sk f1 e1 d1,.sk f2 e2 d2]::XA)))
  (hGq:∀ B,G B→B.length=q) (hGp:∀ B,G B→∃ X,B=H++X)
  (g3:∀ B,G B→B[H.length+0]? = some (.box 27 [.int .u8 ka,.int .i64 sa,.sl none na1 ca1,.int .i64 la,.sl none na2 ca2,.sl none na3 ca3,.sl none na4 ca4])) (g4:∀ B,G B→B[H.length+1]? = some (.box 50 [.int .u8 (fo:Nat),.str fs,.sl none f1 g1,.sl none f2 g2]))
  (g7:∀ B,G B→B[H.length+2]? = some (.box 27 [.int .u8 ka,.int .i64 sa,.vk ia1 na1 ma1,.int .i64 la,.vk ia2 na2 ma2,.vk ia3 na3 ma3,.vk ia4 na4 ma4])) (g8:∀ B,G B→B[H.length+3]? = some (.box 50 [.int .u8 (fo:Nat),.str fs,.sk f1 e1 d1,.sk f2 e2 d2]))
  (h34:∀ B X,G B→VDet Tryz.prog 34 [.agg [.int .u8 ka,.int .i64 sa,.vk ia1 na1 ma1,.int .i64 la,.vk ia2 na2 ma2,.vk ia3 na3 ma3,.vk ia4 na4 ma4],.agg [.int .u8 (fo:Nat),.str fs,.sk f1 e1 d1,.sk f2 e2 d2]] (B++X) (.tup [.int .i64 v,.int .i64 ea]))
  (h36:∀ B X,G B→VDet Tryz.prog 36 [.agg [.int .u8 ka,.int .i64 sa,.vk ia1 na1 ma1,.int .i64 la,.vk ia2 na2 ma2,.vk ia3 na3 ma3,.vk ia4 na4 ma4],.agg [.int .u8 (fo:Nat),.str fs,.sk f1 e1 d1,.sk f2 e2 d2]] (B++X) (.tup [.bool (((v % 2:Nat):Int)==1),.int .i64 ea]))
  (h33:∀ B X,G B→VDet Tryz.prog 33 [.agg [.int .u8 ka,.int .i64 sa,.vk ia1 na1 ma1,.int .i64 la,.vk ia2 na2 ma2,.vk ia3 na3 ma3,.vk ia4 na4 ma4],.int .i64 T] (B++X) (.tup [.int .i64 p,.int .i64 ep]))
  (h37:∀ B,G B→VCall Tryz.prog 37 [.agg [.int .u8 ka,.int .i64 sa,.vk ia1 na1 ma1,.int .i64 la,.vk ia2 na2 ma2,.vk ia3 na3 ma3,.vk ia4 na4 ma4],.int .i64 T] (B++[]) fun r H'=>r=.tup [mdW k2 z2 p2 (.vs (q+0) n2),.int .i64 es]∧H'=(B++[])++[V1])
  (h43:∀ B X Y,G B→VDet Tryz.prog 43 [.agg [.int .u8 ka,.int .i64 sa,.vk ia1 na1 ma1,.int .i64 la,.vk ia2 na2 ma2,.vk ia3 na3 ma3,.vk ia4 na4 ma4]] (B++X++Y) (.bool vm))
  (h68:∀ B X Y,G B→VDet Tryz.prog 68 [.agg [.int .u8 (fo:Nat),.str fs,.sk f1 e1 d1,.sk f2 e2 d2]] (B++X++Y) (.bool vf))
  (h15:∀ B X,G B→VDet Tryz.prog 15 [.agg [.int .u8 ka,.int .i64 sa,.vk ia1 na1 ma1,.int .i64 la,.vk ia2 na2 ma2,.vk ia3 na3 ma3,.vk ia4 na4 ma4],.agg [.int .u8 ka,.int .i64 sa,.sl none na1 ca1,.int .i64 la,.sl none na2 ca2,.sl none na3 ca3,.sl none na4 ca4]] (B++X) (.bool true))
  (h69:∀ B X,G B→VDet Tryz.prog 69 [.agg [.int .u8 (fo:Nat),.str fs,.sk f1 e1 d1,.sk f2 e2 d2],.agg [.int .u8 (fo:Nat),.str fs,.sl none f1 g1,.sl none f2 g2]] (B++X) (.bool true))
  (h17:∀ B X,G B→VCall Tryz.prog 17 [.agg [.int .u8 ka,.int .i64 sa,.vk ia1 na1 ma1,.int .i64 la,.vk ia2 na2 ma2,.vk ia3 na3 ma3,.vk ia4 na4 ma4]] (B++X) fun r H'=>r=.tup []∧OverR S (B++X) H')
  (hS0:∀ j,j<H.length→S j) (hSq:∀ j,q≤j→S j) (hS3:S (H.length+0)) (hS4:S (H.length+1))
  (h70:∀ H,VDet Tryz.prog 70 [.agg [.int .u8 ka,.int .i64 sa,.sl none na1 ca1,.int .i64 la,.sl none na2 ca2,.sl none na3 ca3,.sl none na4 ca4],.agg [.int .u8 (fo:Nat),.str fs,.sl none f1 g1,.sl none f2 g2]] H (.tup [.int .i64 v,.int .i64 ea]))
  (h71:∀ H,VDet Tryz.prog 71 [.agg [.int .u8 ka,.int .i64 sa,.sl none na1 ca1,.int .i64 la,.sl none na2 ca2,.sl none na3 ca3,.sl none na4 ca4],.int .i64 T] H (.tup [.int .i64 p,.int .i64 ep]))
  (h72:∀ H,VDet Tryz.prog 72 [.agg [.int .u8 ka,.int .i64 sa,.sl none na1 ca1,.int .i64 la,.sl none na2 ca2,.sl none na3 ca3,.sl none na4 ca4],.int .i64 T] H (.tup [mdW k2 z2 p2 (.sl none n2 F2),.int .i64 es]))
  (h24:∀ H i,H[i]? = some V1→VDet Tryz.prog 24 [mdW k2 z2 p2 (.vs i n2),mdW k2 z2 p2 (.sl none n2 F2)] H (.bool true))
  (h57:∀ H,VDet Tryz.prog 57 [.agg [.int .u8 ka,.int .i64 sa,.sl none na1 ca1,.int .i64 la,.sl none na2 ca2,.sl none na3 ca3,.sl none na4 ca4]] H (.bool vm)) (h73:∀ H,VDet Tryz.prog 73 [.agg [.int .u8 (fo:Nat),.str fs,.sl none f1 g1,.sl none f2 g2]] H (.bool vf))
  (h7:∀ H,VDet Tryz.prog 7 [] H (.bool true)) :
  VDet Tryz.prog 27 [.agg [.int .u8 ka,.int .i64 sa,.sl none na1 ca1,.int .i64 la,.sl none na2 ca2,.sl none na3 ca3,.sl none na4 ca4],.agg [.int .u8 (fo:Nat),.str fs,.sl none f1 g1,.sl none f2 g2],.int .i64 T] H (.bool true):=by
 show VCall _ _ _ _ (detR H (.bool true))
 refine zy8 Tryz.E0 zaf 3 Tryz.func27 (by kernel_rfl) rfl (ybz rfl) rfl fun hcl hbl=>?_
 clear hbl
 (repeat' ((conv=>whnf);(first|refine zad [2000008,4,5,0,1,2,3,6,7] ?_|(refine yai ?_;first|refine yas ?_|refine yaq rfl ?_|fail)|refine yaf (by kernel_rfl) ?_|(refine ybk ?_;first|refine yab _ (h6 _) ?_|refine yab _ (h66 _) ?_|fail)|refine yan _ (fun _ hq X=>h67 _) ?_|refine zdg _ XA (_::_::_::_::XA) xa h8 rfl rfl rfl hXa ?_|fail)));conv=>whnf
 refine zn7 [2,3,4,6,7,8] (H1:=H++(.box 27 [.int .u8 ka,.int .i64 sa,.sl none na1 ca1,.int .i64 la,.sl none na2 ca2,.sl none na3 ca3,.sl none na4 ca4]::.box 50 [.int .u8 (fo:Nat),.str fs,.sl none f1 g1,.sl none f2 g2]::.box 27 [.int .u8 ka,.int .i64 sa,.vk ia1 na1 ma1,.int .i64 la,.vk ia2 na2 ma2,.vk ia3 na3 ma3,.vk ia4 na4 ma4]::.box 50 [.int .u8 (fo:Nat),.str fs,.sk f1 e1 d1,.sk f2 e2 d2]::XA)) rfl rfl rfl ?_
 revert hG
 generalize H++(.box 27 [.int .u8 ka,.int .i64 sa,.sl none na1 ca1,.int .i64 la,.sl none na2 ca2,.sl none na3 ca3,.sl none na4 ca4]::.box 50 [.int .u8 (fo:Nat),.str fs,.sl none f1 g1,.sl none f2 g2]::.box 27 [.int .u8 ka,.int .i64 sa,.vk ia1 na1 ma1,.int .i64 la,.vk ia2 na2 ma2,.vk ia3 na3 ma3,.vk ia4 na4 ma4]::.box 50 [.int .u8 (fo:Nat),.str fs,.sk f1 e1 d1,.sk f2 e2 d2]::XA)=B
 intro hG
 have hBq:=hGq B hG
 obtain ⟨X,hBX⟩:=hGp B hG
 have hp3:=g3 B hG
 have hp4:=g4 B hG
 have hp7:=g7 B hG
 have hp8:=g8 B hG
 clear g3 g4 g7 g8 hGq hGp h8 h6 h66 hcl
 refine Ends.walk Tryz.E0 zaf fun hcl1 hbl1=>?_
 clear hbl1
 (repeat' ((conv=>whnf);(first|(refine yai ?_;first|refine yau (bne_self_eq_false _) ?_|refine yaq (beq_self_eq_true _) ?_|refine yas ?_|refine yaq rfl ?_|fail)|refine zby v 2 rfl rfl ?_|(refine yaf ?_ ?_;· first|kernel_rfl|omega|fail)|(refine ybk ?_;first|refine yab _ (h34 _ _ hG) ?_|refine yab _ (h36 _ _ hG) ?_|refine yab _ (h33 _ _ hG) ?_|refine yab _ (h15 _ _ hG) ?_|refine yab _ (h69 _ _ hG) ?_|refine yab _ (h70 _) ?_|refine yab _ (h71 _) ?_|refine yab _ (h72 _) ?_|refine yab _ (h24 _ _ (zgh (o1.len.trans hBq) rfl)) ?_|refine yab _ (h57 _) ?_|refine yab _ (h73 _) ?_|refine yab _ (h7 _) ?_|fail)|(refine ycg ?_;first|refine yan _ (fun _ hq X=>h43 _ _ _ hG) ?_|refine yan _ (fun _ hq X=>h68 _ _ _ hG) ?_|fail)|refine zb1 _ _ _ 1 (h37 _ hG) rfl rfl rfl ?_|refine CallN.over S (h17 _ _ hG) rfl rfl (fun j hj=>hSq j (hBq▸hj)) fun B1 o1=>?_|refine ycd _ ((o1.same _ hS3).trans hp3) ?_|refine ycd _ ((o1.same _ hS4).trans hp4) ?_|refine ycd _ (by (repeat' (first|assumption|exact za7 _ rfl|exact zaj rfl|refine zbc (B':=?_) ?_|refine zap ?_|fail))) ?_|refine zad [] ?_|fail)));conv=>whnf
 trace_state
 rw [hBX] at o1
 obtain ⟨Y,hY⟩:=o1.pre hS0
 exact EndN2.det Y hY trivial (yae _)
theorem at_all (m:Mdl) (hfl:m.facts.length≤12) (hn:m.Nm) (f:Fo) (hg:f.good) (hz:szzF f≤100000):∃ (v:Nat) (e:Int),
  (∀ H,VDet Tryz.prog 34 [.agg m.cells,.agg f.cells] H (.tup [.int .i64 v,.int .i64 e])) ∧
  (∀ H,VDet Tryz.prog 36 [.agg m.cells,.agg f.cells] H (.tup [.bool (((v % 2:Nat):Int)==1),.int .i64 e])) ∧
  (∀ H,VDet Tryz.prog 70 [.agg m.cells,.agg f.cells] H (.tup [.int .i64 v,.int .i64 e])):=by
 have va:=fun H=>zfi m (by omega) hn H
 have ra:=fun H=>zc0 m (by omega) hn H
 have vr:=fun H=>zqu f hg H
 have rr:=fun H=>zxv f hg hz H
 have key:∀ (v:Nat) (e:Int),v<32→(e=0∨(e≠0∧v=0))→(∀ H,VDet Tryz.prog 34 [.agg m.cells,.agg f.cells] H (.tup [.int .i64 v,.int .i64 e]))→(∀ H,VDet Tryz.prog 70 [.agg m.cells,.agg f.cells] H (.tup [.int .i64 v,.int .i64 e]))→∃ (v:Nat) (e:Int),
  (∀ H,VDet Tryz.prog 34 [.agg m.cells,.agg f.cells] H (.tup [.int .i64 v,.int .i64 e])) ∧
  (∀ H,VDet Tryz.prog 36 [.agg m.cells,.agg f.cells] H (.tup [.bool (((v % 2:Nat):Int)==1),.int .i64 e])) ∧
  (∀ H,VDet Tryz.prog 70 [.agg m.cells,.agg f.cells] H (.tup [.int .i64 v,.int .i64 e])):=fun v e h1 h2 h3 h4=>⟨v,e,h3,fun H=>Holds_g m f v e h1 h2 h3 H,h4⟩
 by_cases h:zcd m=true∧ze2 f=true
 ·obtain ⟨t,ht,e1,-⟩:=tr_of h.1 (by omega) hn
  obtain ⟨p,hp,rfl⟩:=tf_right h.2
  rw [h.2,za6] at vr rr
  have c34:=fun H=>At_t t ht p hp vr H
  have c70:=fun H=>refAt_t t ht p hp rr H
  rw [e1,za6] at key ⊢
  have h32:=p2_32 (zc9 ht p) ht.n5
  cases hm:miss t p with
  | true =>
    rw [hm] at c34 c70
    exact key 0 6 (by decide) (.inr ⟨by decide,rfl⟩) c34 c70
  | false =>
    rw [hm] at c34 c70
    exact key (evT t p) 0 h32 (.inl rfl) c34 c70
 ·have hxy:zcd m=false∨(zcd m=true∧ze2 f=false):=by
   cases hx:zcd m with
   | false=>exact .inl rfl
   | true=>exact .inr ⟨rfl,by cases hy:ze2 f with
     | false=>rfl
     | true=>exact absurd ⟨hx,hy⟩ h⟩
  exact key 0 2 (by decide) (.inr ⟨by decide,rfl⟩) (fun H=>At_no m f _ _ hxy va vr H) (fun H=>refAt_no m f _ _ hxy ra rr H)
theorem pos_all (m:Mdl) (hfl:m.facts.length≤12) (hn:m.Nm) (x:Int) (hx:x<9223372036854775808):∃ (p e:Int),
  (∀ H,VDet Tryz.prog 33 [.agg m.cells,.int .i64 x] H (.tup [.int .i64 p,.int .i64 e]))∧(∀ H,VDet Tryz.prog 71 [.agg m.cells,.int .i64 x] H (.tup [.int .i64 p,.int .i64 e])):=by
 have va:=fun H=>zfi m (by omega) hn H
 have ra:=fun H=>zc0 m (by omega) hn H
 by_cases h:zcd m=true
 ·obtain ⟨t,ht,e1,-⟩:=tr_of h (by omega) hn
  rw [e1]
  rcases Int.lt_or_le x 0 with h0|h0
  ·exact ⟨0,2,fun H=>zp2 t ht x h0 H,fun H=>zu7 t ht x h0 H⟩
  ·obtain ⟨y,rfl⟩:∃ y:Nat,x=y:=⟨x.toNat,by omega⟩
   exact ⟨_,0,fun H=>zml t ht y (by omega) H,fun H=>refPos_t t ht y (by omega) H⟩
 ·have h:zcd m=false:=by simpa using h
  rw [h] at va ra
  exact ⟨0,2,fun H=>zp3 m va x H,fun H=>zu8 m ra x H⟩
theorem suf_all (m:Mdl) (hfl:m.facts.length≤12) (hn:m.Nm) (x:Int) (hx:x<9223372036854775808):∃ (k sz lp e:Int) (F:List Fct),
  (∀ H,VCall Tryz.prog 37 [.agg m.cells,.int .i64 x] H fun r H'=>r=.tup [mdW k sz lp (.vs H.length F.length),.int .i64 e]∧H'=H++[.vec 60 3 (F.flatMap Fct.cells)]) ∧
  (∀ H,VDet Tryz.prog 72 [.agg m.cells,.int .i64 x] H (.tup [mdW k sz lp (.sl none F.length (F.flatMap Fct.cells)),.int .i64 e]))∧F.length≤12:=by
 have va:=fun H=>zfi m (by omega) hn H
 have ra:=fun H=>zc0 m (by omega) hn H
 have bad:(∀ H,VDet Tryz.prog 37 [.agg m.cells,.int .i64 x] H (.tup [mdZ,.int .i64 2]))→(∀ H,VDet Tryz.prog 72 [.agg m.cells,.int .i64 x] H (.tup [mdZ,.int .i64 2]))→∃ (k sz lp e:Int) (F:List Fct),
  (∀ H,VCall Tryz.prog 37 [.agg m.cells,.int .i64 x] H fun r H'=>r=.tup [mdW k sz lp (.vs H.length F.length),.int .i64 e]∧H'=H++[.vec 60 3 (F.flatMap Fct.cells)]) ∧
  (∀ H,VDet Tryz.prog 72 [.agg m.cells,.int .i64 x] H (.tup [mdW k sz lp (.sl none F.length (F.flatMap Fct.cells)),.int .i64 e]))∧F.length≤12:=fun p1 p2 =>
  ⟨0,0,0,2,[],fun H=>(p1 H).nilVec 60 3 (.tup (.cons (.agg (.cons (.refl _) (.cons (.refl _) (.cons (.refl _) (.cons (.refl _) (.cons .nil (.cons (.refl _) (.cons (.refl _) .nil)))))))) (.cons (.refl _) .nil))),fun H=>zns (p2 H) (zhl ⟨zbm ⟨yae _,yae _,yae _,yae _,zal,yae _,yae _,trivial⟩,yae _,trivial⟩),yah _⟩
 by_cases h:zcd m=true
 ·obtain ⟨t,ht,e1,e2⟩:=tr_of h (by omega) hn
  rw [e1] at bad ⊢
  rcases Int.lt_or_le x 0 with h0|h0
  ·exact bad (fun H=>zwn t ht x h0 H) (fun H=>zu3 t ht x h0 H)
  ·clear bad
   obtain ⟨y,rfl⟩:∃ y:Nat,x=y:=⟨x.toNat,by omega⟩
   have hsl:(sufT t y).fs.length=t.fs.length:=by simp [sufT,zbu]
   have p2:=fun H=>refSuf_t t ht y (by omega) H
   rcases yc4 t.fs.length with hz|hz
   ·obtain ⟨n,lp,fs⟩:=t
    obtain rfl:fs=[]:=ydm.1 hz
    have p1:=fun H=>Suffix_0 n lp ht y (by omega) H
    exact ⟨5,(sufT ⟨n,lp,[]⟩ y).n,(sufT ⟨n,lp,[]⟩ y).lp,0,[],fun H=>(p1 H).nilVec 60 3 (.tup (.cons (.agg (.cons (.refl _) (.cons (.refl _) (.cons (.refl _) (.cons (.refl _) (.cons .nil (.cons (.refl _) (.cons (.refl _) .nil)))))))) (.cons (.refl _) .nil))),p2,yah _⟩
   ·have p1:=fun H=>zum t ht hz y (by omega) H
    refine ⟨5,(sufT t y).n,(sufT t y).lp,0,fcF (sufT t y).fs,?_,?_,?_⟩
    ·intro H
     rw [zh1,ziq,hsl]
     exact p1 H
    ·intro H
     rw [zh1,ziq,hsl]
     exact p2 H
    ·rw [ziq,hsl]
     omega
 ·have h:zcd m=false:=by simpa using h
  rw [h] at va ra
  exact bad (fun H=>zwo m va x H) (fun H=>zu4 m ra x H)
theorem suf_lend (k2 z2 p2 e2:Int) (F:List Fct) (as':List AV) (h:∀ H,VCall Tryz.prog 37 as' H fun r H'=>r=.tup [mdW k2 z2 p2 (.vs H.length F.length),.int .i64 e2]∧H'=H++[.vec 60 3 (F.flatMap Fct.cells)]) (xs zs:List AV) (H:Heap) (hl:LendL H xs zs) (hw:WkL zs as') :
  VCall Tryz.prog 37 xs H fun r H'=>r=.tup [mdW k2 z2 p2 (.vs H.length F.length),.int .i64 e2]∧H'=H++[.vec 60 3 (F.flatMap Fct.cells)]:=by
 refine VCall.mono (VCall.lend (ι:=Unit) (v:=fun _=>.tup [mdW k2 z2 p2 (.vs H.length F.length),.int .i64 e2]) (X:=fun _=>[.vec 60 3 (F.flatMap Fct.cells)]) (fun H2 h2=>?_) hl (fun _=>?_) (fun _=>⟨?_,trivial⟩)) fun r H' ⟨_,h⟩=>h
 ·rw [← h2]
  exact VCall.mono (zdb (h H2) hw) fun r H' h=>⟨(),h⟩
 ·simp [freeV,freeL]
 ·refine zhx fun v hv=>?_
  obtain ⟨f,-,hf⟩:=List.mem_flatMap.1 hv
  simp only [Fct.cells,yay,ycx,or_false] at hf
  rcases hf with rfl|rfl|rfl <;> trivial
def few10 (f:Fo):Bool:=decide (szzF f≤600)
theorem few10_c (f:Fo) (hg:f.good) (H:Heap):VDet Tryz.prog 66 [.sx 1 f.cells] H (.bool (few10 f)):=by
 have h:=fun H=>zwf [f] (show 1≤9223372036854775807 by decide) ⟨hg,trivial⟩ H
 have e:smN szzF [f]=szzF f:=by simp [smN]
 rw [show fewF [f]=few10 f by unfold fewF few10;rw [e],show [f].flatMap Fo.cells=f.cells by simp,show [f].length=1 from rfl] at h
 obtain ⟨w1,w2,w3,w4,w5,w6,hce,-⟩:=zer f
 rw [hce] at h ⊢
 generalize few10 f=b at *
 refine fdD Tryz.func66 ⟨rfl,rfl,rfl⟩ fun hcl hbl=>?_
 (repeat' ((conv=>whnf);(first|refine yab _ (zbs (h _) (by (repeat' (first|exact trivial|refine yb3 ?_ ?_|exact wk_sx _ _|fail));done)) ?_|fail)));conv=>whnf
 exact eT trivial
def hpT (H:Heap) (m:Mdl) (f:Fo):Heap:=H++(.box 27 m.cells::.box 50 f.cells::.box 27 (mdL m (H.length+4))::.box 50 (lnF f)::lnH m (H.length+4))
theorem hpT_m (H:Heap) (m:Mdl) (f:Fo):MdAt m (H.length+4) (hpT H m f):=by
 refine MdAt.of ?_
 have:=Has.app (H:=H++[.box 27 m.cells,.box 50 f.cells,.box 27 (mdL m (H.length+4)),.box 50 (lnF f)]) (A:=[]) (lnH m (H.length+4))
 rw [ya5] at this
 have e:hpT H m f=((H++[.box 27 m.cells,.box 50 f.cells,.box 27 (mdL m (H.length+4)),.box 50 (lnF f)])++lnH m (H.length+4))++[]:=by
  unfold hpT
  simp
 rw [e]
 exact this
theorem tells_c (m:Mdl) (f:Fo) (hn:m.Nm) (hv:∀ f∈m.funcs,f.vl.length≤17592186044404) (hg:f.good) (T:Int) (hT:T<9223372036854775808) (H:Heap) :
  VDet Tryz.prog 27 [.agg m.cells,.agg f.cells,.int .i64 T] H (.bool true):=by
 have w6:=fun H=>zrz m H
 have w66:=fun H=>few10_c f hg H
 have w7:∀ H,VDet Tryz.prog 7 [] H (.bool true):=fun H=>zsc H
 by_cases hyes:few13 m=true∧few10 f=true
 ·obtain ⟨ya,yb⟩:=hyes
  rw [ya] at w6
  rw [yb] at w66
  obtain ⟨l1,l2,l3,l4⟩:=zky ya
  have hz:szzF f≤600:=of_decide_eq_true yb
  have fa:m.Few:=⟨by omega,by omega,by omega,by omega,hv⟩
  have hsm:=smF_of f hg (by omega)
  obtain ⟨v,ea,c34,c36,r70⟩:=at_all m l2 hn f hg (by omega)
  obtain ⟨p,ep,c33,r71⟩:=pos_all m l2 hn T hT
  obtain ⟨k2,z2,p2,es,F2,c37,r72,hF2⟩:=suf_all m l2 hn T hT
  have c43:=fun H=>zfi m (by omega) hn H
  have r57:=fun H=>zc0 m (by omega) hn H
  have c68:=fun H=>zqu f hg H
  have r73:=fun H=>zxv f hg (by omega) H
  have c67:=zyj f hsm
  have c69:=zys f hsm
  unfold LnFP at c67
  unfold KpFP at c69
  have hM:=hpT_m H m f
  have hXl:=zye m (H.length+4)
  have w8:∀ Z:Heap,Z.length=H.length+4→VCall Tryz.prog 8 [.agg m.cells] Z fun r H'=>r=.agg (mdL m (H.length+4))∧H'=Z++lnH m (H.length+4):=fun Z hz=>by rw [← hz];exact zhd m fa (by omega) Z
  have hq:(hpT H m f).length=H.length+((lnH m (H.length+4)).length+4):=by
   unfold hpT
   simp only [ya5,List.length_cons]
  have hG0:hpT H m f=H++(.box 27 m.cells::.box 50 f.cells::.box 27 (mdL m (H.length+4))::.box 50 (lnF f)::lnH m (H.length+4)):=rfl
  generalize hXA:lnH m (H.length+4)=XA at *
  have hln:=fun X:Heap=>(hM.app X).lend
  have hlf:∀ X:Heap,LendL (hpT H m f++X) [.agg (lnF f)] [.agg (lnF f)]:=fun X=>.cons (.refl _) .nil
  have w34:∀ X:Heap,VDet Tryz.prog 34 [.agg (mdL m (H.length+4)),.agg (lnF f)] (hpT H m f++X) (.tup [.int .i64 v,.int .i64 ea]):=fun X=>zb8 (.cons (.agg (hln X)) (hlf X)) c34 ⟨zbm (zg2 m),zbm (zpa f),trivial⟩ rfl
  have w36:∀ X:Heap,VDet Tryz.prog 36 [.agg (mdL m (H.length+4)),.agg (lnF f)] (hpT H m f++X) (.tup [.bool (((v % 2:Nat):Int)==1),.int .i64 ea]):=fun X=>zb8 (.cons (.agg (hln X)) (hlf X)) c36 ⟨zbm (zg2 m),zbm (zpa f),trivial⟩ rfl
  have w33:∀ X:Heap,VDet Tryz.prog 33 [.agg (mdL m (H.length+4)),.int .i64 T] (hpT H m f++X) (.tup [.int .i64 p,.int .i64 ep]):=fun X=>zb8 (.cons (.agg (hln X)) (.cons (.refl _) .nil)) c33 ⟨zbm (zg2 m),yae _,trivial⟩ rfl
  have w37:VCall Tryz.prog 37 [.agg (mdL m (H.length+4)),.int .i64 T] (hpT H m f++[]) fun r H'=>r=.tup [mdW k2 z2 p2 (.vs ((hpT H m f).length+0) F2.length),.int .i64 es]∧H'=(hpT H m f++[])++[.vec 60 3 (F2.flatMap Fct.cells)]:=by
   have:=suf_lend k2 z2 p2 es F2 _ c37 [.agg (mdL m (H.length+4)),.int .i64 T] [.agg (lnM m),.int .i64 T] (hpT H m f++[]) (.cons (.agg (hln [])) (.cons (.refl _) .nil)) ⟨zbm (zg2 m),yae _,trivial⟩
   rw [ya5] at this
   exact this
  have w43:∀ X Y:Heap,VDet Tryz.prog 43 [.agg (mdL m (H.length+4))] (hpT H m f++X++Y) (.bool (zcd m)):=fun X Y=>by rw [ybe];exact zb8 (.cons (.agg (hln _)) .nil) c43 ⟨zbm (zg2 m),trivial⟩ rfl
  have w68:∀ X Y:Heap,VDet Tryz.prog 68 [.agg (lnF f)] (hpT H m f++X++Y) (.bool (ze2 f)):=fun X Y=>zbs (c68 _) ⟨zbm (zpa f),trivial⟩
  have w15:∀ X:Heap,VDet Tryz.prog 15 [.agg (mdL m (H.length+4)),.agg m.cells] (hpT H m f++X) (.bool true):=fun X=>zek m fa _ _ (hM.app X)
  have w17:∀ X:Heap,VCall Tryz.prog 17 [.agg (mdL m (H.length+4))] (hpT H m f++X) fun r H'=>r=.tup []∧OverR (fun j=>j<H.length+4∨H.length+4+6+4 * m.funcs.length≤j) (hpT H m f++X) H':=fun X=>zkg m fa (by omega) (by omega) (by omega) _ _ (hM.app X)
  obtain ⟨fo,fs,fa1,fb1,q1,q2⟩:=znd f
  obtain ⟨ka,sa,na1,ca1,la,na2,ca2,na3,ca3,na4,ca4,qm⟩:∃ ka sa na1 ca1 la na2 ca2 na3 ca3 na4 ca4,m.cells=[.int .u8 ka,.int .i64 sa,.sl none na1 ca1,.int .i64 la,.sl none na2 ca2,.sl none na3 ca3,.sl none na4 ca4]:=⟨_,_,_,_,_,_,_,_,_,_,_,rfl⟩
  rw [q1]
  refine zur H (XA:=XA) (hXa:=rfl) (V1:=.vec 60 3 (F2.flatMap Fct.cells)) (q:=(hpT H m f).length) (v:=v) (ea:=ea) (ep:=ep) (es:=es) (p:=p) (k2:=k2) (z2:=z2) (p2:=p2) (n2:=F2.length) (F2:=F2.flatMap Fct.cells) (vm:=zcd m) (vf:=ze2 f)
   (S:=fun j=>j<H.length+4∨H.length+4+6+4 * m.funcs.length≤j) (G:=fun B=>B=hpT H m f)
   (h6:=w6) (h66:=q1▸w66) (h8:=w8) (h67:=q2▸q1▸c67) (hG:=by rw [hG0,q1,q2];rfl) (hGq:=fun B e=>by rw [e]) (hGp:=fun B e=>⟨_,e.trans hG0⟩)
   (g3:=fun B e=>by rw [e,hG0];exact zaj rfl) (g4:=fun B e=>by rw [e,hG0,q1];exact zaj rfl) (g7:=fun B e=>by rw [e,hG0];exact zaj rfl) (g8:=fun B e=>by rw [e,hG0,q2];exact zaj rfl)
   (h34:=fun B X e=>by rw [e,← q2];exact w34 X) (h36:=fun B X e=>by rw [e,← q2];exact w36 X) (h33:=fun B X e=>by rw [e];exact w33 X) (h37:=fun B e=>by rw [e];exact w37)
   (h43:=fun B X Y e=>by rw [e];exact w43 X Y) (h68:=fun B X Y e=>by rw [e,← q2];exact w68 X Y) (h15:=fun B X e=>by rw [e];exact w15 X) (h69:=fun B X e=>by rw [← q1,← q2];exact c69 _)
   (h17:=fun B X e=>by rw [e];exact w17 X) (hS0:=fun j hj=>.inl (by omega)) (hSq:=fun j hj=>.inr (by omega)) (hS3:=.inl (by omega)) (hS4:=.inl (by omega))
   (h70:=q1▸r70) (h71:=r71) (h72:=r72) (h24:=fun H i h=>zj2 _ _ _ F2 (by omega) H i h) (h57:=r57) (h73:=q1▸r73) (h7:=w7)
 ·obtain ⟨w1,w2,w3,w4,w5,w6',hce,-⟩:=zer f
  rw [hce] at w66 ⊢
  refine tells_no (few13 m) (few10 f) ?_ H _ _ _ _ _ _ _ _ _ _ _ _ _ _ _ _ _ T w6 w66 w7
  cases ha:few13 m with
  | false=>exact .inl rfl
  | true=>exact .inr ⟨rfl,by
    cases hb:few10 f with
    | false=>rfl
    | true=>exact absurd ⟨ha,hb⟩ hyes⟩
def fNx:Tf:=.f1 12 fP
def fAl:Tf:=.f1 13 fP
def forms:List Tf:=[fP,fNx,fAl,.f1 3 (.f1 13 (.f1 3 fP)),.f2 14 (.f1 3 fP) fP,.f2 14 fP fNx,.f1 13 (.f2 6 fP (.f1 12 fNx)),.f2 7 fAl (.f2 4 fP (.f1 12 fAl)),.f2 14 fP (.f1 13 (.f1 3 fP)),.f2 5 .fa fNx,.f2 14 .fa fP,fQ,.f1 12 (.f2 14 fP fQ)]
theorem zjk:∀ i,i<13→(forms.getD i fP).gdB=true:=by decide
theorem tf_ex (p:Tf):∃ o s n c,p.cells=[.int .u8 (o:Nat),.str s,.sl none 0 [],.sl none n c]:=⟨_,_,_,_,rfl⟩
theorem zjq (p:Tf):p.cells.length=4:=rfl
structure MdOk (m:Mdl):Prop where
 nm:m.Nm
 vl:∀ f∈m.funcs,f.vl.length≤17592186044404
def OwnMd (H:Heap) (MV:List AV):Prop:=∃ zs m,MdOk m∧LendL H MV zs∧WkL zs m.cells
theorem zw1 (f:Fo) (hg:f.good) (MV:List AV) (T:Int) (H:Heap) (ho:OwnMd H MV) (hT:T<9223372036854775808):VDet Tryz.prog 27 [.agg MV,.agg f.cells,.int .i64 T] H (.bool true):=by
 obtain ⟨zs,m,hm,hl,hw⟩:=ho
 exact zb8 (.cons (.agg hl) (.cons (.refl _) (.cons (.refl _) .nil))) (fun H=>tells_c m f hm.nm hm.vl hg T hT H) ⟨zbm hw,yae _,yae _,trivial⟩ rfl
theorem zc5 (l:List ByteArray) (hsz:∀ c∈l,c.size≤9223372036854775807) (A B:List AV) (NL:AV) (hN:Wk NL (.sl none l.length (l.flatMap encSG))) (size N:Int) (H:Heap) (ha:OwnMd H A) (hb:OwnMd H B):VDet Tryz.prog 3 [.agg A,.agg B,NL,.int .i64 size,.int .i64 N] H (.bool true):=by
 obtain ⟨zs,m,hm,hl,hw⟩:=ha
 obtain ⟨ys,k,hk,jl,jw⟩:=hb
 exact zb8 (.cons (.agg hl) (.cons (.agg jl) (.cons (.refl _) (.cons (.refl _) (.cons (.refl _) .nil))))) (fun H=>zwj m k l hm.nm hk.nm hm.vl hk.vl hsz size N H) ⟨zbm hw,zbm jw,hN,yae _,yae _,trivial⟩ rfl
theorem own_of {H:Heap} {m:Mdl} (h:MdOk m):OwnMd H m.cells:=⟨_,m,h,LendL.refl _,WkL.id _⟩
def fc3 (s1 s2 s3:ByteArray) (x1 y1 x2 y2 x3 y3:Int):List Fct:=[⟨s1,x1,y1⟩,⟨s2,x2,y2⟩,⟨s3,x3,y3⟩]
def fl3 (s1 s2 s3:ByteArray) (x1 y1 x2 y2 x3 y3:Int):List AV:=[.str s1,.int .i64 x1,.int .i64 y1,.str s2,.int .i64 x2,.int .i64 y2,.str s3,.int .i64 x3,.int .i64 y3]
theorem zzf (s1 s2 s3:ByteArray) (h1:s1.size≤1000) (h2:s2.size≤1000) (h3:s3.size≤1000) (k sz lp:Int) (rl:List Int) (bs:List Bnd) (hb:∀ b∈bs,b.nm.size≤1000) (us:List Fnc) (hu:∀ b∈us,b.nm.size≤1000∧b.vl=[]) (x1 y1 x2 y2 x3 y3:Int) (fs:List Fct) (hf:fs=[]∨fs=fc3 s1 s2 s3 x1 y1 x2 y2 x3 y3):MdOk ⟨k,sz,rl,lp,fs,us,bs⟩:=by
 refine ⟨⟨fun f hm=>?_,fun f hm=>?_,fun f hm=>?_⟩,fun f hm=>?_⟩
 ·simp only at hm
  rcases hf with rfl|rfl
  ·cases hm
  ·simp only [fc3,yay,ycx,or_false] at hm
   rcases hm with rfl|rfl|rfl <;> (simp only;omega)
 ·exact ybi (hu f hm).1 (by decide)
 ·exact ybi (hb f hm) (by decide)
 ·rw [(hu f hm).2];exact yah _
theorem ztg {H:Heap} {q s:Nat} {s1 s2 s3:ByteArray} {x1 y1 x2 y2 x3 y3 k sz lp:Int} (R U B:AV) (rl:List Int) (us:List Fnc) (bs:List Bnd) (hR:Wk R (.sl none rl.length (rl.flatMap enc64))) (hU:Wk U (.sl none us.length (us.flatMap Fnc.cells))) (hB:Wk B (.sl none bs.length (bs.flatMap Bnd.cells)))
  (h1:s1.size≤1000) (h2:s2.size≤1000) (h3:s3.size≤1000) (hb:∀ b∈bs,b.nm.size≤1000) (hu:∀ b∈us,b.nm.size≤1000∧b.vl=[])
  (h:H[q]? = some (.box 60 (fl3 s1 s2 s3 x1 y1 x2 y2 x3 y3++List.replicate s .junk))):OwnMd H [.int .u8 k,.int .i64 sz,R,.int .i64 lp,.ms q 0 3,U,B]:=by
 refine ⟨[.int .u8 k,.int .i64 sz,R,.int .i64 lp,.sl none 3 (fl3 s1 s2 s3 x1 y1 x2 y2 x3 y3++List.replicate s .junk),U,B],⟨k,sz,rl,lp,fc3 s1 s2 s3 x1 y1 x2 y2 x3 y3,us,bs⟩,zzf s1 s2 s3 h1 h2 h3 k sz lp rl bs hb us hu _ _ _ _ _ _ _ (.inr rfl),.cons (.refl _) (.cons (.refl _) (.cons (.refl _) (.cons (.refl _) (.cons (.ms h rfl (LendL.refl _)) (.cons (.refl _) (.cons (.refl _) .nil)))))),yae _,yae _,hR,yae _,?_,hU,hB,trivial⟩
 exact zsr 3 (fl3 s1 s2 s3 x1 y1 x2 y2 x3 y3) _
theorem zx2 {H:Heap} {k sz lp:Int}:OwnMd H [.int .u8 k,.int .i64 sz,.nils,.int .i64 lp,.nils,.nils,.nils] :=
 ⟨_,⟨k,sz,[],lp,[],[],[]⟩,zzf .empty .empty .empty (by decide) (by decide) (by decide) k sz lp [] [] (fun _ h=>nomatch h) [] (fun _ h=>nomatch h) 0 0 0 0 0 0 [] (.inl rfl),LendL.refl _,yae _,yae _,zal,yae _,zal,zal,zal,trivial⟩
def gdL:List AV:=fl3 nP nQ nR 0 6 0 4 0 7
theorem zbk {H:Heap}:OwnMd H [.int .u8 5,.int .i64 3,.nils,.int .i64 1,.sl none 3 gdL,.nils,.nils] :=
 ⟨_,⟨5,3,[],1,fc3 nP nQ nR 0 6 0 4 0 7,[],[]⟩,zzf nP nQ nR (by decide) (by decide) (by decide) 5 3 1 [] [] (fun _ h=>nomatch h) [] (fun _ h=>nomatch h) 0 6 0 4 0 7 _ (.inr rfl),LendL.refl _,yae _,yae _,zal,yae _,yae _,zal,zal,trivial⟩
theorem facts_g (H:Heap):VDet Tryz.prog 28 [.sx 3 [.int .i64 6,.int .i64 4,.int .i64 7]] H (.sl none 3 gdL) :=
 facts3_g 6 4 7 H
theorem zwi (H:Heap):VDet Tryz.prog 74 [.nils] H .nils:=by
 have h:∀ H,VDet Tryz.prog 74 [.sl none 0 []] H .nils:=fun H=>by
  refine fdD Tryz.func74 ⟨rfl,rfl,rfl⟩ fun hcl hbl=>?_
  (repeat' ((conv=>whnf);(first|refine yaf (by kernel_rfl) ?_|refine OrN.r (OrN.l ?_)|fail)));conv=>whnf
  exact eT trivial
 exact zbs (h H) ⟨zal,trivial⟩
theorem zr6 (H:Heap):VDet Tryz.prog 77 [.nils] H .nils:=by
 have h:∀ H,VDet Tryz.prog 77 [.sl none 0 []] H .nils:=fun H=>by
  refine fdD Tryz.func77 ⟨rfl,rfl,rfl⟩ fun hcl hbl=>?_
  (repeat' ((conv=>whnf);(first|refine yaf (by kernel_rfl) ?_|refine OrN.r (OrN.l ?_)|fail)));conv=>whnf
  exact eT trivial
 exact zbs (h H) ⟨zal,trivial⟩
theorem zr4 (H:Heap):VDet Tryz.prog 76 [.nils] H .nils:=by
 refine fdD Tryz.func76 ⟨rfl,rfl,rfl⟩ fun hcl hbl=>?_
 conv=>whnf
 refine ybd Tryz.E0 zaf 1 rfl ?_
 (repeat' ((conv=>whnf);(first|refine yau rfl ?_|fail)));conv=>whnf
 exact eT trivial
theorem zr5 (H:Heap) (i:Nat) (hi:H.length=i):VCall Tryz.prog 75 [.sl none 3 gdL] H (fun r H'=>∃ s,r=.ms i 0 3∧H'=H++[.box 60 (gdL++List.replicate s .junk)]):=by
 subst hi
 unfold gdL fl3
 refine fdG Tryz.func75 ⟨rfl,rfl,rfl⟩ fun hcl hbl=>?_
 (repeat' ((conv=>whnf);(first|refine OrN.r (OrN.r (OrN.l ?_))|refine yaf ⟨ybz rfl,rfl,rfl,by simp,by simp [maxLen]⟩ ?_|refine BlkUN.box fun s=>?_|fail)));conv=>whnf
 exact ydu _ (yae _) ⟨_,rfl,rfl⟩
def cpy (i:Nat):List AV:=[.int .u8 5,.int .i64 3,.nils,.int .i64 1,.ms i 0 3,.nils,.nils]
theorem zr3 (H:Heap) (i:Nat) (hi:H.length+2=i):VCall Tryz.prog 29 [.agg [.int .u8 5,.int .i64 3,.nils,.int .i64 1,.sl none 3 gdL,.nils,.nils]] H (fun r H'=>∃ s,r=.agg (cpy i)∧H'=H++[.box 27 (cpy i),.box 27 (cpy i),.box 60 (gdL++List.replicate s .junk)]):=by
 subst hi
 have hf:=fun H i hi=>zr5 H i hi
 generalize gdL=L at *
 unfold cpy
 refine fdG Tryz.func29 ⟨rfl,rfl,rfl⟩ fun hcl hbl=>?_
 (repeat' ((conv=>whnf);(first|(refine ybk ?_;first|refine yab _ (zwi _) ?_|refine yab _ (zr4 _) ?_|refine yab _ (zr6 _) ?_|fail)|refine zfh (fun _=>.ms (H.length+2) 0 3) (fun s=>[.box 60 (L++List.replicate s AV.junk)]) (hf _ (H.length+2) (by simp)) rfl _ (fun _=>rfl) 3 (fun _=>rfl) fun s=>?_|fail)));conv=>whnf
 exact ydu _ (yae _) ⟨s,rfl,rfl⟩
def nthK (l:List ByteArray) (n N:Int):Mdl:=if nthE l n N=0 then ⟨5,n,[],(N.toNat >>> (n.toNat * l.length):Nat),(List.range l.length).map (fcN' l n.toNat N.toNat),[],[]⟩ else ⟨0,0,[],0,[],[],[]⟩
theorem nth_u (l:List ByteArray) (hlen:l.length≤1000) (hsz:∀ c∈l,c.size≤9223372036854775807) (n N:Int) (H:Heap):VDet Tryz.prog 23 [.sl none l.length (l.flatMap encSG),.int .i64 n,.int .i64 N] H (.tup [.agg (nthK l n N).cells,.int .i64 (nthE l n N)]):=by
 have h:=ztd l hlen hsz n N H
 unfold refN at h
 unfold nthK
 by_cases he:nthE l n N=0
 ·rw [if_pos he] at h ⊢
  have hc:cntE l n=0:=by
   unfold nthE at he
   split at he
   ·next h=>exact absurd he h
   ·next h=>simpa using h
  have hn:=(zr7 hc).1
  have hn2:((n.toNat:Nat):Int)=n:=Int.toNat_of_nonneg (by omega)
  rw [zn6] at h
  refine zns h (zhl ⟨zbm ⟨yae _,Wk.of_eq (congrArg (AV.int _) (by first|rfl|exact hn2)),zal,yae _,Wk.of_eq (by simp),zal,zal,trivial⟩,Wk.of_eq (by rw [he]),trivial⟩)
 ·rw [if_neg he] at h ⊢
  exact zns h (zhl ⟨zbm ⟨yae _,yae _,zal,yae _,yae _,zal,zal,trivial⟩,yae _,trivial⟩)
theorem nthK_ok (l:List ByteArray) (hsz:∀ c∈l,c.size≤9223372036854775807) (n N:Int):MdOk (nthK l n N):=by
 unfold nthK
 split
 ·refine ⟨⟨fun f hf=>?_,fun _ h=>(nomatch h),fun _ h=>(nomatch h)⟩,fun _ h=>(nomatch h)⟩
  obtain ⟨i,hi,rfl⟩:=ybu.1 hf
  have hi:=ybs.1 hi
  show (l.getD i eN).size≤_
  exact hsz _ (getD_memT l i eN hi)
 ·exact ⟨⟨fun _ h=>(nomatch h),fun _ h=>(nomatch h),fun _ h=>(nomatch h)⟩,fun _ h=>(nomatch h)⟩
theorem wrap_lt (x:Int):IntKind.i64.wrap x<9223372036854775808:=by
 have h1:=Int.emod_lt_of_pos x (show (0:Int)<18446744073709551616 by decide)
 have h2:=Int.emod_nonneg x (show (18446744073709551616:Int)≠0 by decide)
 show (if (true&&decide (x % 18446744073709551616≥9223372036854775808))=true then x % 18446744073709551616-18446744073709551616 else x % 18446744073709551616)<_
 split
 ·omega
 ·rename_i h
  simp only [ya8,decide_eq_true_eq] at h
  omega
theorem pack (l:List ByteArray) (hlen:l.length≤1000) (hsz:∀ c∈l,c.size≤9223372036854775807):∃ (kk zz ll ee:Int→Int→Int) (nf:Int→Int→Nat) (cf:Int→Int→List AV),
  (∀ n N H,VDet Tryz.prog 23 [.sx l.length (l.flatMap encSG),.int .i64 n,.int .i64 N] H (.tup [.agg [.int .u8 (kk n N),.int .i64 (zz n N),.sl none 0 [],.int .i64 (ll n N),.sl none (nf n N) (cf n N),.sl none 0 [],.sl none 0 []],.int .i64 (ee n N)])) ∧
  (∀ n N H,OwnMd H [.int .u8 (kk n N),.int .i64 (zz n N),.sl none 0 [],.int .i64 (ll n N),.sl none (nf n N) (cf n N),.sl none 0 [],.sl none 0 []]):=by
 have e:∀ n N,(nthK l n N).cells=[.int .u8 (nthK l n N).kind,.int .i64 (nthK l n N).size,.sl none 0 [],.int .i64 (nthK l n N).loop,.sl none (nthK l n N).facts.length ((nthK l n N).facts.flatMap Fct.cells),.sl none 0 [],.sl none 0 []]:=fun n N=>by
  unfold nthK
  split <;> rfl
 refine ⟨fun n N=>(nthK l n N).kind,fun n N=>(nthK l n N).size,fun n N=>(nthK l n N).loop,fun n N=>nthE l n N,fun n N=>(nthK l n N).facts.length,fun n N=>(nthK l n N).facts.flatMap Fct.cells,fun n N H=>?_,fun n N H=>?_⟩
 ·have:=nth_u l hlen hsz n N H
  rw [e] at this
  exact zbs this ⟨wk_sx _ _,yae _,yae _,trivial⟩
 ·have:=own_of (H:=H) (nthK_ok l hsz n N)
  rwa [e] at this
end
end Go.Proofs.YtjflngchbeegcaaGreatDoor.P10.C
