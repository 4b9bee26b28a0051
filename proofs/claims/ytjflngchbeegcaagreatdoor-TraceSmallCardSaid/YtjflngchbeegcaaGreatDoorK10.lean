/- A text of the proof: the parts K13z, L13z, M13z, N13z, O13z, P13z, Q13z, S13z, U13z, V13z, W13z, X13z, KC13c, LC13c, MC13c, NC13c. -/
import Derived.Test.YtjflngchbeegcaaGreatDoorK9
set_option linter.unusedSimpArgs false
set_option linter.unusedVariables false
set_option maxHeartbeats 8000000
namespace Go.Proofs.YtjflngchbeegcaaGreatDoor
open Go.Vsi
section
attribute [local irreducible] VW VCall VO bits
abbrev seq:AV→AV→Option Bool:=eqV Tryz.kn Tryz.T 20 9
theorem zh2 (n:Nat):every n<2 ^ n:=by
 unfold every
 rw [Nat.shiftLeft_eq]
 have:=Nat.two_pow_pos n
 omega
theorem nt_lt {n e a:Nat} (he:e<2 ^ n):nt e a<2 ^ n:=Nat.xor_lt_two_pow he (yc3 Nat.and_le_left he)
theorem itA_lt {n lp a:Nat} (ha:a<2 ^ n):∀ j,itN (alF n lp a) j (every n)<2 ^ n
 | 0=>zh2 n
 | _+1=>yc3 Nat.and_le_left ha
theorem itU_lt {n lp a b:Nat} (ha:a<2 ^ n) (hb:b<2 ^ n):∀ j,itN (unF n lp a b) j 0<2 ^ n
 | 0=>Nat.two_pow_pos n
 | _+1=>Nat.or_lt_two_pow hb (yc3 Nat.and_le_left ha)
def encN (p:Nat):List AV:=[.int .i64 p]
theorem zbo (n:Nat) (l:List Nat):zaa n (l.flatMap encN):=za9 _ fun x=>by simp [encN,zaa,below]
def tkK (old:List Nat) (mask:Nat):Nat→Nat
 | 0=>0
 | k+1=>tkK old mask k ||| ((mask >>> old.getD k 0) &&& 1) <<< k
theorem zll (old:List Nat) (mask:Nat):∀ k,tkK old mask k<2 ^ k
 | 0=>by simp [tkK]
 | k+1=>Nat.or_lt_two_pow (Nat.lt_trans (zll old mask k) (Nat.pow_lt_pow_right (by decide) (by omega))) bit_lt
def ixF (v:Nat):List Nat→Nat→Int
 | [],_=>-1
 | p::l,k=>if p=v then (k:Int) else ixF v l (k+1)
theorem zyz (l:List Nat) (v:Nat) (hl:l.length≤1000) (H:Heap):VDet Tryz.prog 83 [.sl none l.length (l.flatMap encN),.int .i64 v] H (.int .i64 (ixF v l 0)):=by
 refine fdD Tryz.func83 ⟨rfl,rfl,rfl⟩ fun hcl hbl=>?_
 conv=>whnf
 refine zam Tryz.E0 zaf (σ:=Nat) (fun k=>k≤l.length∧ixF v l 0=ixF v (l.drop k) k) (fun k=>l.length-k) (fun k=>[(8,.v (.int .i64 k))]) (fun _=>[]) _ 0 rfl hcl [0,1,7] rfl ⟨yah _,rfl⟩ ⟨⟨_,rfl,yae _⟩,trivial⟩ rfl (fun _ _=>rfl) ?_
 rintro k ⟨hk,hix⟩
 clear hbl
 have hd:k<l.length→ixF v (l.drop k) k=if l.getD k 0=v then (k:Int) else ixF v (l.drop (k+1)) (k+1):=fun h=>by
  rw [List.drop_eq_getElem_cons h]
  simp [ixF,List.getD,h]
 (repeat' ((conv=>whnf);(first|refine za1 (fun _=>?_) (fun _=>?_)|(refine zac _ _ Cst.h Cst.h ?_ ?_;· omega)|(refine yaf ?_ ?_;· first|omega|exact yaa _ _|fail)|refine zce 0 k rfl (by omega) (fun _=>rfl) ?_|fail)));all_goals (conv=>whnf)
 ·rename_i he
  have hlt:k<l.length:=by omega
  refine ya1 trivial (Wk.of_eq ?_)
  rw [hix,hd hlt,if_pos (by omega)]
 ·rename_i he
  have hlt:k<l.length:=by omega
  (refine ⟨⟨k+1,⟨hlt,by rw [hix,hd hlt,if_neg (by omega)]⟩,by omega,?_,.inl ⟨rfl,rfl⟩,rfl,_,rfl,?_⟩⟩;rotate_left 1;exact .inl rfl;exact ⟨⟨_,rfl,yae _⟩,trivial⟩)
 ·have:k=l.length:=by omega
  subst this
  rw [ybm] at hix
  refine ya1 trivial (Wk.of_eq ?_)
  rw [hix]
  rfl
abbrev rdy (n0:Nat) (bk:RE) (N:FN) (ps:Array Tmp) (assign body:Code):Blk:=.loop .ready none (trE n0 bk) ⟨N.n,ps,assign,body⟩
abbrev dne (n0:Nat) (bk:RE) (N:FN) (ps:Array Tmp) (assign body:Code) (jp:Option Code):Blk:=.loop .done jp (trE n0 bk) ⟨N.n,ps,assign,body⟩
abbrev rndW (n0 k:Nat) (bk:RE) (N:FN) (ps:Array Tmp) (assign body:Code) (H:Heap) (x:Nat) (R:AV→Heap→Prop):Prop :=
 wpC Tryz.prog Tryz.kn Tryz.T ⟨N.n,some (n0+k)⟩ H.length assign (fun e top bot base k' loc=>match e with
   | .normal=>RndB Tryz.prog Tryz.kn Tryz.T H (n0+k) (trE n0 bk) ⟨N.n,ps,assign,body⟩ R top bot base k' loc
   | _=>False) (parRE ps.toList [.int .i64 x] (reB n0 bk)) [] H 0 []
def pth (n lp p0:Nat):Nat→Nat
 | 0=>p0
 | j+1=>posN n lp (pth n lp p0 j+1)
def olds (n lp p0:Nat):Nat→List Nat
 | 0=>[]
 | j+1=>olds n lp p0 j++[pth n lp p0 j]
theorem za8 (n lp p0:Nat):∀ j,(olds n lp p0 j).length=j
 | 0=>rfl
 | j+1=>by simp [olds,za8 n lp p0 j]
theorem zgn (n lp p0:Nat):∀ {j i:Nat},i<j→(olds n lp p0 j).getD i 0=pth n lp p0 i
 | j+1,i,h=>by
   simp only [olds]
   rcases yag i j with h2|h2
   ·have:=zgn n lp p0 h2
    simp only [ybp] at this ⊢
    rw [yaj (by rw [za8];exact h2)]
    exact this
   ·have:i=j:=by omega
    subst this
    simp only [ybp]
    rw [yam (by rw [za8];exact yax _),za8,ycv]
    rfl
def cel (n lp p0 j:Nat):List AV:=(olds n lp p0 j).flatMap encN
theorem zgu (n lp p0 j:Nat):cel n lp p0 j++[.int .i64 (pth n lp p0 j:Nat)]=cel n lp p0 (j+1):=by
 simp [cel,olds,encN]
def sufK (n lp p0:Nat):Nat:=n-min p0 lp
def sufI (lp p0:Nat):Nat:=lp-p0
theorem suf_chk:((List.range 6).all fun n=>(List.range n).all fun lp=>(List.range n).all fun p0=>(List.range (sufK n lp p0)).all (fun j=>decide (ixF (pth n lp p0 j) (olds n lp p0 j) 0=-1))&&decide (ixF (pth n lp p0 (sufK n lp p0)) (olds n lp p0 (sufK n lp p0)) 0=sufI lp p0))=true:=by kernel_rfl
theorem zp8 {n lp p0:Nat} (hn:n≤5) (hl:lp<n) (hp:p0<n):(∀ j,j<sufK n lp p0→ixF (pth n lp p0 j) (olds n lp p0 j) 0=-1)∧ixF (pth n lp p0 (sufK n lp p0)) (olds n lp p0 (sufK n lp p0)) 0=sufI lp p0:=by
 have h:=suf_chk
 rw [yao] at h
 have h1:=h n (ybs.2 (by omega))
 rw [yao] at h1
 have h2:=h1 lp (ybs.2 hl)
 rw [yao] at h2
 have h3:=h2 p0 (ybs.2 hp)
 simp only [yak,decide_eq_true_eq] at h3
 refine ⟨fun j hj=>?_,h3.2⟩
 have h4:=h3.1
 rw [yao] at h4
 simpa using h4 j (ybs.2 hj)
theorem zoy {n lp p0:Nat} (hl:lp<n) (hp:p0<n):∀ j,pth n lp p0 j<n
 | 0=>hp
 | _+1=>zdm hl
def blk7 (tc a:List AV) (n0:Nat) (cl:List AV) (j p:Nat):Heap:=[.box 27 tc,.box 27 a,.box 33 [.int .i64 0],.box 22 [.sl (some (n0+6)) j cl],.box 27 tc,.box 3 [.int .i64 p],.tok 3 1 cl.length]
theorem zct {tc a:List AV} {n0:Nat} {cl:List AV} {j p:Nat} (h1:∀ m,zaa m tc) (h2:∀ m,zaa m a) (h3:∀ m,zaa m cl):∀ B∈blk7 tc a n0 cl j p,B.below (n0+(7+1)):=by
 intro B hB
 simp only [blk7,yay,ycx,or_false] at hB
 rcases hB with rfl|rfl|rfl|rfl|rfl|rfl|rfl
 ·exact h1 _
 ·exact h2 _
 ·exact ⟨trivial,trivial⟩
 ·exact ⟨⟨fun t ht=>by cases ht;omega,h3 _⟩,trivial⟩
 ·exact h1 _
 ·exact ⟨trivial,trivial⟩
 ·trivial
def zm:List AV:=[.int .u8 0,.int .i64 0,.nils,.int .i64 0,.nils,.nils,.nils]
theorem zda (n lp p0 j m:Nat):zaa m (cel n lp p0 j):=zbo m _
end
end Go.Proofs.YtjflngchbeegcaaGreatDoor
namespace Go.Proofs.YtjflngchbeegcaaGreatDoor.P10.C
open Go.Vsi
section
attribute [local irreducible] VW VCall VO bits
theorem zmq (t:Tr) (p:Nat) (H:Heap):VCall Tryz.prog 45 [.agg t.cells,.int .i64 p] H (fun r H'=>r=.clo (.func 89) [] [.ptr (H.length+1) 0,.ptr (H.length+0) 0]∧H'=H++[.box 27 t.cells,.box 3 [.int .i64 p]]):=by
 unfold Tr.cells
 refine fdG Tryz.func45 ⟨rfl,rfl,rfl⟩ fun hcl hbl=>?_
 conv=>whnf
 exact ydu _ (yae _) ⟨rfl,rfl⟩
structure ItS (t:Tr) (K N:Nat) (p:Nat→Nat) (Hs Hm:Nat→Heap) (ip im:Nat):Prop where
 hp:∀ j,j≤K→(Hs j)[ip]? = some (.box 3 [.int .i64 (p j)])
 hm:∀ j,j<K→(Hm j)[im]? = some (.box 27 t.cells)
 hmp:∀ j,j<K→(Hm j)[ip]? = some (.box 3 [.int .i64 (p j)])
 hset:∀ j,j<K→(Hm j).set ip (.box 3 [.int .i64 (p (j+1))])=Hs (j+1)
 step:∀ j,j<K→p (j+1)=posN t.n t.lp (p j+1)
 cl:∀ j,j≤K→zdq (Hs j)
 len:∀ j,j≤K→(Hs j).length=N
 lenm:∀ j,j<K→(Hm j).length=N
 small:∀ j,p j<5
theorem iter_k (t:Tr) (ht:t.Ok) (K N:Nat) (p:Nat→Nat) (Hs Hm:Nat→Heap) (ip im i:Nat) (s:ItS t K N p Hs Hm ip im) (He Hx:Heap)
  (hlen:He.length=N)
  (hyt:∀ j,j<K→zi7 Tryz.prog i [.int .i64 (p j)] (Hs j++[]) (fun r H'=>r=.bool true∧H'=Hm j++[]))
  (hyf:zi7 Tryz.prog i [.int .i64 (p K)] (Hs K++[]) (fun r H'=>r=.bool false∧H'=He++Hx)) :
  VCall Tryz.prog 89 [.clo (.yield i) [] [],.ptr ip 0,.ptr im 0] (Hs 0) (fun _ H'=>H'=He++Hx):=by
 have hpos:=fun j (hj:p j+1<9223372036854775808) H=>zdt t ht (p j+1) hj H
 obtain ⟨hp,hm,hmp,hset,step,cl,len,lenm,small⟩:=s
 obtain ⟨n,lp,fs⟩:=t
 unfold Tr.cells at hm hpos
 simp only at hm hpos step
 refine fdG Tryz.func89 ⟨rfl,rfl,rfl⟩ fun hcl hbl=>?_
 refine zg1 Tryz.E0 zaf (σ:=Nat) (fun j=>j≤K) (fun j=>K-j) (fun _=>[]) Hs (fun _=>[]) _ 0 (fun j hj=>(len j hj).trans (len 0 (yah _)).symm) cl [0,1,2] rfl (yah _) trivial rfl rfl (fun _ _=>rfl) ?_
 intro j hj
 have h1:=hp j hj
 have hN:=(len 0 (yah _)).symm
 rcases yag j K with hjK|hjK
 ·have h2:=hm j hjK
  have h3:=hmp j hjK
  have h4:=small j
  (repeat' ((conv=>whnf);(first|refine yaq rfl ?_|(refine zac _ _ Cst.h Cst.h ?_ ?_;· omega)|refine ydt _ rfl ?_|refine yab _ (hpos j (by omega) _) ?_|refine CallN.fix _ _ _ _ (hyt j hjK) ((lenm j hjK).trans hN) rfl ?_|refine ycd _ (by (repeat' (first|assumption|exact za7 _ rfl|exact zaj rfl|refine zbc (B':=?_) ?_|refine zap ?_|fail))) ?_|fail)));conv=>whnf
  refine ⟨⟨j+1,hjK,by omega,trivial,.inl ⟨rfl,rfl⟩,?_,[],rfl,.inl rfl⟩⟩
  rw [← step j hjK]
  exact hset j hjK
 ·have:j=K:=by omega
  subst this
  (repeat' ((conv=>whnf);(first|refine yau rfl ?_|refine CallN.fix _ _ _ _ hyf (hlen.trans hN) rfl ?_|refine ycd _ (by (repeat' (first|assumption|exact za7 _ rfl|exact zaj rfl|refine zbc (B':=?_) ?_|refine zap ?_|fail))) ?_|fail)));conv=>whnf
  exact .keep _ (yae _) rfl
abbrev rndWK (n0 k:Nat) (bk:RE) (N:Go.Vsi.FN) (ps:Array Tmp) (assign body:Code) (H:Heap) (x:Nat) (R:AV→Heap→Prop):Prop :=
 wpC Tryz.prog Tryz.kn Tryz.T ⟨N.n,some (n0+k)⟩ H.length assign (fun e top bot base k' loc=>match e with
   | .normal=>RndBK Tryz.prog Tryz.kn Tryz.T H (n0+k) (trE n0 bk) ⟨N.n,ps,assign,body⟩ R top bot base k' loc
   | _=>False) (parRE ps.toList [.int .i64 x] (reB n0 bk)) [] H 0 []
theorem zm0 (t:Tr) (ht:t.Ok) {N:Go.Vsi.FN} {n0:Nat} {ps:Array Tmp} {assign body:Code} {Q:QR} {top bot:RE} {base:Heap} {k:Nat} {loc:Heap}
  (hbase:base.length=n0) (hcl:zdq base) (hN:N.r=none) (ts:List Nat) (bk:RE) (hbk:pickO ts top bot=some bk)
  (hps:∀ p∈ps.toList,p<N.n) (hps1:ps.size=1)
  (K:Nat) (p:Nat→Nat) (step:∀ j,j<K→p (j+1)=posN t.n t.lp (p j+1)) (small:∀ j,p j<5) (im ip:Nat)
  (ls lm:Nat→Heap) (le lx:Heap) (x:Nat) (jp:Code) (h0:loc=ls 0)
  (lens:∀ j,j≤K→(ls j).length=k) (lenm:∀ j,j<K→(lm j).length=k) (lene:le.length=k) (lenx:lx.length=x)
  (him:∀ j,j<K→lget (lm j) im=some (.box 27 t.cells)) (hip:∀ j,j<K→lget (lm j) ip=some (.box 3 [.int .i64 (p j)])) (his:∀ j,j≤K→lget (ls j) ip=some (.box 3 [.int .i64 (p j)]))
  (hset:∀ j,j<K→(lm j).set ip (.box 3 [.int .i64 (p (j+1))])=ls (j+1))
  (bls:∀ j,j≤K→∀ B∈ls j,B.below (n0+(k+1))) (bbk:zbe n0 (n0+(k+1)) bk)
  (hyt:∀ j,j<K→rndW n0 k bk N ps assign body (base++(ls j++[rdy n0 bk N ps assign body])) (p j) (fun r H'=>r=.bool true∧H'=base++(lm j++[rdy n0 bk N ps assign body])))
  (hyf:rndWK n0 k bk N ps assign body (base++(ls K++[rdy n0 bk N ps assign body])) (p K) (fun r H'=>r=.bool false∧H'=base++(le++([dne n0 bk N ps assign body (some jp)]++lx))))
  (hQ:jumpN Q top bot base (k+1+x) (le++([.dead]++lx)) (some jp)) :
  RangeN Tryz.prog N n0 89 [] [.ptr (n0+ip) 0,.ptr (n0+im) 0] ps assign body Q top bot base k loc:=by
 subst hbase h0
 have hloopb:∀ st jp,(Blk.loop st jp (trE base.length bk) ⟨N.n,ps,assign,body⟩).below (base.length+(k+1)):=fun _ _=>zea bbk
 have hk0:(ls 0).length=k:=lens 0 (yah _)
 have hlen:∀ j B,j≤K→(base++(ls j++[B])).length=base.length+(k+1):=fun j B hj=>by simp [lens j hj]
 have hiK:∀ j,j≤K→(base++(ls j++[rdy base.length bk N ps assign body]))[base.length+k]? = some (rdy base.length bk N ps assign body):=fun j hj=>by
  rw [yam (by omega),ybo,yam (by rw [lens j hj];exact yax _),lens j hj,ycv]
  rfl
 have hyY:∀ j R,j≤K→rndW base.length k bk N ps assign body (base++(ls j++[rdy base.length bk N ps assign body])) (p j) R→zi7 Tryz.prog (base.length+k) [.int .i64 (p j)] (base++(ls j++[rdy base.length bk N ps assign body])) R:=fun j R hj h =>
  round_R Tryz.E0 zaf (hiK j hj) hps (by simp [hps1]) h
 have hit:=iter_k t ht K (base.length+(k+1)) p (fun j=>base++(ls j++[rdy base.length bk N ps assign body])) (fun j=>base++(lm j++[rdy base.length bk N ps assign body])) (base.length+ip) (base.length+im) (base.length+k)
  {
   hp:=fun j hj=>zaj (by rw [zav] at *;rw [yaj (yac.1 (zav ..▸his j hj)).1];exact zav ..▸his j hj),
   hm:=fun j hj=>zaj (by rw [zav];rw [yaj (yac.1 (zav ..▸him j hj)).1];exact zav ..▸him j hj),
   hmp:=fun j hj=>zaj (by rw [zav];rw [yaj (yac.1 (zav ..▸hip j hj)).1];exact zav ..▸hip j hj),
   hset:=fun j hj=>by
    rw [zbj,ycr _ _ (yac.1 (zav ..▸hip j hj)).1,hset j hj],
   step:=step,
   cl:=fun j hj=>zgt hcl fun B hB=>by
    rw [hlen j _ hj]
    rcases ybj.1 hB with h|h
    ·exact bls j hj B h
    ·simp only [yaz] at h;subst h;exact hloopb _ _,
   len:=fun j hj=>hlen j _ hj,
   lenm:=fun j hj=>by simp [lenm j hj],
   small:=small }
  (base++(le++[dne base.length bk N ps assign body (some jp)])) lx (by simp [lene])
  (fun j hj=>by simp only [yat];exact hyY j _ (by omega) (hyt j hj))
  (by
   rw [yat]
   have:=round_K Tryz.E0 zaf (hiK K (yax _)) hps (by simp [hps1]) hyf
   simpa [ybe] using this)
 refine .mk ⟨(fun i hi=>by rw [hN] at hi;cases hi),ts,bk,(fun _ H'=>H'=base++(le++[dne base.length bk N ps assign body (some jp)])++lx),hbk,?_,?_⟩
 ·rw [ybe]
  exact hit
 ·rintro r H' rfl
  refine ⟨base,k+1+x,le++([dne base.length bk N ps assign body (some jp)]++lx),.done,some jp,le++([.dead]++lx),by simp [ybe],by simp [lene,lenx];omega,rfl,?_,by simp,?_,hQ⟩
  ·rw [zav,yam (by omega),lene,ycv];rfl
  ·rw [ze9 (by simp [lene])]
   rw [yb4 _ _ (by omega),lene,ycv]
   rfl
def tkF (old:List Nat) (p:ByteArray×Nat):ByteArray×Nat:=(p.1,tkK old p.2 old.length)
def zbu (t:Tr) (old:List Nat) (lp:Nat):Tr:=⟨old.length,lp,t.fs.map (tkF old)⟩
abbrev mdK (n lp:Int) (fs:AV):AV:=.agg [.int .u8 5,.int .i64 n,.nils,.int .i64 lp,fs,.nils,.nils]
theorem zw2 (t:Tr) (ht:t.Ok) (h0:0<t.fs.length) (old:List Nat) (lp:Nat) (h5:old.length≤5) (ho:∀ i,i<old.length→old.getD i 0<5) (H:Heap) :
  VCall Tryz.prog 46 [.agg t.cells,.sl none old.length (old.flatMap encN),.int .i64 lp] H fun r H'=>r=mdK old.length lp (.vs H.length t.fs.length)∧H'=H++[.vec 60 3 ((zbu t old lp).fs.flatMap encT)]:=by
 have hl:=ht.len
 have hs:=fun i hi=>ht.small i hi
 have hfl:((zbu t old lp).fs.flatMap encT).length=t.fs.length * 3:=by
  rw [zaq (f:=encT) (sz:=3) zbb]
  simp [zbu]
 have e1:(zbu t old lp).fs.flatMap encT=(t.fs.map (tkF old)).flatMap encT:=rfl
 have hfb:zaa H.length ((zbu t old lp).fs.flatMap encT):=zar _ _
 refine ziy (u:=mdK old.length lp (.vs (H.length+3) t.fs.length)) (u':=mdK old.length lp (.vs H.length t.fs.length)) (loc:=[.box 27 t.cells,.box 27 [.int .u8 5,.int .i64 old.length,.nils,.int .i64 lp,.vs (H.length+3) t.fs.length,.nils,.nils],.box 27 [.int .u8 5,.int .i64 old.length,.nils,.int .i64 lp,.vs (H.length+3) t.fs.length,.nils,.nils],.vec 60 3 ((zbu t old lp).fs.flatMap encT)]) (j:=3) (t:=60) (sz:=3) (l:=(zbu t old lp).fs.flatMap encT) ?_ (.agg (.cons (.low _ trivial) (.cons (.low _ trivial) (.cons (.low _ trivial) (.cons (.low _ trivial) (.cons (.vv rfl hfl) (.cons (.low _ trivial) (.cons (.low _ trivial) .nil)))))))) rfl (by rw [hfl];omega) (KpL.low hfb)
 rw [e1]
 obtain ⟨n,lp0,fs⟩:=t
 unfold Tr.cells
 simp only at hl hs h0 ⊢
 refine fdG Tryz.func46 ⟨rfl,rfl,rfl⟩ fun hcl hbl=>?_
 conv=>whnf
 refine LoopN.vecB 2 4 60 3 rfl rfl rfl rfl rfl rfl ?_
 refine zam Tryz.E0 zaf (σ:=Nat×List AV) (fun k=>k.1≤fs.length∧k.2=((fs.take k.1).map (tkF old)).flatMap encT) (fun k=>fs.length-k.1) (fun k=>[(20,.v (.int .i64 k.1))]) (fun k=>[.box 27 [.int .u8 5,.int .i64 n,.sl none 0 [],.int .i64 lp0,.sl none fs.length (fs.flatMap encT),.sl none 0 [],.sl none 0 []],.box 27 [.int .u8 0,.int .i64 0,.nils,.int .i64 0,.nils,.nils,.nils],.box 27 [.int .u8 5,.int .i64 old.length,.nils,.int .i64 lp,.vs (H.length+3) k.1,.nils,.nils],.vec 60 3 k.2]) _ (0,[]) rfl hcl [1,6,7,18,19] rfl ⟨yah _,rfl⟩ ⟨⟨_,rfl,yae _⟩,trivial⟩ rfl (fun _ _=>rfl) ?_
 rintro ⟨k,cs⟩ ⟨hk,hcs⟩
 simp only at hk hcs ⊢
 clear hbl
 have hs':k<fs.length→(fs.getD k p0).2<32:=hs k
 rcases yag k fs.length with hlt|hge
 ·obtain ⟨s,m,e2⟩:∃ s m,fs.getD k p0=(s,m):=⟨_,_,rfl⟩
  have qc:encT (fs.getD k p0)=[.str s,.int .i64 0,.int .i64 m]:=by rw [e2];rfl
  have h32:m<32:=by
   have:=hs' hlt
   rw [e2] at this
   exact this
  have hcl3:cs.length=k * 3:=by
   rw [hcs,zaq (sz:=3) (fun _=>rfl)]
   simp [ych hk]
  have hbc:∀ m,zaa m cs:=fun m=>by rw [hcs];exact zar m _
  have hnew:((fs.take (k+1)).map (tkF old)).flatMap encT=cs++[.str s,.int .i64 0,.int .i64 (tkK old m old.length:Nat)]:=by
   rw [← zdn (tkF old) fs p0 k hlt,ybx,hcs,e2]
   rfl
  (repeat' ((conv=>whnf);(first|refine yar (by omega) ?_|(refine yaf ?_ ?_;· first|omega|exact yaa _ _|fail)|refine SegN.nthE p0 k rfl hlt zbb qc ?_|fail)));conv=>whnf
  refine zam Tryz.E0 zaf (σ:=Nat) (fun j=>j≤old.length) (fun j=>old.length-j) (fun j=>[(10,.v (.int .i64 (tkK old m j:Nat))),(26,.v (.int .i64 j))]) (fun _=>_) _ 0 rfl hcl [1,6,7,9,18,19,20,24,25] rfl (yah _) ⟨⟨_,rfl,yae _⟩,⟨_,rfl,yae _⟩,trivial⟩ rfl (fun _ _=>rfl) ?_
  intro j hj
  have ho':=ho j
  have hb:tkK old m j<32:=p2_32 (zll _ _ j) (by omega)
  rcases yag j old.length with hjl|hjg
  ·(repeat' ((conv=>whnf);(first|refine yar (by omega) ?_|(refine yct ?_;first|(refine EqN.and _ _ Cst.h Cst.h ?_ ?_;· (repeat' (first|omega|refine yb3 ?_ ?_|exact zag (by omega)|exact zat (by omega)|refine zbf ?_ ?_|refine zas ?_ ?_|refine za2 ?_ ?_|refine zao ?_ ?_|refine za3 ?_|refine za4 ?_ ?_|refine za5 ?_|refine zag ?_|fail)))|(refine EqN.or _ _ Cst.h Cst.h ?_ ?_;· (repeat' (first|omega|refine yb3 ?_ ?_|exact zag (by omega)|exact zat (by omega)|refine zbf ?_ ?_|refine zas ?_ ?_|refine za2 ?_ ?_|refine zao ?_ ?_|refine za3 ?_|refine za4 ?_ ?_|refine za5 ?_|refine zag ?_|fail)))|(refine zd4 _ _ Cst.h Cst.h rfl ?_ ?_;· (repeat' (first|omega|refine yb3 ?_ ?_|exact zag (by omega)|exact zat (by omega)|refine zbf ?_ ?_|refine zas ?_ ?_|refine za2 ?_ ?_|refine zao ?_ ?_|refine za3 ?_|refine za4 ?_ ?_|refine za5 ?_|refine zag ?_|fail)))|(refine zde _ _ Cst.h Cst.h rfl ?_ ?_ ?_;(· (repeat' (first|omega|refine yb3 ?_ ?_|exact zag (by omega)|exact zat (by omega)|refine zbf ?_ ?_|refine zas ?_ ?_|refine za2 ?_ ?_|refine zao ?_ ?_|refine za3 ?_|refine za4 ?_ ?_|refine za5 ?_|refine zag ?_|fail)));(· (repeat' (first|omega|refine yb3 ?_ ?_|exact zag (by omega)|exact zat (by omega)|refine zbf ?_ ?_|refine zas ?_ ?_|refine za2 ?_ ?_|refine zao ?_ ?_|refine za3 ?_|refine za4 ?_ ?_|refine za5 ?_|refine zag ?_|fail))))|(refine zac _ _ Cst.h Cst.h ?_ ?_;· omega)|fail)|(refine yaf ?_ ?_;· first|omega|exact yaa _ _|fail)|refine zce 0 j rfl (by omega) (fun _=>rfl) ?_|fail)));conv=>whnf
   (refine ⟨⟨j+1,by omega,by omega,?_,.inl ⟨rfl,rfl⟩,rfl,_,rfl,?_⟩⟩;rotate_left 1;exact .inl rfl;exact ⟨⟨_,rfl,yae _⟩,⟨_,rfl,yae _⟩,trivial⟩)
  ·obtain rfl:j=old.length:=by omega
   (repeat' ((conv=>whnf);(first|refine zah (by omega) ?_|(refine zac _ _ Cst.h Cst.h ?_ ?_;· omega)|refine yaf ⟨hcl3,rfl,rfl,by dsimp only;omega,by simp only [maxLen];omega⟩ ?_|refine yca _ rfl ?_|fail)));conv=>whnf
   (refine ⟨⟨(k+1,cs++[.str s,.int .i64 0,.int .i64 (tkK old m old.length:Nat)]),⟨by simp only;omega,hnew.symm⟩,by omega,?_,.inr ?_,rfl,_,rfl,?_⟩⟩;rotate_left 2;exact .inr ⟨by simp [zbe,below,zaa,tr,zar,zbo,hbc,zak],by simp [zcj,Blk.below,zaa,below,zar,zbo,hbc,zak]⟩;all_goals (repeat' (first|exact trivial|refine ⟨⟨_,rfl,?_⟩,?_⟩|fail));all_goals exact yae _)
 ·obtain rfl:k=fs.length:=by omega
  rw [ya2] at hcs
  subst hcs
  (repeat' ((conv=>whnf);(first|refine zah (by omega) ?_|fail)));conv=>whnf
  exact ydu _ (yae _) ⟨rfl,rfl⟩
theorem zev {t:Tr} (h:t.Ok) (H:Heap):VDet Tryz.prog 43 [.agg t.cells] H (.bool true):=by
 have hn:t.mdl.Nm:=⟨fun f hf=>by
  obtain ⟨p,hp,rfl⟩:=ybu.1 hf
  exact h.sz p hp,fun f hf=>(nomatch hf),fun f hf=>(nomatch hf)⟩
 have:=zfi t.mdl (by show (List.map _ t.fs).length≤_;rw [yav];exact ybi h.len (by decide)) hn H
 rwa [h.valid,zgi] at this
theorem zeg {t:Tr} (h:t.Ok) (H:Heap):VDet Tryz.prog 57 [.agg t.cells] H (.bool true):=by
 have hn:t.mdl.Nm:=⟨fun f hf=>by
  obtain ⟨p,hp,rfl⟩:=ybu.1 hf
  exact h.sz p hp,fun f hf=>(nomatch hf),fun f hf=>(nomatch hf)⟩
 have:=zc0 t.mdl (by show (List.map _ t.fs).length≤_;rw [yav];exact h.len) hn H
 rwa [h.valid,zgi] at this
theorem zsw {t:Tr} (ht:t.Ok) (old:List Nat) (lp:Nat) (h1:1≤old.length) (h5:old.length≤5) (hl:lp<old.length):(zbu t old lp).Ok:=by
 have hg:∀ i,i<t.fs.length→ft (t.fs.map (tkF old)) i=tkF old (ft t.fs i):=fun i hi=>by
  unfold ft
  simp [hi]
 refine ⟨h1,h5,hl,by simpa [zbu] using ht.len,?_,?_,fun i hi=>?_⟩
 ·have e:(zbu t old lp).fs.map (·.1)=t.fs.map (·.1):=by simp [zbu,tkF,List.map_map,Function.comp_def]
  rw [e]
  exact ht.nms
 ·intro f hf
  obtain ⟨p,hp,rfl⟩:=ybu.1 hf
  exact ht.sz p hp
 ·have hi':i<t.fs.length:=by simpa [zbu] using hi
  simp only [zbu]
  rw [hg i hi']
  exact zll _ _ _
def shT (t:Tr) (j x:Nat):Tr:=zbu t (olds t.n t.lp 0 (j+1)) x
def shB (t:Tr) (j x:Nat):Bool:=sameB 25 (shT t j x) t
theorem growN {P:Program} {F:FuncId} {xs:List AV} {n0:Nat} {base:Heap} {k:Nat} {K:AV→Heap→Nat→Heap→Prop} (v:Nat→AV) (V:Blk) (h:∀ N,base.length=N→VCall P F xs (base++[]) fun r H'=>r=v N∧H'=(base++[])++[V]) (hn:base.length=n0) (a:K (v n0) base 1 [V]):CallN P (.func F) xs n0 base k [] K :=
 zb1 (v n0) [V] [V] 1 (h n0 hn) hn rfl rfl a
theorem zgh {base loc:Heap} {N j:Nat} {B:Blk} (hn:base.length=N) (h:lget loc j=some B):(base++loc)[N+j]? = some B:=hn▸zaj h
theorem zz5 (t:Tr) (ht:t.Ok) (h0:0<t.fs.length) (K L:Nat) (hK:K<t.n) (hL:L≤K) (hno:∀ j,j<K→∀ x,x≤j→shB t j x=false) (hno2:∀ x,x<L→shB t K x=false) (hyes:shB t K L=true) (H:Heap) :
  VCall Tryz.prog 11 [.agg t.cells] H fun r H'=>r=.tup [mdK (K+1:Nat) L (.vs H.length t.fs.length),.int .i64 0]∧H'=H++[.vec 60 3 ((shT t K L).fs.flatMap encT)]:=by
 have hv:=fun H=>zev ht H
 have h5:=ht.n5
 have hq0:0<t.n:=by have:=ht.n1;omega
 have hsm:∀ j,pth t.n t.lp 0 j<5:=fun j=>ybw (zoy ht.lp hq0 j) ht.n5
 have hln:∀ j x,((shT t j x).fs.flatMap encT).length=t.fs.length * 3:=fun j x=>by
  rw [zaq (f:=encT) (sz:=3) zbb]
  simp [shT,zbu]
 have htk:∀ (j x:Nat) (B:Heap) (N:Nat),B.length=N→j≤4→VCall Tryz.prog 46 [.agg t.cells,.sl none (j+1) (cel t.n t.lp 0 (j+1)),.int .i64 x] (B++[]) fun r H'=>r=mdK (j+1:Nat) x (.vs (N+0) t.fs.length)∧H'=(B++[])++[.vec 60 3 ((shT t j x).fs.flatMap encT)]:=fun j x B N hN hj=>by
  subst hN
  have:=zw2 t ht h0 (olds t.n t.lp 0 (j+1)) x (by rw [za8];omega) (fun i hi=>by
   rw [za8] at hi
   rw [zgn _ _ _ hi]
   exact hsm i) (B++[])
  rw [za8,ya5] at this
  exact this
 have hsa:∀ (j x:Nat) (B:Heap) (i:Nat),j≤4→x≤j→B[i]? = some (.vec 60 3 ((shT t j x).fs.flatMap encT))→VDet Tryz.prog 44 [mdK (j+1:Nat) x (.vs i t.fs.length),.agg t.cells] B (.bool (shB t j x)):=fun j x B i hj hx hi =>
  zb8 (.cons (.agg (.cons (.refl _) (.cons (.refl _) (.cons (.refl _) (.cons (.refl _) (.cons (.vs hi (hln j x) (LendL.refl _)) (.cons (.refl _) (.cons (.refl _) .nil)))))))) (.cons (.refl _) .nil))
   (fun H=>zxo _ _ (zsw ht (olds t.n t.lp 0 (j+1)) x (by rw [za8];omega) (by rw [za8];omega) (by rw [za8];omega)) ht H)
   ⟨zbm ⟨yae _,Wk.of_eq (by simp [zbu,za8]),zal,yae _,Wk.of_eq (by simp [zbu,shT]),zal,zal,trivial⟩,yae _,trivial⟩ rfl
 have hst5:VCall Tryz.prog 45 [.agg t.cells,.int .i64 (0:Nat)] (H++[.box 27 t.cells,.box 27 [.int .u8 0,.int .i64 0,.nils,.int .i64 0,.nils,.nils,.nils],.box 33 [.int .i64 0],.box 22 [.nils]]) (fun r H'=>r=.clo (.func 89) [] [.ptr (H.length+5) 0,.ptr (H.length+4) 0]∧H'=(H++[.box 27 t.cells,.box 27 [.int .u8 0,.int .i64 0,.nils,.int .i64 0,.nils,.nils,.nils],.box 33 [.int .i64 0],.box 22 [.nils]])++[.box 27 t.cells,.box 3 [.int .i64 (0:Nat)]]):=by
  have:=zmq t 0 (H++[.box 27 t.cells,.box 27 [.int .u8 0,.int .i64 0,.nils,.int .i64 0,.nils,.nils,.nils],.box 33 [.int .i64 0],.box 22 [.nils]])
  rw [ya5] at this
  exact this
 have hfb:∀ m j x,zaa m ((shT t j x).fs.flatMap encT):=fun m j x=>zar m _
 refine ziy (u:=.tup [mdK (K+1:Nat) L (.vs (H.length+8) t.fs.length),.int .i64 0]) (u':=.tup [mdK (K+1:Nat) L (.vs H.length t.fs.length),.int .i64 0])
  (loc:=blk7 t.cells [.int .u8 5,.int .i64 (K+1:Nat),.nils,.int .i64 L,.vs (H.length+8) t.fs.length,.nils,.nils] H.length (cel t.n t.lp 0 (K+1)) (K+1) (pth t.n t.lp 0 K)++([.dead]++[.vec 60 3 ((shT t K L).fs.flatMap encT),.box 27 [.int .u8 5,.int .i64 (K+1:Nat),.nils,.int .i64 L,.vs (H.length+8) t.fs.length,.nils,.nils]])) (j:=8) (t:=60) (sz:=3) (l:=(shT t K L).fs.flatMap encT) ?_
  (.tup (.cons (.agg (.cons (.low _ trivial) (.cons (.low _ trivial) (.cons (.low _ trivial) (.cons (.low _ trivial) (.cons (.vv rfl (hln _ _)) (.cons (.low _ trivial) (.cons (.low _ trivial) .nil)))))))) (.cons (.low _ trivial) .nil))) rfl (by rw [hln];omega) (KpL.low (hfb _ _ _))
 generalize hfc:(fun j x=>(shT t j x).fs.flatMap encT)=Fc at *
 have hfc':∀ j x,(shT t j x).fs.flatMap encT=Fc j x:=fun j x=>congrFun (congrFun hfc j) x
 simp only [hfc'] at htk hsa hln hfb ⊢
 generalize hcs:t.cells=tc at hv hst5 htk hsa ⊢
 have hbt:∀ m,zaa m tc:=fun m=>by rw [← hcs];simp [Tr.cells,below,zaa,zar]
 have hl7:tc=[.int .u8 5,.int .i64 t.n,.sl none 0 [],.int .i64 t.lp,.sl none t.fs.length (t.fs.flatMap encT),.sl none 0 [],.sl none 0 []]:=hcs.symm
 generalize shB t=B at hno hno2 hyes hsa
 subst hl7
 refine fdG Tryz.func11 ⟨rfl,rfl,rfl⟩ fun hcl hbl=>?_
 (repeat' ((conv=>whnf);(first|(refine yai ?_;first|refine yas ?_|refine yaq rfl ?_|fail)|refine yab _ (hv _) ?_|refine zb1 _ _ _ 6 hst5 rfl rfl rfl ?_|fail)));conv=>whnf
 refine RangeN.tokB 3 0 3 1 rfl rfl rfl rfl rfl ?_
 refine zm0 t ht rfl hcl rfl [1,2,3,4] _ rfl (by simp) rfl K (pth t.n t.lp 0) (fun _ _=>rfl) hsm 4 5
  (fun j=>blk7 [.int .u8 5,.int .i64 t.n,.sl none 0 [],.int .i64 t.lp,.sl none t.fs.length (t.fs.flatMap encT),.sl none 0 [],.sl none 0 []] zm H.length (cel t.n t.lp 0 j) j (pth t.n t.lp 0 j)) (fun j=>blk7 [.int .u8 5,.int .i64 t.n,.sl none 0 [],.int .i64 t.lp,.sl none t.fs.length (t.fs.flatMap encT),.sl none 0 [],.sl none 0 []] zm H.length (cel t.n t.lp 0 (j+1)) (j+1) (pth t.n t.lp 0 j)) (blk7 [.int .u8 5,.int .i64 t.n,.sl none 0 [],.int .i64 t.lp,.sl none t.fs.length (t.fs.flatMap encT),.sl none 0 [],.sl none 0 []] [.int .u8 5,.int .i64 (K+1:Nat),.nils,.int .i64 L,.vs (H.length+8) t.fs.length,.nils,.nils] H.length (cel t.n t.lp 0 (K+1)) (K+1) (pth t.n t.lp 0 K)) [.vec 60 3 (Fc K L),.box 27 [.int .u8 5,.int .i64 (K+1:Nat),.nils,.int .i64 L,.vs (H.length+8) t.fs.length,.nils,.nils]] 2 .ret rfl
  (fun _ _=>rfl) (fun _ _=>rfl) rfl rfl (fun _ _=>rfl) (fun _ _=>rfl) (fun _ _=>rfl) (fun _ _=>rfl)
  (fun _ _=>zct hbt (fun m=>by simp [zm,zaa,below]) (zda _ _ _ _)) (by simp [zbe,below,tr]) ?_ ?_ ?_
 ·intro j hj
  conv=>whnf
  refine ⟨none,_,zaj rfl,zbj,?_⟩
  (repeat' ((conv=>whnf);(first|refine ydt _ zbj ?_|refine yaf ⟨rfl,rfl,rfl,by dsimp only;omega,by simp only [maxLen];omega⟩ ?_|refine ycd _ (by (repeat' (first|assumption|exact za7 _ rfl|exact zaj rfl|refine zbc (B':=?_) ?_|refine zap ?_|fail))) ?_|fail)));conv=>whnf
  refine zf0 (H++(blk7 [.int .u8 5,.int .i64 t.n,.sl none 0 [],.int .i64 t.lp,.sl none t.fs.length (t.fs.flatMap encT),.sl none 0 [],.sl none 0 []] zm H.length (cel t.n t.lp 0 (j+1)) (j+1) (pth t.n t.lp 0 j)++[_])) (by rw [← zgu];rfl) ?_
  refine zam Tryz.E0 zaf (σ:=Nat) (fun x=>x≤j+1) (fun x=>j+1-x) (fun x=>[(21,.v (.int .i64 x))]) (fun _=>[]) _ 0 (by simp [blk7]) (zgt hcl fun C hC=>?_) [1,2,3,4,20] rfl (yah _) ⟨⟨_,rfl,yae _⟩,trivial⟩ rfl (fun _ _=>rfl) ?_
  ·rcases ybj.1 hC with h|h
   ·exact yde (Nat.le_of_eq (by simp [blk7])) (zct hbt (fun m=>by simp [zm,zaa,below]) (zda _ _ _ _) C h)
   ·simp only [yaz] at h
    subst h
    exact zea (by simp [zbe,below,tr,blk7])
  ·intro x hx
   have hB:x≤j→B j x=false:=hno j hj x
   have h1:=fun Z N hN=>htk j x Z N hN (by omega)
   have h2:∀ (Z:Heap) (i:Nat),x≤j→Z[i]? = _→VDet Tryz.prog 44 _ Z (.bool (B j x)):=fun Z i h=>hsa j x Z i (by omega) h
   (repeat' ((conv=>whnf);(first|(refine yai ?_;first|refine yau (hB (by omega)) ?_|refine zah (by omega) ?_|refine za1 (fun _=>?_) (fun _=>?_)|fail)|(refine zac _ _ Cst.h Cst.h ?_ ?_;· omega)|refine yab _ (h2 _ _ (by omega) (zgh (by simp [blk7]) rfl)) ?_|refine growN (fun N=>mdK (j+1:Nat) x (.vs (N+0) t.fs.length)) _ (fun N hN=>zdb (h1 _ N hN) (by (repeat' (first|exact trivial|refine yb3 ?_ ?_|exact yae _|exact wk_sl _ _ _|fail));done)) (by simp [blk7]) ?_|refine ycd _ (by (repeat' (first|assumption|exact za7 _ rfl|exact zaj rfl|refine zbc (B':=?_) ?_|refine zap ?_|fail))) ?_|fail)));all_goals (conv=>whnf)
   ·(refine ⟨⟨x+1,by omega,by omega,?_,.inl ⟨rfl,rfl⟩,rfl,_,rfl,?_⟩⟩;rotate_left 1;exact .inr ⟨by simp [zbe,below,zaa,tr,zar,zbo],by simp [zcj,Blk.below,zaa,below,zar,zbo]⟩;exact ⟨⟨_,rfl,yae _⟩,trivial⟩)
   ·refine ⟨none,none,true,.ready,_,.normal,zaj rfl,?_,?_,zrd (fun C hC=>?_),rfl,rfl⟩
    ·rw [zbj]
     rfl
    ·simp [blk7]
    ·rcases ybj.1 hC with h|h
     ·exact yde (Nat.le_of_eq (by simp [blk7])) (zct hbt (fun m=>by simp [zm,zaa,below]) (zda _ _ _ _) C h)
     ·simp only [yaz] at h
      subst h
      exact zea (by simp [zbe,below,tr,blk7])
 ·conv=>whnf
  refine ⟨none,_,zaj rfl,zbj,?_⟩
  (repeat' ((conv=>whnf);(first|refine ydt _ zbj ?_|refine yaf ⟨rfl,rfl,rfl,by dsimp only;omega,by simp only [maxLen];omega⟩ ?_|refine ycd _ (by (repeat' (first|assumption|exact za7 _ rfl|exact zaj rfl|refine zbc (B':=?_) ?_|refine zap ?_|fail))) ?_|fail)));conv=>whnf
  refine zf0 (H++(blk7 [.int .u8 5,.int .i64 t.n,.sl none 0 [],.int .i64 t.lp,.sl none t.fs.length (t.fs.flatMap encT),.sl none 0 [],.sl none 0 []] zm H.length (cel t.n t.lp 0 (K+1)) (K+1) (pth t.n t.lp 0 K)++[_])) (by rw [← zgu];rfl) ?_
  refine zam Tryz.E0 zaf (σ:=Nat) (fun x=>x≤L) (fun x=>L-x) (fun x=>[(21,.v (.int .i64 x))]) (fun _=>[]) _ 0 (by simp [blk7]) (zgt hcl fun C hC=>?_) [1,2,3,4,20] rfl (yah _) ⟨⟨_,rfl,yae _⟩,trivial⟩ rfl (fun _ _=>rfl) ?_
  ·rcases ybj.1 hC with h|h
   ·exact yde (Nat.le_of_eq (by simp [blk7])) (zct hbt (fun m=>by simp [zm,zaa,below]) (zda _ _ _ _) C h)
   ·simp only [yaz] at h
    subst h
    exact zea (by simp [zbe,below,tr,blk7])
  ·intro x hx
   have h1:=fun Z N hN=>htk K x Z N hN (by omega)
   have h2:∀ (Z:Heap) (i:Nat),x≤K→Z[i]? = _→VDet Tryz.prog 44 _ Z (.bool (B K x)):=fun Z i h=>hsa K x Z i (by omega) h
   rcases yag x L with hxL|hxL
   ·have hB:B K x=false:=hno2 x hxL
    (repeat' ((conv=>whnf);(first|(refine yai ?_;first|refine yau hB ?_|refine yar (by omega) ?_|fail)|(refine zac _ _ Cst.h Cst.h ?_ ?_;· omega)|refine yab _ (h2 _ _ (by omega) (zgh (by simp [blk7]) rfl)) ?_|refine growN (fun N=>mdK (K+1:Nat) x (.vs (N+0) t.fs.length)) _ (fun N hN=>zdb (h1 _ N hN) (by (repeat' (first|exact trivial|refine yb3 ?_ ?_|exact yae _|exact wk_sl _ _ _|fail));done)) (by simp [blk7]) ?_|refine ycd _ (by (repeat' (first|assumption|exact za7 _ rfl|exact zaj rfl|refine zbc (B':=?_) ?_|refine zap ?_|fail))) ?_|fail)));conv=>whnf
    (refine ⟨⟨x+1,by omega,by omega,?_,.inl ⟨rfl,rfl⟩,rfl,_,rfl,?_⟩⟩;rotate_left 1;exact .inr ⟨by simp [zbe,below,zaa,tr,zar,zbo],by simp [zcj,Blk.below,zaa,below,zar,zbo]⟩;exact ⟨⟨_,rfl,yae _⟩,trivial⟩)
   ·have hxe:x=L:=by omega
    subst hxe
    (repeat' ((conv=>whnf);(first|refine ydt _ zbj ?_|(refine yai ?_;first|refine yaq hyes ?_|refine yar (by omega) ?_|fail)|refine yab _ (h2 _ _ (by omega) (zgh (by simp [blk7]) rfl)) ?_|refine growN (fun N=>mdK (K+1:Nat) x (.vs (N+0) t.fs.length)) _ (fun N hN=>zdb (h1 _ N hN) (by (repeat' (first|exact trivial|refine yb3 ?_ ?_|exact yae _|exact wk_sl _ _ _|fail));done)) (by simp [blk7]) ?_|refine ycd _ (by (repeat' (first|assumption|exact za7 _ rfl|exact zaj rfl|refine zbc (B':=?_) ?_|refine zap ?_|fail))) ?_|fail)));conv=>whnf
    refine ⟨none,some .ret,false,.done,_,.ret,zaj rfl,rfl,rfl,?_⟩
    rw [zbj,ybe]
    have hN:∀ Y:Heap,(H++Y).length=H.length+Y.length:=fun Y=>ya5
    simp only [hN]
    rfl
 ·conv=>whnf
  exact ydu _ (yae _) ⟨rfl,rfl⟩
end
section
theorem zxz (n lp:Nat):∀ s,s<n→pth n lp 0 s=s
 | 0,_=>rfl
 | s+1,h=>by
   show posN n lp (pth n lp 0 s+1)=s+1
   rw [zxz n lp s (by omega)]
   exact if_pos h
theorem tk_one {old:List Nat} {m s:Nat} (h:(m >>> old.getD s 0) % 2=1):tkK old m (s+1)=tkK old m s+1 <<< s:=by
 show tkK old m s ||| ((m >>> old.getD s 0) &&& 1) <<< s=_
 rw [Nat.and_one_is_mod,h,Nat.or_comm,Nat.add_comm]
 exact (Nat.shiftLeft_add_eq_or_of_lt (zll old m s) 1).symm
theorem zwv {old:List Nat} {m s:Nat} (h:(m >>> old.getD s 0) % 2≠1):tkK old m (s+1)=tkK old m s:=by
 show tkK old m s ||| ((m >>> old.getD s 0) &&& 1) <<< s=_
 rw [Nat.and_one_is_mod,show (m >>> old.getD s 0) % 2=0 by omega,Nat.zero_shiftLeft,Nat.or_zero]
attribute [local irreducible] VW VCall VO bits
theorem zlu (t:Tr) (ht:t.Ok) (K L:Nat) (hK:K<t.n) (hL:L≤K) (hno:∀ j,j<K→∀ x,x≤j→shB t j x=false) (hno2:∀ x,x<L→shB t K x=false) (hyes:shB t K L=true) (H:Heap) :
  VDet Tryz.prog 20 [.agg t.cells] H (.tup [mdK (K+1:Nat) L (.sl none t.fs.length ((shT t K L).fs.flatMap encT)),.int .i64 0]):=by
 have hv:=fun H=>zeg ht H
 have h5:=ht.n5
 have hlen:=ht.len
 have hln:∀ j x,(shT t j x).fs.length=t.fs.length:=fun j x=>by simp [shT,zbu]
 have hsa:∀ (j x tk:Nat) H,j<t.n→x≤j→VDet Tryz.prog 58 [mdK (j+1:Nat) x (.sl (some tk) t.fs.length ((shT t j x).fs.flatMap encT)),.agg t.cells] H (.bool (shB t j x)):=fun j x tk H hj hx=>by
  have h1:=zsw ht (olds t.n t.lp 0 (j+1)) x (by rw [za8];omega) (by rw [za8];omega) (by rw [za8];omega)
  have h2:=zou _ _ h1 ht H
  rw [zxp h1 ht] at h2
  exact zbs h2 ⟨zbm ⟨yae _,Wk.of_eq (by simp [zbu,za8]),zal,yae _,Wk.trans (wk_sl _ _ _) (Wk.of_eq (by simp [zbu,shT])),zal,zal,trivial⟩,yae _,trivial⟩
 have hpo:∀ s:Nat,s<t.n→∀ H,VDet Tryz.prog 59 [.agg t.cells,.int .i64 (s:Nat)] H (.int .i64 (s:Nat)):=fun s hs H=>by
  have:=zdl t ht s (by omega) H
  rwa [show posN t.n t.lp s=s from if_pos hs] at this
 have hog:∀ j s,s≤j→j<t.n→(olds t.n t.lp 0 (j+1)).getD s 0=s:=fun j s hs hj=>by
  rw [zgn _ _ _ (by omega),zxz _ _ _ (by omega)]
 have hfs:∀ j x,(shT t j x).fs=t.fs.map (tkF (olds t.n t.lp 0 (j+1))):=fun _ _=>rfl
 have hol:∀ j,(olds t.n t.lp 0 (j+1)).length=j+1:=fun j=>za8 _ _ _ _
 have hsm:=fun i hi=>ht.small i hi
 generalize hB:shB t=B at *
 simp only [hfs] at hsa ⊢
 generalize hO:(fun j=>olds t.n t.lp 0 (j+1))=O at *
 have hO':∀ j,olds t.n t.lp 0 (j+1)=O j:=fun j=>congrFun hO j
 simp only [hO'] at hsa hog hol hfs ⊢
 clear hfs hO' hO hB hln
 obtain ⟨n,lp,fs⟩:=t
 unfold Tr.cells at hv hsa hpo ⊢
 simp only at hv hsa hpo h5 hlen hog hsm hK ⊢
 refine fdD Tryz.func20 ⟨rfl,rfl,rfl⟩ fun hcl hbl=>?_
 (repeat' ((conv=>whnf);(first|(refine yai ?_;first|refine yas ?_|refine yaq rfl ?_|fail)|refine yab _ (hv _) ?_|fail)));conv=>whnf
 refine zam Tryz.E0 zaf (σ:=Nat) (fun j=>j≤K) (fun j=>K-j) (fun j=>[(4,.v (.int .i64 (j+1:Nat)))]) (fun _=>_) _ 0 rfl hcl [1,2] rfl (yah _) ⟨⟨_,rfl,yae _⟩,trivial⟩ rfl (fun _ _=>rfl) ?_
 intro j hj
 clear hbl
 conv=>whnf
 refine zam Tryz.E0 zaf (σ:=Nat) (fun x=>x≤j+1∧(j=K→x≤L)) (fun x=>j+1-x) (fun x=>[(5,.v (.int .i64 x))]) (fun _=>_) _ 0 rfl hcl [1,2,4] rfl ⟨yah _,fun _=>yah _⟩ ⟨⟨_,rfl,yae _⟩,trivial⟩ rfl (fun _ _=>rfl) ?_
 rintro x ⟨hx,hxL⟩
 rcases yag x (j+1) with hlt|hge
 ·(repeat' ((conv=>whnf);(first|refine yar (by omega) ?_|fail)));conv=>whnf
  refine LoopN.tokB 2 4 60 3 rfl rfl rfl rfl rfl rfl ?_
  refine zam Tryz.E0 zaf (σ:=Nat×List AV) (fun k=>k.1≤fs.length∧k.2=((fs.take k.1).map (tkF (O j))).flatMap encT) (fun k=>fs.length-k.1) (fun k=>[(7,.v (.int .i64 k.1))]) (fun k=>[.box 27 [.int .u8 5,.int .i64 n,.sl none 0 [],.int .i64 lp,.sl none fs.length (fs.flatMap encT),.sl none 0 [],.sl none 0 []],.box 27 [.int .u8 0,.int .i64 0,.nils,.int .i64 0,.nils,.nils,.nils],.box 27 [.int .u8 5,.int .i64 (j+1:Nat),.nils,.int .i64 x,.sl (some (H.length+3)) k.1 k.2,.nils,.nils],.tok 60 3 k.2.length]) _ (0,[]) rfl hcl [1,2,4,5,6] rfl ⟨yah _,rfl⟩ ⟨⟨_,rfl,yae _⟩,trivial⟩ rfl (fun _ _=>rfl) ?_
  rintro ⟨k,cs⟩ ⟨hk,hcs⟩
  simp only at hk hcs ⊢
  have hbc:∀ m,zaa m cs:=fun m=>by rw [hcs];exact zar m _
  rcases yag k fs.length with hkl|hkg
  ·obtain ⟨s,m,e2⟩:∃ s m,fs.getD k p0=(s,m):=⟨_,_,rfl⟩
   have qc:encT (fs.getD k p0)=[.str s,.int .i64 0,.int .i64 m]:=by rw [e2];rfl
   have h32:m<32:=by
    have:=hsm k hkl
    unfold ft at this
    rw [e2] at this
    exact this
   have hcl3:cs.length=k * 3:=by
    rw [hcs,zaq (sz:=3) (fun _=>rfl)]
    simp [ych hk]
   have hnew:((fs.take (k+1)).map (tkF (O j))).flatMap encT=cs++[.str s,.int .i64 0,.int .i64 (tkK (O j) m (j+1):Nat)]:=by
    rw [← zdn (tkF (O j)) fs p0 k hkl,ybx,hcs,e2]
    unfold tkF
    rw [hol]
    rfl
   (repeat' ((conv=>whnf);(first|refine yar (by omega) ?_|(refine yaf ?_ ?_;· first|omega|exact yaa _ _|fail)|refine SegN.nthE p0 k rfl hkl zbb qc ?_|fail)));conv=>whnf
   refine zam Tryz.E0 zaf (σ:=Nat) (fun s=>s≤j+1) (fun s=>j+1-s) (fun s=>[(9,.v (.int .i64 s))]) (fun y=>[.box 27 [.int .u8 5,.int .i64 n,.sl none 0 [],.int .i64 lp,.sl none fs.length (fs.flatMap encT),.sl none 0 [],.sl none 0 []],.box 27 [.int .u8 0,.int .i64 0,.nils,.int .i64 0,.nils,.nils,.nils],.box 27 [.int .u8 5,.int .i64 (j+1:Nat),.nils,.int .i64 x,.sl (some (H.length+3)) k cs,.nils,.nils],.tok 60 3 cs.length,.box 60 [.str s,.int .i64 0,.int .i64 (tkK (O j) m y:Nat)]]) _ 0 rfl hcl [1,2,4,5,6,7,8] rfl (yah _) ⟨⟨_,rfl,yae _⟩,trivial⟩ rfl (fun _ _=>rfl) ?_
   intro y hy
   have hb:tkK (O j) m y<2 ^ y:=zll _ _ y
   have hb2:2 ^ y≤32:=ybi (yb7 (n:=2) (by decide) (show y≤5 by omega)) (by decide)
   rcases yag y (j+1) with hyl|hyg
   ·have hp:=hpo y (by omega)
    have hg:=hog j y (by omega) (by omega)
    have h1:=fun h=>@tk_one (O j) m y h
    have h2:=fun h=>@zwv (O j) m y h
    rw [hg] at h1 h2
    have hsl:1 <<< y=2 ^ y:=Nat.one_shiftLeft y
    generalize hT:tkK (O j) m y=T at *
    generalize hT2:tkK (O j) m (y+1)=T2 at *
    (repeat' ((conv=>whnf);(first|(refine yai ?_;first|refine yar (by omega) ?_|refine za1 (fun _=>?_) (fun _=>?_)|fail)|(refine yct ?_;first|refine zd4 m y rfl rfl (by decide) (by omega) ?_|refine zby (m >>> y) 2 rfl rfl ?_|refine zac T (1 <<< y) rfl rfl (by omega) ?_|(refine zde _ _ Cst.h Cst.h rfl ?_ ?_ ?_;(· (repeat' (first|omega|refine yb3 ?_ ?_|exact zag (by omega)|exact zat (by omega)|refine zbf ?_ ?_|refine zas ?_ ?_|refine za2 ?_ ?_|refine zao ?_ ?_|refine za3 ?_|refine za4 ?_ ?_|refine za5 ?_|refine zag ?_|fail)));(· (repeat' (first|omega|refine yb3 ?_ ?_|exact zag (by omega)|exact zat (by omega)|refine zbf ?_ ?_|refine zas ?_ ?_|refine za2 ?_ ?_|refine zao ?_ ?_|refine za3 ?_|refine za4 ?_ ?_|refine za5 ?_|refine zag ?_|fail))))|(refine zac _ _ Cst.h Cst.h ?_ ?_;· omega)|fail)|(refine yaf ?_ ?_;· first|kernel_rfl|omega|exact yaa _ _|fail)|refine yan _ (fun _ hq X=>hp _) ?_|refine SegN.nthE p0 k rfl hkl zbb qc ?_|refine zad [] ?_|fail)));all_goals (conv=>whnf)
    ·rename_i h3
     have h4:=h1 (by omega)
     rw [← h4]
     subst hT2
     (refine ⟨⟨y+1,by show y+1≤_;omega,by omega,?_,.inl ⟨rfl,rfl⟩,rfl,_,rfl,?_⟩⟩;rotate_left 1;exact .inl rfl;exact ⟨⟨_,rfl,yae _⟩,trivial⟩)
    ·rename_i h3
     have h4:=h2 (fun q=>h3 (by rw [q];rfl))
     rw [← h4]
     subst hT2
     (refine ⟨⟨y+1,by show y+1≤_;omega,by omega,?_,.inl ⟨rfl,rfl⟩,rfl,_,rfl,?_⟩⟩;rotate_left 1;exact .inl rfl;exact ⟨⟨_,rfl,yae _⟩,trivial⟩)
   ·obtain rfl:y=j+1:=by omega
    (repeat' ((conv=>whnf);(first|refine zah (by omega) ?_|(refine zac _ _ Cst.h Cst.h ?_ ?_;· omega)|refine yaf ⟨rfl,rfl,rfl,by dsimp only;omega,by simp only [maxLen];omega⟩ ?_|refine yca _ rfl ?_|fail)));conv=>whnf
    (refine ⟨⟨(k+1,cs++[.str s,.int .i64 0,.int .i64 (tkK (O j) m (j+1):Nat)]),⟨by simp only;omega,hnew.symm⟩,by omega,?_,.inr ?_,rfl,_,rfl,?_⟩⟩;rotate_left 2;exact .inr ⟨by simp [zbe,below,zaa,tr,zar,zbo,hbc,zak],by simp [zcj,Blk.below,zaa,below,zar,zbo,hbc,zak]⟩;all_goals (repeat' (first|exact trivial|refine ⟨⟨_,rfl,?_⟩,?_⟩|fail));all_goals exact yae _)
  ·obtain rfl:k=fs.length:=by omega
   rw [ya2] at hcs
   subst hcs
   have h3:=fun tk H=>hsa j x tk H (by omega) (by omega)
   rcases yag j K with hjK|hjK
   ·have hb:=hno j hjK x (by omega)
    rw [hb] at h3
    (repeat' ((conv=>whnf);(first|(refine yai ?_;first|refine yau rfl ?_|refine zah (by omega) ?_|fail)|(refine zac _ _ Cst.h Cst.h ?_ ?_;· omega)|refine yab _ (h3 _ _) ?_|fail)));conv=>whnf
    (refine ⟨⟨x+1,⟨by omega,fun e=>by omega⟩,by omega,?_,.inr ?_,rfl,_,rfl,?_⟩⟩;rotate_left 2;exact .inr ⟨by simp [zbe,below,zaa,tr,zar,zbo,hbc,zak],by simp [zcj,Blk.below,zaa,below,zar,zbo,hbc,zak]⟩;all_goals (repeat' (first|exact trivial|refine ⟨⟨_,rfl,?_⟩,?_⟩|fail));all_goals exact yae _)
   ·obtain rfl:j=K:=by omega
    rcases yag x L with hxl|hxg
    ·have hb:=hno2 x hxl
     rw [hb] at h3
     (repeat' ((conv=>whnf);(first|(refine yai ?_;first|refine yau rfl ?_|refine zah (by omega) ?_|fail)|(refine zac _ _ Cst.h Cst.h ?_ ?_;· omega)|refine yab _ (h3 _ _) ?_|fail)));conv=>whnf
     (refine ⟨⟨x+1,⟨by omega,fun e=>by omega⟩,by omega,?_,.inr ?_,rfl,_,rfl,?_⟩⟩;rotate_left 2;exact .inr ⟨by simp [zbe,below,zaa,tr,zar,zbo,hbc,zak],by simp [zcj,Blk.below,zaa,below,zar,zbo,hbc,zak]⟩;all_goals (repeat' (first|exact trivial|refine ⟨⟨_,rfl,?_⟩,?_⟩|fail));all_goals exact yae _)
    ·obtain rfl:x=L:=by have:=hxL rfl;omega
     rw [hyes] at h3
     (repeat' ((conv=>whnf);(first|(refine yai ?_;first|refine yaq rfl ?_|refine zah (by omega) ?_|fail)|refine yab _ (h3 _ _) ?_|fail)));conv=>whnf
     exact ya1 (by simp [below,zaa,zar]) (by (repeat' (first|exact trivial|refine yb3 ?_ ?_|exact yae _|exact wk_sl _ _ _|refine zbm ?_|refine zhl ?_|fail));done)
 ·have hxe:x=j+1:=by omega
  have hjK:j<K:=by
   rcases yag j K with h|h
   ·exact h
   ·have:=hxL (by omega)
    omega
  (repeat' ((conv=>whnf);(first|refine zah (by omega) ?_|(refine zac _ _ Cst.h Cst.h ?_ ?_;· omega)|fail)));conv=>whnf
  (refine ⟨⟨j+1,by show j+1≤_;omega,by omega,?_,.inr ?_,rfl,_,rfl,?_⟩⟩;rotate_left 2;exact .inl rfl;all_goals (repeat' (first|exact trivial|refine ⟨⟨_,rfl,?_⟩,?_⟩|fail));all_goals exact yae _)
end
end Go.Proofs.YtjflngchbeegcaaGreatDoor.P10.C
