/- A text of the proof: the parts TM38z, TN38z, W38z, X38z, ZA38z, ZB38z, ZC38z, ZD38z, ZE38z, ZF38z, ZG38z, ZH38z, AA38z, AD38z, AE38z, AF38z, AH38z, RN38z, RO38z, RG38z, RI38z, RJ38z. -/
import Derived.Test.YtgopbbkpcjgihaaGreatK9
set_option linter.unusedSimpArgs false
set_option linter.unusedVariables false
set_option maxHeartbeats 8000000
namespace Go.Proofs.YtgopbbkpcjgihaaGreat
section
open Go.Shelf Go.RowKit Go.Lib Go.Vsi
theorem zd0 (w:World) (b o:Nat) (t:TypeId) (cur:Array Value) (vs:List Value) (h:w.heap[b]? = some (.cells cur t (0,0))) (hl:o+vs.length≤cur.size) (h1:∀ v∈vs,v.oneCell'=true) :
  w.setCells b o vs=w.setRow b (hole cur o vs):=by
 have e1:=run_storeCells_at Tryz.prog b o t vs 0 cur w h (by omega) h1
 have e2:=run_storeCells_cells (P:=Tryz.prog) b o vs 0 w (fun j hj=>by
  have:(w.cell? ⟨b,o+0+j,none⟩)=some (cur[o+j]'(by omega)):=cell_iff.2 ⟨cur,t,_,h,by simp⟩
  rw [this];rfl) (fun j hj=>by simp [World.frozen?,h]) h1
 rw [e1] at e2
 simp only [yby] at e2
 injection e2 with _ e3
 exact e3.symm
theorem setRow_at (w:World) (b:Nat) (t:TypeId) (cur d:Array Value) (h:w.heap[b]? = some (.cells cur t (0,0))):(w.setRow b d).heap[b]? = some (.cells d t (0,0)):=setRow_heap w b cur d t (0,0) h
theorem hole_get (cur:Array Value) (o:Nat) (cv:List Value) (h:o+cv.length≤cur.size) (j:Nat) :
  (hole cur o cv)[j]? = if j<o then cur[j]? else if j<o+cv.length then cv[j-o]? else cur[j]? := by
 unfold hole
 simp only [ydn,List.getElem?_append,ybp,yc2,ya5,yce,ych,ybw]
 have hm:min o cur.size=o:=by omega
 rw [hm]
 by_cases h1:j<o
 ·rw [if_pos (by omega),if_pos h1,if_pos h1,if_pos h1]
 ·rw [if_neg h1,if_neg h1]
  by_cases h2:j<o+cv.length
  ·rw [if_pos h2,if_pos h2]
  ·rw [if_neg h2,if_neg h2]
   congr 1
   omega
theorem shift_take (cs:Array Value) (n p:Nat) (vs:List Value) (hv:vs.length=2) (hp:p≤n) (hs:(n+1) * 2≤cs.size) :
  (hole (hole cs ((p+1) * 2) ((cs.toList.take (n * 2)).drop (p * 2))) (p * 2) vs).toList.take ((n+1) * 2)=(cs.toList.take (n * 2)).take (p * 2)++vs++(cs.toList.take (n * 2)).drop (p * 2):=by
 have hl1:((cs.toList.take (n * 2)).drop (p * 2)).length=(n-p) * 2:=by simp;omega
 have hs1:(p+1) * 2+((cs.toList.take (n * 2)).drop (p * 2)).length≤cs.size:=by rw [hl1];omega
 apply ybn
 intro j
 rw [ybp,ybw,hole_get _ _ _ (by rw [zcs hs1];omega),hole_get _ _ _ hs1]
 rw [hl1,hv]
 simp only [List.getElem?_append,ybp,yc2,ya5,yce,ych,ybw,hv]
 have hm:min (p * 2) (min (n * 2) cs.size)=p * 2:=by omega
 rw [hm]
 by_cases h1:j<p * 2
 ·rw [if_pos (by omega),if_pos (by omega),if_pos (by omega),if_pos (by omega),if_pos (by omega),if_pos (by omega)]
  rw [if_pos (by omega)]
 ·by_cases h2:j<p * 2+2
  ·rw [if_pos (by omega),if_neg (by omega),if_pos (by omega),if_pos (by omega),if_neg (by omega)]
  ·by_cases h3:j<(n+1) * 2
   ·rw [if_pos (by omega),if_neg (by omega),if_neg (by omega),if_neg (by omega),if_pos (by omega),if_pos (by omega)]
    rw [if_neg (by omega),if_pos (by omega)]
    congr 1
    omega
   ·rw [if_neg (by omega),if_neg (by omega),if_neg (by omega)]
theorem grow_take (xs:List Value) (row:Array Value) (n p:Nat) (vs:List Value) (hv:vs.length=2) (hx:xs.length=n * 2) (hp:p≤n) (hs:(n+1) * 2≤row.size) (hr:∀ j,j<p * 2→row[j]? = xs[j]?) :
  (hole (hole row (p * 2) vs) ((p+1) * 2) (xs.drop (p * 2))).toList.take ((n+1) * 2)=xs.take (p * 2)++vs++xs.drop (p * 2):=by
 have hl1:(xs.drop (p * 2)).length=(n-p) * 2:=by simp;omega
 have hs1:(p * 2)+vs.length≤row.size:=by omega
 apply ybn
 intro j
 rw [ybp,ybw,hole_get _ _ _ (by rw [zcs hs1,hl1];omega),hole_get _ _ _ hs1]
 rw [hl1,hv]
 simp only [List.getElem?_append,ybp,yc2,ya5,yce,hv]
 have hm:min (p * 2) xs.length=p * 2:=by omega
 rw [hm]
 by_cases h1:j<p * 2
 ·rw [if_pos (by omega),if_pos (by omega),if_pos (by omega),if_pos (by omega),if_pos (by omega),if_pos (by omega)]
  exact hr j h1
 ·by_cases h2:j<p * 2+2
  ·rw [if_pos (by omega),if_pos (by omega),if_neg (by omega),if_pos (by omega),if_pos (by omega),if_neg (by omega)]
  ·by_cases h3:j<(n+1) * 2
   ·rw [if_pos (by omega),if_neg (by omega),if_pos (by omega),if_neg (by omega)]
    congr 1
    omega
   ·rw [if_neg (by omega),if_neg (by omega)]
    rw [ycg (by omega)]
theorem call44:CallOk Tryz.prog 52:=⟨_,Tryz.func52,by kernel_rfl,by kernel_rfl⟩
theorem zhg (g:G) (w:World):Ext g w g w.drew:=⟨yax _,fun _ _ h=>h,fun _ h=>h,fun _ _=>rfl,fun _ _=>.inl rfl,fun _ _ _ h=>h,rfl,rfl,rfl,(by first|exact yax _|exact yca _|(simp;done)),yax _,fun _ _ _=>rfl,fun _ ds _ _ hb=>⟨ds,hb,rfl,fun _ _=>rfl⟩⟩
def insL (l:List AV) (p:Nat) (nm:ByteArray):List AV:=l.take (p * 2)++[.str nm,.nils]++l.drop (p * 2)
theorem insert_c (nm:ByteArray) (i n p:Nat) (l:List AV) (H:Heap) (hi:H[i]? = some (.vec 69 2 l)) (hl:l.length=n * 2) (hp:p≤n) (hn:n≤1000) (h1:zcd l=true) :
  VCall Tryz.prog 52 [.vs i n,.int .i64 p,.sx 1 [.str nm,.nils]] H fun r H'=>r=.vs i (n+1)∧H'=H.set i (.vec 69 2 (insL l p nm)):=by
 have hat:At (Hp.of H) i (.vec 69 2 l):=by simpa [At,Hp.of,Hp.all] using hi
 have hput:Put (Hp.of H) i (.vec 69 2 (insL l p nm)) (Hp.of (H.set i (.vec 69 2 (insL l p nm)))):=⟨by simp [Hp.of,Hp.all],by simp [Hp.of],rfl,rfl⟩
 refine ⟨call44,fun g w vv hH hL=>?_⟩
 have has:∃ a b c,vv=#[a,b,c]∧VRel g w (.vs i n) a∧VRel g w (.int .i64 p) b∧VRel g w (.sx 1 [.str nm,.nils]) c:=by
  obtain ⟨vv⟩:=vv
  simp only [LRel] at hL
  obtain ⟨a,r,e1,h2,b,r2,e2,h3,c,r3,e3,h4,e4⟩:=hL
  subst e4 e3 e2
  exact ⟨a,b,c,by rw [e1],h2,h3,h4⟩
 obtain ⟨a,b,c,rfl,hva,hvb,hvc⟩:=has
 have hva0:=hva
 have hvc0:=hvc
 simp only [VRel] at hva hvb hvc
 subst hvb
 obtain ⟨hok,hlen,A,cap,rfl,hncap,hA⟩:=hva
 obtain ⟨A2,rfl,hmO⟩:=hvc
 obtain ⟨vb,vo,rfl,hm⟩:=hmO.resolve_left (by simp)
 obtain ⟨vs,hvs,hvc1⟩:=hm.list
 have hvl:vs.length=2:=hvs.length
 have h1v:=hvs.one (zcq _ (by rfl))
 obtain ⟨cv,hcv,-,hnown⟩:=hm.at_ (j:=0) rfl
 simp only [yby] at hcv hnown
 obtain ⟨csA,tA,fa,hheapA,hcsA⟩:=cell_iff.1 hcv
 have hkA:csA.size≠0:=by intro h;rw [Array.getElem?_eq_none (by omega)] at hcsA;cases hcsA
 obtain ⟨b1,b2,b3⟩:=hH.rel i _ hat
 obtain ⟨hAe,hcap⟩:=hA (by rw [b1,b2];exact hl)
 rcases yag p n with hpn|hpn
 ·have hlne:l≠[]:=by intro h;rw [h] at hl;simp at hl;omega
  rcases b3 with ⟨-,h,-⟩|⟨b,cs,hbase,hheap,hsize,hcm,hle,hxs,hown⟩
  ·exact absurd h hlne
  rw [hbase] at hAe
  simp only [ybb] at hAe
  subst hAe
  have hbne:vb≠b:=fun h=>hnown (by rw [h];exact hown vo)
  rw [← hcap] at hsize hcm
  obtain ⟨xs,hxsd⟩:∃ xs,xs=cs.toList.take (n * 2):=⟨_,rfl⟩
  rw [hl,← hxsd] at hxs
  have hxl:xs.length=n * 2:=by rw [hxs.length,hl]
  have hxc:∀ (j:Nat) u,xs[j]? = some u→w.cell? ⟨b,j,none⟩=some u:=fun j u hu=>by
   rw [hxsd,ybp] at hu
   split at hu
   ·exact cell_iff.2 ⟨cs,69,_,hheap,by simpa using hu⟩
   ·cases hu
  have h1c:=hxs.one (zcq _ h1)
  have hrel:∀ (w':World),Ext g w g w'→LRel g w' (insL l p nm) (xs.take (p * 2)++vs++xs.drop (p * 2)):=fun w' hx =>
   (((hxs.take (p * 2)).append hvs).append (hxs.drop (p * 2))).ext hx
  have hl':(insL l p nm).length=(n+1) * 2:=by simp [insL];omega
  have hHd:HRel g w.drew (Hp.of H):=hH.keepAll (zhg g w) fun _ _=>rfl
  rcases yag cap (n+1) with hroom|hroom
  ·refine Calls.mono (ins_grow b n cap p vb vo 1 xs vs w hpn hncap hroom (zbc hheapA) (zbc hheap) hn hxl hvl hxc hvc1 h1c h1v) fun e w2 hw2=>?_
   obtain ⟨rfl,rfl⟩:=hw2
   obtain ⟨G,hG⟩:∃ G,G=grownCap w (n+1) cap 69:=⟨_,rfl⟩
   have hGn:n+1≤G:=by rw [hG];exact grownCap_ge w _ _ _
   have hGm:G≤maxLen:=by
    have:=grownCap_le_maxLen w (n+1) cap 69 (by unfold maxLen;omega)
    rwa [← hG] at this
   rw [← hG]
   obtain ⟨ROW,hROW⟩:∃ ROW:Array Value,ROW=(xs.take (p * 2)).toArray++Builtin.zeroCells (Value.agg #[.string ⟨#[]⟩,.slice none 0 0]).cells (n+1-p)++Builtin.zeroCells (Value.agg #[.string ⟨#[]⟩,.slice none 0 0]).cells (G-(n+1)):=⟨_,rfl⟩
   have hRs:ROW.size=G * 2:=by
    rw [hROW]
    simp [Builtin.zeroCells,Value.cells]
    omega
   have hRp:∀ j,j<p * 2→ROW[j]? = xs[j]? := fun j hj=>by
    rw [hROW,Array.getElem?_append,if_pos (by simp;omega),Array.getElem?_append,if_pos (by simp;omega)]
    simp [ybp,hj]
   rw [← hROW]
   have hdl:(xs.drop (p * 2)).length=(n-p) * 2:=by simp;omega
   obtain ⟨R1,hR1⟩:∃ R1,R1=hole ROW (p * 2) vs:=⟨_,rfl⟩
   have hs1:p * 2+vs.length≤ROW.size:=by omega
   have hR1s:R1.size=G * 2:=by rw [hR1,zcs hs1,hRs]
   have e1:(w.alloc (.cells ROW 69)).drew.setCells w.heap.size (p * 2) vs=w.drew.alloc (.cells R1 69):=by
    have:=zd0 (w.drew.alloc (.cells ROW 69)) w.heap.size (p * 2) 69 ROW vs (heap_alloc_new w.drew _) hs1 h1v
    rw [hR1]
    exact this.trans (zfj w.drew 69 _ _)
   have e2:(w.drew.alloc (.cells R1 69)).drew.setCells w.heap.size ((p+1) * 2) (xs.drop (p * 2))=w.drew.drew.alloc (.cells (hole R1 ((p+1) * 2) (xs.drop (p * 2))) 69):=by
    have:=zd0 (w.drew.drew.alloc (.cells R1 69)) w.heap.size ((p+1) * 2) 69 R1 (xs.drop (p * 2)) (heap_alloc_new w.drew.drew _) (by omega) (fun v hv=>h1c v (List.mem_of_mem_drop hv))
    exact this.trans (zfj w.drew.drew 69 _ _)
   rw [e1,e2]
   have htk:=grow_take xs ROW n p vs hvl hxl hp (by omega) hRp
   rw [← hR1] at htk
   obtain ⟨g',q1,q2,q3⟩:=vec_new (w:=w.drew) (sz:=1) (n:=n+1) (cap':=G) (cur':=hole R1 ((p+1) * 2) (xs.drop (p * 2))) hHd hat hl (len':=(n+1) * 2) (by omega) hl' rfl hGn hGm (by rw [zcs (by omega),hR1s]) (by rw [htk];exact hrel _ (zhg g w)) hput
   exact ⟨_,_,g',_,rfl,⟨rfl,rfl⟩,q1,q2,(zhg g w).trans q3⟩
  ·have hmx:cap≤9223372036854775807:=by unfold maxLen at hcm;omega
   refine Calls.mono (ins_shift b n cap p vb vo 1 xs vs w hpn hroom hmx hbne hn hxl hvl hxc (fun j hj=>by
     have:w.cell? ⟨b,j,none⟩=some (cs[j]'(by omega)):=cell_iff.2 ⟨cs,69,_,hheap,by simp⟩
     rw [this];rfl) (fun j=>by simp [World.frozen?,hheap]) hvc1 h1c h1v hheapA hheap hkA (by omega)) fun e w2 hw2=>?_
   obtain ⟨rfl,rfl⟩:=hw2
   have hdl:(xs.drop (p * 2)).length=(n-p) * 2:=by simp;omega
   have hs1:(p+1) * 2+(xs.drop (p * 2)).length≤cs.size:=by omega
   have e1:w.drew.setCells b ((p+1) * 2) (xs.drop (p * 2))=w.drew.setRow b (hole cs ((p+1) * 2) (xs.drop (p * 2))) :=
    zd0 _ _ _ 69 cs _ hheap hs1 (fun v hv=>h1c v (List.mem_of_mem_drop hv))
   rw [e1,zd0 _ _ _ 69 _ vs (setRow_at w.drew b 69 cs _ hheap) (by rw [zcs hs1];omega) h1v,zgz]
   have htk:=shift_take cs n p vs hvl hp (by omega)
   rw [← hxsd] at htk
   obtain ⟨g',q1,q2,q3⟩:=vec_room (w:=w.drew) (sz:=1) (n:=n+1) (cap:=cap) (b:=b) (cs:=cs) (cur':=hole (hole cs ((p+1) * 2) (xs.drop (p * 2))) (p * 2) vs) hHd hat (len':=(n+1) * 2) (by omega) hl hl' rfl hroom hbase hcap.symm hheap
    (by rw [zcs (by rw [zcs hs1];omega),zcs hs1]) (by rw [htk];exact hrel _ (zhg g w)) hput
   exact ⟨_,_,g',_,rfl,⟨rfl,rfl⟩,q1,q2,(zhg g w).trans q3⟩
 ·have hpn':p=n:=by omega
  subst hpn'
  have hc2:=wk_sx 1 [.str nm,.nils] g w _ hvc0
  have hins:insL l p nm=l++[.str nm,.nils]:=by simp [insL,yb3 (Nat.le_of_eq hl),ycy (Nat.le_of_eq hl)]
  rw [hins] at hput ⊢
  have hTm:(Tryz.T 69).map (fun e=>(e.zero,e.sz,e.bytes))=some (some [.str ⟨#[]⟩,.nils],2,40):=by kernel_rfl
  obtain ⟨ei,hei,hem⟩:=yba.1 hTm
  simp only [yb7] at hem
  obtain ⟨m1,m2,m3⟩:=hem
  have hT2:(Tryz.T 22).map (fun e=>e.kind)=some (.sl 69):=by kernel_rfl
  obtain ⟨ti,hti,htk⟩:=yba.1 hT2
  obtain ⟨c',g',w',hrun,q1,q2,q3⟩:=vec_core (t:=22) (ty:=22) zfy hH hti htk hei m1 m2 m2.symm hat hl hva0 hc2 rfl rfl (by rw [m3];omega) (by unfold maxLen;omega) hput
  have hAA:(A=none∧p=0∧cap=0)∨∃ b,A=some ⟨b,0,none⟩:=by
   rcases b3 with ⟨h,h0,h2⟩|⟨b,cs,hbase,_⟩
   ·rw [h] at hAe
    subst h0
    simp at hl
    exact .inl ⟨hAe,by omega,by omega⟩
   ·rw [hbase] at hAe
    exact .inr ⟨b,hAe⟩
  refine Calls.mono (ins_end A p cap vb vo w w' c' hAA hncap hrun) fun e w2 hw2=>?_
  obtain ⟨rfl,rfl⟩:=hw2
  exact ⟨_,_,g',_,rfl,⟨rfl,rfl⟩,q1,q2,q3⟩
end
end Go.Proofs.YtgopbbkpcjgihaaGreat
namespace Go.Proofs.YtgopbbkpcjgihaaGreat
open Go.Vsi
section
attribute [local irreducible] VW VCall VO bits
theorem take_drop_q {l:List Ser} {q k:Nat} (h:q<k) (hk:k≤l.length):l.take k=l.take q++(l.getD q ser0::(l.take k).drop (q+1)):=by
 have h1:(l.take k).take q=l.take q:=by rw [ydq,ycd (by omega)]
 have h2:(l.take k).drop q=l.getD q ser0::(l.take k).drop (q+1):=by
  rw [List.drop_eq_getElem_cons (by rw [yce];omega),List.getElem_take]
  congr 1
  simp [yal (show q<l.length by omega)]
 rw [← h2,← h1,yck]
theorem cpyL_wk (l:List Ser) (q t k:Nat) (hk:k≤l.length):WkL (cpyL l q t k) ((l.take k).flatMap Ser.cells):=by
 unfold cpyL
 split
 ·exact .id _
 ·rename_i h
  refine Eq.mpr (congrArg (fun m=>WkL _ (m.flatMap Ser.cells)) (take_drop_q (q:=q) (by omega) hk)) ?_
  rw [ybt,ya6]
  exact .app (.id _) (.app ⟨yae _,wk_sl _ _ _,trivial⟩ (.id _))
theorem bsearchW (l:List Ser) (hl:l.length≤1000000) (hs:SrtS l) (ex:ByteArray) (q t i:Nat) (H:Heap) (hi:H[i]? = some (.vec 69 2 (cpyL l q t l.length))) :
  VDet Tryz.prog 50 [.vs i l.length,.str ex,.clo (.func 51) [] []] H (.tup [.int .i64 (posF l ex:Nat),.bool (fndF l ex)]):=by
 refine VDet.lend (as':=[.sl none l.length (cpyL l q t l.length),.str ex,.clo (.func 51) [] []]) (fun H=>VDet.wk (bsearch_c l hl hs ex H) ⟨wk_slL (by
  have:=cpyL_wk l q t l.length (yax _)
  rwa [ya2] at this),yae _,yae _,trivial⟩) (.cons (.vs hi (cpyL_len (yax _)) (.refl _)) (.cons (.refl _) (.cons (.refl _) .nil))) rfl
def insS (l:List Ser) (ex:ByteArray) (v:Ver):List Ser:=if fndF l ex then l.set (posF l ex) ⟨(l.getD (posF l ex) ser0).name,(l.getD (posF l ex) ser0).vers++[v]⟩ else l.take (posF l ex)++(⟨ex,[v]⟩::l.drop (posF l ex))
theorem setL_at (A B:List AV) (x y z:AV) (n:Nat) (h:A.length=n * 2):setL (A++(x::y::B)) (n * 2+1) [z]=A++(x::z::B):=by
 unfold setL
 rw [← h]
 have e1:(A++(x::y::B)).take (A.length+1)=A++[x]:=by
  rw [List.take_append,yb3 (yca _)]
  simp
 have e2:(A++(x::y::B)).drop (A.length+1+[z].length)=B:=by
  rw [List.drop_append,List.drop_eq_nil_of_le (by simp only [List.length_cons,List.length_nil];omega),show A.length+1+[z].length-A.length=2 by simp only [List.length_cons,List.length_nil];omega]
  rfl
 rw [e1,e2]
 simp
theorem cpyL_q {l:List Ser} {q t:Nat} (h:q<l.length):cpyL l q t l.length=(l.take q).flatMap Ser.cells++(.str (l.getD q ser0).name::.sl (some t) (l.getD q ser0).vers.length ((l.getD q ser0).vers.flatMap Ver.cells)::(l.drop (q+1)).flatMap Ser.cells):=by
 unfold cpyL
 rw [if_neg (by omega),ya2]
 rfl
theorem cpyL_n {l:List Ser} {t:Nat}:cpyL l l.length t l.length=l.flatMap Ser.cells:=by
 unfold cpyL
 rw [if_pos (yax _),ya2]
theorem flat_takeS (l:List Ser) (p:Nat) (hp:p≤l.length):(l.flatMap Ser.cells).take (p * 2)=(l.take p).flatMap Ser.cells∧(l.flatMap Ser.cells).drop (p * 2)=(l.drop p).flatMap Ser.cells:=by
 have hl:((l.take p).flatMap Ser.cells).length=p * 2:=by rw [zav zaz,yce,ycd hp]
 have e:l.flatMap Ser.cells=(l.take p).flatMap Ser.cells++(l.drop p).flatMap Ser.cells:=by rw [← ybt,yck]
 rw [e,← hl]
 exact ⟨by rw [yc6  rfl],by rw [List.drop_left' rfl]⟩
theorem put_found (l:List Ser) (ex:ByteArray) (v:Ver) (t:Nat) (hf:fndF l ex=true):WkL (setL (cpyL l (posF l ex) t l.length) (posF l ex * 2+1) [.sl (some t) ((l.getD (posF l ex) ser0).vers.length+1) ((l.getD (posF l ex) ser0).vers.flatMap Ver.cells++v.cells)]) ((insS l ex v).flatMap Ser.cells):=by
 have hp:posF l ex<l.length:=by
  unfold fndF at hf
  simp only [yak,decide_eq_true_eq] at hf
  exact hf.1
 rw [cpyL_q hp,setL_at _ _ _ _ _ _ (by rw [zav zaz,yce,ycd (by omega)])]
 unfold insS
 rw [if_pos hf,List.set_eq_take_append_cons_drop,if_pos hp,ybt,ya6]
 refine .app (.id _) (.app (a:=[_,_]) ⟨yae _,?_,trivial⟩ (.id _))
 have:(Ser.mk (l.getD (posF l ex) ser0).name ((l.getD (posF l ex) ser0).vers++[v])).vers.length=(l.getD (posF l ex) ser0).vers.length+1:=by simp
 simp only [ya5,List.length_cons,List.length_nil,ybt,ya6,List.flatMap_nil,yat]
 exact wk_sl _ _ _
theorem put_new (l:List Ser) (ex:ByteArray) (v:Ver) (t:Option Nat) (hf:fndF l ex=false):WkL (setL (insL (l.flatMap Ser.cells) (posF l ex) ex) (posF l ex * 2+1) [.sl t 1 v.cells]) ((insS l ex v).flatMap Ser.cells):=by
 have hp:=posF_le l ex
 obtain ⟨e1,e2⟩:=flat_takeS l _ hp
 unfold insL
 rw [e1,e2,ybe]
 rw [show ([AV.str ex,AV.nils]++(l.drop (posF l ex)).flatMap Ser.cells)=AV.str ex::AV.nils::(l.drop (posF l ex)).flatMap Ser.cells from rfl,setL_at _ _ _ _ _ _ (by rw [zav zaz,yce,ycd hp])]
 unfold insS
 rw [hf]
 simp only [ya9,if_false]
 rw [ybt,ya6]
 refine .app (.id _) (.app (a:=[_,_]) ⟨yae _,?_,trivial⟩ (.id _))
 simp only [List.length_cons,List.length_nil,ya6,List.flatMap_nil,yat]
 exact wk_sl _ _ _
theorem zha (l:List Ser) (ex:ByteArray) (v:Ver):(insS l ex v).length=if fndF l ex then l.length else l.length+1:=by
 have hp:=posF_le l ex
 unfold insS
 split
 ·simp
 ·simp
  omega
def bk0:Bk:=⟨[],[]⟩
def pubIn (b:Bk) (ex:ByteArray) (v:Ver):Bool:=zbm b&&(zcg ex&&(isDay v.at_&&zbv v.sch))
def zfo (b:Bk) (ex:ByteArray) (v:Ver):Bool:=(serF b ex).isSome&&decide (v.at_≤(((serF b ex).getD ser0).vers.getD (((serF b ex).getD ser0).vers.length-1) ver0).at_)
def zfn (b:Bk) (v:Ver):Bool:=decide (0<b.ent.length)&&decide (v.at_≤(b.ent.getD (b.ent.length-1) ent0).day)
def zfp (b:Bk) (ex:ByteArray):Bool:=decide (20≤((serF b ex).getD ser0).vers.length) || (!(serF b ex).isSome&&decide (40≤b.ser.length))
def pubE (b:Bk) (ex:ByteArray) (v:Ver):Int:=if pubIn b ex v then (if zfo b ex v then 380 else if zfn b v then 380 else if zfp b ex then 5 else 0) else 2
def pubF (b:Bk) (ex:ByteArray) (v:Ver):Bk:=if pubE b ex v=0 then ⟨insS b.ser ex v,b.ent⟩ else bk0
theorem zc7 {b:Bk} {ex:ByteArray} {s:Ser} (h:serF b ex=some s):s∈b.ser∧s.name=ex:=by
 have:=zdl h
 exact ⟨this.1,eqS_iff.1 this.2⟩
theorem publish_in (b:Bk) (hb:b.Sm) (ex:ByteArray) (v:Ver) (hi:pubIn b ex v=false) (H:Heap):VDet Tryz.prog 21 [.agg b.cells,.str ex,.agg v.cells] H (.tup [.agg bk0.cells,.int .i64 2]):=by
 have hva:=fun H=>zcp b hb H
 have hsc:=fun H=>zdi v.sch H
 have hcb:b.cells=[.sl none b.ser.length (b.ser.flatMap Ser.cells),.sl none b.ent.length (b.ent.flatMap Ent.cells)]:=rfl
 unfold pubIn at hi
 obtain ⟨at_,pts,part,att,rty,hnt,cnt,lates,hv1⟩:=zcr v
 rw [hv1] at hi hsc
 rw [zbl hv1]
 unfold Sch.cells at hsc
 simp only at hi hsc
 rw [hcb] at hva ⊢
 cases hV:zbm b <;> rw [hV] at hva hi
 ·refine zap Tryz.E0 zad Tryz.func21 (by kernel_rfl) rfl (ybv rfl) rfl fun hcl hbl=>?_
  (repeat' ((conv=>whnf);(first|(refine yai ?_;first|refine yas ?_|refine yau rfl ?_|fail)|refine yab _ (hva _) ?_|refine zab [] ?_|fail)));all_goals (conv=>whnf)
  exact ya1 (by simp [below,zac,bk0,Bk.cells]) (by simp only [bk0,Bk.cells];(repeat' (first|exact trivial|refine ybz ?_ ?_|exact yae _|exact wk_sl _ _ _|exact wk_sx _ _|exact zbp|refine zbs ?_|refine zby ?_|fail));done)
 ·cases hN:zcg ex <;> rw [hN] at hi
  ·refine zap Tryz.E0 zad Tryz.func21 (by kernel_rfl) rfl (ybv rfl) rfl fun hcl hbl=>?_
   (repeat' ((conv=>whnf);(first|(refine yai ?_;first|refine yas ?_|refine yaq rfl ?_|refine yau (by assumption) ?_|fail)|(refine ybi ?_;first|refine yab _ (hva _) ?_|refine yab _ (zbo _ _) ?_|fail)|refine zab [] ?_|fail)));all_goals (conv=>whnf)
   exact ya1 (by simp [below,zac,bk0,Bk.cells]) (by simp only [bk0,Bk.cells];(repeat' (first|exact trivial|refine ybz ?_ ?_|exact yae _|exact wk_sl _ _ _|exact wk_sx _ _|exact zbp|refine zbs ?_|refine zby ?_|fail));done)
  ·cases hD:isDay at_ <;> rw [hD] at hi
   ·refine zap Tryz.E0 zad Tryz.func21 (by kernel_rfl) rfl (ybv rfl) rfl fun hcl hbl=>?_
    (repeat' ((conv=>whnf);(first|(refine yai ?_;first|refine yas ?_|refine yaq rfl ?_|refine yaq (by assumption) ?_|refine yau (by assumption) ?_|fail)|(refine ybi ?_;first|refine yab _ (hva _) ?_|refine yab _ (zbo _ _) ?_|refine yab _ (zbh _ _) ?_|fail)|refine zab [] ?_|fail)));all_goals (conv=>whnf)
    exact ya1 (by simp [below,zac,bk0,Bk.cells]) (by simp only [bk0,Bk.cells];(repeat' (first|exact trivial|refine ybz ?_ ?_|exact yae _|exact wk_sl _ _ _|exact wk_sx _ _|exact zbp|refine zbs ?_|refine zby ?_|fail));done)
   ·have hS:zbv ⟨pts,part,att,rty,hnt,cnt,lates⟩=false:=by simpa using hi
    rw [hS] at hsc
    refine zap Tryz.E0 zad Tryz.func21 (by kernel_rfl) rfl (ybv rfl) rfl fun hcl hbl=>?_
    (repeat' ((conv=>whnf);(first|(refine yai ?_;first|refine yas ?_|refine yaq rfl ?_|refine yau rfl ?_|refine yaq (by assumption) ?_|fail)|(refine ybi ?_;first|refine yab _ (hva _) ?_|refine yab _ (zbo _ _) ?_|refine yab _ (zbh _ _) ?_|refine yab _ (hsc _) ?_|fail)|refine zab [] ?_|fail)));all_goals (conv=>whnf)
    exact ya1 (by simp [below,zac,bk0,Bk.cells]) (by simp only [bk0,Bk.cells];(repeat' (first|exact trivial|refine ybz ?_ ?_|exact yae _|exact wk_sl _ _ _|exact wk_sx _ _|exact zbp|refine zbs ?_|refine zby ?_|fail));done)
theorem zbw (n:Nat) (e:Int):below n (.tup [.agg bk0.cells,.int .i64 e]):=by simp [below,zac,bk0,Bk.cells]
theorem zdy (e:Int):Wk (.tup [.agg [.nils,.nils],.int .i64 e]) (.tup [.agg bk0.cells,.int .i64 e]):=by
 simp only [bk0,Bk.cells]
 (repeat' (first|exact trivial|refine ybz ?_ ?_|exact yae _|exact wk_sl _ _ _|exact wk_sx _ _|exact zbp|refine zbs ?_|refine zby ?_|fail));done
theorem publish_no (b:Bk) (hb:b.Sm) (ex:ByteArray) (v:Ver) (hi:pubIn b ex v=true) (e:Int) (he:e=380∨e=5) (hE:pubE b ex v=e) (H:Heap):VDet Tryz.prog 21 [.agg b.cells,.str ex,.agg v.cells] H (.tup [.agg bk0.cells,.int .i64 e]):=by
 have hva:=fun H=>zcp b hb H
 have hsc:=fun H=>zdi v.sch H
 have hse:=fun H=>series_c b hb.ser ex H
 have hcb:b.cells=[.sl none b.ser.length (b.ser.flatMap Ser.cells),.sl none b.ent.length (b.ent.flatMap Ent.cells)]:=rfl
 unfold pubE at hE
 rw [hi] at hE
 simp only [if_true] at hE
 unfold pubIn at hi
 simp only [yak] at hi
 obtain ⟨hV,hN,hD,hS⟩:=hi
 have hvb:=validF_iff.1 hV
 rw [hV] at hva
 rw [hS] at hsc
 have hns:=hvb.ns
 have hv20:((serF b ex).getD ser0).vers.length≤20:=by
  cases hs:serF b ex with
  | none=>exact yah _
  | some s=>exact (hvb.vs s (zc7 hs).1).le
 have hser:(serF b ex).isSome=true→1≤((serF b ex).getD ser0).vers.length:=fun h=>by
  obtain ⟨s,hs⟩:=ycs.1 h
  rw [hs]
  exact (hvb.vs s (zc7 hs).1).ne
 have hnn:=hvb.ne
 unfold zfo at hE
 unfold zfn at hE
 unfold zfp at hE
 obtain ⟨nm,vs,hs1⟩:=zdz ((serF b ex).getD ser0)
 have es:=zbz hs1
 rw [hs1] at hser hE hv20
 rw [es] at hse
 simp only at hser hE hv20
 obtain ⟨at2,pts2,part2,att2,rty2,hnt2,cnt2,lates2,hv2⟩:=zcr (vs.getD (vs.length-1) ver0)
 have e2:=zbl hv2
 rw [hv2] at hE
 obtain ⟨stu,exe,day,a1,a2,a3,a4,hv3⟩:=zc2 (b.ent.getD (b.ent.length-1) ent0)
 have e3:=zbn hv3
 rw [hv3] at hE
 obtain ⟨at_,pts,part,att,rty,hnt,cnt,lates,hv1⟩:=zcr v
 rw [hv1] at hsc hE hD
 rw [zbl hv1]
 unfold Sch.cells at hsc
 simp only at hsc hE hD
 rw [hcb] at hva ⊢
 cases hF:(serF b ex).isSome <;> rw [hF] at hse hE hser
 ·have hv0:vs=[]:=by
    have:serF b ex=none:=by simpa using hF
    rw [this] at hs1
    cases hs1
    rfl
  subst hv0
  by_cases hP:0<b.ent.length
  ·by_cases hQ:at_≤day
   ·have:e=380:=by simpa [hP,hQ] using hE.symm
    subst this
    refine zap Tryz.E0 zad Tryz.func21 (by kernel_rfl) rfl (ybv rfl) rfl fun hcl hbl=>?_
    (repeat' ((conv=>whnf);(first|(refine yai ?_;first|refine yas ?_|refine yaq rfl ?_|refine yau rfl ?_|refine yar (by omega) ?_|refine yaq (by assumption) ?_|fail)|(refine zbi _ _ Cst.h Cst.h ?_ ?_;· omega)|(refine yaf ?_ ?_;· first|kernel_rfl|omega|exact yaa _ _|(simp;done)|(simp;omega)|exact trivial|assumption|fail)|(refine ybi ?_;first|refine yab _ (hva _) ?_|refine yab _ (zbo _ _) ?_|refine yab _ (zbh _ _) ?_|refine yab _ (hsc _) ?_|refine yab _ (hse _) ?_|fail)|refine zai ent0 (b.ent.length-1) (by omega) (by omega) za0 e3 ?_|refine zab [] ?_|fail)));all_goals (conv=>whnf)
    exact ya1 (zbw _ _) (zdy _)
   ·have h5:40≤b.ser.length∧e=5:=by
      by_cases h:40≤b.ser.length <;> simp [hP,hQ,h] at hE <;> omega
    obtain ⟨h5,rfl⟩:=h5
    refine zap Tryz.E0 zad Tryz.func21 (by kernel_rfl) rfl (ybv rfl) rfl fun hcl hbl=>?_
    (repeat' ((conv=>whnf);(first|(refine yai ?_;first|refine yas ?_|refine yaq rfl ?_|refine yau rfl ?_|refine yar (by omega) ?_|refine zat (by omega) ?_|refine yaq (by assumption) ?_|fail)|(refine zbi _ _ Cst.h Cst.h ?_ ?_;· omega)|(refine yaf ?_ ?_;· first|kernel_rfl|omega|exact yaa _ _|(simp;done)|(simp;omega)|exact trivial|assumption|fail)|(refine ybi ?_;first|refine yab _ (hva _) ?_|refine yab _ (zbo _ _) ?_|refine yab _ (zbh _ _) ?_|refine yab _ (hsc _) ?_|refine yab _ (hse _) ?_|fail)|refine zai ent0 (b.ent.length-1) (by omega) (by omega) za0 e3 ?_|refine zab [] ?_|fail)));all_goals (conv=>whnf)
    exact ya1 (zbw _ _) (zdy _)
  ·have h5:40≤b.ser.length∧e=5:=by
     by_cases h:40≤b.ser.length <;> simp [hP,h] at hE <;> omega
   obtain ⟨h5,rfl⟩:=h5
   refine zap Tryz.E0 zad Tryz.func21 (by kernel_rfl) rfl (ybv rfl) rfl fun hcl hbl=>?_
   (repeat' ((conv=>whnf);(first|(refine yai ?_;first|refine yas ?_|refine yaq rfl ?_|refine yau rfl ?_|refine yar (by omega) ?_|refine zat (by omega) ?_|refine yaq (by assumption) ?_|fail)|(refine yaf ?_ ?_;· first|kernel_rfl|omega|exact yaa _ _|(simp;done)|(simp;omega)|exact trivial|assumption|fail)|(refine ybi ?_;first|refine yab _ (hva _) ?_|refine yab _ (zbo _ _) ?_|refine yab _ (zbh _ _) ?_|refine yab _ (hsc _) ?_|refine yab _ (hse _) ?_|fail)|refine zab [] ?_|fail)));all_goals (conv=>whnf)
   exact ya1 (zbw _ _) (zdy _)
 ·have hpos:=hser rfl
  by_cases hL:at_≤at2
  ·have:e=380:=by simpa [hL] using hE.symm
   subst this
   refine zap Tryz.E0 zad Tryz.func21 (by kernel_rfl) rfl (ybv rfl) rfl fun hcl hbl=>?_
   (repeat' ((conv=>whnf);(first|(refine yai ?_;first|refine yas ?_|refine yaq rfl ?_|refine yar (by omega) ?_|refine yaq (by assumption) ?_|fail)|(refine zbi _ _ Cst.h Cst.h ?_ ?_;· omega)|(refine yaf ?_ ?_;· first|kernel_rfl|omega|exact yaa _ _|(simp;done)|(simp;omega)|exact trivial|assumption|fail)|(refine ybi ?_;first|refine yab _ (hva _) ?_|refine yab _ (zbo _ _) ?_|refine yab _ (zbh _ _) ?_|refine yab _ (hsc _) ?_|refine yab _ (hse _) ?_|fail)|refine zai ver0 (vs.length-1) (by omega) (by omega) zbf e2 ?_|refine zab [] ?_|fail)));all_goals (conv=>whnf)
   exact ya1 (zbw _ _) (zdy _)
  ·by_cases hP:0<b.ent.length
   ·by_cases hQ:at_≤day
    ·have:e=380:=by simpa [hL,hP,hQ] using hE.symm
     subst this
     refine zap Tryz.E0 zad Tryz.func21 (by kernel_rfl) rfl (ybv rfl) rfl fun hcl hbl=>?_
     (repeat' ((conv=>whnf);(first|(refine yai ?_;first|refine yas ?_|refine yaq rfl ?_|refine yar (by omega) ?_|refine zat (by omega) ?_|refine yaq (by assumption) ?_|fail)|(refine zbi _ _ Cst.h Cst.h ?_ ?_;· omega)|(refine yaf ?_ ?_;· first|kernel_rfl|omega|exact yaa _ _|(simp;done)|(simp;omega)|exact trivial|assumption|fail)|(refine ybi ?_;first|refine yab _ (hva _) ?_|refine yab _ (zbo _ _) ?_|refine yab _ (zbh _ _) ?_|refine yab _ (hsc _) ?_|refine yab _ (hse _) ?_|fail)|refine zai ver0 (vs.length-1) (by omega) (by omega) zbf e2 ?_|refine zai ent0 (b.ent.length-1) (by omega) (by omega) za0 e3 ?_|refine zab [] ?_|fail)));all_goals (conv=>whnf)
     exact ya1 (zbw _ _) (zdy _)
    ·have h5:20≤vs.length∧e=5:=by
       by_cases h:20≤vs.length <;> simp [hL,hP,hQ,h] at hE <;> omega
     obtain ⟨h5,rfl⟩:=h5
     refine zap Tryz.E0 zad Tryz.func21 (by kernel_rfl) rfl (ybv rfl) rfl fun hcl hbl=>?_
     (repeat' ((conv=>whnf);(first|(refine yai ?_;first|refine yas ?_|refine yaq rfl ?_|refine yar (by omega) ?_|refine zat (by omega) ?_|refine yaq (by assumption) ?_|fail)|(refine zbi _ _ Cst.h Cst.h ?_ ?_;· omega)|(refine yaf ?_ ?_;· first|kernel_rfl|omega|exact yaa _ _|(simp;done)|(simp;omega)|exact trivial|assumption|fail)|(refine ybi ?_;first|refine yab _ (hva _) ?_|refine yab _ (zbo _ _) ?_|refine yab _ (zbh _ _) ?_|refine yab _ (hsc _) ?_|refine yab _ (hse _) ?_|fail)|refine zai ver0 (vs.length-1) (by omega) (by omega) zbf e2 ?_|refine zai ent0 (b.ent.length-1) (by omega) (by omega) za0 e3 ?_|refine zab [] ?_|fail)));all_goals (conv=>whnf)
     exact ya1 (zbw _ _) (zdy _)
   ·have h5:20≤vs.length∧e=5:=by
      by_cases h:20≤vs.length <;> simp [hL,hP,h] at hE <;> omega
    obtain ⟨h5,rfl⟩:=h5
    refine zap Tryz.E0 zad Tryz.func21 (by kernel_rfl) rfl (ybv rfl) rfl fun hcl hbl=>?_
    (repeat' ((conv=>whnf);(first|(refine yai ?_;first|refine yas ?_|refine yaq rfl ?_|refine yar (by omega) ?_|refine zat (by omega) ?_|refine yaq (by assumption) ?_|fail)|(refine zbi _ _ Cst.h Cst.h ?_ ?_;· omega)|(refine yaf ?_ ?_;· first|kernel_rfl|omega|exact yaa _ _|(simp;done)|(simp;omega)|exact trivial|assumption|fail)|(refine ybi ?_;first|refine yab _ (hva _) ?_|refine yab _ (zbo _ _) ?_|refine yab _ (zbh _ _) ?_|refine yab _ (hsc _) ?_|refine yab _ (hse _) ?_|fail)|refine zai ver0 (vs.length-1) (by omega) (by omega) zbf e2 ?_|refine zab [] ?_|fail)));all_goals (conv=>whnf)
    exact ya1 (zbw _ _) (zdy _)
theorem fnd_iff (b:Bk) (hs:SrtS b.ser) (ex:ByteArray):fndF b.ser ex=(serF b ex).isSome:=by
 rw [yb5]
 unfold fndF serF
 rw [lastF_isSome,yak,decide_eq_true_eq]
 constructor
 ·rintro ⟨h1,h2⟩
  exact ⟨_,zbb ser0 h1,h2⟩
 ·rintro ⟨s,hm,he⟩
  obtain ⟨i,hi,rfl⟩:=zck ser0 hm
  have hle:posF b.ser ex≤i:=by
   rcases yag i (posF b.ser ex) with h|h
   ·have:=posF_lt h
    rw [eqS_iff.1 he,ltS_irr] at this
    cases this
   ·exact h
  rcases yag (posF b.ser ex) i with h|h
  ·have h1:=zg1 (d:=ser0) hs h hi
   rw [eqS_iff.1 he,posF_ge hs (yax _) (by omega)] at h1
   cases h1
  ·have:i=posF b.ser ex:=by omega
   subst this
   exact ⟨hi,he⟩
theorem zeo {b:Bk} (h:VB b):∀ s∈b.ser,s.vers.length≤1000000∧∀ v∈s.vers,v.sch.lates.length≤1000000:=fun s hs=>by
 have h1:=(h.vs s hs).le
 refine ⟨by omega,fun v hv=>?_⟩
 have:=(zca ((h.vs s hs).sch v hv)).2.2.2.2.2.2.1
 omega
theorem ones_ser:∀ l:List Ser,zcd (l.flatMap Ser.cells)=true
 | []=>rfl
 | s::l=>by
   have:=ones_ser l
   simpa [Ser.cells,zcd,AV.one] using this
theorem publish_new (b:Bk) (hb:b.Sm) (ex:ByteArray) (v:Ver) (hi:pubIn b ex v=true) (hE:pubE b ex v=0) (hF:(serF b ex).isSome=false) (H:Heap):VDet Tryz.prog 21 [.agg b.cells,.str ex,.agg v.cells] H (.tup [.agg (pubF b ex v).cells,.int .i64 0]):=by
 have hpf:pubF b ex v=⟨insS b.ser ex v,b.ent⟩:=if_pos hE
 rw [hpf]
 have hva:=fun H=>zcp b hb H
 have hsc:=fun H=>zdi v.sch H
 have hse:=fun H=>series_c b hb.ser ex H
 have hcb:b.cells=[.sl none b.ser.length (b.ser.flatMap Ser.cells),.sl none b.ent.length (b.ent.flatMap Ent.cells)]:=rfl
 unfold pubE at hE
 rw [hi] at hE
 simp only [if_true] at hE
 unfold pubIn at hi
 simp only [yak] at hi
 obtain ⟨hV,hN,hD,hS⟩:=hi
 have hvb:=validF_iff.1 hV
 rw [hV] at hva
 rw [hS] at hsc
 have hns:=hvb.ns
 have hv20:((serF b ex).getD ser0).vers.length≤20:=by
  cases hs:serF b ex with
  | none=>exact yah _
  | some s=>exact (hvb.vs s (zc7 hs).1).le
 have hser:(serF b ex).isSome=true→1≤((serF b ex).getD ser0).vers.length:=fun h=>by
  obtain ⟨s,hs⟩:=ycs.1 h
  rw [hs]
  exact (hvb.vs s (zc7 hs).1).ne
 have hnn:=hvb.ne
 unfold zfo at hE
 unfold zfn at hE
 unfold zfp at hE
 obtain ⟨nm,vs,hs1⟩:=zdz ((serF b ex).getD ser0)
 have es:=zbz hs1
 rw [hs1] at hser hE hv20
 rw [es] at hse
 simp only at hser hE hv20
 obtain ⟨at2,pts2,part2,att2,rty2,hnt2,cnt2,lates2,hv2⟩:=zcr (vs.getD (vs.length-1) ver0)
 have e2:=zbl hv2
 rw [hv2] at hE
 obtain ⟨stu,exe,day,a1,a2,a3,a4,hv3⟩:=zc2 (b.ent.getD (b.ent.length-1) ent0)
 have e3:=zbn hv3
 rw [hv3] at hE
 obtain ⟨at_,pts,part,att,rty,hnt,cnt,lates,hv1⟩:=zcr v
 rw [hv1] at hsc hE hD
 rw [zbl hv1]
 unfold Sch.cells at hsc
 simp only at hsc hE hD
 rw [hcb] at hva ⊢
 rw [hF] at hse hE hser
 have hfn:fndF b.ser ex=false:=by rw [fnd_iff b hvb.srt,hF]
 have hv0:vs=[]:=by
  have:serF b ex=none:=by simpa using hF
  rw [this] at hs1
  cases hs1
  rfl
 subst hv0
 have hq:(0<b.ent.length→¬ at_≤day)∧b.ser.length<40:=by
  by_cases hP:0<b.ent.length <;> by_cases hQ:at_≤day <;> by_cases h:40≤b.ser.length <;> simp [hP,hQ,h] at hE ⊢ <;> omega
 obtain ⟨hq,hlt⟩:=hq
 have hcp:=fun H=>copyBook_c b hb (by omega) (by omega) (zeo hvb) b.ser.length H
 have hbs:=fun i H (hi:H[i]? = some (.vec 69 2 (b.ser.flatMap Ser.cells)))=>bsearchW b.ser (by omega) hvb.srt ex b.ser.length 0 i H (by rw [cpyL_n];exact hi)
 rw [hfn] at hbs
 have hcp2:∀ B1 B2 B3 B4:Blk,VCall Tryz.prog 49 [.agg b.cells] (H++[B1,B2,B3,B4]) fun r H'=>r=.agg [.vs (H.length+7) b.ser.length,.sl none b.ent.length (b.ent.flatMap Ent.cells)] ∧
   H'=(H++[B1,B2,B3,B4])++[.box 25 b.cells,.box 25 [.vs (H.length+7) b.ser.length,.sl none b.ent.length (b.ent.flatMap Ent.cells)],.box 25 [.vs (H.length+7) b.ser.length,.sl none b.ent.length (b.ent.flatMap Ent.cells)],.vec 69 2 (b.ser.flatMap Ser.cells)]:=fun B1 B2 B3 B4 =>
  VCall.mono (hcp _) fun r H' ⟨hr,hH⟩=>by
   have e:(H++[B1,B2,B3,B4]).length=H.length+4:=by simp
   rw [e] at hr hH
   refine ⟨hr,hH.trans ?_⟩
   unfold cpyK cpyX
   rw [cpyL_n,if_pos (yax _)]
   rfl
 have hco:=fun H=>copyS_c ⟨pts,part,att,rty,hnt,cnt,lates⟩ (by
  have:=(zca hS).2.2.2.2.2.2.1
  rw [hv1] at this
  simp only at this ⊢
  omega) H
 have hins:=fun i H hi=>insert_c ex i b.ser.length (posF b.ser ex) (b.ser.flatMap Ser.cells) H hi (zav zaz _) (posF_le _ _) (by omega) (ones_ser _)
 have hpl:=posF_le b.ser ex
 have hil:(insL (b.ser.flatMap Ser.cells) (posF b.ser ex) ex).length=(b.ser.length+1) * 2:=by
  have:=zav zaz b.ser
  unfold insL
  rw [ya5,ya5,yce,List.length_drop,this]
  simp only [List.length_cons,List.length_nil]
  omega
 have hin:insL (b.ser.flatMap Ser.cells) (posF b.ser ex) ex≠[]:=fun h=>by rw [h] at hil;simp at hil
 have hseg:Seg (insL (b.ser.flatMap Ser.cells) (posF b.ser ex) ex) (posF b.ser ex * 2+1) (.nils::(b.ser.flatMap Ser.cells).drop (posF b.ser ex * 2)):=⟨[],by
  have h1:=zav zaz b.ser
  have h2:((b.ser.flatMap Ser.cells).take (posF b.ser ex * 2)).length=posF b.ser ex * 2:=by rw [yce];omega
  unfold insL
  rw [ybe,List.drop_append,List.drop_eq_nil_of_le (by omega),h2,show posF b.ser ex * 2+1-posF b.ser ex * 2=1 by omega]
  simp⟩
 unfold Sch.cells at hco
 simp only at hco
 rw [hcb] at hcp2
 by_cases hP:0<b.ent.length
 ·have hQ:=hq hP
  refine zap Tryz.E0 zad Tryz.func21 (by kernel_rfl) rfl (ybv rfl) rfl fun hcl hbl=>?_
  (repeat' ((conv=>whnf);(first|refine yaf ⟨⟨hil,hin⟩,by omega,by omega⟩ ?_|refine yaf hil ?_|(refine yai ?_;first|refine yas ?_|refine yaq rfl ?_|refine yau rfl ?_|refine yar (by omega) ?_|refine zat (by omega) ?_|refine yaq (by assumption) ?_|fail)|(refine zbi _ _ Cst.h Cst.h ?_ ?_;· omega)|(refine yaf ?_ ?_;· first|kernel_rfl|omega|exact yaa _ _|(simp;done)|(simp;omega)|exact trivial|assumption|fail)|(refine ybi ?_;first|refine yab _ (hva _) ?_|refine yab _ (zbo _ _) ?_|refine yab _ (zbh _ _) ?_|refine yab _ (hsc _) ?_|refine yab _ (hse _) ?_|refine yab _ (hco _) ?_|refine yab _ (hbs _ _ (zbk rfl)) ?_|fail)|refine zai ent0 (b.ent.length-1) (by omega) (by omega) za0 e3 ?_|refine ydp _ _ _ 8 (hcp2 _ _ _ _) rfl rfl rfl ?_|refine CallN.setL 7 _ _ _ rfl rfl (VCall.mono (hins (H.length+7) _ (zbk rfl)) fun r H' h=>⟨h.2,h.1⟩) rfl ?_|refine SegN.mk _ hseg ?_|refine OrN.l ?_|refine yaf ⟨by decide,rfl,rfl,by decide,by decide⟩ ?_|refine RelN.mk _ [] rfl ?_|refine yb6 _ rfl ?_|refine zab [] ?_|fail)));all_goals (conv=>whnf)
  have hsl:(setL (insL (b.ser.flatMap Ser.cells) (posF b.ser ex) ex) (posF b.ser ex * 2+1) [.sl (some (H.length+9)) 1 (Ver.mk at_ ⟨pts,part,att,rty,hnt,cnt,lates⟩).cells]).length=(b.ser.length+1) * 2:=by
   unfold setL
   rw [ya5,ya5,yce,List.length_drop,hil]
   simp only [List.length_cons,List.length_nil]
   omega
  have hpn:=put_new b.ser ex v (some (H.length+9)) hfn
  rw [zbl hv1] at hpn
  have hln:=zha b.ser ex v
  rw [hfn] at hln
  simp only [ya9,if_false] at hln
  refine ydc ?_ (Frz.tup (.cons (Frz.agg (.cons (Frz.vs (j:=7) (sz:=2) rfl hsl (yda _)) (.cons (.refl _) .nil))) (.cons (.refl _) .nil))) ?_
  ·simp [below,zac,Bk.cells,zae,zag]
  ·unfold Bk.cells
   simp only
   rw [hln]
   exact zby ⟨zbs ⟨wk_slL hpn,yae _,trivial⟩,yae _,trivial⟩
 ·refine zap Tryz.E0 zad Tryz.func21 (by kernel_rfl) rfl (ybv rfl) rfl fun hcl hbl=>?_
  (repeat' ((conv=>whnf);(first|refine yaf ⟨⟨hil,hin⟩,by omega,by omega⟩ ?_|refine yaf hil ?_|(refine yai ?_;first|refine yas ?_|refine yaq rfl ?_|refine yau rfl ?_|refine zat (by omega) ?_|refine yaq (by assumption) ?_|fail)|(refine yaf ?_ ?_;· first|kernel_rfl|omega|exact yaa _ _|(simp;done)|(simp;omega)|exact trivial|assumption|fail)|(refine ybi ?_;first|refine yab _ (hva _) ?_|refine yab _ (zbo _ _) ?_|refine yab _ (zbh _ _) ?_|refine yab _ (hsc _) ?_|refine yab _ (hse _) ?_|refine yab _ (hco _) ?_|refine yab _ (hbs _ _ (zbk rfl)) ?_|fail)|refine ydp _ _ _ 8 (hcp2 _ _ _ _) rfl rfl rfl ?_|refine CallN.setL 7 _ _ _ rfl rfl (VCall.mono (hins (H.length+7) _ (zbk rfl)) fun r H' h=>⟨h.2,h.1⟩) rfl ?_|refine SegN.mk _ hseg ?_|refine OrN.l ?_|refine yaf ⟨by decide,rfl,rfl,by decide,by decide⟩ ?_|refine RelN.mk _ [] rfl ?_|refine yb6 _ rfl ?_|refine zab [] ?_|fail)));all_goals (conv=>whnf)
  have hsl:(setL (insL (b.ser.flatMap Ser.cells) (posF b.ser ex) ex) (posF b.ser ex * 2+1) [.sl (some (H.length+9)) 1 (Ver.mk at_ ⟨pts,part,att,rty,hnt,cnt,lates⟩).cells]).length=(b.ser.length+1) * 2:=by
   unfold setL
   rw [ya5,ya5,yce,List.length_drop,hil]
   simp only [List.length_cons,List.length_nil]
   omega
  have hpn:=put_new b.ser ex v (some (H.length+9)) hfn
  rw [zbl hv1] at hpn
  have hln:=zha b.ser ex v
  rw [hfn] at hln
  simp only [ya9,if_false] at hln
  refine ydc ?_ (Frz.tup (.cons (Frz.agg (.cons (Frz.vs (j:=7) (sz:=2) rfl hsl (yda _)) (.cons (.refl _) .nil))) (.cons (.refl _) .nil))) ?_
  ·simp [below,zac,Bk.cells,zae,zag]
  ·unfold Bk.cells
   simp only
   rw [hln]
   exact zby ⟨zbs ⟨wk_slL hpn,yae _,trivial⟩,yae _,trivial⟩
theorem publish_old (b:Bk) (hb:b.Sm) (ex:ByteArray) (v:Ver) (hi:pubIn b ex v=true) (hE:pubE b ex v=0) (hF:(serF b ex).isSome=true) (H:Heap):VDet Tryz.prog 21 [.agg b.cells,.str ex,.agg v.cells] H (.tup [.agg (pubF b ex v).cells,.int .i64 0]):=by
 have hpf:pubF b ex v=⟨insS b.ser ex v,b.ent⟩:=if_pos hE
 rw [hpf]
 have hva:=fun H=>zcp b hb H
 have hsc:=fun H=>zdi v.sch H
 have hse:=fun H=>series_c b hb.ser ex H
 have hcb:b.cells=[.sl none b.ser.length (b.ser.flatMap Ser.cells),.sl none b.ent.length (b.ent.flatMap Ent.cells)]:=rfl
 unfold pubE at hE
 rw [hi] at hE
 simp only [if_true] at hE
 unfold pubIn at hi
 simp only [yak] at hi
 obtain ⟨hV,hN,hD,hS⟩:=hi
 have hvb:=validF_iff.1 hV
 rw [hV] at hva
 rw [hS] at hsc
 have hns:=hvb.ns
 have hv20:((serF b ex).getD ser0).vers.length≤20:=by
  cases hs:serF b ex with
  | none=>exact yah _
  | some s=>exact (hvb.vs s (zc7 hs).1).le
 have hser:(serF b ex).isSome=true→1≤((serF b ex).getD ser0).vers.length:=fun h=>by
  obtain ⟨s,hs⟩:=ycs.1 h
  rw [hs]
  exact (hvb.vs s (zc7 hs).1).ne
 have hnn:=hvb.ne
 unfold zfo at hE
 unfold zfn at hE
 unfold zfp at hE
 obtain ⟨nm,vs,hs1⟩:=zdz ((serF b ex).getD ser0)
 have es:=zbz hs1
 rw [hs1] at hser hE hv20
 rw [es] at hse
 simp only at hser hE hv20
 obtain ⟨at2,pts2,part2,att2,rty2,hnt2,cnt2,lates2,hv2⟩:=zcr (vs.getD (vs.length-1) ver0)
 have e2:=zbl hv2
 rw [hv2] at hE
 obtain ⟨stu,exe,day,a1,a2,a3,a4,hv3⟩:=zc2 (b.ent.getD (b.ent.length-1) ent0)
 have e3:=zbn hv3
 rw [hv3] at hE
 obtain ⟨at_,pts,part,att,rty,hnt,cnt,lates,hv1⟩:=zcr v
 rw [hv1] at hsc hE hD
 rw [zbl hv1]
 unfold Sch.cells at hsc
 simp only at hsc hE hD
 rw [hcb] at hva ⊢
 rw [hF] at hse hE hser
 have hpos:=hser rfl
 have hfn:fndF b.ser ex=true:=by rw [fnd_iff b hvb.srt,hF]
 have hpq:posF b.ser ex<b.ser.length:=by
  unfold fndF at hfn
  simp only [yak,decide_eq_true_eq] at hfn
  exact hfn.1
 have hq:(0<b.ent.length→¬ at_≤day)∧vs.length<20∧¬ at_≤at2:=by
  by_cases hL:at_≤at2 <;> by_cases hP:0<b.ent.length <;> by_cases hQ:at_≤day <;> by_cases h:20≤vs.length <;> simp [hL,hP,hQ,h] at hE ⊢ <;> omega
 obtain ⟨hq,hlt,hL⟩:=hq
 have hcp:=fun H=>copyBook_c b hb (by omega) (by omega) (zeo hvb) (posF b.ser ex) H
 have hbs:=fun t i H (hi:H[i]? = some (.vec 69 2 (cpyL b.ser (posF b.ser ex) t b.ser.length)))=>bsearchW b.ser (by omega) hvb.srt ex (posF b.ser ex) t i H hi
 rw [hfn] at hbs
 have hpf2:=fun t=>put_found b.ser ex v t hfn
 rw [zbl hv1] at hpf2
 have hb20:=(hvb.vs _ (zbb ser0 hpq)).le
 have hcyl:=fun t=>cpyL_len (l:=b.ser) (q:=posF b.ser ex) (t:=t) (yax _)
 have hcne:∀ t,cpyL b.ser (posF b.ser ex) t b.ser.length≠[]:=fun t h=>by
  have:=hcyl t
  rw [h] at this
  simp at this
  omega
 have hseg:∀ t,Seg (cpyL b.ser (posF b.ser ex) t b.ser.length) (posF b.ser ex * 2+1) (.sl (some t) (b.ser.getD (posF b.ser ex) ser0).vers.length ((b.ser.getD (posF b.ser ex) ser0).vers.flatMap Ver.cells)::(b.ser.drop (posF b.ser ex+1)).flatMap Ser.cells):=fun t=>⟨[],by
  have h2:((b.ser.take (posF b.ser ex)).flatMap Ser.cells).length=posF b.ser ex * 2:=by rw [zav zaz,yce];omega
  rw [cpyL_q hpq,List.drop_append,List.drop_eq_nil_of_le (by omega),h2,show posF b.ser ex * 2+1-posF b.ser ex * 2=1 by omega]
  simp⟩
 have hcp2:∀ B1 B2 B3 B4:Blk,VCall Tryz.prog 49 [.agg b.cells] (H++[B1,B2,B3,B4]) fun r H'=>r=.agg [.vs (H.length+7) b.ser.length,.sl none b.ent.length (b.ent.flatMap Ent.cells)] ∧
   H'=(H++[B1,B2,B3,B4])++[.box 25 b.cells,.box 25 [.vs (H.length+7) b.ser.length,.sl none b.ent.length (b.ent.flatMap Ent.cells)],.box 25 [.vs (H.length+7) b.ser.length,.sl none b.ent.length (b.ent.flatMap Ent.cells)],.vec 69 2 (cpyL b.ser (posF b.ser ex) (H.length+10) b.ser.length),
    .box 69 (b.ser.getD (posF b.ser ex) ser0).cells,.box 69 (chC b.ser (posF b.ser ex) (H.length+10)),.tok 71 8 ((b.ser.getD (posF b.ser ex) ser0).vers.length * 8)]:=fun B1 B2 B3 B4 =>
  VCall.mono (hcp _) fun r H' ⟨hr,hH⟩=>by
   have e:(H++[B1,B2,B3,B4]).length=H.length+4:=by simp
   rw [e] at hr hH
   refine ⟨hr,hH.trans ?_⟩
   unfold cpyK cpyX
   rw [if_neg (by omega)]
   rfl
 have hco:=fun H=>copyS_c ⟨pts,part,att,rty,hnt,cnt,lates⟩ (by
  have:=(zca hS).2.2.2.2.2.2.1
  rw [hv1] at this
  simp only at this ⊢
  omega) H
 unfold Sch.cells at hco
 simp only at hco
 have hch:∀ t,chC b.ser (posF b.ser ex) t=[.str (b.ser.getD (posF b.ser ex) ser0).name,.sl (some t) (b.ser.getD (posF b.ser ex) ser0).vers.length ((b.ser.getD (posF b.ser ex) ser0).vers.flatMap Ver.cells)]:=fun t=>rfl
 have hsc2:(b.ser.getD (posF b.ser ex) ser0).cells=[.str (b.ser.getD (posF b.ser ex) ser0).name,.sl none (b.ser.getD (posF b.ser ex) ser0).vers.length ((b.ser.getD (posF b.ser ex) ser0).vers.flatMap Ver.cells)]:=rfl
 simp only [hch,hsc2] at hcp2
 rw [hcb] at hcp2
 have hvl:=zav zbf (b.ser.getD (posF b.ser ex) ser0).vers
 generalize (b.ser.getD (posF b.ser ex) ser0).name=onm at *
 generalize (b.ser.getD (posF b.ser ex) ser0).vers.length=m at *
 generalize (b.ser.getD (posF b.ser ex) ser0).vers.flatMap Ver.cells=vc at *
 have hcy10:=hcyl (H.length+10)
 have hbt:(m+1) * 80≤140737488355328:=by omega
 have hmx:m+1≤maxLen:=ybg (show m+1≤1000001 by omega) (by decide)
 by_cases hP:0<b.ent.length
 ·have hQ:=hq hP
  refine zap Tryz.E0 zad Tryz.func21 (by kernel_rfl) rfl (ybv rfl) rfl fun hcl hbl=>?_
  (repeat' ((conv=>whnf);(first|refine yaf ⟨⟨hcyl _,hcne _⟩,by omega,by omega⟩ ?_|refine yaf (hcyl _) ?_|refine yaf ⟨hvl.symm,rfl,rfl,hbt,hmx⟩ ?_|(refine yai ?_;first|refine yas ?_|refine yaq rfl ?_|refine yar (by omega) ?_|refine zat (by omega) ?_|refine yaq (by assumption) ?_|fail)|(refine zbi _ _ Cst.h Cst.h ?_ ?_;· omega)|(refine yaf ?_ ?_;· first|kernel_rfl|omega|exact yaa _ _|(simp;done)|(simp;omega)|exact trivial|assumption|fail)|(refine ybi ?_;first|refine yab _ (hva _) ?_|refine yab _ (zbo _ _) ?_|refine yab _ (zbh _ _) ?_|refine yab _ (hsc _) ?_|refine yab _ (hse _) ?_|refine yab _ (hco _) ?_|refine yab _ (hbs _ _ _ (zbk rfl)) ?_|fail)|refine zai ver0 (vs.length-1) (by omega) (by omega) zbf e2 ?_|refine zai ent0 (b.ent.length-1) (by omega) (by omega) za0 e3 ?_|refine ydp _ _ _ 11 (hcp2 _ _ _ _) rfl rfl rfl ?_|refine SegN.mk _ (hseg _) ?_|refine RelN.mk _ [] rfl ?_|refine yb6 _ rfl ?_|refine zab [] ?_|fail)));all_goals (conv=>whnf)
  have hsl:(setL (cpyL b.ser (posF b.ser ex) (H.length+10) b.ser.length) (posF b.ser ex * 2+1) [.sl (some (H.length+10)) (m+1) (vc++(Ver.mk at_ ⟨pts,part,att,rty,hnt,cnt,lates⟩).cells)]).length=b.ser.length * 2:=by
   unfold setL
   rw [ya5,ya5,yce,List.length_drop,hcyl]
   simp only [List.length_cons,List.length_nil]
   omega
  have hln:=zha b.ser ex v
  rw [hfn] at hln
  simp only [if_true] at hln
  refine ydc ?_ (Frz.tup (.cons (Frz.agg (.cons (Frz.vs (j:=7) (sz:=2) rfl hsl (yda _)) (.cons (.refl _) .nil))) (.cons (.refl _) .nil))) ?_
  ·simp [below,zac,Bk.cells,zae,zag]
  ·unfold Bk.cells
   simp only
   rw [hln]
   exact zby ⟨zbs ⟨wk_slL (hpf2 _),yae _,trivial⟩,yae _,trivial⟩
 ·refine zap Tryz.E0 zad Tryz.func21 (by kernel_rfl) rfl (ybv rfl) rfl fun hcl hbl=>?_
  (repeat' ((conv=>whnf);(first|refine yaf ⟨⟨hcyl _,hcne _⟩,by omega,by omega⟩ ?_|refine yaf (hcyl _) ?_|refine yaf ⟨hvl.symm,rfl,rfl,hbt,hmx⟩ ?_|(refine yai ?_;first|refine yas ?_|refine yaq rfl ?_|refine zat (by omega) ?_|refine yaq (by assumption) ?_|fail)|(refine zbi _ _ Cst.h Cst.h ?_ ?_;· omega)|(refine yaf ?_ ?_;· first|kernel_rfl|omega|exact yaa _ _|(simp;done)|(simp;omega)|exact trivial|assumption|fail)|(refine ybi ?_;first|refine yab _ (hva _) ?_|refine yab _ (zbo _ _) ?_|refine yab _ (zbh _ _) ?_|refine yab _ (hsc _) ?_|refine yab _ (hse _) ?_|refine yab _ (hco _) ?_|refine yab _ (hbs _ _ _ (zbk rfl)) ?_|fail)|refine zai ver0 (vs.length-1) (by omega) (by omega) zbf e2 ?_|refine ydp _ _ _ 11 (hcp2 _ _ _ _) rfl rfl rfl ?_|refine SegN.mk _ (hseg _) ?_|refine RelN.mk _ [] rfl ?_|refine yb6 _ rfl ?_|refine zab [] ?_|fail)));all_goals (conv=>whnf)
  have hsl:(setL (cpyL b.ser (posF b.ser ex) (H.length+10) b.ser.length) (posF b.ser ex * 2+1) [.sl (some (H.length+10)) (m+1) (vc++(Ver.mk at_ ⟨pts,part,att,rty,hnt,cnt,lates⟩).cells)]).length=b.ser.length * 2:=by
   unfold setL
   rw [ya5,ya5,yce,List.length_drop,hcyl]
   simp only [List.length_cons,List.length_nil]
   omega
  have hln:=zha b.ser ex v
  rw [hfn] at hln
  simp only [if_true] at hln
  refine ydc ?_ (Frz.tup (.cons (Frz.agg (.cons (Frz.vs (j:=7) (sz:=2) rfl hsl (yda _)) (.cons (.refl _) .nil))) (.cons (.refl _) .nil))) ?_
  ·simp [below,zac,Bk.cells,zae,zag]
  ·unfold Bk.cells
   simp only
   rw [hln]
   exact zby ⟨zbs ⟨wk_slL (hpf2 _),yae _,trivial⟩,yae _,trivial⟩
theorem zg2 (b:Bk) (hb:b.Sm) (ex:ByteArray) (v:Ver) (H:Heap):VDet Tryz.prog 21 [.agg b.cells,.str ex,.agg v.cells] H (.tup [.agg (pubF b ex v).cells,.int .i64 (pubE b ex v)]):=by
 cases hi:pubIn b ex v with
 | false =>
   have hE:pubE b ex v=2:=by unfold pubE;rw [hi];rfl
   unfold pubF
   rw [hE]
   exact publish_in b hb ex v hi H
 | true =>
   by_cases h0:pubE b ex v=0
   ·rw [h0]
    cases hF:(serF b ex).isSome with
    | false=>exact publish_new b hb ex v hi h0 hF H
    | true=>exact publish_old b hb ex v hi h0 hF H
   ·have he:pubE b ex v=380∨pubE b ex v=5:=by
      unfold pubE at h0 ⊢
      rw [hi] at h0 ⊢
      simp only [if_true] at h0 ⊢
      cases h1:zfo b ex v <;> cases h2:zfn b v <;> cases h3:zfp b ex <;> simp [h1,h2,h3] at h0 ⊢
    unfold pubF
    rw [if_neg h0]
    exact publish_no b hb ex v hi _ he rfl H
def cyLA (b:Bk) (n0 k:Nat) (r:List AV):Heap:=[.box 25 b.cells,.box 25 r,.box 25 [.vs (n0+3) k,.sx 0 []],.vec 69 2 ((b.ser.take k).flatMap Ser.cells)]
theorem cyLA_below (b:Bk) (n0 k:Nat):za5 (n0+(cyLA b n0 k [.nils,.nils]).length) (cyLA b n0 k [.nils,.nils]):=by
 simp [cyLA,za5,Blk.below,zac,below,Bk.cells,zae,zag]
theorem cyLA_set (H:Heap) (b:Bk) (k:Nat) (r:List AV) (V B:Blk):((H++cyLA b H.length k r).set (H.length+3) V).set (H.length+(0+1+1)) B=H++[.box 25 b.cells,.box 25 r,B,V]:=by
 unfold cyLA
 rw [zb8,zb8]
 rfl
theorem copyBookA_c (b:Bk) (hs:b.ser.length≤1000) (he:b.ent.length≤1000000) (h0:b.ent=[]) (hv:∀ s∈b.ser,s.vers.length≤1000000∧∀ v∈s.vers,v.sch.lates.length≤1000000) (H:Heap):VCall Tryz.prog 49 [.agg b.cells] H fun r H'=>r=.agg [.vs (H.length+3) b.ser.length,.sx 0 []]∧H'=H++cyLA b H.length b.ser.length [.vs (H.length+3) b.ser.length,.sx 0 []]:=by
 have hcl67:=fun H=>clone67_0 H
 have hcb:b.cells=[.sl none b.ser.length (b.ser.flatMap Ser.cells),.sl none b.ent.length (b.ent.flatMap Ent.cells)]:=rfl
 have hL0:([.box 25 [.sl none b.ser.length (b.ser.flatMap Ser.cells),.sl none ([]:List Ent).length (([]:List Ent).flatMap Ent.cells)],.box 25 [.nils,.nils],.box 25 [.vs (H.length+3) 0,.sx 0 []],.vec 69 2 []]:Heap)=cyLA b H.length 0 [.nils,.nils]:=by unfold cyLA;rw [hcb,h0];rfl
 refine zfe Tryz.E0 zad Tryz.func49 (by kernel_rfl) rfl (ybv rfl) rfl fun hcl hbl=>?_
 rw [hcb]
 rw [h0]
 (repeat' ((conv=>whnf);(first|refine yab _ (hcl67 _) ?_|refine zab [] ?_|fail)));all_goals (conv=>whnf)
 refine LoopN.vecB 2 0 69 2 rfl rfl rfl rfl rfl rfl ?_
 refine loop_X Tryz.E0 zad (σ:=Nat) (fun k=>k≤b.ser.length) (fun k=>b.ser.length-k) (fun k=>[(16,.v (.int .i64 k))]) (fun k=>cyLA b H.length k [.nils,.nils]) _ 0 rfl hcl [2,3,14,15] rfl (yah _) ⟨⟨_,rfl,yae _⟩,trivial⟩ hL0 (fun s _=>by simp [cyLA]) ?_
 intro k hk
 rcases yag k b.ser.length with hlt|hge
 ·have htk:=take_snoc b.ser ser0 k hlt
  have hns1:(b.ser.take (k+1)).flatMap Ser.cells=(b.ser.take k).flatMap Ser.cells++(b.ser.getD k ser0).cells:=by
   rw [htk,ybt]
   simp
  obtain ⟨nm,vs,hv1⟩:=zdz (b.ser.getD k ser0)
  have e1:=zbz hv1
  rw [e1] at hns1
  have hvb:=hv _ (zbb ser0 hlt)
  rw [hv1] at hvb
  simp only at hvb
  obtain ⟨hvl,hlat⟩:=hvb
  obtain ⟨NL,hNL⟩:∃ NL,(cyLA b H.length k [.nils,.nils]).length=NL:=⟨_,rfl⟩
  rw [hNL]
  have hm3:(H++cyLA b H.length k [.nils,.nils])[H.length+3]? = some (.vec 69 2 ((b.ser.take k).flatMap Ser.cells)):=zbk rfl
  have hm2:(H++cyLA b H.length k [.nils,.nils])[H.length+2]? = some (.box 25 [.vs (H.length+3) k,.sx 0 []]):=zbk rfl
  have hm2b:∀ M,((H++cyLA b H.length k [.nils,.nils]).set (H.length+3) M)[H.length+2]? = some (.box 25 [.vs (H.length+3) k,.sx 0 []]):=fun M=>by
   rw [ydb (by omega),hm2]
  have hbt:(k+1) * 40≤140737488355328:=by omega
  have hmx:k+1≤maxLen:=ybg (show k+1≤1000001 by omega) (by decide)
  have hcln:((b.ser.take k).flatMap Ser.cells).length=k * 2:=by rw [zav zaz,yce,ycd hk]
  (repeat' ((conv=>whnf);(first|refine yar (by omega) ?_|(refine yaf ?_ ?_;· first|kernel_rfl|omega|exact yaa _ _|(simp;done)|(simp;omega)|exact trivial|assumption|fail)|refine zai ser0 k rfl (by omega) zaz e1 ?_|refine zab [] ?_|fail)));all_goals (conv=>whnf)
  refine LoopN.tokB 1 1 71 8 (by rw [ya5,hNL]) rfl rfl rfl rfl rfl ?_
  refine zbg Tryz.E0 zad (σ:=Nat) (fun i=>i≤vs.length) (fun i=>vs.length-i) (fun i=>[(26,.v (.int .i64 i))]) (fun i=>[.box 69 [.str nm,.sl none vs.length (vs.flatMap Ver.cells)],.box 69 [.str nm,.sl (some (H.length+NL+2)) i ((vs.take i).flatMap Ver.cells)],.tok 71 8 ((vs.take i).flatMap Ver.cells).length]) _ 0 (by rw [ya5,hNL]) (zex hcl fun B hB=>by
   rw [ya5]
   exact zc9 (cyLA_below b H.length k) B hB) [2,3,5,6,14,15,16,24,25] rfl (yah _) ⟨⟨_,rfl,yae _⟩,trivial⟩ rfl (fun _ _=>rfl) ?_
  intro i hi
  rcases yag i vs.length with hil|hige
  ·have hvt:=take_snoc vs ver0 i hil
   obtain ⟨at_,pts,part,att,rty,hnt,cnt,lates,hv2⟩:=zcr (vs.getD i ver0)
   have e2:=zbl hv2
   have hns:(vs.take (i+1)).flatMap Ver.cells=(vs.take i).flatMap Ver.cells++(vs.getD i ver0).cells:=by
    rw [hvt,ybt]
    simp
   rw [e2] at hns
   have hco:=fun H=>copyS_c ⟨pts,part,att,rty,hnt,cnt,lates⟩ (by
    have:=hlat _ (zbb ver0 hil)
    rw [hv2] at this
    exact this) H
   unfold Sch.cells at hco
   simp only at hco
   have hbt:(i+1) * 80≤140737488355328:=by omega
   have hmx:i+1≤maxLen:=ybg (show i+1≤1000001 by omega) (by decide)
   have hml:((vs.take i).flatMap Ver.cells).length=i * 8:=by rw [zav zbf,yce,ycd hi]
   (repeat' ((conv=>whnf);(first|refine yar (by omega) ?_|(refine zao _ _ Cst.h Cst.h ?_ ?_;· omega)|(refine yaf ?_ ?_;· first|kernel_rfl|omega|exact yaa _ _|(simp;done)|(simp;omega)|exact trivial|assumption|fail)|refine yan _ (fun _ hq X=>hco _) ?_|refine zai ver0 i rfl (by omega) zbf e2 ?_|refine yaf ⟨rfl,rfl,rfl,hbt,hmx⟩ ?_|refine yb6 _ rfl ?_|refine zab [] ?_|fail)));all_goals (conv=>whnf)
   rw [← hns]
   (refine ⟨⟨i+1,by show i+1≤_;omega,by omega,?_,.inl ⟨rfl,rfl⟩,rfl,_,rfl,?_⟩⟩;rotate_left 1;(first|exact .inl rfl|exact .inr ⟨by simp [zau,below,zac,tr,zae,zah,zag,zam,zak,zal,zaf,za8,za7,zan],by simp [za5,Blk.below,zac,below,zae,zah,zag,zam,zak,zal,zaf,za8,za7,zan]⟩|fail);(repeat' (first|exact trivial|refine ⟨⟨_,rfl,?_⟩,?_⟩|fail));all_goals try (first|exact yae _|exact Wk.of_eq (congrArg (AV.int _) (by omega))|fail))
  ·have hie:i=vs.length:=by omega
   subst hie
   rw [ya2]
   (repeat' ((conv=>whnf);(first|refine zat (by omega) ?_|(refine zao _ _ Cst.h Cst.h ?_ ?_;· omega)|refine SetN.mk _ rfl ?_|refine yb9 _ hm2 ?_|refine yb9 _ hm3 ?_|refine yb9 _ (hm2b _) ?_|refine yaf ⟨hcln,rfl,rfl,hbt,hmx⟩ ?_|refine zab [] ?_|fail)));all_goals (conv=>whnf)
   rw [cyLA_set]
   refine ⟨⟨k+1,by show k+1≤_;omega,by show b.ser.length-(k+1)<b.ser.length-k;omega,⟨⟨_,rfl,yae _⟩,trivial⟩,.inr ⟨⟨_,rfl,yae _⟩,⟨_,rfl,yae _⟩,⟨_,rfl,yae _⟩,⟨_,rfl,yae _⟩,trivial⟩,_,.app (.app (.refl H) ?_) (.refl _),.inr ⟨by simp [zau,below,tr],cyLA_below b H.length (k+1)⟩⟩⟩
   simp only [cyLA]
   rw [hns1]
   exact .cons (.refl _) (.cons (.refl _) (.cons (.refl _) (.cons (.vec (.app (.id _) ⟨yae _,wk_sl _ _ _,trivial⟩)) .nil)))
 ·have hkn:k=b.ser.length:=by omega
  subst hkn
  (repeat' ((conv=>whnf);(first|refine zat (by omega) ?_|refine zab [] ?_|fail)));all_goals (conv=>whnf)
  refine zhm _ [(2,.lp 1 0),(3,.lp 2 0),(14,.v (.sl none b.ser.length (b.ser.flatMap Ser.cells))),(15,.v (.int .i64 b.ser.length))] rfl rfl rfl ?_
  (repeat' ((conv=>whnf);(first|refine zab [] ?_|fail)));all_goals (conv=>whnf)
  refine .keep _ (.refl _) ⟨rfl,?_⟩
  simp [cyLA,List.set]
def cyLB (b:Bk) (n0 k:Nat) (r:List AV):Heap:=[.box 25 b.cells,.box 25 r,.tok 80 7 (b.ent.length * 7),.box 25 [.vs (n0+4) k,.sl (some (n0+2)) b.ent.length (b.ent.flatMap Ent.cells)],.vec 69 2 ((b.ser.take k).flatMap Ser.cells)]
theorem cyLB_below (b:Bk) (n0 k:Nat):za5 (n0+(cyLB b n0 k [.nils,.nils]).length) (cyLB b n0 k [.nils,.nils]):=by
 simp [cyLB,za5,Blk.below,zac,below,Bk.cells,zae,zag]
theorem cyLB_set (H:Heap) (b:Bk) (k:Nat) (r:List AV) (V B:Blk):((H++cyLB b H.length k r).set (H.length+4) V).set (H.length+(0+1+1+1)) B=H++[.box 25 b.cells,.box 25 r,.tok 80 7 (b.ent.length * 7),B,V]:=by
 unfold cyLB
 rw [zb8,zb8]
 rfl
theorem copyBookB_c (b:Bk) (hs:b.ser.length≤1000) (he:b.ent.length≤1000000) (h0:b.ent≠[]) (hv:∀ s∈b.ser,s.vers.length≤1000000∧∀ v∈s.vers,v.sch.lates.length≤1000000) (H:Heap):VCall Tryz.prog 49 [.agg b.cells] H fun r H'=>r=.agg [.vs (H.length+4) b.ser.length,.sl (some (H.length+2)) b.ent.length (b.ent.flatMap Ent.cells)]∧H'=H++cyLB b H.length b.ser.length [.vs (H.length+4) b.ser.length,.sl (some (H.length+2)) b.ent.length (b.ent.flatMap Ent.cells)]:=by
 have hcl67:=fun B1 B2:Blk=>(by
  have:=clone67_k b.ent he h0 (H++[B1,B2])
  rwa [show (H++[B1,B2]).length+0=H.length+2 by simp] at this:VCall Tryz.prog 69 [.sl none b.ent.length (b.ent.flatMap Ent.cells)] (H++[B1,B2]) fun r H'=>r=.sl (some (H.length+2)) b.ent.length (b.ent.flatMap Ent.cells)∧H'=(H++[B1,B2])++[.tok 80 7 (b.ent.length * 7)])
 have hcb:b.cells=[.sl none b.ser.length (b.ser.flatMap Ser.cells),.sl none b.ent.length (b.ent.flatMap Ent.cells)]:=rfl
 have hL0:([.box 25 [.sl none b.ser.length (b.ser.flatMap Ser.cells),.sl none b.ent.length (b.ent.flatMap Ent.cells)],.box 25 [.nils,.nils],.tok 80 7 (b.ent.length * 7),.box 25 [.vs (H.length+4) 0,.sl (some (H.length+2)) b.ent.length (b.ent.flatMap Ent.cells)],.vec 69 2 []]:Heap)=cyLB b H.length 0 [.nils,.nils]:=rfl
 refine zfe Tryz.E0 zad Tryz.func49 (by kernel_rfl) rfl (ybv rfl) rfl fun hcl hbl=>?_
 rw [hcb]
 (repeat' ((conv=>whnf);(first|refine ydp _ _ _ 3 (hcl67 _ _) rfl rfl rfl ?_|refine zab [] ?_|fail)));all_goals (conv=>whnf)
 refine LoopN.vecB 3 0 69 2 rfl rfl rfl rfl rfl rfl ?_
 refine loop_X Tryz.E0 zad (σ:=Nat) (fun k=>k≤b.ser.length) (fun k=>b.ser.length-k) (fun k=>[(16,.v (.int .i64 k))]) (fun k=>cyLB b H.length k [.nils,.nils]) _ 0 rfl hcl [2,3,14,15] rfl (yah _) ⟨⟨_,rfl,yae _⟩,trivial⟩ hL0 (fun s _=>by simp [cyLB]) ?_
 intro k hk
 rcases yag k b.ser.length with hlt|hge
 ·have htk:=take_snoc b.ser ser0 k hlt
  have hns1:(b.ser.take (k+1)).flatMap Ser.cells=(b.ser.take k).flatMap Ser.cells++(b.ser.getD k ser0).cells:=by
   rw [htk,ybt]
   simp
  obtain ⟨nm,vs,hv1⟩:=zdz (b.ser.getD k ser0)
  have e1:=zbz hv1
  rw [e1] at hns1
  have hvb:=hv _ (zbb ser0 hlt)
  rw [hv1] at hvb
  simp only at hvb
  obtain ⟨hvl,hlat⟩:=hvb
  obtain ⟨NL,hNL⟩:∃ NL,(cyLB b H.length k [.nils,.nils]).length=NL:=⟨_,rfl⟩
  rw [hNL]
  have hm3:(H++cyLB b H.length k [.nils,.nils])[H.length+4]? = some (.vec 69 2 ((b.ser.take k).flatMap Ser.cells)):=zbk rfl
  have hm2:(H++cyLB b H.length k [.nils,.nils])[H.length+3]? = some (.box 25 [.vs (H.length+4) k,.sl (some (H.length+2)) b.ent.length (b.ent.flatMap Ent.cells)]):=zbk rfl
  have hm2b:∀ M,((H++cyLB b H.length k [.nils,.nils]).set (H.length+4) M)[H.length+3]? = some (.box 25 [.vs (H.length+4) k,.sl (some (H.length+2)) b.ent.length (b.ent.flatMap Ent.cells)]):=fun M=>by
   rw [ydb (by omega),hm2]
  have hbt:(k+1) * 40≤140737488355328:=by omega
  have hmx:k+1≤maxLen:=ybg (show k+1≤1000001 by omega) (by decide)
  have hcln:((b.ser.take k).flatMap Ser.cells).length=k * 2:=by rw [zav zaz,yce,ycd hk]
  (repeat' ((conv=>whnf);(first|refine yar (by omega) ?_|(refine yaf ?_ ?_;· first|kernel_rfl|omega|exact yaa _ _|(simp;done)|(simp;omega)|exact trivial|assumption|fail)|refine zai ser0 k rfl (by omega) zaz e1 ?_|refine zab [] ?_|fail)));all_goals (conv=>whnf)
  refine LoopN.tokB 1 1 71 8 (by rw [ya5,hNL]) rfl rfl rfl rfl rfl ?_
  refine zbg Tryz.E0 zad (σ:=Nat) (fun i=>i≤vs.length) (fun i=>vs.length-i) (fun i=>[(26,.v (.int .i64 i))]) (fun i=>[.box 69 [.str nm,.sl none vs.length (vs.flatMap Ver.cells)],.box 69 [.str nm,.sl (some (H.length+NL+2)) i ((vs.take i).flatMap Ver.cells)],.tok 71 8 ((vs.take i).flatMap Ver.cells).length]) _ 0 (by rw [ya5,hNL]) (zex hcl fun B hB=>by
   rw [ya5]
   exact zc9 (cyLB_below b H.length k) B hB) [2,3,5,6,14,15,16,24,25] rfl (yah _) ⟨⟨_,rfl,yae _⟩,trivial⟩ rfl (fun _ _=>rfl) ?_
  intro i hi
  rcases yag i vs.length with hil|hige
  ·have hvt:=take_snoc vs ver0 i hil
   obtain ⟨at_,pts,part,att,rty,hnt,cnt,lates,hv2⟩:=zcr (vs.getD i ver0)
   have e2:=zbl hv2
   have hns:(vs.take (i+1)).flatMap Ver.cells=(vs.take i).flatMap Ver.cells++(vs.getD i ver0).cells:=by
    rw [hvt,ybt]
    simp
   rw [e2] at hns
   have hco:=fun H=>copyS_c ⟨pts,part,att,rty,hnt,cnt,lates⟩ (by
    have:=hlat _ (zbb ver0 hil)
    rw [hv2] at this
    exact this) H
   unfold Sch.cells at hco
   simp only at hco
   have hbt:(i+1) * 80≤140737488355328:=by omega
   have hmx:i+1≤maxLen:=ybg (show i+1≤1000001 by omega) (by decide)
   have hml:((vs.take i).flatMap Ver.cells).length=i * 8:=by rw [zav zbf,yce,ycd hi]
   (repeat' ((conv=>whnf);(first|refine yar (by omega) ?_|(refine zao _ _ Cst.h Cst.h ?_ ?_;· omega)|(refine yaf ?_ ?_;· first|kernel_rfl|omega|exact yaa _ _|(simp;done)|(simp;omega)|exact trivial|assumption|fail)|refine yan _ (fun _ hq X=>hco _) ?_|refine zai ver0 i rfl (by omega) zbf e2 ?_|refine yaf ⟨rfl,rfl,rfl,hbt,hmx⟩ ?_|refine yb6 _ rfl ?_|refine zab [] ?_|fail)));all_goals (conv=>whnf)
   rw [← hns]
   (refine ⟨⟨i+1,by show i+1≤_;omega,by omega,?_,.inl ⟨rfl,rfl⟩,rfl,_,rfl,?_⟩⟩;rotate_left 1;(first|exact .inl rfl|exact .inr ⟨by simp [zau,below,zac,tr,zae,zah,zag,zam,zak,zal,zaf,za8,za7,zan],by simp [za5,Blk.below,zac,below,zae,zah,zag,zam,zak,zal,zaf,za8,za7,zan]⟩|fail);(repeat' (first|exact trivial|refine ⟨⟨_,rfl,?_⟩,?_⟩|fail));all_goals try (first|exact yae _|exact Wk.of_eq (congrArg (AV.int _) (by omega))|fail))
  ·have hie:i=vs.length:=by omega
   subst hie
   rw [ya2]
   (repeat' ((conv=>whnf);(first|refine zat (by omega) ?_|(refine zao _ _ Cst.h Cst.h ?_ ?_;· omega)|refine SetN.mk _ rfl ?_|refine yb9 _ hm2 ?_|refine yb9 _ hm3 ?_|refine yb9 _ (hm2b _) ?_|refine yaf ⟨hcln,rfl,rfl,hbt,hmx⟩ ?_|refine zab [] ?_|fail)));all_goals (conv=>whnf)
   rw [cyLB_set]
   refine ⟨⟨k+1,by show k+1≤_;omega,by show b.ser.length-(k+1)<b.ser.length-k;omega,⟨⟨_,rfl,yae _⟩,trivial⟩,.inr ⟨⟨_,rfl,yae _⟩,⟨_,rfl,yae _⟩,⟨_,rfl,yae _⟩,⟨_,rfl,yae _⟩,trivial⟩,_,.app (.app (.refl H) ?_) (.refl _),.inr ⟨by simp [zau,below,tr],cyLB_below b H.length (k+1)⟩⟩⟩
   simp only [cyLB]
   rw [hns1]
   exact .cons (.refl _) (.cons (.refl _) (.cons (.refl _) (.cons (.refl _) (.cons (.vec (.app (.id _) ⟨yae _,wk_sl _ _ _,trivial⟩)) .nil))))
 ·have hkn:k=b.ser.length:=by omega
  subst hkn
  (repeat' ((conv=>whnf);(first|refine zat (by omega) ?_|refine zab [] ?_|fail)));all_goals (conv=>whnf)
  refine zhm _ [(2,.lp 1 0),(3,.lp 3 0),(14,.v (.sl none b.ser.length (b.ser.flatMap Ser.cells))),(15,.v (.int .i64 b.ser.length))] rfl rfl rfl ?_
  (repeat' ((conv=>whnf);(first|refine zab [] ?_|fail)));all_goals (conv=>whnf)
  refine .keep _ (.refl _) ⟨rfl,?_⟩
  simp [cyLB,List.set]
def wrk1 (w:Wrk):Wrk:=⟨w.prog,w.days,1,w.hints⟩
def subIn (b:Bk) (e:Ent):Bool:=zbm b&&(zcg e.stu&&(zcg e.exe&&(isDay e.day&&zbr (wrk1 e.work))))
def ze0 (b:Bk) (e:Ent):Bool:=decide (0<b.ent.length)&&decide (e.day<(b.ent.getD (b.ent.length-1) ent0).day)
def subAtt (b:Bk) (e:Ent):Nat:=cntK b.ent (keyOf e)+1
def subFull (b:Bk) (e:Ent):Bool:=decide (2000≤b.ent.length) || decide (100<subAtt b e)
def subE (b:Bk) (e:Ent):Int:=if subIn b e then (if ze0 b e then 380 else if (za3 b e.exe e.day).isSome then (if subFull b e then 5 else 0) else 6) else 2
def zgc (b:Bk) (e:Ent):Ent:=⟨e.stu,e.exe,e.day,⟨e.work.prog,e.work.days,(subAtt b e:Nat),e.work.hints⟩⟩
def subF (b:Bk) (e:Ent):Bk:=if subE b e=0 then ⟨b.ser,b.ent++[zgc b e]⟩ else bk0
theorem schOne:zbv ⟨0,0,0,0,0,1,[]⟩=true:=by decide
theorem grade1_c (w:Wrk) (H:Heap):VDet Tryz.prog 39 [.agg [.int .i64 0,.int .i64 0,.nils,.int .i64 0,.int .i64 0,.int .i64 0,.int .u8 1],.agg w.cells] H (.tup [.agg (zcc ⟨0,0,0,0,0,1,[]⟩ w).1.cells,.int .i64 (zcc ⟨0,0,0,0,0,1,[]⟩ w).2]) :=
 VDet.wk (grade_c ⟨0,0,0,0,0,1,[]⟩ w H) ⟨zbs ⟨yae _,yae _,zbp,yae _,yae _,yae _,yae _,trivial⟩,yae _,trivial⟩
theorem submit_in (b:Bk) (hb:b.Sm) (e:Ent) (hi:subIn b e=false) (H:Heap):VDet Tryz.prog 24 [.agg b.cells,.agg e.cells] H (.tup [.agg bk0.cells,.int .i64 2]):=by
 have hva:=fun H=>zcp b hb H
 have hgr:=fun H=>grade1_c (wrk1 e.work) H
 have hcb:b.cells=[.sl none b.ser.length (b.ser.flatMap Ser.cells),.sl none b.ent.length (b.ent.flatMap Ent.cells)]:=rfl
 unfold subIn at hi
 obtain ⟨stu,exe,day,a1,a2,a3,a4,hv1⟩:=zc2 e
 rw [hv1] at hi hgr
 rw [zbn hv1]
 unfold wrk1 Wrk.cells at hgr
 simp only [wrk1] at hi hgr
 rw [hcb] at hva ⊢
 cases hV:zbm b <;> rw [hV] at hva hi
 ·refine zap Tryz.E0 zad Tryz.func24 (by kernel_rfl) rfl (ybv rfl) rfl fun hcl hbl=>?_
  (repeat' ((conv=>whnf);(first|(refine yai ?_;first|refine yas ?_|refine yau rfl ?_|fail)|refine yab _ (hva _) ?_|refine zab [] ?_|fail)));all_goals (conv=>whnf)
  exact ya1 (zbw _ _) (zdy _)
 ·cases hN:zcg stu <;> rw [hN] at hi
  ·refine zap Tryz.E0 zad Tryz.func24 (by kernel_rfl) rfl (ybv rfl) rfl fun hcl hbl=>?_
   (repeat' ((conv=>whnf);(first|(refine yai ?_;first|refine yas ?_|refine yaq rfl ?_|refine yau (by assumption) ?_|fail)|(refine ybi ?_;first|refine yab _ (hva _) ?_|refine yab _ (zbo _ _) ?_|fail)|refine zab [] ?_|fail)));all_goals (conv=>whnf)
   exact ya1 (zbw _ _) (zdy _)
  ·cases hN2:zcg exe <;> rw [hN2] at hi
   ·refine zap Tryz.E0 zad Tryz.func24 (by kernel_rfl) rfl (ybv rfl) rfl fun hcl hbl=>?_
    (repeat' ((conv=>whnf);(first|(refine yai ?_;first|refine yas ?_|refine yaq rfl ?_|refine yaq (by assumption) ?_|refine yau (by assumption) ?_|fail)|(refine ybi ?_;first|refine yab _ (hva _) ?_|refine yab _ (zbo _ _) ?_|fail)|refine zab [] ?_|fail)));all_goals (conv=>whnf)
    exact ya1 (zbw _ _) (zdy _)
   ·cases hD:isDay day <;> rw [hD] at hi
    ·refine zap Tryz.E0 zad Tryz.func24 (by kernel_rfl) rfl (ybv rfl) rfl fun hcl hbl=>?_
     (repeat' ((conv=>whnf);(first|(refine yai ?_;first|refine yas ?_|refine yaq rfl ?_|refine yaq (by assumption) ?_|refine yau (by assumption) ?_|fail)|(refine ybi ?_;first|refine yab _ (hva _) ?_|refine yab _ (zbo _ _) ?_|refine yab _ (zbh _ _) ?_|fail)|refine zab [] ?_|fail)));all_goals (conv=>whnf)
     exact ya1 (zbw _ _) (zdy _)
    ·have hS:zbr ⟨a1,a2,1,a4⟩=false:=by simpa using hi
     have hg:zcc ⟨0,0,0,0,0,1,[]⟩ ⟨a1,a2,1,a4⟩=(⟨0,0,0,0,0⟩,2):=if_neg (by simp [hS])
     rw [hg] at hgr
     unfold Mrk.cells at hgr
     refine zap Tryz.E0 zad Tryz.func24 (by kernel_rfl) rfl (ybv rfl) rfl fun hcl hbl=>?_
     (repeat' ((conv=>whnf);(first|(refine yai ?_;first|refine yas ?_|refine yaq rfl ?_|refine yau rfl ?_|refine yaq (by assumption) ?_|fail)|(refine ybi ?_;first|refine yab _ (hva _) ?_|refine yab _ (zbo _ _) ?_|refine yab _ (zbh _ _) ?_|refine yab _ (hgr _) ?_|fail)|refine zab [] ?_|fail)));all_goals (conv=>whnf)
     exact ya1 (zbw _ _) (zdy _)
theorem submit_no (b:Bk) (hb:b.Sm) (e:Ent) (hi:subIn b e=true) (r:Int) (hE:subE b e=r) (hr:ze0 b e=true∨(za3 b e.exe e.day).isSome=false) (H:Heap):VDet Tryz.prog 24 [.agg b.cells,.agg e.cells] H (.tup [.agg bk0.cells,.int .i64 r]):=by
 have hva:=fun H=>zcp b hb H
 have hif:=fun H=>zd9 b hb.ser hb.vers e.exe e.day H
 have hgr:=fun H=>grade1_c (wrk1 e.work) H
 have hcb:b.cells=[.sl none b.ser.length (b.ser.flatMap Ser.cells),.sl none b.ent.length (b.ent.flatMap Ent.cells)]:=rfl
 unfold subE at hE
 rw [hi] at hE
 simp only [if_true] at hE
 unfold subIn at hi
 simp only [yak] at hi
 obtain ⟨hV,hN,hN2,hD,hS⟩:=hi
 have hvb:=validF_iff.1 hV
 have hnn:=hvb.ne
 rw [hV] at hva
 rw [show zcc ⟨0,0,0,0,0,1,[]⟩ (wrk1 e.work)=(markF ⟨0,0,0,0,0,1,[]⟩ (wrk1 e.work),0) from if_pos ⟨schOne,hS⟩] at hgr
 obtain ⟨m1,m2,m3,m4,m5,hm⟩:∃ m1 m2 m3 m4 m5,(markF ⟨0,0,0,0,0,1,[]⟩ (wrk1 e.work)).cells=[.int .i64 m1,.int .i64 m2,.int .i64 m3,.int .i64 m4,.int .i64 m5]:=⟨_,_,_,_,_,rfl⟩
 simp only [hm] at hgr
 unfold ze0 at hE hr
 obtain ⟨stu,exe,day,a1,a2,a3,a4,hv3⟩:=zc2 (b.ent.getD (b.ent.length-1) ent0)
 have e3:=zbn hv3
 rw [hv3] at hE hr
 obtain ⟨f1,f2,f3,f4,f5,f6,f7,f8,hv4⟩:=zcr ((za3 b e.exe e.day).getD ver0)
 rw [hv4] at hif
 unfold Sch.cells at hif
 obtain ⟨stu,exe,dy,a1,a2,a3,a4,hv1⟩:=zc2 e
 rw [hv1] at hgr hE hD hN hN2 hif hr
 rw [zbn hv1]
 unfold wrk1 Wrk.cells at hgr
 simp only at hE hD hN hN2 hgr hif hr
 rw [hcb] at hva hif ⊢
 by_cases hP:0<b.ent.length
 ·by_cases hQ:dy<day
  ·have:r=380:=by simpa [hP,hQ] using hE.symm
   subst this
   refine zap Tryz.E0 zad Tryz.func24 (by kernel_rfl) rfl (ybv rfl) rfl fun hcl hbl=>?_
   (repeat' ((conv=>whnf);(first|(refine yai ?_;first|refine yas ?_|refine yaq rfl ?_|refine yar (by omega) ?_|refine yaq (by assumption) ?_|fail)|(refine zbi _ _ Cst.h Cst.h ?_ ?_;· omega)|(refine yaf ?_ ?_;· first|kernel_rfl|omega|exact yaa _ _|(simp;done)|(simp;omega)|exact trivial|assumption|fail)|(refine ybi ?_;first|refine yab _ (hva _) ?_|refine yab _ (zbo _ _) ?_|refine yab _ (zbh _ _) ?_|refine yab _ (hgr _) ?_|fail)|refine zai ent0 (b.ent.length-1) (by omega) (by omega) za0 e3 ?_|refine zab [] ?_|fail)));all_goals (conv=>whnf)
   exact ya1 (zbw _ _) (zdy _)
  ·have hF:(za3 b exe dy).isSome=false:=by simpa [hP,hQ] using hr
   have:r=6:=by simpa [hP,hQ,hF] using hE.symm
   subst this
   rw [hF] at hif
   refine zap Tryz.E0 zad Tryz.func24 (by kernel_rfl) rfl (ybv rfl) rfl fun hcl hbl=>?_
   (repeat' ((conv=>whnf);(first|(refine yai ?_;first|refine yas ?_|refine yaq rfl ?_|refine yau rfl ?_|refine yar (by omega) ?_|refine zat (by omega) ?_|refine yaq (by assumption) ?_|fail)|(refine zbi _ _ Cst.h Cst.h ?_ ?_;· omega)|(refine yaf ?_ ?_;· first|kernel_rfl|omega|exact yaa _ _|(simp;done)|(simp;omega)|exact trivial|assumption|fail)|(refine ybi ?_;first|refine yab _ (hva _) ?_|refine yab _ (zbo _ _) ?_|refine yab _ (zbh _ _) ?_|refine yab _ (hgr _) ?_|refine yab _ (hif _) ?_|fail)|refine zai ent0 (b.ent.length-1) (by omega) (by omega) za0 e3 ?_|refine zab [] ?_|fail)));all_goals (conv=>whnf)
   exact ya1 (zbw _ _) (zdy _)
 ·have hF:(za3 b exe dy).isSome=false:=by simpa [hP] using hr
  have:r=6:=by simpa [hP,hF] using hE.symm
  subst this
  rw [hF] at hif
  refine zap Tryz.E0 zad Tryz.func24 (by kernel_rfl) rfl (ybv rfl) rfl fun hcl hbl=>?_
  (repeat' ((conv=>whnf);(first|(refine yai ?_;first|refine yas ?_|refine yaq rfl ?_|refine yau rfl ?_|refine zat (by omega) ?_|refine yaq (by assumption) ?_|fail)|(refine yaf ?_ ?_;· first|kernel_rfl|omega|exact yaa _ _|(simp;done)|(simp;omega)|exact trivial|assumption|fail)|(refine ybi ?_;first|refine yab _ (hva _) ?_|refine yab _ (zbo _ _) ?_|refine yab _ (zbh _ _) ?_|refine yab _ (hgr _) ?_|refine yab _ (hif _) ?_|fail)|refine zab [] ?_|fail)));all_goals (conv=>whnf)
  exact ya1 (zbw _ _) (zdy _)
theorem submit_some (b:Bk) (hb:b.Sm) (e:Ent) (hi:subIn b e=true) (hP1:ze0 b e=false) (hF:(za3 b e.exe e.day).isSome=true) (H:Heap):VDet Tryz.prog 24 [.agg b.cells,.agg e.cells] H (.tup [.agg (subF b e).cells,.int .i64 (subE b e)]):=by
 have hE:subE b e=(if subFull b e then 5 else 0):=by
  unfold subE
  rw [hi,hP1,hF]
  rfl
 unfold subF zgc at *
 unfold subFull at hE
 have hat:subAtt b e=cntK b.ent (e.exe,e.stu)+1:=rfl
 have hva:=fun H=>zcp b hb H
 have hif:=fun H=>zd9 b hb.ser hb.vers e.exe e.day H
 have hgr:=fun H=>grade1_c (wrk1 e.work) H
 have hcb:b.cells=[.sl none b.ser.length (b.ser.flatMap Ser.cells),.sl none b.ent.length (b.ent.flatMap Ent.cells)]:=rfl
 unfold subIn at hi
 simp only [yak] at hi
 obtain ⟨hV,hN,hN2,hD,hS⟩:=hi
 have hvb:=validF_iff.1 hV
 have hnn:=hvb.ne
 rw [hV] at hva
 rw [show zcc ⟨0,0,0,0,0,1,[]⟩ (wrk1 e.work)=(markF ⟨0,0,0,0,0,1,[]⟩ (wrk1 e.work),0) from if_pos ⟨schOne,hS⟩] at hgr
 obtain ⟨m1,m2,m3,m4,m5,hm⟩:∃ m1 m2 m3 m4 m5,(markF ⟨0,0,0,0,0,1,[]⟩ (wrk1 e.work)).cells=[.int .i64 m1,.int .i64 m2,.int .i64 m3,.int .i64 m4,.int .i64 m5]:=⟨_,_,_,_,_,rfl⟩
 simp only [hm] at hgr
 unfold ze0 at hP1
 obtain ⟨stu,exe,day,a1,a2,a3,a4,hv3⟩:=zc2 (b.ent.getD (b.ent.length-1) ent0)
 have e3:=zbn hv3
 rw [hv3] at hP1
 obtain ⟨f1,f2,f3,f4,f5,f6,f7,f8,hv4⟩:=zcr ((za3 b e.exe e.day).getD ver0)
 rw [hv4] at hif
 unfold Sch.cells at hif
 obtain ⟨stu,exe,dy,a1,a2,a3,a4,hv1⟩:=zc2 e
 rw [hv1] at hgr hE hD hN hN2 hif hF hP1 hat ⊢
 rw [zbn rfl]
 unfold wrk1 Wrk.cells at hgr
 simp only at hE hD hN hN2 hgr hif hF hP1 hat ⊢
 rw [hF] at hif
 rw [hcb] at hva hif ⊢
 by_cases hP:0<b.ent.length
 ·have hQ:¬ dy<day:=by simpa [hP] using hP1
  refine zap Tryz.E0 zad Tryz.func24 (by kernel_rfl) rfl (ybv rfl) rfl fun hcl hbl=>?_
  (repeat' ((conv=>whnf);(first|(refine yai ?_;first|refine yas ?_|refine yaq rfl ?_|refine yar (by omega) ?_|refine zat (by omega) ?_|refine yaq (by assumption) ?_|fail)|(refine zbi _ _ Cst.h Cst.h ?_ ?_;· omega)|(refine yaf ?_ ?_;· first|kernel_rfl|omega|exact yaa _ _|(simp;done)|(simp;omega)|exact trivial|assumption|fail)|(refine ybi ?_;first|refine yab _ (hva _) ?_|refine yab _ (zbo _ _) ?_|refine yab _ (zbh _ _) ?_|refine yab _ (hgr _) ?_|refine yab _ (hif _) ?_|fail)|refine zai ent0 (b.ent.length-1) (by omega) (by omega) za0 e3 ?_|refine zab [] ?_|fail)));all_goals (conv=>whnf)
  refine zbg Tryz.E0 zad (σ:=Nat) (fun k=>k≤b.ent.length) (fun k=>b.ent.length-k) (fun k=>[(81,.v (.int .i64 k))]) (fun k=>[.box 25 [.sl none b.ser.length (b.ser.flatMap Ser.cells),.sl none b.ent.length (b.ent.flatMap Ent.cells)],.box 80 [.str stu,.str exe,.int .i64 dy,.int .i64 a1,.int .i64 a2,.int .i64 ((1+cntK (b.ent.take k) (exe,stu):Nat):Int),.int .i64 a4],.box 25 [.nils,.nils],.box 60 [.int .i64 m1,.int .i64 m2,.int .i64 m3,.int .i64 m4,.int .i64 m5],.box 36 [.int .i64 f2,.int .i64 f3,.sl none f8.length (f8.flatMap encP),.int .i64 f4,.int .i64 f5,.int .i64 f6,.int .u8 f7]]) _ 0 rfl hcl [2,3,4,79,80] rfl (yah _) ⟨⟨_,rfl,yae _⟩,trivial⟩ rfl (fun _ _=>rfl) ?_
  intro k hk
  rcases yag k b.ent.length with hlt|hge
  ·have hts:=take_snoc b.ent ent0 k hlt
   have hck:=zgn (b.ent.take k) (exe,stu)
   rw [yce] at hck
   obtain ⟨es,ee,ed,w1,w2,w3,w4,hv5⟩:=zc2 (b.ent.getD k ent0)
   have e5:=zbn hv5
   rw [hv5] at hts
   (repeat' ((conv=>whnf);(first|(refine yai ?_;first|refine yar (by omega) ?_|(refine IfN.mk ?_ ?_ <;> intro _)|fail)|(refine zao _ _ Cst.h Cst.h ?_ ?_;· omega)|(refine yaf ?_ ?_;· first|kernel_rfl|omega|exact yaa _ _|(simp;done)|(simp;omega)|exact trivial|assumption|fail)|refine zai ent0 k rfl (by omega) za0 e5 ?_|refine zab [] ?_|fail)));all_goals (conv=>whnf)
   ·have g1:es=stu:=eqS_iff.1 ‹_›
    have g2:ee=exe:=eqS_iff.1 ‹_›
    have hcs:cntK (b.ent.take (k+1)) (exe,stu)=cntK (b.ent.take k) (exe,stu)+1:=by
     rw [hts,← g1,← g2]
     exact zfw _ _
    rw [show 1+cntK (b.ent.take k) (exe,stu)+1=1+cntK (b.ent.take (k+1)) (exe,stu) by omega]
    (refine ⟨⟨k+1,by show k+1≤_;omega,by omega,?_,.inl ⟨rfl,rfl⟩,rfl,_,rfl,?_⟩⟩;rotate_left 1;(first|exact .inl rfl|exact .inr ⟨by simp [zau,below,zac,tr,zae,zah,zag,zam,zak,zal,zaf,za8,za7,zan],by simp [za5,Blk.below,zac,below,zae,zah,zag,zam,zak,zal,zaf,za8,za7,zan]⟩|fail);(repeat' (first|exact trivial|refine ⟨⟨_,rfl,?_⟩,?_⟩|fail));all_goals try (first|exact yae _|exact Wk.of_eq (congrArg (AV.int _) (by omega))|fail))
   ·have g2:¬ ee=exe:=fun h=>by
      have h1:=eqS_iff.2 h
      have h2:(ee.toList==exe.toList)=false:=‹_›
      unfold eqS at h1
      rw [h1] at h2
      cases h2
    have hcs:cntK (b.ent.take (k+1)) (exe,stu)=cntK (b.ent.take k) (exe,stu):=by
     rw [hts]
     exact zew _ _ (fun h=>g2 (by cases h;rfl))
    rw [← hcs]
    (refine ⟨⟨k+1,by show k+1≤_;omega,by omega,?_,.inl ⟨rfl,rfl⟩,rfl,_,rfl,?_⟩⟩;rotate_left 1;(first|exact .inl rfl|exact .inr ⟨by simp [zau,below,zac,tr,zae,zah,zag,zam,zak,zal,zaf,za8,za7,zan],by simp [za5,Blk.below,zac,below,zae,zah,zag,zam,zak,zal,zaf,za8,za7,zan]⟩|fail);(repeat' (first|exact trivial|refine ⟨⟨_,rfl,?_⟩,?_⟩|fail));all_goals try (first|exact yae _|exact Wk.of_eq (congrArg (AV.int _) (by omega))|fail))
   ·have g2:¬ es=stu:=fun h=>by
      have h1:=eqS_iff.2 h
      have h2:(es.toList==stu.toList)=false:=‹_›
      unfold eqS at h1
      rw [h1] at h2
      cases h2
    have hcs:cntK (b.ent.take (k+1)) (exe,stu)=cntK (b.ent.take k) (exe,stu):=by
     rw [hts]
     exact zew _ _ (fun h=>g2 (by cases h;rfl))
    rw [← hcs]
    (refine ⟨⟨k+1,by show k+1≤_;omega,by omega,?_,.inl ⟨rfl,rfl⟩,rfl,_,rfl,?_⟩⟩;rotate_left 1;(first|exact .inl rfl|exact .inr ⟨by simp [zau,below,zac,tr,zae,zah,zag,zam,zak,zal,zaf,za8,za7,zan],by simp [za5,Blk.below,zac,below,zae,zah,zag,zam,zak,zal,zaf,za8,za7,zan]⟩|fail);(repeat' (first|exact trivial|refine ⟨⟨_,rfl,?_⟩,?_⟩|fail));all_goals try (first|exact yae _|exact Wk.of_eq (congrArg (AV.int _) (by omega))|fail))
  ·have hkn:k=b.ent.length:=by omega
   subst hkn
   rw [ya2]
   have hck:=zgn b.ent (exe,stu)
   rw [hat] at hE ⊢
   by_cases hf1:2000≤b.ent.length
   ·have hr:subE b ⟨stu,exe,dy,⟨a1,a2,a3,a4⟩⟩=5:=by simpa [hf1] using hE
    rw [hr]
    (repeat' ((conv=>whnf);(first|(refine yai ?_;first|refine yar (by omega) ?_|refine zat (by omega) ?_|fail)|refine zab [] ?_|fail)));all_goals (conv=>whnf)
    exact ya1 (zbw _ _) (zdy _)
   ·by_cases hf2:100<cntK b.ent (exe,stu)+1
    ·have hr:subE b ⟨stu,exe,dy,⟨a1,a2,a3,a4⟩⟩=5:=by simpa [hf1,hf2] using hE
     rw [hr]
     (repeat' ((conv=>whnf);(first|(refine yai ?_;first|refine yar (by omega) ?_|refine zat (by omega) ?_|fail)|refine zab [] ?_|fail)));all_goals (conv=>whnf)
     exact ya1 (zbw _ _) (zdy _)
    ·have hr:subE b ⟨stu,exe,dy,⟨a1,a2,a3,a4⟩⟩=0:=by simpa [hf1,hf2] using hE
     rw [hr]
     simp only [if_true]
     have e6:(1+cntK b.ent (exe,stu))=cntK b.ent (exe,stu)+1:=by omega
     rw [e6]
     have hslen:(b.ser.flatMap Ser.cells).length=b.ser.length * 2:=zav zaz _
     by_cases he0:b.ent=[]
     ·have hcp:∀ B1 B2 B3 B4 B5:Blk,VCall Tryz.prog 49 [.agg b.cells] (H++[B1,B2,B3,B4,B5]) fun r H'=>r=.agg [.vs (H.length+8) b.ser.length,.sx 0 []] ∧
        H'=(H++[B1,B2,B3,B4,B5])++[.box 25 b.cells,.box 25 [.vs (H.length+8) b.ser.length,.sx 0 []],.box 25 [.vs (H.length+8) b.ser.length,.sx 0 []],.vec 69 2 (b.ser.flatMap Ser.cells)]:=fun B1 B2 B3 B4 B5 =>
        VCall.mono (copyBookA_c b (by have:=hvb.ns;omega) (by omega) he0 (zeo hvb) _) fun r H' ⟨hr,hH⟩=>by
         have e:(H++[B1,B2,B3,B4,B5]).length=H.length+5:=by simp
         rw [e] at hr hH
         refine ⟨hr,hH.trans ?_⟩
         unfold cyLA
         rw [ya2]
      rw [hcb] at hcp
      rw [he0] at hcp ⊢
      (repeat' ((conv=>whnf);(first|refine yau rfl ?_|refine ydp _ _ _ 9 (hcp _ _ _ _ _) rfl rfl rfl ?_|refine OrN.l ?_|refine yaf ⟨by decide,rfl,rfl,by decide,by decide⟩ ?_|refine zab [] ?_|fail)));all_goals (conv=>whnf)
      refine ydc ?_ (Frz.tup (.cons (Frz.agg (.cons (Frz.vs (j:=8) (sz:=2) rfl hslen (yda _)) (.cons (Frz.sl (yda _)) .nil))) (.cons (.refl _) .nil))) ?_
      ·simp [below,zac,Bk.cells,zae,zag,zam]
      ·unfold Bk.cells
       simp only [ydg]
       exact zby ⟨zbs ⟨yae _,Wk.of_eq (by simp [Ent.cells]),trivial⟩,yae _,trivial⟩
     ·have hcp:∀ B1 B2 B3 B4 B5:Blk,VCall Tryz.prog 49 [.agg b.cells] (H++[B1,B2,B3,B4,B5]) fun r H'=>r=.agg [.vs (H.length+9) b.ser.length,.sl (some (H.length+7)) b.ent.length (b.ent.flatMap Ent.cells)] ∧
        H'=(H++[B1,B2,B3,B4,B5])++[.box 25 b.cells,.box 25 [.vs (H.length+9) b.ser.length,.sl (some (H.length+7)) b.ent.length (b.ent.flatMap Ent.cells)],.tok 80 7 (b.ent.length * 7),.box 25 [.vs (H.length+9) b.ser.length,.sl (some (H.length+7)) b.ent.length (b.ent.flatMap Ent.cells)],.vec 69 2 (b.ser.flatMap Ser.cells)]:=fun B1 B2 B3 B4 B5 =>
        VCall.mono (copyBookB_c b (by have:=hvb.ns;omega) (by omega) he0 (zeo hvb) _) fun r H' ⟨hr,hH⟩=>by
         have e:(H++[B1,B2,B3,B4,B5]).length=H.length+5:=by simp
         rw [e] at hr hH
         refine ⟨hr,hH.trans ?_⟩
         unfold cyLB
         rw [ya2]
      rw [hcb] at hcp
      have hel:b.ent.length * 7=(b.ent.flatMap Ent.cells).length:=(zav za0 _).symm
      have hfl:(b.ent++[(⟨stu,exe,dy,⟨a1,a2,(cntK b.ent (exe,stu)+1:Nat),a4⟩⟩:Ent)]).flatMap Ent.cells=b.ent.flatMap Ent.cells++[.str stu,.str exe,.int .i64 dy,.int .i64 a1,.int .i64 a2,.int .i64 (cntK b.ent (exe,stu)+1:Nat),.int .i64 a4]:=by
       rw [ybt]
       rfl
      have hbt:(b.ent.length+1) * 72≤140737488355328:=by omega
      have hmx:b.ent.length+1≤maxLen:=ybg (show b.ent.length+1≤1000001 by omega) (by decide)
      (repeat' ((conv=>whnf);(first|refine zat (by omega) ?_|refine ydp _ _ _ 10 (hcp _ _ _ _ _) rfl rfl rfl ?_|refine yaf ⟨hel,rfl,rfl,hbt,hmx⟩ ?_|refine yb6 _ rfl ?_|refine zab [] ?_|fail)));all_goals (conv=>whnf)
      rw [← hfl]
      refine ydc ?_ (Frz.tup (.cons (Frz.agg (.cons (Frz.vs (j:=9) (sz:=2) rfl hslen (yda _)) (.cons (Frz.sl (yda _)) .nil))) (.cons (.refl _) .nil))) ?_
      ·simp only [below,zac,Bk.cells,zae,zag,and_true,true_and]
       simp
      ·unfold Bk.cells
       simp only [ya5,List.length_cons,List.length_nil]
       exact zby ⟨zbs ⟨yae _,yae _,trivial⟩,yae _,trivial⟩
 ·refine zap Tryz.E0 zad Tryz.func24 (by kernel_rfl) rfl (ybv rfl) rfl fun hcl hbl=>?_
  (repeat' ((conv=>whnf);(first|(refine yai ?_;first|refine yas ?_|refine yaq rfl ?_|refine zat (by omega) ?_|refine yaq (by assumption) ?_|fail)|(refine yaf ?_ ?_;· first|kernel_rfl|omega|exact yaa _ _|(simp;done)|(simp;omega)|exact trivial|assumption|fail)|(refine ybi ?_;first|refine yab _ (hva _) ?_|refine yab _ (zbo _ _) ?_|refine yab _ (zbh _ _) ?_|refine yab _ (hgr _) ?_|refine yab _ (hif _) ?_|fail)|refine zab [] ?_|fail)));all_goals (conv=>whnf)
  refine zbg Tryz.E0 zad (σ:=Nat) (fun k=>k≤b.ent.length) (fun k=>b.ent.length-k) (fun k=>[(81,.v (.int .i64 k))]) (fun k=>[.box 25 [.sl none b.ser.length (b.ser.flatMap Ser.cells),.sl none b.ent.length (b.ent.flatMap Ent.cells)],.box 80 [.str stu,.str exe,.int .i64 dy,.int .i64 a1,.int .i64 a2,.int .i64 ((1+cntK (b.ent.take k) (exe,stu):Nat):Int),.int .i64 a4],.box 25 [.nils,.nils],.box 60 [.int .i64 m1,.int .i64 m2,.int .i64 m3,.int .i64 m4,.int .i64 m5],.box 36 [.int .i64 f2,.int .i64 f3,.sl none f8.length (f8.flatMap encP),.int .i64 f4,.int .i64 f5,.int .i64 f6,.int .u8 f7]]) _ 0 rfl hcl [2,3,4,79,80] rfl (yah _) ⟨⟨_,rfl,yae _⟩,trivial⟩ rfl (fun _ _=>rfl) ?_
  intro k hk
  rcases yag k b.ent.length with hlt|hge
  ·exact absurd hlt (by omega)
  ·have hkn:k=b.ent.length:=by omega
   subst hkn
   rw [ya2]
   have hck:=zgn b.ent (exe,stu)
   rw [hat] at hE ⊢
   have hr:subE b ⟨stu,exe,dy,⟨a1,a2,a3,a4⟩⟩=0:=by
    have hf1:¬ 2000≤b.ent.length:=by omega
    have hf2:¬ 100<cntK b.ent (exe,stu)+1:=by omega
    simpa [hf1,hf2] using hE
   rw [hr]
   simp only [if_true]
   have e6:(1+cntK b.ent (exe,stu))=cntK b.ent (exe,stu)+1:=by omega
   rw [e6]
   have hslen:(b.ser.flatMap Ser.cells).length=b.ser.length * 2:=zav zaz _
   have he0:b.ent=[]:=ya3 (by omega)
   ·have hcp:∀ B1 B2 B3 B4 B5:Blk,VCall Tryz.prog 49 [.agg b.cells] (H++[B1,B2,B3,B4,B5]) fun r H'=>r=.agg [.vs (H.length+8) b.ser.length,.sx 0 []] ∧
      H'=(H++[B1,B2,B3,B4,B5])++[.box 25 b.cells,.box 25 [.vs (H.length+8) b.ser.length,.sx 0 []],.box 25 [.vs (H.length+8) b.ser.length,.sx 0 []],.vec 69 2 (b.ser.flatMap Ser.cells)]:=fun B1 B2 B3 B4 B5 =>
      VCall.mono (copyBookA_c b (by have:=hvb.ns;omega) (by omega) he0 (zeo hvb) _) fun r H' ⟨hr,hH⟩=>by
       have e:(H++[B1,B2,B3,B4,B5]).length=H.length+5:=by simp
       rw [e] at hr hH
       refine ⟨hr,hH.trans ?_⟩
       unfold cyLA
       rw [ya2]
    rw [hcb] at hcp
    rw [he0] at hcp ⊢
    (repeat' ((conv=>whnf);(first|refine yau rfl ?_|refine ydp _ _ _ 9 (hcp _ _ _ _ _) rfl rfl rfl ?_|refine OrN.l ?_|refine yaf ⟨by decide,rfl,rfl,by decide,by decide⟩ ?_|refine zab [] ?_|fail)));all_goals (conv=>whnf)
    refine ydc ?_ (Frz.tup (.cons (Frz.agg (.cons (Frz.vs (j:=8) (sz:=2) rfl hslen (yda _)) (.cons (Frz.sl (yda _)) .nil))) (.cons (.refl _) .nil))) ?_
    ·simp [below,zac,Bk.cells,zae,zag,zam]
    ·unfold Bk.cells
     simp only [ydg]
     exact zby ⟨zbs ⟨yae _,Wk.of_eq (by simp [Ent.cells]),trivial⟩,yae _,trivial⟩
theorem submit_c (b:Bk) (hb:b.Sm) (e:Ent) (H:Heap):VDet Tryz.prog 24 [.agg b.cells,.agg e.cells] H (.tup [.agg (subF b e).cells,.int .i64 (subE b e)]):=by
 cases hi:subIn b e with
 | false =>
   have hE:subE b e=2:=by unfold subE;rw [hi];rfl
   unfold subF
   rw [hE]
   exact submit_in b hb e hi H
 | true =>
   cases hP:ze0 b e with
   | true =>
     have hE:subE b e=380:=by unfold subE;rw [hi,hP];rfl
     have:=submit_no b hb e hi _ rfl (.inl hP) H
     unfold subF
     rw [hE] at this ⊢
     exact this
   | false =>
     cases hF:(za3 b e.exe e.day).isSome with
     | true=>exact submit_some b hb e hi hP hF H
     | false =>
       have hE:subE b e=6:=by unfold subE;rw [hi,hP,hF];rfl
       have:=submit_no b hb e hi _ rfl (.inr hF) H
       unfold subF
       rw [hE] at this ⊢
       exact this
structure Rw where
 exe:ByteArray
 stu:ByteArray
 pts:Int
def Rw.cells (r:Rw):List AV:=[.str r.exe,.str r.stu,.int .i64 r.pts]
def rw0:Rw:=⟨.empty,.empty,0⟩
theorem rw_size (r:Rw):r.cells.length=3:=rfl
theorem rw_ex (r:Rw):∃ a b p,r=⟨a,b,p⟩:=⟨_,_,_,rfl⟩
theorem rw_cells {r:Rw} {a b:ByteArray} {p:Int} (h:r=⟨a,b,p⟩):r.cells=[.str a,.str b,.int .i64 p]:=by subst h;rfl
def repR (b:Bk) (d:Int):List Rw:=(repK b d).map fun k=>⟨k.1,k.2,ptsF b d k⟩
theorem repR_len (b:Bk) (d:Int):(repR b d).length=(repK b d).length:=yav _
theorem repR_flat (b:Bk) (d:Int):(repR b d).flatMap Rw.cells=(repK b d).flatMap (rowC (ptsF b d)):=by
 unfold repR
 rw [List.flatMap_map]
 rfl
theorem reportR_c (b:Bk) (hb:b.Sm) (d:Int) (H:Heap):VDet Tryz.prog 9 [.agg b.cells,.int .i64 d] H (.tup [.sl none (repR b d).length ((repR b d).flatMap Rw.cells),.int .i64 (repE b d)]):=by
 rw [repR_len,repR_flat]
 exact report_c b hb d H
theorem name_inj {l:List Ser} (h:SrtS l) {s t:Ser} (hs:s∈l) (ht:t∈l) (hn:s.name=t.name):s=t:=by
 obtain ⟨i,hi,rfl⟩:=zck ser0 hs
 obtain ⟨j,hj,rfl⟩:=zck ser0 ht
 rcases Nat.lt_trichotomy i j with h1|h1|h1
 ·have:=zg1 (d:=ser0) h h1 hj
  rw [hn,ltS_irr] at this
  cases this
 ·rw [h1]
 ·have:=zg1 (d:=ser0) h h1 hi
  rw [hn,ltS_irr] at this
  cases this
theorem serF_iff {b:Bk} (h:SrtS b.ser) {x:ByteArray} {s:Ser}:serF b x=some s↔s∈b.ser∧s.name=x:=by
 constructor
 ·exact zc7
 ·rintro ⟨hs,hn⟩
  have:(serF b x).isSome=true:=lastF_isSome.2 ⟨s,hs,eqS_iff.2 hn⟩
  obtain ⟨t,ht⟩:=ycs.1 this
  have h1:=zc7 ht
  rw [ht,name_inj h h1.1 hs (h1.2.trans hn.symm)]
theorem serF_none {b:Bk} {x:ByteArray}:serF b x=none↔∀ s∈b.ser,s.name≠x:=by
 constructor
 ·intro h s hs hn
  have:(serF b x).isSome=true:=lastF_isSome.2 ⟨s,hs,eqS_iff.2 hn⟩
  rw [h] at this
  cases this
 ·intro h
  cases hs:serF b x with
  | none=>rfl
  | some s=>exact absurd (zc7 hs).2 (h s (zc7 hs).1)
def oldV (b:Bk) (ex:ByteArray):List Ver:=((serF b ex).getD ser0).vers
def newS (b:Bk) (ex:ByteArray) (v:Ver):Ser:=⟨ex,oldV b ex++[v]⟩
theorem fnd_at {b:Bk} (h:SrtS b.ser) {ex:ByteArray} (hf:fndF b.ser ex=true):posF b.ser ex<b.ser.length∧(b.ser.getD (posF b.ser ex) ser0).name=ex∧serF b ex=some (b.ser.getD (posF b.ser ex) ser0):=by
 unfold fndF at hf
 simp only [yak,decide_eq_true_eq] at hf
 have hn:=eqS_iff.1 hf.2
 exact ⟨hf.1,hn,(serF_iff h).2 ⟨zbb ser0 hf.1,hn⟩⟩
theorem ins_found {b:Bk} (h:SrtS b.ser) {ex:ByteArray} {v:Ver} (hf:fndF b.ser ex=true):insS b.ser ex v=b.ser.set (posF b.ser ex) (newS b ex v):=by
 obtain ⟨h1,h2,h3⟩:=fnd_at h hf
 unfold insS newS oldV
 rw [if_pos hf,h3,h2]
 rfl
theorem ins_new {b:Bk} {ex:ByteArray} {v:Ver} (hs:SrtS b.ser) (hf:fndF b.ser ex=false):insS b.ser ex v=b.ser.take (posF b.ser ex)++(newS b ex v::b.ser.drop (posF b.ser ex)):=by
 have:serF b ex=none:=by
  have:=fnd_iff b hs ex
  rw [hf] at this
  simpa using this.symm
 unfold insS newS oldV
 rw [hf,this]
 rfl
theorem take_lt {l:List Ser} {ex:ByteArray} {s:Ser} (h:s∈l.take (posF l ex)):ltS s.name ex=true:=by
 obtain ⟨i,hi,rfl⟩:=zck ser0 h
 rw [yce] at hi
 have:(l.take (posF l ex)).getD i ser0=l.getD i ser0:=by simp [show i<posF l ex by omega]
 rw [this]
 exact posF_lt (by omega)
theorem drop_ge {l:List Ser} (hs:SrtS l) {ex:ByteArray} {s:Ser} (h:s∈l.drop (posF l ex)):ltS s.name ex=false:=by
 obtain ⟨i,hi,rfl⟩:=zck ser0 h
 rw [List.length_drop] at hi
 have:(l.drop (posF l ex)).getD i ser0=l.getD (posF l ex+i) ser0:=by simp
 rw [this]
 exact posF_ge hs (by omega) (by omega)
theorem no_name {b:Bk} (hs:SrtS b.ser) {ex:ByteArray} (hf:fndF b.ser ex=false):∀ s∈b.ser,s.name≠ex:=by
 have:=fnd_iff b hs ex
 rw [hf] at this
 exact serF_none.1 (by simpa using this.symm)
theorem srt_ins {b:Bk} (h:SrtS b.ser) (ex:ByteArray) (v:Ver):SrtS (insS b.ser ex v):=by
 cases hf:fndF b.ser ex with
 | true =>
   obtain ⟨h1,h2,-⟩:=fnd_at h hf
   rw [ins_found h hf]
   unfold SrtS at h ⊢
   have e:∀ l:List Ser,(l.Pairwise fun s t=>ltS s.name t.name=true)↔(l.map Ser.name).Pairwise fun s t=>ltS s t=true:=fun l=>(List.pairwise_map (f:=Ser.name) (R:=fun s t=>ltS s t=true)).symm
   rw [e] at h ⊢
   rw [List.map_set]
   have:(b.ser.map Ser.name).set (posF b.ser ex) (newS b ex v).name=b.ser.map Ser.name:=by
    apply ybn
    intro j
    rw [yaw]
    by_cases hj:posF b.ser ex=j
    ·subst hj
     rw [if_pos rfl,yav,if_pos h1,ya7,yal h1]
     have:b.ser.getD (posF b.ser ex) ser0=b.ser[posF b.ser ex]:=by simp [yal h1]
     rw [this] at h2
     simp [newS,h2]
    ·rw [if_neg hj]
   rw [this]
   exact h
 | false =>
   rw [ins_new h hf]
   unfold SrtS
   rw [List.pairwise_append,List.pairwise_cons]
   have hno:=no_name h hf
   have hd:∀ t∈b.ser.drop (posF b.ser ex),ltS ex t.name=true:=fun t ht=>by
    have h1:=drop_ge h ht
    have h2:=hno t (List.mem_of_mem_drop ht)
    cases h3:ltS ex t.name with
    | true=>rfl
    | false=>exact absurd (ltS_tri h1 h3) h2
   refine ⟨h.sublist (List.take_sublist _ _),⟨hd,h.sublist (List.drop_sublist _ _)⟩,fun s hs t ht=>?_⟩
   rcases yay.1 ht with rfl|ht
   ·exact take_lt hs
   ·exact zg7 (take_lt hs) (hd t ht)
theorem mem_ins {b:Bk} (h:SrtS b.ser) {ex:ByteArray} {v:Ver} {s:Ser}:s∈insS b.ser ex v↔(s∈b.ser∧s.name≠ex)∨s=newS b ex v:=by
 cases hf:fndF b.ser ex with
 | true =>
   obtain ⟨h1,h2,-⟩:=fnd_at h hf
   rw [ins_found h hf,List.set_eq_take_append_cons_drop,if_pos h1]
   have hd:b.ser=b.ser.take (posF b.ser ex)++(b.ser.getD (posF b.ser ex) ser0::b.ser.drop (posF b.ser ex+1)):=by
    have:=take_drop_q (l:=b.ser) (q:=posF b.ser ex) (k:=b.ser.length) h1 (yax _)
    rwa [ya2] at this
   have hp:(b.ser.take (posF b.ser ex)++(b.ser.getD (posF b.ser ex) ser0::b.ser.drop (posF b.ser ex+1))).Pairwise fun s t=>ltS s.name t.name=true:=by rw [← hd];exact h
   rw [List.pairwise_append,List.pairwise_cons] at hp
   obtain ⟨-,⟨q1,-⟩,q2⟩:=hp
   constructor
   ·intro hs
    rcases ybh.1 hs with hs|hs
    ·refine .inl ⟨List.mem_of_mem_take hs,fun he=>?_⟩
     have:=take_lt hs
     rw [he,ltS_irr] at this
     cases this
    ·rcases yay.1 hs with hs|hs
     ·exact .inr hs
     ·refine .inl ⟨List.mem_of_mem_drop hs,fun he=>?_⟩
      have:=q1 s hs
      rw [h2,he,ltS_irr] at this
      cases this
   ·rintro (⟨hs,hn⟩|rfl)
    ·rw [hd] at hs
     rcases ybh.1 hs with hs|hs
     ·exact List.mem_append_left _ hs
     ·rcases yay.1 hs with rfl|hs
      ·exact absurd h2 hn
      ·exact List.mem_append_right _ (ya4 _ hs)
    ·exact List.mem_append_right _ ybc
 | false =>
   have hno:=no_name h hf
   rw [ins_new h hf]
   constructor
   ·intro hs
    rcases ybh.1 hs with hs|hs
    ·exact .inl ⟨List.mem_of_mem_take hs,hno _ (List.mem_of_mem_take hs)⟩
    ·rcases yay.1 hs with hs|hs
     ·exact .inr hs
     ·exact .inl ⟨List.mem_of_mem_drop hs,hno _ (List.mem_of_mem_drop hs)⟩
   ·rintro (⟨hs,hn⟩|rfl)
    ·rw [← yck (posF b.ser ex) b.ser] at hs
     rcases ybh.1 hs with hs|hs
     ·exact List.mem_append_left _ hs
     ·exact List.mem_append_right _ (ya4 _ hs)
    ·exact List.mem_append_right _ ybc
theorem serF_ins {b:Bk} (h:SrtS b.ser) (ex:ByteArray) (v:Ver) (x:ByteArray):serF ⟨insS b.ser ex v,b.ent⟩ x=if x=ex then some (newS b ex v) else serF b x:=by
 have hs:SrtS (Bk.mk (insS b.ser ex v) b.ent).ser:=srt_ins h ex v
 by_cases hx:x=ex
 ·rw [if_pos hx]
  subst hx
  exact (serF_iff hs).2 ⟨(mem_ins h).2 (.inr rfl),rfl⟩
 ·rw [if_neg hx]
  cases hq:serF b x with
  | some s =>
    obtain ⟨h1,h2⟩:=zc7 hq
    exact (serF_iff hs).2 ⟨(mem_ins h).2 (.inl ⟨h1,fun e=>hx (h2.symm.trans e)⟩),h2⟩
  | none =>
    refine serF_none.2 fun s hm hn=>?_
    rcases (mem_ins h).1 hm with ⟨h1,-⟩|rfl
    ·exact serF_none.1 hq s h1 hn
    ·exact hx hn.symm
theorem verF_snoc (l:List Ver) (v:Ver) (d:Int):verF (l++[v]) d=if v.at_≤d then some v else verF l d:=by
 unfold verF
 rw [lastF_app]
 by_cases h:v.at_≤d <;> simp [lastF,h]
theorem force_ins {b:Bk} (h:SrtS b.ser) (ex:ByteArray) (v:Ver) (x:ByteArray) (d:Int):za3 ⟨insS b.ser ex v,b.ent⟩ x d=if x=ex∧v.at_≤d then some v else za3 b x d:=by
 unfold za3
 rw [serF_ins h]
 by_cases hx:x=ex
 ·subst hx
  rw [if_pos rfl]
  simp only [yct,true_and]
  unfold newS oldV
  rw [verF_snoc]
 ·rw [if_neg hx]
  simp [hx]
theorem le_last {l:List Ent} (h:l.Pairwise fun e f=>e.day≤f.day) {e:Ent} (he:e∈l):e.day≤(l.getD (l.length-1) ent0).day:=by
 obtain ⟨i,hi,rfl⟩:=zck ent0 he
 rcases yag i (l.length-1) with h1|h1
 ·exact zg1 (R:=fun e f:Ent=>e.day≤f.day) (d:=ent0) h h1 (by omega)
 ·rw [show i=l.length-1 by omega]
  exact Int.le_refl _
theorem le_lastV {l:List Ver} (h:l.Pairwise fun v w=>v.at_<w.at_) {v:Ver} (he:v∈l):v.at_≤(l.getD (l.length-1) ver0).at_:=by
 obtain ⟨i,hi,rfl⟩:=zck ver0 he
 rcases yag i (l.length-1) with h1|h1
 ·exact Int.le_of_lt (zg1 (R:=fun e f:Ver=>e.at_<f.at_) (d:=ver0) h h1 (by omega))
 ·rw [show i=l.length-1 by omega]
  exact Int.le_refl _
structure PubOk (b:Bk) (ex:ByteArray) (v:Ver):Prop where
 vb:VB b
 nm:zcg ex=true
 day:isDay v.at_=true
 sch:zbv v.sch=true
 late:∀ w∈oldV b ex,w.at_<v.at_
 past:∀ e∈b.ent,e.day<v.at_
 len:(oldV b ex).length<20
 full:serF b ex=none→b.ser.length<40
theorem oldV_vv {b:Bk} (h:VB b) {ex:ByteArray}:(∃ s,serF b ex=some s∧oldV b ex=s.vers∧VV (oldV b ex))∨(serF b ex=none∧oldV b ex=[]):=by
 cases hs:serF b ex with
 | none=>exact .inr ⟨rfl,by unfold oldV;rw [hs];rfl⟩
 | some s =>
   have:oldV b ex=s.vers:=by unfold oldV;rw [hs];rfl
   exact .inl ⟨s,rfl,this,by rw [this];exact h.vs s (zc7 hs).1⟩
theorem pub_ok {b:Bk} {ex:ByteArray} {v:Ver} (hE:pubE b ex v=0):PubOk b ex v:=by
 cases hi:pubIn b ex v with
 | false=>unfold pubE at hE;rw [hi] at hE;cases hE
 | true =>
   unfold pubE at hE
   rw [hi] at hE
   simp only [if_true] at hE
   have h1:zfo b ex v=false:=by
    cases h:zfo b ex v with
    | false=>rfl
    | true=>rw [h] at hE;cases hE
   rw [h1] at hE
   have h2:zfn b v=false:=by
    cases h:zfn b v with
    | false=>rfl
    | true=>rw [h] at hE;cases hE
   rw [h2] at hE
   have h3:zfp b ex=false:=by
    cases h:zfp b ex with
    | false=>rfl
    | true=>rw [h] at hE;cases hE
   unfold pubIn at hi
   simp only [yak] at hi
   obtain ⟨hV,hN,hD,hS⟩:=hi
   have hvb:=validF_iff.1 hV
   unfold zfo at h1
   unfold zfn at h2
   unfold zfp at h3
   simp only [Bool.or_eq_false_iff,decide_eq_false_iff_not] at h3
   refine ⟨hvb,hN,hD,hS,fun w hw=>?_,fun e he=>?_,?_,fun hn=>?_⟩
   ·rcases oldV_vv hvb (ex:=ex) with ⟨s,q1,q2,q3⟩|⟨q1,q2⟩
    ·rw [q1] at h1
     simp only [Option.isSome_some,ya8,yct,decide_eq_false_iff_not] at h1
     rw [q2] at hw q3
     have:=le_lastV q3.srt hw
     omega
    ·rw [q2] at hw
     cases hw
   ·have hp:0<b.ent.length:=List.length_pos_iff.2 (List.ne_nil_of_mem he)
    rw [decide_eq_true hp] at h2
    simp only [ya8,decide_eq_false_iff_not] at h2
    have:=le_last hvb.esrt he
    omega
   ·have:=h3.1
    show ((serF b ex).getD ser0).vers.length<20
    omega
   ·have:=h3.2
    rw [hn] at this
    simp at this
    omega
theorem pub_valid {b:Bk} {ex:ByteArray} {v:Ver} (h:PubOk b ex v):VB ⟨insS b.ser ex v,b.ent⟩:=by
 have hs:SrtS b.ser:=h.vb.srt
 refine ⟨?_,h.vb.ne,srt_ins hs ex v,fun s hm=>?_,fun s hm=>?_,h.vb.esrt,fun e he=>?_,h.vb.att⟩
 ·show (insS b.ser ex v).length≤40
  rw [zha]
  have hf:=fnd_iff b hs ex
  split
  ·exact h.vb.ns
  ·rename_i hn
   rw [hf] at hn
   have:=h.full (by simpa using hn)
   omega
 ·rcases (mem_ins hs).1 hm with ⟨h1,-⟩|rfl
  ·exact h.vb.nm s h1
  ·exact h.nm
 ·rcases (mem_ins hs).1 hm with ⟨h1,-⟩|rfl
  ·exact h.vb.vs s h1
  ·have hl:=h.len
   refine ⟨by simp [newS],by simp [newS];omega,fun w hw=>?_,fun w hw=>?_,?_⟩
   ·rcases ybh.1 hw with hw|hw
    ·rcases oldV_vv h.vb (ex:=ex) with ⟨s,-,-,q3⟩|⟨-,q2⟩
     ·exact q3.day w hw
     ·rw [q2] at hw;cases hw
    ·rw [yaz.1 hw];exact h.day
   ·rcases ybh.1 hw with hw|hw
    ·rcases oldV_vv h.vb (ex:=ex) with ⟨s,-,-,q3⟩|⟨-,q2⟩
     ·exact q3.sch w hw
     ·rw [q2] at hw;cases hw
    ·rw [yaz.1 hw];exact h.sch
   ·show (oldV b ex++[v]).Pairwise _
    rw [List.pairwise_append]
    refine ⟨?_,List.pairwise_singleton _ _,fun w hw u hu=>?_⟩
    ·rcases oldV_vv h.vb (ex:=ex) with ⟨s,-,-,q3⟩|⟨-,q2⟩
     ·exact q3.srt
     ·rw [q2];exact .nil
    ·rw [yaz.1 hu]
     exact h.late w hw
 ·obtain ⟨q1,q2,q3,q4⟩:=h.vb.ent e he
  refine ⟨q1,q2,?_,q4⟩
  have:=h.past e he
  rw [force_ins hs,if_neg (by omega)]
  exact q3
structure SubOk (b:Bk) (e:Ent):Prop where
 vb:VB b
 nm:zcg e.stu=true
 nx:zcg e.exe=true
 day:isDay e.day=true
 frc:(za3 b e.exe e.day).isSome=true
 wrk:zbr (wrk1 e.work)=true
 past:∀ f∈b.ent,f.day≤e.day
 len:b.ent.length<2000
 att:subAtt b e≤100
theorem sub_ok {b:Bk} {e:Ent} (hE:subE b e=0):SubOk b e:=by
 cases hi:subIn b e with
 | false=>unfold subE at hE;rw [hi] at hE;cases hE
 | true =>
   unfold subE at hE
   rw [hi] at hE
   simp only [if_true] at hE
   have h1:ze0 b e=false:=by
    cases h:ze0 b e with
    | false=>rfl
    | true=>rw [h] at hE;cases hE
   rw [h1] at hE
   have h2:(za3 b e.exe e.day).isSome=true:=by
    cases h:(za3 b e.exe e.day).isSome with
    | true=>rfl
    | false=>rw [h] at hE;cases hE
   rw [h2] at hE
   have h3:subFull b e=false:=by
    cases h:subFull b e with
    | false=>rfl
    | true=>rw [h] at hE;cases hE
   unfold subIn at hi
   simp only [yak] at hi
   obtain ⟨hV,hN,hX,hD,hW⟩:=hi
   have hvb:=validF_iff.1 hV
   unfold ze0 at h1
   unfold subFull at h3
   simp only [Bool.or_eq_false_iff,decide_eq_false_iff_not] at h3
   refine ⟨hvb,hN,hX,hD,h2,hW,fun f hf=>?_,by omega,by omega⟩
   have hp:0<b.ent.length:=List.length_pos_iff.2 (List.ne_nil_of_mem hf)
   rw [decide_eq_true hp] at h1
   simp only [ya8,decide_eq_false_iff_not] at h1
   have:=le_last hvb.esrt hf
   omega
theorem getD_app_lt {α:Type} (l:List α) (x d:α) {i:Nat} (h:i<l.length):(l++[x]).getD i d=l.getD i d:=by
 simp [yaj h]
theorem getD_app_eq {α:Type} (l:List α) (x d:α):(l++[x]).getD l.length d=x:=by
 simp
theorem sub_valid {b:Bk} {e:Ent} (h:SubOk b e):VB ⟨b.ser,b.ent++[zgc b e]⟩:=by
 refine ⟨h.vb.ns,?_,h.vb.srt,h.vb.nm,h.vb.vs,?_,fun f hf=>?_,fun i hi=>?_⟩
 ·have:=h.len
  simp
  omega
 ·show (b.ent++[zgc b e]).Pairwise _
  rw [List.pairwise_append]
  refine ⟨h.vb.esrt,List.pairwise_singleton _ _,fun f hf g hg=>?_⟩
  rw [yaz.1 hg]
  exact h.past f hf
 ·rcases ybh.1 hf with hf|hf
  ·obtain ⟨q1,q2,q3,q4⟩:=h.vb.ent f hf
   exact ⟨q1,q2,q3,q4⟩
  ·rw [yaz.1 hf]
   refine ⟨h.nm,h.day,h.frc,?_⟩
   have hw:=h.wrk
   have ha:=h.att
   unfold zbr wrk1 at hw
   unfold zbr zgc
   simp only [yak] at hw ⊢
   obtain ⟨w1,w2,w3,w4⟩:=hw
   refine ⟨w1,w2,?_,w4⟩
   have:1≤subAtt b e:=by unfold subAtt;omega
   unfold btw
   simp
   omega
 ·show ((b.ent++[zgc b e]).getD i ent0).work.att=(cntK ((b.ent++[zgc b e]).take (i+1)) (keyOf ((b.ent++[zgc b e]).getD i ent0)):Nat)
  have hi:i<b.ent.length+1:=by simpa using hi
  rcases yag i b.ent.length with h1|h1
  ·rw [getD_app_lt _ _ _ h1,List.take_append_of_le_length (by omega)]
   exact h.vb.att i h1
  ·have:i=b.ent.length:=by omega
   subst this
   rw [getD_app_eq,yb3 (by simp)]
   have:keyOf (zgc b e)=keyOf e:=rfl
   rw [this]
   have h2:=zfw b.ent (zgc b e)
   rw [this] at h2
   rw [h2]
   rfl
theorem bk0_vb:VB bk0:=by
 refine ⟨yah _,yah _,.nil,fun s hs=>(by cases hs),fun s hs=>(by cases hs),.nil,fun s hs=>(by cases hs),fun i hi=>absurd hi (Nat.not_lt_zero i)⟩
theorem zf7 (b:Bk):∃ n1 c1 n2 c2,b.cells=[.sl none n1 c1,.sl none n2 c2]∧∀ n,zac n c1∧zac n c2:=⟨_,_,_,_,rfl,fun n=>⟨zae n _,zag n _⟩⟩
def flatF (n:Int):Sch:=⟨n,0,0,0,0,1,[]⟩
theorem flat_c (n:Int) (H:Heap):VDet Tryz.prog 22 [.int .i64 n] H (.agg (flatF n).cells):=by
 refine zap Tryz.E0 zad Tryz.func22 (by kernel_rfl) rfl (ybv rfl) rfl fun hcl hbl=>?_
 (repeat' ((conv=>whnf);(first|refine zab [] ?_|fail)));all_goals (conv=>whnf)
 exact ya1 (by simp [below,zac,flatF,Sch.cells]) (by simp only [flatF,Sch.cells];(repeat' (first|exact trivial|refine ybz ?_ ?_|exact yae _|exact wk_sl _ _ _|exact wk_sx _ _|exact zbp|refine zbs ?_|refine zby ?_|fail));done)
def ptsOf (b:Bk) (d:Int):Int:=if repE b d=0∧(repR b d).length=1 then ((repR b d).getD 0 rw0).pts else -1
theorem repE_cases (b:Bk) (d:Int):repE b d=0∨repE b d=2:=by
 unfold repE
 split
 ·exact .inl rfl
 ·exact .inr rfl
theorem zeh (b:Bk) (hb:b.Sm) (d:Int) (H:Heap):VDet Tryz.prog 23 [.agg b.cells,.int .i64 d] H (.int .i64 (ptsOf b d)):=by
 have hre:=fun H=>reportR_c b hb d H
 unfold ptsOf
 obtain ⟨n1,c1,n2,c2,hc,-⟩:=zf7 b
 rw [hc] at hre ⊢
 have hE:=repE_cases b d
 generalize repE b d=e at *
 generalize repR b d=l at *
 by_cases he:e=0
 ·subst he
  by_cases hl:l.length=1
  ·rw [if_pos ⟨rfl,hl⟩]
   obtain ⟨x,y,p,hx⟩:=rw_ex (l.getD 0 rw0)
   have e1:=rw_cells hx
   rw [hx]
   refine zap Tryz.E0 zad Tryz.func23 (by kernel_rfl) rfl (ybv rfl) rfl fun hcl hbl=>?_
   (repeat' ((conv=>whnf);(first|(refine yai ?_;first|refine yas ?_|refine yaq rfl ?_|refine yar (by omega) ?_|fail)|(refine yaf ?_ ?_;· first|kernel_rfl|omega|exact yaa _ _|(simp;done)|(simp;omega)|exact trivial|assumption|fail)|refine yab _ (hre _) ?_|refine zai rw0 0 rfl (by omega) rw_size e1 ?_|refine zab [] ?_|fail)));all_goals (conv=>whnf)
   exact eT trivial
  ·rw [if_neg (fun h=>hl h.2)]
   refine zap Tryz.E0 zad Tryz.func23 (by kernel_rfl) rfl (ybv rfl) rfl fun hcl hbl=>?_
   (repeat' ((conv=>whnf);(first|(refine yai ?_;first|refine yas ?_|refine yaq rfl ?_|refine zat (by omega) ?_|fail)|refine yab _ (hre _) ?_|refine zab [] ?_|fail)));all_goals (conv=>whnf)
   exact eT trivial
 ·rw [if_neg (fun h=>he h.1)]
  refine zap Tryz.E0 zad Tryz.func23 (by kernel_rfl) rfl (ybv rfl) rfl fun hcl hbl=>?_
  (repeat' ((conv=>whnf);(first|(refine yai ?_;first|refine yas ?_|refine zat (by omega) ?_|fail)|refine yab _ (hre _) ?_|refine zab [] ?_|fail)));all_goals (conv=>whnf)
  exact eT trivial
def awN:ByteArray:=⟨#[101,49]⟩
def awA:Bk:=pubF bk0 awN ⟨0,flatF 10⟩
def awB:Bk:=pubF awA awN ⟨5,flatF 20⟩
def awE:Ent:=⟨⟨#[97,110,110]⟩,awN,2,⟨1152921504606846976,0,0,0⟩⟩
def awC:Bk:=subF awA awE
def awD:Bk:=pubF awC awN ⟨5,flatF 20⟩
def awG:Bk:=pubF awD awN ⟨7,flatF 30⟩
theorem aw_vb {b:Bk} {ex:ByteArray} {v:Ver} (h:pubE b ex v=0):VB (pubF b ex v):=by
 unfold pubF
 rw [if_pos h]
 exact pub_valid (pub_ok h)
theorem aw_vs {b:Bk} {e:Ent} (h:subE b e=0):VB (subF b e):=by
 unfold subF
 rw [if_pos h]
 exact sub_valid (sub_ok h)
theorem awake_c (H:Heap):VDet Tryz.prog 5 [] H (.bool true):=by
 have q1:pubE bk0 awN ⟨0,flatF 10⟩=0:=by kernel_rfl
 have q2:pubE awA awN ⟨5,flatF 20⟩=0:=by kernel_rfl
 have q3:subE awA awE=0:=by kernel_rfl
 have q4:pubE awC awN ⟨5,flatF 20⟩=0:=by kernel_rfl
 have q5:pubE awD awN ⟨7,flatF 30⟩=0:=by kernel_rfl
 have vA:VB awA:=aw_vb q1
 have vB:VB awB:=aw_vb q2
 have vC:VB awC:=aw_vs q3
 have vD:VB awD:=aw_vb q4
 have vG:VB awG:=aw_vb q5
 have hA:∀ H,VDet Tryz.prog 21 [.agg [.nils,.nils],.str awN,.agg (Ver.mk 0 (flatF 10)).cells] H (.tup [.agg awA.cells,.int .i64 0]):=fun H=>by
  have:=zg2 bk0 bk0_vb.sm awN ⟨0,flatF 10⟩ H
  rw [q1] at this
  exact VDet.wk this ⟨zbs ⟨zbp,zbp,trivial⟩,yae _,yae _,trivial⟩
 have hB:∀ H,VDet Tryz.prog 21 [.agg awA.cells,.str awN,.agg (Ver.mk 5 (flatF 20)).cells] H (.tup [.agg awB.cells,.int .i64 0]):=fun H=>by
  have:=zg2 awA vA.sm awN ⟨5,flatF 20⟩ H
  rwa [q2] at this
 have hC:∀ H,VDet Tryz.prog 24 [.agg awA.cells,.agg awE.cells] H (.tup [.agg awC.cells,.int .i64 0]):=fun H=>by
  have:=submit_c awA vA.sm awE H
  rwa [q3] at this
 have hD:∀ H,VDet Tryz.prog 21 [.agg awC.cells,.str awN,.agg (Ver.mk 5 (flatF 20)).cells] H (.tup [.agg awD.cells,.int .i64 0]):=fun H=>by
  have:=zg2 awC vC.sm awN ⟨5,flatF 20⟩ H
  rwa [q4] at this
 have hG:∀ H,VDet Tryz.prog 21 [.agg awD.cells,.str awN,.agg (Ver.mk 7 (flatF 30)).cells] H (.tup [.agg awG.cells,.int .i64 0]):=fun H=>by
  have:=zg2 awD vD.sm awN ⟨7,flatF 30⟩ H
  rwa [q5] at this
 have p1:∀ H,VDet Tryz.prog 23 [.agg awB.cells,.int .i64 5] H (.int .i64 (-1)):=fun H=>by
  have:=zeh awB vB.sm 5 H
  rwa [show ptsOf awB 5=-1 by kernel_rfl] at this
 have p2:∀ H,VDet Tryz.prog 23 [.agg awD.cells,.int .i64 1] H (.int .i64 (-1)):=fun H=>by
  have:=zeh awD vD.sm 1 H
  rwa [show ptsOf awD 1=-1 by kernel_rfl] at this
 have p3:∀ H,VDet Tryz.prog 23 [.agg awD.cells,.int .i64 2] H (.int .i64 10):=fun H=>by
  have:=zeh awD vD.sm 2 H
  rwa [show ptsOf awD 2=10 by kernel_rfl] at this
 have p4:∀ H,VDet Tryz.prog 23 [.agg awD.cells,.int .i64 4] H (.int .i64 10):=fun H=>by
  have:=zeh awD vD.sm 4 H
  rwa [show ptsOf awD 4=10 by kernel_rfl] at this
 have p5:∀ H,VDet Tryz.prog 23 [.agg awD.cells,.int .i64 5] H (.int .i64 20):=fun H=>by
  have:=zeh awD vD.sm 5 H
  rwa [show ptsOf awD 5=20 by kernel_rfl] at this
 have p6:∀ H,VDet Tryz.prog 23 [.agg awG.cells,.int .i64 2] H (.int .i64 10):=fun H=>by
  have:=zeh awG vG.sm 2 H
  rwa [show ptsOf awG 2=10 by kernel_rfl] at this
 have p7:∀ H,VDet Tryz.prog 23 [.agg awG.cells,.int .i64 5] H (.int .i64 20):=fun H=>by
  have:=zeh awG vG.sm 5 H
  rwa [show ptsOf awG 5=20 by kernel_rfl] at this
 have p8:∀ H,VDet Tryz.prog 23 [.agg awG.cells,.int .i64 7] H (.int .i64 30):=fun H=>by
  have:=zeh awG vG.sm 7 H
  rwa [show ptsOf awG 7=30 by kernel_rfl] at this
 have f1:=fun H=>flat_c 10 H
 have f2:=fun H=>flat_c 20 H
 have f3:=fun H=>flat_c 30 H
 clear vA vB vC vD vG q1 q2 q3 q4 q5
 obtain ⟨nA,cA,mA,dA,eA,-⟩:=zf7 awA
 obtain ⟨nB,cB,mB,dB,eB,-⟩:=zf7 awB
 obtain ⟨nC,cC,mC,dC,eC,-⟩:=zf7 awC
 obtain ⟨nD,cD,mD,dD,eD,-⟩:=zf7 awD
 obtain ⟨nG,cG,mG,dG,eG,-⟩:=zf7 awG
 simp only [eA,eB,eC,eD,eG] at hA hB hC hD hG p1 p2 p3 p4 p5 p6 p7 p8
 refine zap Tryz.E0 zad Tryz.func5 (by kernel_rfl) rfl (ybv rfl) rfl fun hcl hbl=>?_
 (repeat' ((conv=>whnf);(first|(refine yai ?_;first|refine yas ?_|refine yaq rfl ?_|fail)|(refine yaf ?_ ?_;· first|kernel_rfl|omega|exact yaa _ _|(simp;done)|(simp;omega)|exact trivial|assumption|fail)|(refine ybi ?_;first|refine yab _ (f1 _) ?_|refine yab _ (hA _) ?_|refine yab _ (hC _) ?_|refine yab _ (p1 _) ?_|refine yab _ (p2 _) ?_|refine yab _ (p3 _) ?_|refine yab _ (p4 _) ?_|refine yab _ (p5 _) ?_|refine yab _ (p6 _) ?_|refine yab _ (p7 _) ?_|refine yab _ (p8 _) ?_|fail)|(refine ycc ?_;first|refine yan _ (fun _ hq X=>f2 _) ?_|refine yan _ (fun _ hq X=>f3 _) ?_|refine yan _ (fun _ hq X=>hB _) ?_|refine yan _ (fun _ hq X=>hD _) ?_|refine yan _ (fun _ hq X=>hG _) ?_|fail)|refine zab [] ?_|fail)));all_goals (conv=>whnf)
 exact eT trivial
theorem neq5_F (a b c d e:Int):(!((a==a)&&((b==b)&&((c==c)&&((d==d)&&((e==e)&&true))))))=false:=by simp
def mrk0:Mrk:=⟨0,0,0,0,0⟩
theorem tells_n (n1:Nat) (c1:List AV) (n2:Nat) (c2:List AV) (d1 d2:Int) (ex st:ByteArray) (va dd:Bool) (hvd:va=false∨dd=false)
  (haw:∀ H,VDet Tryz.prog 5 [] H (.bool true))
  (hfew:∀ H,VDet Tryz.prog 4 [.agg [.sl none n1 c1,.sl none n2 c2]] H (.bool true))
  (hgiv:∀ H,VDet Tryz.prog 6 [.agg [.sl none n1 c1,.sl none n2 c2]] H (.agg [.sl none n1 c1,.sl none n2 c2]))
  (hrv:∀ H,VDet Tryz.prog 7 [.agg [.sl none n1 c1,.sl none n2 c2]] H (.bool va))
  (h8:∀ H,VDet Tryz.prog 8 [.agg [.sl none n1 c1,.sl none n2 c2],.str ex,.int .i64 d2] H (.tup [.agg [.int .i64 0,.int .i64 0,.sl none 0 [],.int .i64 0,.int .i64 0,.int .i64 0,.int .u8 0],.int .i64 2]))
  (h9:∀ H,VDet Tryz.prog 9 [.agg [.sl none n1 c1,.sl none n2 c2],.int .i64 d2] H (.tup [.sl none 0 [],.int .i64 2]))
  (h10:∀ H,VDet Tryz.prog 10 [.agg [.sl none n1 c1,.sl none n2 c2],.str ex,.str st,.int .i64 d2] H (.tup [.sl none 0 [],.int .i64 2]))
  (h11:∀ H,VDet Tryz.prog 11 [.agg [.sl none n1 c1,.sl none n2 c2],.int .i64 d1,.int .i64 d2] H (.tup [.sl none 0 [],.int .i64 2]))
  (h12:∀ H,VDet Tryz.prog 12 [.agg [.sl none n1 c1,.sl none n2 c2]] H (.bool va))
  (h13:∀ H,VDet Tryz.prog 13 [.int .i64 d2] H (.bool dd))
  (h14:∀ H,VDet Tryz.prog 14 [.agg [.int .i64 0,.int .i64 0,.sl none 0 [],.int .i64 0,.int .i64 0,.int .i64 0,.int .u8 0],.agg [.int .i64 0,.int .i64 0,.nils,.int .i64 0,.int .i64 0,.int .i64 0,.int .u8 0]] H (.bool true)) (H:Heap) :
  VDet Tryz.prog 3 [.agg [.sl none n1 c1,.sl none n2 c2],.int .i64 d1,.int .i64 d2,.str ex,.str st] H (.bool true):=by
 cases va with
 | false =>
   refine zap Tryz.E0 zad Tryz.func3 (by kernel_rfl) rfl (ybv rfl) rfl fun hcl hbl=>?_
   (repeat' ((conv=>whnf);(first|(refine yai ?_;first|refine yas ?_|refine yaq rfl ?_|refine yau rfl ?_|fail)|(refine zao _ _ Cst.h Cst.h ?_ ?_;· omega)|(refine ybi ?_;first|refine yab _ (haw _) ?_|refine yab _ (hfew _) ?_|refine yab _ (hgiv _) ?_|refine yab _ (hrv _) ?_|refine yab _ (h8 _) ?_|refine yab _ (h9 _) ?_|refine yab _ (h10 _) ?_|refine yab _ (h11 _) ?_|refine yab _ (h12 _) ?_|refine yab _ (h14 _) ?_|fail)|fail)));conv=>whnf
   exact eT trivial
 | true =>
   obtain rfl:dd=false:=hvd.resolve_left (by decide)
   refine zap Tryz.E0 zad Tryz.func3 (by kernel_rfl) rfl (ybv rfl) rfl fun hcl hbl=>?_
   (repeat' ((conv=>whnf);(first|(refine yai ?_;first|refine yas ?_|refine yaq rfl ?_|refine yau rfl ?_|fail)|(refine zao _ _ Cst.h Cst.h ?_ ?_;· omega)|(refine ybi ?_;first|refine yab _ (haw _) ?_|refine yab _ (hfew _) ?_|refine yab _ (hgiv _) ?_|refine yab _ (hrv _) ?_|refine yab _ (h8 _) ?_|refine yab _ (h9 _) ?_|refine yab _ (h10 _) ?_|refine yab _ (h11 _) ?_|refine yab _ (h12 _) ?_|refine yab _ (h13 _) ?_|refine yab _ (h14 _) ?_|fail)|fail)));conv=>whnf
   exact eT trivial
theorem tells_f (n1:Nat) (c1:List AV) (n2:Nat) (c2:List AV) (d1 d2:Int) (ex st:ByteArray) (f2 f3 f4 f5 f6 f7:Int) (e:Int) (ok:Bool) (heo:(e=0∧ok=true)∨(e=6∧ok=false))
  (nr:Nat) (cr:List AV) (L:List Mrk) (hLl:L.length≤1000000) (g:Int) (hg:(L.length=0∧g=6)∨(0<L.length∧g=0)) (nc:Nat) (cc:List AV) (h:Int) (df:Bool) (hdf:(df=true∧h=0)∨(df=false∧h=2∧nc=0))
  (haw:∀ H,VDet Tryz.prog 5 [] H (.bool true))
  (hfew:∀ H,VDet Tryz.prog 4 [.agg [.sl none n1 c1,.sl none n2 c2]] H (.bool true))
  (hgiv:∀ H,VDet Tryz.prog 6 [.agg [.sl none n1 c1,.sl none n2 c2]] H (.agg [.sl none n1 c1,.sl none n2 c2]))
  (hrv:∀ H,VDet Tryz.prog 7 [.agg [.sl none n1 c1,.sl none n2 c2]] H (.bool true))
  (h8:∀ H,VDet Tryz.prog 8 [.agg [.sl none n1 c1,.sl none n2 c2],.str ex,.int .i64 d2] H (.tup [.agg [.int .i64 f2,.int .i64 f3,.sl none 0 [],.int .i64 f4,.int .i64 f5,.int .i64 f6,.int .u8 f7],.int .i64 e]))
  (h9:∀ H,VDet Tryz.prog 9 [.agg [.sl none n1 c1,.sl none n2 c2],.int .i64 d2] H (.tup [.sl none nr cr,.int .i64 0]))
  (h10:∀ H,VDet Tryz.prog 10 [.agg [.sl none n1 c1,.sl none n2 c2],.str ex,.str st,.int .i64 d2] H (.tup [.sl none L.length (L.flatMap Mrk.cells),.int .i64 g]))
  (h11:∀ H,VDet Tryz.prog 11 [.agg [.sl none n1 c1,.sl none n2 c2],.int .i64 d1,.int .i64 d2] H (.tup [.sl none nc cc,.int .i64 h]))
  (h12:∀ H,VDet Tryz.prog 12 [.agg [.sl none n1 c1,.sl none n2 c2]] H (.bool true))
  (h13:∀ H,VDet Tryz.prog 13 [.int .i64 d2] H (.bool true))
  (h13b:∀ H,VDet Tryz.prog 13 [.int .i64 d1] H (.bool df))
  (h14:∀ H,VDet Tryz.prog 14 [.agg [.int .i64 f2,.int .i64 f3,.sl none 0 [],.int .i64 f4,.int .i64 f5,.int .i64 f6,.int .u8 f7],.agg [.int .i64 f2,.int .i64 f3,.sl none 0 [],.int .i64 f4,.int .i64 f5,.int .i64 f6,.int .u8 f7]] H (.bool true))
  (h15:∀ H,VDet Tryz.prog 15 [.agg [.sl none n1 c1,.sl none n2 c2],.str ex,.int .i64 d2] H (.tup [.agg [.int .i64 f2,.int .i64 f3,.sl none 0 [],.int .i64 f4,.int .i64 f5,.int .i64 f6,.int .u8 f7],.bool ok]))
  (h16:∀ H,VDet Tryz.prog 16 [.agg [.sl none n1 c1,.sl none n2 c2],.str ex,.str st,.int .i64 d2] H (.sl none L.length (L.flatMap Mrk.cells)))
  (h17:∀ H,VDet Tryz.prog 17 [.sl none nr cr,.sl none nr cr] H (.bool true))
  (h17b:∀ H,VDet Tryz.prog 17 [.sl none nc cc,.sl none nc cc] H (.bool true))
  (h18:∀ H,VDet Tryz.prog 18 [.agg [.sl none n1 c1,.sl none n2 c2],.int .i64 d2] H (.sl none nr cr))
  (h19:df=true→∀ H,VDet Tryz.prog 19 [.agg [.sl none n1 c1,.sl none n2 c2],.int .i64 d1,.int .i64 d2] H (.sl none nc cc))
  (h20:∀ H,VDet Tryz.prog 20 [.agg [.sl none n1 c1,.sl none n2 c2],.agg [.sl none n1 c1,.sl none n2 c2]] H (.bool true)) (H:Heap) :
  VDet Tryz.prog 3 [.agg [.sl none n1 c1,.sl none n2 c2],.int .i64 d1,.int .i64 d2,.str ex,.str st] H (.bool true):=by
 have hq:(g==0)=decide ((0:Int)<(L.length:Int)):=by
  rcases hg with ⟨h1,rfl⟩|⟨h1,rfl⟩
  ·rw [h1];rfl
  ·rw [decide_eq_true (by omega)];rfl
 rcases heo with ⟨rfl,rfl⟩|⟨rfl,rfl⟩ <;> rcases hg with ⟨hg1,rfl⟩|⟨hg1,rfl⟩
 all_goals
  refine zap Tryz.E0 zad Tryz.func3 (by kernel_rfl) rfl (ybv rfl) rfl fun hcl hbl=>?_
  (repeat' ((conv=>whnf);(first|(refine yai ?_;first|refine yau (bne_self_eq_false _) ?_|refine yas ?_|refine yaq rfl ?_|refine yau rfl ?_|refine yar (by omega) ?_|refine zat (by omega) ?_|fail)|(refine ybi ?_;first|refine yab _ (hfew _) ?_|refine yab _ (hgiv _) ?_|refine yab _ (hrv _) ?_|refine yab _ (h8 _) ?_|refine yab _ (h9 _) ?_|refine yab _ (h10 _) ?_|refine yab _ (h11 _) ?_|refine yab _ (h12 _) ?_|refine yab _ (h13 _) ?_|refine yab _ (h14 _) ?_|refine yab _ (h15 _) ?_|refine yab _ (h16 _) ?_|refine yab _ (h17 _) ?_|refine yab _ (h18 _) ?_|fail)|fail)));all_goals (conv=>whnf)
  refine zbg Tryz.E0 zad (σ:=Nat) (fun k=>k≤L.length) (fun k=>L.length-k) (fun k=>[(180,.v (.int .i64 k))]) (fun _=>_) _ 0 rfl hcl [1,2,5,11,13,17,19,20,23,179] rfl (yah _) ⟨⟨_,rfl,yae _⟩,trivial⟩ rfl (fun _ _=>rfl) ?_
  intro k hk
  rcases yag k L.length with hlt|hge
  ·have e1:Mrk.cells (L.getD k mrk0)=[.int .i64 (L.getD k mrk0).points,.int .i64 (L.getD k mrk0).base,.int .i64 (L.getD k mrk0).late,.int .i64 (L.getD k mrk0).retry,.int .i64 (L.getD k mrk0).hints]:=rfl
   generalize (L.getD k mrk0).points=m1 at *
   generalize (L.getD k mrk0).base=m2 at *
   generalize (L.getD k mrk0).late=m3 at *
   generalize (L.getD k mrk0).retry=m4 at *
   generalize (L.getD k mrk0).hints=m5 at *
   (repeat' ((conv=>whnf);(first|(refine yai ?_;first|refine yau (neq5_F _ _ _ _ _) ?_|refine yar (by omega) ?_|fail)|(refine zao _ _ Cst.h Cst.h ?_ ?_;· omega)|(refine yaf ?_ ?_;· first|kernel_rfl|omega|exact yaa _ _|fail)|refine zai mrk0 k rfl (by omega) mrk_size e1 ?_|refine zab [] ?_|fail)));all_goals (conv=>whnf)
   (refine ⟨⟨k+1,by show k+1≤L.length;omega,by omega,?_,.inl ⟨rfl,rfl⟩,rfl,_,rfl,?_⟩⟩;rotate_left 1;exact .inl rfl;exact ⟨⟨_,rfl,yae _⟩,trivial⟩)
  ·obtain rfl:k=L.length:=by omega
   rcases hdf with ⟨rfl,rfl⟩|⟨rfl,rfl,rfl⟩
   ·have h19:=h19 rfl
    (repeat' ((conv=>whnf);(first|(refine yai ?_;first|refine yas ?_|refine yaq rfl ?_|refine zat (by omega) ?_|fail)|refine yab _ (h13b _) ?_|fail)));all_goals (conv=>whnf)
    refine ybd Tryz.E0 zad 1 rfl ?_
    (repeat' ((conv=>whnf);(first|(refine yai ?_;first|refine yaq rfl ?_|refine yau rfl ?_|fail)|(refine ybi ?_;first|refine yab _ (haw _) ?_|refine yab _ (h19 _) ?_|refine yab _ (h17b _) ?_|refine yab _ (h20 _) ?_|fail)|fail)));all_goals (conv=>whnf)
    exact eT trivial
   ·(repeat' ((conv=>whnf);(first|(refine yai ?_;first|refine yas ?_|refine yaq rfl ?_|refine yau rfl ?_|refine zat (by omega) ?_|fail)|(refine ybi ?_;first|refine yab _ (h13b _) ?_|refine yab _ (haw _) ?_|fail)|fail)));all_goals (conv=>whnf)
    exact eT trivial
theorem tells_o (n1:Nat) (c1:List AV) (n2:Nat) (c2:List AV) (d1 d2:Int) (ex st:ByteArray) (f2 f3 f4 f5 f6 f7:Int) (lates:List (Int×Int)) (hl1:0<lates.length) (hl8:lates.length≤8)
  (nr:Nat) (cr:List AV) (L:List Mrk) (hLl:L.length≤1000000) (g:Int) (hg:(L.length=0∧g=6)∨(0<L.length∧g=0)) (nc:Nat) (cc:List AV) (h:Int) (df:Bool) (hdf:(df=true∧h=0)∨(df=false∧h=2∧nc=0))
  (haw:∀ H,VDet Tryz.prog 5 [] H (.bool true))
  (hfew:∀ H,VDet Tryz.prog 4 [.agg [.sl none n1 c1,.sl none n2 c2]] H (.bool true))
  (hgiv:∀ H,VDet Tryz.prog 6 [.agg [.sl none n1 c1,.sl none n2 c2]] H (.agg [.sl none n1 c1,.sl none n2 c2]))
  (hrv:∀ H,VDet Tryz.prog 7 [.agg [.sl none n1 c1,.sl none n2 c2]] H (.bool true))
  (h8:∀ H:Heap,VCall Tryz.prog 8 [.agg [.sl none n1 c1,.sl none n2 c2],.str ex,.int .i64 d2] H fun r H'=>∃ z,r=.tup [.agg [.int .i64 f2,.int .i64 f3,.ms (H.length+5) 0 lates.length,.int .i64 f4,.int .i64 f5,.int .i64 f6,.int .u8 f7],.int .i64 0]∧H'=H++[.box 25 [.sl none n1 c1,.sl none n2 c2],.box 36 [.int .i64 f2,.int .i64 f3,.ms (H.length+5) 0 lates.length,.int .i64 f4,.int .i64 f5,.int .i64 f6,.int .u8 f7],.box 36 [.int .i64 f2,.int .i64 f3,.sl none lates.length (lates.flatMap encP),.int .i64 f4,.int .i64 f5,.int .i64 f6,.int .u8 f7],.box 36 [.int .i64 f2,.int .i64 f3,.ms (H.length+5) 0 lates.length,.int .i64 f4,.int .i64 f5,.int .i64 f6,.int .u8 f7],.box 36 [.int .i64 f2,.int .i64 f3,.ms (H.length+5) 0 lates.length,.int .i64 f4,.int .i64 f5,.int .i64 f6,.int .u8 f7],.box 63 (lates.flatMap encP++List.replicate z .junk)])
  (h9:∀ H,VDet Tryz.prog 9 [.agg [.sl none n1 c1,.sl none n2 c2],.int .i64 d2] H (.tup [.sl none nr cr,.int .i64 0]))
  (h10:∀ H,VDet Tryz.prog 10 [.agg [.sl none n1 c1,.sl none n2 c2],.str ex,.str st,.int .i64 d2] H (.tup [.sl none L.length (L.flatMap Mrk.cells),.int .i64 g]))
  (h11:∀ H,VDet Tryz.prog 11 [.agg [.sl none n1 c1,.sl none n2 c2],.int .i64 d1,.int .i64 d2] H (.tup [.sl none nc cc,.int .i64 h]))
  (h12:∀ H,VDet Tryz.prog 12 [.agg [.sl none n1 c1,.sl none n2 c2]] H (.bool true))
  (h13:∀ H,VDet Tryz.prog 13 [.int .i64 d2] H (.bool true))
  (h13b:∀ H,VDet Tryz.prog 13 [.int .i64 d1] H (.bool df))
  (h14:∀ (M:Heap) (i z:Nat),M[i]? = some (.box 63 (lates.flatMap encP++List.replicate z .junk))→VDet Tryz.prog 14 [.agg [.int .i64 f2,.int .i64 f3,.ms i 0 lates.length,.int .i64 f4,.int .i64 f5,.int .i64 f6,.int .u8 f7],.agg [.int .i64 f2,.int .i64 f3,.sl none lates.length (lates.flatMap encP),.int .i64 f4,.int .i64 f5,.int .i64 f6,.int .u8 f7]] M (.bool true))
  (h15:∀ H,VDet Tryz.prog 15 [.agg [.sl none n1 c1,.sl none n2 c2],.str ex,.int .i64 d2] H (.tup [.agg [.int .i64 f2,.int .i64 f3,.sl none lates.length (lates.flatMap encP),.int .i64 f4,.int .i64 f5,.int .i64 f6,.int .u8 f7],.bool true]))
  (h16:∀ H,VDet Tryz.prog 16 [.agg [.sl none n1 c1,.sl none n2 c2],.str ex,.str st,.int .i64 d2] H (.sl none L.length (L.flatMap Mrk.cells)))
  (h17:∀ H,VDet Tryz.prog 17 [.sl none nr cr,.sl none nr cr] H (.bool true))
  (h17b:∀ H,VDet Tryz.prog 17 [.sl none nc cc,.sl none nc cc] H (.bool true))
  (h18:∀ H,VDet Tryz.prog 18 [.agg [.sl none n1 c1,.sl none n2 c2],.int .i64 d2] H (.sl none nr cr))
  (h19:df=true→∀ H,VDet Tryz.prog 19 [.agg [.sl none n1 c1,.sl none n2 c2],.int .i64 d1,.int .i64 d2] H (.sl none nc cc))
  (h20:∀ H,VDet Tryz.prog 20 [.agg [.sl none n1 c1,.sl none n2 c2],.agg [.sl none n1 c1,.sl none n2 c2]] H (.bool true)) (H:Heap) :
  VDet Tryz.prog 3 [.agg [.sl none n1 c1,.sl none n2 c2],.int .i64 d1,.int .i64 d2,.str ex,.str st] H (.bool true):=by
 have hq:(g==0)=decide ((0:Int)<(L.length:Int)):=by
  rcases hg with ⟨h1,rfl⟩|⟨h1,rfl⟩
  ·rw [h1];rfl
  ·rw [decide_eq_true (by omega)];rfl
 have h8:∀ B1 B2,VCall Tryz.prog 8 [.agg [.sl none n1 c1,.sl none n2 c2],.str ex,.int .i64 d2] (H++[B1,B2]) fun r H'=>∃ z,r=.tup [.agg [.int .i64 f2,.int .i64 f3,.ms (H.length+7) 0 lates.length,.int .i64 f4,.int .i64 f5,.int .i64 f6,.int .u8 f7],.int .i64 0]∧H'=(H++[B1,B2])++[.box 25 [.sl none n1 c1,.sl none n2 c2],.box 36 [.int .i64 f2,.int .i64 f3,.ms (H.length+7) 0 lates.length,.int .i64 f4,.int .i64 f5,.int .i64 f6,.int .u8 f7],.box 36 [.int .i64 f2,.int .i64 f3,.sl none lates.length (lates.flatMap encP),.int .i64 f4,.int .i64 f5,.int .i64 f6,.int .u8 f7],.box 36 [.int .i64 f2,.int .i64 f3,.ms (H.length+7) 0 lates.length,.int .i64 f4,.int .i64 f5,.int .i64 f6,.int .u8 f7],.box 36 [.int .i64 f2,.int .i64 f3,.ms (H.length+7) 0 lates.length,.int .i64 f4,.int .i64 f5,.int .i64 f6,.int .u8 f7],.box 63 (lates.flatMap encP++List.replicate z .junk)]:=fun B1 B2=>by
  have:=h8 (H++[B1,B2])
  rw [ya5] at this
  exact this
 rcases hg with ⟨hg1,rfl⟩|⟨hg1,rfl⟩
 all_goals
  refine zap Tryz.E0 zad Tryz.func3 (by kernel_rfl) rfl (ybv rfl) rfl fun hcl hbl=>?_
  (repeat' ((conv=>whnf);(first|(refine yai ?_;first|refine yau (bne_self_eq_false _) ?_|refine yas ?_|refine yaq rfl ?_|refine yar (by omega) ?_|refine zat (by omega) ?_|fail)|(refine ybi ?_;first|refine yab _ (hfew _) ?_|refine yab _ (hgiv _) ?_|refine yab _ (hrv _) ?_|refine yab _ (h9 _) ?_|refine yab _ (h10 _) ?_|refine yab _ (h11 _) ?_|refine yab _ (h12 _) ?_|refine yab _ (h13 _) ?_|refine yab _ (h14 _ _ z (by (repeat' (first|assumption|exact zco _ rfl|exact zbk rfl|refine zey (B':=?_) ?_|refine zb2 ?_|fail)))) ?_|refine yab _ (h15 _) ?_|refine yab _ (h16 _) ?_|refine yab _ (h17 _) ?_|refine yab _ (h18 _) ?_|fail)|refine CallN.more (fun _=>AV.tup [.agg [.int .i64 f2,.int .i64 f3,.ms (H.length+7) 0 lates.length,.int .i64 f4,.int .i64 f5,.int .i64 f6,.int .u8 f7],.int .i64 0]) (fun z=>[Blk.box 25 [.sl none n1 c1,.sl none n2 c2],.box 36 [.int .i64 f2,.int .i64 f3,.ms (H.length+7) 0 lates.length,.int .i64 f4,.int .i64 f5,.int .i64 f6,.int .u8 f7],.box 36 [.int .i64 f2,.int .i64 f3,.sl none lates.length (lates.flatMap encP),.int .i64 f4,.int .i64 f5,.int .i64 f6,.int .u8 f7],.box 36 [.int .i64 f2,.int .i64 f3,.ms (H.length+7) 0 lates.length,.int .i64 f4,.int .i64 f5,.int .i64 f6,.int .u8 f7],.box 36 [.int .i64 f2,.int .i64 f3,.ms (H.length+7) 0 lates.length,.int .i64 f4,.int .i64 f5,.int .i64 f6,.int .u8 f7],.box 63 (lates.flatMap encP++List.replicate z AV.junk)]) (h8 _ _) rfl _ (fun _=>rfl) 8 (fun _=>rfl) fun z=>?_|fail)));all_goals (conv=>whnf)
  refine zbg Tryz.E0 zad (σ:=Nat) (fun k=>k≤L.length) (fun k=>L.length-k) (fun k=>[(180,.v (.int .i64 k))]) (fun _=>_) _ 0 rfl hcl [1,2,5,11,13,17,19,20,23,179] rfl (yah _) ⟨⟨_,rfl,yae _⟩,trivial⟩ rfl (fun _ _=>rfl) ?_
  intro k hk
  rcases yag k L.length with hlt|hge
  ·have e1:Mrk.cells (L.getD k mrk0)=[.int .i64 (L.getD k mrk0).points,.int .i64 (L.getD k mrk0).base,.int .i64 (L.getD k mrk0).late,.int .i64 (L.getD k mrk0).retry,.int .i64 (L.getD k mrk0).hints]:=rfl
   generalize (L.getD k mrk0).points=m1 at *
   generalize (L.getD k mrk0).base=m2 at *
   generalize (L.getD k mrk0).late=m3 at *
   generalize (L.getD k mrk0).retry=m4 at *
   generalize (L.getD k mrk0).hints=m5 at *
   (repeat' ((conv=>whnf);(first|(refine yai ?_;first|refine yau (neq5_F _ _ _ _ _) ?_|refine yar (by omega) ?_|fail)|(refine zao _ _ Cst.h Cst.h ?_ ?_;· omega)|(refine yaf ?_ ?_;· first|kernel_rfl|omega|exact yaa _ _|fail)|refine zai mrk0 k rfl (by omega) mrk_size e1 ?_|refine zab [] ?_|fail)));all_goals (conv=>whnf)
   (refine ⟨⟨k+1,by show k+1≤L.length;omega,by omega,?_,.inl ⟨rfl,rfl⟩,rfl,_,rfl,?_⟩⟩;rotate_left 1;exact .inl rfl;exact ⟨⟨_,rfl,yae _⟩,trivial⟩)
  ·obtain rfl:k=L.length:=by omega
   rcases hdf with ⟨rfl,rfl⟩|⟨rfl,rfl,rfl⟩
   ·have h19:=h19 rfl
    (repeat' ((conv=>whnf);(first|(refine yai ?_;first|refine yas ?_|refine yaq rfl ?_|refine zat (by omega) ?_|fail)|refine yab _ (h13b _) ?_|fail)));all_goals (conv=>whnf)
    rcases lates with _|⟨p1,_|⟨p2,_|⟨p3,_|⟨p4,_|⟨p5,_|⟨p6,_|⟨p7,_|⟨p8,lr⟩⟩⟩⟩⟩⟩⟩⟩
    ·exact absurd hl1 (by decide)
    ·refine ybd Tryz.E0 zad 2 rfl ?_
     (repeat' ((conv=>whnf);(first|(refine yai ?_;first|refine yaq rfl ?_|refine yau rfl ?_|fail)|(refine ycp ?_;first|(refine zao _ _ Cst.h Cst.h ?_ ?_;· omega)|refine EqN.mk _ rfl ?_|fail)|(refine ybi ?_;first|refine yab _ (haw _) ?_|refine yab _ (h19 _) ?_|refine yab _ (h17b _) ?_|refine yab _ (h20 _) ?_|fail)|refine OfsN.at_ (by simp only [List.length_cons,List.length_nil];omega) ?_|refine yb6 _ rfl ?_|fail)));all_goals (conv=>whnf)
     exact eT trivial
    ·refine ybd Tryz.E0 zad 3 rfl ?_
     (repeat' ((conv=>whnf);(first|(refine yai ?_;first|refine yaq rfl ?_|refine yau rfl ?_|fail)|(refine ycp ?_;first|(refine zao _ _ Cst.h Cst.h ?_ ?_;· omega)|refine EqN.mk _ rfl ?_|fail)|(refine ybi ?_;first|refine yab _ (haw _) ?_|refine yab _ (h19 _) ?_|refine yab _ (h17b _) ?_|refine yab _ (h20 _) ?_|fail)|refine OfsN.at_ (by simp only [List.length_cons,List.length_nil];omega) ?_|refine yb6 _ rfl ?_|fail)));all_goals (conv=>whnf)
     exact eT trivial
    ·refine ybd Tryz.E0 zad 4 rfl ?_
     (repeat' ((conv=>whnf);(first|(refine yai ?_;first|refine yaq rfl ?_|refine yau rfl ?_|fail)|(refine ycp ?_;first|(refine zao _ _ Cst.h Cst.h ?_ ?_;· omega)|refine EqN.mk _ rfl ?_|fail)|(refine ybi ?_;first|refine yab _ (haw _) ?_|refine yab _ (h19 _) ?_|refine yab _ (h17b _) ?_|refine yab _ (h20 _) ?_|fail)|refine OfsN.at_ (by simp only [List.length_cons,List.length_nil];omega) ?_|refine yb6 _ rfl ?_|fail)));all_goals (conv=>whnf)
     exact eT trivial
    ·refine ybd Tryz.E0 zad 5 rfl ?_
     (repeat' ((conv=>whnf);(first|(refine yai ?_;first|refine yaq rfl ?_|refine yau rfl ?_|fail)|(refine ycp ?_;first|(refine zao _ _ Cst.h Cst.h ?_ ?_;· omega)|refine EqN.mk _ rfl ?_|fail)|(refine ybi ?_;first|refine yab _ (haw _) ?_|refine yab _ (h19 _) ?_|refine yab _ (h17b _) ?_|refine yab _ (h20 _) ?_|fail)|refine OfsN.at_ (by simp only [List.length_cons,List.length_nil];omega) ?_|refine yb6 _ rfl ?_|fail)));all_goals (conv=>whnf)
     exact eT trivial
    ·refine ybd Tryz.E0 zad 6 rfl ?_
     (repeat' ((conv=>whnf);(first|(refine yai ?_;first|refine yaq rfl ?_|refine yau rfl ?_|fail)|(refine ycp ?_;first|(refine zao _ _ Cst.h Cst.h ?_ ?_;· omega)|refine EqN.mk _ rfl ?_|fail)|(refine ybi ?_;first|refine yab _ (haw _) ?_|refine yab _ (h19 _) ?_|refine yab _ (h17b _) ?_|refine yab _ (h20 _) ?_|fail)|refine OfsN.at_ (by simp only [List.length_cons,List.length_nil];omega) ?_|refine yb6 _ rfl ?_|fail)));all_goals (conv=>whnf)
     exact eT trivial
    ·refine ybd Tryz.E0 zad 7 rfl ?_
     (repeat' ((conv=>whnf);(first|(refine yai ?_;first|refine yaq rfl ?_|refine yau rfl ?_|fail)|(refine ycp ?_;first|(refine zao _ _ Cst.h Cst.h ?_ ?_;· omega)|refine EqN.mk _ rfl ?_|fail)|(refine ybi ?_;first|refine yab _ (haw _) ?_|refine yab _ (h19 _) ?_|refine yab _ (h17b _) ?_|refine yab _ (h20 _) ?_|fail)|refine OfsN.at_ (by simp only [List.length_cons,List.length_nil];omega) ?_|refine yb6 _ rfl ?_|fail)));all_goals (conv=>whnf)
     exact eT trivial
    ·refine ybd Tryz.E0 zad 8 rfl ?_
     (repeat' ((conv=>whnf);(first|(refine yai ?_;first|refine yaq rfl ?_|refine yau rfl ?_|fail)|(refine ycp ?_;first|(refine zao _ _ Cst.h Cst.h ?_ ?_;· omega)|refine EqN.mk _ rfl ?_|fail)|(refine ybi ?_;first|refine yab _ (haw _) ?_|refine yab _ (h19 _) ?_|refine yab _ (h17b _) ?_|refine yab _ (h20 _) ?_|fail)|refine OfsN.at_ (by simp only [List.length_cons,List.length_nil];omega) ?_|refine yb6 _ rfl ?_|fail)));all_goals (conv=>whnf)
     exact eT trivial
    ·obtain rfl:lr=[]:=ya3 (by simp only [List.length_cons] at hl8;omega)
     refine ybd Tryz.E0 zad 9 rfl ?_
     (repeat' ((conv=>whnf);(first|(refine yai ?_;first|refine yaq rfl ?_|refine yau rfl ?_|fail)|(refine ycp ?_;first|(refine zao _ _ Cst.h Cst.h ?_ ?_;· omega)|refine EqN.mk _ rfl ?_|fail)|(refine ybi ?_;first|refine yab _ (haw _) ?_|refine yab _ (h19 _) ?_|refine yab _ (h17b _) ?_|refine yab _ (h20 _) ?_|fail)|refine OfsN.at_ (by simp only [List.length_cons,List.length_nil];omega) ?_|refine yb6 _ rfl ?_|fail)));all_goals (conv=>whnf)
     exact eT trivial
   ·(repeat' ((conv=>whnf);(first|(refine yai ?_;first|refine yas ?_|refine yaq rfl ?_|refine yau rfl ?_|refine zat (by omega) ?_|fail)|(refine ybi ?_;first|refine yab _ (h13b _) ?_|refine yab _ (haw _) ?_|fail)|fail)));all_goals (conv=>whnf)
    exact eT trivial
def mnN (pt:Nat→Int):Nat→Int
 | 0=>10000
 | k+1=>min (mnN pt k) (pt k)
def mxN (pt:Nat→Int):Nat→Int
 | 0=>0
 | k+1=>max (mxN pt k) (pt k)
def lsN (pt:Nat→Int):Nat→Int
 | 0=>0
 | k+1=>pt k
def PL (pt:Nat→Int):Nat→List Int
 | 0=>[]
 | k+1=>PL pt k++[pt k]
theorem PL_len (pt:Nat→Int):∀ n,(PL pt n).length=n
 | 0=>rfl
 | n+1=>by simp [PL,PL_len pt n]
theorem PL_mem {pt:Nat→Int} {x:Int}:∀ {n},x∈PL pt n→∃ k,k<n∧x=pt k
 | 0,h=>by simp [PL] at h
 | n+1,h=>by
   simp only [PL,ybh,yaz] at h
   rcases h with h|h
   ·obtain ⟨k,h1,h2⟩:=PL_mem h
    exact ⟨k,by omega,h2⟩
   ·exact ⟨n,by omega,h⟩
theorem foldl_max_ge:∀ (l:List Int) (a:Int),a≤l.foldl max a∧∀ x∈l,x≤l.foldl max a
 | [],a=>by simp
 | y::l,a=>by
   obtain ⟨h1,h2⟩:=foldl_max_ge l (max a y)
   simp only [ydi]
   refine ⟨by omega,fun x hx=>?_⟩
   rcases yay.1 hx with rfl|hx
   ·omega
   ·exact h2 x hx
theorem zhd:∀ (l:List Int) (a:Int),l.foldl max a=a∨l.foldl max a∈l
 | [],a=>by simp
 | y::l,a=>by
   simp only [ydi]
   rcases zhd l (max a y) with h|h
   ·rw [h]
    rcases Int.le_total a y with q|q
    ·rw [Int.max_eq_right q];simp
    ·rw [Int.max_eq_left q];simp
   ·exact .inr (ya4 _ h)
theorem maxL_spec {l:List Int} (h:0<l.length):maxL l∈l∧∀ x∈l,x≤maxL l:=by
 cases l with
 | nil=>simp at h
 | cons y l =>
   simp only [maxL,List.tail_cons,List.getD_cons_zero]
   obtain ⟨h1,h2⟩:=foldl_max_ge l y
   refine ⟨?_,fun x hx=>?_⟩
   ·rcases zhd l y with h|h
    ·rw [h];simp
    ·exact ya4 _ h
   ·rcases yay.1 hx with rfl|hx
    ·exact h1
    ·exact h2 x hx
theorem mxN_spec {pt:Nat→Int} (n:Nat) (hp:∀ k,k<n→0≤pt k) (hn:0<n):mxN pt n=maxL (PL pt n):=by
 have key:∀ m,m≤n→0≤mxN pt m∧(mxN pt m=0∨mxN pt m∈PL pt m)∧∀ k,k<m→pt k≤mxN pt m:=by
  intro m
  induction m with
  | zero=>simp [mxN]
  | succ n ih =>
    intro hm
    obtain ⟨i1,i2,i3⟩:=ih (by omega)
    have:=hp n (by omega)
    simp only [mxN,PL,ybh,yaz]
    refine ⟨by omega,?_,fun k hk=>?_⟩
    ·rcases Int.le_total (mxN pt n) (pt n) with q|q
     ·rw [Int.max_eq_right q];exact .inr (.inr rfl)
     ·rw [Int.max_eq_left q]
      rcases i2 with h|h
      ·exact .inl h
      ·exact .inr (.inl h)
    ·by_cases hkn:k=n
     ·subst hkn;omega
     ·have:=i3 k (by omega)
      omega
 obtain ⟨k1,k2,k3⟩:=key n (yax _)
 obtain ⟨a1,a2⟩:=maxL_spec (l:=PL pt n) (by rw [PL_len];exact hn)
 obtain ⟨j,hj,e⟩:=PL_mem a1
 have h1:=k3 j hj
 rw [← e] at h1
 rcases k2 with h2|h2
 ·have:=hp j hj
  rw [← e] at this
  omega
 ·have:=a2 _ h2
  omega
theorem sumL_app (l m:List Int):sumL (l++m)=sumL l+sumL m:=by
 have key:∀ (m:List Int) (a:Int),m.foldl (·+·) a=a+m.foldl (·+·) 0:=by
  intro m
  induction m with
  | nil=>simp
  | cons x m ih =>
    intro a
    simp only [ydi]
    rw [ih,ih (0+x)]
    omega
 unfold sumL
 rw [List.foldl_append,key]
theorem lsN_spec (pt:Nat→Int) (n:Nat) (hn:0<n):lsN pt n=(PL pt n).getD ((PL pt n).length-1) 0:=by
 cases n with
 | zero=>omega
 | succ n =>
   rw [PL_len]
   simp [lsN,PL,PL_len]
theorem total_all {s:Sch} {l:List Wrk} (hs:zbv s=true) (hl:∀ w∈l,zbr w=true) (h1:l.length≤100):zdc s l=(if l.length=0 then (0,0) else (wayF s.cnt (l.map fun w=>(markF s w).points),0)):=by
 unfold zdc
 rw [if_pos ⟨hs,by rw [List.any_eq_false];intro w hw;simp [hl w hw]⟩,if_neg (by omega)]
def bitY (pp prog:Int) (j:Nat):Int:=pp * (prog / (2:Int) ^ (60-j))
theorem two_pow (m:Nat):(2:Int) ^ m=((2 ^ m:Nat):Int):=by simp
theorem div_half {p:Int} (hp:0≤p) (m:Nat):p / (2:Int) ^ m / 2=p / (2:Int) ^ (m+1):=by
 obtain ⟨n,rfl⟩:=Int.eq_ofNat_of_zero_le hp
 rw [two_pow,two_pow,Nat.pow_succ]
 have:=Nat.div_div_eq_div_mul n (2 ^ m) 2
 rw [← Int.natCast_ediv,← Int.natCast_ediv,← this]
 omega
theorem bitY_next {pp prog:Int} (hp:0≤prog) {j:Nat} (hj:j<60):∃ M:Int,(2:Int) ^ (59-j)=M∧(1≤M∧M≤576460752303423488)∧bitY pp prog (j+1)=pp * (prog / M)∧bitY pp prog j=pp * (prog / M / 2):=by
 refine ⟨_,rfl,⟨?_,?_⟩,?_,?_⟩
 ·have:=Nat.pow_pos (a:=2) (n:=59-j) (by omega)
  rw [two_pow]
  omega
 ·have:(2:Nat) ^ (59-j)≤2 ^ 59:=Nat.pow_le_pow_right (by omega) (by omega)
  rw [two_pow]
  omega
 ·unfold bitY
  rw [show 60-(j+1)=59-j by omega]
 ·unfold bitY
  rw [div_half hp,show 59-j+1=60-j by omega]
theorem base24_c (s:Sch) (w:Wrk) (h1:0≤s.pts∧s.pts≤10000) (h2:0≤s.part∧s.part≤100) (h3:0≤w.prog∧w.prog≤1152921504606846976) (H:Heap):VDet Tryz.prog 65 [.int .i64 s.pts,.int .i64 s.part,.int .i64 w.prog] H (.int .i64 (baseF s w)):=by
 have hp:0≤s.pts * s.part∧s.pts * s.part≤1000000:=⟨Int.mul_nonneg h1.1 h2.1,Int.le_trans (Int.mul_le_mul h1.2 h2.2 h2.1 (by omega)) (by decide)⟩
 by_cases hw:w.prog=1152921504606846976
 ·rw [show baseF s w=s.pts from if_pos hw]
  refine zap Tryz.E0 zad Tryz.func65 (by kernel_rfl) rfl (ybv rfl) rfl fun hcl hbl=>?_
  (repeat' ((conv=>whnf);(first|refine yar (by omega) ?_|fail)));conv=>whnf
  exact eT trivial
 rw [show baseF s w=s.pts * s.part * w.prog / 1152921504606846976 / 100 from if_neg hw]
 obtain ⟨pp,hpp⟩:∃ pp,pp=s.pts * s.part:=⟨_,rfl⟩
 rw [← hpp]
 rw [← hpp] at hp
 have y0:bitY pp w.prog 0=0:=by
  unfold bitY
  rw [Int.ediv_eq_zero_of_lt h3.1 (by simp;omega),Int.mul_zero]
 have y60:bitY pp w.prog 60=pp * w.prog:=by simp [bitY]
 refine zap Tryz.E0 zad Tryz.func65 (by kernel_rfl) rfl (ybv rfl) rfl fun hcl hbl=>?_
 (repeat' ((conv=>whnf);(first|refine zat (by omega) ?_|refine EqN.mk pp (by rw [← hpp];exact IntWalk.i64_in _ (by omega)) ?_|fail)));conv=>whnf
 refine zbg Tryz.E0 zad (σ:=Nat) (fun k=>k≤60) (fun k=>60-k) (fun k=>[(8,.v (.int .i64 (bitY pp w.prog k / 1152921504606846976))),(9,.v (.int .i64 (bitY pp w.prog k % 1152921504606846976))),(10,.v (.int .i64 (59-k)))]) (fun _=>[]) _ 0 rfl hcl [2,7] rfl (yah _) ⟨⟨_,rfl,Wk.of_eq ?_⟩,⟨_,rfl,Wk.of_eq ?_⟩,⟨_,rfl,yae _⟩,trivial⟩ rfl (fun _ _=>rfl) ?_
 ·rw [y0];rfl
 ·rw [y0];rfl
 rintro k hk
 by_cases hlt:k<60
 ·obtain ⟨M,hM,hMb,e1,e2⟩:=bitY_next (pp:=pp) h3.1 hlt
  have hd:0≤w.prog / M∧w.prog / M≤1152921504606846976:=⟨Int.ediv_nonneg h3.1 (by omega),Int.le_trans (Int.ediv_le_self _ h3.1) h3.2⟩
  have hY:0≤bitY pp w.prog k∧bitY pp w.prog k≤1000000 * 1152921504606846976:=by
   rw [e2]
   exact ⟨Int.mul_nonneg hp.1 (by omega),Int.mul_le_mul hp.2 (by omega) (by omega) (by omega)⟩
  have e3:bitY pp w.prog (k+1)=2 * bitY pp w.prog k+pp * (w.prog / M % 2):=by
   rw [e1,e2]
   conv=>lhs;rw [← Int.mul_ediv_add_emod (w.prog / M) 2,Int.mul_add]
   congr 1
   rw [Int.mul_left_comm]
  clear e1 e2
  have hsh:IntKind.i64.wrap (1 * 2 ^ min (59-(k:Int)).toNat IntKind.i64.bits)=M:=by
   rw [show min (59-(k:Int)).toNat IntKind.i64.bits=59-k by
    rw [ycd (ybg (show (59-(k:Int)).toNat≤59 by omega) (by decide))]
    omega,hM,Int.one_mul]
   exact w64 (by omega)
  by_cases hbit:w.prog / M % 2=1
  ·rw [hbit,Int.mul_one] at e3
   (repeat' ((conv=>whnf);(first|(refine yai ?_;first|refine yar (by omega) ?_|refine zbq (fun _=>?_) (fun _=>?_)|fail)|(refine ycp ?_;first|refine EqN.mk M hsh ?_|refine ycf (by omega) ?_|refine EqN.quo (by omega) ?_|refine EqN.rem (by omega) ?_|fail)|refine yaf (by omega) ?_|fail)));all_goals (conv=>whnf)
   all_goals refine ybd Tryz.E0 zad 2 rfl ?_
   all_goals (((repeat' ((conv=>whnf);(first|(refine yai ?_;first|refine zat (by omega) ?_|refine zbq (fun _=>?_) (fun _=>?_)|fail)|refine ycf (by omega) ?_|fail)));all_goals (conv=>whnf)))
   all_goals ((refine ⟨⟨k+1,by omega,by omega,?_,.inl ⟨rfl,rfl⟩,rfl,_,rfl,?_⟩⟩;rotate_left 1;exact .inl rfl;(repeat' (first|exact trivial|refine ⟨⟨_,rfl,?_⟩,?_⟩|fail));all_goals exact Wk.of_eq (congrArg (AV.int _) (by omega))))
  ·have hbit:w.prog / M % 2=0:=by omega
   rw [hbit,Int.mul_zero] at e3
   (repeat' ((conv=>whnf);(first|(refine yai ?_;first|refine yar (by omega) ?_|refine zat (by omega) ?_|refine zbq (fun _=>?_) (fun _=>?_)|fail)|(refine ycp ?_;first|refine EqN.mk M hsh ?_|refine ycf (by omega) ?_|refine EqN.quo (by omega) ?_|refine EqN.rem (by omega) ?_|fail)|refine yaf (by omega) ?_|fail)));all_goals (conv=>whnf)
   all_goals ((refine ⟨⟨k+1,by omega,by omega,?_,.inl ⟨rfl,rfl⟩,rfl,_,rfl,?_⟩⟩;rotate_left 1;exact .inl rfl;(repeat' (first|exact trivial|refine ⟨⟨_,rfl,?_⟩,?_⟩|fail));all_goals exact Wk.of_eq (congrArg (AV.int _) (by omega))))
 ·have hk':k=60:=by omega
  subst hk'
  have hX:0≤pp * w.prog∧pp * w.prog≤1000000 * 1152921504606846976:=⟨Int.mul_nonneg hp.1 h3.1,Int.mul_le_mul hp.2 h3.2 h3.1 (by omega)⟩
  rw [y60]
  (repeat' ((conv=>whnf);(first|refine yau rfl ?_|refine EqN.quo (by omega) ?_|refine yaf (by omega) ?_|fail)));conv=>whnf
  exact eT trivial
def lateK (s:Sch) (w:Wrk) (k:Nat):Int:=(s.lates.take k).foldl (fun p l=>if 0<w.days∧l.1≤w.days then l.2 else p) 0
theorem lateK_all (s:Sch) (w:Wrk):lateK s w s.lates.length=lateF s w:=by
 unfold lateK lateF
 rw [ya2]
theorem lateK_next (s:Sch) (w:Wrk) (k:Nat) (hk:k<s.lates.length):lateK s w (k+1)=if 0<w.days∧(s.lates.getD k (0,0)).1≤w.days then (s.lates.getD k (0,0)).2 else lateK s w k:=by
 unfold lateK
 rw [zda _ _ _ (0,0) _ hk]
theorem rgrade_c (s:Sch) (w:Wrk) (hlen:s.lates.length≤9223372036854775807) (H:Heap):VDet Tryz.prog 44 [.agg s.cells,.agg w.cells] H (.tup [.agg (zcc s w).1.cells,.int .i64 (zcc s w).2]):=by
 by_cases h1:zbv s=true
 case neg =>
  rw [show zcc s w=(⟨0,0,0,0,0⟩,2) from if_neg (fun h=>h1 h.1)]
  have h1':zbv s=false:=by simpa using h1
  refine zap Tryz.E0 zad Tryz.func44 (by kernel_rfl) rfl (ybv rfl) rfl fun hcl hbl=>?_
  (repeat' ((conv=>whnf);(first|(refine yai ?_;first|refine yas ?_|refine yau (by assumption) ?_|fail)|refine yab _ (zf0 s _) ?_|fail)));conv=>whnf
  exact ya1 (by simp [below,zac,Mrk.cells]) (yae _)
 by_cases h2:zbr w=true
 case neg =>
  rw [show zcc s w=(⟨0,0,0,0,0⟩,2) from if_neg (fun h=>h2 h.2)]
  have h2':zbr w=false:=by simpa using h2
  refine zap Tryz.E0 zad Tryz.func44 (by kernel_rfl) rfl (ybv rfl) rfl fun hcl hbl=>?_
  (repeat' ((conv=>whnf);(first|(refine yai ?_;first|refine yas ?_|refine yaq (by assumption) ?_|refine yau (by assumption) ?_|fail)|(refine ybi ?_;first|refine yab _ (zf0 s _) ?_|refine yab _ (right_c w _) ?_|fail)|fail)));conv=>whnf
  exact ya1 (by simp [below,zac,Mrk.cells]) (yae _)
 rw [show zcc s w=(markF s w,0) from if_pos ⟨h1,h2⟩]
 obtain ⟨s1,s2,s3,s4,s5,s6,s7,s8⟩:=zca h1
 obtain ⟨w1,w2,w3,w4⟩:=zee h2
 have b1:=base_bd s1 s3 w1
 have b2:=late_bd (w:=w) s8
 have b3:=retry_bd s4.1 w3.1
 have b4:=hints_bd s5.1 w4.1
 have q1:=zg4 (M:=10000) (b:=100-lateF s w) (a:=baseF s w) (by omega) (by omega)
 have q2:=zg4 (b:=100-zd3 s w) q1 (by omega)
 have q3:=zg4 (b:=100-zea s w) q2 (by omega)
 have u1:0≤s.rty * (w.att-1)∧s.rty * (w.att-1)≤10000:=⟨Int.mul_nonneg s4.1 (by omega),Int.le_trans (Int.mul_le_mul s4.2 (by omega:w.att-1≤100) (by omega) (by omega)) (by decide)⟩
 have u2:0≤s.hnt * w.hints∧s.hnt * w.hints≤10000:=⟨Int.mul_nonneg s5.1 (by omega),Int.le_trans (Int.mul_le_mul s5.2 w4.2 (by omega) (by omega)) (by decide)⟩
 have y1:zd3 s w=if s.att≠0∧s.att<w.att then 100 else min (s.rty * (w.att-1)) 100:=rfl
 have y2:zea s w=min (s.hnt * w.hints) 100:=rfl
 have hmk:markF s w=⟨baseF s w * (100-lateF s w) * (100-zd3 s w) * (100-zea s w) / 1000000,baseF s w,lateF s w,zd3 s w,zea s w⟩:=rfl
 refine zap Tryz.E0 zad Tryz.func44 (by kernel_rfl) rfl (ybv rfl) rfl fun hcl hbl=>?_
 (repeat' ((conv=>whnf);(first|(refine yai ?_;first|refine yas ?_|refine yaq (by assumption) ?_|fail)|(refine ybi ?_;first|refine yab _ (zf0 s _) ?_|refine yab _ (right_c w _) ?_|refine yab _ (base24_c s w s1 s3 w1 _) ?_|fail)|fail)));conv=>whnf
 refine zbg Tryz.E0 zad (σ:=Nat) (fun k=>k≤s.lates.length) (fun k=>s.lates.length-k) (fun k=>[(7,.v (.int .i64 k))]) (fun k=>[.box 51 s.cells,.box 87 w.cells,.box 61 [.int .i64 0,.int .i64 0,.int .i64 0,.int .i64 0,.int .i64 0],.box 61 [.int .i64 0,.int .i64 (baseF s w),.int .i64 (lateK s w k),.int .i64 0,.int .i64 0]]) _ 0 rfl hcl [2,3,4,6] rfl (yah _) ⟨⟨_,rfl,yae _⟩,trivial⟩ rfl (fun _ _=>rfl) ?_
 rintro k hk
 by_cases hlt:k<s.lates.length
 ·have hnx:=lateK_next s w k hlt
  by_cases hc:0<w.days∧(s.lates.getD k (0,0)).1≤w.days
  ·rw [if_pos hc] at hnx
   (repeat' ((conv=>whnf);(first|(refine yai ?_;first|refine yas ?_|refine yar (by omega) ?_|refine zat (by omega) ?_|fail)|(refine zao _ _ Cst.h Cst.h ?_ ?_;· omega)|(refine yaf ?_ ?_;· first|kernel_rfl|omega|exact yaa _ _|fail)|refine zbt (0,0) k rfl (by omega) (fun _=>rfl) ?_|refine zab [] ?_|fail)));conv=>whnf
   all_goals rw [← hnx]
   all_goals ((refine ⟨⟨k+1,by omega,by omega,?_,.inl ⟨rfl,rfl⟩,rfl,_,rfl,?_⟩⟩;rotate_left 1;exact .inl rfl;exact ⟨⟨_,rfl,yae _⟩,trivial⟩))
  ·rw [if_neg hc] at hnx
   (repeat' ((conv=>whnf);(first|(refine yai ?_;first|refine yas ?_|refine yar (by omega) ?_|refine zbq (fun _=>?_) (fun _=>?_)|fail)|(refine zao _ _ Cst.h Cst.h ?_ ?_;· omega)|(refine yaf ?_ ?_;· first|kernel_rfl|omega|exact yaa _ _|fail)|refine zbt (0,0) k rfl (by omega) (fun _=>rfl) ?_|refine zab [] ?_|fail)));all_goals (conv=>whnf)
   all_goals rw [← hnx]
   all_goals ((refine ⟨⟨k+1,by omega,by omega,?_,.inl ⟨rfl,rfl⟩,rfl,_,rfl,?_⟩⟩;rotate_left 1;exact .inl rfl;exact ⟨⟨_,rfl,yae _⟩,trivial⟩))
 ·have hk':k=s.lates.length:=by omega
  subst hk'
  rw [lateK_all]
  have hrc:(zd3 s w=100∧(100<s.rty * (w.att-1)∨(s.att≠0∧s.att<w.att)))∨(zd3 s w=s.rty * (w.att-1)∧¬ 100<s.rty * (w.att-1)∧(s.att=0∨¬ s.att<w.att)):=by
   by_cases hx:s.att≠0∧s.att<w.att
   ·rw [if_pos hx] at y1
    exact .inl ⟨y1,.inr hx⟩
   ·rw [if_neg hx] at y1
    omega
  have hhc:(zea s w=100∧100<s.hnt * w.hints)∨(zea s w=s.hnt * w.hints∧¬ 100<s.hnt * w.hints):=by omega
  clear y1 y2
  rcases hrc with ⟨er,hr⟩|⟨er,hr⟩
  all_goals rcases hhc with ⟨eh,hh⟩|⟨eh,hh⟩
  all_goals rw [hmk,er,eh]
  all_goals rw [er] at q2 q3
  all_goals rw [eh] at q3
  all_goals (((repeat' ((conv=>whnf);(first|(refine yai ?_;first|refine yas ?_|refine yar (by omega) ?_|refine zat (by omega) ?_|refine zbq (fun _=>?_) (fun _=>?_)|fail)|(refine ycp ?_;first|refine ycf (by omega) ?_|refine EqN.quo (by omega) ?_|fail)|refine yaf (by omega) ?_|fail)));all_goals (conv=>whnf)))
  all_goals refine ya1 (by simp [below,zac,Mrk.cells]) (yae _)
abbrev w0:Wrk:=⟨0,0,0,0⟩
theorem PL_take (f:Wrk→Int) (l:List Wrk):∀ k,k≤l.length→PL (fun k=>f (l.getD k w0)) k=(l.take k).map f
 | 0,_=>rfl
 | k+1,h=>by
   rw [PL,PL_take f l k (by omega),← zg6 _ _ w0 _ (by omega)]
theorem mxN_bd {pt:Nat→Int}:∀ n,(∀ k,k<n→0≤pt k∧pt k≤10000)→0≤mxN pt n∧mxN pt n≤10000
 | 0,_=>by simp [mxN]
 | n+1,h=>by
   have:=mxN_bd n fun k hk=>h k (by omega)
   have:=h n (by omega)
   simp only [mxN]
   omega
theorem PL_bd {pt:Nat→Int}:∀ n:Nat,(∀ k,k<n→0≤pt k∧pt k≤10000)→0≤sumL (PL pt n)∧sumL (PL pt n)≤10000 * n
 | 0,_=>by simp [PL,sumL]
 | n+1,h=>by
   have:=PL_bd n fun k hk=>h k (by omega)
   have:=h n (by omega)
   have e:sumL (PL pt (n+1))=sumL (PL pt n)+pt n:=by
    rw [PL,sumL_app]
    simp [sumL]
   rw [e]
   omega
theorem PL_sum (pt:Nat→Int) (n:Nat):sumL (PL pt (n+1))=sumL (PL pt n)+pt n:=by
 rw [PL,sumL_app]
 simp [sumL]
theorem rtotal_c (s:Sch) (l:List Wrk) (hlen:s.lates.length≤9223372036854775807) (hl:l.length≤1000000) (tok:Option Nat) (H:Heap):VDet Tryz.prog 46 [.agg s.cells,.sl tok l.length (l.flatMap Wrk.cells)] H (.tup [.int .i64 (zdc s l).1,.int .i64 (zdc s l).2]):=by
 by_cases h1:zbv s=true
 case neg =>
  rw [show zdc s l=(0,2) from if_neg (fun h=>h1 h.1)]
  have h1':zbv s=false:=by simpa using h1
  refine zap Tryz.E0 zad Tryz.func46 (by kernel_rfl) rfl (ybv rfl) rfl fun hcl hbl=>?_
  (repeat' ((conv=>whnf);(first|(refine yai ?_;first|refine yas ?_|refine yau (by assumption) ?_|fail)|refine yab _ (zf0 s _) ?_|fail)));conv=>whnf
  exact ya1 (by simp [below,zac]) (yae _)
 obtain ⟨s1,s2,s3,s4,s5,s6,s7,s8⟩:=zca h1
 have hpt:∀ k,zbr (l.getD k w0)=true→0≤(markF s (l.getD k w0)).points∧(markF s (l.getD k w0)).points≤10000:=fun k hk=>points_bd h1 hk
 obtain ⟨pt,hpd⟩:∃ pt:Nat→Int,pt=fun k=>(markF s (l.getD k w0)).points:=⟨_,rfl⟩
 refine zap Tryz.E0 zad Tryz.func46 (by kernel_rfl) rfl (ybv rfl) rfl fun hcl hbl=>?_
 (repeat' ((conv=>whnf);(first|(refine yai ?_;first|refine yas ?_|refine yaq (by assumption) ?_|fail)|refine yab _ (zf0 s _) ?_|fail)));conv=>whnf
 refine zbg Tryz.E0 zad (σ:=Nat) (fun k=>k≤l.length∧∀ i,i<k→zbr (l.getD i w0)=true) (fun k=>l.length-k) (fun k=>[(6,.v (.int .i64 (mxN pt k))),(7,.v (.int .i64 (lsN pt k))),(8,.v (.int .i64 (sumL (PL pt k)))),(9,.v (.int .i64 k))]) (fun k=>_) _ 0 rfl hcl [1,2] rfl ⟨yah _,fun i hi=>absurd hi (Nat.not_lt_zero i)⟩ ⟨⟨_,rfl,yae _⟩,⟨_,rfl,yae _⟩,⟨_,rfl,yae _⟩,⟨_,rfl,yae _⟩,trivial⟩ rfl (fun _ _=>rfl) ?_
 rintro k ⟨hk,hok⟩
 by_cases hlt:k<l.length
 ·by_cases hv:zbr (l.getD k w0)=true
  ·obtain ⟨m,hm,hg⟩:∃ m:Mrk,m=markF s (l.getD k w0)∧∀ H,VDet Tryz.prog 44 [.agg s.cells,.agg (l.getD k w0).cells] H (.tup [.agg m.cells,.int .i64 0]):=⟨_,rfl,fun H=>by
     have:=rgrade_c s (l.getD k w0) hlen H
     rwa [show zcc s (l.getD k w0)=(markF s (l.getD k w0),0) from if_pos ⟨h1,hv⟩] at this⟩
   have hmp:=hpt k hv
   rw [← hm] at hmp
   have hpk:pt k=m.points:=by rw [hpd,hm]
   have hb1:=mxN_bd (pt:=pt) k fun i hi=>by rw [hpd];exact hpt i (hok i hi)
   have hb2:=PL_bd (pt:=pt) k fun i hi=>by rw [hpd];exact hpt i (hok i hi)
   have hs2:=PL_sum pt k
   (repeat' ((conv=>whnf);(first|(refine yai ?_;first|refine yas ?_|refine yaq rfl ?_|refine yar (by omega) ?_|refine zbq (fun _=>?_) (fun _=>?_)|fail)|(refine ycp ?_;first|(refine zao _ _ Cst.h Cst.h ?_ ?_;· omega)|refine ycf (by omega) ?_|fail)|(refine yaf ?_ ?_;· first|kernel_rfl|omega|exact yaa _ _|fail)|refine yan _ (fun _ hq X=>hg _) ?_|refine zbt w0 k rfl (by omega) (fun _=>rfl) ?_|refine zab [] ?_|fail)));all_goals (conv=>whnf)
   all_goals ((refine ⟨⟨k+1,⟨by omega,fun i hi=>by
    rcases yag i k with h|h
    ·exact hok i h
    ·have:i=k:=by omega
     exact this▸hv⟩,by omega,?_,.inl ⟨rfl,rfl⟩,rfl,_,rfl,?_⟩⟩;rotate_left 1;exact .inr ⟨by simp [zau,below,zac,tr,zaf,za1,zax],by simp [za5,Blk.below,zac,below,zaf,za1,zax]⟩;(repeat' (first|exact trivial|refine ⟨⟨_,rfl,?_⟩,?_⟩|fail));all_goals try (first|exact yae _|exact Wk.of_eq (congrArg (AV.int _) (by omega))|fail)))
   all_goals refine Wk.of_eq (congrArg (AV.int _) ?_)
   all_goals simp only [mxN,lsN]
   all_goals omega
  ·have hv':zbr (l.getD k w0)=false:=by simpa using hv
   have hany:l.any (fun w=>!zbr w)=true:=by
    rw [yc0]
    exact ⟨l.getD k w0,by simp [yal hlt],by simp only [hv',Bool.not_false]⟩
   rw [show zdc s l=(0,2) from if_neg (fun h=>by rw [hany] at h;cases h.2)]
   have hg:∀ H,VDet Tryz.prog 44 [.agg s.cells,.agg (l.getD k w0).cells] H (.tup [.agg (Mrk.cells ⟨0,0,0,0,0⟩),.int .i64 2]):=fun H=>by
    have:=rgrade_c s (l.getD k w0) hlen H
    rwa [show zcc s (l.getD k w0)=(⟨0,0,0,0,0⟩,2) from if_neg (fun h=>hv h.2)] at this
   (repeat' ((conv=>whnf);(first|(refine yai ?_;first|refine yas ?_|refine yau rfl ?_|refine yar (by omega) ?_|fail)|(refine yaf ?_ ?_;· first|kernel_rfl|omega|exact yaa _ _|fail)|refine yan _ (fun _ hq X=>hg _) ?_|refine zbt w0 k rfl (by omega) (fun _=>rfl) ?_|refine zab [] ?_|fail)));conv=>whnf
   exact ya1 (by simp [below,zac]) (yae _)
 ·have hk':k=l.length:=by omega
  subst hk'
  have hwv:∀ w∈l,zbr w=true:=fun w hw=>by
   obtain ⟨i,hi,rfl⟩:=ydd hw
   have:=hok i hi
   simpa [yal hi] using this
  by_cases h100:100<l.length
  ·rw [show zdc s l=(0,5) by
     unfold zdc
     rw [if_pos ⟨h1,by rw [List.any_eq_false];intro w hw;simp [hwv w hw]⟩,if_pos h100]]
   (repeat' ((conv=>whnf);(first|(refine yai ?_;first|refine yar (by omega) ?_|refine zat (by omega) ?_|fail)|fail)));conv=>whnf
   exact ya1 (by simp [below,zac]) (yae _)
  ·rw [total_all h1 hwv (by omega)]
   by_cases h0:l.length=0
   ·rw [if_pos h0]
    (repeat' ((conv=>whnf);(first|(refine yai ?_;first|refine yar (by omega) ?_|refine zat (by omega) ?_|fail)|fail)));conv=>whnf
    exact ya1 (by simp [below,zac]) (yae _)
   ·rw [if_neg h0]
    have hb2:=PL_bd (pt:=pt) l.length fun i hi=>by rw [hpd];exact hpt i (hok i hi)
    have hP:=PL_take (fun w=>(markF s w).points) l l.length (yax _)
    rw [← hpd,ya2] at hP
    have f1:=mxN_spec (pt:=pt) l.length (fun i hi=>by rw [hpd];exact (hpt i (hok i hi)).1) (by omega)
    have f2:=lsN_spec pt l.length (by omega)
    (repeat' ((conv=>whnf);(first|refine zat (by omega) ?_|refine EqN.quo (by omega) ?_|(refine yaf ?_ ?_;· first|kernel_rfl|omega|exact yaa _ _|fail)|refine zbt (f:=encI) (l:=[_,_,_,_]) 0 s.cnt.toNat (by omega) (by simp;omega) (fun _=>rfl) ?_|refine zab [] ?_|refine OrN.l ?_|fail)));conv=>whnf
    refine ya1 (by simp [below,zac]) (Wk.of_eq ?_)
    simp only [AV.tup.injEq,List.cons.injEq,AV.int.injEq,true_and,and_true]
    rw [← hP]
    unfold wayF
    rcases (show s.cnt=1∨s.cnt=2∨s.cnt=3 by omega) with e|e|e
    ·rw [if_pos e,e,← f1];rfl
    ·rw [if_neg (by omega),if_pos e,e,← f2];rfl
    ·rw [if_neg (by omega),if_neg (by omega),e,PL_len];rfl
end
end Go.Proofs.YtgopbbkpcjgihaaGreat
