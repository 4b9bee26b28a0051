/- A text of the proof: the parts GA10y, GB10y, VF10y, VG10y, VH10y, VT10y, VA10y, VB10y, VD10y, VE10y, VU10y, PW10y, PA10y, HA10y. -/
import Derived.Test.YtekhodpmpjehaaaGreatDoorK8
set_option linter.unusedSimpArgs false
set_option linter.unusedVariables false
set_option maxHeartbeats 8000000
namespace Go.Proofs.YtekhodpmpjehaaaGreatDoor
open Go.Vsi
section
attribute [local irreducible] VW VCall VO bits zal
theorem fo_len4 (l:List Fo):(l.flatMap Fo.cells).length=l.length * 4:=zb5 (f:=Fo.cells) (sz:=4) za1 l
theorem fo_one:∀ l:List Fo,zbt (l.flatMap Fo.cells)=true
 | []=>rfl
 | .mk op s a m::l=>by
   rw [List.flatMap_cons,zaf]
   exact fo_one l
theorem concatG1_c (l m:List Fo) (h0:0<l.length+m.length) (hn:l.length+m.length≤1000) (H:Heap):VDet Tryz.prog 39 [.sl none 2 [.sl none l.length (l.flatMap Fo.cells),.sl none m.length (m.flatMap Fo.cells)]] H (.sl none (l.length+m.length) ((l++m).flatMap Fo.cells)):=by
 rw [List.flatMap_append]
 have l1:=fo_len4 l
 have l2:=fo_len4 m
 have o1:=fo_one l
 have o2:=fo_one m
 have b1:=zar H.length l
 have b2:=zar H.length m
 generalize l.flatMap Fo.cells=cl at *
 generalize m.flatMap Fo.cells=cm at *
 have hg:=grow_c (0+l.length+m.length) (by omega) (by omega)
 refine fdD Tryz.func39 ⟨rfl,rfl,rfl⟩ fun hcl hbl=>?_
 conv=>whnf
 refine LoopN.rounds Tryz.E0 zak 3 rfl ?_
 (repeat' ((conv=>whnf);(first|(refine IfN.id ?_;first|refine IfN.tt rfl ?_|refine IfN.ff rfl ?_|fail)|(refine zad _ _ Cst.h Cst.h ?_ ?_;· omega)|(refine SideN.mk ?_ ?_;· first|omega|exact List.cons_ne_nil _ _|fail)|refine zf5 _ _ _ 1 (hg _) rfl rfl rfl ?_|refine SegN.mk _ (zb8 rfl) ?_|fail)));conv=>whnf
 rw [show (H++([]:Heap))=H from List.append_nil H]
 refine LoopN.rounds Tryz.E0 zak 3 rfl ?_
 have hA1:AppT ([]:List AV).length 0 l.length 4 72 [] cl:=⟨rfl,o1,l1,by omega,by unfold maxLen;omega⟩
 have hA2:AppT ([]++cl:List AV).length (0+l.length) m.length 4 72 ([]++cl) cm:=⟨rfl,o2,l2,by omega,by unfold maxLen;omega⟩
 (repeat' ((conv=>whnf);(first|(refine IfN.id ?_;first|refine IfN.tt rfl ?_|refine IfN.ff rfl ?_|fail)|(refine zad _ _ Cst.h Cst.h ?_ ?_;· omega)|(refine SideN.mk ?_ ?_;· first|omega|exact List.cons_ne_nil _ _|fail)|refine PtrN.loc _ rfl ?_|refine SegN.mk _ (zb8 rfl) ?_|fail)));conv=>whnf
 refine EndN.detF (u':=.sl none (0+l.length+m.length) ([]++cl++cm)) ⟨fun _ e=>(nomatch e),(zaq _ _).2 ⟨b1,b2⟩⟩ (Frz.sl (FrzL.refl _)) (zab (by simp))
theorem concatG_c (l m:List Fo) (hn:l.length+m.length≤1000) (H:Heap):VDet Tryz.prog 39 [.sl none 2 [.sl none l.length (l.flatMap Fo.cells),.sl none m.length (m.flatMap Fo.cells)]] H (.sl none (l++m).length ((l++m).flatMap Fo.cells)):=by
 rw [List.length_append]
 rcases Nat.eq_zero_or_pos (l.length+m.length) with h0|h0
 ·obtain rfl:l=[]:=List.eq_nil_of_length_eq_zero (by omega)
  obtain rfl:m=[]:=List.eq_nil_of_length_eq_zero (by omega)
  exact concat0_c H
 ·exact concatG1_c l m h0 hn H
theorem fp_names {p:Fp} (hp:p.Ok) {l:List Fo} (h:p.fo∈l) (hl:∀ f∈l,zbe f=true):p.In (zao l):=(in_iffP _ p).2 fun c hc=>by
 rw [mem_namesG1]
 have key:∀ (l:List Fo) (ks:List ByteArray),(∀ f∈l,zbe f=true)→(c∈ks∨∃ f∈l,∃ q:Fp,q.Ok∧q.fo=f∧q.has c)→c∈addGs ks l:=by
  intro l
  induction l with
  | nil =>
    rintro ks _ (h|⟨f,hf,-⟩)
    ·rw [zbz];exact h
    ·cases hf
  | cons f l ih =>
    intro ks hl hh
    rw [zbr]
    refine ih _ (fun x hx=>hl x (List.mem_cons_of_mem _ hx)) ?_
    obtain ⟨q,hq,hqe⟩:=zez (hl f (List.mem_cons_self ..))
    rcases hh with h|⟨x,hx,r,hr,hre,hrc⟩
    ·exact .inl (by rw [hqe];exact (zfw c q ks hq).2 (.inl h))
    ·rcases List.mem_cons.1 hx with rfl|hx
     ·exact .inl (by rw [← hre];exact (zfw c r ks hr).2 (.inr hrc))
     ·exact .inr ⟨x,hx,r,hr,hre,hrc⟩
 exact key l [] hl (.inr ⟨_,h,p,hp,rfl,hc⟩)
def falBG (L R:List Fo) (v:Nat):Bool:=(L.all fun f=>evF (vbG (zao (L++R)) v) f)&&R.all fun f=>!evF (vbG (zao (L++R)) v) f
def falVG (L R:List Fo):Option Nat:=(List.range (2 ^ (zao (L++R)).length)).find? (falBG L R)
def flsA (L R:List Fo):AV:=if (L++R).all zbe=false then .tup [.int .i64 0,.bool false,.int .i64 2] else if 12<(zao (L++R)).length then .tup [.int .i64 0,.bool false,.int .i64 5] else falA (falVG L R)
def fo00:Fo:=.mk 0 .empty [] []
theorem takeFo (l:List Fo) (j:Nat) (h:j<l.length):l.take (j+1)=l.take j++[l.getD j fo00]:=take_snocT l j fo00 h
theorem falsify_g (L R:List Fo) (hgL:Fo.goodL L) (hgR:Fo.goodL R) (hg:Fo.goodL (L++R)) (hn:(addGs [] (L++R)).length≤100000) (hlen:L.length+R.length≤1000) (H:Heap) :
  VDet Tryz.prog 8 [.agg [.sl none L.length (L.flatMap Fo.cells),.sl none R.length (R.flatMap Fo.cells)]] H (flsA L R):=by
 have h0:=concatG_c L R hlen
 have h0:∀ H,VDet Tryz.prog 39 [.sx 2 [.sl none L.length (L.flatMap Fo.cells),.sl none R.length (R.flatMap Fo.cells)]] H (.sl none (L++R).length ((L++R).flatMap Fo.cells)):=fun H=>zbg (h0 H) ⟨wk_sx _ _,trivial⟩
 have h1:=own_g (L++R) hg (by rw [List.length_append];omega) hn
 have hlb:=fun n=>zar n (L++R)
 unfold flsA
 unfold ownA at h1
 by_cases hr:(L++R).all zbe=false
 ·rw [if_pos hr] at h1 ⊢
  clear hr
  have hlL:=fun n=>zar n L
  have hlR:=fun n=>zar n R
  generalize (L++R).length=len at *
  generalize (L++R).flatMap Fo.cells=lr at *
  generalize L.flatMap Fo.cells=cl at *
  generalize R.flatMap Fo.cells=cr at *
  refine fdD Tryz.func8 ⟨rfl,rfl,rfl⟩ fun hcl hbl=>?_
  (repeat' ((conv=>whnf);(first|(refine IfN.id ?_;first|refine IfN.not ?_|refine IfN.ff rfl ?_|fail)|(refine CallN.id ?_;first|refine CallN.det _ (h0 _) ?_|refine CallN.det _ (h1 _) ?_|fail)|fail)));conv=>whnf
  exact eT ⟨trivial,trivial,trivial,trivial⟩
 ·rw [if_neg hr] at h1 ⊢
  by_cases h12:12<(zao (L++R)).length
  ·rw [if_pos h12] at h1 ⊢
   clear hr h12
   have hlL:=fun n=>zar n L
   have hlR:=fun n=>zar n R
   generalize (L++R).length=len at *
   generalize (L++R).flatMap Fo.cells=lr at *
   generalize L.flatMap Fo.cells=cl at *
   generalize R.flatMap Fo.cells=cr at *
   refine fdD Tryz.func8 ⟨rfl,rfl,rfl⟩ fun hcl hbl=>?_
   (repeat' ((conv=>whnf);(first|(refine IfN.id ?_;first|refine IfN.not ?_|refine IfN.ff rfl ?_|fail)|(refine CallN.id ?_;first|refine CallN.det _ (h0 _) ?_|refine CallN.det _ (h1 _) ?_|fail)|fail)));conv=>whnf
   exact eT ⟨trivial,trivial,trivial,trivial⟩
  ·rw [if_neg h12] at h1 ⊢
   rw [Bool.not_eq_false,List.all_eq_true] at hr
   have h12:(zao (L++R)).length≤12:=by omega
   have hb:∀ f,f∈L++R→∀ n,n≤1000000→∀ H,VDet Tryz.prog 42 [tblG (zao (L++R)),.agg f.cells,.int .i64 (n:Nat)] H (U fun i=>evF (vbG (zao (L++R)) (64 * n+i)) f):=fun f hf n hn H=>by
    obtain ⟨p,hp,rfl⟩:=zez (hr f hf)
    have:=zd3 (zao (L++R)) (by omega) n hn p hp (fp_names hp hf hr) H
    unfold blkG at this
    have e:(fun i=>evF (vbG (zao (L++R)) (64 * n+i)) p.fo)=fun i=>p.ev (vbG (zao (L++R)) (64 * n+i)):=funext fun i=>zg6 _ p hp
    rw [e]
    exact this
   have hv:=valid_g _ h12
   have hbk:=blocks_g _ h12
   have h2l:=zco _ h12
   have hmod:=two_mod (zao (L++R)).length
   unfold falVG
   have hF:∀ v,falBG L R v=((L.all fun f=>evF (vbG (zao (L++R)) v) f)&&R.all fun f=>!evF (vbG (zao (L++R)) v) f):=fun v=>rfl
   generalize falBG L R=F at *
   unfold U at hb
   unfold okU U at hv
   have hbL:∀ j n:Nat,j<L.length→n≤1000000→∀ H,VDet Tryz.prog 42 [tblG (zao (L++R)),.agg (L.getD j fo00).cells,.int .i64 n] H (.int .u64 (zal 64 fun i=>evF (vbG (zao (L++R)) (64 * n+i)) (L.getD j fo00):Nat)):=fun j n hj=>hb _ (List.mem_append_left _ (zam L j fo00 hj)) n
   have hbR:∀ j n:Nat,j<R.length→n≤1000000→∀ H,VDet Tryz.prog 42 [tblG (zao (L++R)),.agg (R.getD j fo00).cells,.int .i64 n] H (.int .u64 (zal 64 fun i=>evF (vbG (zao (L++R)) (64 * n+i)) (R.getD j fo00):Nat)):=fun j n hj=>hb _ (List.mem_append_right _ (zam R j fo00 hj)) n
   generalize zao (L++R)=ns at *
   generalize (L++R).length=len at *
   generalize (L++R).flatMap Fo.cells=lr at *
   generalize 2 ^ ns.length=S at *
   have htb:=zch ns
   generalize tblG ns=t at *
   clear hb
   refine fdD Tryz.func8 ⟨rfl,rfl,rfl⟩ fun hcl hbl=>?_
   (repeat' ((conv=>whnf);(first|(refine IfN.id ?_;first|refine IfN.not ?_|refine IfN.tt rfl ?_|fail)|(refine CallN.id ?_;first|refine CallN.det _ (h0 _) ?_|refine CallN.det _ (h1 _) ?_|refine CallN.det _ (hbk _) ?_|fail)|fail)));conv=>whnf
   refine zau Tryz.E0 zak (σ:=Nat) (fun n=>n≤(S+63) / 64∧∀ v,v<64 * n→v<S→F v=false) (fun n=>(S+63) / 64-n) (fun n=>[(28,.v (.int .i64 n))]) (fun n=>_) _ 0 rfl hcl [1,5,27] rfl ⟨Nat.zero_le _,fun v hv=>absurd hv (by omega)⟩ ⟨⟨_,rfl,Wk.refl _⟩,trivial⟩ rfl (fun _ _=>rfl) ?_
   rintro n ⟨hn,hall⟩
   clear hbl
   have hL:=fun (j:Nat) (hj:j<L.length)=>hbL j n hj
   have hR:=fun (j:Nat) (hj:j<R.length)=>hbR j n hj
   obtain ⟨gL,hgL⟩:∃ gL:Nat→Nat→Bool,gL=fun j i=>decide (i<S)&&(L.take j).all fun f=>evF (vbG ns (64 * n+i)) f:=⟨_,rfl⟩
   obtain ⟨gR,hgR⟩:∃ gR:Nat→Nat→Bool,gR=fun j i=>gL L.length i&&(R.take j).all fun f=>!evF (vbG ns (64 * n+i)) f:=⟨_,rfl⟩
   have eL0:(fun i=>decide (i<S))=gL 0:=by subst hgL;funext i;simp
   have eR0:gL L.length=gR 0:=by subst hgR;funext i;simp
   have eL:∀ j,j<L.length→bits .and .u64 (zal 64 (gL j):Nat) (zal 64 fun i=>evF (vbG ns (64 * n+i)) (L.getD j fo00):Nat)=((zal 64 (gL (j+1)):Nat):Int):=fun j hj=>by
    rw [zf1]
    congr 2
    funext i
    subst hgL
    simp only [takeFo L j hj,List.all_append,List.all_cons,List.all_nil,Bool.and_true,Bool.and_assoc]
   have eR:∀ j,j<R.length→bits .andNot .u64 (zal 64 (gR j):Nat) (zal 64 fun i=>evF (vbG ns (64 * n+i)) (R.getD j fo00):Nat)=((zal 64 (gR (j+1)):Nat):Int):=fun j hj=>by
    rw [bits_andNot]
    congr 2
    funext i
    subst hgR
    simp only [takeFo R j hj,List.all_append,List.all_cons,List.all_nil,Bool.and_true,Bool.and_assoc]
   have eF:∀ i,gR R.length i=(decide (i<S)&&F (64 * n+i)):=fun i=>by
    rw [hF]
    subst hgR hgL
    simp only [List.take_length,Bool.and_assoc]
   rw [eL0] at hv
   clear hgL hgR hbL hbR
   (repeat' ((conv=>whnf);(first|refine za9 (fun _=>?_) (fun _=>?_)|refine CallN.det _ (hv _) ?_|fail)));all_goals (conv=>whnf)
   refine zau Tryz.E0 zak (σ:=Nat) (fun j=>j≤L.length) (fun j=>L.length-j) (fun j=>[(8,.v (.int .u64 (zal 64 (gL j):Nat))),(36,.v (.int .i64 j))]) (fun n=>_) _ 0 rfl hcl [1,5,7,27,28,34,35] rfl (Nat.zero_le _) ⟨⟨_,rfl,Wk.refl _⟩,⟨_,rfl,Wk.refl _⟩,trivial⟩ rfl (fun _ _=>rfl) ?_
   intro j hj
   rcases Nat.lt_or_ge j L.length with hjl|hjl
   ·have hLj:=hL j hjl
    have eLj:=eL j hjl
    obtain ⟨a1,a2,a3,a4,a5,a6,hw,hfb⟩:=zby (L.getD j fo00)
    rw [hw] at hLj
    (repeat' ((conv=>whnf);(first|refine IfN.dT (by omega) ?_|(refine EqN.id ?_;first|refine EqN.mk _ eLj ?_|(refine zad _ _ Cst.h Cst.h ?_ ?_;· omega)|fail)|(refine SideN.mk ?_ ?_;· first|omega|exact List.cons_ne_nil _ _|fail)|refine CallN.det _ (hLj (by omega) _) ?_|refine zah fo00 j rfl hjl za1 hw ?_|fail)));conv=>whnf
    (refine ⟨⟨j+1,by omega,by omega,?_,.inl ⟨rfl,rfl⟩,rfl,_,rfl,?_⟩⟩;rotate_left 1;exact .inr ⟨by simp [zc3,below,zae,tr,zaz,zar,zag,zb7,zcj,zdr],by simp [zdw,Blk.below,zae,below,zaz,zar,zag,zb7,zcj,zdr]⟩;exact ⟨⟨_,rfl,Wk.refl _⟩,⟨_,rfl,Wk.refl _⟩,trivial⟩)
   ·obtain rfl:j=L.length:=by omega
    rw [eR0]
    (repeat' ((conv=>whnf);(first|refine zaj (by omega) ?_|fail)));conv=>whnf
    refine zau Tryz.E0 zak (σ:=Nat) (fun j=>j≤R.length) (fun j=>R.length-j) (fun j=>[(8,.v (.int .u64 (zal 64 (gR j):Nat))),(50,.v (.int .i64 j))]) (fun n=>_) _ 0 rfl hcl [1,5,7,27,28,48,49] rfl (Nat.zero_le _) ⟨⟨_,rfl,Wk.refl _⟩,⟨_,rfl,Wk.refl _⟩,trivial⟩ rfl (fun _ _=>rfl) ?_
    intro j hj
    rcases Nat.lt_or_ge j R.length with hjr|hjr
    ·have hRj:=hR j hjr
     have eRj:=eR j hjr
     obtain ⟨a1,a2,a3,a4,a5,a6,hw,hfb⟩:=zby (R.getD j fo00)
     rw [hw] at hRj
     (repeat' ((conv=>whnf);(first|refine IfN.dT (by omega) ?_|(refine EqN.id ?_;first|refine EqN.mk _ eRj ?_|(refine zad _ _ Cst.h Cst.h ?_ ?_;· omega)|fail)|(refine SideN.mk ?_ ?_;· first|omega|exact List.cons_ne_nil _ _|fail)|refine CallN.det _ (hRj (by omega) _) ?_|refine zah fo00 j rfl hjr za1 hw ?_|fail)));conv=>whnf
     (refine ⟨⟨j+1,by omega,by omega,?_,.inl ⟨rfl,rfl⟩,rfl,_,rfl,?_⟩⟩;rotate_left 1;exact .inr ⟨by simp [zc3,below,zae,tr,zaz,zar,zag,zb7,zcj,zdr],by simp [zdw,Blk.below,zae,below,zaz,zar,zag,zb7,zcj,zdr]⟩;exact ⟨⟨_,rfl,Wk.refl _⟩,⟨_,rfl,Wk.refl _⟩,trivial⟩)
    ·obtain rfl:j=R.length:=by omega
     (repeat' ((conv=>whnf);(first|(refine IfN.id ?_;first|refine IfN.not ?_|refine zaj (by omega) ?_|refine za9 (fun _=>?_) (fun _=>?_)|fail)|(refine EqN.id ?_;first|(refine zad _ _ Cst.h Cst.h ?_ ?_;· omega)|refine EqN.i64 (by omega) ?_|fail)|fail)));all_goals (conv=>whnf)
     ·rename_i h6
      have hz:=mk_eq' _ h6
      (refine ⟨⟨n+1,⟨by omega,fun v hv hvS=>by
       rcases Nat.lt_or_ge v (64 * n) with h7|h7
       ·exact hall v h7 hvS
       ·have:=hz (v-64 * n) (by omega)
        have e:64 * n+(v-64 * n)=v:=by omega
        have e2:v-64 * n<S:=by omega
        rw [eF,e] at this
        simpa only [e2,decide_true,Bool.true_and] using this⟩,by omega,?_,.inr ?_,rfl,_,rfl,?_⟩⟩;rotate_left 2;exact .inl rfl;all_goals (repeat' (first|exact trivial|refine ⟨⟨_,rfl,?_⟩,?_⟩|fail));all_goals exact Wk.refl _)
     ·rename_i h6
      obtain ⟨k,k1,k2,k3⟩:=leastB _ 64 (mk_ne' _ h6)
      have htz:∀ H,VDet Tryz.prog 43 [.int .u64 (zal 64 (gR R.length):Nat)] H (.int .i64 k):=tz_c _ k k1 k2 k3
      rw [eF] at k2
      simp only [Bool.and_eq_true,decide_eq_true_eq] at k2
      have hfind:(List.range S).find? F=some (64 * n+k):=List.find?_range_eq_some.2 ⟨k2.2,List.mem_range.2 (by omega),fun v hv=>by
       rcases Nat.lt_or_ge v (64 * n) with h7|h7
       ·rw [hall v h7 (by omega)];rfl
       ·have:=k3 (v-64 * n) (by omega)
        have e:64 * n+(v-64 * n)=v:=by omega
        have e2:v-64 * n<S:=by omega
        rw [eF,e] at this
        simp only [e2,decide_true,Bool.true_and] at this
        rw [this];rfl⟩
      rw [hfind]
      (repeat' ((conv=>whnf);(first|refine EqN.i64 (by omega) ?_|refine CallN.det _ (htz _) ?_|fail)));conv=>whnf
      exact EndN.det ⟨trivial,trivial,trivial,trivial⟩ (zab (by simp [falA]))
   ·rename_i h3
    have:(List.range S).find? F=none:=List.find?_range_eq_none.2 fun v hv=>by
     rw [hall v (by omega) hv];rfl
    rw [this]
    exact eT ⟨trivial,trivial,trivial,trivial⟩
def folA (L R:List Fo):AV:=if (L++R).all zbe=false then .tup [.bool false,.int .i64 2] else if 12<(zao (L++R)).length then .tup [.bool false,.int .i64 5] else .tup [.bool (falVG L R).isNone,.int .i64 0]
theorem follows_g (L R:List Fo) (hgL:Fo.goodL L) (hgR:Fo.goodL R) (hg:Fo.goodL (L++R)) (hn:(addGs [] (L++R)).length≤100000) (hlen:L.length+R.length≤1000) (H:Heap) :
  VDet Tryz.prog 9 [.agg [.sl none L.length (L.flatMap Fo.cells),.sl none R.length (R.flatMap Fo.cells)]] H (folA L R):=by
 have h1:=falsify_g L R hgL hgR hg hn hlen
 have hl:=fun n=>zar n L
 have hr:=fun n=>zar n R
 unfold folA
 unfold flsA at h1
 generalize L.flatMap Fo.cells=lc at *
 generalize R.flatMap Fo.cells=rc at *
 split
 ·rename_i h
  rw [if_pos h] at h1
  refine fdD Tryz.func9 ⟨rfl,rfl,rfl⟩ fun hcl hbl=>?_
  (repeat' ((conv=>whnf);(first|refine IfN.ff rfl ?_|refine CallN.det _ (h1 _) ?_|fail)));conv=>whnf
  exact eT ⟨trivial,trivial,trivial⟩
 ·rename_i h
  rw [if_neg h] at h1
  split
  ·rename_i h2
   rw [if_pos h2] at h1
   refine fdD Tryz.func9 ⟨rfl,rfl,rfl⟩ fun hcl hbl=>?_
   (repeat' ((conv=>whnf);(first|refine IfN.ff rfl ?_|refine CallN.det _ (h1 _) ?_|fail)));conv=>whnf
   exact eT ⟨trivial,trivial,trivial⟩
  ·rename_i h2
   rw [if_neg h2] at h1
   generalize falVG L R=o at *
   cases o with
   | none =>
     simp only [falA] at h1
     refine fdD Tryz.func9 ⟨rfl,rfl,rfl⟩ fun hcl hbl=>?_
     (repeat' ((conv=>whnf);(first|refine IfN.tt rfl ?_|refine CallN.det _ (h1 _) ?_|fail)));conv=>whnf
     exact eT ⟨trivial,trivial,trivial⟩
   | some v =>
     simp only [falA] at h1
     refine fdD Tryz.func9 ⟨rfl,rfl,rfl⟩ fun hcl hbl=>?_
     (repeat' ((conv=>whnf);(first|refine IfN.tt rfl ?_|refine CallN.det _ (h1 _) ?_|fail)));conv=>whnf
     exact eT ⟨trivial,trivial,trivial⟩
end
section
attribute [local irreducible] VW VCall VO bits zal cntS cntB
def tblA (f:Fo) (l:List ByteArray):AV:=if errN f l 0=0 then .tup [.sl none (2 ^ l.length) ((List.range (2 ^ l.length)).map fun v=>.bool (evF (vbG l v) f)),.int .i64 0] else .tup [.sl none 0 [],.int .i64 (errN f l 0)]
theorem table_g (f:Fo) (hg:f.good) (hn:(addGs [] [f]).length≤100000) (l:List ByteArray) (hlen:l.length≤9223372036854775807) (hsz:∀ c∈l,c.size≤maxLen) (H:Heap):VDet Tryz.prog 20 [.agg f.cells,.sl none l.length (l.flatMap encSG)] H (tblA f l):=by
 have h1:=zgt f hg hn l hlen hsz 0
 rw [zgu] at h1
 unfold tblA
 by_cases he:errN f l 0=0
 ·rw [if_pos he] at h1 ⊢
  obtain ⟨h12,hr,hnm,-,hin⟩:=zfm he
  obtain ⟨p,hp,rfl⟩:=zez hr
  have h2l:=zco l.length h12
  have h2:=fun n (hn:n≤1000000)=>zd3 l (by omega) n hn p hp (zfl hp hin)
  have hs:=size_g l h12
  have hbk:=blocks_g l h12
  have hres:(List.range (2 ^ l.length)).map (fun v=>AV.bool (evF (vbG l v) p.fo))=tabB (fun v=>p.ev (vbG l v)) (2 ^ l.length) (2 ^ l.length):=by
   unfold tabB
   exact List.map_congr_left fun v hv=>by simp [List.mem_range.1 hv,zg6 _ p hp]
  rw [hres]
  unfold blkG U at h2
  generalize hh:(fun v=>p.ev (vbG l v))=h at *
  have h2:∀ n:Nat,n≤1000000→∀ H,VDet Tryz.prog 42 [tblG l,.agg p.fo.cells,.int .i64 n] H (.int .u64 (zal 64 fun i=>h (64 * n+i):Nat)):=fun n hn H=>by
   subst hh
   exact h2 n hn H
  clear hres hh hg hn hsz hlen hr hnm hin he
  generalize hS:2 ^ l.length=S at *
  have htb:=zch l
  generalize tblG l=t at *
  obtain ⟨fo,fn,fan,fac,fsn,fsc,hw,hfb⟩:=zby p.fo
  rw [hw] at h1 h2 ⊢
  generalize l.flatMap encSG=lc at *
  generalize l.length=ll at *
  refine fdD Tryz.func20 ⟨rfl,rfl,rfl⟩ fun hcl hbl=>?_
  (repeat' ((conv=>whnf);(first|(refine OrN.l ?_;refine NatN.mk _ rfl ?_;refine SideN.mk ⟨rfl,by omega,by dsimp only;omega⟩ ?_;refine OrN.r ?_)|(refine IfN.id ?_;first|refine IfN.not ?_|refine IfN.tt rfl ?_|fail)|(refine CallN.id ?_;first|refine CallN.det _ (h1 _) ?_|refine CallN.det _ (hs _) ?_|refine CallN.det _ (hbk _) ?_|fail)|fail)));conv=>whnf
  refine zau Tryz.E0 zak (σ:=Nat) (fun n=>n≤(S+63) / 64) (fun n=>(S+63) / 64-n) (fun n=>[(26,.v (.int .i64 n))]) (fun n=>[.box 40 [.int .u8 (fo:Nat),.str fn,.sl none fan fac,.sl none fsn fsc],.box 4 (tabB h S (min (64 * n) S))]) _ 0 rfl hcl [2,6,8,25] rfl (Nat.zero_le _) ⟨⟨_,rfl,Wk.refl _⟩,trivial⟩ (by rw [rep_tab h S,show min (64 * 0) S=0 by omega]) (fun _ _=>rfl) ?_
  intro n hn
  clear hbl
  obtain ⟨gg,hgg,hbit⟩:∃ gg:Nat,(n<(S+63) / 64→∀ H,VDet Tryz.prog 42 [t,.agg [.int .u8 (fo:Nat),.str fn,.sl none fan fac,.sl none fsn fsc],.int .i64 n] H (.int .u64 (gg:Nat)))∧(∀ i:Nat,64 * n≤i→i<64 * n+64→(bits .and .u64 (((gg:Nat):Int).fdiv (2 ^ min (((i % 64:Nat):Nat):Int).toNat IntKind.u64.bits)) 1==1)=h i) :=
   ⟨zal 64 fun i=>h (64 * n+i),fun hlt H=>h2 n (by omega) H,fun i h3 h4=>by
    rw [zdk _ (i % 64) (by omega),bit_one _ (i % 64) (by omega)]
    congr 1
    omega⟩
  (repeat' ((conv=>whnf);(first|refine za9 (fun _=>?_) (fun _=>?_)|refine EqN.i64 (by omega) ?_|refine CallN.det _ (hgg (by omega) _) ?_|fail)));all_goals (conv=>whnf)
  ·refine zau Tryz.E0 zak (σ:=Nat) (fun i=>64 * n≤i∧i≤64 * n+64∧i≤S) (fun i=>S-i) (fun i=>[(11,.v (.int .i64 i))]) (fun i=>[.box 40 [.int .u8 (fo:Nat),.str fn,.sl none fan fac,.sl none fsn fsc],.box 4 (tabB h S i)]) _ (64 * n) rfl hcl [2,6,8,9,10,25,26] rfl ⟨by omega,by omega,by omega⟩ ⟨⟨_,rfl,Wk.refl _⟩,trivial⟩ (by rw [show min (64 * n) S=64 * n by omega]) (fun _ _=>rfl) ?_
   rintro i ⟨hi1,hi2,hi3⟩
   (repeat' ((conv=>whnf);(first|refine za9 (fun _=>?_) (fun _=>?_)|(refine EqN.id ?_;first|(refine zad _ _ Cst.h Cst.h ?_ ?_;· omega)|refine EqN.i64 (by omega) ?_|refine EqN.rem (by omega) ?_|refine EqN.mk _ rfl ?_|fail)|refine SideN.mk (by omega) ?_|refine PtrN.loc _ rfl ?_|refine OfsN.at_ (by omega) ?_|fail)));all_goals (conv=>whnf)
   ·have hv:=hbit i hi1 (by omega)
    have key:setC (tabB h S i) (0+(i:Int).toNat * 1) [.bool (bits .and .u64 (((gg:Nat):Int).fdiv (2 ^ min ((i:Int) % 64).toNat IntKind.u64.bits)) 1==1)]=some (tabB h S (i+1)):=by
     have:=set_tab h S i (by omega)
     rw [← hv] at this
     rw [Int.toNat_natCast,Nat.zero_add,Nat.mul_one]
     exact this
    have hst:storeS Tryz.T 4 [.box 40 [.int .u8 (fo:Nat),.str fn,.sl none fan fac,.sl none fsn fsc],.box 4 (tabB h S i)] (some (.lp (0+1) (0+(i:Int).toNat * 1))) (some (.bool (bits .and .u64 (((gg:Nat):Int).fdiv (2 ^ min ((i:Int) % 64).toNat IntKind.u64.bits)) 1==1)))=.upd (0+1) (.box 4 (tabB h S (i+1))) none:=storeS_box rfl rfl rfl rfl key
    refine Eq.mpr (congrArg (@SR.rec (fun _=>Prop) _ _ _ _ _ _ _ _ _ _ _ _ _ _ _ _ _ _ _ _ _) hst) ?_
    (repeat' ((conv=>whnf);(first|(refine zad _ _ Cst.h Cst.h ?_ ?_;· omega)|fail)));conv=>whnf
    (refine ⟨⟨i+1,⟨by omega,by omega,by omega⟩,by omega,?_,.inl ⟨rfl,rfl⟩,rfl,_,rfl,?_⟩⟩;rotate_left 1;exact .inl rfl;exact ⟨⟨_,rfl,Wk.refl _⟩,trivial⟩)
   ·obtain rfl:i=min (64 * (n+1)) S:=by omega
    (refine ⟨⟨n+1,by omega,by omega,?_,.inr ?_,rfl,_,rfl,?_⟩⟩;rotate_left 2;exact .inl rfl;all_goals (repeat' (first|exact trivial|refine ⟨⟨_,rfl,?_⟩,?_⟩|fail));all_goals exact Wk.refl _)
   ·obtain rfl:i=min (64 * (n+1)) S:=by omega
    (refine ⟨⟨n+1,by omega,by omega,?_,.inr ?_,rfl,_,rfl,?_⟩⟩;rotate_left 2;exact .inl rfl;all_goals (repeat' (first|exact trivial|refine ⟨⟨_,rfl,?_⟩,?_⟩|fail));all_goals exact Wk.refl _)
  ·refine EndN.detF (u':=.tup [.sl none S (tabB h S (min (64 * n) S)),.int .i64 0]) ⟨⟨fun _ e=>(nomatch e),tabB_below _ _ _ _⟩,trivial,trivial⟩ (Frz.tup (FrzL.cons (Frz.ms rfl rfl (FrzL.refl _)) (FrzL.refl _))) (zab ?_)
   rw [show min (64 * n) S=S by omega]
 ·rw [if_neg he] at h1 ⊢
  clear hg hn hsz hlen
  have h0:¬ errN f l 0=0:=he
  generalize errN f l 0=e at *
  obtain ⟨fo,fn,fan,fac,fsn,fsc,hw,hfb⟩:=zby f
  rw [hw] at h1 ⊢
  generalize l.flatMap encSG=lc at *
  generalize l.length=ll at *
  refine fdD Tryz.func20 ⟨rfl,rfl,rfl⟩ fun hcl hbl=>?_
  (repeat' ((conv=>whnf);(first|(refine IfN.id ?_;first|refine IfN.not ?_|refine zaj (by omega) ?_|fail)|refine CallN.det _ (h1 _) ?_|fail)));conv=>whnf
  exact EndN.det (by simp [below,zae]) (by (repeat' (first|exact trivial|refine And.intro ?_ ?_|exact Wk.refl _|exact zdo|refine wk_tup ?_|fail));done)
def cntA (f:Fo):AV:=if zbe f=false then .tup [.int .i64 0,.int .i64 0,.int .i64 2] else if 12<(zao [f]).length then .tup [.int .i64 0,.int .i64 0,.int .i64 5] else .tup [.int .i64 (cntS (2 ^ (zao [f]).length) (fun v=>evF (vbG (zao [f]) v) f):Nat),.int .i64 (2 ^ (zao [f]).length:Nat),.int .i64 0]
theorem count_g (f:Fo) (hg:f.good) (hn:(addGs [] [f]).length≤100000) (H:Heap):VDet Tryz.prog 21 [.agg f.cells] H (cntA f):=by
 have h1:=own_g [f] ⟨hg,trivial⟩ (by simp) hn
 rw [show [f].flatMap Fo.cells=f.cells by simp] at h1
 unfold cntA
 unfold ownA at h1
 rw [show [f].all zbe=zbe f by simp] at h1
 by_cases hr:zbe f=false
 ·rw [if_pos hr] at h1 ⊢
  clear hr hn
  obtain ⟨a1,a2,a3,a4,a5,a6,hw,hb⟩:=zby f
  rw [hw] at h1 ⊢
  have h1:∀ H,VDet Tryz.prog 38 [.sx 1 [.int .u8 (a1:Nat),.str a2,.sl none a3 a4,.sl none a5 a6]] H (.tup [.nilp,.int .i64 2]):=fun H=>zbg (h1 H) ⟨wk_sx _ _,trivial⟩
  refine fdD Tryz.func21 ⟨rfl,rfl,rfl⟩ fun hcl hbl=>?_
  (repeat' ((conv=>whnf);(first|(refine IfN.id ?_;first|refine IfN.not ?_|refine IfN.ff rfl ?_|fail)|refine CallN.det _ (h1 _) ?_|fail)));conv=>whnf
  exact eT ⟨trivial,trivial,trivial,trivial⟩
 ·rw [if_neg hr] at h1 ⊢
  by_cases h12:12<(zao [f]).length
  ·rw [if_pos h12] at h1 ⊢
   clear hr hn h12
   obtain ⟨a1,a2,a3,a4,a5,a6,hw,hb⟩:=zby f
   rw [hw] at h1 ⊢
   have h1:∀ H,VDet Tryz.prog 38 [.sx 1 [.int .u8 (a1:Nat),.str a2,.sl none a3 a4,.sl none a5 a6]] H (.tup [.nilp,.int .i64 5]):=fun H=>zbg (h1 H) ⟨wk_sx _ _,trivial⟩
   refine fdD Tryz.func21 ⟨rfl,rfl,rfl⟩ fun hcl hbl=>?_
   (repeat' ((conv=>whnf);(first|(refine IfN.id ?_;first|refine IfN.not ?_|refine IfN.ff rfl ?_|fail)|refine CallN.det _ (h1 _) ?_|fail)));conv=>whnf
   exact eT ⟨trivial,trivial,trivial,trivial⟩
  ·rw [if_neg h12] at h1 ⊢
   rw [Bool.not_eq_false] at hr
   have h12:(zao [f]).length≤12:=by omega
   obtain ⟨p,hp,rfl⟩:=zez hr
   have hb1:=fun n (hn:n≤1000000)=>zd3 (zao [p.fo]) (by omega) n hn p hp (fp_names hp (by simp) (fun x hx=>by simp only [List.mem_singleton] at hx;exact hx▸hr))
   have hv:=valid_g _ h12
   have hbk:=blocks_g _ h12
   have hsz:=size_g _ h12
   have h2l:=zco _ h12
   generalize hns:zao [p.fo]=ns at *
   have hev:(fun v=>evF (vbG ns v) p.fo)=fun v=>p.ev (vbG ns v):=funext fun v=>zg6 _ p hp
   rw [hev]
   unfold blkG U at hb1
   unfold okU U at hv
   generalize hF:(fun v=>p.ev (vbG ns v))=F at *
   have hb1:∀ n:Nat,n≤1000000→∀ H,VDet Tryz.prog 42 [tblG ns,.agg p.fo.cells,.int .i64 n] H (.int .u64 (zal 64 fun i=>F (64 * n+i):Nat)):=fun n hn H=>by
    subst hF
    exact hb1 n hn H
   have hmod:=two_mod ns.length
   generalize 2 ^ ns.length=S at *
   have htb:=zch ns
   generalize tblG ns=t at *
   clear hev hF hr hn hg
   obtain ⟨a1,a2,a3,a4,a5,a6,hw,hfb⟩:=zby p.fo
   rw [hw] at h1 hb1 ⊢
   have h1:∀ H,VDet Tryz.prog 38 [.sx 1 [.int .u8 (a1:Nat),.str a2,.sl none a3 a4,.sl none a5 a6]] H (.tup [t,.int .i64 0]):=fun H=>zbg (h1 H) ⟨wk_sx _ _,trivial⟩
   refine fdD Tryz.func21 ⟨rfl,rfl,rfl⟩ fun hcl hbl=>?_
   (repeat' ((conv=>whnf);(first|(refine IfN.id ?_;first|refine IfN.not ?_|refine IfN.tt rfl ?_|fail)|(refine CallN.id ?_;first|refine CallN.det _ (h1 _) ?_|refine CallN.det _ (hbk _) ?_|fail)|fail)));conv=>whnf
   refine zau Tryz.E0 zak (σ:=Nat) (fun n=>n≤(S+63) / 64) (fun n=>(S+63) / 64-n) (fun n=>[(7,.v (.int .i64 (cntS (min (64 * n) S) F:Nat))),(20,.v (.int .i64 n))]) (fun n=>_) _ 0 rfl hcl [1,5,19] rfl (Nat.zero_le _) ⟨⟨_,rfl,zab (by rw [show min (64 * 0) S=0 by omega,cntS_nil];rfl)⟩,⟨_,rfl,Wk.refl _⟩,trivial⟩ rfl (fun _ _=>rfl) ?_
   rintro n hn
   clear hbl
   by_cases hlt:n<(S+63) / 64
   ·have hc1:cntS (min (64 * n) S) F≤4096:=Nat.le_trans (cntS_le _ _) (by omega)
    have hc2:=cnt_block F S n hmod (by omega)
    have hc3:cntB (fun i=>F (64 * n+i)&&decide (i<S))≤64:=by rw [cntB_eq];exact cntS_le _ _
    have ho:=fun H=>ones_c (fun i=>F (64 * n+i)&&decide (i<S)) H
    have hb:=hb1 n (by omega)
    generalize cntS (min (64 * n) S) F=x at *
    generalize cntB (fun i=>F (64 * n+i)&&decide (i<S))=y at *
    have hand:=zf1 (fun i=>F (64 * n+i)) (fun i=>decide (i<S))
    generalize zal 64 (fun i=>F (64 * n+i)&&decide (i<S))=z at *
    generalize zal 64 (fun i=>F (64 * n+i))=z1 at *
    generalize zal 64 (fun i=>decide (i<S))=z2 at *
    clear hb1
    (repeat' ((conv=>whnf);(first|refine IfN.dT (by omega) ?_|(refine EqN.id ?_;first|refine EqN.mk _ hand ?_|(refine zad _ _ Cst.h Cst.h ?_ ?_;· omega)|fail)|(refine CallN.id ?_;first|refine CallN.det _ (hb _) ?_|refine CallN.det _ (hv _) ?_|refine CallN.det _ (ho _) ?_|fail)|fail)));conv=>whnf
    (refine ⟨⟨n+1,by omega,by omega,?_,.inl ⟨rfl,rfl⟩,rfl,_,rfl,?_⟩⟩;rotate_left 1;exact .inl rfl;(repeat' (first|exact trivial|refine ⟨⟨_,rfl,?_⟩,?_⟩|fail));all_goals (first|exact Wk.refl _|exact zab (congrArg (AV.int _) (by omega))|fail))
   ·have hS:min (64 * n) S=S:=by omega
    rw [hS]
    generalize cntS S F=x at *
    (repeat' ((conv=>whnf);(first|refine zaj (by omega) ?_|refine CallN.det _ (hsz _) ?_|fail)));conv=>whnf
    exact eT ⟨trivial,trivial,trivial,trivial⟩
end
section
attribute [local irreducible] VW VCall VO bits
theorem rin_c (c:UInt8) (a b:Nat) (x y:Int) (hx:x=a) (hy:y=b) (H:Heap):VDet Tryz.prog 135 [.int .u8 c.toNat,.int .u8 x,.int .u8 y] H (.bool (inR a b c)):=by
 refine fdD Tryz.func135 ⟨rfl,rfl,rfl⟩ fun hcl hbl=>?_
 (repeat' ((conv=>whnf);(first|refine za9 (fun _=>?_) (fun _=>?_)|fail)));all_goals (conv=>whnf)
 all_goals (refine EndN.det trivial (zab (congrArg AV.bool (Bool.eq_iff_iff.2 ?_)));simp only [inR,Bool.and_eq_true,decide_eq_true_eq,Bool.false_eq_true,false_iff];omega)
def refQ (dg:Bool) (c:UInt8):Bool:=inR 48 57 c || (!dg&&(inR 65 90 c || inR 97 122 c))
def letB (dg:Bool) (s:ByteArray):Bool:=decide (1≤s.size∧s.size≤16)&&(List.range' 1 (s.size-1)).all fun i=>refQ dg (bt s i)
theorem letB_no {dg:Bool} {s:ByteArray} {k:Nat} (h1:1≤k) (h2:k<s.size) (h:refQ dg (bt s k)=false):letB dg s=false:=by
 unfold letB
 have:((List.range' 1 (s.size-1)).all fun i=>refQ dg (bt s i))=false:=by
  apply Bool.eq_false_iff.2
  intro hA
  have:=List.all_eq_true.1 hA k (List.mem_range'.2 ⟨k-1,by omega,by omega⟩)
  rw [h] at this
  cases this
 rw [this,Bool.and_false]
theorem letB_yes {dg:Bool} {s:ByteArray} (h:∀ i,1≤i→i<s.size→refQ dg (bt s i)=true):letB dg s=decide (1≤s.size∧s.size≤16):=by
 unfold letB
 have:((List.range' 1 (s.size-1)).all fun i=>refQ dg (bt s i))=true:=by
  rw [List.all_eq_true]
  intro i hi
  obtain ⟨j,hj,rfl⟩:=List.mem_range'.1 hi
  exact h _ (by omega) (by omega)
 rw [this,Bool.and_true]
theorem letters_t (s:ByteArray) (hs:s.size≤9223372036854775807) (H:Heap):VDet Tryz.prog 134 [.str s,.bool true] H (.bool (letB true s)):=by
 refine fdD Tryz.func134 ⟨rfl,rfl,rfl⟩ fun hcl hbl=>?_
 conv=>whnf
 refine zau Tryz.E0 zak (σ:=Nat) (fun k=>1≤k∧(k≤s.size∨k=1)∧∀ i,1≤i→i<k→refQ true (bt s i)=true) (fun k=>s.size-k) (fun k=>[(5,.v (.int .i64 k))]) (fun _=>[]) _ 1 rfl hcl [0,1] rfl ⟨Nat.le_refl _,.inr rfl,fun i h1 h2=>by omega⟩ ⟨⟨_,rfl,Wk.refl _⟩,trivial⟩ rfl (fun _ _=>rfl) ?_
 rintro k ⟨hk1,hk,hall⟩
 clear hbl
 by_cases hlt:k<s.size
 ·have hbk:=bt_get s k hlt k rfl
  have r1:=rin_c (bt s k) 48 57 48 57 rfl rfl
  have r2:=rin_c (bt s k) 65 90 65 90 rfl rfl
  have r3:=rin_c (bt s k) 97 122 97 122 rfl rfl
  have hq:refQ true (bt s k)=(inR 48 57 (bt s k) || (!true&&(inR 65 90 (bt s k) || inR 97 122 (bt s k)))):=rfl
  generalize inR 48 57 (bt s k)=b1 at *
  generalize inR 65 90 (bt s k)=b2 at *
  generalize inR 97 122 (bt s k)=b3 at *
  cases b1 with
  | true =>
    (repeat' ((conv=>whnf);(first|(refine IfN.id ?_;first|refine IfN.not ?_|refine IfN.tt rfl ?_|refine IfN.dT (by omega) ?_|fail)|(refine zad _ _ Cst.h Cst.h ?_ ?_;· omega)|refine SideN.mk (by omega) ?_|refine CallN.det _ (r1 _) ?_|refine ByteN.mk _ hbk ?_|fail)));conv=>whnf
    (refine ⟨⟨k+1,⟨by omega,by omega,fun i h3 h4=>by
     by_cases e:i=k
     ·rw [e];exact hq
     ·exact hall i h3 (by omega)⟩,by omega,?_,.inl ⟨rfl,rfl⟩,rfl,_,rfl,?_⟩⟩;rotate_left 1;exact .inl rfl;exact ⟨⟨_,rfl,Wk.refl _⟩,trivial⟩)
  | false =>
    (repeat' ((conv=>whnf);(first|(refine IfN.id ?_;first|refine IfN.not ?_|refine IfN.tt rfl ?_|refine IfN.ff rfl ?_|refine IfN.dT (by omega) ?_|fail)|refine SideN.mk (by omega) ?_|refine CallN.det _ (r1 _) ?_|refine ByteN.mk _ hbk ?_|fail)));conv=>whnf
    rw [letB_no hk1 hlt hq]
    exact eT trivial
 ·rw [letB_yes (fun i h1 h2=>hall i h1 (by omega))]
  by_cases h0:1≤s.size∧s.size≤16
  ·rw [decide_eq_true h0]
   (repeat' ((conv=>whnf);(first|(refine IfN.id ?_;first|refine IfN.dT (by omega) ?_|refine zaj (by omega) ?_|fail)|fail)));conv=>whnf
   exact EndN.det trivial (zab (congrArg AV.bool (decide_eq_true (by omega))))
  ·rw [decide_eq_false h0]
   (repeat' ((conv=>whnf);(first|(refine IfN.id ?_;first|refine zaj (by omega) ?_|refine za9 (fun _=>?_) (fun _=>?_)|fail)|fail)));all_goals (conv=>whnf)
   all_goals first|exact eT trivial|exact EndN.det trivial (zab (congrArg AV.bool (decide_eq_false (by omega))))
theorem letters_f (s:ByteArray) (hs:s.size≤9223372036854775807) (H:Heap):VDet Tryz.prog 134 [.str s,.bool false] H (.bool (letB false s)):=by
 refine fdD Tryz.func134 ⟨rfl,rfl,rfl⟩ fun hcl hbl=>?_
 conv=>whnf
 refine zau Tryz.E0 zak (σ:=Nat) (fun k=>1≤k∧(k≤s.size∨k=1)∧∀ i,1≤i→i<k→refQ false (bt s i)=true) (fun k=>s.size-k) (fun k=>[(5,.v (.int .i64 k))]) (fun _=>[]) _ 1 rfl hcl [0,1] rfl ⟨Nat.le_refl _,.inr rfl,fun i h1 h2=>by omega⟩ ⟨⟨_,rfl,Wk.refl _⟩,trivial⟩ rfl (fun _ _=>rfl) ?_
 rintro k ⟨hk1,hk,hall⟩
 clear hbl
 by_cases hlt:k<s.size
 ·have hbk:=bt_get s k hlt k rfl
  have r1:=rin_c (bt s k) 48 57 48 57 rfl rfl
  have r2:=rin_c (bt s k) 65 90 65 90 rfl rfl
  have r3:=rin_c (bt s k) 97 122 97 122 rfl rfl
  have hq:refQ false (bt s k)=(inR 48 57 (bt s k) || (!false&&(inR 65 90 (bt s k) || inR 97 122 (bt s k)))):=rfl
  generalize inR 48 57 (bt s k)=b1 at *
  generalize inR 65 90 (bt s k)=b2 at *
  generalize inR 97 122 (bt s k)=b3 at *
  cases b1 with
  | true =>
    (repeat' ((conv=>whnf);(first|(refine IfN.id ?_;first|refine IfN.not ?_|refine IfN.tt rfl ?_|refine IfN.dT (by omega) ?_|fail)|(refine zad _ _ Cst.h Cst.h ?_ ?_;· omega)|refine SideN.mk (by omega) ?_|refine CallN.det _ (r1 _) ?_|refine ByteN.mk _ hbk ?_|fail)));conv=>whnf
    (refine ⟨⟨k+1,⟨by omega,by omega,fun i h3 h4=>by
     by_cases e:i=k
     ·rw [e];exact hq
     ·exact hall i h3 (by omega)⟩,by omega,?_,.inl ⟨rfl,rfl⟩,rfl,_,rfl,?_⟩⟩;rotate_left 1;exact .inl rfl;exact ⟨⟨_,rfl,Wk.refl _⟩,trivial⟩)
  | false =>
    cases b2 with
    | true =>
      (repeat' ((conv=>whnf);(first|(refine IfN.id ?_;first|refine IfN.not ?_|refine IfN.tt rfl ?_|refine IfN.ff rfl ?_|refine IfN.dT (by omega) ?_|fail)|(refine zad _ _ Cst.h Cst.h ?_ ?_;· omega)|refine SideN.mk (by omega) ?_|(refine CallN.id ?_;first|refine CallN.det _ (r1 _) ?_|refine CallN.det _ (r2 _) ?_|fail)|refine ByteN.mk _ hbk ?_|fail)));conv=>whnf
      (refine ⟨⟨k+1,⟨by omega,by omega,fun i h3 h4=>by
       by_cases e:i=k
       ·rw [e];exact hq
       ·exact hall i h3 (by omega)⟩,by omega,?_,.inl ⟨rfl,rfl⟩,rfl,_,rfl,?_⟩⟩;rotate_left 1;exact .inl rfl;exact ⟨⟨_,rfl,Wk.refl _⟩,trivial⟩)
    | false =>
      cases b3 with
      | true =>
        (repeat' ((conv=>whnf);(first|(refine IfN.id ?_;first|refine IfN.not ?_|refine IfN.tt rfl ?_|refine IfN.ff rfl ?_|refine IfN.dT (by omega) ?_|fail)|(refine zad _ _ Cst.h Cst.h ?_ ?_;· omega)|refine SideN.mk (by omega) ?_|(refine CallN.id ?_;first|refine CallN.det _ (r1 _) ?_|refine CallN.det _ (r2 _) ?_|refine CallN.det _ (r3 _) ?_|fail)|refine ByteN.mk _ hbk ?_|fail)));conv=>whnf
        (refine ⟨⟨k+1,⟨by omega,by omega,fun i h3 h4=>by
         by_cases e:i=k
         ·rw [e];exact hq
         ·exact hall i h3 (by omega)⟩,by omega,?_,.inl ⟨rfl,rfl⟩,rfl,_,rfl,?_⟩⟩;rotate_left 1;exact .inl rfl;exact ⟨⟨_,rfl,Wk.refl _⟩,trivial⟩)
      | false =>
        (repeat' ((conv=>whnf);(first|(refine IfN.id ?_;first|refine IfN.not ?_|refine IfN.ff rfl ?_|refine IfN.dT (by omega) ?_|fail)|refine SideN.mk (by omega) ?_|(refine CallN.id ?_;first|refine CallN.det _ (r1 _) ?_|refine CallN.det _ (r2 _) ?_|refine CallN.det _ (r3 _) ?_|fail)|refine ByteN.mk _ hbk ?_|fail)));conv=>whnf
        rw [letB_no hk1 hlt hq]
        exact eT trivial
 ·rw [letB_yes (fun i h1 h2=>hall i h1 (by omega))]
  by_cases h0:1≤s.size∧s.size≤16
  ·rw [decide_eq_true h0]
   (repeat' ((conv=>whnf);(first|(refine IfN.id ?_;first|refine IfN.dT (by omega) ?_|refine zaj (by omega) ?_|fail)|fail)));conv=>whnf
   exact EndN.det trivial (zab (congrArg AV.bool (decide_eq_true (by omega))))
  ·rw [decide_eq_false h0]
   (repeat' ((conv=>whnf);(first|(refine IfN.id ?_;first|refine zaj (by omega) ?_|refine za9 (fun _=>?_) (fun _=>?_)|fail)|fail)));all_goals (conv=>whnf)
   all_goals first|exact eT trivial|exact EndN.det trivial (zab (congrArg AV.bool (decide_eq_false (by omega))))
theorem letB_size {dg:Bool} {s:ByteArray} (h:letB dg s=true):1≤s.size:=by
 unfold letB at h
 rw [Bool.and_eq_true,decide_eq_true_eq] at h
 exact h.1.1
theorem res_at {s:ByteArray} (h:isRes s=true):isCap (bt s 0)=false∧(isDig (bt s 1)=false∧2≤s.size):=by
 unfold isRes wordE at h
 simp only [zfb,Bool.or_eq_true,decide_eq_true_eq] at h
 rcases h with h|h|h|h|h|h <;> subst h <;> decide
theorem refQ_f (c:UInt8):refQ false c=isAln c:=by
 unfold refQ isAln isSml isCap isDig
 cases inR 48 57 c <;> cases inR 65 90 c <;> cases inR 97 122 c <;> rfl
theorem refQ_t (c:UInt8):refQ true c=isDig c:=by
 unfold refQ isDig
 cases inR 48 57 c <;> rfl
theorem isPred_let (s:ByteArray):zd1 s=(letB false s&&isCap (bt s 0)):=by
 unfold zd1 nameB letB
 simp only [refQ_f]
 cases hr:isRes s with
 | false=>generalize (List.all _ _)=a;cases a <;> cases isCap (bt s 0) <;> simp
 | true=>rw [(res_at hr).1];simp
theorem isVar_let (s:ByteArray):isVar s=(letB true s&&isVa1 (bt s 0)):=by
 unfold isVar nameB
 cases hr:isRes s with
 | false =>
   unfold letB
   simp only [refQ_t]
   generalize (List.all _ _)=a
   cases a <;> cases isVa1 (bt s 0) <;> simp
 | true =>
   have h:=res_at hr
   rw [letB_no (Nat.le_refl 1) (by omega) ((refQ_t _).trans h.2.1)]
   simp
def isR5 (s:ByteArray):Bool:=wordE s #[97,108,108] || (wordE s #[115,111,109,101] || (wordE s #[102,97,108,115,101] || (wordE s #[110,101,120,116] || wordE s #[97,108,119,97,121,115])))
theorem isFun_let (s:ByteArray):isFun s=(!isR5 s&&(letB false s&&isFu1 (bt s 0))):=by
 have e:isRes s=(isR5 s || wordE s #[117,110,116,105,108]):=by
  unfold isRes isR5
  simp only [Bool.or_assoc]
 have hu:wordE s #[117,110,116,105,108]=true→isFu1 (bt s 0)=false:=by
  intro h
  unfold wordE at h
  rw [zfb,decide_eq_true_eq] at h
  subst h
  decide
 unfold isFun nameB letB
 simp only [refQ_f]
 rw [e]
 generalize (List.all _ _)=a
 cases isR5 s with
 | true=>simp
 | false =>
   cases hw:wordE s #[117,110,116,105,108] with
   | true=>rw [hu hw];simp
   | false=>cases a <;> cases isFu1 (bt s 0) <;> simp
theorem refPred_c (s:ByteArray) (hs:s.size≤9223372036854775807) (H:Heap):VDet Tryz.prog 110 [.str s] H (.bool (zd1 s)):=by
 rw [isPred_let]
 have hl:=letters_f s hs
 have h1:letB false s=true→s[(0:Int).toNat]? = some (bt s 0):=fun h=>bt_get s 0 (letB_size h) 0 rfl
 have r1:∀ H,VDet Tryz.prog 135 [.int .u8 (bt s 0).toNat,.int .u8 65,.int .u8 90] H (.bool (isCap (bt s 0))):=rin_c (bt s 0) 65 90 65 90 rfl rfl
 generalize letB false s=b1 at *
 generalize isCap (bt s 0)=b2 at *
 cases b1 with
 | true =>
   have hb0:=h1 rfl
   refine fdD Tryz.func110 ⟨rfl,rfl,rfl⟩ fun hcl hbl=>?_
   (repeat' ((conv=>whnf);(first|refine IfN.tt rfl ?_|refine SideN.mk (by omega) ?_|(refine CallN.id ?_;first|refine CallN.det _ (hl _) ?_|refine CallN.det _ (r1 _) ?_|fail)|refine ByteN.mk _ hb0 ?_|fail)));conv=>whnf
   all_goals exact eT trivial
 | false =>
   refine fdD Tryz.func110 ⟨rfl,rfl,rfl⟩ fun hcl hbl=>?_
   (repeat' ((conv=>whnf);(first|refine IfN.ff rfl ?_|refine CallN.det _ (hl _) ?_|fail)));conv=>whnf
   exact eT trivial
theorem refVar_c (s:ByteArray) (hs:s.size≤9223372036854775807) (H:Heap):VDet Tryz.prog 136 [.str s] H (.bool (isVar s)):=by
 rw [isVar_let]
 have hl:=letters_t s hs
 have h1:letB true s=true→s[(0:Int).toNat]? = some (bt s 0):=fun h=>bt_get s 0 (letB_size h) 0 rfl
 have r1:∀ H,VDet Tryz.prog 135 [.int .u8 (bt s 0).toNat,.int .u8 117,.int .u8 122] H (.bool (isVa1 (bt s 0))):=rin_c (bt s 0) 117 122 117 122 rfl rfl
 generalize letB true s=b1 at *
 generalize isVa1 (bt s 0)=b2 at *
 cases b1 with
 | true =>
   have hb0:=h1 rfl
   refine fdD Tryz.func136 ⟨rfl,rfl,rfl⟩ fun hcl hbl=>?_
   (repeat' ((conv=>whnf);(first|refine IfN.tt rfl ?_|refine SideN.mk (by omega) ?_|(refine CallN.id ?_;first|refine CallN.det _ (hl _) ?_|refine CallN.det _ (r1 _) ?_|fail)|refine ByteN.mk _ hb0 ?_|fail)));conv=>whnf
   all_goals exact eT trivial
 | false =>
   refine fdD Tryz.func136 ⟨rfl,rfl,rfl⟩ fun hcl hbl=>?_
   (repeat' ((conv=>whnf);(first|refine IfN.ff rfl ?_|refine CallN.det _ (hl _) ?_|fail)));conv=>whnf
   exact eT trivial
theorem refFun_c (s:ByteArray) (hs:s.size≤9223372036854775807) (H:Heap):VDet Tryz.prog 139 [.str s] H (.bool (isFun s)):=by
 rw [isFun_let]
 unfold isR5
 have hl:=letters_f s hs
 have h1:letB false s=true→s[(0:Int).toNat]? = some (bt s 0):=fun h=>bt_get s 0 (letB_size h) 0 rfl
 have r1:∀ H,VDet Tryz.prog 135 [.int .u8 (bt s 0).toNat,.int .u8 97,.int .u8 116] H (.bool (isFu1 (bt s 0))):=rin_c (bt s 0) 97 116 97 116 rfl rfl
 have e1:(s.toList==(ByteArray.mk #[97,108,108]).toList)=wordE s #[97,108,108]:=rfl
 have e2:(s.toList==(ByteArray.mk #[115,111,109,101]).toList)=wordE s #[115,111,109,101]:=rfl
 have e3:(s.toList==(ByteArray.mk #[102,97,108,115,101]).toList)=wordE s #[102,97,108,115,101]:=rfl
 have e4:(s.toList==(ByteArray.mk #[110,101,120,116]).toList)=wordE s #[110,101,120,116]:=rfl
 have e5:(s.toList==(ByteArray.mk #[97,108,119,97,121,115]).toList)=wordE s #[97,108,119,97,121,115]:=rfl
 generalize wordE s #[97,108,108]=w1 at *
 generalize wordE s #[115,111,109,101]=w2 at *
 generalize wordE s #[102,97,108,115,101]=w3 at *
 generalize wordE s #[110,101,120,116]=w4 at *
 generalize wordE s #[97,108,119,97,121,115]=w5 at *
 generalize letB false s=b1 at *
 generalize isFu1 (bt s 0)=b2 at *
 cases w1 with
 | true =>
   refine fdD Tryz.func139 ⟨rfl,rfl,rfl⟩ fun hcl hbl=>?_
   (repeat' ((conv=>whnf);(first|refine IfN.tt e1 ?_|fail)));conv=>whnf
   exact eT trivial
 | false =>
   cases w2 with
   | true =>
     refine fdD Tryz.func139 ⟨rfl,rfl,rfl⟩ fun hcl hbl=>?_
     (repeat' ((conv=>whnf);(first|(refine IfN.id ?_;first|refine IfN.ff e1 ?_|refine IfN.tt e2 ?_|fail)|fail)));conv=>whnf
     exact eT trivial
   | false =>
     cases w3 with
     | true =>
       refine fdD Tryz.func139 ⟨rfl,rfl,rfl⟩ fun hcl hbl=>?_
       (repeat' ((conv=>whnf);(first|(refine IfN.id ?_;first|refine IfN.ff e1 ?_|refine IfN.ff e2 ?_|refine IfN.tt e3 ?_|fail)|fail)));conv=>whnf
       exact eT trivial
     | false =>
       cases w4 with
       | true =>
         refine fdD Tryz.func139 ⟨rfl,rfl,rfl⟩ fun hcl hbl=>?_
         (repeat' ((conv=>whnf);(first|(refine IfN.id ?_;first|refine IfN.ff e1 ?_|refine IfN.ff e2 ?_|refine IfN.ff e3 ?_|refine IfN.tt e4 ?_|fail)|fail)));conv=>whnf
         exact eT trivial
       | false =>
         cases w5 with
         | true =>
           refine fdD Tryz.func139 ⟨rfl,rfl,rfl⟩ fun hcl hbl=>?_
           (repeat' ((conv=>whnf);(first|(refine IfN.id ?_;first|refine IfN.ff e1 ?_|refine IfN.ff e2 ?_|refine IfN.ff e3 ?_|refine IfN.ff e4 ?_|refine IfN.tt e5 ?_|fail)|fail)));conv=>whnf
           exact eT trivial
         | false =>
           cases b1 with
           | true =>
             have hb0:=h1 rfl
             refine fdD Tryz.func139 ⟨rfl,rfl,rfl⟩ fun hcl hbl=>?_
             (repeat' ((conv=>whnf);(first|(refine IfN.id ?_;first|refine IfN.ff e1 ?_|refine IfN.ff e2 ?_|refine IfN.ff e3 ?_|refine IfN.ff e4 ?_|refine IfN.ff e5 ?_|refine IfN.tt rfl ?_|fail)|refine SideN.mk (by omega) ?_|(refine CallN.id ?_;first|refine CallN.det _ (hl _) ?_|refine CallN.det _ (r1 _) ?_|fail)|refine ByteN.mk _ hb0 ?_|fail)));conv=>whnf
             all_goals exact eT trivial
           | false =>
             refine fdD Tryz.func139 ⟨rfl,rfl,rfl⟩ fun hcl hbl=>?_
             (repeat' ((conv=>whnf);(first|(refine IfN.id ?_;first|refine IfN.ff e1 ?_|refine IfN.ff e2 ?_|refine IfN.ff e3 ?_|refine IfN.ff e4 ?_|refine IfN.ff e5 ?_|refine IfN.ff rfl ?_|fail)|refine CallN.det _ (hl _) ?_|fail)));conv=>whnf
             exact eT trivial
mutual
def rT:Tm→Bool
 | .mk v s l=>if v then decide (l.length=0)&&isVar s else rTs l&&(isFun s&&decide (l.length≤4))
def rTs:List Tm→Bool
 | []=>true
 | x::l=>rT x&&rTs l
end
theorem rTs_all:∀ l:List Tm,rTs l=l.all rT
 | []=>by unfold rTs;rfl
 | x::l=>by unfold rTs;rw [rTs_all l];rfl
def rowB (op:Nat) (s:ByteArray) (n k:Nat):Bool:=decide (op<17)&&(rowK op&&(zfj (rowN op) s&&(decide (n≤rowA op)&&decide (k=rowS op))))
mutual
def rfF:Fo→Bool
 | .mk op s l m=>rowB op s l.length m.length&&(rTs l&&rfFs m)
def rfFs:List Fo→Bool
 | []=>true
 | x::l=>rfF x&&rfFs l
end
theorem rfFs_all:∀ l:List Fo,rfFs l=l.all rfF
 | []=>by unfold rfFs;rfl
 | x::l=>by unfold rfFs;rw [rfFs_all l];rfl
def RtP (x:Tm):Prop:=∀ H,VDet Tryz.prog 112 [.agg x.cells,.bool false] H (.bool (rT x))
theorem rt_step (v:Bool) (s:ByteArray) (l:List Tm) (hs:s.size≤9223372036854775807) (hll:l.length≤9223372036854775807) (ih:∀ x∈l,RtP x):RtP (.mk v s l):=by
 intro H
 have hv:=refVar_c s hs
 have hf:=refFun_c s hs
 have hr:rT (.mk v s l)=if v then decide (l.length=0)&&isVar s else l.all rT&&(isFun s&&decide (l.length≤4)):=by
  rw [← rTs_all]
  unfold rT
  rfl
 rw [hr,zbb]
 generalize isVar s=bv at *
 generalize isFun s=bf at *
 cases v with
 | true =>
   simp only [if_true]
   generalize l.flatMap Tm.cells=lc at *
   by_cases h0:l.length=0
   ·rw [decide_eq_true h0]
    refine fdD Tryz.func112 ⟨rfl,rfl,rfl⟩ fun hcl hbl=>?_
    (repeat' ((conv=>whnf);(first|(refine IfN.id ?_;first|refine IfN.tt rfl ?_|refine IfN.ff rfl ?_|refine IfN.dT (by omega) ?_|(refine IfN.mk ?_ ?_ <;> intro _)|fail)|refine CallN.det _ (hv _) ?_|fail)));all_goals (conv=>whnf)
    all_goals exact EndN.det trivial (zab (by cases bv <;> simp_all))
   ·rw [decide_eq_false h0]
    refine fdD Tryz.func112 ⟨rfl,rfl,rfl⟩ fun hcl hbl=>?_
    (repeat' ((conv=>whnf);(first|(refine IfN.id ?_;first|refine IfN.tt rfl ?_|refine zaj (by omega) ?_|fail)|fail)));conv=>whnf
    all_goals exact eT trivial
 | false =>
   simp only [Bool.false_eq_true,if_false]
   refine fdD Tryz.func112 ⟨rfl,rfl,rfl⟩ fun hcl hbl=>?_
   (repeat' ((conv=>whnf);(first|refine IfN.ff rfl ?_|fail)));conv=>whnf
   refine zau Tryz.E0 zak (σ:=Nat) (fun k=>k≤l.length∧∀ y∈l.take k,rT y=true) (fun k=>l.length-k) (fun k=>[(5,.v (.int .i64 k))]) (fun _=>_) _ 0 rfl hcl [1,2] rfl ⟨Nat.zero_le _,fun y hy=>(by cases hy)⟩ ⟨⟨_,rfl,Wk.refl _⟩,trivial⟩ rfl (fun _ _=>rfl) ?_
   rintro k ⟨hk,hinv⟩
   rcases Nat.lt_or_ge k l.length with hlt|hge
   ·have hc:=ih _ (zam l k tm0 hlt)
    unfold RtP at hc
    obtain ⟨w1,w2,w3,w4,hw,hb⟩:=tm_ex4 (l.getD k tm0)
    rw [hw] at hc
    cases ht:rT (l.getD k tm0) <;> rw [ht] at hc
    ·rw [all_no tm0 hlt ht,Bool.false_and]
     (repeat' ((conv=>whnf);(first|(refine IfN.id ?_;first|refine IfN.not ?_|refine IfN.ff rfl ?_|refine IfN.dT (by omega) ?_|fail)|(refine SideN.mk ?_ ?_;· first|omega|exact List.cons_ne_nil _ _|fail)|refine CallN.det _ (hc _) ?_|refine zah tm0 k rfl (by omega) zcb hw ?_|fail)));conv=>whnf
     exact eT trivial
    ·(repeat' ((conv=>whnf);(first|(refine IfN.id ?_;first|refine IfN.not ?_|refine IfN.tt rfl ?_|refine IfN.dT (by omega) ?_|fail)|(refine zad _ _ Cst.h Cst.h ?_ ?_;· omega)|(refine SideN.mk ?_ ?_;· first|omega|exact List.cons_ne_nil _ _|fail)|refine CallN.det _ (hc _) ?_|refine zah tm0 k rfl (by omega) zcb hw ?_|fail)));conv=>whnf
     (refine ⟨⟨k+1,⟨by omega,all_take tm0 hlt hinv ht⟩,by omega,?_,.inl ⟨rfl,rfl⟩,rfl,_,rfl,?_⟩⟩;rotate_left 1;exact .inl rfl;exact ⟨⟨_,rfl,Wk.refl _⟩,trivial⟩)
   ·have:k=l.length:=by omega
    subst this
    rw [List.take_length] at hinv
    rw [List.all_eq_true.2 hinv,Bool.true_and]
    cases bf with
    | false =>
      (repeat' ((conv=>whnf);(first|(refine IfN.id ?_;first|refine IfN.ff rfl ?_|refine zaj (by omega) ?_|fail)|refine CallN.det _ (hf _) ?_|fail)));conv=>whnf
      exact eT trivial
    | true =>
      by_cases h4:l.length≤4
      ·rw [decide_eq_true h4]
       (repeat' ((conv=>whnf);(first|(refine IfN.id ?_;first|refine IfN.tt rfl ?_|refine zaj (by omega) ?_|fail)|refine CallN.det _ (hf _) ?_|fail)));conv=>whnf
       exact EndN.det trivial (zab (congrArg AV.bool (decide_eq_true (by omega))))
      ·rw [decide_eq_false h4]
       (repeat' ((conv=>whnf);(first|(refine IfN.id ?_;first|refine IfN.tt rfl ?_|refine zaj (by omega) ?_|fail)|refine CallN.det _ (hf _) ?_|fail)));conv=>whnf
       exact EndN.det trivial (zab (congrArg AV.bool (decide_eq_false (by omega))))
mutual
theorem rt_c:∀ x:Tm,x.good→RtP x
 | .mk v s l,h=>rt_step v s l (za4 h.1) (za4 h.2.1) (rts_all l h.2.2)
theorem rts_all:∀ l:List Tm,Tm.goodL l→∀ x∈l,RtP x
 | [],_,x,hx=>by cases hx
 | y::l,h,x,hx=>by
   rcases List.mem_cons.1 hx with e|hx
   ·rw [e]
    exact rt_c y h.1
   ·exact rts_all l h.2 x hx
end
theorem row1_c (op:Nat) (h:op=1) (s:ByteArray) (hs:s.size≤9223372036854775807) (n k:Nat) (hn0:n≤9223372036854775807) (hk0:k≤9223372036854775807) (L M:List AV) (H:Heap):VDet Tryz.prog 111 [.agg [.int .u8 op,.str s,.sl none n L,.sl none k M],.bool false] H (.bool (rowB op s n k)):=by
 have hv:rowB op s n k=(zd1 s&&(decide (n≤4)&&decide (k=0))):=by subst h;rfl
 rw [hv]
 have hn:=refPred_c s hs
 generalize zd1 s=nb at *
 cases nb with
 | false =>
   subst h;(refine fdD Tryz.func111 ⟨rfl,rfl,rfl⟩ fun hcl hbl=>?_;((repeat' ((conv=>whnf);(first|(refine IfN.id ?_;first|refine IfN.tt rfl ?_|refine IfN.ff rfl ?_|fail)|refine CallN.det _ (hn _) ?_|fail)));conv=>whnf);all_goals first|exact eT trivial|exact EndN.det trivial (zab (congrArg AV.bool (beq_iff_eq.2 (by omega))))|exact EndN.det trivial (zab (congrArg AV.bool (beq_eq_false_iff_ne.2 (by omega))))|fail)
 | true =>
   by_cases h1:n≤4
   ·by_cases h2:k=0
    ·rw [decide_eq_true h1,decide_eq_true h2]
     subst h;(refine fdD Tryz.func111 ⟨rfl,rfl,rfl⟩ fun hcl hbl=>?_;((repeat' ((conv=>whnf);(first|(refine IfN.id ?_;first|refine IfN.tt rfl ?_|refine IfN.dT (by omega) ?_|fail)|refine CallN.det _ (hn _) ?_|fail)));conv=>whnf);all_goals first|exact eT trivial|exact EndN.det trivial (zab (congrArg AV.bool (beq_iff_eq.2 (by omega))))|exact EndN.det trivial (zab (congrArg AV.bool (beq_eq_false_iff_ne.2 (by omega))))|fail)
    ·rw [decide_eq_true h1,decide_eq_false h2]
     subst h;(refine fdD Tryz.func111 ⟨rfl,rfl,rfl⟩ fun hcl hbl=>?_;((repeat' ((conv=>whnf);(first|(refine IfN.id ?_;first|refine IfN.tt rfl ?_|refine IfN.dT (by omega) ?_|fail)|refine CallN.det _ (hn _) ?_|fail)));conv=>whnf);all_goals first|exact eT trivial|exact EndN.det trivial (zab (congrArg AV.bool (beq_iff_eq.2 (by omega))))|exact EndN.det trivial (zab (congrArg AV.bool (beq_eq_false_iff_ne.2 (by omega))))|fail)
   ·rw [decide_eq_false h1]
    subst h;(refine fdD Tryz.func111 ⟨rfl,rfl,rfl⟩ fun hcl hbl=>?_;((repeat' ((conv=>whnf);(first|(refine IfN.id ?_;first|refine IfN.tt rfl ?_|refine zaj (by omega) ?_|fail)|refine CallN.det _ (hn _) ?_|fail)));conv=>whnf);all_goals first|exact eT trivial|exact EndN.det trivial (zab (congrArg AV.bool (beq_iff_eq.2 (by omega))))|exact EndN.det trivial (zab (congrArg AV.bool (beq_eq_false_iff_ne.2 (by omega))))|fail)
theorem row2_c (op:Nat) (h:op=2) (s:ByteArray) (hs:s.size≤9223372036854775807) (n k:Nat) (hn0:n≤9223372036854775807) (hk0:k≤9223372036854775807) (L M:List AV) (H:Heap):VDet Tryz.prog 111 [.agg [.int .u8 op,.str s,.sl none n L,.sl none k M],.bool false] H (.bool (rowB op s n k)):=by
 have hv:rowB op s n k=(zej s&&(decide (n≤0)&&decide (k=0))):=by subst h;rfl
 rw [hv]
 have e0:(s.toList==(ByteArray.mk #[]).toList)=zej s:=rfl
 generalize zej s=nb at *
 cases nb with
 | false =>
   subst h;(refine fdD Tryz.func111 ⟨rfl,rfl,rfl⟩ fun hcl hbl=>?_;((repeat' ((conv=>whnf);(first|(refine IfN.id ?_;first|refine IfN.ff e0 ?_|refine IfN.tt rfl ?_|refine IfN.ff rfl ?_|fail)|fail)));conv=>whnf);all_goals first|exact eT trivial|exact EndN.det trivial (zab (congrArg AV.bool (beq_iff_eq.2 (by omega))))|exact EndN.det trivial (zab (congrArg AV.bool (beq_eq_false_iff_ne.2 (by omega))))|fail)
 | true =>
   by_cases h1:n≤0
   ·by_cases h2:k=0
    ·rw [decide_eq_true h1,decide_eq_true h2]
     subst h;(refine fdD Tryz.func111 ⟨rfl,rfl,rfl⟩ fun hcl hbl=>?_;((repeat' ((conv=>whnf);(first|(refine IfN.id ?_;first|refine IfN.tt e0 ?_|refine IfN.tt rfl ?_|refine IfN.ff rfl ?_|refine IfN.dT (by omega) ?_|fail)|fail)));conv=>whnf);all_goals first|exact eT trivial|exact EndN.det trivial (zab (congrArg AV.bool (beq_iff_eq.2 (by omega))))|exact EndN.det trivial (zab (congrArg AV.bool (beq_eq_false_iff_ne.2 (by omega))))|fail)
    ·rw [decide_eq_true h1,decide_eq_false h2]
     subst h;(refine fdD Tryz.func111 ⟨rfl,rfl,rfl⟩ fun hcl hbl=>?_;((repeat' ((conv=>whnf);(first|(refine IfN.id ?_;first|refine IfN.tt e0 ?_|refine IfN.tt rfl ?_|refine IfN.ff rfl ?_|refine IfN.dT (by omega) ?_|fail)|fail)));conv=>whnf);all_goals first|exact eT trivial|exact EndN.det trivial (zab (congrArg AV.bool (beq_iff_eq.2 (by omega))))|exact EndN.det trivial (zab (congrArg AV.bool (beq_eq_false_iff_ne.2 (by omega))))|fail)
   ·rw [decide_eq_false h1]
    subst h;(refine fdD Tryz.func111 ⟨rfl,rfl,rfl⟩ fun hcl hbl=>?_;((repeat' ((conv=>whnf);(first|(refine IfN.id ?_;first|refine IfN.tt e0 ?_|refine IfN.tt rfl ?_|refine IfN.ff rfl ?_|refine zaj (by omega) ?_|fail)|fail)));conv=>whnf);all_goals first|exact eT trivial|exact EndN.det trivial (zab (congrArg AV.bool (beq_iff_eq.2 (by omega))))|exact EndN.det trivial (zab (congrArg AV.bool (beq_eq_false_iff_ne.2 (by omega))))|fail)
theorem row3_c (op:Nat) (h:op=3∨op=10∨op=11∨op=12∨op=13) (s:ByteArray) (hs:s.size≤9223372036854775807) (n k:Nat) (hn0:n≤9223372036854775807) (hk0:k≤9223372036854775807) (L M:List AV) (H:Heap):VDet Tryz.prog 111 [.agg [.int .u8 op,.str s,.sl none n L,.sl none k M],.bool false] H (.bool (rowB op s n k)):=by
 have hv:rowB op s n k=(zej s&&(decide (n≤0)&&decide (k=1))):=by rcases h with rfl|rfl|rfl|rfl|rfl <;> rfl
 rw [hv]
 have e0:(s.toList==(ByteArray.mk #[]).toList)=zej s:=rfl
 generalize zej s=nb at *
 cases nb with
 | false =>
   rcases h with rfl|rfl|rfl|rfl|rfl <;> (refine fdD Tryz.func111 ⟨rfl,rfl,rfl⟩ fun hcl hbl=>?_;((repeat' ((conv=>whnf);(first|(refine IfN.id ?_;first|refine IfN.ff e0 ?_|refine IfN.tt rfl ?_|refine IfN.ff rfl ?_|fail)|fail)));all_goals (conv=>whnf));all_goals first|exact eT trivial|exact EndN.det trivial (zab (congrArg AV.bool (beq_iff_eq.2 (by omega))))|exact EndN.det trivial (zab (congrArg AV.bool (beq_eq_false_iff_ne.2 (by omega))))|fail)
 | true =>
   by_cases h1:n≤0
   ·by_cases h2:k=1
    ·rw [decide_eq_true h1,decide_eq_true h2]
     rcases h with rfl|rfl|rfl|rfl|rfl <;> (refine fdD Tryz.func111 ⟨rfl,rfl,rfl⟩ fun hcl hbl=>?_;((repeat' ((conv=>whnf);(first|(refine IfN.id ?_;first|refine IfN.tt e0 ?_|refine IfN.tt rfl ?_|refine IfN.ff rfl ?_|refine IfN.dT (by omega) ?_|fail)|fail)));all_goals (conv=>whnf));all_goals first|exact eT trivial|exact EndN.det trivial (zab (congrArg AV.bool (beq_iff_eq.2 (by omega))))|exact EndN.det trivial (zab (congrArg AV.bool (beq_eq_false_iff_ne.2 (by omega))))|fail)
    ·rw [decide_eq_true h1,decide_eq_false h2]
     rcases h with rfl|rfl|rfl|rfl|rfl <;> (refine fdD Tryz.func111 ⟨rfl,rfl,rfl⟩ fun hcl hbl=>?_;((repeat' ((conv=>whnf);(first|(refine IfN.id ?_;first|refine IfN.tt e0 ?_|refine IfN.tt rfl ?_|refine IfN.ff rfl ?_|refine IfN.dT (by omega) ?_|fail)|fail)));all_goals (conv=>whnf));all_goals first|exact eT trivial|exact EndN.det trivial (zab (congrArg AV.bool (beq_iff_eq.2 (by omega))))|exact EndN.det trivial (zab (congrArg AV.bool (beq_eq_false_iff_ne.2 (by omega))))|fail)
   ·rw [decide_eq_false h1]
    rcases h with rfl|rfl|rfl|rfl|rfl <;> (refine fdD Tryz.func111 ⟨rfl,rfl,rfl⟩ fun hcl hbl=>?_;((repeat' ((conv=>whnf);(first|(refine IfN.id ?_;first|refine IfN.tt e0 ?_|refine IfN.tt rfl ?_|refine IfN.ff rfl ?_|refine zaj (by omega) ?_|fail)|fail)));all_goals (conv=>whnf));all_goals first|exact eT trivial|exact EndN.det trivial (zab (congrArg AV.bool (beq_iff_eq.2 (by omega))))|exact EndN.det trivial (zab (congrArg AV.bool (beq_eq_false_iff_ne.2 (by omega))))|fail)
theorem row4_c (op:Nat) (h:op=4∨op=5∨op=6∨op=7∨op=14) (s:ByteArray) (hs:s.size≤9223372036854775807) (n k:Nat) (hn0:n≤9223372036854775807) (hk0:k≤9223372036854775807) (L M:List AV) (H:Heap):VDet Tryz.prog 111 [.agg [.int .u8 op,.str s,.sl none n L,.sl none k M],.bool false] H (.bool (rowB op s n k)):=by
 have hv:rowB op s n k=(zej s&&(decide (n≤0)&&decide (k=2))):=by rcases h with rfl|rfl|rfl|rfl|rfl <;> rfl
 rw [hv]
 have e0:(s.toList==(ByteArray.mk #[]).toList)=zej s:=rfl
 generalize zej s=nb at *
 cases nb with
 | false =>
   rcases h with rfl|rfl|rfl|rfl|rfl <;> (refine fdD Tryz.func111 ⟨rfl,rfl,rfl⟩ fun hcl hbl=>?_;((repeat' ((conv=>whnf);(first|(refine IfN.id ?_;first|refine IfN.ff e0 ?_|refine IfN.tt rfl ?_|refine IfN.ff rfl ?_|fail)|fail)));all_goals (conv=>whnf));all_goals first|exact eT trivial|exact EndN.det trivial (zab (congrArg AV.bool (beq_iff_eq.2 (by omega))))|exact EndN.det trivial (zab (congrArg AV.bool (beq_eq_false_iff_ne.2 (by omega))))|fail)
 | true =>
   by_cases h1:n≤0
   ·by_cases h2:k=2
    ·rw [decide_eq_true h1,decide_eq_true h2]
     rcases h with rfl|rfl|rfl|rfl|rfl <;> (refine fdD Tryz.func111 ⟨rfl,rfl,rfl⟩ fun hcl hbl=>?_;((repeat' ((conv=>whnf);(first|(refine IfN.id ?_;first|refine IfN.tt e0 ?_|refine IfN.tt rfl ?_|refine IfN.ff rfl ?_|refine IfN.dT (by omega) ?_|fail)|fail)));all_goals (conv=>whnf));all_goals first|exact eT trivial|exact EndN.det trivial (zab (congrArg AV.bool (beq_iff_eq.2 (by omega))))|exact EndN.det trivial (zab (congrArg AV.bool (beq_eq_false_iff_ne.2 (by omega))))|fail)
    ·rw [decide_eq_true h1,decide_eq_false h2]
     rcases h with rfl|rfl|rfl|rfl|rfl <;> (refine fdD Tryz.func111 ⟨rfl,rfl,rfl⟩ fun hcl hbl=>?_;((repeat' ((conv=>whnf);(first|(refine IfN.id ?_;first|refine IfN.tt e0 ?_|refine IfN.tt rfl ?_|refine IfN.ff rfl ?_|refine IfN.dT (by omega) ?_|fail)|fail)));all_goals (conv=>whnf));all_goals first|exact eT trivial|exact EndN.det trivial (zab (congrArg AV.bool (beq_iff_eq.2 (by omega))))|exact EndN.det trivial (zab (congrArg AV.bool (beq_eq_false_iff_ne.2 (by omega))))|fail)
   ·rw [decide_eq_false h1]
    rcases h with rfl|rfl|rfl|rfl|rfl <;> (refine fdD Tryz.func111 ⟨rfl,rfl,rfl⟩ fun hcl hbl=>?_;((repeat' ((conv=>whnf);(first|(refine IfN.id ?_;first|refine IfN.tt e0 ?_|refine IfN.tt rfl ?_|refine IfN.ff rfl ?_|refine zaj (by omega) ?_|fail)|fail)));all_goals (conv=>whnf));all_goals first|exact eT trivial|exact EndN.det trivial (zab (congrArg AV.bool (beq_iff_eq.2 (by omega))))|exact EndN.det trivial (zab (congrArg AV.bool (beq_eq_false_iff_ne.2 (by omega))))|fail)
theorem row8_c (op:Nat) (h:op=8∨op=9) (s:ByteArray) (hs:s.size≤9223372036854775807) (n k:Nat) (hn0:n≤9223372036854775807) (hk0:k≤9223372036854775807) (L M:List AV) (H:Heap):VDet Tryz.prog 111 [.agg [.int .u8 op,.str s,.sl none n L,.sl none k M],.bool false] H (.bool (rowB op s n k)):=by
 have hv:rowB op s n k=(isVar s&&(decide (n≤0)&&decide (k=1))):=by rcases h with rfl|rfl <;> rfl
 rw [hv]
 have hn:=refVar_c s hs
 generalize isVar s=nb at *
 cases nb with
 | false =>
   rcases h with rfl|rfl <;> (refine fdD Tryz.func111 ⟨rfl,rfl,rfl⟩ fun hcl hbl=>?_;((repeat' ((conv=>whnf);(first|(refine IfN.id ?_;first|refine IfN.tt rfl ?_|refine IfN.ff rfl ?_|fail)|refine CallN.det _ (hn _) ?_|fail)));all_goals (conv=>whnf));all_goals first|exact eT trivial|exact EndN.det trivial (zab (congrArg AV.bool (beq_iff_eq.2 (by omega))))|exact EndN.det trivial (zab (congrArg AV.bool (beq_eq_false_iff_ne.2 (by omega))))|fail)
 | true =>
   by_cases h1:n≤0
   ·by_cases h2:k=1
    ·rw [decide_eq_true h1,decide_eq_true h2]
     rcases h with rfl|rfl <;> (refine fdD Tryz.func111 ⟨rfl,rfl,rfl⟩ fun hcl hbl=>?_;((repeat' ((conv=>whnf);(first|(refine IfN.id ?_;first|refine IfN.tt rfl ?_|refine IfN.ff rfl ?_|refine IfN.dT (by omega) ?_|fail)|refine CallN.det _ (hn _) ?_|fail)));all_goals (conv=>whnf));all_goals first|exact eT trivial|exact EndN.det trivial (zab (congrArg AV.bool (beq_iff_eq.2 (by omega))))|exact EndN.det trivial (zab (congrArg AV.bool (beq_eq_false_iff_ne.2 (by omega))))|fail)
    ·rw [decide_eq_true h1,decide_eq_false h2]
     rcases h with rfl|rfl <;> (refine fdD Tryz.func111 ⟨rfl,rfl,rfl⟩ fun hcl hbl=>?_;((repeat' ((conv=>whnf);(first|(refine IfN.id ?_;first|refine IfN.tt rfl ?_|refine IfN.ff rfl ?_|refine IfN.dT (by omega) ?_|fail)|refine CallN.det _ (hn _) ?_|fail)));all_goals (conv=>whnf));all_goals first|exact eT trivial|exact EndN.det trivial (zab (congrArg AV.bool (beq_iff_eq.2 (by omega))))|exact EndN.det trivial (zab (congrArg AV.bool (beq_eq_false_iff_ne.2 (by omega))))|fail)
   ·rw [decide_eq_false h1]
    rcases h with rfl|rfl <;> (refine fdD Tryz.func111 ⟨rfl,rfl,rfl⟩ fun hcl hbl=>?_;((repeat' ((conv=>whnf);(first|(refine IfN.id ?_;first|refine IfN.tt rfl ?_|refine IfN.ff rfl ?_|refine zaj (by omega) ?_|fail)|refine CallN.det _ (hn _) ?_|fail)));all_goals (conv=>whnf));all_goals first|exact eT trivial|exact EndN.det trivial (zab (congrArg AV.bool (beq_iff_eq.2 (by omega))))|exact EndN.det trivial (zab (congrArg AV.bool (beq_eq_false_iff_ne.2 (by omega))))|fail)
theorem row0_c (op:Nat) (hop:op≤255) (h:op=0∨15≤op) (s:ByteArray) (n k:Nat) (hn0:n≤9223372036854775807) (hk0:k≤9223372036854775807) (L M:List AV) (H:Heap):VDet Tryz.prog 111 [.agg [.int .u8 op,.str s,.sl none n L,.sl none k M],.bool false] H (.bool (rowB op s n k)):=by
 have hv:rowB op s n k=false:=by
  unfold rowB
  rcases Nat.lt_or_ge op 17 with h17|h17
  ·have:op=0∨op=15∨op=16:=by omega
   rcases this with rfl|rfl|rfl <;> rfl
  ·rw [decide_eq_false (by omega)]
   rfl
 rw [hv]
 refine fdD Tryz.func111 ⟨rfl,rfl,rfl⟩ fun hcl hbl=>?_
 (repeat' ((conv=>whnf);(first|(refine IfN.id ?_;first|refine IfN.ff rfl ?_|refine zaj (by omega) ?_|refine za9 (fun _=>?_) (fun _=>?_)|fail)|fail)));all_goals (conv=>whnf)
 all_goals exact eT trivial
theorem row_c (op:Nat) (hop:op≤255) (s:ByteArray) (hs:s.size≤9223372036854775807) (n k:Nat) (hn0:n≤9223372036854775807) (hk0:k≤9223372036854775807) (L M:List AV) (H:Heap):VDet Tryz.prog 111 [.agg [.int .u8 op,.str s,.sl none n L,.sl none k M],.bool false] H (.bool (rowB op s n k)):=by
 by_cases h1:op=1
 ·exact row1_c op h1 s hs n k hn0 hk0 L M H
 by_cases h2:op=2
 ·exact row2_c op h2 s hs n k hn0 hk0 L M H
 by_cases h3:op=3∨op=10∨op=11∨op=12∨op=13
 ·exact row3_c op h3 s hs n k hn0 hk0 L M H
 by_cases h4:op=4∨op=5∨op=6∨op=7∨op=14
 ·exact row4_c op h4 s hs n k hn0 hk0 L M H
 by_cases h8:op=8∨op=9
 ·exact row8_c op h8 s hs n k hn0 hk0 L M H
 exact row0_c op hop (by omega) s n k hn0 hk0 L M H
def RfP (x:Fo):Prop:=∀ H,VDet Tryz.prog 88 [.agg x.cells,.bool false] H (.bool (rfF x))
theorem rf_step (op:Nat) (s:ByteArray) (l:List Tm) (m:List Fo) (hop:op≤255) (hs:s.size≤9223372036854775807) (hll:l.length≤9223372036854775807) (hml:m.length≤9223372036854775807) (iht:∀ x∈l,RtP x) (ih:∀ x∈m,RfP x):RfP (.mk op s l m):=by
 intro H
 have h0:=row_c op hop s hs l.length m.length hll hml (l.flatMap Tm.cells) (m.flatMap Fo.cells)
 have hr:rfF (.mk op s l m)=(rowB op s l.length m.length&&(l.all rT&&m.all rfF)):=by
  rw [← rTs_all,← rfFs_all]
  unfold rfF
  rfl
 rw [hr,zaf]
 generalize rowB op s l.length m.length=b0 at *
 cases b0 with
 | false =>
   have hb:=fun n=>zar n m
   have hb2:=fun n=>zaz n l
   generalize l.flatMap Tm.cells=lc at *
   generalize m.flatMap Fo.cells=mc at *
   refine fdD Tryz.func88 ⟨rfl,rfl,rfl⟩ fun hcl hbl=>?_
   (repeat' ((conv=>whnf);(first|(refine IfN.id ?_;first|refine IfN.not ?_|refine IfN.ff rfl ?_|fail)|refine CallN.det _ (h0 _) ?_|fail)));conv=>whnf
   exact eT trivial
 | true =>
   rw [Bool.true_and]
   refine fdD Tryz.func88 ⟨rfl,rfl,rfl⟩ fun hcl hbl=>?_
   (repeat' ((conv=>whnf);(first|(refine IfN.id ?_;first|refine IfN.not ?_|refine IfN.tt rfl ?_|fail)|refine CallN.det _ (h0 _) ?_|fail)));conv=>whnf
   refine zau Tryz.E0 zak (σ:=Nat) (fun k=>k≤l.length∧∀ y∈l.take k,rT y=true) (fun k=>l.length-k) (fun k=>[(5,.v (.int .i64 k))]) (fun _=>_) _ 0 rfl hcl [1,2] rfl ⟨Nat.zero_le _,fun y hy=>(by cases hy)⟩ ⟨⟨_,rfl,Wk.refl _⟩,trivial⟩ rfl (fun _ _=>rfl) ?_
   rintro k ⟨hk,hinv⟩
   rcases Nat.lt_or_ge k l.length with hlt|hge
   ·have hc:=iht _ (zam l k tm0 hlt)
    unfold RtP at hc
    obtain ⟨w1,w2,w3,w4,hw,hb⟩:=tm_ex4 (l.getD k tm0)
    rw [hw] at hc
    cases ht:rT (l.getD k tm0) <;> rw [ht] at hc
    ·rw [all_no tm0 hlt ht,Bool.false_and]
     (repeat' ((conv=>whnf);(first|(refine IfN.id ?_;first|refine IfN.not ?_|refine IfN.ff rfl ?_|refine IfN.dT (by omega) ?_|fail)|(refine SideN.mk ?_ ?_;· first|omega|exact List.cons_ne_nil _ _|fail)|refine CallN.det _ (hc _) ?_|refine zah tm0 k rfl (by omega) zcb hw ?_|fail)));conv=>whnf
     exact eT trivial
    ·(repeat' ((conv=>whnf);(first|(refine IfN.id ?_;first|refine IfN.not ?_|refine IfN.tt rfl ?_|refine IfN.dT (by omega) ?_|fail)|(refine zad _ _ Cst.h Cst.h ?_ ?_;· omega)|(refine SideN.mk ?_ ?_;· first|omega|exact List.cons_ne_nil _ _|fail)|refine CallN.det _ (hc _) ?_|refine zah tm0 k rfl (by omega) zcb hw ?_|fail)));conv=>whnf
     (refine ⟨⟨k+1,⟨by omega,all_take tm0 hlt hinv ht⟩,by omega,?_,.inl ⟨rfl,rfl⟩,rfl,_,rfl,?_⟩⟩;rotate_left 1;exact .inl rfl;exact ⟨⟨_,rfl,Wk.refl _⟩,trivial⟩)
   ·have:k=l.length:=by omega
    subst this
    rw [List.take_length] at hinv
    rw [List.all_eq_true.2 hinv,Bool.true_and]
    (repeat' ((conv=>whnf);(first|refine zaj (by omega) ?_|fail)));conv=>whnf
    refine zau Tryz.E0 zak (σ:=Nat) (fun k=>k≤m.length∧∀ y∈m.take k,rfF y=true) (fun k=>m.length-k) (fun k=>[(6,.v (.int .i64 k))]) (fun _=>_) _ 0 rfl hcl [1,2] rfl ⟨Nat.zero_le _,fun y hy=>(by cases hy)⟩ ⟨⟨_,rfl,Wk.refl _⟩,trivial⟩ rfl (fun _ _=>rfl) ?_
    rintro k ⟨hk,hinv⟩
    rcases Nat.lt_or_ge k m.length with hlt|hge
    ·have hc:=ih _ (zam m k fo0 hlt)
     unfold RfP at hc
     obtain ⟨w1,w2,w3,w4,w5,w6,hw,hb⟩:=zby (m.getD k fo0)
     rw [hw] at hc
     cases ht:rfF (m.getD k fo0) <;> rw [ht] at hc
     ·rw [all_no fo0 hlt ht]
      (repeat' ((conv=>whnf);(first|(refine IfN.id ?_;first|refine IfN.not ?_|refine IfN.ff rfl ?_|refine IfN.dT (by omega) ?_|fail)|(refine SideN.mk ?_ ?_;· first|omega|exact List.cons_ne_nil _ _|fail)|refine CallN.det _ (hc _) ?_|refine zah fo0 k rfl (by omega) za1 hw ?_|fail)));conv=>whnf
      exact eT trivial
     ·(repeat' ((conv=>whnf);(first|(refine IfN.id ?_;first|refine IfN.not ?_|refine IfN.tt rfl ?_|refine IfN.dT (by omega) ?_|fail)|(refine zad _ _ Cst.h Cst.h ?_ ?_;· omega)|(refine SideN.mk ?_ ?_;· first|omega|exact List.cons_ne_nil _ _|fail)|refine CallN.det _ (hc _) ?_|refine zah fo0 k rfl (by omega) za1 hw ?_|fail)));conv=>whnf
      (refine ⟨⟨k+1,⟨by omega,all_take fo0 hlt hinv ht⟩,by omega,?_,.inl ⟨rfl,rfl⟩,rfl,_,rfl,?_⟩⟩;rotate_left 1;exact .inl rfl;exact ⟨⟨_,rfl,Wk.refl _⟩,trivial⟩)
    ·have:k=m.length:=by omega
     subst this
     rw [List.take_length] at hinv
     rw [List.all_eq_true.2 hinv]
     (repeat' ((conv=>whnf);(first|refine zaj (by omega) ?_|fail)));conv=>whnf
     exact eT trivial
mutual
theorem rf_c:∀ x:Fo,x.good→RfP x
 | .mk op s l m,h=>rf_step op s l m h.1 (za4 h.2.1) (za4 h.2.2.1) (za4 h.2.2.2.2.1) (rts_all l h.2.2.2.1) (rfs_all m h.2.2.2.2.2)
theorem rfs_all:∀ l:List Fo,Fo.goodL l→∀ x∈l,RfP x
 | [],_,x,hx=>by cases hx
 | y::l,h,x,hx=>by
   rcases List.mem_cons.1 hx with e|hx
   ·rw [e]
    exact rf_c y h.1
   ·exact rfs_all l h.2 x hx
end
mutual
def szzT:Tm→Nat
 | .mk _ _ l=>szzTs l+1
def szzTs:List Tm→Nat
 | []=>0
 | x::l=>szzT x+szzTs l
end
mutual
def szzF:Fo→Nat
 | .mk _ _ l m=>1+szzTs l+szzFs m
def szzFs:List Fo→Nat
 | []=>0
 | x::l=>szzF x+szzFs l
end
mutual
def dT:Tm→Nat
 | .mk _ _ l=>dTs l+1
def dTs:List Tm→Nat
 | []=>0
 | x::l=>max (dT x) (dTs l)
end
mutual
def dpF:Fo→Nat
 | .mk _ _ l m=>max (dTs l) (dpFs m)+1
def dpFs:List Fo→Nat
 | []=>0
 | x::l=>max (dpF x) (dpFs l)
end
mutual
def rkF:Fo→Nat
 | .mk op _ _ m=>if isQ op then rkFs m+1 else rkFs m
def rkFs:List Fo→Nat
 | []=>0
 | x::l=>max (rkF x) (rkFs l)
end
def smN {α:Type} (f:α→Nat):List α→Nat
 | []=>0
 | x::l=>f x+smN f l
def mxN {α:Type} (f:α→Nat):List α→Nat
 | []=>0
 | x::l=>max (f x) (mxN f l)
theorem smN_app {α:Type} (f:α→Nat):∀ l m,smN f (l++m)=smN f l+smN f m
 | [],m=>(Nat.zero_add _).symm
 | x::l,m=>by show f x+smN f (l++m)=f x+smN f l+smN f m;rw [smN_app f l m];omega
theorem mxN_app {α:Type} (f:α→Nat):∀ l m,mxN f (l++m)=max (mxN f l) (mxN f m)
 | [],m=>(Nat.zero_max _).symm
 | x::l,m=>by show max (f x) (mxN f (l++m))=max (max (f x) (mxN f l)) (mxN f m);rw [mxN_app f l m];omega
theorem zb3 {α:Type} (f:α→Nat) (d:α) (l:List α) (k:Nat) (h:k<l.length):smN f (l.take (k+1))=smN f (l.take k)+f (l.getD k d):=by
 rw [zd8 l d k h,smN_app]
 rfl
theorem mxN_take {α:Type} (f:α→Nat) (d:α) (l:List α) (k:Nat) (h:k<l.length):mxN f (l.take (k+1))=max (mxN f (l.take k)) (f (l.getD k d)):=by
 rw [zd8 l d k h,mxN_app]
 show max _ (max (f (l.getD k d)) 0)=_
 rw [Nat.max_zero]
theorem zdc {α:Type} (f:α→Nat) (l:List α) (k:Nat):smN f (l.take k)≤smN f l:=by
 have:=smN_app f (l.take k) (l.drop k)
 rw [List.take_append_drop] at this
 omega
theorem mxN_le {α:Type} (f:α→Nat) (l:List α) (k:Nat):mxN f (l.take k)≤mxN f l:=by
 have:=mxN_app f (l.take k) (l.drop k)
 rw [List.take_append_drop] at this
 omega
theorem szzTs_eq:∀ l,szzTs l=smN szzT l
 | []=>by unfold szzTs;rfl
 | x::l=>by unfold szzTs;rw [szzTs_eq l];rfl
theorem zbf:∀ l,szzFs l=smN szzF l
 | []=>by unfold szzFs;rfl
 | x::l=>by unfold szzFs;rw [zbf l];rfl
theorem dTs_eq:∀ l,dTs l=mxN dT l
 | []=>by unfold dTs;rfl
 | x::l=>by unfold dTs;rw [dTs_eq l];rfl
theorem dpFs_eq:∀ l,dpFs l=mxN dpF l
 | []=>by unfold dpFs;rfl
 | x::l=>by unfold dpFs;rw [dpFs_eq l];rfl
mutual
theorem dT_le:∀ x:Tm,dT x≤szzT x
 | .mk v s l=>by
   have:=dTs_le l
   unfold dT szzT
   omega
theorem dTs_le:∀ l:List Tm,dTs l≤szzTs l
 | []=>by unfold dTs;omega
 | x::l=>by
   have h1:=dT_le x
   have h2:=dTs_le l
   unfold dTs szzTs
   omega
end
mutual
theorem dpF_le:∀ x:Fo,dpF x≤szzF x∧rkF x≤szzF x
 | .mk op s l m=>by
   have h1:=dTs_le l
   have h2:=dpFs_le m
   unfold dpF szzF rkF
   refine ⟨by omega,?_⟩
   split <;> omega
theorem dpFs_le:∀ l:List Fo,dpFs l≤szzFs l∧rkFs l≤szzFs l
 | []=>by unfold dpFs rkFs;omega
 | x::l=>by
   have h1:=dpF_le x
   have h2:=dpFs_le l
   unfold dpFs szzFs rkFs
   omega
end
mutual
theorem nT_pos:∀ x:Tm,1≤szzT x
 | .mk v s l=>by unfold szzT;omega
theorem nTs_len:∀ l:List Tm,l.length≤szzTs l
 | []=>Nat.zero_le _
 | x::l=>by
   have h1:=nT_pos x
   have h2:=nTs_len l
   unfold szzTs
   rw [List.length_cons]
   omega
end
mutual
theorem nF_pos:∀ x:Fo,1≤szzF x
 | .mk op s l m=>by unfold szzF;omega
theorem nFs_len:∀ l:List Fo,l.length≤szzFs l
 | []=>Nat.zero_le _
 | x::l=>by
   have h1:=nF_pos x
   have h2:=nFs_len l
   unfold szzFs
   rw [List.length_cons]
   omega
end
def tar:Tm→List Tm
 | .mk _ _ l=>l
theorem tar_ex (x:Tm):∃ v s,x.cells=[.bool v,.str s,.sl none (tar x).length ((tar x).flatMap Tm.cells)]∧szzT x=szzTs (tar x)+1∧dT x=dTs (tar x)+1:=by
 obtain ⟨v,s,l⟩:=x
 exact ⟨v,s,zbb v s l,by unfold szzT;rfl,by unfold dT;rfl⟩
def SzP (x:Tm):Prop:=∀ H,VDet Tryz.prog 113 [.sl none (tar x).length ((tar x).flatMap Tm.cells)] H (.int .i64 (szzTs (tar x):Nat))
def DpP (x:Tm):Prop:=∀ H,VDet Tryz.prog 114 [.sl none (tar x).length ((tar x).flatMap Tm.cells)] H (.int .i64 (dTs (tar x):Nat))
theorem size_l (l:List Tm) (hn:szzTs l≤100000) (ih:∀ x∈l,SzP x) (H:Heap):VDet Tryz.prog 113 [.sl none l.length (l.flatMap Tm.cells)] H (.int .i64 (szzTs l:Nat)):=by
 have hll:=nTs_len l
 rw [szzTs_eq] at hn hll ⊢
 refine fdD Tryz.func113 ⟨rfl,rfl,rfl⟩ fun hcl hbl=>?_
 conv=>whnf
 refine zau Tryz.E0 zak (σ:=Nat) (fun k=>k≤l.length) (fun k=>l.length-k) (fun k=>[(3,.v (.int .i64 (smN szzT (l.take k):Nat))),(4,.v (.int .i64 k))]) (fun _=>_) _ 0 rfl hcl [0] rfl (Nat.zero_le _) ⟨⟨_,rfl,Wk.refl _⟩,⟨_,rfl,Wk.refl _⟩,trivial⟩ rfl (fun _ _=>rfl) ?_
 intro k hk
 have hle:=zdc szzT l k
 rcases Nat.lt_or_ge k l.length with hlt|hge
 ·have hc:=ih _ (zam l k tm0 hlt)
  have hs:=zb3 szzT tm0 l k hlt
  have hle2:=zdc szzT l (k+1)
  unfold SzP at hc
  obtain ⟨w1,w2,hw,e1,e2⟩:=tar_ex (l.getD k tm0)
  rw [e1] at hs
  generalize szzTs (tar (l.getD k tm0))=a at *
  generalize (tar (l.getD k tm0)).length=an at *
  generalize (tar (l.getD k tm0)).flatMap Tm.cells=ac at *
  generalize smN szzT (l.take k)=S0 at *
  (repeat' ((conv=>whnf);(first|refine IfN.dT (by omega) ?_|(refine zad _ _ Cst.h Cst.h ?_ ?_;· omega)|(refine SideN.mk ?_ ?_;· first|omega|exact List.cons_ne_nil _ _|fail)|refine CallN.det _ (hc _) ?_|refine zah tm0 k rfl (by omega) zcb hw ?_|fail)));conv=>whnf
  (refine ⟨⟨k+1,by show k+1≤_;omega,by omega,?_,.inl ⟨rfl,rfl⟩,rfl,_,rfl,?_⟩⟩;rotate_left 1;exact .inl rfl;(repeat' (first|exact trivial|refine ⟨⟨_,rfl,?_⟩,?_⟩|fail));all_goals (first|exact Wk.refl _|exact zab (congrArg (AV.int _) (by omega))|fail))
 ·have:k=l.length:=by omega
  subst this
  rw [List.take_length]
  (repeat' ((conv=>whnf);(first|refine zaj (by omega) ?_|fail)));conv=>whnf
  exact eT trivial
theorem deep_l (l:List Tm) (hn:szzTs l≤100000) (ih:∀ x∈l,DpP x) (H:Heap):VDet Tryz.prog 114 [.sl none l.length (l.flatMap Tm.cells)] H (.int .i64 (dTs l:Nat)):=by
 have hll:=nTs_len l
 have hdl:=dTs_le l
 rw [dTs_eq] at hdl ⊢
 refine fdD Tryz.func114 ⟨rfl,rfl,rfl⟩ fun hcl hbl=>?_
 conv=>whnf
 refine zau Tryz.E0 zak (σ:=Nat) (fun k=>k≤l.length) (fun k=>l.length-k) (fun k=>[(3,.v (.int .i64 (mxN dT (l.take k):Nat))),(4,.v (.int .i64 k))]) (fun _=>_) _ 0 rfl hcl [0] rfl (Nat.zero_le _) ⟨⟨_,rfl,Wk.refl _⟩,⟨_,rfl,Wk.refl _⟩,trivial⟩ rfl (fun _ _=>rfl) ?_
 intro k hk
 have hle:=mxN_le dT l k
 rcases Nat.lt_or_ge k l.length with hlt|hge
 ·have hc:=ih _ (zam l k tm0 hlt)
  have hs:=mxN_take dT tm0 l k hlt
  have hle2:=mxN_le dT l (k+1)
  unfold DpP at hc
  obtain ⟨w1,w2,hw,e1,e2⟩:=tar_ex (l.getD k tm0)
  rw [e2] at hs
  generalize dTs (tar (l.getD k tm0))=a at *
  generalize (tar (l.getD k tm0)).length=an at *
  generalize (tar (l.getD k tm0)).flatMap Tm.cells=ac at *
  generalize mxN dT (l.take k)=S0 at *
  rcases Nat.lt_or_ge S0 (a+1) with hmx|hmx
  ·rw [Nat.max_eq_right (by omega)] at hs
   (repeat' ((conv=>whnf);(first|refine IfN.dT (by omega) ?_|(refine zad _ _ Cst.h Cst.h ?_ ?_;· omega)|(refine SideN.mk ?_ ?_;· first|omega|exact List.cons_ne_nil _ _|fail)|refine CallN.det _ (hc _) ?_|refine zah tm0 k rfl (by omega) zcb hw ?_|fail)));conv=>whnf
   (refine ⟨⟨k+1,by show k+1≤_;omega,by omega,?_,.inl ⟨rfl,rfl⟩,rfl,_,rfl,?_⟩⟩;rotate_left 1;exact .inl rfl;(repeat' (first|exact trivial|refine ⟨⟨_,rfl,?_⟩,?_⟩|fail));all_goals (first|exact Wk.refl _|exact zab (congrArg (AV.int _) (by omega))|fail))
  ·rw [Nat.max_eq_left (by omega)] at hs
   (repeat' ((conv=>whnf);(first|(refine IfN.id ?_;first|refine IfN.dT (by omega) ?_|refine zaj (by omega) ?_|fail)|(refine zad _ _ Cst.h Cst.h ?_ ?_;· omega)|(refine SideN.mk ?_ ?_;· first|omega|exact List.cons_ne_nil _ _|fail)|refine CallN.det _ (hc _) ?_|refine zah tm0 k rfl (by omega) zcb hw ?_|fail)));conv=>whnf
   (refine ⟨⟨k+1,by show k+1≤_;omega,by omega,?_,.inl ⟨rfl,rfl⟩,rfl,_,rfl,?_⟩⟩;rotate_left 1;exact .inl rfl;(repeat' (first|exact trivial|refine ⟨⟨_,rfl,?_⟩,?_⟩|fail));all_goals (first|exact Wk.refl _|exact zab (congrArg (AV.int _) (by omega))|fail))
 ·have:k=l.length:=by omega
  subst this
  rw [List.take_length]
  (repeat' ((conv=>whnf);(first|refine zaj (by omega) ?_|fail)));conv=>whnf
  exact eT trivial
mutual
theorem sz_c:∀ x:Tm,szzT x≤100000→SzP x∧DpP x
 | .mk v s l,h=>by
   unfold szzT at h
   have h2:=szs_all l (by omega)
   exact ⟨fun H=>size_l l (by omega) (fun x hx=>(h2 x hx).1) H,fun H=>deep_l l (by omega) (fun x hx=>(h2 x hx).2) H⟩
theorem szs_all:∀ l:List Tm,szzTs l≤100000→∀ x∈l,SzP x∧DpP x
 | [],_,x,hx=>by cases hx
 | y::l,h,x,hx=>by
   unfold szzTs at h
   rcases List.mem_cons.1 hx with e|hx
   ·rw [e]
    exact sz_c y (by omega)
   ·exact szs_all l (by omega) x hx
end
def NdP (x:Fo):Prop:=∀ H,VDet Tryz.prog 89 [.agg x.cells] H (.int .i64 (szzF x:Nat))
def DeP (x:Fo):Prop:=∀ H,VDet Tryz.prog 90 [.agg x.cells] H (.int .i64 (dpF x:Nat))
theorem nodes_step (op:Nat) (hop:op≤255) (s:ByteArray) (l:List Tm) (m:List Fo) (hn:szzF (.mk op s l m)≤100000) (ih:∀ x∈m,NdP x):NdP (.mk op s l m):=by
 intro H
 have hll:=nTs_len l
 have hml:=nFs_len m
 have he:szzF (.mk op s l m)=1+szzTs l+smN szzF m:=by rw [← zbf];unfold szzF;rfl
 rw [he] at hn ⊢
 rw [zbf] at hml
 have h1:=fun H=>size_l l (by omega) (fun x hx=>(szs_all l (by omega) x hx).1) H
 rw [zaf]
 generalize szzTs l=A0 at *
 generalize l.flatMap Tm.cells=lc at *
 refine fdD Tryz.func89 ⟨rfl,rfl,rfl⟩ fun hcl hbl=>?_
 (repeat' ((conv=>whnf);(first|(refine zad _ _ Cst.h Cst.h ?_ ?_;· omega)|refine CallN.det _ (h1 _) ?_|fail)));conv=>whnf
 refine zau Tryz.E0 zak (σ:=Nat) (fun k=>k≤m.length) (fun k=>m.length-k) (fun k=>[(3,.v (.int .i64 ((1+A0+smN szzF (m.take k):Nat):Int))),(4,.v (.int .i64 k))]) (fun _=>_) _ 0 rfl hcl [1] rfl (Nat.zero_le _) ⟨⟨_,rfl,zab (congrArg (AV.int _) (by show _=((1+A0+0:Nat):Int);omega))⟩,⟨_,rfl,Wk.refl _⟩,trivial⟩ rfl (fun _ _=>rfl) ?_
 intro k hk
 have hle:=zdc szzF m k
 rcases Nat.lt_or_ge k m.length with hlt|hge
 ·have hc:=ih _ (zam m k fo0 hlt)
  have hs:=zb3 szzF fo0 m k hlt
  have hle2:=zdc szzF m (k+1)
  unfold NdP at hc
  obtain ⟨w1,w2,w3,w4,w5,w6,hw,hb⟩:=zby (m.getD k fo0)
  rw [hw] at hc
  generalize szzF (m.getD k fo0)=a at *
  generalize smN szzF (m.take k)=S0 at *
  (repeat' ((conv=>whnf);(first|refine IfN.dT (by omega) ?_|(refine zad _ _ Cst.h Cst.h ?_ ?_;· omega)|(refine SideN.mk ?_ ?_;· first|omega|exact List.cons_ne_nil _ _|fail)|refine CallN.det _ (hc _) ?_|refine zah fo0 k rfl (by omega) za1 hw ?_|fail)));conv=>whnf
  (refine ⟨⟨k+1,by show k+1≤_;omega,by omega,?_,.inl ⟨rfl,rfl⟩,rfl,_,rfl,?_⟩⟩;rotate_left 1;exact .inl rfl;(repeat' (first|exact trivial|refine ⟨⟨_,rfl,?_⟩,?_⟩|fail));all_goals (first|exact Wk.refl _|exact zab (congrArg (AV.int _) (by omega))|fail))
 ·have:k=m.length:=by omega
  subst this
  rw [List.take_length]
  (repeat' ((conv=>whnf);(first|refine zaj (by omega) ?_|fail)));conv=>whnf
  exact eT trivial
theorem depth_step (op:Nat) (hop:op≤255) (s:ByteArray) (l:List Tm) (m:List Fo) (hn:szzF (.mk op s l m)≤100000) (ih:∀ x∈m,DeP x):DeP (.mk op s l m):=by
 intro H
 have hml:=nFs_len m
 have hdm:=(dpFs_le m).1
 have hdl:=dTs_le l
 have he:dpF (.mk op s l m)=max (dTs l) (mxN dpF m)+1:=by rw [← dpFs_eq];unfold dpF;rfl
 have hn2:1+szzTs l+szzFs m≤100000:=by unfold szzF at hn;exact hn
 rw [he]
 rw [dpFs_eq] at hdm
 have h1:=fun H=>deep_l l (by omega) (fun x hx=>(szs_all l (by omega) x hx).2) H
 rw [zaf]
 generalize dTs l=A0 at *
 generalize l.flatMap Tm.cells=lc at *
 refine fdD Tryz.func90 ⟨rfl,rfl,rfl⟩ fun hcl hbl=>?_
 (repeat' ((conv=>whnf);(first|refine CallN.det _ (h1 _) ?_|fail)));conv=>whnf
 refine zau Tryz.E0 zak (σ:=Nat) (fun k=>k≤m.length) (fun k=>m.length-k) (fun k=>[(3,.v (.int .i64 ((max A0 (mxN dpF (m.take k)):Nat):Int))),(4,.v (.int .i64 k))]) (fun _=>_) _ 0 rfl hcl [1] rfl (Nat.zero_le _) ⟨⟨_,rfl,zab (congrArg (AV.int _) (by show _=((max A0 0:Nat):Int);rw [Nat.max_zero]))⟩,⟨_,rfl,Wk.refl _⟩,trivial⟩ rfl (fun _ _=>rfl) ?_
 intro k hk
 have hle:=mxN_le dpF m k
 rcases Nat.lt_or_ge k m.length with hlt|hge
 ·have hc:=ih _ (zam m k fo0 hlt)
  have hs:=mxN_take dpF fo0 m k hlt
  have hle2:=mxN_le dpF m (k+1)
  unfold DeP at hc
  obtain ⟨w1,w2,w3,w4,w5,w6,hw,hb⟩:=zby (m.getD k fo0)
  rw [hw] at hc
  generalize dpF (m.getD k fo0)=a at *
  have hS:max A0 (mxN dpF (m.take (k+1)))=max (max A0 (mxN dpF (m.take k))) a:=by rw [hs];omega
  have hS2:max A0 (mxN dpF (m.take k))≤100000:=by omega
  generalize max A0 (mxN dpF (m.take k))=S0 at *
  rcases Nat.lt_or_ge S0 a with hmx|hmx
  ·rw [Nat.max_eq_right (show S0≤a by omega)] at hS
   (repeat' ((conv=>whnf);(first|refine IfN.dT (by omega) ?_|(refine zad _ _ Cst.h Cst.h ?_ ?_;· omega)|(refine SideN.mk ?_ ?_;· first|omega|exact List.cons_ne_nil _ _|fail)|refine CallN.det _ (hc _) ?_|refine zah fo0 k rfl (by omega) za1 hw ?_|fail)));conv=>whnf
   (refine ⟨⟨k+1,by show k+1≤_;omega,by omega,?_,.inl ⟨rfl,rfl⟩,rfl,_,rfl,?_⟩⟩;rotate_left 1;exact .inl rfl;(repeat' (first|exact trivial|refine ⟨⟨_,rfl,?_⟩,?_⟩|fail));all_goals (first|exact Wk.refl _|exact zab (congrArg (AV.int _) (by omega))|fail))
  ·rw [Nat.max_eq_left (show a≤S0 by omega)] at hS
   (repeat' ((conv=>whnf);(first|(refine IfN.id ?_;first|refine IfN.dT (by omega) ?_|refine zaj (by omega) ?_|fail)|(refine zad _ _ Cst.h Cst.h ?_ ?_;· omega)|(refine SideN.mk ?_ ?_;· first|omega|exact List.cons_ne_nil _ _|fail)|refine CallN.det _ (hc _) ?_|refine zah fo0 k rfl (by omega) za1 hw ?_|fail)));conv=>whnf
   (refine ⟨⟨k+1,by show k+1≤_;omega,by omega,?_,.inl ⟨rfl,rfl⟩,rfl,_,rfl,?_⟩⟩;rotate_left 1;exact .inl rfl;(repeat' (first|exact trivial|refine ⟨⟨_,rfl,?_⟩,?_⟩|fail));all_goals (first|exact Wk.refl _|exact zab (congrArg (AV.int _) (by omega))|fail))
 ·have:k=m.length:=by omega
  subst this
  rw [List.take_length]
  have hS2:max A0 (mxN dpF m)≤100000:=by omega
  generalize max A0 (mxN dpF m)=S0 at *
  (repeat' ((conv=>whnf);(first|refine zaj (by omega) ?_|(refine zad _ _ Cst.h Cst.h ?_ ?_;· omega)|fail)));conv=>whnf
  exact EndN.det trivial (zab (congrArg (AV.int _) (by omega)))
mutual
theorem msr_c:∀ x:Fo,x.good→szzF x≤100000→(NdP x∧DeP x)∧True
 | .mk op s l m,hg,h=>by
   have h':=h
   unfold szzF at h
   have h2:=msrs_all m hg.2.2.2.2.2 (by omega)
   exact ⟨⟨nodes_step op hg.1 s l m h' fun x hx=>(h2 x hx).1.1,depth_step op hg.1 s l m h' fun x hx=>(h2 x hx).1.2⟩,trivial⟩
theorem msrs_all:∀ l:List Fo,Fo.goodL l→szzFs l≤100000→∀ x∈l,(NdP x∧DeP x)∧True
 | [],_,_,x,hx=>by cases hx
 | y::l,hg,h,x,hx=>by
   unfold szzFs at h
   rcases List.mem_cons.1 hx with e|hx
   ·rw [e]
    exact msr_c y hg.1 (by omega)
   ·exact msrs_all l hg.2 (by omega) x hx
end
def refR (x:Fo):Bool:=rfF x&&(decide (szzF x≤400)&&decide (dpF x≤40))
theorem refRight_c (x:Fo) (hg:x.good) (hn:szzF x≤100000) (H:Heap):VDet Tryz.prog 64 [.agg x.cells] H (.bool (refR x)):=by
 have h1:∀ H,VDet Tryz.prog 88 [.agg x.cells,.bool false] H (.bool (rfF x)):=fun H=>rf_c x hg H
 have h2:∀ H,VDet Tryz.prog 89 [.agg x.cells] H (.int .i64 (szzF x:Nat)):=(msr_c x hg hn).1.1
 have h3:∀ H,VDet Tryz.prog 90 [.agg x.cells] H (.int .i64 (dpF x:Nat)):=(msr_c x hg hn).1.2
 unfold refR
 obtain ⟨w1,w2,w3,w4,w5,w6,hw,hb⟩:=zby x
 rw [hw] at h1 h2 h3 ⊢
 generalize rfF x=b0 at *
 generalize szzF x=n at *
 generalize dpF x=d at *
 cases b0 with
 | false =>
   refine fdD Tryz.func64 ⟨rfl,rfl,rfl⟩ fun hcl hbl=>?_
   (repeat' ((conv=>whnf);(first|refine IfN.ff rfl ?_|refine CallN.det _ (h1 _) ?_|fail)));conv=>whnf
   exact eT trivial
 | true =>
   rw [Bool.true_and]
   by_cases q1:n≤400
   ·rw [decide_eq_true q1,Bool.true_and]
    by_cases q2:d≤40
    ·rw [decide_eq_true q2]
     refine fdD Tryz.func64 ⟨rfl,rfl,rfl⟩ fun hcl hbl=>?_
     (repeat' ((conv=>whnf);(first|(refine IfN.id ?_;first|refine IfN.tt rfl ?_|refine IfN.dT (by omega) ?_|fail)|(refine CallN.id ?_;first|refine CallN.det _ (h1 _) ?_|refine CallN.det _ (h2 _) ?_|refine CallN.det _ (h3 _) ?_|fail)|fail)));conv=>whnf
     exact EndN.det trivial (zab (congrArg AV.bool (decide_eq_true (by omega))))
    ·rw [decide_eq_false q2]
     refine fdD Tryz.func64 ⟨rfl,rfl,rfl⟩ fun hcl hbl=>?_
     (repeat' ((conv=>whnf);(first|(refine IfN.id ?_;first|refine IfN.tt rfl ?_|refine IfN.dT (by omega) ?_|fail)|(refine CallN.id ?_;first|refine CallN.det _ (h1 _) ?_|refine CallN.det _ (h2 _) ?_|refine CallN.det _ (h3 _) ?_|fail)|fail)));conv=>whnf
     exact EndN.det trivial (zab (congrArg AV.bool (decide_eq_false (by omega))))
   ·rw [decide_eq_false q1,Bool.false_and]
    refine fdD Tryz.func64 ⟨rfl,rfl,rfl⟩ fun hcl hbl=>?_
    (repeat' ((conv=>whnf);(first|(refine IfN.id ?_;first|refine IfN.tt rfl ?_|refine zaj (by omega) ?_|fail)|(refine CallN.id ?_;first|refine CallN.det _ (h1 _) ?_|refine CallN.det _ (h2 _) ?_|fail)|fail)));conv=>whnf
    exact eT trivial
def capN (a M:Nat):Nat:=min a (M+1)
def TzP (x:Tm):Prop:=∀ (M:Nat),M≤1000→∀ H,VDet Tryz.prog 92 [.agg x.cells,.int .i64 (M:Nat)] H (.int .i64 (capN (szzT x) M:Nat))
def FzP (x:Fo):Prop:=∀ (M:Nat),M≤1000→∀ H,VDet Tryz.prog 70 [.agg x.cells,.int .i64 (M:Nat)] H (.int .i64 (capN (szzF x) M:Nat))
theorem tz_step (v:Bool) (s:ByteArray) (l:List Tm) (hll:l.length≤9223372036854775807) (ih:∀ x∈l,TzP x):TzP (.mk v s l):=by
 intro M hM H
 rw [show szzT (.mk v s l)=1+smN szzT l by rw [← szzTs_eq];unfold szzT;omega,zbb]
 refine fdD Tryz.func92 ⟨rfl,rfl,rfl⟩ fun hcl hbl=>?_
 conv=>whnf
 refine zau Tryz.E0 zak (σ:=Nat) (fun k=>k≤l.length) (fun k=>l.length-k) (fun k=>[(5,.v (.int .i64 (capN (1+smN szzT (l.take k)) M:Nat))),(6,.v (.int .i64 k))]) (fun _=>_) _ 0 rfl hcl [1,2] rfl (Nat.zero_le _) ⟨⟨_,rfl,zab (congrArg (AV.int _) (by show _=((capN (1+0) M:Nat):Int);unfold capN;omega))⟩,⟨_,rfl,Wk.refl _⟩,trivial⟩ rfl (fun _ _=>rfl) ?_
 intro k hk
 have hle:=zdc szzT l k
 rcases Nat.lt_or_ge k l.length with hlt|hge
 ·rcases Nat.lt_or_ge M (capN (1+smN szzT (l.take k)) M) with hM1|hM1
  ·have hcap:capN (1+smN szzT (l.take k)) M=capN (1+smN szzT l) M:=by unfold capN at *;omega
   rw [hcap] at hM1 ⊢
   (repeat' ((conv=>whnf);(first|(refine IfN.id ?_;first|refine IfN.dT (by omega) ?_|refine zaj (by omega) ?_|fail)|fail)));conv=>whnf
   exact eT trivial
  ·have hc:=ih _ (zam l k tm0 hlt)
   have hs:=zb3 szzT tm0 l k hlt
   unfold TzP at hc
   obtain ⟨w1,w2,w3,w4,hw,hb⟩:=tm_ex4 (l.getD k tm0)
   rw [hw] at hc
   have hc:=hc (M-capN (1+smN szzT (l.take k)) M) (by omega)
   have hst:capN (1+smN szzT (l.take (k+1))) M=capN (1+smN szzT (l.take k)) M+capN (szzT (l.getD k tm0)) (M-capN (1+smN szzT (l.take k)) M):=by unfold capN at *;omega
   have hst2:capN (1+smN szzT (l.take (k+1))) M≤M+1:=by unfold capN;omega
   generalize capN (1+smN szzT (l.take k)) M=N0 at *
   generalize capN (szzT (l.getD k tm0)) (M-N0)=N1 at *
   (repeat' ((conv=>whnf);(first|refine IfN.dT (by omega) ?_|(refine EqN.id ?_;first|(refine zad _ _ Cst.h Cst.h ?_ ?_;· omega)|(refine zcu _ _ Cst.h Cst.h ?_ ?_;· omega)|fail)|(refine SideN.mk ?_ ?_;· first|omega|exact List.cons_ne_nil _ _|fail)|refine CallN.det _ (hc _) ?_|refine zah tm0 k rfl (by omega) zcb hw ?_|fail)));conv=>whnf
   (refine ⟨⟨k+1,by show k+1≤_;omega,by omega,?_,.inl ⟨rfl,rfl⟩,rfl,_,rfl,?_⟩⟩;rotate_left 1;exact .inl rfl;(repeat' (first|exact trivial|refine ⟨⟨_,rfl,?_⟩,?_⟩|fail));all_goals (first|exact Wk.refl _|exact zab (congrArg (AV.int _) (by omega))|fail))
 ·have:k=l.length:=by omega
  subst this
  rw [List.take_length]
  (repeat' ((conv=>whnf);(first|refine zaj (by omega) ?_|fail)));conv=>whnf
  exact eT trivial
mutual
theorem tzV_c:∀ x:Tm,x.good→TzP x
 | .mk v s l,h=>tz_step v s l (za4 h.2.1) (tzs_all l h.2.2)
theorem tzs_all:∀ l:List Tm,Tm.goodL l→∀ x∈l,TzP x
 | [],_,x,hx=>by cases hx
 | y::l,h,x,hx=>by
   rcases List.mem_cons.1 hx with e|hx
   ·rw [e]
    exact tzV_c y h.1
   ·exact tzs_all l h.2 x hx
end
theorem fz_step (op:Nat) (hop:op≤255) (s:ByteArray) (l:List Tm) (m:List Fo) (hll:l.length≤9223372036854775807) (hml:m.length≤9223372036854775807) (iht:∀ x∈l,TzP x) (ih:∀ x∈m,FzP x):FzP (.mk op s l m):=by
 intro M hM H
 rw [show szzF (.mk op s l m)=1+smN szzF m+smN szzT l by rw [← szzTs_eq,← zbf];unfold szzF;omega,zaf]
 refine fdD Tryz.func70 ⟨rfl,rfl,rfl⟩ fun hcl hbl=>?_
 conv=>whnf
 refine zau Tryz.E0 zak (σ:=Nat) (fun k=>k≤m.length) (fun k=>m.length-k) (fun k=>[(5,.v (.int .i64 (capN (1+smN szzF (m.take k)) M:Nat))),(6,.v (.int .i64 k))]) (fun _=>_) _ 0 rfl hcl [1,2] rfl (Nat.zero_le _) ⟨⟨_,rfl,zab (congrArg (AV.int _) (by show _=((capN (1+0) M:Nat):Int);unfold capN;omega))⟩,⟨_,rfl,Wk.refl _⟩,trivial⟩ rfl (fun _ _=>rfl) ?_
 intro k hk
 have hle:=zdc szzF m k
 rcases Nat.lt_or_ge k m.length with hlt|hge
 ·rcases Nat.lt_or_ge M (capN (1+smN szzF (m.take k)) M) with hM1|hM1
  ·have hcap:capN (1+smN szzF (m.take k)) M=capN (1+smN szzF m) M:=by unfold capN at *;omega
   rw [hcap] at hM1 ⊢
   (repeat' ((conv=>whnf);(first|(refine IfN.id ?_;first|refine IfN.dT (by omega) ?_|refine zaj (by omega) ?_|fail)|fail)));conv=>whnf
   refine zau Tryz.E0 zak (σ:=Nat) (fun k=>k≤l.length) (fun k=>l.length-k) (fun k=>[(5,.v (.int .i64 (capN ((1+smN szzF m)+smN szzT (l.take k)) M:Nat))),(7,.v (.int .i64 k))]) (fun _=>_) _ 0 rfl hcl [1,2] rfl (Nat.zero_le _) ⟨⟨_,rfl,zab (congrArg (AV.int _) (by show _=((capN ((1+smN szzF m)+0) M:Nat):Int);unfold capN;omega))⟩,⟨_,rfl,Wk.refl _⟩,trivial⟩ rfl (fun _ _=>rfl) ?_
   intro k hk
   have hle:=zdc szzT l k
   rcases Nat.lt_or_ge k l.length with hlt|hge
   ·rcases Nat.lt_or_ge M (capN ((1+smN szzF m)+smN szzT (l.take k)) M) with hM1|hM1
    ·have hcap:capN ((1+smN szzF m)+smN szzT (l.take k)) M=capN ((1+smN szzF m)+smN szzT l) M:=by unfold capN at *;omega
     rw [hcap] at hM1 ⊢
     (repeat' ((conv=>whnf);(first|(refine IfN.id ?_;first|refine IfN.dT (by omega) ?_|refine zaj (by omega) ?_|fail)|fail)));conv=>whnf
     exact eT trivial
    ·have hc:=iht _ (zam l k tm0 hlt)
     have hs:=zb3 szzT tm0 l k hlt
     unfold TzP at hc
     obtain ⟨w1,w2,w3,w4,hw,hb⟩:=tm_ex4 (l.getD k tm0)
     rw [hw] at hc
     have hc:=hc (M-capN ((1+smN szzF m)+smN szzT (l.take k)) M) (by omega)
     have hst:capN ((1+smN szzF m)+smN szzT (l.take (k+1))) M=capN ((1+smN szzF m)+smN szzT (l.take k)) M+capN (szzT (l.getD k tm0)) (M-capN ((1+smN szzF m)+smN szzT (l.take k)) M):=by unfold capN at *;omega
     have hst2:capN ((1+smN szzF m)+smN szzT (l.take (k+1))) M≤M+1:=by unfold capN;omega
     generalize capN ((1+smN szzF m)+smN szzT (l.take k)) M=N0 at *
     generalize capN (szzT (l.getD k tm0)) (M-N0)=N1 at *
     (repeat' ((conv=>whnf);(first|refine IfN.dT (by omega) ?_|(refine EqN.id ?_;first|(refine zad _ _ Cst.h Cst.h ?_ ?_;· omega)|(refine zcu _ _ Cst.h Cst.h ?_ ?_;· omega)|fail)|(refine SideN.mk ?_ ?_;· first|omega|exact List.cons_ne_nil _ _|fail)|refine CallN.det _ (hc _) ?_|refine zah tm0 k rfl (by omega) zcb hw ?_|fail)));conv=>whnf
     (refine ⟨⟨k+1,by show k+1≤_;omega,by omega,?_,.inl ⟨rfl,rfl⟩,rfl,_,rfl,?_⟩⟩;rotate_left 1;exact .inl rfl;(repeat' (first|exact trivial|refine ⟨⟨_,rfl,?_⟩,?_⟩|fail));all_goals (first|exact Wk.refl _|exact zab (congrArg (AV.int _) (by omega))|fail))
   ·have:k=l.length:=by omega
    subst this
    rw [List.take_length]
    (repeat' ((conv=>whnf);(first|refine zaj (by omega) ?_|fail)));conv=>whnf
    exact eT trivial
  ·have hc:=ih _ (zam m k fo0 hlt)
   have hs:=zb3 szzF fo0 m k hlt
   unfold FzP at hc
   obtain ⟨w1,w2,w3,w4,w5,w6,hw,hb⟩:=zby (m.getD k fo0)
   rw [hw] at hc
   have hc:=hc (M-capN (1+smN szzF (m.take k)) M) (by omega)
   have hst:capN (1+smN szzF (m.take (k+1))) M=capN (1+smN szzF (m.take k)) M+capN (szzF (m.getD k fo0)) (M-capN (1+smN szzF (m.take k)) M):=by unfold capN at *;omega
   have hst2:capN (1+smN szzF (m.take (k+1))) M≤M+1:=by unfold capN;omega
   generalize capN (1+smN szzF (m.take k)) M=N0 at *
   generalize capN (szzF (m.getD k fo0)) (M-N0)=N1 at *
   (repeat' ((conv=>whnf);(first|refine IfN.dT (by omega) ?_|(refine EqN.id ?_;first|(refine zad _ _ Cst.h Cst.h ?_ ?_;· omega)|(refine zcu _ _ Cst.h Cst.h ?_ ?_;· omega)|fail)|(refine SideN.mk ?_ ?_;· first|omega|exact List.cons_ne_nil _ _|fail)|refine CallN.det _ (hc _) ?_|refine zah fo0 k rfl (by omega) za1 hw ?_|fail)));conv=>whnf
   (refine ⟨⟨k+1,by show k+1≤_;omega,by omega,?_,.inl ⟨rfl,rfl⟩,rfl,_,rfl,?_⟩⟩;rotate_left 1;exact .inl rfl;(repeat' (first|exact trivial|refine ⟨⟨_,rfl,?_⟩,?_⟩|fail));all_goals (first|exact Wk.refl _|exact zab (congrArg (AV.int _) (by omega))|fail))
 ·have:k=m.length:=by omega
  subst this
  rw [List.take_length]
  (repeat' ((conv=>whnf);(first|refine zaj (by omega) ?_|fail)));conv=>whnf
  refine zau Tryz.E0 zak (σ:=Nat) (fun k=>k≤l.length) (fun k=>l.length-k) (fun k=>[(5,.v (.int .i64 (capN ((1+smN szzF m)+smN szzT (l.take k)) M:Nat))),(7,.v (.int .i64 k))]) (fun _=>_) _ 0 rfl hcl [1,2] rfl (Nat.zero_le _) ⟨⟨_,rfl,zab (congrArg (AV.int _) (by show _=((capN ((1+smN szzF m)+0) M:Nat):Int);unfold capN;omega))⟩,⟨_,rfl,Wk.refl _⟩,trivial⟩ rfl (fun _ _=>rfl) ?_
  intro k hk
  have hle:=zdc szzT l k
  rcases Nat.lt_or_ge k l.length with hlt|hge
  ·rcases Nat.lt_or_ge M (capN ((1+smN szzF m)+smN szzT (l.take k)) M) with hM1|hM1
   ·have hcap:capN ((1+smN szzF m)+smN szzT (l.take k)) M=capN ((1+smN szzF m)+smN szzT l) M:=by unfold capN at *;omega
    rw [hcap] at hM1 ⊢
    (repeat' ((conv=>whnf);(first|(refine IfN.id ?_;first|refine IfN.dT (by omega) ?_|refine zaj (by omega) ?_|fail)|fail)));conv=>whnf
    exact eT trivial
   ·have hc:=iht _ (zam l k tm0 hlt)
    have hs:=zb3 szzT tm0 l k hlt
    unfold TzP at hc
    obtain ⟨w1,w2,w3,w4,hw,hb⟩:=tm_ex4 (l.getD k tm0)
    rw [hw] at hc
    have hc:=hc (M-capN ((1+smN szzF m)+smN szzT (l.take k)) M) (by omega)
    have hst:capN ((1+smN szzF m)+smN szzT (l.take (k+1))) M=capN ((1+smN szzF m)+smN szzT (l.take k)) M+capN (szzT (l.getD k tm0)) (M-capN ((1+smN szzF m)+smN szzT (l.take k)) M):=by unfold capN at *;omega
    have hst2:capN ((1+smN szzF m)+smN szzT (l.take (k+1))) M≤M+1:=by unfold capN;omega
    generalize capN ((1+smN szzF m)+smN szzT (l.take k)) M=N0 at *
    generalize capN (szzT (l.getD k tm0)) (M-N0)=N1 at *
    (repeat' ((conv=>whnf);(first|refine IfN.dT (by omega) ?_|(refine EqN.id ?_;first|(refine zad _ _ Cst.h Cst.h ?_ ?_;· omega)|(refine zcu _ _ Cst.h Cst.h ?_ ?_;· omega)|fail)|(refine SideN.mk ?_ ?_;· first|omega|exact List.cons_ne_nil _ _|fail)|refine CallN.det _ (hc _) ?_|refine zah tm0 k rfl (by omega) zcb hw ?_|fail)));conv=>whnf
    (refine ⟨⟨k+1,by show k+1≤_;omega,by omega,?_,.inl ⟨rfl,rfl⟩,rfl,_,rfl,?_⟩⟩;rotate_left 1;exact .inl rfl;(repeat' (first|exact trivial|refine ⟨⟨_,rfl,?_⟩,?_⟩|fail));all_goals (first|exact Wk.refl _|exact zab (congrArg (AV.int _) (by omega))|fail))
  ·have:k=l.length:=by omega
   subst this
   rw [List.take_length]
   (repeat' ((conv=>whnf);(first|refine zaj (by omega) ?_|fail)));conv=>whnf
   exact eT trivial
mutual
theorem fz_c:∀ x:Fo,x.good→FzP x
 | .mk op s l m,h=>fz_step op h.1 s l m (za4 h.2.2.1) (za4 h.2.2.2.2.1) (tzs_all l h.2.2.2.1) (fzs_all m h.2.2.2.2.2)
theorem fzs_all:∀ l:List Fo,Fo.goodL l→∀ x∈l,FzP x
 | [],_,x,hx=>by cases hx
 | y::l,h,x,hx=>by
   rcases List.mem_cons.1 hx with e|hx
   ·rw [e]
    exact fz_c y h.1
   ·exact fzs_all l h.2 x hx
end
def fewF (l:List Fo):Bool:=decide (smN szzF l≤600)
theorem fewForms_c (l:List Fo) (hl:l.length≤9223372036854775807) (hg:Fo.goodL l) (H:Heap):VDet Tryz.prog 34 [.sl none l.length (l.flatMap Fo.cells)] H (.bool (fewF l)):=by
 unfold fewF
 have hx:=fun x hx=>fzs_all l hg x hx
 refine fdD Tryz.func34 ⟨rfl,rfl,rfl⟩ fun hcl hbl=>?_
 conv=>whnf
 refine zau Tryz.E0 zak (σ:=Nat) (fun k=>k≤l.length∧smN szzF (l.take k)≤600) (fun k=>l.length-k) (fun k=>[(3,.v (.int .i64 (smN szzF (l.take k):Nat))),(4,.v (.int .i64 k))]) (fun _=>_) _ 0 rfl hcl [0] rfl ⟨Nat.zero_le _,Nat.zero_le _⟩ ⟨⟨_,rfl,Wk.refl _⟩,⟨_,rfl,Wk.refl _⟩,trivial⟩ rfl (fun _ _=>rfl) ?_
 rintro k ⟨hk,hi⟩
 rcases Nat.lt_or_ge k l.length with hlt|hge
 ·have hc0:=hx _ (zam l k fo0 hlt)
  have hs:=zb3 szzF fo0 l k hlt
  have hle2:=zdc szzF l (k+1)
  unfold FzP at hc0
  obtain ⟨w1,w2,w3,w4,w5,w6,hw,hb⟩:=zby (l.getD k fo0)
  rw [hw] at hc0
  have hc:∀ H,VDet Tryz.prog 70 [.agg [.int .u8 (w1:Nat),.str w2,.sl none w3 w4,.sl none w5 w6],.int .i64 600] H (.int .i64 (capN (szzF (l.getD k fo0)) 600:Nat)):=hc0 600 (by decide)
  clear hc0
  have hcap:capN (szzF (l.getD k fo0)) 600≤601:=by unfold capN;omega
  have hcap2:capN (szzF (l.getD k fo0)) 600=szzF (l.getD k fo0)∨(capN (szzF (l.getD k fo0)) 600=601∧601≤szzF (l.getD k fo0)):=by unfold capN;omega
  generalize capN (szzF (l.getD k fo0)) 600=N1 at *
  generalize szzF (l.getD k fo0)=z at *
  generalize smN szzF (l.take k)=S0 at *
  rcases Nat.lt_or_ge 600 (S0+N1) with h6|h6
  ·rw [decide_eq_false (by omega)]
   (repeat' ((conv=>whnf);(first|refine IfN.dT (by omega) ?_|(refine zad _ _ Cst.h Cst.h ?_ ?_;· omega)|(refine SideN.mk ?_ ?_;· first|omega|exact List.cons_ne_nil _ _|fail)|refine CallN.det _ (hc _) ?_|refine zah fo0 k rfl (by omega) za1 hw ?_|fail)));conv=>whnf
   exact eT trivial
  ·have hN:N1=z:=by omega
   (repeat' ((conv=>whnf);(first|(refine IfN.id ?_;first|refine IfN.dT (by omega) ?_|refine zaj (by omega) ?_|fail)|(refine zad _ _ Cst.h Cst.h ?_ ?_;· omega)|(refine SideN.mk ?_ ?_;· first|omega|exact List.cons_ne_nil _ _|fail)|refine CallN.det _ (hc _) ?_|refine zah fo0 k rfl (by omega) za1 hw ?_|fail)));conv=>whnf
   (refine ⟨⟨k+1,⟨by show k+1≤_;omega,by omega⟩,by omega,?_,.inl ⟨rfl,rfl⟩,rfl,_,rfl,?_⟩⟩;rotate_left 1;exact .inl rfl;(repeat' (first|exact trivial|refine ⟨⟨_,rfl,?_⟩,?_⟩|fail));all_goals (first|exact Wk.refl _|exact zab (congrArg (AV.int _) (by omega))|fail))
 ·have:k=l.length:=by omega
  subst this
  rw [List.take_length] at hi
  rw [decide_eq_true hi]
  (repeat' ((conv=>whnf);(first|refine zaj (by omega) ?_|fail)));conv=>whnf
  exact eT trivial
def mkB (i:Nat):ByteArray:=strOfB [35,1,0,0,47,(i:Nat),0,0]
theorem zfx (i:Nat) (hi:i<12) (H:Heap):VDet Tryz.prog 53 [.int .i64 1,.int .i64 (i:Nat)] H (.str (mkB i)):=by
 have h:i=0∨i=1∨i=2∨i=3∨i=4∨i=5∨i=6∨i=7∨i=8∨i=9∨i=10∨i=11:=by omega
 rcases h with rfl|rfl|rfl|rfl|rfl|rfl|rfl|rfl|rfl|rfl|rfl|rfl
 all_goals
  refine fdD Tryz.func53 ⟨rfl,rfl,rfl⟩ fun hcl hbl=>?_
  (repeat' ((conv=>whnf);(first|(refine EqN.id ?_;first|(refine ze7 _ _ Cst.h Cst.h rfl ?_ ?_;· (repeat' (first|omega|refine And.intro ?_ ?_|exact zan (by omega)|exact zbd (by omega)|refine zb9 ?_ ?_|refine zbc ?_ ?_|refine zbj ?_ ?_|refine za2 ?_ ?_|refine zbk ?_|refine zbl ?_ ?_|refine zbm ?_|refine zan ?_|fail)))|refine zhc _ _ Cst.h Cst.h ?_|refine EqN.mk _ rfl ?_|fail)|refine SideN.mk (by omega) ?_|fail)));all_goals (conv=>whnf)
  exact EndN.det trivial (zab rfl)
def mkTm (i:Nat):Tm:=.mk false (mkB i) []
theorem zec (i:Nat):(mkTm i).cells=[.bool false,.str (mkB i),.sl none 0 []]:=by
 unfold mkTm
 rw [zbb]
 rfl
theorem markTerm_c (i:Nat) (hi:i<12) (H:Heap):VDet Tryz.prog 80 [.int .i64 1,.int .i64 (i:Nat)] H (.agg (mkTm i).cells):=by
 have h1:=fun H=>zfx i hi H
 rw [zec]
 generalize mkB i=s at *
 refine fdD Tryz.func80 ⟨rfl,rfl,rfl⟩ fun hcl hbl=>?_
 (repeat' ((conv=>whnf);(first|refine CallN.det _ (h1 _) ?_|fail)));conv=>whnf
 exact EndN.det (by simp [below,zae]) (by (repeat' (first|exact trivial|refine And.intro ?_ ?_|exact Wk.refl _|exact zdo|refine zdh ?_|fail));done)
def mkFo (i:Nat):Fo:=.mk 0 (mkB i) [] []
theorem zed (i:Nat):(mkFo i).cells=[.int .u8 0,.str (mkB i),.sl none 0 [],.sl none 0 []]:=by
 unfold mkFo
 rw [zaf]
 rfl
theorem markForm_c (i:Nat) (hi:i<12) (H:Heap):VDet Tryz.prog 71 [.int .i64 1,.int .i64 (i:Nat)] H (.agg (mkFo i).cells):=by
 have h1:=fun H=>zfx i hi H
 rw [zed]
 generalize mkB i=s at *
 refine fdD Tryz.func71 ⟨rfl,rfl,rfl⟩ fun hcl hbl=>?_
 (repeat' ((conv=>whnf);(first|refine CallN.det _ (h1 _) ?_|fail)));conv=>whnf
 exact EndN.det (by simp [below,zae]) (by (repeat' (first|exact trivial|refine And.intro ?_ ?_|exact Wk.refl _|exact zdo|refine zdh ?_|fail));done)
def mksT (i:Nat):List AV:=(List.range i).flatMap fun j=>(mkTm j).cells
def mksF (i:Nat):List AV:=(List.range i).flatMap fun j=>(mkFo j).cells
theorem mksT_succ (i:Nat):mksT (i+1)=mksT i++(mkTm i).cells:=by
 unfold mksT
 rw [List.range_succ,List.flatMap_append]
 simp
theorem mksF_succ (i:Nat):mksF (i+1)=mksF i++(mkFo i).cells:=by
 unfold mksF
 rw [List.range_succ,List.flatMap_append]
 simp
theorem zck (n:Nat):∀ i,zae n (mksT i)
 | 0=>trivial
 | i+1=>by rw [mksT_succ,zec];exact (zaq _ _).2 ⟨zck n i,by simp [below,zae]⟩
theorem zc7 (n:Nat):∀ i,zae n (mksF i)
 | 0=>trivial
 | i+1=>by rw [mksF_succ,zed];exact (zaq _ _).2 ⟨zc7 n i,by simp [below,zae]⟩
mutual
def lnT:Tm→List AV
 | .mk v s l=>[.bool v,.str s,.sk l.length (l.length+12) (lnTs l++mksT 12)]
def lnTs:List Tm→List AV
 | []=>[]
 | x::l=>lnT x++lnTs l
end
theorem lnT_mk (v:Bool) (s:ByteArray) (l:List Tm):lnT (.mk v s l)=[.bool v,.str s,.sk l.length (l.length+12) (lnTs l++mksT 12)]:=by rw [lnT.eq_def]
theorem lnTs_nil:lnTs []=[]:=by rw [lnTs.eq_def]
theorem lnTs_cons (x:Tm) (l:List Tm):lnTs (x::l)=lnT x++lnTs l:=by rw [lnTs.eq_def]
theorem lnTs_flat:∀ l:List Tm,lnTs l=l.flatMap lnT
 | []=>lnTs_nil
 | x::l=>by rw [lnTs_cons,lnTs_flat l,List.flatMap_cons]
theorem lnT_len (x:Tm):(lnT x).length=3:=by
 cases x
 rw [lnT_mk]
 rfl
mutual
theorem lnT_below (n:Nat):∀ x:Tm,zae n (lnT x)
 | .mk v s l=>by
   rw [lnT_mk]
   exact ⟨trivial,trivial,(zaq _ _).2 ⟨zcl n l,zck n 12⟩,trivial⟩
theorem zcl (n:Nat):∀ l:List Tm,zae n (lnTs l)
 | []=>by rw [lnTs_nil];exact trivial
 | x::l=>by rw [lnTs_cons];exact (zaq _ _).2 ⟨lnT_below n x,zcl n l⟩
end
mutual
def lnF:Fo→List AV
 | .mk op s l m=>[.int .u8 op,.str s,.sk l.length (l.length+12) (lnTs l++mksT 12),.sk m.length (m.length+12) (lnFs m++mksF 12)]
def lnFs:List Fo→List AV
 | []=>[]
 | x::l=>lnF x++lnFs l
end
theorem lnF_mk (op:Nat) (s:ByteArray) (l:List Tm) (m:List Fo):lnF (.mk op s l m)=[.int .u8 op,.str s,.sk l.length (l.length+12) (lnTs l++mksT 12),.sk m.length (m.length+12) (lnFs m++mksF 12)]:=by rw [lnF.eq_def]
theorem lnFs_nil:lnFs []=[]:=by rw [lnFs.eq_def]
theorem lnFs_cons (x:Fo) (l:List Fo):lnFs (x::l)=lnF x++lnFs l:=by rw [lnFs.eq_def]
theorem lnFs_flat:∀ l:List Fo,lnFs l=l.flatMap lnF
 | []=>lnFs_nil
 | x::l=>by rw [lnFs_cons,lnFs_flat l,List.flatMap_cons]
theorem lnF_len (x:Fo):(lnF x).length=4:=by
 cases x
 rw [lnF_mk]
 rfl
mutual
theorem lnF_below (n:Nat):∀ x:Fo,zae n (lnF x)
 | .mk op s l m=>by
   rw [lnF_mk]
   exact ⟨trivial,trivial,(zaq _ _).2 ⟨zcl n l,zck n 12⟩,(zaq _ _).2 ⟨zc8 n m,zc7 n 12⟩,trivial⟩
theorem zc8 (n:Nat):∀ l:List Fo,zae n (lnFs l)
 | []=>by rw [lnFs_nil];exact trivial
 | x::l=>by rw [lnFs_cons];exact (zaq _ _).2 ⟨lnF_below n x,zc8 n l⟩
end
theorem wk_skL {n m:Nat} {l l' r:List AV} (h:WkL l l'):Wk (.sk n m (l++r)) (.sl none n l'):=Wk.trans (wk_sk n m l r) (wk_slL h)
mutual
theorem lnT_wk:∀ x:Tm,WkL (lnT x) x.cells
 | .mk v s l=>by
   rw [lnT_mk,zbb]
   exact ⟨Wk.refl _,Wk.refl _,wk_skL (lnTs_wk l),trivial⟩
theorem lnTs_wk:∀ l:List Tm,WkL (lnTs l) (l.flatMap Tm.cells)
 | []=>by rw [lnTs_nil];exact trivial
 | x::l=>by rw [lnTs_cons,List.flatMap_cons];exact WkL.app (lnT_wk x) (lnTs_wk l)
end
mutual
theorem zgx:∀ x:Fo,WkL (lnF x) x.cells
 | .mk op s l m=>by
   rw [lnF_mk,zaf]
   exact ⟨Wk.refl _,Wk.refl _,wk_skL (lnTs_wk l),wk_skL (lnFs_wk m),trivial⟩
theorem lnFs_wk:∀ l:List Fo,WkL (lnFs l) (l.flatMap Fo.cells)
 | []=>by rw [lnFs_nil];exact trivial
 | x::l=>by rw [lnFs_cons,List.flatMap_cons];exact WkL.app (zgx x) (lnFs_wk l)
end
theorem lnTm_ex (x:Tm):∃ v s a,x.cells=[.bool v,.str s,.sl none a.length (a.flatMap Tm.cells)]∧lnT x=[.bool v,.str s,.sk a.length (a.length+12) (lnTs a++mksT 12)]:=by
 obtain ⟨v,s,a⟩:=x
 exact ⟨v,s,a,zbb v s a,lnT_mk v s a⟩
theorem zee (n:Nat) (l:List Tm):zae n (l.flatMap lnT):=zgj l fun x=>lnT_below n x
theorem zef (n:Nat) (l:List Fo):zae n (l.flatMap lnF):=zgj l fun x=>lnF_below n x
def appC (m:Nat→List AV) (C:List AV):Nat→List AV
 | 0=>C
 | j+1=>appC m C j++m j
theorem appC_T (C:List AV):∀ j,appC (fun i=>(mkTm i).cells) C j=C++mksT j
 | 0=>(List.append_nil C).symm
 | j+1=>by rw [appC,appC_T C j,mksT_succ,List.append_assoc]
theorem appC_F (C:List AV):∀ j,appC (fun i=>(mkFo i).cells) C j=C++mksF j
 | 0=>(List.append_nil C).symm
 | j+1=>by rw [appC,appC_F C j,mksF_succ,List.append_assoc]
theorem zel (n:Nat) {m:Nat→List AV} {C:List AV} (hm:∀ i,zae n (m i)) (hC:zae n C):∀ j,zae n (appC m C j)
 | 0=>hC
 | j+1=>(zaq _ _).2 ⟨zel n hm hC j,hm j⟩
theorem appC_len {m:Nat→List AV} {C:List AV} {a sz:Nat} (hm:∀ i,(m i).length=sz) (hC:C.length=a * sz):∀ j,(appC m C j).length=(a+j) * sz
 | 0=>hC
 | j+1=>by rw [appC,List.length_append,appC_len hm hC j,hm,← Nat.succ_mul];rfl
theorem mkTm_below (n i:Nat):zae n (mkTm i).cells:=by rw [zec];simp [below,zae]
theorem mkFo_below (n i:Nat):zae n (mkFo i).cells:=by rw [zed];simp [below,zae]
def LnTP (x:Tm):Prop:=∀ H,VDet Tryz.prog 79 [.agg x.cells] H (.agg (lnT x))
theorem lentTerms_c (l:List Tm) (hl:l.length≤1000) (h:∀ x∈l,LnTP x) (H:Heap):VDet Tryz.prog 52 [.sl none l.length (l.flatMap Tm.cells)] H (.sk l.length (l.length+12) (lnTs l++mksT 12)):=by
 have hEb:=True.intro
 rw [lnTs_flat]
 refine fdD Tryz.func52 ⟨rfl,rfl,rfl⟩ fun hcl hbl=>?_
 (repeat' ((conv=>whnf);(first|(refine OrN.natR ?_;refine NatN.mk (l.length+12) (by omega) ?_;refine SideN.mk ⟨rfl,by omega,by dsimp only;omega⟩ (OrN.l ?_))|refine EqN.i64 (by omega) ?_|fail)));conv=>whnf
 refine zau Tryz.E0 zak (σ:=Nat) (fun i=>i≤l.length) (fun i=>l.length-i) (fun i=>[(3,.v (.sl (some (H.length+0)) i ((l.take i).flatMap lnT))),(4,.v (.int .i64 i))]) (fun i=>[.tok 115 3 ((l.take i).flatMap lnT).length]) _ 0 rfl hcl [0] rfl (Nat.zero_le _) ⟨⟨_,rfl,Wk.refl _⟩,⟨_,rfl,Wk.refl _⟩,trivial⟩ rfl (fun _ _=>rfl) ?_
 intro i hi
 rcases Nat.lt_or_ge i l.length with hlt|hge
 ·have hx:=h _ (zam l i tm0 hlt)
  obtain ⟨v,s,a,q1,q2⟩:=lnTm_ex (l.getD i tm0)
  unfold LnTP at hx
  rw [q1,q2] at hx
  have hns:(l.take (i+1)).flatMap lnT=(l.take i).flatMap lnT++[.bool v,.str s,.sk a.length (a.length+12) (lnTs a++mksT 12)]:=by
   rw [zd8 l tm0 i hlt,List.flatMap_append,List.flatMap_cons,List.flatMap_nil,List.append_nil,q2]
  have hml:((l.take i).flatMap lnT).length=i * 3:=by
   rw [zb5 (f:=lnT) (sz:=3) lnT_len,List.length_take,Nat.min_eq_left (by omega)]
  (repeat' ((conv=>whnf);(first|refine IfN.dT (by omega) ?_|(refine zad _ _ Cst.h Cst.h ?_ ?_;· omega)|(refine SideN.mk ?_ ?_;· first|omega|exact List.cons_ne_nil _ _|fail)|refine CallN.det _ (hx _) ?_|refine zah tm0 i rfl (by omega) zcb q1 ?_|refine SideN.mk ⟨rfl,rfl,rfl,by dsimp only;omega,by simp only [maxLen];omega⟩ ?_|refine PtrN.loc _ rfl ?_|fail)));conv=>whnf
  rw [← hns]
  (refine ⟨⟨i+1,by show i+1≤_;omega,by omega,?_,.inl ⟨rfl,rfl⟩,rfl,_,rfl,?_⟩⟩;rotate_left 1;exact .inr ⟨by simp [zc3,below,zae,tr,zaz,zar,zck,zc7,zcl,zc8,zee,zef,hEb],by simp [zdw,Blk.below,zae,below,zaz,zar,zck,zc7,zcl,zc8,zee,zef,hEb]⟩;exact ⟨⟨_,rfl,Wk.refl _⟩,⟨_,rfl,Wk.refl _⟩,trivial⟩)
 ·have hie:i=l.length:=by omega
  subst hie
  rw [List.take_length]
  have hml:(l.flatMap lnT).length=l.length * 3:=zb5 (f:=lnT) (sz:=3) lnT_len l
  have hCb:=fun n=>zee n l
  rw [← appC_T]
  generalize l.flatMap lnT=C at *
  (repeat' ((conv=>whnf);(first|refine zaj (by omega) ?_|fail)));conv=>whnf
  refine zau Tryz.E0 zak (σ:=Nat) (fun j=>j≤12) (fun j=>12-j) (fun j=>[(3,.v (.sl (some (H.length+0)) (l.length+j) (appC (fun i=>(mkTm i).cells) C j))),(6,.v (.int .i64 j))]) (fun j=>[.tok 115 3 (appC (fun i=>(mkTm i).cells) C j).length]) _ 0 rfl hcl [0] rfl (Nat.zero_le _) ⟨⟨_,rfl,Wk.refl _⟩,⟨_,rfl,Wk.refl _⟩,trivial⟩ rfl (fun _ _=>rfl) ?_
  intro j hj
  have hDl:=appC_len (m:=fun i=>(mkTm i).cells) (fun i=>zcb _) hml j
  have hDb:=fun n=>zel n (m:=fun i=>(mkTm i).cells) (fun i=>mkTm_below n i) (hCb n) j
  rcases Nat.lt_or_ge j 12 with hlt|hge
  ·have hm:=fun H=>markTerm_c j hlt H
   have hns:appC (fun i=>(mkTm i).cells) C (j+1)=appC (fun i=>(mkTm i).cells) C j++(mkTm j).cells:=rfl
   clear hEb
   have hEb:=fun n=>zel n (m:=fun i=>(mkTm i).cells) (fun i=>mkTm_below n i) (hCb n) (j+1)
   rw [zec] at hm hns
   generalize appC (fun i=>(mkTm i).cells) C j=D at *
   (repeat' ((conv=>whnf);(first|refine IfN.dT (by omega) ?_|(refine zad _ _ Cst.h Cst.h ?_ ?_;· omega)|refine CallN.det _ (hm _) ?_|refine SideN.mk ⟨rfl,rfl,rfl,by dsimp only;omega,by simp only [maxLen];omega⟩ ?_|refine PtrN.loc _ rfl ?_|fail)));conv=>whnf
   rw [← hns]
   (refine ⟨⟨j+1,by show j+1≤_;omega,by omega,?_,.inl ⟨rfl,rfl⟩,rfl,_,rfl,?_⟩⟩;rotate_left 1;exact .inl rfl;exact ⟨⟨_,rfl,Wk.refl _⟩,⟨_,rfl,Wk.refl _⟩,trivial⟩)
  ·have hje:j=12:=by omega
   subst hje
   (repeat' ((conv=>whnf);(first|(refine OrN.r ?_;(conv=>whnf);refine NatN.mk l.length rfl ?_;(conv=>whnf);refine SideN.mk (by omega) ?_)|refine IfN.ff rfl ?_|fail)));conv=>whnf
   exact eT (by simp [below,zae,hDb])
mutual
def smT:Tm→Prop
 | .mk _ _ l=>l.length≤1000∧smTs l
def smTs:List Tm→Prop
 | []=>True
 | x::l=>smT x∧smTs l
end
mutual
def smF:Fo→Prop
 | .mk op _ l m=>op≤255∧(l.length≤1000∧smTs l)∧(m.length≤1000∧smFs m)
def smFs:List Fo→Prop
 | []=>True
 | x::l=>smF x∧smFs l
end
theorem lentT_step (v:Bool) (s:ByteArray) (l:List Tm) (hl:l.length≤1000) (h:∀ x∈l,LnTP x):LnTP (.mk v s l):=by
 intro H
 have h1:=fun H=>lentTerms_c l hl h H
 have hC:=fun n=>(zaq _ _).2 ⟨zcl n l,zck n 12⟩
 rw [zbb,lnT_mk]
 generalize lnTs l++mksT 12=C at *
 generalize l.flatMap Tm.cells=c at *
 refine fdD Tryz.func79 ⟨rfl,rfl,rfl⟩ fun hcl hbl=>?_
 (repeat' ((conv=>whnf);(first|refine CallN.det _ (h1 _) ?_|fail)));conv=>whnf
 exact eT (by simp [below,zae,hC])
mutual
theorem lentT_g:∀ x:Tm,smT x→LnTP x
 | .mk v s l,h=>by
   unfold smT at h
   exact lentT_step v s l h.1 (lentTs_g l h.2)
theorem lentTs_g:∀ l:List Tm,smTs l→∀ x∈l,LnTP x
 | [],_,x,hx=>by cases hx
 | y::l,h,x,hx=>by
   unfold smTs at h
   rcases List.mem_cons.1 hx with e|hx
   ·rw [e]
    exact lentT_g y h.1
   ·exact lentTs_g l h.2 x hx
end
theorem lnFo_ex (x:Fo):∃ o s a b,x.cells=[.int .u8 (o:Nat),.str s,.sl none a.length (a.flatMap Tm.cells),.sl none b.length (b.flatMap Fo.cells)]∧lnF x=[.int .u8 (o:Nat),.str s,.sk a.length (a.length+12) (lnTs a++mksT 12),.sk b.length (b.length+12) (lnFs b++mksF 12)]:=by
 obtain ⟨o,s,a,b⟩:=x
 exact ⟨o,s,a,b,zaf o s a b,lnF_mk o s a b⟩
def LnFP (x:Fo):Prop:=∀ H,VDet Tryz.prog 17 [.agg x.cells] H (.agg (lnF x))
theorem lentForms_c (l:List Fo) (hl:l.length≤1000) (h:∀ x∈l,LnFP x) (H:Heap):VDet Tryz.prog 37 [.sl none l.length (l.flatMap Fo.cells)] H (.sk l.length (l.length+12) (lnFs l++mksF 12)):=by
 have hEb:=True.intro
 rw [lnFs_flat]
 refine fdD Tryz.func37 ⟨rfl,rfl,rfl⟩ fun hcl hbl=>?_
 (repeat' ((conv=>whnf);(first|(refine OrN.natR ?_;refine NatN.mk (l.length+12) (by omega) ?_;refine SideN.mk ⟨rfl,by omega,by dsimp only;omega⟩ (OrN.l ?_))|refine EqN.i64 (by omega) ?_|fail)));conv=>whnf
 refine zau Tryz.E0 zak (σ:=Nat) (fun i=>i≤l.length) (fun i=>l.length-i) (fun i=>[(3,.v (.sl (some (H.length+0)) i ((l.take i).flatMap lnF))),(4,.v (.int .i64 i))]) (fun i=>[.tok 40 4 ((l.take i).flatMap lnF).length]) _ 0 rfl hcl [0] rfl (Nat.zero_le _) ⟨⟨_,rfl,Wk.refl _⟩,⟨_,rfl,Wk.refl _⟩,trivial⟩ rfl (fun _ _=>rfl) ?_
 intro i hi
 rcases Nat.lt_or_ge i l.length with hlt|hge
 ·have hx:=h _ (zam l i fo0 hlt)
  obtain ⟨o,s,a,b,q1,q2⟩:=lnFo_ex (l.getD i fo0)
  unfold LnFP at hx
  rw [q1,q2] at hx
  have hns:(l.take (i+1)).flatMap lnF=(l.take i).flatMap lnF++[.int .u8 (o:Nat),.str s,.sk a.length (a.length+12) (lnTs a++mksT 12),.sk b.length (b.length+12) (lnFs b++mksF 12)]:=by
   rw [zd8 l fo0 i hlt,List.flatMap_append,List.flatMap_cons,List.flatMap_nil,List.append_nil,q2]
  have hml:((l.take i).flatMap lnF).length=i * 4:=by
   rw [zb5 (f:=lnF) (sz:=4) lnF_len,List.length_take,Nat.min_eq_left (by omega)]
  (repeat' ((conv=>whnf);(first|refine IfN.dT (by omega) ?_|(refine zad _ _ Cst.h Cst.h ?_ ?_;· omega)|(refine SideN.mk ?_ ?_;· first|omega|exact List.cons_ne_nil _ _|fail)|refine CallN.det _ (hx _) ?_|refine zah fo0 i rfl (by omega) za1 q1 ?_|refine SideN.mk ⟨rfl,rfl,rfl,by dsimp only;omega,by simp only [maxLen];omega⟩ ?_|refine PtrN.loc _ rfl ?_|fail)));conv=>whnf
  rw [← hns]
  (refine ⟨⟨i+1,by show i+1≤_;omega,by omega,?_,.inl ⟨rfl,rfl⟩,rfl,_,rfl,?_⟩⟩;rotate_left 1;exact .inr ⟨by simp [zc3,below,zae,tr,zaz,zar,zck,zc7,zcl,zc8,zee,zef,hEb],by simp [zdw,Blk.below,zae,below,zaz,zar,zck,zc7,zcl,zc8,zee,zef,hEb]⟩;exact ⟨⟨_,rfl,Wk.refl _⟩,⟨_,rfl,Wk.refl _⟩,trivial⟩)
 ·have hie:i=l.length:=by omega
  subst hie
  rw [List.take_length]
  have hml:(l.flatMap lnF).length=l.length * 4:=zb5 (f:=lnF) (sz:=4) lnF_len l
  have hCb:=fun n=>zef n l
  rw [← appC_F]
  generalize l.flatMap lnF=C at *
  (repeat' ((conv=>whnf);(first|refine zaj (by omega) ?_|fail)));conv=>whnf
  refine zau Tryz.E0 zak (σ:=Nat) (fun j=>j≤12) (fun j=>12-j) (fun j=>[(3,.v (.sl (some (H.length+0)) (l.length+j) (appC (fun i=>(mkFo i).cells) C j))),(6,.v (.int .i64 j))]) (fun j=>[.tok 40 4 (appC (fun i=>(mkFo i).cells) C j).length]) _ 0 rfl hcl [0] rfl (Nat.zero_le _) ⟨⟨_,rfl,Wk.refl _⟩,⟨_,rfl,Wk.refl _⟩,trivial⟩ rfl (fun _ _=>rfl) ?_
  intro j hj
  have hDl:=appC_len (m:=fun i=>(mkFo i).cells) (fun i=>za1 _) hml j
  have hDb:=fun n=>zel n (m:=fun i=>(mkFo i).cells) (fun i=>mkFo_below n i) (hCb n) j
  rcases Nat.lt_or_ge j 12 with hlt|hge
  ·have hm:=fun H=>markForm_c j hlt H
   have hns:appC (fun i=>(mkFo i).cells) C (j+1)=appC (fun i=>(mkFo i).cells) C j++(mkFo j).cells:=rfl
   clear hEb
   have hEb:=fun n=>zel n (m:=fun i=>(mkFo i).cells) (fun i=>mkFo_below n i) (hCb n) (j+1)
   rw [zed] at hm hns
   generalize appC (fun i=>(mkFo i).cells) C j=D at *
   (repeat' ((conv=>whnf);(first|refine IfN.dT (by omega) ?_|(refine zad _ _ Cst.h Cst.h ?_ ?_;· omega)|refine CallN.det _ (hm _) ?_|refine SideN.mk ⟨rfl,rfl,rfl,by dsimp only;omega,by simp only [maxLen];omega⟩ ?_|refine PtrN.loc _ rfl ?_|fail)));conv=>whnf
   rw [← hns]
   (refine ⟨⟨j+1,by show j+1≤_;omega,by omega,?_,.inl ⟨rfl,rfl⟩,rfl,_,rfl,?_⟩⟩;rotate_left 1;exact .inl rfl;exact ⟨⟨_,rfl,Wk.refl _⟩,⟨_,rfl,Wk.refl _⟩,trivial⟩)
  ·have hje:j=12:=by omega
   subst hje
   (repeat' ((conv=>whnf);(first|(refine OrN.r ?_;(conv=>whnf);refine NatN.mk l.length rfl ?_;(conv=>whnf);refine SideN.mk (by omega) ?_)|refine IfN.ff rfl ?_|fail)));conv=>whnf
   exact eT (by simp [below,zae,hDb])
theorem lentF_step (op:Nat) (hop:op≤255) (s:ByteArray) (l:List Tm) (m:List Fo) (hl:l.length≤1000) (hlt:∀ x∈l,LnTP x) (hm:m.length≤1000) (h:∀ x∈m,LnFP x):LnFP (.mk op s l m):=by
 intro H
 have h1:=fun H=>lentTerms_c l hl hlt H
 have h2:=fun H=>lentForms_c m hm h H
 have hC:=fun n=>(zaq _ _).2 ⟨zcl n l,zck n 12⟩
 have hD:=fun n=>(zaq _ _).2 ⟨zc8 n m,zc7 n 12⟩
 rw [zaf,lnF_mk]
 generalize lnTs l++mksT 12=C at *
 generalize lnFs m++mksF 12=D at *
 generalize l.flatMap Tm.cells=c at *
 generalize m.flatMap Fo.cells=d at *
 refine fdD Tryz.func17 ⟨rfl,rfl,rfl⟩ fun hcl hbl=>?_
 (repeat' ((conv=>whnf);(first|(refine CallN.id ?_;first|refine CallN.det _ (h1 _) ?_|refine CallN.det _ (h2 _) ?_|fail)|fail)));conv=>whnf
 exact eT (by simp [below,zae,hC,hD])
mutual
theorem lentF_g:∀ x:Fo,smF x→LnFP x
 | .mk op s l m,h=>by
   unfold smF at h
   exact lentF_step op h.1 s l m h.2.1.1 (lentTs_g l h.2.1.2) h.2.2.1 (lentFs_g m h.2.2.2)
theorem lentFs_g:∀ l:List Fo,smFs l→∀ x∈l,LnFP x
 | [],_,x,hx=>by cases hx
 | y::l,h,x,hx=>by
   unfold smFs at h
   rcases List.mem_cons.1 hx with e|hx
   ·rw [e]
    exact lentF_g y h.1
   ·exact lentFs_g l h.2 x hx
end
theorem sb3 (u:ByteArray) (v z:Int):(u.toList==u.toList&&(v==v&&(z==z&&true)))=true:=by simp
def SmTP (x:Tm):Prop:=∀ H,VDet Tryz.prog 86 [.agg x.cells,.agg x.cells] H (.bool true)
def SmFP (x:Fo):Prop:=∀ H,VDet Tryz.prog 60 [.agg x.cells,.agg x.cells] H (.bool true)
theorem sameTerms_c (l:List Tm) (hl:l.length≤1000000) (h:∀ x∈l,SmTP x) (H:Heap):VDet Tryz.prog 84 [.sl none l.length (l.flatMap Tm.cells),.sl none l.length (l.flatMap Tm.cells)] H (.bool true):=by
 refine fdD Tryz.func84 ⟨rfl,rfl,rfl⟩ fun hcl hbl=>?_
 (repeat' ((conv=>whnf);(first|(refine IfN.id ?_;first|refine IfN.not ?_|refine IfN.dT (by omega) ?_|fail)|fail)));conv=>whnf
 refine zau Tryz.E0 zak (σ:=Nat) (fun j=>j≤l.length) (fun j=>l.length-j) (fun j=>[(5,.v (.int .i64 j))]) (fun _=>_) _ 0 rfl hcl [0,1] rfl (Nat.zero_le _) ⟨⟨_,rfl,Wk.refl _⟩,trivial⟩ rfl (fun _ _=>rfl) ?_
 intro j hj
 rcases Nat.lt_or_ge j l.length with hlt|hge
 ·have hx:=h _ (zam l j tm0 hlt)
  obtain ⟨v,s,a,q1,-⟩:=lnTm_ex (l.getD j tm0)
  unfold SmTP at hx
  rw [q1] at hx
  (repeat' ((conv=>whnf);(first|(refine IfN.id ?_;first|refine IfN.not ?_|refine IfN.tt rfl ?_|refine IfN.dT (by omega) ?_|fail)|(refine zad _ _ Cst.h Cst.h ?_ ?_;· omega)|(refine SideN.mk ?_ ?_;· first|kernel_rfl|omega|exact List.cons_ne_nil _ _|fail)|refine CallD.det _ (fun _ hq X=>hx _) ?_|refine zah tm0 j rfl (by omega) zcb q1 ?_|refine zap [] ?_|fail)));conv=>whnf
  (refine ⟨⟨j+1,by show j+1≤_;omega,by omega,?_,.inl ⟨rfl,rfl⟩,rfl,_,rfl,?_⟩⟩;rotate_left 1;exact .inl rfl;exact ⟨⟨_,rfl,Wk.refl _⟩,trivial⟩)
 ·have hje:j=l.length:=by omega
  subst hje
  (repeat' ((conv=>whnf);(first|refine zaj (by omega) ?_|fail)));conv=>whnf
  exact eT trivial
theorem sameT_step (v:Bool) (s:ByteArray) (l:List Tm) (hl:l.length≤1000) (h:∀ x∈l,SmTP x):SmTP (.mk v s l):=by
 intro H
 have h1:=fun H=>sameTerms_c l (by omega) h H
 rw [zbb]
 generalize l.flatMap Tm.cells=c at *
 refine fdD Tryz.func86 ⟨rfl,rfl,rfl⟩ fun hcl hbl=>?_
 (repeat' ((conv=>whnf);(first|refine IfN.tt (beq_self_eq_true _) ?_|refine CallN.det _ (h1 _) ?_|fail)));conv=>whnf
 exact eT trivial
mutual
theorem sameT_g:∀ x:Tm,smT x→SmTP x
 | .mk v s l,h=>by
   unfold smT at h
   exact sameT_step v s l h.1 (sameTs_g l h.2)
theorem sameTs_g:∀ l:List Tm,smTs l→∀ x∈l,SmTP x
 | [],_,x,hx=>by cases hx
 | y::l,h,x,hx=>by
   unfold smTs at h
   rcases List.mem_cons.1 hx with e|hx
   ·rw [e]
    exact sameT_g y h.1
   ·exact sameTs_g l h.2 x hx
end
theorem sameForms_c (l:List Fo) (hl:l.length≤1000000) (h:∀ x∈l,SmFP x) (H:Heap):VDet Tryz.prog 78 [.sl none l.length (l.flatMap Fo.cells),.sl none l.length (l.flatMap Fo.cells)] H (.bool true):=by
 refine fdD Tryz.func78 ⟨rfl,rfl,rfl⟩ fun hcl hbl=>?_
 (repeat' ((conv=>whnf);(first|(refine IfN.id ?_;first|refine IfN.not ?_|refine IfN.dT (by omega) ?_|fail)|fail)));conv=>whnf
 refine zau Tryz.E0 zak (σ:=Nat) (fun j=>j≤l.length) (fun j=>l.length-j) (fun j=>[(5,.v (.int .i64 j))]) (fun _=>_) _ 0 rfl hcl [0,1] rfl (Nat.zero_le _) ⟨⟨_,rfl,Wk.refl _⟩,trivial⟩ rfl (fun _ _=>rfl) ?_
 intro j hj
 rcases Nat.lt_or_ge j l.length with hlt|hge
 ·have hx:=h _ (zam l j fo0 hlt)
  obtain ⟨o,s,a,b,q1,-⟩:=lnFo_ex (l.getD j fo0)
  unfold SmFP at hx
  rw [q1] at hx
  (repeat' ((conv=>whnf);(first|(refine IfN.id ?_;first|refine IfN.not ?_|refine IfN.tt rfl ?_|refine IfN.dT (by omega) ?_|fail)|(refine zad _ _ Cst.h Cst.h ?_ ?_;· omega)|(refine SideN.mk ?_ ?_;· first|kernel_rfl|omega|exact List.cons_ne_nil _ _|fail)|refine CallD.det _ (fun _ hq X=>hx _) ?_|refine zah fo0 j rfl (by omega) za1 q1 ?_|refine zap [] ?_|fail)));conv=>whnf
  (refine ⟨⟨j+1,by show j+1≤_;omega,by omega,?_,.inl ⟨rfl,rfl⟩,rfl,_,rfl,?_⟩⟩;rotate_left 1;exact .inl rfl;exact ⟨⟨_,rfl,Wk.refl _⟩,trivial⟩)
 ·have hje:j=l.length:=by omega
  subst hje
  (repeat' ((conv=>whnf);(first|refine zaj (by omega) ?_|fail)));conv=>whnf
  exact eT trivial
theorem sameF_step (op:Nat) (s:ByteArray) (l:List Tm) (m:List Fo) (hl:l.length≤1000) (hlt:∀ x∈l,SmTP x) (hm:m.length≤1000) (h:∀ x∈m,SmFP x):SmFP (.mk op s l m):=by
 intro H
 have h1:=fun H=>sameTerms_c l (by omega) hlt H
 have h2:=fun H=>sameForms_c m (by omega) h H
 rw [zaf]
 generalize l.flatMap Tm.cells=c at *
 generalize m.flatMap Fo.cells=d at *
 refine fdD Tryz.func60 ⟨rfl,rfl,rfl⟩ fun hcl hbl=>?_
 (repeat' ((conv=>whnf);(first|(refine IfN.id ?_;first|refine IfN.tt (beq_self_eq_true _) ?_|refine IfN.tt rfl ?_|fail)|(refine CallN.id ?_;first|refine CallN.det _ (h1 _) ?_|refine CallN.det _ (h2 _) ?_|fail)|fail)));conv=>whnf
 exact eT trivial
mutual
theorem sameF_g:∀ x:Fo,smF x→SmFP x
 | .mk op s l m,h=>by
   unfold smF at h
   exact sameF_step op s l m h.2.1.1 (sameTs_g l h.2.1.2) h.2.2.1 (sameFs_g m h.2.2.2)
theorem sameFs_g:∀ l:List Fo,smFs l→∀ x∈l,SmFP x
 | [],_,x,hx=>by cases hx
 | y::l,h,x,hx=>by
   unfold smFs at h
   rcases List.mem_cons.1 hx with e|hx
   ·rw [e]
    exact sameF_g y h.1
   ·exact sameFs_g l h.2 x hx
end
theorem smT_mk0 (i:Nat):smT (mkTm i):=by
 unfold mkTm smT smTs
 exact ⟨Nat.zero_le _,trivial⟩
theorem smF_mk0 (i:Nat):smF (mkFo i):=by
 unfold mkFo smF smTs smFs
 exact ⟨Nat.zero_le _,⟨Nat.zero_le _,trivial⟩,⟨Nat.zero_le _,trivial⟩⟩
theorem EqN.subL {k:Int→Prop} {n i:Nat} (h:i≤12) (a:k i):EqN (IntKind.i64.wrap (((n+i:Nat):Int)-(n:Int))) k:=by
 refine EqN.i64 (by omega) ?_
 rw [show ((n+i:Nat):Int)-(n:Int)=i by omega]
 exact a
def lnA {α:Type} (f:α→List AV) (g:Nat→List AV):α ⊕ Nat→List AV
 | .inl x=>f x
 | .inr i=>g i
def lnAl {α:Type} (l:List α):List (α ⊕ Nat):=l.map .inl++(List.range 12).map .inr
theorem lnA_flat {α:Type} (f:α→List AV) (g:Nat→List AV) (l:List α):l.flatMap f++(List.range 12).flatMap g=(lnAl l).flatMap (lnA f g):=by
 unfold lnAl
 rw [List.flatMap_append,List.flatMap_map,List.flatMap_map]
 rfl
theorem lnA_g1 {α:Type} (d:α ⊕ Nat) (d0:α) (l:List α) (j:Nat) (h:j<l.length):(lnAl l).getD j d=.inl (l.getD j d0):=by
 unfold lnAl
 rw [List.getD_eq_getElem?_getD,List.getElem?_append_left (by rw [List.length_map];exact h),List.getElem?_map,List.getD_eq_getElem?_getD,List.getElem?_eq_getElem h]
 rfl
theorem lnA_g2 {α:Type} (d:α ⊕ Nat) (l:List α) (i:Nat) (h:i<12):(lnAl l).getD (l.length+i) d=.inr i:=by
 unfold lnAl
 rw [List.getD_eq_getElem?_getD,List.getElem?_append_right (by rw [List.length_map];omega),List.length_map,Nat.add_sub_cancel_left,List.getElem?_map,List.getElem?_range h]
 rfl
theorem lnA_len {α:Type} (l:List α):(lnAl l).length=l.length+12:=by simp [lnAl]
theorem lnA_size {α:Type} {f:α→List AV} {g:Nat→List AV} {sz:Nat} (hf:∀ x,(f x).length=sz) (hg:∀ i,(g i).length=sz):∀ x,(lnA f g x).length=sz
 | .inl x=>hf x
 | .inr i=>hg i
def KpTP (x:Tm):Prop:=∀ H,VDet Tryz.prog 85 [.agg (lnT x),.agg x.cells] H (.bool true)
def KpFP (x:Fo):Prop:=∀ H,VDet Tryz.prog 24 [.agg (lnF x),.agg x.cells] H (.bool true)
theorem keptTerms_c (l:List Tm) (hl:l.length≤1000000) (h:∀ x∈l,KpTP x) (H:Heap):VDet Tryz.prog 61 [.sk l.length (l.length+12) (lnTs l++mksT 12),.sl none l.length (l.flatMap Tm.cells)] H (.bool true):=by
 rw [lnTs_flat,show mksT 12=(List.range 12).flatMap (fun i=>(mkTm i).cells) from rfl,lnA_flat]
 have g1:=fun j h=>lnA_g1 (.inr 0) (tm0:Tm) l j h
 have g2:=fun i h=>lnA_g2 (.inr 0) l i h
 have gl:=lnA_len l
 have hsz:=lnA_size (f:=lnT) (g:=(fun i=>(mkTm i).cells)) (lnT_len) (fun i=>zcb _)
 have hl1:∀ x,lnA lnT (fun i=>(mkTm i).cells) (.inl x)=lnT x:=fun _=>rfl
 have hl2:∀ i,lnA lnT (fun i=>(mkTm i).cells) (.inr i)=(fun i=>(mkTm i).cells) i:=fun _=>rfl
 generalize lnAl l=A at *
 generalize lnA lnT (fun i=>(mkTm i).cells)=LF at *
 refine fdD Tryz.func61 ⟨rfl,rfl,rfl⟩ fun hcl hbl=>?_
 (repeat' ((conv=>whnf);(first|(refine OrN.r ?_;(conv=>whnf);refine NatN.mk (l.length+12) (by omega) ?_;(conv=>whnf);refine SideN.mk (by omega) ?_)|(refine IfN.id ?_;first|refine IfN.not ?_|refine IfN.dT (by omega) ?_|fail)|refine EqN.i64 (by omega) ?_|fail)));conv=>whnf
 refine zau Tryz.E0 zak (σ:=Nat) (fun j=>j≤l.length+12) (fun j=>l.length+12-j) (fun j=>[(6,.v (.int .i64 j))]) (fun _=>_) _ 0 rfl hcl [1,5] rfl (Nat.zero_le _) ⟨⟨_,rfl,Wk.refl _⟩,trivial⟩ rfl (fun _ _=>rfl) ?_
 intro j hj
 rcases Nat.lt_or_ge j (l.length+12) with hlt|hge
 ·rcases Nat.lt_or_ge j l.length with h1|h1
  ·have e1:=g1 j h1
   have hx:=h _ (zam l j tm0 h1)
   obtain ⟨v,s,a,q1,q2⟩:=lnTm_ex (l.getD j tm0)
   have qA:=(hl1 (l.getD j tm0)).trans q2
   unfold KpTP at hx
   rw [q1,q2] at hx
   rw [← e1] at qA
   (repeat' ((conv=>whnf);(first|(refine IfN.id ?_;first|refine IfN.not ?_|refine IfN.tt rfl ?_|refine IfN.dT (by omega) ?_|refine zaj (by omega) ?_|fail)|(refine zad _ _ Cst.h Cst.h ?_ ?_;· omega)|(refine SideN.mk ?_ ?_;· first|kernel_rfl|omega|exact List.cons_ne_nil _ _|fail)|refine CallD.det _ (fun _ hq X=>hx _) ?_|refine zah (.inr 0) j rfl (by omega) hsz qA ?_|refine zah tm0 j rfl (by omega) zcb q1 ?_|refine zap [] ?_|fail)));conv=>whnf
   (refine ⟨⟨j+1,by show j+1≤_;omega,by omega,?_,.inl ⟨rfl,rfl⟩,rfl,_,rfl,?_⟩⟩;rotate_left 1;exact .inl rfl;exact ⟨⟨_,rfl,Wk.refl _⟩,trivial⟩)
  ·obtain ⟨i,rfl⟩:∃ i,j=l.length+i:=⟨j-l.length,by omega⟩
   have hi:i<12:=by omega
   have e1:=g2 i hi
   have hm:=fun H=>markTerm_c i hi H
   have hs:=sameT_g (mkTm i) (smT_mk0 i)
   have qA:=hl2 i
   simp only at qA
   unfold SmTP at hs
   rw [zec] at hm hs qA
   rw [← e1] at qA
   generalize mkB i=sj at *
   (repeat' ((conv=>whnf);(first|(refine IfN.id ?_;first|refine IfN.not ?_|refine IfN.tt rfl ?_|refine IfN.dT (by omega) ?_|refine zaj (by omega) ?_|fail)|(refine EqN.id ?_;first|refine EqN.subL (by omega) ?_|(refine zad _ _ Cst.h Cst.h ?_ ?_;· omega)|fail)|(refine SideN.mk ?_ ?_;· first|kernel_rfl|omega|exact List.cons_ne_nil _ _|fail)|(refine CallD.id ?_;first|refine CallD.det _ (fun _ hq X=>hm _) ?_|refine CallD.det _ (fun _ hq X=>hs _) ?_|fail)|refine zah (.inr 0) (l.length+i) rfl (by omega) hsz qA ?_|refine zap [] ?_|fail)));conv=>whnf
   (refine ⟨⟨l.length+i+1,by show l.length+i+1≤_;omega,by omega,?_,.inl ⟨rfl,rfl⟩,rfl,_,rfl,?_⟩⟩;rotate_left 1;exact .inl rfl;exact ⟨⟨_,rfl,Wk.refl _⟩,trivial⟩)
 ·have hje:j=l.length+12:=by omega
  subst hje
  (repeat' ((conv=>whnf);(first|refine zaj (by omega) ?_|fail)));conv=>whnf
  exact eT trivial
theorem keptT_step (v:Bool) (s:ByteArray) (l:List Tm) (hl:l.length≤1000) (hs:smT (.mk v s l)) (h:∀ x∈l,KpTP x):KpTP (.mk v s l):=by
 intro H
 have h0:∀ H,VDet Tryz.prog 86 [.agg (lnT (.mk v s l)),.agg (Tm.mk v s l).cells] H (.bool true):=fun H=>zbg (sameT_g _ hs H) ⟨zdh (lnT_wk _),Wk.refl _,trivial⟩
 have h1:=fun H=>keptTerms_c l (by omega) h H
 rw [zbb,lnT_mk] at *
 generalize lnTs l++mksT 12=C at *
 generalize l.flatMap Tm.cells=c at *
 refine fdD Tryz.func85 ⟨rfl,rfl,rfl⟩ fun hcl hbl=>?_
 (repeat' ((conv=>whnf);(first|refine IfN.tt rfl ?_|(refine CallN.id ?_;first|refine CallN.det _ (h0 _) ?_|refine CallN.det _ (h1 _) ?_|fail)|fail)));conv=>whnf
 exact eT trivial
mutual
theorem keptT_g:∀ x:Tm,smT x→KpTP x
 | .mk v s l,h=>by
   have h':=h
   unfold smT at h
   exact keptT_step v s l h.1 h' (keptTs_g l h.2)
theorem keptTs_g:∀ l:List Tm,smTs l→∀ x∈l,KpTP x
 | [],_,x,hx=>by cases hx
 | y::l,h,x,hx=>by
   unfold smTs at h
   rcases List.mem_cons.1 hx with e|hx
   ·rw [e]
    exact keptT_g y h.1
   ·exact keptTs_g l h.2 x hx
end
theorem keptForms_c (l:List Fo) (hl:l.length≤1000000) (h:∀ x∈l,KpFP x) (H:Heap):VDet Tryz.prog 48 [.sk l.length (l.length+12) (lnFs l++mksF 12),.sl none l.length (l.flatMap Fo.cells)] H (.bool true):=by
 rw [lnFs_flat,show mksF 12=(List.range 12).flatMap (fun i=>(mkFo i).cells) from rfl,lnA_flat]
 have g1:=fun j h=>lnA_g1 (.inr 0) (fo0:Fo) l j h
 have g2:=fun i h=>lnA_g2 (.inr 0) l i h
 have gl:=lnA_len l
 have hsz:=lnA_size (f:=lnF) (g:=(fun i=>(mkFo i).cells)) (lnF_len) (fun i=>za1 _)
 have hl1:∀ x,lnA lnF (fun i=>(mkFo i).cells) (.inl x)=lnF x:=fun _=>rfl
 have hl2:∀ i,lnA lnF (fun i=>(mkFo i).cells) (.inr i)=(fun i=>(mkFo i).cells) i:=fun _=>rfl
 generalize lnAl l=A at *
 generalize lnA lnF (fun i=>(mkFo i).cells)=LF at *
 refine fdD Tryz.func48 ⟨rfl,rfl,rfl⟩ fun hcl hbl=>?_
 (repeat' ((conv=>whnf);(first|(refine OrN.r ?_;(conv=>whnf);refine NatN.mk (l.length+12) (by omega) ?_;(conv=>whnf);refine SideN.mk (by omega) ?_)|(refine IfN.id ?_;first|refine IfN.not ?_|refine IfN.dT (by omega) ?_|fail)|refine EqN.i64 (by omega) ?_|fail)));conv=>whnf
 refine zau Tryz.E0 zak (σ:=Nat) (fun j=>j≤l.length+12) (fun j=>l.length+12-j) (fun j=>[(6,.v (.int .i64 j))]) (fun _=>_) _ 0 rfl hcl [1,5] rfl (Nat.zero_le _) ⟨⟨_,rfl,Wk.refl _⟩,trivial⟩ rfl (fun _ _=>rfl) ?_
 intro j hj
 rcases Nat.lt_or_ge j (l.length+12) with hlt|hge
 ·rcases Nat.lt_or_ge j l.length with h1|h1
  ·have e1:=g1 j h1
   have hx:=h _ (zam l j fo0 h1)
   obtain ⟨o,s,a,b,q1,q2⟩:=lnFo_ex (l.getD j fo0)
   have qA:=(hl1 (l.getD j fo0)).trans q2
   unfold KpFP at hx
   rw [q1,q2] at hx
   rw [← e1] at qA
   (repeat' ((conv=>whnf);(first|(refine IfN.id ?_;first|refine IfN.not ?_|refine IfN.tt rfl ?_|refine IfN.dT (by omega) ?_|refine zaj (by omega) ?_|fail)|(refine zad _ _ Cst.h Cst.h ?_ ?_;· omega)|(refine SideN.mk ?_ ?_;· first|kernel_rfl|omega|exact List.cons_ne_nil _ _|fail)|refine CallD.det _ (fun _ hq X=>hx _) ?_|refine zah (.inr 0) j rfl (by omega) hsz qA ?_|refine zah fo0 j rfl (by omega) za1 q1 ?_|refine zap [] ?_|fail)));conv=>whnf
   (refine ⟨⟨j+1,by show j+1≤_;omega,by omega,?_,.inl ⟨rfl,rfl⟩,rfl,_,rfl,?_⟩⟩;rotate_left 1;exact .inl rfl;exact ⟨⟨_,rfl,Wk.refl _⟩,trivial⟩)
  ·obtain ⟨i,rfl⟩:∃ i,j=l.length+i:=⟨j-l.length,by omega⟩
   have hi:i<12:=by omega
   have e1:=g2 i hi
   have hm:=fun H=>markForm_c i hi H
   have hs:=sameF_g (mkFo i) (smF_mk0 i)
   have qA:=hl2 i
   simp only at qA
   unfold SmFP at hs
   rw [zed] at hm hs qA
   rw [← e1] at qA
   generalize mkB i=sj at *
   (repeat' ((conv=>whnf);(first|(refine IfN.id ?_;first|refine IfN.not ?_|refine IfN.tt rfl ?_|refine IfN.dT (by omega) ?_|refine zaj (by omega) ?_|fail)|(refine EqN.id ?_;first|refine EqN.subL (by omega) ?_|(refine zad _ _ Cst.h Cst.h ?_ ?_;· omega)|fail)|(refine SideN.mk ?_ ?_;· first|kernel_rfl|omega|exact List.cons_ne_nil _ _|fail)|(refine CallD.id ?_;first|refine CallD.det _ (fun _ hq X=>hm _) ?_|refine CallD.det _ (fun _ hq X=>hs _) ?_|fail)|refine zah (.inr 0) (l.length+i) rfl (by omega) hsz qA ?_|refine zap [] ?_|fail)));conv=>whnf
   (refine ⟨⟨l.length+i+1,by show l.length+i+1≤_;omega,by omega,?_,.inl ⟨rfl,rfl⟩,rfl,_,rfl,?_⟩⟩;rotate_left 1;exact .inl rfl;exact ⟨⟨_,rfl,Wk.refl _⟩,trivial⟩)
 ·have hje:j=l.length+12:=by omega
  subst hje
  (repeat' ((conv=>whnf);(first|refine zaj (by omega) ?_|fail)));conv=>whnf
  exact eT trivial
theorem keptF_step (op:Nat) (s:ByteArray) (l:List Tm) (m:List Fo) (hs:smF (.mk op s l m)) (hl:l.length≤1000) (hlt:∀ x∈l,KpTP x) (hm:m.length≤1000) (h:∀ x∈m,KpFP x):KpFP (.mk op s l m):=by
 intro H
 have h0:∀ H,VDet Tryz.prog 60 [.agg (lnF (.mk op s l m)),.agg (Fo.mk op s l m).cells] H (.bool true):=fun H=>zbg (sameF_g _ hs H) ⟨zdh (zgx _),Wk.refl _,trivial⟩
 have h1:=fun H=>keptTerms_c l (by omega) hlt H
 have h2:=fun H=>keptForms_c m (by omega) h H
 rw [zaf,lnF_mk] at *
 generalize lnTs l++mksT 12=C at *
 generalize lnFs m++mksF 12=D at *
 generalize l.flatMap Tm.cells=c at *
 generalize m.flatMap Fo.cells=d at *
 refine fdD Tryz.func24 ⟨rfl,rfl,rfl⟩ fun hcl hbl=>?_
 (repeat' ((conv=>whnf);(first|refine IfN.tt rfl ?_|(refine CallN.id ?_;first|refine CallN.det _ (h0 _) ?_|refine CallN.det _ (h1 _) ?_|refine CallN.det _ (h2 _) ?_|fail)|fail)));conv=>whnf
 exact eT trivial
mutual
theorem keptF_g:∀ x:Fo,smF x→KpFP x
 | .mk op s l m,h=>by
   have h':=h
   unfold smF at h
   exact keptF_step op s l m h' h.2.1.1 (keptTs_g l h.2.1.2) h.2.2.1 (keptFs_g m h.2.2.2)
theorem keptFs_g:∀ l:List Fo,smFs l→∀ x∈l,KpFP x
 | [],_,x,hx=>by cases hx
 | y::l,h,x,hx=>by
   unfold smFs at h
   rcases List.mem_cons.1 hx with e|hx
   ·rw [e]
    exact keptF_g y h.1
   ·exact keptFs_g l h.2 x hx
end
mutual
theorem smT_of:∀ x:Tm,szzT x≤1000→smT x
 | .mk v s l,h=>by
   have hl:=nTs_len l
   unfold szzT at h
   unfold smT
   exact ⟨by omega,smTs_of l (by omega)⟩
theorem smTs_of:∀ l:List Tm,szzTs l≤1000→smTs l
 | [],_=>by unfold smTs;trivial
 | x::l,h=>by
   unfold szzTs at h
   unfold smTs
   exact ⟨smT_of x (by omega),smTs_of l (by omega)⟩
end
mutual
theorem smF_of:∀ x:Fo,x.good→szzF x≤1000→smF x
 | .mk op s l m,hg,h=>by
   have hl:=nTs_len l
   have hm:=nFs_len m
   unfold szzF at h
   unfold smF
   exact ⟨hg.1,⟨by omega,smTs_of l (by omega)⟩,by omega,smFs_of m hg.2.2.2.2.2 (by omega)⟩
theorem smFs_of:∀ l:List Fo,Fo.goodL l→szzFs l≤1000→smFs l
 | [],_,_=>by unfold smFs;trivial
 | x::l,hg,h=>by
   unfold szzFs at h
   unfold smFs
   exact ⟨smF_of x hg.1 (by omega),smFs_of l hg.2 (by omega)⟩
end
end
theorem jT_def (d:Nat) (v:Bool) (s:ByteArray) (l:List Tm) (L:Int):jT d (.mk v s l) L=if ¬ (1≤L∧d≤40) then (L-1,false) else if v then (L-1,decide (l.length=0)&&isVar s) else if l.length≤4∧isFun s=true then jTs (d+1) l (L-1) else (L-1,false):=by rw [jT.eq_def]
mutual
theorem jT_iff (d:Nat):∀ (x:Tm) (L:Int),0≤L→((jT d x L).2=true↔rT x=true∧(szzT x:Int)≤L∧d+dT x≤41)∧((jT d x L).2=true→(jT d x L).1=L-(szzT x:Int))
 | .mk v s l,L,h=>by
   have e1:rT (.mk v s l)=if v then decide (l.length=0)&&isVar s else rTs l&&(isFun s&&decide (l.length≤4)):=by rw [rT.eq_def]
   have e2:szzT (.mk v s l)=szzTs l+1:=by rw [szzT.eq_def]
   have e3:dT (.mk v s l)=dTs l+1:=by rw [dT.eq_def]
   rw [jT_def,e1,e2,e3]
   by_cases h1:1≤L∧d≤40
   ·rw [if_neg (not_not_intro h1)]
    cases v with
    | true =>
      rw [if_pos rfl,if_pos rfl]
      refine ⟨⟨fun h2=>⟨h2,?_⟩,fun h2=>h2.1⟩,fun h2=>?_⟩
      ·have h3:l.length=0:=of_decide_eq_true (Bool.and_eq_true_iff.1 h2).1
       have h4:l=[]:=List.length_eq_zero_iff.1 h3
       subst h4
       unfold szzTs dTs
       omega
      ·have h3:l.length=0:=of_decide_eq_true (Bool.and_eq_true_iff.1 h2).1
       have h4:l=[]:=List.length_eq_zero_iff.1 h3
       subst h4
       unfold szzTs
       show L-1=_
       omega
    | false =>
      simp only [Bool.false_eq_true,if_false]
      have ih:=jTs_iff (d+1) l (L-1) (by omega) (by omega)
      by_cases h2:l.length≤4∧isFun s=true
      ·rw [if_pos h2,h2.2,decide_eq_true h2.1]
       refine ⟨ih.1.trans ⟨fun h3=>⟨by rw [h3.1];rfl,by omega,by omega⟩,fun h3=>⟨(Bool.and_eq_true_iff.1 h3.1).1,by omega,by omega⟩⟩,fun h3=>?_⟩
       rw [ih.2 h3]
       omega
      ·rw [if_neg h2]
       refine ⟨⟨fun h3=>(by cases h3),fun h3=>?_⟩,fun h3=>(by cases h3)⟩
       have h4:=Bool.and_eq_true_iff.1 (Bool.and_eq_true_iff.1 h3.1).2
       exact absurd ⟨of_decide_eq_true h4.2,h4.1⟩ h2
   ·rw [if_pos h1]
    refine ⟨⟨fun h3=>(by cases h3),fun h3=>?_⟩,fun h3=>(by cases h3)⟩
    exact absurd ⟨by omega,by omega⟩ h1
theorem jTs_iff (d:Nat):∀ (l:List Tm) (L:Int),0≤L→d≤41→((jTs d l L).2=true↔rTs l=true∧(szzTs l:Int)≤L∧d+dTs l≤41)∧((jTs d l L).2=true→(jTs d l L).1=L-(szzTs l:Int))
 | [],L,h,hd=>by
   unfold jTs rTs szzTs dTs
   refine ⟨⟨fun _=>⟨rfl,by omega,by omega⟩,fun _=>rfl⟩,fun _=>?_⟩
   show L=_
   omega
 | x::l,L,h,hd=>by
   have e1:rTs (x::l)=(rT x&&rTs l):=by rw [rTs.eq_def]
   have e2:szzTs (x::l)=szzT x+szzTs l:=by rw [szzTs.eq_def]
   have e3:dTs (x::l)=max (dT x) (dTs l):=by rw [dTs.eq_def]
   rw [jTs_cons,e1,e2,e3]
   have h1:=jT_iff d x L h
   by_cases hj:(jT d x L).2=true
   ·have h2:=h1.1.1 hj
    have h3:=h1.2 hj
    rw [if_pos hj,h3,h2.1]
    have ih:=jTs_iff d l (L-szzT x) (by omega) hd
    refine ⟨ih.1.trans ⟨fun h4=>⟨by rw [h4.1];rfl,by omega,by omega⟩,fun h4=>⟨(Bool.and_eq_true_iff.1 h4.1).2,by omega,by omega⟩⟩,fun h4=>?_⟩
    rw [ih.2 h4]
    omega
   ·rw [if_neg hj]
    refine ⟨⟨fun h3=>(by cases h3),fun h3=>?_⟩,fun h3=>(by cases h3)⟩
    exact absurd (h1.1.2 ⟨(Bool.and_eq_true_iff.1 h3.1).1,by omega,by omega⟩) hj
end
theorem jF_def (d:Nat) (op:Nat) (s:ByteArray) (l:List Tm) (m:List Fo) (L:Int):jF d (.mk op s l m) L=if ¬ (1≤L∧d≤40)∨17≤op then (L-1,false) else if rowK op=false then (L-1,false) else if ¬ (zfj (rowN op) s=true∧l.length≤rowA op∧m.length=rowS op) then (L-1,false) else if (jTs (d+1) l (L-1)).2 then jFs (d+1) m (jTs (d+1) l (L-1)).1 else ((jTs (d+1) l (L-1)).1,false):=by rw [jF.eq_def]
theorem rowB_iff (op:Nat) (s:ByteArray) (n k:Nat):rowB op s n k=true↔op<17∧rowK op=true∧zfj (rowN op) s=true∧n≤rowA op∧k=rowS op:=by
 unfold rowB
 simp only [Bool.and_eq_true,decide_eq_true_eq]
mutual
theorem jF_iff (d:Nat):∀ (x:Fo) (L:Int),0≤L→((jF d x L).2=true↔rfF x=true∧(szzF x:Int)≤L∧d+dpF x≤41)∧((jF d x L).2=true→(jF d x L).1=L-(szzF x:Int))
 | .mk op s l m,L,h=>by
   have e1:(rfF (.mk op s l m)=true)=(rowB op s l.length m.length=true∧rTs l=true∧rfFs m=true):=by rw [rfF.eq_def];simp only [Bool.and_eq_true]
   have e2:szzF (.mk op s l m)=1+szzTs l+szzFs m:=by rw [szzF.eq_def]
   have e3:dpF (.mk op s l m)=max (dTs l) (dpFs m)+1:=by rw [dpF.eq_def]
   rw [jF_def,e1,e2,e3,rowB_iff]
   by_cases h1:¬ (1≤L∧d≤40)∨17≤op
   ·rw [if_pos h1]
    refine ⟨⟨fun h3=>(by cases h3),fun h3=>?_⟩,fun h3=>(by cases h3)⟩
    exfalso
    have:=h3.1.1.1
    omega
   ·rw [if_neg h1]
    by_cases h2:rowK op=false
    ·rw [if_pos h2]
     refine ⟨⟨fun h3=>(by cases h3),fun h3=>?_⟩,fun h3=>(by cases h3)⟩
     have:=h3.1.1.2.1
     rw [h2] at this
     cases this
    ·rw [if_neg h2]
     by_cases h4:zfj (rowN op) s=true∧l.length≤rowA op∧m.length=rowS op
     ·rw [if_neg (not_not_intro h4)]
      have hr:op<17∧rowK op=true∧zfj (rowN op) s=true∧l.length≤rowA op∧m.length=rowS op:=⟨by omega,by simpa using h2,h4⟩
      have h5:=jTs_iff (d+1) l (L-1) (by omega) (by omega)
      by_cases hj:(jTs (d+1) l (L-1)).2=true
      ·have h6:=h5.1.1 hj
       rw [if_pos hj,h5.2 hj]
       have ih:=jFs_iff (d+1) m (L-1-szzTs l) (by omega) (by omega)
       refine ⟨ih.1.trans ⟨fun h7=>⟨⟨hr,h6.1,h7.1⟩,by omega,by omega⟩,fun h7=>⟨h7.1.2.2,by omega,by omega⟩⟩,fun h7=>?_⟩
       rw [ih.2 h7]
       omega
      ·rw [if_neg hj]
       refine ⟨⟨fun h3=>(by cases h3),fun h3=>?_⟩,fun h3=>(by cases h3)⟩
       exact absurd (h5.1.2 ⟨h3.1.2.1,by omega,by omega⟩) hj
     ·rw [if_pos h4]
      refine ⟨⟨fun h3=>(by cases h3),fun h3=>?_⟩,fun h3=>(by cases h3)⟩
      exact absurd h3.1.1.2.2 h4
theorem jFs_iff (d:Nat):∀ (l:List Fo) (L:Int),0≤L→d≤41→((jFs d l L).2=true↔rfFs l=true∧(szzFs l:Int)≤L∧d+dpFs l≤41)∧((jFs d l L).2=true→(jFs d l L).1=L-(szzFs l:Int))
 | [],L,h,hd=>by
   unfold jFs rfFs szzFs dpFs
   refine ⟨⟨fun _=>⟨rfl,by omega,by omega⟩,fun _=>rfl⟩,fun _=>?_⟩
   show L=_
   omega
 | x::l,L,h,hd=>by
   have e1:rfFs (x::l)=(rfF x&&rfFs l):=by rw [rfFs.eq_def]
   have e2:szzFs (x::l)=szzF x+szzFs l:=by rw [szzFs.eq_def]
   have e3:dpFs (x::l)=max (dpF x) (dpFs l):=by rw [dpFs.eq_def]
   rw [jFs_cons,e1,e2,e3]
   have h1:=jF_iff d x L h
   by_cases hj:(jF d x L).2=true
   ·have h2:=h1.1.1 hj
    have h3:=h1.2 hj
    rw [if_pos hj,h3,h2.1]
    have ih:=jFs_iff d l (L-szzF x) (by omega) hd
    refine ⟨ih.1.trans ⟨fun h4=>⟨by rw [h4.1];rfl,by omega,by omega⟩,fun h4=>⟨(Bool.and_eq_true_iff.1 h4.1).2,by omega,by omega⟩⟩,fun h4=>?_⟩
    rw [ih.2 h4]
    omega
   ·rw [if_neg hj]
    refine ⟨⟨fun h3=>(by cases h3),fun h3=>?_⟩,fun h3=>(by cases h3)⟩
    exact absurd (h1.1.2 ⟨(Bool.and_eq_true_iff.1 h3.1).1,by omega,by omega⟩) hj
end
theorem refR_eq (x:Fo):refR x=(jF 1 x 400).2:=by
 have h:=(jF_iff 1 x 400 (by omega)).1
 apply Bool.eq_iff_iff.2
 rw [h]
 unfold refR
 simp only [Bool.and_eq_true,decide_eq_true_eq]
 refine ⟨fun h=>⟨h.1,by omega,by omega⟩,fun h=>⟨h.1,by omega,by omega⟩⟩
def StS (l:List ByteArray):Prop:=l.Pairwise fun a b=>a.toList<b.toList
theorem sts_ext:∀ {a b:List ByteArray},StS a→StS b→(∀ c,c∈a↔c∈b)→a=b
 | [],[],_,_,_=>rfl
 | [],y::b,_,_,h=>absurd ((h y).2 (List.mem_cons_self ..)) (by simp)
 | x::a,[],_,_,h=>absurd ((h x).1 (List.mem_cons_self ..)) (by simp)
 | x::a,y::b,ha,hb,h=>by
   obtain ⟨ha1,ha2⟩:=List.pairwise_cons.1 ha
   obtain ⟨hb1,hb2⟩:=List.pairwise_cons.1 hb
   have e:x=y:=by
    rcases List.mem_cons.1 ((h x).1 (List.mem_cons_self ..)) with e|e
    ·exact e
    ·rcases List.mem_cons.1 ((h y).2 (List.mem_cons_self ..)) with e2|e2
     ·exact e2.symm
     ·exact absurd (ha1 y e2) (List.lt_asymm (hb1 x e))
   subst e
   congr 1
   refine sts_ext ha2 hb2 fun c=>⟨fun hc=>?_,fun hc=>?_⟩
   ·rcases List.mem_cons.1 ((h c).1 (List.mem_cons_of_mem _ hc)) with e|e
    ·exact absurd (ha1 c hc) (by rw [e];exact List.lt_irrefl _)
    ·exact e
   ·rcases List.mem_cons.1 ((h c).2 (List.mem_cons_of_mem _ hc)) with e|e
    ·exact absurd (hb1 c hc) (by rw [e];exact List.lt_irrefl _)
    ·exact e
def insS (c:ByteArray):List ByteArray→List ByteArray
 | []=>[c]
 | d::l=>if lessB d c then d::insS c l else if d=c then d::l else c::d::l
theorem lt_tri {a b:ByteArray} (h1:¬ a.toList<b.toList) (h2:a≠b):b.toList<a.toList:=by
 have h3:b.toList≤a.toList:=List.not_lt.1 h1
 rcases List.le_iff_lt_or_eq.1 h3 with h|h
 ·exact h
 ·exact absurd (ba_eq h).symm h2
theorem mem_insS (c x:ByteArray):∀ l:List ByteArray,x∈insS c l↔x∈l∨x=c
 | []=>by unfold insS;simp
 | d::l=>by
   unfold insS
   split
   ·rw [List.mem_cons,mem_insS c x l,List.mem_cons]
    exact or_assoc.symm
   ·split
    ·rename_i h
     subst h
     rw [List.mem_cons]
     constructor
     ·exact .inl
     ·rintro (h|h)
      ·exact h
      ·exact .inl h
    ·rw [List.mem_cons]
     exact or_comm
theorem sts_insS (c:ByteArray):∀ {l:List ByteArray},StS l→StS (insS c l)
 | [],_=>by unfold insS StS;simp
 | d::l,h=>by
   obtain ⟨h1,h2⟩:=List.pairwise_cons.1 h
   unfold insS
   split
   ·rename_i h3
    refine List.pairwise_cons.2 ⟨fun x hx=>?_,sts_insS c h2⟩
    rcases (mem_insS c x l).1 hx with hx|rfl
    ·exact h1 x hx
    ·exact (lessB_iff _ _).1 h3
   ·split
    ·exact h
    ·rename_i h3 h4
     have h5:c.toList<d.toList:=lt_tri (fun h=>h3 ((lessB_iff _ _).2 h)) h4
     refine List.pairwise_cons.2 ⟨fun x hx=>?_,h⟩
     rcases List.mem_cons.1 hx with rfl|hx
     ·exact h5
     ·exact List.lt_trans h5 (h1 x hx)
theorem zgh (c:ByteArray):∀ (l:List ByteArray) (a:Nat),a≤l.length→(∀ i,i<a→lessB (l.getD i eN) c=true)→(a<l.length→lessB (l.getD a eN) c=false)→insS c l=if a=l.length∨l.getD a eN≠c then l.take a++c::l.drop a else l
 | [],a,h,_,_=>by
   simp only [List.length_nil,Nat.le_zero] at h
   subst h
   unfold insS
   simp
 | d::l,0,_,_,h=>by
   have h:=h (by simp)
   rw [List.getD_cons_zero] at h ⊢
   unfold insS
   rw [if_neg (by rw [h];exact Bool.false_ne_true)]
   by_cases e:d=c
   ·rw [if_pos e,if_neg (by simp [e])]
   ·rw [if_neg e,if_pos (.inr e)]
    simp
 | d::l,a+1,h0,h1,h2=>by
   have h3:=h1 0 (by omega)
   rw [List.getD_cons_zero] at h3
   have ih:=zgh c l a (by simpa using h0) (fun i hi=>by have:=h1 (i+1) (by omega);rwa [List.getD_cons_succ] at this) (fun h=>by have:=h2 (by simpa using h);rwa [List.getD_cons_succ] at this)
   unfold insS
   rw [if_pos h3,ih,List.getD_cons_succ,List.length_cons]
   by_cases e:a=l.length∨l.getD a eN≠c
   ·rw [if_pos e,if_pos (e.imp (by omega) id)]
    simp
   ·rw [if_neg e,if_neg (fun h=>e (h.imp (by omega) id))]
mutual
def gaF (ks:List ByteArray):Fo→List ByteArray
 | .mk op s _ m=>gaFs (if op=1 then insS s ks else ks) m
def gaFs (ks:List ByteArray):List Fo→List ByteArray
 | []=>ks
 | x::l=>gaFs (gaF ks x) l
end
theorem zc1 (ks:List ByteArray):gaFs ks []=ks:=by unfold gaFs;rfl
theorem zg0 (ks:List ByteArray) (x:Fo) (l:List Fo):gaFs ks (x::l)=gaFs (gaF ks x) l:=by rw [gaFs.eq_def]
theorem gaF_mk (ks:List ByteArray) (op:Nat) (s:ByteArray) (l:List Tm) (m:List Fo):gaF ks (.mk op s l m)=gaFs (if op=1 then insS s ks else ks) m:=by rw [gaF.eq_def]
theorem zde (l:List Fo) (d:Fo):∀ (ks:List ByteArray) (j:Nat),j<l.length→gaF (gaFs ks (l.take j)) (l.getD j d)=gaFs ks (l.take (j+1)):=by
 induction l with
 | nil=>intro ks j hj;simp at hj
 | cons f l ih =>
   intro ks j hj
   cases j with
   | zero=>simp [zg0,zc1]
   | succ j =>
     simp only [List.length_cons] at hj
     simp only [List.take_succ_cons,zg0,List.getD_cons_succ]
     exact ih _ _ (by omega)
mutual
theorem gaF_add:∀ (f:Fo) {ks ks':List ByteArray},StS ks→(∀ c,c∈ks↔c∈ks')→StS (gaF ks f)∧∀ c,c∈gaF ks f↔c∈addG ks' f
 | .mk op s l m,ks,ks',h,hm=>by
   rw [gaF_mk,addG.eq_def]
   by_cases e:op=1
   ·simp only [if_pos e]
    refine gaFs_add m (sts_insS s h) fun c=>?_
    rw [mem_insS,mem_insG,hm]
   ·simp only [if_neg e]
    exact gaFs_add m h hm
theorem gaFs_add:∀ (l:List Fo) {ks ks':List ByteArray},StS ks→(∀ c,c∈ks↔c∈ks')→StS (gaFs ks l)∧∀ c,c∈gaFs ks l↔c∈addGs ks' l
 | [],ks,ks',h,hm=>by
   rw [zc1,zbz]
   exact ⟨h,hm⟩
 | x::l,ks,ks',h,hm=>by
   rw [zg0,zbr]
   have h1:=gaF_add x h hm
   exact gaFs_add l h1.1 h1.2
end
theorem sts_sortG {ks:List ByteArray} (h:ks.Nodup):StS (sortG ks):=by
 have h1:(sortG ks).Pairwise fun a b=>decide (a.data.toList≤b.data.toList)=true:=by
  unfold sortG
  refine List.pairwise_mergeSort (le:=fun a b:ByteArray=>decide (a.data.toList≤b.data.toList)) (fun a b c h1 h2=>decide_eq_true (List.le_trans (of_decide_eq_true h1) (of_decide_eq_true h2))) (fun a b=>?_) ks
  rcases List.le_total a.data.toList b.data.toList with h|h
  ·rw [decide_eq_true h];rfl
  ·rw [decide_eq_true h,Bool.or_true]
 have h2:(sortG ks).Nodup:=(List.mergeSort_perm _ _).nodup_iff.2 h
 refine (h1.and h2).imp ?_
 rintro a b ⟨h3,h4⟩
 have h3:a.toList≤b.toList:=by rw [ByteArray.toList_eq,ByteArray.toList_eq];exact of_decide_eq_true h3
 rcases List.le_iff_lt_or_eq.1 h3 with h|h
 ·exact h
 ·exact absurd (ba_eq h) h4
theorem zc6 (l:List Fo):zao l=gaFs [] l:=by
 have h:=gaFs_add l (ks:=[]) (ks':=[]) List.Pairwise.nil fun c=>Iff.rfl
 unfold zao
 refine sts_ext (sts_sortG (zdx l List.nodup_nil)) h.1 fun c=>?_
 rw [h.2]
 exact (List.mergeSort_perm _ _).mem_iff
section
attribute [local irreducible] VW VCall VO bits
mutual
def plnF:Fo→Bool
 | .mk op _ l m=>decide (1≤op∧op≤7∧(op=1→l.length=0))&&plnFs m
def plnFs:List Fo→Bool
 | []=>true
 | x::l=>plnF x&&plnFs l
end
theorem plnFs_all:∀ l:List Fo,plnFs l=l.all plnF
 | []=>by unfold plnFs;rfl
 | x::l=>by
   rw [plnFs.eq_def]
   simp only
   rw [List.all_cons,plnFs_all l]
def PlnP (x:Fo):Prop:=∀ H,VDet Tryz.prog 65 [.agg x.cells] H (.bool (plnF x))
theorem pln_step (op:Nat) (s:ByteArray) (l:List Tm) (m:List Fo) (hop:op≤255) (hll:l.length≤9223372036854775807) (hml:m.length≤9223372036854775807) (hm:∀ x∈m,PlnP x):PlnP (.mk op s l m):=by
 intro H
 rw [zaf]
 unfold plnF
 rw [plnFs_all]
 by_cases h:1≤op∧op≤7∧(op=1→l.length=0)
 ·rw [decide_eq_true h,Bool.true_and]
  obtain ⟨h1,h2,h3⟩:=h
  by_cases e1:op=1
  ·have h3:=h3 e1
   refine fdD Tryz.func65 ⟨rfl,rfl,rfl⟩ fun hcl hbl=>?_
   (repeat' ((conv=>whnf);(first|(refine IfN.id ?_;first|refine IfN.dT (by omega) ?_|refine zaj (by omega) ?_|fail)|fail)));conv=>whnf
   refine zau Tryz.E0 zak (σ:=Nat) (fun j=>j≤m.length∧∀ i,i<j→plnF (m.getD i (Fo.mk 0 .empty [] []))=true) (fun j=>m.length-j) (fun j=>[(3,.v (.int .i64 j))]) (fun _=>_) _ 0 rfl hcl [1] rfl ⟨Nat.zero_le _,fun i hi=>by omega⟩ ⟨⟨_,rfl,Wk.refl _⟩,trivial⟩ rfl (fun _ _=>rfl) ?_
   rintro j ⟨hj,hall⟩
   clear hbl
   by_cases hlt:j<m.length
   ·have hmem:=zam m j (Fo.mk 0 .empty [] []) hlt
    have hx:=hm _ hmem
    unfold PlnP at hx
    obtain ⟨o2,s2,l2,m2,hxe⟩:∃ o2 s2 l2 m2,m.getD j (Fo.mk 0 .empty [] [])=Fo.mk o2 s2 l2 m2:=by
     cases m.getD j (Fo.mk 0 .empty [] []) with
     | mk o2 s2 l2 m2=>exact ⟨o2,s2,l2,m2,rfl⟩
    have hce:(m.getD j (Fo.mk 0 .empty [] [])).cells=[.int .u8 o2,.str s2,.sl none l2.length (l2.flatMap Tm.cells),.sl none m2.length (m2.flatMap Fo.cells)]:=by rw [hxe,zaf]
    rw [hce] at hx
    cases hb:plnF (m.getD j (Fo.mk 0 .empty [] [])) with
    | true =>
      rw [hb] at hx
      (repeat' ((conv=>whnf);(first|(refine IfN.id ?_;first|refine IfN.not ?_|refine IfN.tt rfl ?_|refine IfN.dT (by omega) ?_|fail)|(refine zad _ _ Cst.h Cst.h ?_ ?_;· omega)|(refine SideN.mk ?_ ?_;· first|omega|exact List.cons_ne_nil _ _|fail)|refine CallN.det _ (hx _) ?_|refine zah (Fo.mk 0 .empty [] []) j rfl hlt za1 hce ?_|fail)));conv=>whnf
      (refine ⟨⟨j+1,⟨by omega,fun i hi=>by
       by_cases e:i=j
       ·rw [e];exact hb
       ·exact hall i (by omega)⟩,by omega,?_,.inl ⟨rfl,rfl⟩,rfl,_,rfl,?_⟩⟩;rotate_left 1;exact .inl rfl;exact ⟨⟨_,rfl,Wk.refl _⟩,trivial⟩)
    | false =>
      rw [hb] at hx
      (repeat' ((conv=>whnf);(first|(refine IfN.id ?_;first|refine IfN.not ?_|refine IfN.ff rfl ?_|refine IfN.dT (by omega) ?_|fail)|(refine SideN.mk ?_ ?_;· first|omega|exact List.cons_ne_nil _ _|fail)|refine CallN.det _ (hx _) ?_|refine zah (Fo.mk 0 .empty [] []) j rfl hlt za1 hce ?_|fail)));conv=>whnf
      have:m.all plnF=false:=by
       apply Bool.eq_false_iff.2
       intro hA
       rw [List.all_eq_true.1 hA _ hmem] at hb
       cases hb
      rw [this]
      exact eT trivial
   ·have:m.all plnF=true:=by
     rw [List.all_eq_true]
     intro x hx
     obtain ⟨i,hi,rfl⟩:=List.getElem_of_mem hx
     have:=hall i (by omega)
     rwa [show m.getD i (Fo.mk 0 .empty [] [])=m[i] by simp [List.getD_eq_getElem?_getD,hi]] at this
    rw [this]
    (repeat' ((conv=>whnf);(first|refine zaj (by omega) ?_|fail)));conv=>whnf
    exact eT trivial
  ·clear h3
   refine fdD Tryz.func65 ⟨rfl,rfl,rfl⟩ fun hcl hbl=>?_
   (repeat' ((conv=>whnf);(first|refine zaj (by omega) ?_|fail)));conv=>whnf
   refine zau Tryz.E0 zak (σ:=Nat) (fun j=>j≤m.length∧∀ i,i<j→plnF (m.getD i (Fo.mk 0 .empty [] []))=true) (fun j=>m.length-j) (fun j=>[(3,.v (.int .i64 j))]) (fun _=>_) _ 0 rfl hcl [1] rfl ⟨Nat.zero_le _,fun i hi=>by omega⟩ ⟨⟨_,rfl,Wk.refl _⟩,trivial⟩ rfl (fun _ _=>rfl) ?_
   rintro j ⟨hj,hall⟩
   clear hbl
   by_cases hlt:j<m.length
   ·have hmem:=zam m j (Fo.mk 0 .empty [] []) hlt
    have hx:=hm _ hmem
    unfold PlnP at hx
    obtain ⟨o2,s2,l2,m2,hxe⟩:∃ o2 s2 l2 m2,m.getD j (Fo.mk 0 .empty [] [])=Fo.mk o2 s2 l2 m2:=by
     cases m.getD j (Fo.mk 0 .empty [] []) with
     | mk o2 s2 l2 m2=>exact ⟨o2,s2,l2,m2,rfl⟩
    have hce:(m.getD j (Fo.mk 0 .empty [] [])).cells=[.int .u8 o2,.str s2,.sl none l2.length (l2.flatMap Tm.cells),.sl none m2.length (m2.flatMap Fo.cells)]:=by rw [hxe,zaf]
    rw [hce] at hx
    cases hb:plnF (m.getD j (Fo.mk 0 .empty [] [])) with
    | true =>
      rw [hb] at hx
      (repeat' ((conv=>whnf);(first|(refine IfN.id ?_;first|refine IfN.not ?_|refine IfN.tt rfl ?_|refine IfN.dT (by omega) ?_|fail)|(refine zad _ _ Cst.h Cst.h ?_ ?_;· omega)|(refine SideN.mk ?_ ?_;· first|omega|exact List.cons_ne_nil _ _|fail)|refine CallN.det _ (hx _) ?_|refine zah (Fo.mk 0 .empty [] []) j rfl hlt za1 hce ?_|fail)));conv=>whnf
      (refine ⟨⟨j+1,⟨by omega,fun i hi=>by
       by_cases e:i=j
       ·rw [e];exact hb
       ·exact hall i (by omega)⟩,by omega,?_,.inl ⟨rfl,rfl⟩,rfl,_,rfl,?_⟩⟩;rotate_left 1;exact .inl rfl;exact ⟨⟨_,rfl,Wk.refl _⟩,trivial⟩)
    | false =>
      rw [hb] at hx
      (repeat' ((conv=>whnf);(first|(refine IfN.id ?_;first|refine IfN.not ?_|refine IfN.ff rfl ?_|refine IfN.dT (by omega) ?_|fail)|(refine SideN.mk ?_ ?_;· first|omega|exact List.cons_ne_nil _ _|fail)|refine CallN.det _ (hx _) ?_|refine zah (Fo.mk 0 .empty [] []) j rfl hlt za1 hce ?_|fail)));conv=>whnf
      have:m.all plnF=false:=by
       apply Bool.eq_false_iff.2
       intro hA
       rw [List.all_eq_true.1 hA _ hmem] at hb
       cases hb
      rw [this]
      exact eT trivial
   ·have:m.all plnF=true:=by
     rw [List.all_eq_true]
     intro x hx
     obtain ⟨i,hi,rfl⟩:=List.getElem_of_mem hx
     have:=hall i (by omega)
     rwa [show m.getD i (Fo.mk 0 .empty [] [])=m[i] by simp [List.getD_eq_getElem?_getD,hi]] at this
    rw [this]
    (repeat' ((conv=>whnf);(first|refine zaj (by omega) ?_|fail)));conv=>whnf
    exact eT trivial
 ·rw [decide_eq_false h,Bool.false_and]
  generalize l.flatMap Tm.cells=lc at *
  generalize m.flatMap Fo.cells=mc at *
  generalize l.length=ln at *
  generalize m.length=mn at *
  refine fdD Tryz.func65 ⟨rfl,rfl,rfl⟩ fun hcl hbl=>?_
  (repeat' ((conv=>whnf);(first|(refine IfN.id ?_;first|refine IfN.dT (by omega) ?_|refine za9 (fun _=>?_) (fun _=>?_)|fail)|fail)));all_goals (conv=>whnf)
  all_goals first|exact eT trivial|(exfalso;apply h;refine ⟨by omega,by omega,fun _=>by omega⟩)|fail
mutual
theorem pln_g:∀ x:Fo,x.good→PlnP x
 | .mk op s l m,h=>pln_step op s l m h.1 (za4 h.2.2.1) (za4 h.2.2.2.2.1) (plns_g m h.2.2.2.2.2)
theorem plns_g:∀ l:List Fo,Fo.goodL l→∀ x∈l,PlnP x
 | [],_,x,h=>by cases h
 | y::l,hg,x,h=>by
   have h1:=pln_g y hg.1
   have h2:=plns_g l hg.2
   rcases List.mem_cons.1 h with e|h
   ·exact e▸h1
   ·exact h2 x h
end
theorem ref10R_c (f:Fo) (hg:f.good) (hn:szzF f≤100000) (H:Heap):VDet Tryz.prog 31 [.agg f.cells] H (.bool (refR f&&plnF f)):=by
 have h1:=refRight_c f hg hn
 have h2:∀ H,VDet Tryz.prog 65 [.agg f.cells] H (.bool (plnF f)):=pln_g f hg
 generalize refR f=a at *
 generalize plnF f=b at *
 obtain ⟨op,s,l,m⟩:=f
 rw [zaf] at h1 h2 ⊢
 cases a with
 | true =>
   refine fdD Tryz.func31 ⟨rfl,rfl,rfl⟩ fun hcl hbl=>?_
   (repeat' ((conv=>whnf);(first|refine IfN.tt rfl ?_|(refine CallN.id ?_;first|refine CallN.det _ (h1 _) ?_|refine CallN.det _ (h2 _) ?_|fail)|fail)));conv=>whnf
   exact eT trivial
 | false =>
   refine fdD Tryz.func31 ⟨rfl,rfl,rfl⟩ fun hcl hbl=>?_
   (repeat' ((conv=>whnf);(first|refine IfN.ff rfl ?_|refine CallN.det _ (h1 _) ?_|fail)));conv=>whnf
   exact eT trivial
theorem rowA0:∀ op,2≤op∧op≤7→rowA op=0:=by
 intro op h
 have:op=2∨op=3∨op=4∨op=5∨op=6∨op=7:=by omega
 rcases this with rfl|rfl|rfl|rfl|rfl|rfl <;> rfl
mutual
theorem pln_prop:∀ f:Fo,rfF f=true→plnF f=propF f
 | .mk op s l m,h=>by
   have e1:(rfF (.mk op s l m)=true)=(rowB op s l.length m.length=true∧rTs l=true∧rfFs m=true):=by rw [rfF.eq_def];simp only [Bool.and_eq_true]
   rw [e1,rowB_iff] at h
   have h1:plnF (.mk op s l m)=(decide (1≤op∧op≤7∧(op=1→l.length=0))&&plnFs m):=by rw [plnF.eq_def]
   have h2:propF (.mk op s l m)=(decide (1≤op∧op≤7∧l.length=0)&&propFs m):=by rw [propF.eq_def]
   rw [h1,h2,plns_prop m h.2.2]
   congr 1
   apply decide_eq_decide.2
   constructor
   ·rintro ⟨a,b,c⟩
    refine ⟨a,b,?_⟩
    by_cases e:op=1
    ·exact c e
    ·have h3:=rowA0 op ⟨by omega,b⟩
     have h4:=h.1.2.2.2.1
     omega
   ·rintro ⟨a,b,c⟩
    exact ⟨a,b,fun _=>c⟩
theorem plns_prop:∀ l:List Fo,rfFs l=true→plnFs l=propFs l
 | [],_=>by unfold plnFs propFs;rfl
 | x::l,h=>by
   have e1:rfFs (x::l)=(rfF x&&rfFs l):=by rw [rfFs.eq_def]
   rw [e1,Bool.and_eq_true] at h
   have h1:plnFs (x::l)=(plnF x&&plnFs l):=by rw [plnFs.eq_def]
   have h2:propFs (x::l)=(propF x&&propFs l):=by rw [propFs.eq_def]
   rw [h1,h2,pln_prop x h.1,plns_prop l h.2]
end
theorem ref10R_eq (f:Fo):(refR f&&plnF f)=zbe f:=by
 unfold zbe synR
 rw [← refR_eq]
 cases h:refR f with
 | false=>rfl
 | true =>
   rw [Bool.true_and,Bool.true_and]
   refine pln_prop f ?_
   unfold refR at h
   simp only [Bool.and_eq_true] at h
   exact h.1
theorem ref10_c (f:Fo) (hg:f.good) (hn:szzF f≤100000) (H:Heap):VDet Tryz.prog 31 [.agg f.cells] H (.bool (zbe f)):=by
 have:=ref10R_c f hg hn H
 rwa [ref10R_eq] at this
end
end Go.Proofs.YtekhodpmpjehaaaGreatDoor
