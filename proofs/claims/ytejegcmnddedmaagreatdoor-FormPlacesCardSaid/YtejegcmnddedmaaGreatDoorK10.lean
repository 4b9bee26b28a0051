/- A text of the proof: the parts NA02z, I02z, UB02z, UC02z, UD02z, UE02z, OA02z, OB02z, HA02z, KA02z, LA02z, HB02z, PA02z, R02cz, Y02sz. -/
import Derived.Shelf.SlSortCmp.NoneTotal
import Derived.Shelf.SlSortCmp.WholeK
import Derived.Test.YtejegcmnddedmaaGreatDoorK9
set_option linter.unusedSimpArgs false
set_option linter.unusedVariables false
set_option maxHeartbeats 8000000
namespace Go.Proofs.YtejegcmnddedmaaGreatDoor
open Go.Vsi
section
attribute [local irreducible] VW VCall VO bits
def OvT (l:List Tm):Prop:=∀ (H:Heap) (a:AV) (S:List Nat),HdAt 36 3 H l.length a S (AtTl H l)→S.Nodup→VCall Tryz.prog 37 [a] H fun r H'=>r=.tup []∧OvS S H H'
def OvTx:Tm→Prop
 | .mk _ _ l=>OvT l
theorem ovT_step (l:List Tm) (hf:l.length * 48≤capB) (h:∀ x∈l,OvTx x):OvT l:=by
 unfold capB at hf
 intro H a S hd hn
 rcases hd with ⟨h0,rfl,rfl⟩|⟨i,bs,S',rfl,hi,rfl,hb⟩
 ·refine za7 Tryz.E0 zab Tryz.func37 (by kernel_rfl) rfl (ybq rfl) rfl fun hcl hbl=>?_
  conv=>whnf
  refine zfl Tryz.E0 zab (σ:=Nat) (fun p=>p=0) (fun p=>0) (fun p=>[(2,.v (.int .i64 p))]) (fun p=>H) (fun _=>[]) _ 0 (fun p hp=>rfl) (fun p hp=>hcl) [0] rfl rfl ⟨⟨_,rfl,yae _⟩,trivial⟩ rfl rfl (fun _ _=>rfl) ?_
  rintro k rfl
  (repeat' ((conv=>whnf);(first|refine yat rfl ?_|fail)));conv=>whnf
  exact ydh _ (yae _) ⟨rfl,by rw [yas];exact OvS.nil H⟩
 obtain ⟨hn1,hn2⟩:=List.nodup_cons.1 hn
 have hLl:=AtTl.len l hb
 have hol:=fun k (h:k≤l.length)=>ovC_len (c:=dashC) (bs:=bs) (k:=k) (by rw [hLl];exact yb2 _ h)
 have hin:=(yac.1 hi).1
 refine za7 Tryz.E0 zab Tryz.func37 (by kernel_rfl) rfl (ybq rfl) rfl fun hcl hbl=>?_
 have hbB:zae H.length bs:=hcl i _ hi
 conv=>whnf
 refine zfl Tryz.E0 zab (σ:=Nat×Heap) (fun p=>p.1≤l.length∧∃ Sa Sb,S'=Sa++Sb∧AtTl H (l.drop p.1) (bs.drop (p.1 * 3)) Sb∧OvI i (.vec 36 3 (ovC dashC bs p.1)) Sa H p.2) (fun p=>l.length-p.1) (fun p=>[(2,.v (.int .i64 p.1))]) (fun p=>p.2) (fun _=>[]) _ (0,H) (fun p hp=>hp.2.choose_spec.choose_spec.2.2.len) (fun p hp=>hp.2.choose_spec.choose_spec.2.2.cl) [0] rfl ⟨yah _,[],S',rfl,by simpa using hb,by rw [ovC_zero];exact OvI.first hi hcl⟩ ⟨⟨_,rfl,yae _⟩,trivial⟩ rfl rfl (fun _ _=>rfl) ?_
 rintro ⟨k,H1⟩ ⟨hk,Sa,Sb,rfl,hat,hov⟩
 simp only at hk hat hov
 have hl1:=hov.len
 have hq1:=hov.at_
 have hL1:=hol k hk
 have hne:l.length≠0→ovC dashC bs k≠[]:=fun h0 e=>by rw [e,hLl] at hL1;simp at hL1;omega
 rcases yag k l.length with hlt|hge
 ·obtain ⟨v,s,a,S1,S2,r,x,ex,hr,rfl,hx,hat2⟩:=hat.next hlt
  have hc:=h _ (zak l k tm0 hlt)
  rw [ex] at hc
  obtain ⟨n1,n2,n3⟩:=List.nodup_append.1 hn2
  obtain ⟨n4,n5,n6⟩:=List.nodup_append.1 n2
  have hc:=hc H1 a S1 (hx.monoT fun j hj=>hov.free j (fun e=>hn1 (e▸List.mem_append_right _ (List.mem_append_left _ hj))) fun hja=>n3 j hja j (List.mem_append_left _ hj) rfl) n4
  have hc:VCall Tryz.prog 37 [a] (H1++[]) fun r H'=>r=.tup []∧OvS S1 (H1++[]) H':=by rw [yas];exact hc
  have hs1:∀ j∈S1,j<H.length:=hx.low fun _ _ hb=>AtTl.low x hb
  have hr2:(ovC dashC bs k).drop (k * 3)=[.bool v,.str s,a]++r:=(ovC_drop (c:=dashC)).trans hr
  have hr3:(ovC dashC bs k).drop (k * 3+2)=[a]++r:=by rw [← ydj,hr2];rfl
  have hb2:(Blk.vec 36 3 (ovC dashC bs (k+1))).below H.length:=ovC_below dashC_below hbB (k+1)
  have hne:=hne (by omega)
  have hL2:=hol (k+1) hlt
  have hset:setL (ovC dashC bs k) (k * 3) [.bool false,.str ⟨#[45]⟩,.nils]=ovC dashC bs (k+1):=ovC_set (c:=dashC)
  generalize hA:ovC dashC bs k=A at *
  generalize hA2:ovC dashC bs (k+1)=A2 at *
  have hax:a=.nils∨∃ i n,a=.vs i n:=by
   rcases hx with ⟨-,h,-⟩|⟨i,-,-,h,-⟩
   ·exact .inl h
   ·exact .inr ⟨_,_,h⟩
  have hcall:=fun M' (h1:OvS S1 H1 M')=>hov.call h1 (fun e=>hn1 (List.mem_append_right _ (List.mem_append_left _ e)))
  clear hx hat
  rcases hax with rfl|⟨ai,an,rfl⟩
  all_goals
   (repeat' ((conv=>whnf);(first|refine yaf (by omega) ?_|refine zaq (by omega) ?_|(refine zaw _ _ Cst.h Cst.h ?_ ?_;· omega)|(refine yaf ?_ ?_;· first|exact yaa _ _|(simp;omega)|fail)|refine ydf _ rfl ?_|refine yaf ⟨⟨by omega,hne⟩,by omega,by omega⟩ ?_|refine yc1 _ ⟨r,by rw [ybg];exact hr3⟩ ?_|refine zgp S1 hc hl1 rfl hs1 fun H2 ho=>?_|refine yb3 _ (hcall _ ho).at_ ?_|refine RelN.mk A2 [] (by rw [ybg];exact hset.symm) ?_|refine yb3 _ (by (repeat' (first|assumption|exact zav _ rfl|exact za1 rfl|refine za9 (B':=?_) ?_|refine zas ?_|fail))) ?_|fail)));all_goals (conv=>whnf)
   subst hA2
   refine ⟨⟨(k+1,_),⟨by show k+1≤_;omega,Sa++S1,S2,by rw [yba],hat2,OvI.set (hcall _ ho) hb2⟩,by show l.length-(k+1)<l.length-k;omega,⟨⟨_,rfl,yae _⟩,trivial⟩,.inl ⟨rfl,rfl⟩,rfl,[],rfl,.inl rfl⟩⟩
 ·obtain rfl:k=l.length:=by omega
  have hS:Sb=[]:=by
   rw [ybf] at hat
   rw [AtTl] at hat
   exact hat.2
  subst hS
  rw [yas] at *
  have hAll:ovC dashC bs l.length=repC l.length dashC:=ovC_all (c:=dashC) hLl
  have hfin:OvS (i::Sa) H H1:=hov.last hi (by rw [hAll,zcq,if_pos rfl,hLl,Nat.mul_div_cancel _ (by omega)])
  (repeat' ((conv=>whnf);(first|refine zal (by omega) ?_|fail)));conv=>whnf
  exact EndN.ovs hfin
mutual
theorem ovT_g:∀ x:Tm,x.fit→OvTx x
 | .mk _ _ l,h=>ovT_step l h.2.1 (ovTs_g l h.2.2)
theorem ovTs_g:∀ l:List Tm,Tm.fitL l→∀ x∈l,OvTx x
 | [],_,x,h=>by cases h
 | y::l,hg,x,h=>by
   have h1:=ovT_g y hg.1
   have h2:=ovTs_g l hg.2
   rcases yax.1 h with e|h
   ·exact e▸h1
   ·exact h2 x h
end
theorem overTerms_v (l:List Tm) (hf:l.length * 48≤capB) (h:Tm.fitL l):OvT l:=ovT_step l hf (ovTs_g l h)
def OvF (l:List Fo):Prop:=∀ (H:Heap) (a:AV) (S:List Nat),HdAt 25 4 H l.length a S (AtFl H l)→S.Nodup→VCall Tryz.prog 36 [a] H fun r H'=>r=.tup []∧OvS S H H'
def OvFx:Fo→Prop
 | .mk _ _ l m=>OvT l∧OvF m
theorem ovF_step (l:List Fo) (hf:l.length * 72≤capB) (h:∀ x∈l,OvFx x):OvF l:=by
 unfold capB at hf
 intro H a S hd hn
 rcases hd with ⟨h0,rfl,rfl⟩|⟨i,bs,S',rfl,hi,rfl,hb⟩
 ·refine za7 Tryz.E0 zab Tryz.func36 (by kernel_rfl) rfl (ybq rfl) rfl fun hcl hbl=>?_
  conv=>whnf
  refine zfl Tryz.E0 zab (σ:=Nat) (fun p=>p=0) (fun p=>0) (fun p=>[(2,.v (.int .i64 p))]) (fun p=>H) (fun _=>[]) _ 0 (fun p hp=>rfl) (fun p hp=>hcl) [0] rfl rfl ⟨⟨_,rfl,yae _⟩,trivial⟩ rfl rfl (fun _ _=>rfl) ?_
  rintro k rfl
  (repeat' ((conv=>whnf);(first|refine yat rfl ?_|fail)));conv=>whnf
  exact ydh _ (yae _) ⟨rfl,by rw [yas];exact OvS.nil H⟩
 obtain ⟨hn1,hn2⟩:=List.nodup_cons.1 hn
 have hLl:=AtFl.len l hb
 have hol:=fun k (h:k≤l.length)=>ovC_len (c:=f99C) (bs:=bs) (k:=k) (by rw [hLl];exact yb2 _ h)
 have hin:=(yac.1 hi).1
 refine za7 Tryz.E0 zab Tryz.func36 (by kernel_rfl) rfl (ybq rfl) rfl fun hcl hbl=>?_
 have hbB:zae H.length bs:=hcl i _ hi
 conv=>whnf
 refine zfl Tryz.E0 zab (σ:=Nat×Heap) (fun p=>p.1≤l.length∧∃ Sa Sb,S'=Sa++Sb∧AtFl H (l.drop p.1) (bs.drop (p.1 * 4)) Sb∧OvI i (.vec 25 4 (ovC f99C bs p.1)) Sa H p.2) (fun p=>l.length-p.1) (fun p=>[(2,.v (.int .i64 p.1))]) (fun p=>p.2) (fun _=>[]) _ (0,H) (fun p hp=>hp.2.choose_spec.choose_spec.2.2.len) (fun p hp=>hp.2.choose_spec.choose_spec.2.2.cl) [0] rfl ⟨yah _,[],S',rfl,by simpa using hb,by rw [ovC_zero];exact OvI.first hi hcl⟩ ⟨⟨_,rfl,yae _⟩,trivial⟩ rfl rfl (fun _ _=>rfl) ?_
 rintro ⟨k,H1⟩ ⟨hk,Sa,Sb,rfl,hat,hov⟩
 simp only at hk hat hov
 have hl1:=hov.len
 have hq1:=hov.at_
 have hL1:=hol k hk
 have hne:l.length≠0→ovC f99C bs k≠[]:=fun h0 e=>by rw [e,hLl] at hL1;simp at hL1;omega
 rcases yag k l.length with hlt|hge
 ·obtain ⟨o,s,a,b,S0,S1,S2,r,x,y,ex,hr,rfl,hx,hy,hat2⟩:=hat.next hlt
  have hc:=h _ (zak l k fo0 hlt)
  rw [ex] at hc
  obtain ⟨hcx,hcy⟩:=hc
  obtain ⟨n1,n2,n3⟩:=List.nodup_append.1 hn2
  obtain ⟨n4,n5,n6⟩:=List.nodup_append.1 n2
  obtain ⟨n7,n8,n9⟩:=List.nodup_append.1 n4
  have hi0:i ∉ S0:=fun e=>hn1 (List.mem_append_right _ (List.mem_append_left _ (List.mem_append_left _ e)))
  have hi1:i ∉ S1:=fun e=>hn1 (List.mem_append_right _ (List.mem_append_left _ (List.mem_append_right _ e)))
  have hc0:=hcx H1 a S0 (hx.monoT fun j hj=>hov.free j (fun e=>hi0 (e▸hj)) fun hja=>n3 j hja j (List.mem_append_left _ (List.mem_append_left _ hj)) rfl) n7
  have hc0:VCall Tryz.prog 37 [a] (H1++[]) fun r H'=>r=.tup []∧OvS S0 (H1++[]) H':=by rw [yas];exact hc0
  have hs0:∀ j∈S0,j<H.length:=hx.low fun _ _ hb=>AtTl.low x hb
  have hs1:∀ j∈S1,j<H.length:=hy.low fun _ _ hb=>AtFl.low y hb
  have hk0:=fun M' (h1:OvS S0 H1 M')=>hov.call h1 hi0
  have hc1:∀ M',OvS S0 H1 M'→VCall Tryz.prog 36 [b] (M'++[]) fun r H'=>r=.tup []∧OvS S1 (M'++[]) H':=fun M' h1=>by
   rw [yas]
   refine hcy M' b S1 (hy.monoF fun j hj=>?_) n8
   exact (hk0 M' h1).free j (fun e=>hi1 (e▸hj)) fun hja=>by
    rcases ybd.1 hja with hja|hja
    ·exact n3 j hja j (List.mem_append_left _ (List.mem_append_right _ hj)) rfl
    ·exact n9 j hja j hj rfl
  have hk1:=fun M' (h1:OvS S0 H1 M') M'' (h2:OvS S1 M' M'')=>(hk0 M' h1).call h2 hi1
  have hl2:=fun M' (h1:OvS S0 H1 M')=>h1.len.trans hl1
  have hr2:(ovC f99C bs k).drop (k * 4)=[.int .u8 (o:Nat),.str s,a,b]++r:=(ovC_drop (c:=f99C)).trans hr
  have hr3:(ovC f99C bs k).drop (k * 4+2)=[a]++(b::r):=by rw [← ydj,hr2];rfl
  have hr4:(ovC f99C bs k).drop (k * 4+3)=[b]++r:=by rw [← ydj,hr2];rfl
  have hb2:(Blk.vec 25 4 (ovC f99C bs (k+1))).below H.length:=ovC_below f99C_below hbB (k+1)
  have hne:=hne (by omega)
  have hL2:=hol (k+1) hlt
  have hset:setL (ovC f99C bs k) (k * 4) [.int .u8 99,.str ⟨#[]⟩,.nils,.nils]=ovC f99C bs (k+1):=ovC_set (c:=f99C)
  generalize hA:ovC f99C bs k=A at *
  generalize hA2:ovC f99C bs (k+1)=A2 at *
  have hax:a=.nils∨∃ i n,a=.vs i n:=by
   rcases hx with ⟨-,h,-⟩|⟨i,-,-,h,-⟩
   ·exact .inl h
   ·exact .inr ⟨_,_,h⟩
  have hay:b=.nils∨∃ i n,b=.vs i n:=by
   rcases hy with ⟨-,h,-⟩|⟨i,-,-,h,-⟩
   ·exact .inl h
   ·exact .inr ⟨_,_,h⟩
  clear hx hy hat
  rcases hax with rfl|⟨ai,an,rfl⟩ <;> rcases hay with rfl|⟨bi,bn,rfl⟩
  all_goals
   (repeat' ((conv=>whnf);(first|refine yaf (by omega) ?_|refine zaq (by omega) ?_|(refine zaw _ _ Cst.h Cst.h ?_ ?_;· omega)|(refine yaf ?_ ?_;· first|exact yaa _ _|(simp;omega)|fail)|refine ydf _ rfl ?_|refine yaf ⟨⟨by omega,hne⟩,by omega,by omega⟩ ?_|refine yc1 _ ⟨_,by rw [ybg];exact hr3⟩ ?_|refine zgp S0 hc0 hl1 rfl hs0 fun H2 ho=>?_|refine yb3 _ (hk0 _ ho).at_ ?_|refine yc1 _ ⟨r,by rw [ybg];exact hr4⟩ ?_|refine zgp S1 (hc1 _ ho) (hl2 _ ho) rfl hs1 fun H3 ho3=>?_|refine yb3 _ (hk1 _ ho _ ho3).at_ ?_|refine RelN.mk A2 [] (by rw [ybg];exact hset.symm) ?_|refine yb3 _ (by (repeat' (first|assumption|exact zav _ rfl|exact za1 rfl|refine za9 (B':=?_) ?_|refine zas ?_|fail))) ?_|fail)));all_goals (conv=>whnf)
   subst hA2
   refine ⟨⟨(k+1,_),⟨by show k+1≤_;omega,(Sa++S0)++S1,S2,by simp only [yba],hat2,OvI.set (hk1 _ ho _ ho3) hb2⟩,by show l.length-(k+1)<l.length-k;omega,⟨⟨_,rfl,yae _⟩,trivial⟩,.inl ⟨rfl,rfl⟩,rfl,[],rfl,.inl rfl⟩⟩
 ·obtain rfl:k=l.length:=by omega
  have hS:Sb=[]:=by
   rw [ybf] at hat
   rw [AtFl] at hat
   exact hat.2
  subst hS
  rw [yas] at *
  have hAll:ovC f99C bs l.length=repC l.length f99C:=ovC_all (c:=f99C) hLl
  have hfin:OvS (i::Sa) H H1:=hov.last hi (by rw [hAll,zcq,if_neg (by decide),if_pos rfl,hLl,Nat.mul_div_cancel _ (by omega)])
  (repeat' ((conv=>whnf);(first|refine zal (by omega) ?_|fail)));conv=>whnf
  exact EndN.ovs hfin
mutual
theorem ovF_g:∀ x:Fo,x.fit→OvFx x
 | .mk _ _ l m,h=>⟨overTerms_v l h.2.1 h.2.2.1,ovF_step m h.2.2.2.1 (ovFs_g m h.2.2.2.2)⟩
theorem ovFs_g:∀ l:List Fo,Fo.fitL l→∀ x∈l,OvFx x
 | [],_,x,h=>by cases h
 | y::l,hg,x,h=>by
   have h1:=ovF_g y hg.1
   have h2:=ovFs_g l hg.2
   rcases yax.1 h with e|h
   ·exact e▸h1
   ·exact h2 x h
end
theorem over_v (l:List Fo) (hf:l.length * 72≤capB) (h:Fo.fitL l):OvF l:=ovF_step l hf (ovFs_g l h)
end
section
def subs:Fo→List Fo
 | .mk _ _ _ m=>m
def findF:Fo→List Int→Option Fo
 | f,[]=>some f
 | f,i::l=>if 0≤i∧i<(subs f).length then findF ((subs f).getD i.toNat fo0) l else none
theorem zbj (f:Fo) (i:Int) (l:List Int):findF f (i::l)=if 0≤i∧i<(subs f).length then findF ((subs f).getD i.toNat fo0) l else none:=by rw [findF]
theorem zcp (f:Fo):findF f []=some f:=by rw [findF]
def encI (i:Int):List AV:=[.int .i64 i]
theorem zdk:fo0.cells=[.int .u8 0,.str .empty,.sl none 0 [],.sl none 0 []]:=by
 unfold fo0
 rw [zac]
 rfl
attribute [local irreducible] VW VCall VO bits
def findA:Option Fo→AV
 | some g=>.tup [.agg g.cells,.bool true]
 | none=>.tup [.agg fo0.cells,.bool false]
def atA:Option Fo→AV
 | some g=>.tup [.agg g.cells,.int .i64 0]
 | none=>.tup [.agg fo0.cells,.int .i64 6]
theorem find_c (f:Fo) (hg:f.good) (pl:List Int) (hl:pl.length≤9223372036854775807) (H:Heap):VDet Tryz.prog 41 [.agg f.cells,.sl none pl.length (pl.flatMap encI)] H (findA (findF f pl)):=by
 obtain ⟨op,s,l,m,rfl⟩:=fo_ex f
 rw [zac]
 refine zah Tryz.E0 zab Tryz.func41 (by kernel_rfl) rfl (ybq rfl) rfl fun hcl hbl=>?_
 conv=>whnf
 rw [← zac]
 refine zcg Tryz.E0 zab (σ:=Nat×Fo) (fun p=>p.1≤pl.length∧p.2.good∧findF p.2 (pl.drop p.1)=findF (.mk op s l m) pl) (fun p=>pl.length-p.1) (fun p=>[(10,.v (.int .i64 p.1))]) (fun p=>[.box 25 p.2.cells,.box 25 [.int .u8 0,.str .empty,.nils,.nils]]) _ (0,.mk op s l m) rfl hcl [2,4,8,9] rfl ⟨yah _,hg,rfl⟩ ⟨⟨_,rfl,yae _⟩,trivial⟩ rfl (fun _ _=>rfl) ?_
 rintro ⟨j,g⟩ ⟨hj,hgg,hinv⟩
 simp only at hj hgg hinv
 clear hbl
 by_cases hlt:j<pl.length
 ·rw [zce pl 0 j hlt,zbj] at hinv
  generalize hi:pl.getD j 0=i at *
  have qi:encI (pl.getD j 0)=[.int .i64 i]:=by rw [hi];rfl
  obtain ⟨o,t,a,b,rfl⟩:=fo_ex g
  simp only [zac]
  have hbl:=zao hgg.2.2.2.2.1
  by_cases hin:0≤i∧i<(b.length:Int)
  ·rw [if_pos (by exact hin)] at hinv
   obtain ⟨h0,h1⟩:=hin
   have hlt2:i.toNat<b.length:=by omega
   have hgx:=zbc hgg.2.2.2.2.2 _ (zak b i.toNat fo0 hlt2)
   obtain ⟨o2,t2,a2,b2,e1⟩:=fo_ex (b.getD i.toNat fo0)
   have q1:(b.getD i.toNat fo0).cells=[.int .u8 o2,.str t2,.sl none a2.length (a2.flatMap Tm.cells),.sl none b2.length (b2.flatMap Fo.cells)]:=by rw [e1,zac]
   (repeat' ((conv=>whnf);(first|(refine yai ?_;first|refine zaq (by omega) ?_|refine zal (by omega) ?_|fail)|(refine zaw _ _ Cst.h Cst.h ?_ ?_;· omega)|(refine yaf ?_ ?_;· first|omega|exact yaa _ _|fail)|refine zaf 0 j rfl hlt (fun _=>rfl) qi ?_|refine zaf fo0 i.toNat (by omega) hlt2 zba q1 ?_|fail)));conv=>whnf
   rw [← q1]
   (refine ⟨⟨(j+1,b.getD i.toNat fo0),⟨by show j+1≤pl.length;omega,hgx,hinv⟩,by omega,?_,.inl ⟨rfl,rfl⟩,rfl,_,rfl,?_⟩⟩;rotate_left 1;exact .inl rfl;exact ⟨⟨_,rfl,yae _⟩,trivial⟩)
  ·rw [if_neg (by exact hin)] at hinv
   rw [← hinv]
   unfold findA
   rw [zdk]
   by_cases h0:i<0
   ·(repeat' ((conv=>whnf);(first|refine zaq (by omega) ?_|(refine yaf ?_ ?_;· first|omega|exact yaa _ _|fail)|refine zaf 0 j rfl hlt (fun _=>rfl) qi ?_|fail)));conv=>whnf
    exact yaz (by simp [below,zae]) (zf3 ⟨zej ⟨yae _,yae _,zbe,zbe,trivial⟩,yae _,trivial⟩)
   ·have h1:(b.length:Int)≤i:=by omega
    (repeat' ((conv=>whnf);(first|(refine yai ?_;first|refine zaq (by omega) ?_|refine zal (by omega) ?_|fail)|(refine yaf ?_ ?_;· first|omega|exact yaa _ _|fail)|refine zaf 0 j rfl hlt (fun _=>rfl) qi ?_|fail)));conv=>whnf
    exact yaz (by simp [below,zae]) (zf3 ⟨zej ⟨yae _,yae _,zbe,zbe,trivial⟩,yae _,trivial⟩)
 ·rw [ycp (by omega),zcp] at hinv
  rw [← hinv]
  unfold findA
  obtain ⟨o,t,a,b,rfl⟩:=fo_ex g
  simp only [zac]
  (repeat' ((conv=>whnf);(first|refine zal (by omega) ?_|fail)));conv=>whnf
  exact eT (by simp [below,zae,zau,zax])
theorem zgj:∀ (pl:List Int) (f g:Fo),f.fit→findF f pl=some g→g.fit
 | [],f,g,h,e=>by
   rw [zcp] at e
   cases e
   exact h
 | i::l,f,g,h,e=>by
   rw [zbj] at e
   split at e
   ·rename_i hi
    obtain ⟨o,t,a,b,rfl⟩:=fo_ex f
    refine zgj l _ g (zdp h.2.2.2.2 _ (zak b i.toNat fo0 ?_)) e
    have h2:i<(b.length:Int):=hi.2
    omega
   ·cases e
theorem findF_good:∀ (pl:List Int) (f g:Fo),f.good→findF f pl=some g→g.good
 | [],f,g,h,e=>by
   rw [zcp] at e
   cases e
   exact h
 | i::l,f,g,h,e=>by
   rw [zbj] at e
   split at e
   ·rename_i hi
    obtain ⟨o,t,a,b,rfl⟩:=fo_ex f
    refine findF_good l _ g (zbc h.2.2.2.2.2 _ (zak b i.toNat fo0 ?_)) e
    have h2:i<(b.length:Int):=hi.2
    omega
   ·cases e
theorem at_c (f:Fo) (hg:f.good) (hf:f.fit) (pl:List Int) (hl:pl.length≤9223372036854775807) (H:Heap):VDet Tryz.prog 24 [.agg f.cells,.sl none pl.length (pl.flatMap encI)] H (atA (findF f pl)):=by
 have h1:=find_c f hg pl hl
 have h2:=fun g (e:findF f pl=some g)=>syF_g g (zgj pl f g hf e)
 generalize findF f pl=r at *
 obtain ⟨op,s,l,m,rfl⟩:=fo_ex f
 rw [zac] at h1 ⊢
 generalize l.flatMap Tm.cells=lc at *
 generalize m.flatMap Fo.cells=mc at *
 generalize l.length=ln at *
 generalize m.length=mn at *
 cases r with
 | some g =>
   have h2:=h2 g rfl
   unfold SyF at h2
   unfold findA at h1
   unfold atA
   simp only at h1 ⊢
   obtain ⟨o,t,a,b,rfl⟩:=fo_ex g
   rw [zac] at h1 h2 ⊢
   refine zah Tryz.E0 zab Tryz.func24 (by kernel_rfl) rfl (ybq rfl) rfl fun hcl hbl=>?_
   (repeat' ((conv=>whnf);(first|(refine yai ?_;first|refine yar ?_|refine yaq rfl ?_|fail)|(refine ybe ?_;first|refine yab _ (h1 _) ?_|refine yab _ (h2 _) ?_|fail)|fail)));conv=>whnf
   exact eT (by simp [below,zae,zau,zax])
 | none =>
   unfold findA at h1
   unfold atA
   simp only at h1 ⊢
   rw [zdk] at h1 ⊢
   refine zah Tryz.E0 zab Tryz.func24 (by kernel_rfl) rfl (ybq rfl) rfl fun hcl hbl=>?_
   (repeat' ((conv=>whnf);(first|(refine yai ?_;first|refine yar ?_|refine yat rfl ?_|fail)|refine yab _ (h1 _) ?_|fail)));conv=>whnf
   exact yaz (by simp [below,zae]) (zf3 ⟨zej ⟨yae _,yae _,zbe,zbe,trivial⟩,yae _,trivial⟩)
end
section
attribute [local irreducible] VW VCall VO bits
def putF:List Int→Fo→Fo→Fo
 | [],_,p=>p
 | i::r,.mk o s l m,p=>.mk o s l (m.set i.toNat (putF r (m.getD i.toNat fo0) p))
theorem putF_cons (i:Int) (r:List Int) (o:Nat) (s:ByteArray) (l:List Tm) (m:List Fo) (p:Fo):putF (i::r) (.mk o s l m) p=.mk o s l (m.set i.toNat (putF r (m.getD i.toNat fo0) p)):=rfl
def withA (f:Fo) (pl:List Int) (p:Fo):AV:=match findF f pl with
 | some _=>.tup [.agg (putF pl f p).cells,.int .i64 0]
 | none=>.tup [.agg fo0.cells,.int .i64 6]
theorem replC_app:∀ (x y b:List AV),x.length=y.length→replC (x++b) y=some (y++b)
 | [],[],b,_=>by simp [replC]
 | u::x,v::y,b,h=>by
   rw [ycc,replC_cons,replC_app x y b (by simpa using h)]
   rfl
 | [],_::_,_,h=>by simp at h
 | _::_,[],_,h=>by simp at h
theorem setC_app:∀ (a x y b:List AV),x.length=y.length→setC (a++(x++b)) a.length y=some (a++(y++b))
 | [],x,y,b,h=>by
   have:=replC_app x y b h
   simpa [setC] using this
 | u::a,x,y,b,h=>by
   rw [ycc,List.length_cons,setC_cons,setC_app a x y b h]
   rfl
theorem setC_flat:∀ (L:List Fo) (i:Nat) (p:Fo) (b:List AV),i<L.length→setC (L.flatMap Fo.cells++b) (0+i * 4) p.cells=some ((L.set i p).flatMap Fo.cells++b)
 | L,i,p,b,hi=>by
   have e1:L=L.take i++(L.getD i fo0::L.drop (i+1)):=by
    rw [← zce L fo0 i hi,yce]
   have e2:(L.set i p)=L.take i++(p::L.drop (i+1)):=by
    rw [List.set_eq_take_append_cons_drop,if_pos hi]
   have h4:((L.take i).flatMap Fo.cells).length=0+i * 4:=by
    rw [zcw zba,yb7,yb6 (Nat.le_of_lt hi),ybn]
   have:=setC_app ((L.take i).flatMap Fo.cells) (L.getD i fo0).cells p.cells ((L.drop (i+1)).flatMap Fo.cells++b) (by rw [zba,zba])
   rw [h4] at this
   rw [e2,List.flatMap_append,ya4]
   conv=>lhs;rw [e1]
   rw [List.flatMap_append,ya4]
   simpa only [yba] using this
def FW (n0:Nat) (loc:Heap) (u v:AV):Prop:=∃ u',Frz n0 loc u u'∧Wk u' v
def FWL (n0:Nat) (loc:Heap) (u v:List AV):Prop:=∃ u',FrzL n0 loc u u'∧WkL u' v
theorem FWL.id {n0:Nat} {loc:Heap} (l:List AV):FWL n0 loc l l:=⟨l,FrzL.refl _,WkL.id _⟩
theorem FWL.cons {n0:Nat} {loc:Heap} {u v:AV} {l m:List AV} (h:FW n0 loc u v) (k:FWL n0 loc l m):FWL n0 loc (u::l) (v::m):=by
 obtain ⟨u',h1,h2⟩:=h
 obtain ⟨l',k1,k2⟩:=k
 exact ⟨u'::l',.cons h1 k1,h2,k2⟩
theorem FW.refl {n0:Nat} {loc:Heap} (v:AV):FW n0 loc v v:=⟨v,.refl v,yae v⟩
theorem FW.agg {n0:Nat} {loc:Heap} {l m:List AV} (h:FWL n0 loc l m):FW n0 loc (.agg l) (.agg m):=by
 obtain ⟨l',h1,h2⟩:=h
 exact ⟨_,.agg h1,zej h2⟩
theorem FW.tup {n0:Nat} {loc:Heap} {l m:List AV} (h:FWL n0 loc l m):FW n0 loc (.tup l) (.tup m):=by
 obtain ⟨l',h1,h2⟩:=h
 exact ⟨_,.tup h1,zf3 h2⟩
theorem endFW {H loc:Heap} {u v:AV} (hb:below H.length v) (h:FW H.length loc u v):EndN H H loc u (detR H v):=by
 obtain ⟨u',h1,h2⟩:=h
 exact EndN.detF hb h1 h2
theorem fo_cx (g:Fo):∃ (o:Nat) (t:ByteArray) (ln:Nat) (lc:List AV) (mn:Nat) (mc:List AV),g.cells=[.int .u8 (o:Nat),.str t,.sl none ln lc,.sl none mn mc]∧(∀ n,zae n lc)∧∀ n,zae n mc:=by
 obtain ⟨o,t,l,m,rfl⟩:=fo_ex g
 exact ⟨o,t,l.length,_,m.length,_,by rw [zac],fun n=>zau n l,fun n=>zax n m⟩
theorem atA_ex (x:Option Fo):∃ (o:Nat) (t:ByteArray) (ln:Nat) (lc:List AV) (mn:Nat) (mc:List AV) (e:Int),atA x=.tup [.agg [.int .u8 (o:Nat),.str t,.sl none ln lc,.sl none mn mc],.int .i64 e]∧(∀ n,zae n lc)∧∀ n,zae n mc:=by
 cases x with
 | some g =>
   obtain ⟨o,t,ln,lc,mn,mc,h1,h2,h3⟩:=fo_cx g
   exact ⟨o,t,ln,lc,mn,mc,0,by unfold atA;rw [← h1],h2,h3⟩
 | none =>
   obtain ⟨o,t,ln,lc,mn,mc,h1,h2,h3⟩:=fo_cx fo0
   exact ⟨o,t,ln,lc,mn,mc,6,by unfold atA;rw [← h1],h2,h3⟩
theorem refAt_c:∀ (pl:List Int) (f:Fo),f.good→pl.length≤9223372036854775807→∀ H,VDet Tryz.prog 34 [.agg f.cells,.sl none pl.length (pl.flatMap encI)] H (atA (findF f pl))
 | [],f,hg,hl,H=>by
   rw [zcp]
   unfold atA
   obtain ⟨op,s,l,m,rfl⟩:=fo_ex f
   rw [zac]
   refine zah Tryz.E0 zab Tryz.func34 (by kernel_rfl) rfl (ybq rfl) rfl fun hcl hbl=>?_
   (repeat' ((conv=>whnf);(first|refine yaq rfl ?_|fail)));conv=>whnf
   exact yaz (by simp only [below,zae];exact ⟨zco _ _,trivial,trivial⟩) (Wk.of_eq (by simp only [zac]))
 | i::r,f,hg,hl,H=>by
   rw [zbj]
   have hl:r.length+1≤9223372036854775807:=hl
   obtain ⟨op,s,l,m,rfl⟩:=fo_ex f
   have hgm:=hg.2.2.2.2.1
   have hml:=zao hgm
   by_cases hin:0≤i∧i<(m.length:Int)
   ·rw [if_pos (by exact hin)]
    obtain ⟨h0,h1⟩:=hin
    have hlt2:i.toNat<m.length:=by omega
    have hgx:=zbc hg.2.2.2.2.2 _ (zak m i.toNat fo0 hlt2)
    have ih:=refAt_c r (m.getD i.toNat fo0) hgx (by omega)
    rw [show subs (.mk op s l m)=m from rfl]
    obtain ⟨o2,t2,a2,b2,e1⟩:=fo_ex (m.getD i.toNat fo0)
    have q1:(m.getD i.toNat fo0).cells=[.int .u8 o2,.str t2,.sl none a2.length (a2.flatMap Tm.cells),.sl none b2.length (b2.flatMap Fo.cells)]:=by rw [e1,zac]
    rw [q1] at ih
    generalize hfx:findF (m.getD i.toNat fo0) r=x at *
    obtain ⟨o3,t3,ln,lc,mn,mc,e,hax,hb1,hb2⟩:=atA_ex x
    rw [hax] at ih ⊢
    rw [zac,ya4]
    refine zah Tryz.E0 zab Tryz.func34 (by kernel_rfl) rfl (ybq rfl) rfl fun hcl hbl=>?_
    (repeat' ((conv=>whnf);(first|refine zam [1] ?_|(refine yai ?_;first|refine yat rfl ?_|refine zal (by omega) ?_|fail)|(refine yaf ?_ ?_;· first|kernel_rfl|omega|exact yaa _ _|(simp;done)|fail)|refine NatN.mk _ rfl ?_|refine yan _ (fun _ hq X=>ih _) ?_|refine zaf fo0 i.toNat (by omega) hlt2 zba q1 ?_|refine SubN.mk (r.flatMap encI) ⟨⟨[],by rw [yas];rfl⟩,by rw [zcw (f:=encI) (sz:=1) (fun _=>rfl)];rfl⟩ ?_|refine yc1 _ (zea rfl) ?_|fail)));conv=>whnf
    refine yaz ?_ (yae _)
    simp [below,zae,hb1,hb2]
   ·rw [if_neg (by exact hin)]
    unfold atA
    rw [zdk,zac]
    by_cases h0:i<0
    ·refine zah Tryz.E0 zab Tryz.func34 (by kernel_rfl) rfl (ybq rfl) rfl fun hcl hbl=>?_
     (repeat' ((conv=>whnf);(first|(refine yai ?_;first|refine yat rfl ?_|refine zaq (by omega) ?_|fail)|(refine yaf ?_ ?_;· first|kernel_rfl|exact yaa _ _|(simp;done)|fail)|refine yc1 _ (zea rfl) ?_|refine zam [] ?_|fail)));conv=>whnf
     exact yaz (by simp [below,zae]) (zf3 ⟨zej ⟨yae _,yae _,zbe,zbe,trivial⟩,yae _,trivial⟩)
    ·have h1:(m.length:Int)≤i:=by omega
     refine zah Tryz.E0 zab Tryz.func34 (by kernel_rfl) rfl (ybq rfl) rfl fun hcl hbl=>?_
     (repeat' ((conv=>whnf);(first|(refine yai ?_;first|refine yat rfl ?_|refine zaq (by omega) ?_|refine zal (by omega) ?_|fail)|(refine yaf ?_ ?_;· first|kernel_rfl|exact yaa _ _|(simp;done)|fail)|refine yc1 _ (zea rfl) ?_|refine zam [] ?_|fail)));conv=>whnf
     exact yaz (by simp [below,zae]) (zf3 ⟨zej ⟨yae _,yae _,zbe,zbe,trivial⟩,yae _,trivial⟩)
theorem refWith_c (p:Fo) (hp:p.fit):∀ (pl:List Int) (f:Fo),f.good→f.fit→pl.length≤9223372036854775807→∀ H,VDet Tryz.prog 35 [.agg f.cells,.sl none pl.length (pl.flatMap encI),.agg p.cells] H (withA f pl p)
 | [],f,hg,hf,hl,H=>by
   unfold withA
   rw [zcp]
   obtain ⟨op,s,l,m,rfl⟩:=fo_ex f
   obtain ⟨o3,t3,ln,lc,mn,mc,hpc,hb1,hb2⟩:=fo_cx p
   simp only [putF]
   rw [zac,hpc]
   refine zah Tryz.E0 zab Tryz.func35 (by kernel_rfl) rfl (ybq rfl) rfl fun hcl hbl=>?_
   (repeat' ((conv=>whnf);(first|refine yaq rfl ?_|fail)));conv=>whnf
   exact eT (by simp [below,zae,hb1,hb2])
 | i::r,f,hg,hf,hl,H=>by
   have hl:r.length+1≤9223372036854775807:=hl
   unfold withA
   rw [zbj]
   obtain ⟨op,s,l,m,rfl⟩:=fo_ex f
   have hgm:=hg.2.2.2.2.1
   have hml:=zao hgm
   obtain ⟨o3,t3,ln,lc,mn,mc,hpc,hb1,hb2⟩:=fo_cx p
   by_cases hin:0≤i∧i<(m.length:Int)
   ·rw [if_pos (by exact hin)]
    obtain ⟨h0,h1⟩:=hin
    have hlt2:i.toNat<m.length:=by omega
    have hgx:=zbc hg.2.2.2.2.2 _ (zak m i.toNat fo0 hlt2)
    have ih:=refWith_c p hp r (m.getD i.toNat fo0) hgx (zdp hf.2.2.2.2 _ (zak m i.toNat fo0 hlt2)) (by omega)
    unfold withA at ih
    rw [show subs (.mk op s l m)=m from rfl,putF_cons]
    obtain ⟨o2,t2,a2,b2,e1⟩:=fo_ex (m.getD i.toNat fo0)
    have q1:(m.getD i.toNat fo0).cells=[.int .u8 o2,.str t2,.sl none a2.length (a2.flatMap Tm.cells),.sl none b2.length (b2.flatMap Fo.cells)]:=by rw [e1,zac]
    rw [q1,hpc] at ih
    rw [hpc]
    cases hfx:findF (m.getD i.toNat fo0) r with
    | none =>
      rw [hfx] at ih
      simp only at ih ⊢
      rw [zdk] at ih ⊢
      rw [zac,ya4]
      refine zah Tryz.E0 zab Tryz.func35 (by kernel_rfl) rfl (ybq rfl) rfl fun hcl hbl=>?_
      (repeat' ((conv=>whnf);(first|refine zam [3] ?_|(refine yai ?_;first|refine yar ?_|refine yat rfl ?_|refine zal (by omega) ?_|fail)|(refine yaf ?_ ?_;· first|kernel_rfl|omega|exact yaa _ _|(simp;done)|fail)|refine NatN.mk _ rfl ?_|refine yan _ (fun _ hq X=>ih _) ?_|refine zaf fo0 i.toNat (by omega) hlt2 zba q1 ?_|refine SubN.mk (r.flatMap encI) ⟨⟨[],by rw [yas];rfl⟩,by rw [zcw (f:=encI) (sz:=1) (fun _=>rfl)];rfl⟩ ?_|refine yc1 _ (zea rfl) ?_|fail)));conv=>whnf
      exact yaz (by simp [below,zae]) (zf3 ⟨zej ⟨yae _,yae _,zbe,zbe,trivial⟩,yae _,trivial⟩)
    | some g =>
      rw [hfx] at ih
      simp only at ih ⊢
      generalize putF r (m.getD i.toNat fo0) p=y at *
      have hset:=fun b=>setC_flat m i.toNat y b hlt2
      obtain ⟨yo,yt,yn,yc,yn2,yc2,hyc,hy1,hy2⟩:=fo_cx y
      rw [hyc] at ih hset
      have hmf:=hf.2.2.2.1
      unfold capB at hmf
      rw [zac,zac,ya4]
      have hbs:∀ n,zae n ((m.set i.toNat y).flatMap Fo.cells):=fun n=>zax n _
      rw [List.length_set]
      have hst:∀ z loc,lget loc 4=some (.box 25 (m.flatMap Fo.cells++List.replicate z AV.junk))→zep Tryz.T 25 loc (some (.lp 4 (0+i.toNat * 4))) (some (.agg [.int .u8 (yo:Nat),.str yt,.sl none yn yc,.sl none yn2 yc2]))=.upd 4 (.box 25 ((m.set i.toNat y).flatMap Fo.cells++List.replicate z AV.junk)) none:=fun z loc h=>zdd rfl rfl rfl h (hset _)
      refine zah Tryz.E0 zab Tryz.func35 (by kernel_rfl) rfl (ybq rfl) rfl fun hcl hbl=>?_
      (repeat' ((conv=>whnf);(first|refine zam [3] ?_|refine OrN.r (OrN.r (OrN.l ?_))|(refine yai ?_;first|refine yar ?_|refine yaq rfl ?_|refine yat rfl ?_|refine zal (by omega) ?_|fail)|(refine yaf ?_ ?_;· first|kernel_rfl|omega|exact yaa _ _|(simp;done)|fail)|refine NatN.mk _ rfl ?_|refine yan _ (fun _ hq X=>ih _) ?_|refine zaf fo0 i.toNat (by omega) hlt2 zba q1 ?_|refine SubN.mk (r.flatMap encI) ⟨⟨[],by rw [yas];rfl⟩,by rw [zcw (f:=encI) (sz:=1) (fun _=>rfl)];rfl⟩ ?_|refine yc1 _ (zea rfl) ?_|fail)));conv=>whnf
      refine yaf ⟨by omega,rfl,zcw zba _,by dsimp only;omega,by omega⟩ ?_
      refine BlkUN.box fun s2=>?_
      (repeat' ((conv=>whnf);(first|refine zam [4] ?_|(refine yaf ?_ ?_;· first|exact yaa _ _|(simp;done)|fail)|refine PtrN.loc _ rfl ?_|refine yc1 _ (zea rfl) ?_|refine OfsN.at_ (by omega) ?_|fail)));conv=>whnf
      refine Eq.mpr (congrArg (@SR.rec (fun _=>Prop) _ _ _ _ _ _ _ _ _ _ _ _ _ _ _ _ _ _ _ _ _) (hst s2 [.box 25 [.int .u8 op,.str s,.sl none l.length (l.flatMap Tm.cells),.ms (H.length+(0+1+1+1+1)) 0 (0+m.length)],.box 25 [.int .u8 o3,.str t3,.sl none ln lc,.sl none mn mc],.box 25 [.int .u8 0,.str .empty,.nils,.nils],.box 25 [.int .u8 yo,.str yt,.sl none yn yc,.sl none yn2 yc2],.box 25 (m.flatMap Fo.cells++List.replicate s2 AV.junk)] rfl)) ?_
      (repeat' ((conv=>whnf);(first|refine yaf (by kernel_rfl) ?_|fail)));conv=>whnf
      rw [show 0+m.length=m.length from ybn _]
      refine endFW ?_ (FW.tup (FWL.cons (FW.agg (FWL.cons (FW.refl _) (FWL.cons (FW.refl _) (FWL.cons (FW.refl _) (FWL.cons ⟨_,.ms (show lget _ (0+1+1+1+1)=some (Blk.box 25 ((m.set i.toNat y).flatMap Fo.cells++List.replicate s2 AV.junk)) from rfl) rfl (FrzL.refl _),wk_pre _ _ _⟩ (FWL.id [])))))) (FWL.id [_])))
      simp [below,zae,zau,hbs]
   ·rw [if_neg (by exact hin)]
    rw [zdk,zac,hpc]
    by_cases h0:i<0
    ·refine zah Tryz.E0 zab Tryz.func35 (by kernel_rfl) rfl (ybq rfl) rfl fun hcl hbl=>?_
     (repeat' ((conv=>whnf);(first|(refine yai ?_;first|refine yat rfl ?_|refine zaq (by omega) ?_|fail)|(refine yaf ?_ ?_;· first|kernel_rfl|exact yaa _ _|(simp;done)|fail)|refine yc1 _ (zea rfl) ?_|refine zam [] ?_|fail)));conv=>whnf
     exact yaz (by simp [below,zae]) (zf3 ⟨zej ⟨yae _,yae _,zbe,zbe,trivial⟩,yae _,trivial⟩)
    ·have h1:(m.length:Int)≤i:=by omega
     refine zah Tryz.E0 zab Tryz.func35 (by kernel_rfl) rfl (ybq rfl) rfl fun hcl hbl=>?_
     (repeat' ((conv=>whnf);(first|(refine yai ?_;first|refine yat rfl ?_|refine zaq (by omega) ?_|refine zal (by omega) ?_|fail)|(refine yaf ?_ ?_;· first|kernel_rfl|exact yaa _ _|(simp;done)|fail)|refine yc1 _ (zea rfl) ?_|refine zam [] ?_|fail)));conv=>whnf
     exact yaz (by simp [below,zae]) (zf3 ⟨zej ⟨yae _,yae _,zbe,zbe,trivial⟩,yae _,trivial⟩)
theorem at_v (f:Fo) (hg:f.good) (pl:List Int) (hl:pl.length≤9223372036854775807) (go:Nat) (gs:ByteArray) (gl:List Tm) (gm:List Fo) (hfd:findF f pl=some (.mk go gs gl gm)) (hgf:(Fo.mk go gs gl gm).fit) (H:Heap) :
  VCall Tryz.prog 24 [.agg f.cells,.sl none pl.length (pl.flatMap encI)] H fun r H'=>r=.tup [.agg (layF (.mk go gs gl gm) (H.length+3)).1,.int .i64 0]∧H'=H++(.box 25 f.cells::.box 25 (layF (.mk go gs gl gm) (H.length+3)).1::.box 25 (Fo.mk go gs gl gm).cells::(layF (.mk go gs gl gm) (H.length+3)).2):=by
 have h1:=find_c f hg pl hl
 rw [hfd] at h1
 have h2:∀ B1 B2 B3,VCall Tryz.prog 42 [.agg (Fo.mk go gs gl gm).cells] (H++[B1,B2,B3]) fun r H'=>r=.agg (layF (.mk go gs gl gm) (H.length+3)).1∧H'=(H++[B1,B2,B3])++(layF (.mk go gs gl gm) (H.length+3)).2:=fun B1 B2 B3=>by
  have:=cpF_g _ hgf (H++[B1,B2,B3])
  rw [ya3] at this
  exact this
 obtain ⟨fo,fs,fl,flc,fm,fmc,ef⟩:∃ o s ln lc mn mc,f.cells=[.int .u8 (o:Nat),.str s,.sl none ln lc,.sl none mn mc]:=by
  obtain ⟨o,s,l,m,rfl⟩:=fo_ex f
  rw [zac]
  exact ⟨_,_,_,_,_,_,rfl⟩
 have hXl:=zca (.mk go gs gl gm) (H.length+3)
 have q2:(layF (.mk go gs gl gm) (H.length+3)).1=[.int .u8 go,.str gs,hV gl.length (H.length+3+2),hV gm.length (H.length+3+2+hN gl.length (nTl gl))]:=by rw [layF]
 have e1:findA (some (Fo.mk go gs gl gm))=.tup [.agg (Fo.mk go gs gl gm).cells,.bool true]:=rfl
 rw [e1] at h1
 rw [zac] at h1 h2 ⊢
 rw [ef] at h1 ⊢
 rw [q2] at h2 ⊢
 have hu:=hV_or gl.length (H.length+3+2)
 have hw:=hV_or gm.length (H.length+3+2+hN gl.length (nTl gl))
 generalize hV gl.length (H.length+3+2)=u at *
 generalize hV gm.length (H.length+3+2+hN gl.length (nTl gl))=w at *
 generalize (layF (.mk go gs gl gm) (H.length+3)).2=X at *
 generalize gl.flatMap Tm.cells=glc at *
 generalize gm.flatMap Fo.cells=gmc at *
 generalize nF (.mk go gs gl gm)=nx at *
 generalize gl.length=gln at *
 generalize gm.length=gmn at *
 have hk1:∀ B1 B2 B3:Blk,(B1::B2::B3::X:Heap).length=3+nx:=fun B1 B2 B3=>by simp only [List.length_cons,hXl];omega
 clear hfd hgf q2 ef
 rcases hu with rfl|⟨iu,mu,rfl⟩ <;> rcases hw with rfl|⟨iw,mw,rfl⟩
 all_goals
  refine za7 Tryz.E0 zab Tryz.func24 (by kernel_rfl) rfl (ybq rfl) rfl fun hcl hbl=>?_
  (repeat' ((conv=>whnf);(first|(refine yai ?_;first|refine yar ?_|refine yaq rfl ?_|fail)|refine yab _ (h1 _) ?_|refine ydg _ _ _ (3+nx) (h2 _ _ _) rfl rfl (hk1 _ _ _) ?_|fail)));all_goals (conv=>whnf)
  exact ydh _ (yae _) ⟨rfl,by simp⟩
end
theorem AtFl.part {H:Heap}:∀ (m:List Fo) {bs:List AV} {Sm:List Nat} (i:Nat),AtFl H m bs Sm→Sm.Nodup→i<m.length →
  ∃ S1,AtF H (m.getD i fo0) ((bs.drop (4 * i)).take 4) S1∧(∀ x∈S1,x∈Sm)∧S1.Nodup ∧
   ∀ (H2:Heap) (p:Fo) (c':List AV) (T:List Nat),AtF H2 p c' T→T.Nodup→(∀ x∈T,x∈Sm→x∈S1)→(∀ x∈Sm,x ∉ S1→H2[x]? = H[x]?) →
    ∃ S2,AtFl H2 (m.set i p) (bs.take (4 * i)++(c'++bs.drop (4 * i+4))) S2∧S2.Nodup∧∀ x∈S2,x∈T∨(x∈Sm∧x ∉ S1)
 | [],bs,Sm,i,h,hn,hi=>absurd hi (Nat.not_lt_zero _)
 | x::m,bs,Sm,0,h,hn,hi=>by
   rw [AtFl] at h
   obtain ⟨c1,c2,S1,S2,rfl,rfl,h3,h4⟩:=h
   have hl:=AtF.len x h3
   obtain ⟨n1,n2,n3⟩:=List.nodup_append.1 hn
   refine ⟨S1,?_,fun y hy=>List.mem_append_left _ hy,n1,fun H2 p c' T hp hT hd hs=>⟨T++S2,?_,?_,fun y hy=>?_⟩⟩
   ·have e:((c1++c2).drop (4 * 0)).take 4=c1:=by
     rw [Nat.mul_zero,List.drop_zero,← hl,List.take_left]
    rw [e]
    exact h3
   ·have e:(c1++c2).take (4 * 0)++(c'++(c1++c2).drop (4 * 0+4))=c'++c2:=by
     rw [Nat.mul_zero,ybn,List.take_zero,yc9,← hl,List.drop_left]
    rw [e,List.set_cons_zero,AtFl]
    refine ⟨c',c2,T,S2,rfl,rfl,hp,AtFl.mono m h4 fun y hy=>hs y (List.mem_append_right _ hy) fun hy1=>n3 y hy1 y hy rfl⟩
   ·refine List.nodup_append.2 ⟨hT,n2,fun a ha b hb e=>?_⟩
    subst e
    exact n3 a (hd a ha (List.mem_append_right _ hb)) a hb rfl
   ·rcases ybd.1 hy with hy|hy
    ·exact .inl hy
    ·exact .inr ⟨List.mem_append_right _ hy,fun hy1=>n3 y hy1 y hy rfl⟩
 | x::m,bs,Sm,i+1,h,hn,hi=>by
   rw [AtFl] at h
   obtain ⟨c1,c2,S1,S2,rfl,rfl,h3,h4⟩:=h
   have hl:=AtF.len x h3
   obtain ⟨n1,n2,n3⟩:=List.nodup_append.1 hn
   obtain ⟨T1,a1,a2,a3,a4⟩:=AtFl.part m i h4 n2 (by simpa using hi)
   have e1:(c1++c2).drop (4 * (i+1))=c2.drop (4 * i):=by
    rw [List.drop_append,hl,ycp (by omega),yc9,show 4 * (i+1)-4=4 * i by omega]
   have e2:(c1++c2).take (4 * (i+1))=c1++c2.take (4 * i):=by
    rw [List.take_append,hl,yby (by omega),show 4 * (i+1)-4=4 * i by omega]
   have e3:(c1++c2).drop (4 * (i+1)+4)=c2.drop (4 * i+4):=by
    rw [List.drop_append,hl,ycp (by omega),yc9,show 4 * (i+1)+4-4=4 * i+4 by omega]
   refine ⟨T1,by rw [e1];exact a1,fun y hy=>List.mem_append_right _ (a2 y hy),a3,fun H2 p c' T hp hT hd hs=>?_⟩
   obtain ⟨U,b1,b2,b3⟩:=a4 H2 p c' T hp hT (fun y hy hy2=>hd y hy (List.mem_append_right _ hy2)) (fun y hy hy2=>hs y (List.mem_append_right _ hy) hy2)
   have hx1:∀ y∈S1,y ∉ T1:=fun y hy hy2=>n3 y hy y (a2 y hy2) rfl
   refine ⟨S1++U,?_,?_,fun y hy=>?_⟩
   ·rw [e2,e3,List.set_cons_succ,AtFl]
    exact ⟨c1,_,S1,U,by rw [yba],rfl,AtF.mono x h3 fun y hy=>hs y (List.mem_append_left _ hy) (hx1 y hy),b1⟩
   ·refine List.nodup_append.2 ⟨n1,b2,fun a ha b hb e=>?_⟩
    subst e
    rcases b3 a hb with hb|hb
    ·exact hx1 a ha (hd a hb (List.mem_append_left _ ha))
    ·exact n3 a ha a hb.1 rfl
   ·rcases ybd.1 hy with hy|hy
    ·exact .inr ⟨List.mem_append_left _ hy,hx1 y hy⟩
    ·rcases b3 y hy with hy|hy
     ·exact .inl hy
     ·exact .inr ⟨List.mem_append_right _ hy.1,hy.2⟩
theorem putF_app1:∀ (pl:List Int) (f g p:Fo) (i:Int),findF f pl=some g→putF (pl++[i]) f p=putF pl f (putF [i] g p)
 | [],f,g,p,i,h=>by
   rw [zcp] at h
   cases h
   rfl
 | j::r,.mk o s l m,g,p,i,h=>by
   rw [zbj] at h
   split at h
   ·rw [ycc,putF_cons,putF_cons]
    exact congrArg (fun y=>Fo.mk o s l (m.set j.toNat y)) (putF_app1 r _ g p i h)
   ·cases h
def upB (o:Nat) (c:List AV):Blk→Blk
 | .vec t z bs=>.vec t z (bs.take o++(c++bs.drop (o+4)))
 | B=>B
theorem upB_id {o:Nat} {c bs:List AV} {t:TypeId} {z:Nat} (h:(bs.drop o).take 4=c):upB o c (.vec t z bs)=.vec t z bs:=by
 have e:bs.drop (o+4)=(bs.drop o).drop 4:=by rw [ydj]
 simp only [upB]
 rw [e,← h,yce,yce]
def Adr.new (H:Heap) (c':List AV) (x:Nat):Adr→Option Blk
 | .top=>H[x]?
 | .blk i o=>if x=i then (H[x]?).map (upB o c') else H[x]?
def Adr.cells (cs c':List AV):Adr→List AV
 | .top=>c'
 | .blk _ _=>cs
def Adr.here (H:Heap) (cs:List AV) (S Sg:List Nat) (c:List AV):Adr→Prop
 | .top=>c=cs
 | .blk i o=>i∈S∧i ∉ Sg∧∃ n bs,H[i]? = some (.vec 25 4 bs)∧bs.length=n * 4∧o+4≤bs.length∧(bs.drop o).take 4=c
structure Hole (H:Heap) (f:Fo) (cs:List AV) (S:List Nat) (pl:List Int) (g:Fo) (adr:Adr) (c:List AV) (Sg:List Nat):Prop where
 fnd:findF f pl=some g
 tree:AtF H g c Sg
 sub:∀ x∈Sg,x∈S
 nd:Sg.Nodup
 here:adr.here H cs S Sg c
 put:∀ (H2:Heap) (p:Fo) (c':List AV) (T:List Nat),AtF H2 p c' T→T.Nodup→(∀ x∈T,x∈S→x∈Sg)→(∀ x∈S,x ∉ Sg→H2[x]? = adr.new H c' x) →
  ∃ S2,AtF H2 (putF pl f p) (adr.cells cs c') S2∧S2.Nodup∧∀ x∈S2,x∈T∨x∈S
theorem Hole.nil {H:Heap} {f:Fo} {cs:List AV} {S:List Nat} (h:AtF H f cs S) (hn:S.Nodup):Hole H f cs S [] f .top cs S where
 fnd:=zcp f
 tree:=h
 sub _ hx:=hx
 nd:=hn
 here:=rfl
 put H2 p c' T h1 h2 _ _:=⟨T,h1,h2,fun _ hx=>.inl hx⟩
theorem Adr.new_id {H:Heap} {cs:List AV} {S Sg:List Nat} {c:List AV} {adr:Adr} (h:adr.here H cs S Sg c) (x:Nat):adr.new H c x=H[x]? := by
 cases adr with
 | top=>rfl
 | blk i o =>
   obtain ⟨-,-,n,bs,h1,-,-,h2⟩:=h
   simp only [Adr.new]
   split
   ·rename_i e
    subst e
    rw [h1,ya8,upB_id h2]
   ·rfl
theorem Adr.cells_id {H:Heap} {cs:List AV} {S Sg:List Nat} {c:List AV} {adr:Adr} (h:adr.here H cs S Sg c):adr.cells cs c=cs:=by
 cases adr with
 | top=>exact h
 | blk i o=>rfl
theorem Hole.step {H:Heap} {f:Fo} {cs:List AV} {S:List Nat} {pl:List Int} {o:Nat} {s:ByteArray} {l:List Tm} {m:List Fo} {adr:Adr} {c:List AV} {Sg:List Nat} (h:Hole H f cs S pl (.mk o s l m) adr c Sg) (i:Int) (h0:0≤i) (h1:i<m.length) :
  ∃ a j bs S1,c=[.int .u8 (o:Nat),.str s,a,.vs j m.length]∧j∈S∧H[j]? = some (.vec 25 4 bs)∧bs.length=m.length * 4∧Hole H f cs S (pl++[i]) (m.getD i.toNat fo0) (.blk j (4 * i.toNat)) ((bs.drop (4 * i.toNat)).take 4) S1:=by
 have ht:=h.tree
 have hnd:=h.nd
 rw [AtF] at ht
 obtain ⟨a,b,Sl,Sm',rfl,rfl,ha,hb⟩:=ht
 rcases hb with ⟨hb,-,-⟩|⟨j,bs,Sm,rfl,hj,rfl,hm⟩
 ·omega
 obtain ⟨n1,n2,n3⟩:=List.nodup_append.1 hnd
 obtain ⟨n4,n5⟩:=List.nodup_cons.1 n2
 have hbl:=AtFl.len m hm
 obtain ⟨S1,a1,a2,a3,a4⟩:=AtFl.part m i.toNat hm n5 (by omega)
 have hjS:j∈S:=h.sub j (List.mem_append_right _ (ya9 ..))
 have hj1:j ∉ S1:=fun hx=>n4 (a2 j hx)
 have hSm:∀ x∈Sm,x∈Sl++j::Sm:=fun x hx=>List.mem_append_right _ (ya2 _ hx)
 refine ⟨a,j,bs,S1,rfl,hjS,hj,hbl,⟨?_,a1,fun x hx=>h.sub x (hSm x (a2 x hx)),a3,⟨hjS,hj1,m.length,bs,hj,hbl,by omega,rfl⟩,fun H2 p c' T hp hT hd hs=>?_⟩⟩
 ·have e:∀ (q:List Int) (f g:Fo),findF f q=some g→findF f (q++[i])=findF g [i]:=by
   intro q
   induction q with
   | nil=>intro f g hq;rw [zcp] at hq;cases hq;rfl
   | cons k r ih =>
     intro f g hq
     rw [zbj] at hq
     split at hq
     ·rename_i hk
      rw [ycc,zbj,if_pos hk]
      exact ih _ g hq
     ·cases hq
  rw [e pl f _ h.fnd,zbj,if_pos ⟨h0,h1⟩,zcp]
  rfl
 ·have hH:∀ x∈S,x ∉ S1→x≠j→H2[x]? = H[x]? := fun x hx hx1 hxj=>by
   have:=hs x hx hx1
   simp only [Adr.new,if_neg hxj] at this
   exact this
  have hHj:H2[j]? = some (.vec 25 4 (bs.take (4 * i.toNat)++(c'++bs.drop (4 * i.toNat+4)))):=by
   have:=hs j hjS hj1
   simp only [Adr.new,if_true,hj,ya8,upB] at this
   exact this
  obtain ⟨U,b1,b2,b3⟩:=a4 H2 p c' T hp hT (fun x hx hx2=>hd x hx (h.sub x (hSm x hx2))) (fun x hx hx1=>hH x (h.sub x (hSm x hx)) hx1 fun e=>n4 (e▸hx))
  have hUS:∀ x∈U,x∈S→x∈Sm:=fun x hx hxS=>by
   rcases b3 x hx with hx|hx
   ·exact a2 x (hd x hx hxS)
   ·exact hx.1
  have hSl:∀ x∈Sl,x∈S:=fun x hx=>h.sub x (List.mem_append_left _ hx)
  have hT':(Sl++j::U).Nodup:=by
   refine List.nodup_append.2 ⟨n1,List.nodup_cons.2 ⟨fun hx=>n4 (hUS j hx hjS),b2⟩,fun x hx y hy e=>?_⟩
   subst e
   rcases yax.1 hy with rfl|hy
   ·exact n3 x hx x (ya9 ..) rfl
   ·exact n3 x hx x (ya2 _ (hUS x hy (hSl x hx))) rfl
  have hnew:AtF H2 (.mk o s l (m.set i.toNat p)) [.int .u8 (o:Nat),.str s,a,.vs j m.length] (Sl++j::U):=by
   rw [AtF]
   refine ⟨a,.vs j m.length,Sl,j::U,rfl,rfl,ha.mono (fun x hx=>?_) (fun bs' S' hS hb=>AtTl.mono l hb fun x hx=>?_),.inr ⟨j,_,U,by rw [List.length_set],hHj,rfl,b1⟩⟩
   ·exact hH x (hSl x hx) (fun hx1=>n3 x hx x (ya2 _ (a2 x hx1)) rfl) fun e=>n3 x hx j (ya9 ..) e
   ·have hx:=hS x hx
    exact hH x (hSl x hx) (fun hx1=>n3 x hx x (ya2 _ (a2 x hx1)) rfl) fun e=>n3 x hx j (ya9 ..) e
  obtain ⟨S2,d1,d2,d3⟩:=h.put H2 _ _ _ hnew hT' (fun x hx hxS=>by
   rcases ybd.1 hx with hx|hx
   ·exact List.mem_append_left _ hx
   ·rcases yax.1 hx with rfl|hx
    ·exact List.mem_append_right _ (ya9 ..)
    ·exact hSm x (hUS x hx hxS)) (fun x hx hxg=>by
   rw [Adr.new_id h.here]
   exact hH x hx (fun hx1=>hxg (hSm x (a2 x hx1))) fun e=>hxg (e▸List.mem_append_right _ (ya9 ..)))
  refine ⟨S2,?_,d2,fun x hx=>?_⟩
  ·rw [putF_app1 pl f _ p i h.fnd]
   rw [Adr.cells_id h.here] at d1
   exact d1
  ·rcases d3 x hx with hx|hx
   ·rcases ybd.1 hx with hx|hx
    ·exact .inr (hSl x hx)
    ·rcases yax.1 hx with rfl|hx
     ·exact .inr hjS
     ·rcases b3 x hx with hx|hx
      ·exact .inl hx
      ·exact .inr (h.sub x (hSm x hx.1))
   ·exact .inr hx
theorem zdq {H M M2 Z:Heap} {f g p:Fo} {cs c c':List AV} {S Sg:List Nat} {pl:List Int} {adr:Adr} {nx nz:Nat} (hh:Hole M f cs S pl g adr c Sg) (hS:InS (H.length+4) nx S) (hlen:H.length+4+nx≤M.length) (h2:M2.length=M.length) (hpre:∃ Y,M2=H++Y)
  (hsame:∀ x∈S,x ∉ Sg→M2[x]? = adr.new M c' x) (hZ:∃ T,AtF (M2++Z) p c' T∧InS M.length nz T):∃ S2 X,M2++Z=H++X∧AtF (M2++Z) (putF pl f p) (adr.cells cs c') S2∧S2.Nodup∧∀ x∈S2,H.length≤x:=by
 obtain ⟨T,t1,t2⟩:=hZ
 obtain ⟨Y,rfl⟩:=hpre
 obtain ⟨S2,d1,d2,d3⟩:=hh.put _ p c' T t1 t2.1 (fun x hx hxS=>by
  have h3:=t2.2 x hx
  have h4:=hS.2 x hxS
  omega) fun x hx hxg=>by
  have h4:=hS.2 x hx
  rw [yaj (by omega)]
  exact hsame x hx hxg
 refine ⟨S2,Y++Z,by rw [yba],d1,d2,fun x hx=>?_⟩
 rcases d3 x hx with h|h
 ·have:=t2.2 x h;omega
 ·have:=hS.2 x h;omega
section
attribute [local irreducible] VW VCall VO bits
theorem zd3 {α:Type}:∀ (l:List α) (y:α),snocC l y=some (l++[y])
 | [],y=>rfl
 | x::l,y=>by rw [snocC_cons,zd3 l y];rfl
def adrV (q n:Nat):Adr→AV
 | .top=>.ptr q 0
 | .blk i o=>.vp i n o
theorem with_v (f p:Fo) (hg:f.good) (hf:f.fit) (hp:p.fit) (pl:List Int) (hl:pl.length≤9223372036854775807) (g:Fo) (hfd:findF f pl=some g) (H:Heap) :
  VCall Tryz.prog 14 [.agg f.cells,.sl none pl.length (pl.flatMap encI),.agg p.cells] H fun r H'=>∃ cs S X,r=.tup [.agg cs,.int .i64 0]∧H'=H++X∧AtF H' (putF pl f p) cs S∧S.Nodup∧∀ x∈S,H.length≤x:=by
 have h1:=find_c f hg pl hl
 rw [hfd] at h1
 have h2:∀ B1 B2 B3 B4,VCall Tryz.prog 42 [.agg f.cells] (H++[B1,B2,B3,B4]) fun r H'=>r=.agg (layF f (H.length+4)).1∧H'=(H++[B1,B2,B3,B4])++(layF f (H.length+4)).2:=fun B1 B2 B3 B4=>by
  have:=cpF_g _ hf (H++[B1,B2,B3,B4])
  rw [ya3] at this
  exact this
 have e1:findA (some g)=.tup [.agg g.cells,.bool true]:=rfl
 rw [e1] at h1
 obtain ⟨go,gs,gl,gm,rfl⟩:=fo_ex g
 obtain ⟨fo,fs,fl,fm,rfl⟩:=fo_ex f
 obtain ⟨po,ps,ql,qm,rfl⟩:=fo_ex p
 have hXl:=zca (.mk fo fs fl fm) (H.length+4)
 have q2:(layF (.mk fo fs fl fm) (H.length+4)).1=[.int .u8 fo,.str fs,hV fl.length (H.length+4+2),hV fm.length (H.length+4+2+hN fl.length (nTl fl))]:=by rw [layF]
 have hAt:=fun M=>zdi M (.mk fo fs fl fm) (H.length+4)
 simp only [q2] at h2 hAt
 rw [zac] at h1 h2
 rw [zac] at h1
 rw [zac,zac]
 have hu:=hV_or fl.length (H.length+4+2)
 have hw:=hV_or fm.length (H.length+4+2+hN fl.length (nTl fl))
 generalize hV fl.length (H.length+4+2)=u at *
 generalize hV fm.length (H.length+4+2+hN fl.length (nTl fl))=w at *
 generalize (layF (.mk fo fs fl fm) (H.length+4)).2=X at *
 generalize nF (.mk fo fs fl fm)=nx at *
 have hk1:∀ B1 B2 B3 B4:Blk,(B1::B2::B3::B4::X:Heap).length=nx+4:=fun B1 B2 B3 B4=>by simp only [List.length_cons,hXl]
 have hlg:∀ B,lget (X++[B]) nx=some B:=fun B=>by
  rw [zat,yam (by omega),hXl,ycl]
  rfl
 have hls:∀ B C,lset (X++[B]) nx C=some (X++[C]):=fun B C=>by
  rw [zcc (by simp;omega),ybv _ _ (by omega),hXl,ycl]
  rfl
 have hlg4:∀ B1 B2 B3 B4 B,lget (([B1,B2,B3,B4]++X)++[B]) (nx+4)=some B:=fun B1 B2 B3 B4 B=>by
  rw [zat,yam (by simp;omega)]
  simp [hXl]
 have hls4:∀ B1 B2 B3 B4 B C,lset (([B1,B2,B3,B4]++X)++[B]) (nx+4) C=some (([B1,B2,B3,B4]++X)++[C]):=fun B1 B2 B3 B4 B C=>by
  rw [zcc (by simp;omega),ybv _ _ (by simp;omega)]
  simp [hXl]
 have hpre:∀ {B0 B1 B2 B3 B:Blk} (M:Heap),H++(([B0,B1,B2,B3]++X)++[B])=M→M[H.length+1]? = some B1∧M[H.length+2]? = some B2∧M[H.length+(nx+4)]? = some B∧∃ S,AtF M (.mk fo fs fl fm) [.int .u8 fo,.str fs,u,w] S∧InS (H.length+4) nx S∧∃ Y,M=H++Y:=fun {B0 B1 B2 B3 B} M hM=>by
  subst hM
  have g1:∀ j,(H++(([B0,B1,B2,B3]++X)++[B]))[H.length+j]? = (([B0,B1,B2,B3]++X)++[B])[j]? := fun j=>by
   rw [yam (by omega),ybh]
  refine ⟨by rw [g1];rfl,by rw [g1];rfl,by rw [g1,← zat];exact hlg4 _ _ _ _ _,?_⟩
  obtain ⟨S,a1,a2⟩:=hAt (H++(([B0,B1,B2,B3]++X)++[B])) fun j C hj=>by
   rw [yc8,g1,yaj (by have:=(yac.1 hj).1;simp;omega)]
   rw [yam (by simp)]
   simpa using hj
  exact ⟨S,a1,a2,_,rfl⟩
 rcases hu with rfl|⟨iu,mu,rfl⟩ <;> rcases hw with rfl|⟨iw,mw,rfl⟩
 ·refine fn_cut Tryz.E0 zab 4 Tryz.func14 (by kernel_rfl) rfl (ybq rfl) rfl fun hcl hbl=>?_
  clear hbl
  (repeat' ((conv=>whnf);(first|(refine yai ?_;first|refine yar ?_|refine yaq rfl ?_|fail)|refine yab _ (h1 _) ?_|refine ydg _ X _ (nx+4) (h2 _ _ _ _) rfl rfl (hk1 _ _ _ _) ?_|fail)));conv=>whnf
  have hst:∀ B1 B2 B3 B4,zep Tryz.T 25 (([B1,B2,B3,B4]++X)++[.box 25 [.int .u8 0,.str .empty,.nils,.nils]]) (some (.lp (nx+4) 0)) (some (.agg [.int .u8 fo,.str fs,.nils,.nils]))=.upd (nx+4) (.box 25 [.int .u8 fo,.str fs,.nils,.nils]) none:=fun B1 B2 B3 B4=>zdd rfl rfl rfl (hlg4 _ _ _ _ _) rfl
  rw [zd3]
  conv=>whnf
  refine Eq.mpr (congrArg (@SR.rec (fun _=>Prop) _ _ _ _ _ _ _ _ _ _ _ _ _ _ _ _ _ _ _ _ _) (hst (.box 25 [.int .u8 fo,.str fs,.sl none fl.length (fl.flatMap Tm.cells),.sl none fm.length (fm.flatMap Fo.cells)]) (.box 25 [.int .u8 po,.str ps,.sl none ql.length (ql.flatMap Tm.cells),.sl none qm.length (qm.flatMap Fo.cells)]) (.box 25 [.int .u8 0,.str .empty,.nils,.nils]) (.box 25 [.int .u8 go,.str gs,.sl none gl.length (gl.flatMap Tm.cells),.sl none gm.length (gm.flatMap Fo.cells)]))) ?_
  conv=>whnf
  rw [hls4]
  conv=>whnf
  refine zei [1,5,6,10,11] (H1:=H++(([.box 25 [.int .u8 fo,.str fs,.sl none fl.length (fl.flatMap Tm.cells),.sl none fm.length (fm.flatMap Fo.cells)],.box 25 [.int .u8 po,.str ps,.sl none ql.length (ql.flatMap Tm.cells),.sl none qm.length (qm.flatMap Fo.cells)],.box 25 [.int .u8 0,.str .empty,.nils,.nils],.box 25 [.int .u8 go,.str gs,.sl none gl.length (gl.flatMap Tm.cells),.sl none gm.length (gm.flatMap Fo.cells)]]++X)++[.box 25 [.int .u8 fo,.str fs,.nils,.nils]])) rfl rfl rfl ?_
  have hP:=hpre _ (rfl:H++(([.box 25 [.int .u8 fo,.str fs,.sl none fl.length (fl.flatMap Tm.cells),.sl none fm.length (fm.flatMap Fo.cells)],.box 25 [.int .u8 po,.str ps,.sl none ql.length (ql.flatMap Tm.cells),.sl none qm.length (qm.flatMap Fo.cells)],.box 25 [.int .u8 0,.str .empty,.nils,.nils],.box 25 [.int .u8 go,.str gs,.sl none gl.length (gl.flatMap Tm.cells),.sl none gm.length (gm.flatMap Fo.cells)]]++X)++[.box 25 [.int .u8 fo,.str fs,.nils,.nils]])=_)
  revert hP
  generalize H++(([.box 25 [.int .u8 fo,.str fs,.sl none fl.length (fl.flatMap Tm.cells),.sl none fm.length (fm.flatMap Fo.cells)],.box 25 [.int .u8 po,.str ps,.sl none ql.length (ql.flatMap Tm.cells),.sl none qm.length (qm.flatMap Fo.cells)],.box 25 [.int .u8 0,.str .empty,.nils,.nils],.box 25 [.int .u8 go,.str gs,.sl none gl.length (gl.flatMap Tm.cells),.sl none gm.length (gm.flatMap Fo.cells)]]++X)++[.box 25 [.int .u8 fo,.str fs,.nils,.nils]])=M
  rintro ⟨m5,m6,m10,S,hT,hS,Y,hY⟩
  refine Ends.walk Tryz.E0 zab fun hcl1 hbl1=>?_
  clear hbl1
  conv=>whnf
  refine zcg Tryz.E0 zab (σ:=Nat×Nat×Fo×Adr×List AV×List Nat) (fun p=>p.1≤pl.length∧Hole M (.mk fo fs fl fm) [.int .u8 fo,.str fs,.nils,.nils] S (pl.take p.1) p.2.2.1 p.2.2.2.1 p.2.2.2.2.1 p.2.2.2.2.2∧findF p.2.2.1 (pl.drop p.1)≠none∧∀ i o,p.2.2.2.1=.blk i o→∀ n0 bs,M[i]? = some (.vec 25 4 bs)→bs.length=n0 * 4→p.2.1=n0) (fun p=>pl.length-p.1) (fun p=>[(27,.v (.int .i64 p.1)),(11,.v (adrV (H.length+(nx+4)) p.2.1 p.2.2.2.1))]) (fun _=>_) _ (0,0,.mk fo fs fl fm,.top,[.int .u8 fo,.str fs,.nils,.nils],S) rfl hcl1 [5,6,10,25,26] rfl ⟨yah _,Hole.nil hT hS.1,by rw [List.drop_zero,hfd];exact ⟨(fun e=>by cases e),(fun i o e=>by cases e)⟩⟩ ⟨⟨_,rfl,yae _⟩,⟨_,rfl,yae _⟩,trivial⟩ rfl (fun _ _=>rfl) ?_
  rintro ⟨k,n,g',adr,c,Sg⟩ ⟨hk,hh,hfd',hn0⟩
  simp only at hk hh hfd' hn0
  by_cases hlt:k<pl.length
  ·have hdk:pl.drop k=pl.getD k 0::pl.drop (k+1):=by
    rw [List.drop_eq_getElem_cons hlt]
    simp [yal hlt]
   have htk:pl.take (k+1)=pl.take k++[pl.getD k 0]:=zdb pl 0 k hlt
   obtain ⟨o2,s2,l2,m2,rfl⟩:=fo_ex g'
   rw [hdk,zbj] at hfd'
   split at hfd'
   ·rename_i hi
    obtain ⟨a,j,bs,S1,rfl,hjS,hj,hbl,hh2⟩:=hh.step (pl.getD k 0) hi.1 hi.2
    have q1:encI (pl.getD k 0)=[.int .i64 (pl.getD k 0)]:=rfl
    have hhere:=hh.here
    have hbne:bs≠[]:=fun e=>by
     have:=hi.2
     rw [e] at hbl
     have h3:(subs (Fo.mk o2 s2 l2 m2)).length=m2.length:=rfl
     simp only [List.length_nil] at hbl
     have:=hi.1
     omega
    have hn1:∀ i o,Adr.blk j (4 * (pl.getD k 0).toNat)=.blk i o→∀ n0 bs',M[i]? = some (.vec 25 4 bs')→bs'.length=n0 * 4→m2.length=n0:=fun i o e n0 bs' h3 h4=>by
     cases e
     rw [hj] at h3
     cases h3
     omega
    cases adr with
    | top =>
      cases hhere
    | blk i0 o0 =>
      obtain ⟨hi1,hi2,n0,bs0,hb1,hb2,hb3,hb4⟩:=hhere
      obtain rfl:n=n0:=hn0 i0 o0 rfl n0 bs0 hb1 hb2
      have hsg:Seg bs0 (o0+3) [.vs j m2.length]:=by
       refine ⟨bs0.drop (o0+4),?_⟩
       have e1:bs0.drop o0=(bs0.drop o0).take 4++(bs0.drop o0).drop 4:=(yce 4 _).symm
       rw [hb4] at e1
       rw [← ydj,e1,ydj]
       rfl
      (repeat' ((conv=>whnf);(first|refine yaf hb2 ?_|refine zaq (by omega) ?_|(refine zaw _ _ Cst.h Cst.h ?_ ?_;· omega)|(refine yaf ?_ ?_;· first|omega|exact yaa _ _|fail)|refine zaf 0 k rfl hlt (fun _=>rfl) q1 ?_|refine yb3 _ hb1 ?_|refine yc1 _ hsg ?_|refine yb3 _ hj ?_|refine yaf ⟨⟨hbl,hbne⟩,hi.1,hi.2⟩ ?_|fail)));conv=>whnf
      rw [Nat.mul_comm (pl.getD k 0).toNat 4]
      (refine ⟨⟨(k+1,m2.length,m2.getD (pl.getD k 0).toNat fo0,.blk j (4 * (pl.getD k 0).toNat),(bs.drop (4 * (pl.getD k 0).toNat)).take 4,S1),⟨by show k+1≤_;omega,by rw [htk];exact hh2,hfd',hn1⟩,by omega,?_,.inl ⟨rfl,rfl⟩,rfl,_,rfl,?_⟩⟩;rotate_left 1;exact .inl rfl;exact ⟨⟨_,rfl,yae _⟩,⟨_,rfl,yae _⟩,trivial⟩)
   ·exact absurd rfl hfd'
  ·obtain rfl:k=pl.length:=by omega
   rw [ya0] at hh
   have hcp:∀ M1:Heap,VCall Tryz.prog 42 [.agg [.int .u8 po,.str ps,.sl none ql.length (ql.flatMap Tm.cells),.sl none qm.length (qm.flatMap Fo.cells)]] M1 fun r H'=>r=.agg (layF (.mk po ps ql qm) M1.length).1∧H'=M1++(layF (.mk po ps ql qm) M1.length).2:=fun M1=>by
    have:=cpF_g _ hp M1
    rwa [zac] at this
   cases adr with
   | top =>
     have hcp:=hcp M
     have hYl:=zca (.mk po ps ql qm) M.length
     have q3:(layF (.mk po ps ql qm) M.length).1=[.int .u8 po,.str ps,hV ql.length (M.length+2),hV qm.length (M.length+2+hN ql.length (nTl ql))]:=by rw [layF]
     have hAt2:=fun M2=>zdi M2 (.mk po ps ql qm) M.length
     simp only [q3] at hcp hAt2
     have hu2:=hV_or ql.length (M.length+2)
     have hw2:=hV_or qm.length (M.length+2+hN ql.length (nTl ql))
     generalize hV ql.length (M.length+2)=u2 at *
     generalize hV qm.length (M.length+2+hN ql.length (nTl ql))=w2 at *
     generalize (layF (.mk po ps ql qm) M.length).2=Z at *
     generalize nF (.mk po ps ql qm)=nz at *
     have hcp:VCall Tryz.prog 42 [.agg [.int .u8 po,.str ps,.sl none ql.length (ql.flatMap Tm.cells),.sl none qm.length (qm.flatMap Fo.cells)]] (M++[]) fun r H'=>r=.agg [.int .u8 po,.str ps,u2,w2]∧H'=(M++[])++Z:=by rw [yas];exact hcp
     have hlen:H.length+4+nx≤M.length:=by
      have:=(yac.1 m10).1
      omega
     have m6s:∀ C,(M.set (H.length+(nx+4)) C)[H.length+(0+1+1)]? = some (.box 25 [.int .u8 0,.str .empty,.nils,.nils]):=fun C=>by
      rw [yc3 (by omega)]
      exact m6
     have m6f:∀ C D,((M.set (H.length+(nx+4)) C).set (H.length+(0+1+1)) D)[H.length+(0+1+1)]? = some D:=fun C D=>List.getElem?_set_self (by rw [List.length_set];omega)
     have hpre2:∀ C D,∃ Y2,(M.set (H.length+(nx+4)) C).set (H.length+(0+1+1)) D=H++Y2:=fun C D=>⟨(Y.set (nx+4) C).set (0+1+1) D,by rw [hY,zbn,zbn]⟩
     have hsame:∀ C D,∀ x∈S,x ∉ Sg→((M.set (H.length+(nx+4)) C).set (H.length+(0+1+1)) D)[x]? = M[x]? := fun C D x hx _=>by
      have:=hS.2 x hx
      rw [yc3 (by omega),yc3 (by omega)]
     have hsub:∀ C D,SubH M.length Z ((M.set (H.length+(nx+4)) C).set (H.length+(0+1+1)) D++Z):=fun C D=>by
      have:=SubH.self ((M.set (H.length+(nx+4)) C).set (H.length+(0+1+1)) D) Z
      rwa [List.length_set,List.length_set] at this
     rcases hu2 with rfl|⟨iu2,mu2,rfl⟩ <;> rcases hw2 with rfl|⟨iw2,mw2,rfl⟩
     all_goals
      (repeat' ((conv=>whnf);(first|refine ydf _ rfl ?_|refine zal (by omega) ?_|refine yb3 _ m5 ?_|refine ydg _ Z Z nz hcp rfl rfl hYl ?_|refine yb3 _ m10 ?_|refine yb3 _ (m6s _) ?_|refine yb3 _ (by (repeat' (first|assumption|exact zav _ rfl|exact za1 rfl|refine za9 (B':=?_) ?_|refine zas ?_|fail))) ?_|fail)));all_goals (conv=>whnf)
      refine ⟨_,.box rfl (m6f _ _) rfl rfl rfl (.cons rfl .nil),_,_,rfl,ydh _ (yae _) ?_⟩
      obtain ⟨S2,X2,w1,w2,w3,w4⟩:=zdq hh hS hlen (by simp) (hpre2 _ _) (hsame _ _) (hAt2 _ (hsub _ _))
      exact ⟨_,S2,X2,rfl,w1,w2,w3,w4⟩
   | blk i0 o0 =>
     obtain ⟨hi1,hi2,n0,bs0,hb1,hb2,hb3,hb4⟩:=hh.here
     obtain rfl:n=n0:=hn0 i0 o0 rfl n0 bs0 hb1 hb2
     have hi0:=hS.2 i0 hi1
     have hcp:=hcp M
     have hYl:=zca (.mk po ps ql qm) M.length
     have q3:(layF (.mk po ps ql qm) M.length).1=[.int .u8 po,.str ps,hV ql.length (M.length+2),hV qm.length (M.length+2+hN ql.length (nTl ql))]:=by rw [layF]
     have hAt2:=fun M2=>zdi M2 (.mk po ps ql qm) M.length
     simp only [q3] at hcp hAt2
     have hu2:=hV_or ql.length (M.length+2)
     have hw2:=hV_or qm.length (M.length+2+hN ql.length (nTl ql))
     generalize hV ql.length (M.length+2)=u2 at *
     generalize hV qm.length (M.length+2+hN ql.length (nTl ql))=w2 at *
     generalize (layF (.mk po ps ql qm) M.length).2=Z at *
     generalize nF (.mk po ps ql qm)=nz at *
     have hcp:VCall Tryz.prog 42 [.agg [.int .u8 po,.str ps,.sl none ql.length (ql.flatMap Tm.cells),.sl none qm.length (qm.flatMap Fo.cells)]] (M++[]) fun r H'=>r=.agg [.int .u8 po,.str ps,u2,w2]∧H'=(M++[])++Z:=by rw [yas];exact hcp
     have hlen:H.length+4+nx≤M.length:=by
      have:=(yac.1 m10).1
      omega
     have hi0M:=(yac.1 hb1).1
     have m6s:∀ C,(M.set i0 C)[H.length+(0+1+1)]? = some (.box 25 [.int .u8 0,.str .empty,.nils,.nils]):=fun C=>by
      rw [yc3 (by omega)]
      exact m6
     have m10s:∀ C,(M.set i0 C)[H.length+(nx+4)]? = some (.box 25 [.int .u8 fo,.str fs,.nils,.nils]):=fun C=>by
      rw [yc3 (by omega)]
      exact m10
     have m6f:∀ C D,((M.set i0 C).set (H.length+(0+1+1)) D)[H.length+(0+1+1)]? = some D:=fun C D=>List.getElem?_set_self (by rw [List.length_set];omega)
     have hpre2:∀ C D,∃ Y2,(M.set i0 C).set (H.length+(0+1+1)) D=H++Y2:=fun C D=>⟨(Y.set (i0-H.length) C).set (0+1+1) D,by rw [hY,ybv _ _ (by omega),zbn]⟩
     have hsame:∀ vs D,vs.length=4→∀ x∈S,x ∉ Sg→((M.set i0 (.vec 25 4 (setL bs0 o0 vs))).set (H.length+(0+1+1)) D)[x]? = (Adr.blk i0 o0).new M vs x:=fun vs D hv x hx _=>by
      have:=hS.2 x hx
      rw [yc3 (by omega)]
      simp only [Adr.new]
      split
      ·rename_i e
       subst e
       rw [List.getElem?_set_self (by omega),hb1]
       simp only [ya8,upB,setL,hv,yba]
      ·rename_i e
       rw [yc3 (fun q=>e q.symm)]
     have hsub:∀ C D,SubH M.length Z ((M.set i0 C).set (H.length+(0+1+1)) D++Z):=fun C D=>by
      have:=SubH.self ((M.set i0 C).set (H.length+(0+1+1)) D) Z
      rwa [List.length_set,List.length_set] at this
     rcases hu2 with rfl|⟨iu2,mu2,rfl⟩ <;> rcases hw2 with rfl|⟨iw2,mw2,rfl⟩
     all_goals
      (repeat' ((conv=>whnf);(first|refine yaf ⟨hb2,hb3,Nat.succ_pos _⟩ ?_|refine ydf _ rfl ?_|refine zal (by omega) ?_|refine yb3 _ m5 ?_|refine ydg _ Z Z nz hcp rfl rfl hYl ?_|refine yb3 _ hb1 ?_|refine RelN.mk (setL bs0 o0 _) [] rfl ?_|refine yb3 _ (m10s _) ?_|refine yb3 _ (m6s _) ?_|fail)));all_goals (conv=>whnf)
      refine ⟨_,.box rfl (m6f _ _) rfl rfl rfl (.cons rfl .nil),_,_,rfl,ydh _ (yae _) ?_⟩
      obtain ⟨S2,X2,w1,w2,w3,w4⟩:=zdq hh hS hlen (by simp) (hpre2 _ _) (hsame _ _ rfl) (hAt2 _ (hsub _ _))
      exact ⟨_,S2,X2,rfl,w1,w2,w3,w4⟩
 ·refine fn_cut Tryz.E0 zab 4 Tryz.func14 (by kernel_rfl) rfl (ybq rfl) rfl fun hcl hbl=>?_
  clear hbl
  (repeat' ((conv=>whnf);(first|(refine yai ?_;first|refine yar ?_|refine yaq rfl ?_|fail)|refine yab _ (h1 _) ?_|refine ydg _ X _ (nx+4) (h2 _ _ _ _) rfl rfl (hk1 _ _ _ _) ?_|fail)));conv=>whnf
  have hst:∀ B1 B2 B3 B4,zep Tryz.T 25 (([B1,B2,B3,B4]++X)++[.box 25 [.int .u8 0,.str .empty,.nils,.nils]]) (some (.lp (nx+4) 0)) (some (.agg [.int .u8 fo,.str fs,.nils,.vs iw mw]))=.upd (nx+4) (.box 25 [.int .u8 fo,.str fs,.nils,.vs iw mw]) none:=fun B1 B2 B3 B4=>zdd rfl rfl rfl (hlg4 _ _ _ _ _) rfl
  rw [zd3]
  conv=>whnf
  refine Eq.mpr (congrArg (@SR.rec (fun _=>Prop) _ _ _ _ _ _ _ _ _ _ _ _ _ _ _ _ _ _ _ _ _) (hst (.box 25 [.int .u8 fo,.str fs,.sl none fl.length (fl.flatMap Tm.cells),.sl none fm.length (fm.flatMap Fo.cells)]) (.box 25 [.int .u8 po,.str ps,.sl none ql.length (ql.flatMap Tm.cells),.sl none qm.length (qm.flatMap Fo.cells)]) (.box 25 [.int .u8 0,.str .empty,.nils,.nils]) (.box 25 [.int .u8 go,.str gs,.sl none gl.length (gl.flatMap Tm.cells),.sl none gm.length (gm.flatMap Fo.cells)]))) ?_
  conv=>whnf
  rw [hls4]
  conv=>whnf
  refine zei [1,5,6,10,11] (H1:=H++(([.box 25 [.int .u8 fo,.str fs,.sl none fl.length (fl.flatMap Tm.cells),.sl none fm.length (fm.flatMap Fo.cells)],.box 25 [.int .u8 po,.str ps,.sl none ql.length (ql.flatMap Tm.cells),.sl none qm.length (qm.flatMap Fo.cells)],.box 25 [.int .u8 0,.str .empty,.nils,.nils],.box 25 [.int .u8 go,.str gs,.sl none gl.length (gl.flatMap Tm.cells),.sl none gm.length (gm.flatMap Fo.cells)]]++X)++[.box 25 [.int .u8 fo,.str fs,.nils,.vs iw mw]])) rfl rfl rfl ?_
  have hP:=hpre _ (rfl:H++(([.box 25 [.int .u8 fo,.str fs,.sl none fl.length (fl.flatMap Tm.cells),.sl none fm.length (fm.flatMap Fo.cells)],.box 25 [.int .u8 po,.str ps,.sl none ql.length (ql.flatMap Tm.cells),.sl none qm.length (qm.flatMap Fo.cells)],.box 25 [.int .u8 0,.str .empty,.nils,.nils],.box 25 [.int .u8 go,.str gs,.sl none gl.length (gl.flatMap Tm.cells),.sl none gm.length (gm.flatMap Fo.cells)]]++X)++[.box 25 [.int .u8 fo,.str fs,.nils,.vs iw mw]])=_)
  revert hP
  generalize H++(([.box 25 [.int .u8 fo,.str fs,.sl none fl.length (fl.flatMap Tm.cells),.sl none fm.length (fm.flatMap Fo.cells)],.box 25 [.int .u8 po,.str ps,.sl none ql.length (ql.flatMap Tm.cells),.sl none qm.length (qm.flatMap Fo.cells)],.box 25 [.int .u8 0,.str .empty,.nils,.nils],.box 25 [.int .u8 go,.str gs,.sl none gl.length (gl.flatMap Tm.cells),.sl none gm.length (gm.flatMap Fo.cells)]]++X)++[.box 25 [.int .u8 fo,.str fs,.nils,.vs iw mw]])=M
  rintro ⟨m5,m6,m10,S,hT,hS,Y,hY⟩
  refine Ends.walk Tryz.E0 zab fun hcl1 hbl1=>?_
  clear hbl1
  conv=>whnf
  refine zcg Tryz.E0 zab (σ:=Nat×Nat×Fo×Adr×List AV×List Nat) (fun p=>p.1≤pl.length∧Hole M (.mk fo fs fl fm) [.int .u8 fo,.str fs,.nils,.vs iw mw] S (pl.take p.1) p.2.2.1 p.2.2.2.1 p.2.2.2.2.1 p.2.2.2.2.2∧findF p.2.2.1 (pl.drop p.1)≠none∧∀ i o,p.2.2.2.1=.blk i o→∀ n0 bs,M[i]? = some (.vec 25 4 bs)→bs.length=n0 * 4→p.2.1=n0) (fun p=>pl.length-p.1) (fun p=>[(27,.v (.int .i64 p.1)),(11,.v (adrV (H.length+(nx+4)) p.2.1 p.2.2.2.1))]) (fun _=>_) _ (0,0,.mk fo fs fl fm,.top,[.int .u8 fo,.str fs,.nils,.vs iw mw],S) rfl hcl1 [5,6,10,25,26] rfl ⟨yah _,Hole.nil hT hS.1,by rw [List.drop_zero,hfd];exact ⟨(fun e=>by cases e),(fun i o e=>by cases e)⟩⟩ ⟨⟨_,rfl,yae _⟩,⟨_,rfl,yae _⟩,trivial⟩ rfl (fun _ _=>rfl) ?_
  rintro ⟨k,n,g',adr,c,Sg⟩ ⟨hk,hh,hfd',hn0⟩
  simp only at hk hh hfd' hn0
  by_cases hlt:k<pl.length
  ·have hdk:pl.drop k=pl.getD k 0::pl.drop (k+1):=by
    rw [List.drop_eq_getElem_cons hlt]
    simp [yal hlt]
   have htk:pl.take (k+1)=pl.take k++[pl.getD k 0]:=zdb pl 0 k hlt
   obtain ⟨o2,s2,l2,m2,rfl⟩:=fo_ex g'
   rw [hdk,zbj] at hfd'
   split at hfd'
   ·rename_i hi
    obtain ⟨a,j,bs,S1,rfl,hjS,hj,hbl,hh2⟩:=hh.step (pl.getD k 0) hi.1 hi.2
    have q1:encI (pl.getD k 0)=[.int .i64 (pl.getD k 0)]:=rfl
    have hhere:=hh.here
    have hbne:bs≠[]:=fun e=>by
     have:=hi.2
     rw [e] at hbl
     have h3:(subs (Fo.mk o2 s2 l2 m2)).length=m2.length:=rfl
     simp only [List.length_nil] at hbl
     have:=hi.1
     omega
    have hn1:∀ i o,Adr.blk j (4 * (pl.getD k 0).toNat)=.blk i o→∀ n0 bs',M[i]? = some (.vec 25 4 bs')→bs'.length=n0 * 4→m2.length=n0:=fun i o e n0 bs' h3 h4=>by
     cases e
     rw [hj] at h3
     cases h3
     omega
    cases adr with
    | top =>
      cases hhere
      (repeat' ((conv=>whnf);(first|refine zaq (by omega) ?_|(refine zaw _ _ Cst.h Cst.h ?_ ?_;· omega)|(refine yaf ?_ ?_;· first|omega|exact yaa _ _|fail)|refine zaf 0 k rfl hlt (fun _=>rfl) q1 ?_|refine yb3 _ m10 ?_|refine yb3 _ hj ?_|refine yaf ⟨⟨hbl,hbne⟩,hi.1,hi.2⟩ ?_|fail)));conv=>whnf
      rw [Nat.mul_comm (pl.getD k 0).toNat 4]
      (refine ⟨⟨(k+1,m2.length,m2.getD (pl.getD k 0).toNat fo0,.blk iw (4 * (pl.getD k 0).toNat),(bs.drop (4 * (pl.getD k 0).toNat)).take 4,S1),⟨by show k+1≤_;omega,by rw [htk];exact hh2,hfd',hn1⟩,by omega,?_,.inl ⟨rfl,rfl⟩,rfl,_,rfl,?_⟩⟩;rotate_left 1;exact .inl rfl;exact ⟨⟨_,rfl,yae _⟩,⟨_,rfl,yae _⟩,trivial⟩)
    | blk i0 o0 =>
      obtain ⟨hi1,hi2,n0,bs0,hb1,hb2,hb3,hb4⟩:=hhere
      obtain rfl:n=n0:=hn0 i0 o0 rfl n0 bs0 hb1 hb2
      have hsg:Seg bs0 (o0+3) [.vs j m2.length]:=by
       refine ⟨bs0.drop (o0+4),?_⟩
       have e1:bs0.drop o0=(bs0.drop o0).take 4++(bs0.drop o0).drop 4:=(yce 4 _).symm
       rw [hb4] at e1
       rw [← ydj,e1,ydj]
       rfl
      (repeat' ((conv=>whnf);(first|refine yaf hb2 ?_|refine zaq (by omega) ?_|(refine zaw _ _ Cst.h Cst.h ?_ ?_;· omega)|(refine yaf ?_ ?_;· first|omega|exact yaa _ _|fail)|refine zaf 0 k rfl hlt (fun _=>rfl) q1 ?_|refine yb3 _ hb1 ?_|refine yc1 _ hsg ?_|refine yb3 _ hj ?_|refine yaf ⟨⟨hbl,hbne⟩,hi.1,hi.2⟩ ?_|fail)));conv=>whnf
      rw [Nat.mul_comm (pl.getD k 0).toNat 4]
      (refine ⟨⟨(k+1,m2.length,m2.getD (pl.getD k 0).toNat fo0,.blk j (4 * (pl.getD k 0).toNat),(bs.drop (4 * (pl.getD k 0).toNat)).take 4,S1),⟨by show k+1≤_;omega,by rw [htk];exact hh2,hfd',hn1⟩,by omega,?_,.inl ⟨rfl,rfl⟩,rfl,_,rfl,?_⟩⟩;rotate_left 1;exact .inl rfl;exact ⟨⟨_,rfl,yae _⟩,⟨_,rfl,yae _⟩,trivial⟩)
   ·exact absurd rfl hfd'
  ·obtain rfl:k=pl.length:=by omega
   rw [ya0] at hh
   have hcp:∀ M1:Heap,VCall Tryz.prog 42 [.agg [.int .u8 po,.str ps,.sl none ql.length (ql.flatMap Tm.cells),.sl none qm.length (qm.flatMap Fo.cells)]] M1 fun r H'=>r=.agg (layF (.mk po ps ql qm) M1.length).1∧H'=M1++(layF (.mk po ps ql qm) M1.length).2:=fun M1=>by
    have:=cpF_g _ hp M1
    rwa [zac] at this
   cases adr with
   | top =>
     have hcp:=hcp M
     have hYl:=zca (.mk po ps ql qm) M.length
     have q3:(layF (.mk po ps ql qm) M.length).1=[.int .u8 po,.str ps,hV ql.length (M.length+2),hV qm.length (M.length+2+hN ql.length (nTl ql))]:=by rw [layF]
     have hAt2:=fun M2=>zdi M2 (.mk po ps ql qm) M.length
     simp only [q3] at hcp hAt2
     have hu2:=hV_or ql.length (M.length+2)
     have hw2:=hV_or qm.length (M.length+2+hN ql.length (nTl ql))
     generalize hV ql.length (M.length+2)=u2 at *
     generalize hV qm.length (M.length+2+hN ql.length (nTl ql))=w2 at *
     generalize (layF (.mk po ps ql qm) M.length).2=Z at *
     generalize nF (.mk po ps ql qm)=nz at *
     have hcp:VCall Tryz.prog 42 [.agg [.int .u8 po,.str ps,.sl none ql.length (ql.flatMap Tm.cells),.sl none qm.length (qm.flatMap Fo.cells)]] (M++[]) fun r H'=>r=.agg [.int .u8 po,.str ps,u2,w2]∧H'=(M++[])++Z:=by rw [yas];exact hcp
     have hlen:H.length+4+nx≤M.length:=by
      have:=(yac.1 m10).1
      omega
     have m6s:∀ C,(M.set (H.length+(nx+4)) C)[H.length+(0+1+1)]? = some (.box 25 [.int .u8 0,.str .empty,.nils,.nils]):=fun C=>by
      rw [yc3 (by omega)]
      exact m6
     have m6f:∀ C D,((M.set (H.length+(nx+4)) C).set (H.length+(0+1+1)) D)[H.length+(0+1+1)]? = some D:=fun C D=>List.getElem?_set_self (by rw [List.length_set];omega)
     have hpre2:∀ C D,∃ Y2,(M.set (H.length+(nx+4)) C).set (H.length+(0+1+1)) D=H++Y2:=fun C D=>⟨(Y.set (nx+4) C).set (0+1+1) D,by rw [hY,zbn,zbn]⟩
     have hsame:∀ C D,∀ x∈S,x ∉ Sg→((M.set (H.length+(nx+4)) C).set (H.length+(0+1+1)) D)[x]? = M[x]? := fun C D x hx _=>by
      have:=hS.2 x hx
      rw [yc3 (by omega),yc3 (by omega)]
     have hsub:∀ C D,SubH M.length Z ((M.set (H.length+(nx+4)) C).set (H.length+(0+1+1)) D++Z):=fun C D=>by
      have:=SubH.self ((M.set (H.length+(nx+4)) C).set (H.length+(0+1+1)) D) Z
      rwa [List.length_set,List.length_set] at this
     rcases hu2 with rfl|⟨iu2,mu2,rfl⟩ <;> rcases hw2 with rfl|⟨iw2,mw2,rfl⟩
     all_goals
      (repeat' ((conv=>whnf);(first|refine ydf _ rfl ?_|refine zal (by omega) ?_|refine yb3 _ m5 ?_|refine ydg _ Z Z nz hcp rfl rfl hYl ?_|refine yb3 _ m10 ?_|refine yb3 _ (m6s _) ?_|refine yb3 _ (by (repeat' (first|assumption|exact zav _ rfl|exact za1 rfl|refine za9 (B':=?_) ?_|refine zas ?_|fail))) ?_|fail)));all_goals (conv=>whnf)
      refine ⟨_,.box rfl (m6f _ _) rfl rfl rfl (.cons rfl .nil),_,_,rfl,ydh _ (yae _) ?_⟩
      obtain ⟨S2,X2,w1,w2,w3,w4⟩:=zdq hh hS hlen (by simp) (hpre2 _ _) (hsame _ _) (hAt2 _ (hsub _ _))
      exact ⟨_,S2,X2,rfl,w1,w2,w3,w4⟩
   | blk i0 o0 =>
     obtain ⟨hi1,hi2,n0,bs0,hb1,hb2,hb3,hb4⟩:=hh.here
     obtain rfl:n=n0:=hn0 i0 o0 rfl n0 bs0 hb1 hb2
     have hi0:=hS.2 i0 hi1
     have hcp:=hcp M
     have hYl:=zca (.mk po ps ql qm) M.length
     have q3:(layF (.mk po ps ql qm) M.length).1=[.int .u8 po,.str ps,hV ql.length (M.length+2),hV qm.length (M.length+2+hN ql.length (nTl ql))]:=by rw [layF]
     have hAt2:=fun M2=>zdi M2 (.mk po ps ql qm) M.length
     simp only [q3] at hcp hAt2
     have hu2:=hV_or ql.length (M.length+2)
     have hw2:=hV_or qm.length (M.length+2+hN ql.length (nTl ql))
     generalize hV ql.length (M.length+2)=u2 at *
     generalize hV qm.length (M.length+2+hN ql.length (nTl ql))=w2 at *
     generalize (layF (.mk po ps ql qm) M.length).2=Z at *
     generalize nF (.mk po ps ql qm)=nz at *
     have hcp:VCall Tryz.prog 42 [.agg [.int .u8 po,.str ps,.sl none ql.length (ql.flatMap Tm.cells),.sl none qm.length (qm.flatMap Fo.cells)]] (M++[]) fun r H'=>r=.agg [.int .u8 po,.str ps,u2,w2]∧H'=(M++[])++Z:=by rw [yas];exact hcp
     have hlen:H.length+4+nx≤M.length:=by
      have:=(yac.1 m10).1
      omega
     have hi0M:=(yac.1 hb1).1
     have m6s:∀ C,(M.set i0 C)[H.length+(0+1+1)]? = some (.box 25 [.int .u8 0,.str .empty,.nils,.nils]):=fun C=>by
      rw [yc3 (by omega)]
      exact m6
     have m10s:∀ C,(M.set i0 C)[H.length+(nx+4)]? = some (.box 25 [.int .u8 fo,.str fs,.nils,.vs iw mw]):=fun C=>by
      rw [yc3 (by omega)]
      exact m10
     have m6f:∀ C D,((M.set i0 C).set (H.length+(0+1+1)) D)[H.length+(0+1+1)]? = some D:=fun C D=>List.getElem?_set_self (by rw [List.length_set];omega)
     have hpre2:∀ C D,∃ Y2,(M.set i0 C).set (H.length+(0+1+1)) D=H++Y2:=fun C D=>⟨(Y.set (i0-H.length) C).set (0+1+1) D,by rw [hY,ybv _ _ (by omega),zbn]⟩
     have hsame:∀ vs D,vs.length=4→∀ x∈S,x ∉ Sg→((M.set i0 (.vec 25 4 (setL bs0 o0 vs))).set (H.length+(0+1+1)) D)[x]? = (Adr.blk i0 o0).new M vs x:=fun vs D hv x hx _=>by
      have:=hS.2 x hx
      rw [yc3 (by omega)]
      simp only [Adr.new]
      split
      ·rename_i e
       subst e
       rw [List.getElem?_set_self (by omega),hb1]
       simp only [ya8,upB,setL,hv,yba]
      ·rename_i e
       rw [yc3 (fun q=>e q.symm)]
     have hsub:∀ C D,SubH M.length Z ((M.set i0 C).set (H.length+(0+1+1)) D++Z):=fun C D=>by
      have:=SubH.self ((M.set i0 C).set (H.length+(0+1+1)) D) Z
      rwa [List.length_set,List.length_set] at this
     rcases hu2 with rfl|⟨iu2,mu2,rfl⟩ <;> rcases hw2 with rfl|⟨iw2,mw2,rfl⟩
     all_goals
      (repeat' ((conv=>whnf);(first|refine yaf ⟨hb2,hb3,Nat.succ_pos _⟩ ?_|refine ydf _ rfl ?_|refine zal (by omega) ?_|refine yb3 _ m5 ?_|refine ydg _ Z Z nz hcp rfl rfl hYl ?_|refine yb3 _ hb1 ?_|refine RelN.mk (setL bs0 o0 _) [] rfl ?_|refine yb3 _ (m10s _) ?_|refine yb3 _ (m6s _) ?_|fail)));all_goals (conv=>whnf)
      refine ⟨_,.box rfl (m6f _ _) rfl rfl rfl (.cons rfl .nil),_,_,rfl,ydh _ (yae _) ?_⟩
      obtain ⟨S2,X2,w1,w2,w3,w4⟩:=zdq hh hS hlen (by simp) (hpre2 _ _) (hsame _ _ rfl) (hAt2 _ (hsub _ _))
      exact ⟨_,S2,X2,rfl,w1,w2,w3,w4⟩
 ·refine fn_cut Tryz.E0 zab 4 Tryz.func14 (by kernel_rfl) rfl (ybq rfl) rfl fun hcl hbl=>?_
  clear hbl
  (repeat' ((conv=>whnf);(first|(refine yai ?_;first|refine yar ?_|refine yaq rfl ?_|fail)|refine yab _ (h1 _) ?_|refine ydg _ X _ (nx+4) (h2 _ _ _ _) rfl rfl (hk1 _ _ _ _) ?_|fail)));conv=>whnf
  have hst:∀ B1 B2 B3 B4,zep Tryz.T 25 (([B1,B2,B3,B4]++X)++[.box 25 [.int .u8 0,.str .empty,.nils,.nils]]) (some (.lp (nx+4) 0)) (some (.agg [.int .u8 fo,.str fs,.vs iu mu,.nils]))=.upd (nx+4) (.box 25 [.int .u8 fo,.str fs,.vs iu mu,.nils]) none:=fun B1 B2 B3 B4=>zdd rfl rfl rfl (hlg4 _ _ _ _ _) rfl
  rw [zd3]
  conv=>whnf
  refine Eq.mpr (congrArg (@SR.rec (fun _=>Prop) _ _ _ _ _ _ _ _ _ _ _ _ _ _ _ _ _ _ _ _ _) (hst (.box 25 [.int .u8 fo,.str fs,.sl none fl.length (fl.flatMap Tm.cells),.sl none fm.length (fm.flatMap Fo.cells)]) (.box 25 [.int .u8 po,.str ps,.sl none ql.length (ql.flatMap Tm.cells),.sl none qm.length (qm.flatMap Fo.cells)]) (.box 25 [.int .u8 0,.str .empty,.nils,.nils]) (.box 25 [.int .u8 go,.str gs,.sl none gl.length (gl.flatMap Tm.cells),.sl none gm.length (gm.flatMap Fo.cells)]))) ?_
  conv=>whnf
  rw [hls4]
  conv=>whnf
  refine zei [1,5,6,10,11] (H1:=H++(([.box 25 [.int .u8 fo,.str fs,.sl none fl.length (fl.flatMap Tm.cells),.sl none fm.length (fm.flatMap Fo.cells)],.box 25 [.int .u8 po,.str ps,.sl none ql.length (ql.flatMap Tm.cells),.sl none qm.length (qm.flatMap Fo.cells)],.box 25 [.int .u8 0,.str .empty,.nils,.nils],.box 25 [.int .u8 go,.str gs,.sl none gl.length (gl.flatMap Tm.cells),.sl none gm.length (gm.flatMap Fo.cells)]]++X)++[.box 25 [.int .u8 fo,.str fs,.vs iu mu,.nils]])) rfl rfl rfl ?_
  have hP:=hpre _ (rfl:H++(([.box 25 [.int .u8 fo,.str fs,.sl none fl.length (fl.flatMap Tm.cells),.sl none fm.length (fm.flatMap Fo.cells)],.box 25 [.int .u8 po,.str ps,.sl none ql.length (ql.flatMap Tm.cells),.sl none qm.length (qm.flatMap Fo.cells)],.box 25 [.int .u8 0,.str .empty,.nils,.nils],.box 25 [.int .u8 go,.str gs,.sl none gl.length (gl.flatMap Tm.cells),.sl none gm.length (gm.flatMap Fo.cells)]]++X)++[.box 25 [.int .u8 fo,.str fs,.vs iu mu,.nils]])=_)
  revert hP
  generalize H++(([.box 25 [.int .u8 fo,.str fs,.sl none fl.length (fl.flatMap Tm.cells),.sl none fm.length (fm.flatMap Fo.cells)],.box 25 [.int .u8 po,.str ps,.sl none ql.length (ql.flatMap Tm.cells),.sl none qm.length (qm.flatMap Fo.cells)],.box 25 [.int .u8 0,.str .empty,.nils,.nils],.box 25 [.int .u8 go,.str gs,.sl none gl.length (gl.flatMap Tm.cells),.sl none gm.length (gm.flatMap Fo.cells)]]++X)++[.box 25 [.int .u8 fo,.str fs,.vs iu mu,.nils]])=M
  rintro ⟨m5,m6,m10,S,hT,hS,Y,hY⟩
  refine Ends.walk Tryz.E0 zab fun hcl1 hbl1=>?_
  clear hbl1
  conv=>whnf
  refine zcg Tryz.E0 zab (σ:=Nat×Nat×Fo×Adr×List AV×List Nat) (fun p=>p.1≤pl.length∧Hole M (.mk fo fs fl fm) [.int .u8 fo,.str fs,.vs iu mu,.nils] S (pl.take p.1) p.2.2.1 p.2.2.2.1 p.2.2.2.2.1 p.2.2.2.2.2∧findF p.2.2.1 (pl.drop p.1)≠none∧∀ i o,p.2.2.2.1=.blk i o→∀ n0 bs,M[i]? = some (.vec 25 4 bs)→bs.length=n0 * 4→p.2.1=n0) (fun p=>pl.length-p.1) (fun p=>[(27,.v (.int .i64 p.1)),(11,.v (adrV (H.length+(nx+4)) p.2.1 p.2.2.2.1))]) (fun _=>_) _ (0,0,.mk fo fs fl fm,.top,[.int .u8 fo,.str fs,.vs iu mu,.nils],S) rfl hcl1 [5,6,10,25,26] rfl ⟨yah _,Hole.nil hT hS.1,by rw [List.drop_zero,hfd];exact ⟨(fun e=>by cases e),(fun i o e=>by cases e)⟩⟩ ⟨⟨_,rfl,yae _⟩,⟨_,rfl,yae _⟩,trivial⟩ rfl (fun _ _=>rfl) ?_
  rintro ⟨k,n,g',adr,c,Sg⟩ ⟨hk,hh,hfd',hn0⟩
  simp only at hk hh hfd' hn0
  by_cases hlt:k<pl.length
  ·have hdk:pl.drop k=pl.getD k 0::pl.drop (k+1):=by
    rw [List.drop_eq_getElem_cons hlt]
    simp [yal hlt]
   have htk:pl.take (k+1)=pl.take k++[pl.getD k 0]:=zdb pl 0 k hlt
   obtain ⟨o2,s2,l2,m2,rfl⟩:=fo_ex g'
   rw [hdk,zbj] at hfd'
   split at hfd'
   ·rename_i hi
    obtain ⟨a,j,bs,S1,rfl,hjS,hj,hbl,hh2⟩:=hh.step (pl.getD k 0) hi.1 hi.2
    have q1:encI (pl.getD k 0)=[.int .i64 (pl.getD k 0)]:=rfl
    have hhere:=hh.here
    have hbne:bs≠[]:=fun e=>by
     have:=hi.2
     rw [e] at hbl
     have h3:(subs (Fo.mk o2 s2 l2 m2)).length=m2.length:=rfl
     simp only [List.length_nil] at hbl
     have:=hi.1
     omega
    have hn1:∀ i o,Adr.blk j (4 * (pl.getD k 0).toNat)=.blk i o→∀ n0 bs',M[i]? = some (.vec 25 4 bs')→bs'.length=n0 * 4→m2.length=n0:=fun i o e n0 bs' h3 h4=>by
     cases e
     rw [hj] at h3
     cases h3
     omega
    cases adr with
    | top =>
      cases hhere
    | blk i0 o0 =>
      obtain ⟨hi1,hi2,n0,bs0,hb1,hb2,hb3,hb4⟩:=hhere
      obtain rfl:n=n0:=hn0 i0 o0 rfl n0 bs0 hb1 hb2
      have hsg:Seg bs0 (o0+3) [.vs j m2.length]:=by
       refine ⟨bs0.drop (o0+4),?_⟩
       have e1:bs0.drop o0=(bs0.drop o0).take 4++(bs0.drop o0).drop 4:=(yce 4 _).symm
       rw [hb4] at e1
       rw [← ydj,e1,ydj]
       rfl
      (repeat' ((conv=>whnf);(first|refine yaf hb2 ?_|refine zaq (by omega) ?_|(refine zaw _ _ Cst.h Cst.h ?_ ?_;· omega)|(refine yaf ?_ ?_;· first|omega|exact yaa _ _|fail)|refine zaf 0 k rfl hlt (fun _=>rfl) q1 ?_|refine yb3 _ hb1 ?_|refine yc1 _ hsg ?_|refine yb3 _ hj ?_|refine yaf ⟨⟨hbl,hbne⟩,hi.1,hi.2⟩ ?_|fail)));conv=>whnf
      rw [Nat.mul_comm (pl.getD k 0).toNat 4]
      (refine ⟨⟨(k+1,m2.length,m2.getD (pl.getD k 0).toNat fo0,.blk j (4 * (pl.getD k 0).toNat),(bs.drop (4 * (pl.getD k 0).toNat)).take 4,S1),⟨by show k+1≤_;omega,by rw [htk];exact hh2,hfd',hn1⟩,by omega,?_,.inl ⟨rfl,rfl⟩,rfl,_,rfl,?_⟩⟩;rotate_left 1;exact .inl rfl;exact ⟨⟨_,rfl,yae _⟩,⟨_,rfl,yae _⟩,trivial⟩)
   ·exact absurd rfl hfd'
  ·obtain rfl:k=pl.length:=by omega
   rw [ya0] at hh
   have hcp:∀ M1:Heap,VCall Tryz.prog 42 [.agg [.int .u8 po,.str ps,.sl none ql.length (ql.flatMap Tm.cells),.sl none qm.length (qm.flatMap Fo.cells)]] M1 fun r H'=>r=.agg (layF (.mk po ps ql qm) M1.length).1∧H'=M1++(layF (.mk po ps ql qm) M1.length).2:=fun M1=>by
    have:=cpF_g _ hp M1
    rwa [zac] at this
   cases adr with
   | top =>
     have hcp:=hcp M
     have hYl:=zca (.mk po ps ql qm) M.length
     have q3:(layF (.mk po ps ql qm) M.length).1=[.int .u8 po,.str ps,hV ql.length (M.length+2),hV qm.length (M.length+2+hN ql.length (nTl ql))]:=by rw [layF]
     have hAt2:=fun M2=>zdi M2 (.mk po ps ql qm) M.length
     simp only [q3] at hcp hAt2
     have hu2:=hV_or ql.length (M.length+2)
     have hw2:=hV_or qm.length (M.length+2+hN ql.length (nTl ql))
     generalize hV ql.length (M.length+2)=u2 at *
     generalize hV qm.length (M.length+2+hN ql.length (nTl ql))=w2 at *
     generalize (layF (.mk po ps ql qm) M.length).2=Z at *
     generalize nF (.mk po ps ql qm)=nz at *
     have hcp:VCall Tryz.prog 42 [.agg [.int .u8 po,.str ps,.sl none ql.length (ql.flatMap Tm.cells),.sl none qm.length (qm.flatMap Fo.cells)]] (M++[]) fun r H'=>r=.agg [.int .u8 po,.str ps,u2,w2]∧H'=(M++[])++Z:=by rw [yas];exact hcp
     have hlen:H.length+4+nx≤M.length:=by
      have:=(yac.1 m10).1
      omega
     have m6s:∀ C,(M.set (H.length+(nx+4)) C)[H.length+(0+1+1)]? = some (.box 25 [.int .u8 0,.str .empty,.nils,.nils]):=fun C=>by
      rw [yc3 (by omega)]
      exact m6
     have m6f:∀ C D,((M.set (H.length+(nx+4)) C).set (H.length+(0+1+1)) D)[H.length+(0+1+1)]? = some D:=fun C D=>List.getElem?_set_self (by rw [List.length_set];omega)
     have hpre2:∀ C D,∃ Y2,(M.set (H.length+(nx+4)) C).set (H.length+(0+1+1)) D=H++Y2:=fun C D=>⟨(Y.set (nx+4) C).set (0+1+1) D,by rw [hY,zbn,zbn]⟩
     have hsame:∀ C D,∀ x∈S,x ∉ Sg→((M.set (H.length+(nx+4)) C).set (H.length+(0+1+1)) D)[x]? = M[x]? := fun C D x hx _=>by
      have:=hS.2 x hx
      rw [yc3 (by omega),yc3 (by omega)]
     have hsub:∀ C D,SubH M.length Z ((M.set (H.length+(nx+4)) C).set (H.length+(0+1+1)) D++Z):=fun C D=>by
      have:=SubH.self ((M.set (H.length+(nx+4)) C).set (H.length+(0+1+1)) D) Z
      rwa [List.length_set,List.length_set] at this
     rcases hu2 with rfl|⟨iu2,mu2,rfl⟩ <;> rcases hw2 with rfl|⟨iw2,mw2,rfl⟩
     all_goals
      (repeat' ((conv=>whnf);(first|refine ydf _ rfl ?_|refine zal (by omega) ?_|refine yb3 _ m5 ?_|refine ydg _ Z Z nz hcp rfl rfl hYl ?_|refine yb3 _ m10 ?_|refine yb3 _ (m6s _) ?_|refine yb3 _ (by (repeat' (first|assumption|exact zav _ rfl|exact za1 rfl|refine za9 (B':=?_) ?_|refine zas ?_|fail))) ?_|fail)));all_goals (conv=>whnf)
      refine ⟨_,.box rfl (m6f _ _) rfl rfl rfl (.cons rfl .nil),_,_,rfl,ydh _ (yae _) ?_⟩
      obtain ⟨S2,X2,w1,w2,w3,w4⟩:=zdq hh hS hlen (by simp) (hpre2 _ _) (hsame _ _) (hAt2 _ (hsub _ _))
      exact ⟨_,S2,X2,rfl,w1,w2,w3,w4⟩
   | blk i0 o0 =>
     obtain ⟨hi1,hi2,n0,bs0,hb1,hb2,hb3,hb4⟩:=hh.here
     obtain rfl:n=n0:=hn0 i0 o0 rfl n0 bs0 hb1 hb2
     have hi0:=hS.2 i0 hi1
     have hcp:=hcp M
     have hYl:=zca (.mk po ps ql qm) M.length
     have q3:(layF (.mk po ps ql qm) M.length).1=[.int .u8 po,.str ps,hV ql.length (M.length+2),hV qm.length (M.length+2+hN ql.length (nTl ql))]:=by rw [layF]
     have hAt2:=fun M2=>zdi M2 (.mk po ps ql qm) M.length
     simp only [q3] at hcp hAt2
     have hu2:=hV_or ql.length (M.length+2)
     have hw2:=hV_or qm.length (M.length+2+hN ql.length (nTl ql))
     generalize hV ql.length (M.length+2)=u2 at *
     generalize hV qm.length (M.length+2+hN ql.length (nTl ql))=w2 at *
     generalize (layF (.mk po ps ql qm) M.length).2=Z at *
     generalize nF (.mk po ps ql qm)=nz at *
     have hcp:VCall Tryz.prog 42 [.agg [.int .u8 po,.str ps,.sl none ql.length (ql.flatMap Tm.cells),.sl none qm.length (qm.flatMap Fo.cells)]] (M++[]) fun r H'=>r=.agg [.int .u8 po,.str ps,u2,w2]∧H'=(M++[])++Z:=by rw [yas];exact hcp
     have hlen:H.length+4+nx≤M.length:=by
      have:=(yac.1 m10).1
      omega
     have hi0M:=(yac.1 hb1).1
     have m6s:∀ C,(M.set i0 C)[H.length+(0+1+1)]? = some (.box 25 [.int .u8 0,.str .empty,.nils,.nils]):=fun C=>by
      rw [yc3 (by omega)]
      exact m6
     have m10s:∀ C,(M.set i0 C)[H.length+(nx+4)]? = some (.box 25 [.int .u8 fo,.str fs,.vs iu mu,.nils]):=fun C=>by
      rw [yc3 (by omega)]
      exact m10
     have m6f:∀ C D,((M.set i0 C).set (H.length+(0+1+1)) D)[H.length+(0+1+1)]? = some D:=fun C D=>List.getElem?_set_self (by rw [List.length_set];omega)
     have hpre2:∀ C D,∃ Y2,(M.set i0 C).set (H.length+(0+1+1)) D=H++Y2:=fun C D=>⟨(Y.set (i0-H.length) C).set (0+1+1) D,by rw [hY,ybv _ _ (by omega),zbn]⟩
     have hsame:∀ vs D,vs.length=4→∀ x∈S,x ∉ Sg→((M.set i0 (.vec 25 4 (setL bs0 o0 vs))).set (H.length+(0+1+1)) D)[x]? = (Adr.blk i0 o0).new M vs x:=fun vs D hv x hx _=>by
      have:=hS.2 x hx
      rw [yc3 (by omega)]
      simp only [Adr.new]
      split
      ·rename_i e
       subst e
       rw [List.getElem?_set_self (by omega),hb1]
       simp only [ya8,upB,setL,hv,yba]
      ·rename_i e
       rw [yc3 (fun q=>e q.symm)]
     have hsub:∀ C D,SubH M.length Z ((M.set i0 C).set (H.length+(0+1+1)) D++Z):=fun C D=>by
      have:=SubH.self ((M.set i0 C).set (H.length+(0+1+1)) D) Z
      rwa [List.length_set,List.length_set] at this
     rcases hu2 with rfl|⟨iu2,mu2,rfl⟩ <;> rcases hw2 with rfl|⟨iw2,mw2,rfl⟩
     all_goals
      (repeat' ((conv=>whnf);(first|refine yaf ⟨hb2,hb3,Nat.succ_pos _⟩ ?_|refine ydf _ rfl ?_|refine zal (by omega) ?_|refine yb3 _ m5 ?_|refine ydg _ Z Z nz hcp rfl rfl hYl ?_|refine yb3 _ hb1 ?_|refine RelN.mk (setL bs0 o0 _) [] rfl ?_|refine yb3 _ (m10s _) ?_|refine yb3 _ (m6s _) ?_|fail)));all_goals (conv=>whnf)
      refine ⟨_,.box rfl (m6f _ _) rfl rfl rfl (.cons rfl .nil),_,_,rfl,ydh _ (yae _) ?_⟩
      obtain ⟨S2,X2,w1,w2,w3,w4⟩:=zdq hh hS hlen (by simp) (hpre2 _ _) (hsame _ _ rfl) (hAt2 _ (hsub _ _))
      exact ⟨_,S2,X2,rfl,w1,w2,w3,w4⟩
 ·refine fn_cut Tryz.E0 zab 4 Tryz.func14 (by kernel_rfl) rfl (ybq rfl) rfl fun hcl hbl=>?_
  clear hbl
  (repeat' ((conv=>whnf);(first|(refine yai ?_;first|refine yar ?_|refine yaq rfl ?_|fail)|refine yab _ (h1 _) ?_|refine ydg _ X _ (nx+4) (h2 _ _ _ _) rfl rfl (hk1 _ _ _ _) ?_|fail)));conv=>whnf
  have hst:∀ B1 B2 B3 B4,zep Tryz.T 25 (([B1,B2,B3,B4]++X)++[.box 25 [.int .u8 0,.str .empty,.nils,.nils]]) (some (.lp (nx+4) 0)) (some (.agg [.int .u8 fo,.str fs,.vs iu mu,.vs iw mw]))=.upd (nx+4) (.box 25 [.int .u8 fo,.str fs,.vs iu mu,.vs iw mw]) none:=fun B1 B2 B3 B4=>zdd rfl rfl rfl (hlg4 _ _ _ _ _) rfl
  rw [zd3]
  conv=>whnf
  refine Eq.mpr (congrArg (@SR.rec (fun _=>Prop) _ _ _ _ _ _ _ _ _ _ _ _ _ _ _ _ _ _ _ _ _) (hst (.box 25 [.int .u8 fo,.str fs,.sl none fl.length (fl.flatMap Tm.cells),.sl none fm.length (fm.flatMap Fo.cells)]) (.box 25 [.int .u8 po,.str ps,.sl none ql.length (ql.flatMap Tm.cells),.sl none qm.length (qm.flatMap Fo.cells)]) (.box 25 [.int .u8 0,.str .empty,.nils,.nils]) (.box 25 [.int .u8 go,.str gs,.sl none gl.length (gl.flatMap Tm.cells),.sl none gm.length (gm.flatMap Fo.cells)]))) ?_
  conv=>whnf
  rw [hls4]
  conv=>whnf
  refine zei [1,5,6,10,11] (H1:=H++(([.box 25 [.int .u8 fo,.str fs,.sl none fl.length (fl.flatMap Tm.cells),.sl none fm.length (fm.flatMap Fo.cells)],.box 25 [.int .u8 po,.str ps,.sl none ql.length (ql.flatMap Tm.cells),.sl none qm.length (qm.flatMap Fo.cells)],.box 25 [.int .u8 0,.str .empty,.nils,.nils],.box 25 [.int .u8 go,.str gs,.sl none gl.length (gl.flatMap Tm.cells),.sl none gm.length (gm.flatMap Fo.cells)]]++X)++[.box 25 [.int .u8 fo,.str fs,.vs iu mu,.vs iw mw]])) rfl rfl rfl ?_
  have hP:=hpre _ (rfl:H++(([.box 25 [.int .u8 fo,.str fs,.sl none fl.length (fl.flatMap Tm.cells),.sl none fm.length (fm.flatMap Fo.cells)],.box 25 [.int .u8 po,.str ps,.sl none ql.length (ql.flatMap Tm.cells),.sl none qm.length (qm.flatMap Fo.cells)],.box 25 [.int .u8 0,.str .empty,.nils,.nils],.box 25 [.int .u8 go,.str gs,.sl none gl.length (gl.flatMap Tm.cells),.sl none gm.length (gm.flatMap Fo.cells)]]++X)++[.box 25 [.int .u8 fo,.str fs,.vs iu mu,.vs iw mw]])=_)
  revert hP
  generalize H++(([.box 25 [.int .u8 fo,.str fs,.sl none fl.length (fl.flatMap Tm.cells),.sl none fm.length (fm.flatMap Fo.cells)],.box 25 [.int .u8 po,.str ps,.sl none ql.length (ql.flatMap Tm.cells),.sl none qm.length (qm.flatMap Fo.cells)],.box 25 [.int .u8 0,.str .empty,.nils,.nils],.box 25 [.int .u8 go,.str gs,.sl none gl.length (gl.flatMap Tm.cells),.sl none gm.length (gm.flatMap Fo.cells)]]++X)++[.box 25 [.int .u8 fo,.str fs,.vs iu mu,.vs iw mw]])=M
  rintro ⟨m5,m6,m10,S,hT,hS,Y,hY⟩
  refine Ends.walk Tryz.E0 zab fun hcl1 hbl1=>?_
  clear hbl1
  conv=>whnf
  refine zcg Tryz.E0 zab (σ:=Nat×Nat×Fo×Adr×List AV×List Nat) (fun p=>p.1≤pl.length∧Hole M (.mk fo fs fl fm) [.int .u8 fo,.str fs,.vs iu mu,.vs iw mw] S (pl.take p.1) p.2.2.1 p.2.2.2.1 p.2.2.2.2.1 p.2.2.2.2.2∧findF p.2.2.1 (pl.drop p.1)≠none∧∀ i o,p.2.2.2.1=.blk i o→∀ n0 bs,M[i]? = some (.vec 25 4 bs)→bs.length=n0 * 4→p.2.1=n0) (fun p=>pl.length-p.1) (fun p=>[(27,.v (.int .i64 p.1)),(11,.v (adrV (H.length+(nx+4)) p.2.1 p.2.2.2.1))]) (fun _=>_) _ (0,0,.mk fo fs fl fm,.top,[.int .u8 fo,.str fs,.vs iu mu,.vs iw mw],S) rfl hcl1 [5,6,10,25,26] rfl ⟨yah _,Hole.nil hT hS.1,by rw [List.drop_zero,hfd];exact ⟨(fun e=>by cases e),(fun i o e=>by cases e)⟩⟩ ⟨⟨_,rfl,yae _⟩,⟨_,rfl,yae _⟩,trivial⟩ rfl (fun _ _=>rfl) ?_
  rintro ⟨k,n,g',adr,c,Sg⟩ ⟨hk,hh,hfd',hn0⟩
  simp only at hk hh hfd' hn0
  by_cases hlt:k<pl.length
  ·have hdk:pl.drop k=pl.getD k 0::pl.drop (k+1):=by
    rw [List.drop_eq_getElem_cons hlt]
    simp [yal hlt]
   have htk:pl.take (k+1)=pl.take k++[pl.getD k 0]:=zdb pl 0 k hlt
   obtain ⟨o2,s2,l2,m2,rfl⟩:=fo_ex g'
   rw [hdk,zbj] at hfd'
   split at hfd'
   ·rename_i hi
    obtain ⟨a,j,bs,S1,rfl,hjS,hj,hbl,hh2⟩:=hh.step (pl.getD k 0) hi.1 hi.2
    have q1:encI (pl.getD k 0)=[.int .i64 (pl.getD k 0)]:=rfl
    have hhere:=hh.here
    have hbne:bs≠[]:=fun e=>by
     have:=hi.2
     rw [e] at hbl
     have h3:(subs (Fo.mk o2 s2 l2 m2)).length=m2.length:=rfl
     simp only [List.length_nil] at hbl
     have:=hi.1
     omega
    have hn1:∀ i o,Adr.blk j (4 * (pl.getD k 0).toNat)=.blk i o→∀ n0 bs',M[i]? = some (.vec 25 4 bs')→bs'.length=n0 * 4→m2.length=n0:=fun i o e n0 bs' h3 h4=>by
     cases e
     rw [hj] at h3
     cases h3
     omega
    cases adr with
    | top =>
      cases hhere
      (repeat' ((conv=>whnf);(first|refine zaq (by omega) ?_|(refine zaw _ _ Cst.h Cst.h ?_ ?_;· omega)|(refine yaf ?_ ?_;· first|omega|exact yaa _ _|fail)|refine zaf 0 k rfl hlt (fun _=>rfl) q1 ?_|refine yb3 _ m10 ?_|refine yb3 _ hj ?_|refine yaf ⟨⟨hbl,hbne⟩,hi.1,hi.2⟩ ?_|fail)));conv=>whnf
      rw [Nat.mul_comm (pl.getD k 0).toNat 4]
      (refine ⟨⟨(k+1,m2.length,m2.getD (pl.getD k 0).toNat fo0,.blk iw (4 * (pl.getD k 0).toNat),(bs.drop (4 * (pl.getD k 0).toNat)).take 4,S1),⟨by show k+1≤_;omega,by rw [htk];exact hh2,hfd',hn1⟩,by omega,?_,.inl ⟨rfl,rfl⟩,rfl,_,rfl,?_⟩⟩;rotate_left 1;exact .inl rfl;exact ⟨⟨_,rfl,yae _⟩,⟨_,rfl,yae _⟩,trivial⟩)
    | blk i0 o0 =>
      obtain ⟨hi1,hi2,n0,bs0,hb1,hb2,hb3,hb4⟩:=hhere
      obtain rfl:n=n0:=hn0 i0 o0 rfl n0 bs0 hb1 hb2
      have hsg:Seg bs0 (o0+3) [.vs j m2.length]:=by
       refine ⟨bs0.drop (o0+4),?_⟩
       have e1:bs0.drop o0=(bs0.drop o0).take 4++(bs0.drop o0).drop 4:=(yce 4 _).symm
       rw [hb4] at e1
       rw [← ydj,e1,ydj]
       rfl
      (repeat' ((conv=>whnf);(first|refine yaf hb2 ?_|refine zaq (by omega) ?_|(refine zaw _ _ Cst.h Cst.h ?_ ?_;· omega)|(refine yaf ?_ ?_;· first|omega|exact yaa _ _|fail)|refine zaf 0 k rfl hlt (fun _=>rfl) q1 ?_|refine yb3 _ hb1 ?_|refine yc1 _ hsg ?_|refine yb3 _ hj ?_|refine yaf ⟨⟨hbl,hbne⟩,hi.1,hi.2⟩ ?_|fail)));conv=>whnf
      rw [Nat.mul_comm (pl.getD k 0).toNat 4]
      (refine ⟨⟨(k+1,m2.length,m2.getD (pl.getD k 0).toNat fo0,.blk j (4 * (pl.getD k 0).toNat),(bs.drop (4 * (pl.getD k 0).toNat)).take 4,S1),⟨by show k+1≤_;omega,by rw [htk];exact hh2,hfd',hn1⟩,by omega,?_,.inl ⟨rfl,rfl⟩,rfl,_,rfl,?_⟩⟩;rotate_left 1;exact .inl rfl;exact ⟨⟨_,rfl,yae _⟩,⟨_,rfl,yae _⟩,trivial⟩)
   ·exact absurd rfl hfd'
  ·obtain rfl:k=pl.length:=by omega
   rw [ya0] at hh
   have hcp:∀ M1:Heap,VCall Tryz.prog 42 [.agg [.int .u8 po,.str ps,.sl none ql.length (ql.flatMap Tm.cells),.sl none qm.length (qm.flatMap Fo.cells)]] M1 fun r H'=>r=.agg (layF (.mk po ps ql qm) M1.length).1∧H'=M1++(layF (.mk po ps ql qm) M1.length).2:=fun M1=>by
    have:=cpF_g _ hp M1
    rwa [zac] at this
   cases adr with
   | top =>
     have hcp:=hcp M
     have hYl:=zca (.mk po ps ql qm) M.length
     have q3:(layF (.mk po ps ql qm) M.length).1=[.int .u8 po,.str ps,hV ql.length (M.length+2),hV qm.length (M.length+2+hN ql.length (nTl ql))]:=by rw [layF]
     have hAt2:=fun M2=>zdi M2 (.mk po ps ql qm) M.length
     simp only [q3] at hcp hAt2
     have hu2:=hV_or ql.length (M.length+2)
     have hw2:=hV_or qm.length (M.length+2+hN ql.length (nTl ql))
     generalize hV ql.length (M.length+2)=u2 at *
     generalize hV qm.length (M.length+2+hN ql.length (nTl ql))=w2 at *
     generalize (layF (.mk po ps ql qm) M.length).2=Z at *
     generalize nF (.mk po ps ql qm)=nz at *
     have hcp:VCall Tryz.prog 42 [.agg [.int .u8 po,.str ps,.sl none ql.length (ql.flatMap Tm.cells),.sl none qm.length (qm.flatMap Fo.cells)]] (M++[]) fun r H'=>r=.agg [.int .u8 po,.str ps,u2,w2]∧H'=(M++[])++Z:=by rw [yas];exact hcp
     have hlen:H.length+4+nx≤M.length:=by
      have:=(yac.1 m10).1
      omega
     have m6s:∀ C,(M.set (H.length+(nx+4)) C)[H.length+(0+1+1)]? = some (.box 25 [.int .u8 0,.str .empty,.nils,.nils]):=fun C=>by
      rw [yc3 (by omega)]
      exact m6
     have m6f:∀ C D,((M.set (H.length+(nx+4)) C).set (H.length+(0+1+1)) D)[H.length+(0+1+1)]? = some D:=fun C D=>List.getElem?_set_self (by rw [List.length_set];omega)
     have hpre2:∀ C D,∃ Y2,(M.set (H.length+(nx+4)) C).set (H.length+(0+1+1)) D=H++Y2:=fun C D=>⟨(Y.set (nx+4) C).set (0+1+1) D,by rw [hY,zbn,zbn]⟩
     have hsame:∀ C D,∀ x∈S,x ∉ Sg→((M.set (H.length+(nx+4)) C).set (H.length+(0+1+1)) D)[x]? = M[x]? := fun C D x hx _=>by
      have:=hS.2 x hx
      rw [yc3 (by omega),yc3 (by omega)]
     have hsub:∀ C D,SubH M.length Z ((M.set (H.length+(nx+4)) C).set (H.length+(0+1+1)) D++Z):=fun C D=>by
      have:=SubH.self ((M.set (H.length+(nx+4)) C).set (H.length+(0+1+1)) D) Z
      rwa [List.length_set,List.length_set] at this
     rcases hu2 with rfl|⟨iu2,mu2,rfl⟩ <;> rcases hw2 with rfl|⟨iw2,mw2,rfl⟩
     all_goals
      (repeat' ((conv=>whnf);(first|refine ydf _ rfl ?_|refine zal (by omega) ?_|refine yb3 _ m5 ?_|refine ydg _ Z Z nz hcp rfl rfl hYl ?_|refine yb3 _ m10 ?_|refine yb3 _ (m6s _) ?_|refine yb3 _ (by (repeat' (first|assumption|exact zav _ rfl|exact za1 rfl|refine za9 (B':=?_) ?_|refine zas ?_|fail))) ?_|fail)));all_goals (conv=>whnf)
      refine ⟨_,.box rfl (m6f _ _) rfl rfl rfl (.cons rfl .nil),_,_,rfl,ydh _ (yae _) ?_⟩
      obtain ⟨S2,X2,w1,w2,w3,w4⟩:=zdq hh hS hlen (by simp) (hpre2 _ _) (hsame _ _) (hAt2 _ (hsub _ _))
      exact ⟨_,S2,X2,rfl,w1,w2,w3,w4⟩
   | blk i0 o0 =>
     obtain ⟨hi1,hi2,n0,bs0,hb1,hb2,hb3,hb4⟩:=hh.here
     obtain rfl:n=n0:=hn0 i0 o0 rfl n0 bs0 hb1 hb2
     have hi0:=hS.2 i0 hi1
     have hcp:=hcp M
     have hYl:=zca (.mk po ps ql qm) M.length
     have q3:(layF (.mk po ps ql qm) M.length).1=[.int .u8 po,.str ps,hV ql.length (M.length+2),hV qm.length (M.length+2+hN ql.length (nTl ql))]:=by rw [layF]
     have hAt2:=fun M2=>zdi M2 (.mk po ps ql qm) M.length
     simp only [q3] at hcp hAt2
     have hu2:=hV_or ql.length (M.length+2)
     have hw2:=hV_or qm.length (M.length+2+hN ql.length (nTl ql))
     generalize hV ql.length (M.length+2)=u2 at *
     generalize hV qm.length (M.length+2+hN ql.length (nTl ql))=w2 at *
     generalize (layF (.mk po ps ql qm) M.length).2=Z at *
     generalize nF (.mk po ps ql qm)=nz at *
     have hcp:VCall Tryz.prog 42 [.agg [.int .u8 po,.str ps,.sl none ql.length (ql.flatMap Tm.cells),.sl none qm.length (qm.flatMap Fo.cells)]] (M++[]) fun r H'=>r=.agg [.int .u8 po,.str ps,u2,w2]∧H'=(M++[])++Z:=by rw [yas];exact hcp
     have hlen:H.length+4+nx≤M.length:=by
      have:=(yac.1 m10).1
      omega
     have hi0M:=(yac.1 hb1).1
     have m6s:∀ C,(M.set i0 C)[H.length+(0+1+1)]? = some (.box 25 [.int .u8 0,.str .empty,.nils,.nils]):=fun C=>by
      rw [yc3 (by omega)]
      exact m6
     have m10s:∀ C,(M.set i0 C)[H.length+(nx+4)]? = some (.box 25 [.int .u8 fo,.str fs,.vs iu mu,.vs iw mw]):=fun C=>by
      rw [yc3 (by omega)]
      exact m10
     have m6f:∀ C D,((M.set i0 C).set (H.length+(0+1+1)) D)[H.length+(0+1+1)]? = some D:=fun C D=>List.getElem?_set_self (by rw [List.length_set];omega)
     have hpre2:∀ C D,∃ Y2,(M.set i0 C).set (H.length+(0+1+1)) D=H++Y2:=fun C D=>⟨(Y.set (i0-H.length) C).set (0+1+1) D,by rw [hY,ybv _ _ (by omega),zbn]⟩
     have hsame:∀ vs D,vs.length=4→∀ x∈S,x ∉ Sg→((M.set i0 (.vec 25 4 (setL bs0 o0 vs))).set (H.length+(0+1+1)) D)[x]? = (Adr.blk i0 o0).new M vs x:=fun vs D hv x hx _=>by
      have:=hS.2 x hx
      rw [yc3 (by omega)]
      simp only [Adr.new]
      split
      ·rename_i e
       subst e
       rw [List.getElem?_set_self (by omega),hb1]
       simp only [ya8,upB,setL,hv,yba]
      ·rename_i e
       rw [yc3 (fun q=>e q.symm)]
     have hsub:∀ C D,SubH M.length Z ((M.set i0 C).set (H.length+(0+1+1)) D++Z):=fun C D=>by
      have:=SubH.self ((M.set i0 C).set (H.length+(0+1+1)) D) Z
      rwa [List.length_set,List.length_set] at this
     rcases hu2 with rfl|⟨iu2,mu2,rfl⟩ <;> rcases hw2 with rfl|⟨iw2,mw2,rfl⟩
     all_goals
      (repeat' ((conv=>whnf);(first|refine yaf ⟨hb2,hb3,Nat.succ_pos _⟩ ?_|refine ydf _ rfl ?_|refine zal (by omega) ?_|refine yb3 _ m5 ?_|refine ydg _ Z Z nz hcp rfl rfl hYl ?_|refine yb3 _ hb1 ?_|refine RelN.mk (setL bs0 o0 _) [] rfl ?_|refine yb3 _ (m10s _) ?_|refine yb3 _ (m6s _) ?_|fail)));all_goals (conv=>whnf)
      refine ⟨_,.box rfl (m6f _ _) rfl rfl rfl (.cons rfl .nil),_,_,rfl,ydh _ (yae _) ?_⟩
      obtain ⟨S2,X2,w1,w2,w3,w4⟩:=zdq hh hS hlen (by simp) (hpre2 _ _) (hsame _ _ rfl) (hAt2 _ (hsub _ _))
      exact ⟨_,S2,X2,rfl,w1,w2,w3,w4⟩
theorem zb4 {H:Heap} {i:Nat} {B:Blk} (h:H[i]? = some B) (X:Heap):(H++X)[i]? = some B:=by
 rw [yaj (yac.1 h).1]
 exact h
def AtR (e:Int) (g:Fo) (H:Heap) (r:AV) (H':Heap):Prop:=∃ (o:Nat) (s:ByteArray) (a b:AV) (S:List Nat) (X:Heap),r=.tup [.agg [.int .u8 (o:Nat),.str s,a,b],.int .i64 e]∧H'=H++X∧AtF H' g [.int .u8 (o:Nat),.str s,a,b] S∧S.Nodup∧∀ j∈S,H.length≤j
theorem AtF.ex {H:Heap} {g:Fo} {cs:List AV} {S:List Nat} (h:AtF H g cs S):∃ (o:Nat) (s:ByteArray) (a b:AV),cs=[.int .u8 (o:Nat),.str s,a,b]:=by
 obtain ⟨o,s,l,m,rfl⟩:=fo_ex g
 rw [AtF] at h
 obtain ⟨a,b,S1,S2,h1,-⟩:=h
 exact ⟨o,s,a,b,h1⟩
theorem AtF.app {H:Heap} {g:Fo} {cs:List AV} {S:List Nat} (h:AtF H g cs S) (X:Heap):AtF (H++X) g cs S :=
 AtF.mono g h fun i hi=>by rw [yaj (AtF.low g h i hi)]
theorem ex_app {H B:Heap} (h:∃ Z,B=H++Z) (X:Heap):∃ Z,B++X=H++Z:=by
 obtain ⟨Z,rfl⟩:=h
 exact ⟨Z++X,by rw [yba]⟩
theorem ex_len {H B:Heap} (h:∃ Z,B=H++Z):H.length≤B.length:=by
 obtain ⟨Z,rfl⟩:=h
 rw [ya3]
 omega
def NlVs (a:AV):Prop:=a=.nils∨∃ i n,a=.vs i n
theorem HdAt.nv {ty sz n:Nat} {H:Heap} {a:AV} {S:List Nat} {P:List AV→List Nat→Prop} (h:HdAt ty sz H n a S P):NlVs a:=by
 rcases h with ⟨-,h,-⟩|⟨i,-,-,h,-⟩
 ·exact .inl h
 ·exact .inr ⟨_,_,h⟩
theorem AtF.nv {H:Heap} {g:Fo} {o:Nat} {s:ByteArray} {a b:AV} {S:List Nat} (h:AtF H g [.int .u8 (o:Nat),.str s,a,b] S):NlVs a∧NlVs b:=by
 obtain ⟨o,s,l,m,rfl⟩:=fo_ex g
 rw [AtF] at h
 obtain ⟨a',b',S1,S2,h1,-,h2,h3⟩:=h
 simp only [List.cons.injEq,and_true] at h1
 obtain ⟨-,-,rfl,rfl⟩:=h1
 exact ⟨h2.nv,h3.nv⟩
theorem storeS_4 {o:Nat} {s:ByteArray} {a b:AV} (ha:NlVs a) (hb:NlVs b) (loc:Heap) (h:lget loc 0=some (.box 25 [.int .u8 0,.str .empty,.nils,.nils])):zep Tryz.T 25 loc (some (.lp 0 0)) (some (.agg [.int .u8 (o:Nat),.str s,a,b]))=.upd 0 (.box 25 [.int .u8 (o:Nat),.str s,a,b]) none:=by
 rcases ha with rfl|⟨_,_,rfl⟩ <;> rcases hb with rfl|⟨_,_,rfl⟩ <;> exact zdd rfl rfl rfl h rfl
theorem at_R (f g:Fo) (hg:f.good) (hf:f.fit) (pl:List Int) (hl:pl.length≤9223372036854775807) (hfd:findF f pl=some g) (H:Heap):VCall Tryz.prog 24 [.agg f.cells,.sl none pl.length (pl.flatMap encI)] H (AtR 0 g H):=by
 obtain ⟨go,gs,gl,gm,rfl⟩:=fo_ex g
 refine VCall.mono (at_v f hg pl hl _ _ _ _ hfd (zgj pl f _ hf hfd) H) fun r H' ⟨h1,h2⟩=>?_
 subst h1 h2
 have hs:SubH (H.length+3) (layF (.mk go gs gl gm) (H.length+3)).2 (H++(.box 25 f.cells::.box 25 (layF (.mk go gs gl gm) (H.length+3)).1::.box 25 (Fo.mk go gs gl gm).cells::(layF (.mk go gs gl gm) (H.length+3)).2)):=by
  have:=SubH.self (H++[.box 25 f.cells,.box 25 (layF (.mk go gs gl gm) (H.length+3)).1,.box 25 (Fo.mk go gs gl gm).cells]) (layF (.mk go gs gl gm) (H.length+3)).2
  rw [ya3,yba] at this
  exact this
 obtain ⟨S,a1,a2⟩:=zdi _ _ _ hs
 obtain ⟨o,s,a,b,e⟩:=a1.ex
 exact ⟨o,s,a,b,S,_,by rw [e],rfl,by rw [← e];exact a1,a2.1,fun j hj=>by have:=a2.2 j hj;omega⟩
theorem at_N (f:Fo) (hg:f.good) (pl:List Int) (hl:pl.length≤9223372036854775807) (hfd:findF f pl=none) (H:Heap):VDet Tryz.prog 24 [.agg f.cells,.sl none pl.length (pl.flatMap encI)] H (.tup [.agg [.int .u8 0,.str .empty,.nils,.nils],.int .i64 6]):=by
 have h1:=find_c f hg pl hl
 rw [hfd] at h1
 unfold findA at h1
 simp only at h1
 obtain ⟨op,s,l,m,rfl⟩:=fo_ex f
 rw [zac] at h1 ⊢
 rw [zdk] at h1
 generalize l.flatMap Tm.cells=lc at *
 generalize m.flatMap Fo.cells=mc at *
 generalize l.length=ln at *
 generalize m.length=mn at *
 refine zah Tryz.E0 zab Tryz.func24 (by kernel_rfl) rfl (ybq rfl) rfl fun hcl hbl=>?_
 (repeat' ((conv=>whnf);(first|(refine yai ?_;first|refine yar ?_|refine yat rfl ?_|fail)|refine yab _ (h1 _) ?_|fail)));conv=>whnf
 exact eT (by simp [below,zae])
theorem with_N (f:Fo) (hg:f.good) (p:Fo) (pl:List Int) (hl:pl.length≤9223372036854775807) (hfd:findF f pl=none) (H:Heap):VDet Tryz.prog 14 [.agg f.cells,.sl none pl.length (pl.flatMap encI),.agg p.cells] H (.tup [.agg [.int .u8 0,.str .empty,.nils,.nils],.int .i64 6]):=by
 have h1:=find_c f hg pl hl
 rw [hfd] at h1
 unfold findA at h1
 simp only at h1
 obtain ⟨op,s,l,m,rfl⟩:=fo_ex f
 obtain ⟨po,ps,pa,pm,rfl⟩:=fo_ex p
 rw [zdk] at h1
 rw [zac,zac]
 rw [zac] at h1
 refine zah Tryz.E0 zab Tryz.func14 (by kernel_rfl) rfl (ybq rfl) rfl fun hcl hbl=>?_
 (repeat' ((conv=>whnf);(first|(refine yai ?_;first|refine yar ?_|refine yat rfl ?_|fail)|refine yab _ (h1 _) ?_|fail)));conv=>whnf
 exact eT (by simp [below,zae])
theorem atR_N {P:Program} {F:FuncId} {xs:List AV} {H:Heap} (h:VDet P F xs H (.tup [.agg [.int .u8 0,.str .empty,.nils,.nils],.int .i64 6])):VCall P F xs H (AtR 6 fo0 H) :=
 VCall.mono h fun r H' ⟨h1,h2⟩=>by
  subst h1 h2
  refine ⟨0,.empty,.nils,.nils,[],[],rfl,by rw [yas],?_,yc4,fun j hj=>by cases hj⟩
  unfold fo0
  rw [AtF]
  exact ⟨.nils,.nils,[],[],rfl,rfl,.inl ⟨rfl,rfl,rfl⟩,.inl ⟨rfl,rfl,rfl⟩⟩
theorem with_R (f p g:Fo) (hg:f.good) (hf:f.fit) (hp:p.fit) (pl:List Int) (hl:pl.length≤9223372036854775807) (hfd:findF f pl=some g) (H:Heap):VCall Tryz.prog 14 [.agg f.cells,.sl none pl.length (pl.flatMap encI),.agg p.cells] H (AtR 0 (putF pl f p) H):=by
 refine VCall.mono (with_v f p hg hf hp pl hl g hfd H) fun r H' ⟨cs,S,X,h1,h2,h3,h4,h5⟩=>?_
 obtain ⟨o,s,a,b,rfl⟩:=h3.ex
 exact ⟨o,s,a,b,S,X,h1,h2,h3,h4,h5⟩
theorem AtF.over1 {q:Nat} {H H':Heap} {x:Fo} {o:Nat} {s:ByteArray} {a b:AV} {S T:List Nat} (h:AtF H x [.int .u8 (o:Nat),.str s,a,b] S) (hx:x.fit) (ho:OvS T H H') (hs:∀ j∈S,j∈T) (hq:∀ j∈S,q≤j):CstT q H' a∧CstF q H' b:=by
 obtain ⟨o,s,l,m,rfl⟩:=fo_ex x
 rw [AtF] at h
 obtain ⟨a',b',S1,S2,h1,rfl,h2,h3⟩:=h
 simp only [List.cons.injEq,and_true] at h1
 obtain ⟨-,-,rfl,rfl⟩:=h1
 exact ⟨h2.cstT hx.2.1 ho (fun j hj=>hs j (List.mem_append_left _ hj)) fun j hj=>hq j (List.mem_append_left _ hj),h3.cstF hx.2.2.2.1 ho (fun j hj=>hs j (List.mem_append_right _ hj)) fun j hj=>hq j (List.mem_append_right _ hj)⟩
theorem over37 {q:Nat} {B:Heap} {a:AV} (h:CstT q B a) (loc:Heap):∃ S,(∀ j∈S,q≤j∧j<B.length)∧VCall Tryz.prog 37 [a] (B++loc) fun r H'=>r=.tup []∧OvS S (B++loc) H':=by
 obtain ⟨n,S,h1,h2,h3,h4⟩:=h.hd
 refine ⟨S,h4,overTerms_v (List.replicate n dash) (by rw [List.length_replicate];exact h1) (fit_dash n) _ _ _ ?_ h2⟩
 rw [List.length_replicate]
 exact h3.monoT fun j hj=>by rw [yaj (h4 j hj).2]
theorem over36 {q:Nat} {B:Heap} {a:AV} (h:CstF q B a) (loc:Heap):∃ S,(∀ j∈S,q≤j∧j<B.length)∧VCall Tryz.prog 36 [a] (B++loc) fun r H'=>r=.tup []∧OvS S (B++loc) H':=by
 obtain ⟨n,S,h1,h2,h3,h4⟩:=h.hd
 refine ⟨S,h4,over_v (List.replicate n f99) (by rw [List.length_replicate];exact h1) (fit_f99 n) _ _ _ ?_ h2⟩
 rw [List.length_replicate]
 exact h3.monoF fun j hj=>by rw [yaj (h4 j hj).2]
theorem over_ab {B:Heap} {x y:Fo} {ca cb:List AV} {Sa Sb:List Nat} (hat:AtF B x ca Sa) (hbt:AtF B y cb Sb) (hnd:(Sa++Sb).Nodup) (hx:x.fit) (hy:y.fit) (loc:Heap) (c:Nat) (hc:loc[c]? = some (.vec 25 4 (ca++cb))) :
  VCall Tryz.prog 36 [.vs (B.length+c) 2] (B++loc) fun r H'=>r=.tup []∧OvS ((B.length+c)::(Sa++Sb)) (B++loc) H':=by
 refine over_v [x,y] (show 2 * 72≤capB by decide) ⟨hx,hy,trivial⟩ _ _ _ (.inr ⟨_,ca++cb,Sa++Sb,rfl,?_,rfl,?_⟩) (List.nodup_cons.2 ⟨fun h=>?_,hnd⟩)
 ·rw [yam (by omega),ybh]
  exact hc
 ·rw [AtFl]
  refine ⟨ca,cb,Sa,Sb,rfl,rfl,hat.app _,?_⟩
  rw [AtFl]
  refine ⟨cb,[],Sb,[],by rw [yas],by rw [yas],hbt.app _,?_⟩
  rw [AtFl]
  exact ⟨rfl,rfl⟩
 ·rcases ybd.1 h with h|h
  ·have:=AtF.low x hat _ h
   omega
  ·have:=AtF.low y hbt _ h
   omega
theorem places_k (fo:Nat) (fs:ByteArray) (fn fm:Nat) (fc fd:List AV) (po:Nat) (ps:ByteArray) (pn pm:Nat) (pc pd:List AV) (kn:Nat) (kc:List AV) (e:Int) (x y:Fo) (hxf:x.fit) (hyf:y.fit)
  (xo:Nat) (xs:ByteArray) (xn xm:Nat) (xc xd:List AV) (yo:Nat) (ys:ByteArray) (yn ym:Nat) (yc yd:List AV)
  (c1:∀ H,VDet Tryz.prog 11 [.agg [.int .u8 (fo:Nat),.str fs,.sl none fn fc,.sl none fm fd]] H (.agg [.int .u8 (fo:Nat),.str fs,.sl none fn fc,.sl none fm fd]))
  (c2:∀ H,VDet Tryz.prog 11 [.agg [.int .u8 (po:Nat),.str ps,.sl none pn pc,.sl none pm pd]] H (.agg [.int .u8 (po:Nat),.str ps,.sl none pn pc,.sl none pm pd]))
  (h24:∀ H,VCall Tryz.prog 24 [.agg [.int .u8 (fo:Nat),.str fs,.sl none fn fc,.sl none fm fd],.sl none kn kc] H (AtR e x H))
  (h14:∀ H,VCall Tryz.prog 14 [.agg [.int .u8 (fo:Nat),.str fs,.sl none fn fc,.sl none fm fd],.sl none kn kc,.agg [.int .u8 (po:Nat),.str ps,.sl none pn pc,.sl none pm pd]] H (AtR e y H))
  (h34:∀ H,VDet Tryz.prog 34 [.agg [.int .u8 (fo:Nat),.str fs,.sl none fn fc,.sl none fm fd],.sl none kn kc] H (.tup [.agg [.int .u8 (xo:Nat),.str xs,.sl none xn xc,.sl none xm xd],.int .i64 e]))
  (h35:∀ H,VDet Tryz.prog 35 [.agg [.int .u8 (fo:Nat),.str fs,.sl none fn fc,.sl none fm fd],.sl none kn kc,.agg [.int .u8 (po:Nat),.str ps,.sl none pn pc,.sl none pm pd]] H (.tup [.agg [.int .u8 (yo:Nat),.str ys,.sl none yn yc,.sl none ym yd],.int .i64 e]))
  (sx:∀ H cs S,AtF H x cs S→VDet Tryz.prog 30 [.agg cs,.agg [.int .u8 (xo:Nat),.str xs,.sl none xn xc,.sl none xm xd]] H (.bool true))
  (sy:∀ H cs S,AtF H y cs S→VDet Tryz.prog 30 [.agg cs,.agg [.int .u8 (yo:Nat),.str ys,.sl none yn yc,.sl none ym yd]] H (.bool true))
  (sf:∀ H,VDet Tryz.prog 30 [.agg [.int .u8 (fo:Nat),.str fs,.sl none fn fc,.sl none fm fd],.agg [.int .u8 (fo:Nat),.str fs,.sl none fn fc,.sl none fm fd]] H (.bool true))
  (sp:∀ H,VDet Tryz.prog 30 [.agg [.int .u8 (po:Nat),.str ps,.sl none pn pc,.sl none pm pd],.agg [.int .u8 (po:Nat),.str ps,.sl none pn pc,.sl none pm pd]] H (.bool true)) (H:Heap) :
  VDet Tryz.prog 9 [.agg [.int .u8 (fo:Nat),.str fs,.sl none fn fc,.sl none fm fd],.agg [.int .u8 (po:Nat),.str ps,.sl none pn pc,.sl none pm pd],.sl none kn kc] H (.bool true):=by
 show VCall _ _ _ _ (detR H (.bool true))
 refine fn_cut Tryz.E0 zab 2 Tryz.func9 (by kernel_rfl) rfl (ybq rfl) rfl fun hcl hbl=>?_
 clear hbl
 (repeat' ((conv=>whnf);(first|refine zam [2,3] ?_|refine yaf (by kernel_rfl) ?_|(refine CallD.id ?_;first|refine yan _ (fun _ hq X=>c1 _) ?_|refine yan _ (fun _ hq X=>c2 _) ?_|fail)|fail)));conv=>whnf
 refine zei [2,3,4,7,8] (H1:=H++[.box 25 [.int .u8 (fo:Nat),.str fs,.sl none fn fc,.sl none fm fd],.box 25 [.int .u8 (po:Nat),.str ps,.sl none pn pc,.sl none pm pd],.box 25 [.int .u8 (fo:Nat),.str fs,.sl none fn fc,.sl none fm fd],.box 25 [.int .u8 (po:Nat),.str ps,.sl none pn pc,.sl none pm pd]]) rfl rfl rfl ?_
 have b3:(H++[.box 25 [.int .u8 (fo:Nat),.str fs,.sl none fn fc,.sl none fm fd],.box 25 [.int .u8 (po:Nat),.str ps,.sl none pn pc,.sl none pm pd],.box 25 [.int .u8 (fo:Nat),.str fs,.sl none fn fc,.sl none fm fd],.box 25 [.int .u8 (po:Nat),.str ps,.sl none pn pc,.sl none pm pd]])[H.length+0]? = some (.box 25 [.int .u8 (fo:Nat),.str fs,.sl none fn fc,.sl none fm fd]):=za1 rfl
 have b4:(H++[.box 25 [.int .u8 (fo:Nat),.str fs,.sl none fn fc,.sl none fm fd],.box 25 [.int .u8 (po:Nat),.str ps,.sl none pn pc,.sl none pm pd],.box 25 [.int .u8 (fo:Nat),.str fs,.sl none fn fc,.sl none fm fd],.box 25 [.int .u8 (po:Nat),.str ps,.sl none pn pc,.sl none pm pd]])[H.length+1]? = some (.box 25 [.int .u8 (po:Nat),.str ps,.sl none pn pc,.sl none pm pd]):=za1 rfl
 have b7:(H++[.box 25 [.int .u8 (fo:Nat),.str fs,.sl none fn fc,.sl none fm fd],.box 25 [.int .u8 (po:Nat),.str ps,.sl none pn pc,.sl none pm pd],.box 25 [.int .u8 (fo:Nat),.str fs,.sl none fn fc,.sl none fm fd],.box 25 [.int .u8 (po:Nat),.str ps,.sl none pn pc,.sl none pm pd]])[H.length+2]? = some (.box 25 [.int .u8 (fo:Nat),.str fs,.sl none fn fc,.sl none fm fd]):=za1 rfl
 have b8:(H++[.box 25 [.int .u8 (fo:Nat),.str fs,.sl none fn fc,.sl none fm fd],.box 25 [.int .u8 (po:Nat),.str ps,.sl none pn pc,.sl none pm pd],.box 25 [.int .u8 (fo:Nat),.str fs,.sl none fn fc,.sl none fm fd],.box 25 [.int .u8 (po:Nat),.str ps,.sl none pn pc,.sl none pm pd]])[H.length+3]? = some (.box 25 [.int .u8 (po:Nat),.str ps,.sl none pn pc,.sl none pm pd]):=za1 rfl
 have hp1:∃ Z,H++[.box 25 [.int .u8 (fo:Nat),.str fs,.sl none fn fc,.sl none fm fd],.box 25 [.int .u8 (po:Nat),.str ps,.sl none pn pc,.sl none pm pd],.box 25 [.int .u8 (fo:Nat),.str fs,.sl none fn fc,.sl none fm fd],.box 25 [.int .u8 (po:Nat),.str ps,.sl none pn pc,.sl none pm pd]]=H++Z:=⟨_,rfl⟩
 generalize H++[.box 25 [.int .u8 (fo:Nat),.str fs,.sl none fn fc,.sl none fm fd],.box 25 [.int .u8 (po:Nat),.str ps,.sl none pn pc,.sl none pm pd],.box 25 [.int .u8 (fo:Nat),.str fs,.sl none fn fc,.sl none fm fd],.box 25 [.int .u8 (po:Nat),.str ps,.sl none pn pc,.sl none pm pd]]=B1 at *
 clear hcl
 -- a,e:=syntax.At(in,place)
 refine Ends.cutO Tryz.E0 3 fun hcl1 hbl1=>?_
 clear hbl1
 have h24':VCall Tryz.prog 24 [.agg [.int .u8 (fo:Nat),.str fs,.sl none fn fc,.sl none fm fd],.sl none kn kc] (B1++[]) (AtR e x B1):=by rw [yas];exact h24 B1
 (repeat' ((conv=>whnf);(first|refine CallN.gen _ h24' fun r H' hr=>?_|refine yb3 _ (by (repeat' (first|assumption|exact zav _ rfl|exact za1 rfl|refine za9 (B':=?_) ?_|refine zas ?_|fail))) ?_|fail)));conv=>whnf
 obtain ⟨ao,as_,aa,ab,Sa,Xa,rfl,rfl,hat,hnd,hlo⟩:=hr
 refine ⟨B1,Xa.length,Xa,rfl,rfl,rfl,?_⟩
 conv=>whnf
 refine CutO.mk' [2,3,4,7,8,24] (H1:=B1++Xa) rfl rfl rfl ?_
 have b3:=zb4 b3 Xa
 have b4:=zb4 b4 Xa
 have b7:=zb4 b7 Xa
 have b8:=zb4 b8 Xa
 have hp2:=ex_app hp1 Xa
 have hlB:=ex_len hp1
 have hlo:∀ j∈Sa,H.length≤j:=fun j hj=>by have:=hlo j hj;omega
 clear hp1 hcl1 h24' hlB
 generalize B1++Xa=B2 at *
 have hst:=storeS_4 (o:=ao) (s:=as_) hat.nv.1 hat.nv.2
 refine EndsO.cut Tryz.E0 zab 0 fun hcl2 hbl2=>?_
 clear hbl2
 conv=>whnf
 refine Eq.mpr (congrArg (@SR.rec (fun _=>Prop) _ _ _ _ _ _ _ _ _ _ _ _ _ _ _ _ _ _ _ _ _) (hst [.box 25 [.int .u8 0,.str .empty,.nils,.nils]] rfl)) ?_
 conv=>whnf
 refine zei [2,3,4,7,8,9,10] (H1:=B2++[.box 25 [.int .u8 (ao:Nat),.str as_,aa,ab]]) rfl rfl rfl ?_
 have b9:(B2++[.box 25 [.int .u8 (ao:Nat),.str as_,aa,ab]])[B2.length+0]? = some (.box 25 [.int .u8 (ao:Nat),.str as_,aa,ab]):=za1 rfl
 have b3:=zb4 b3 [.box 25 [.int .u8 (ao:Nat),.str as_,aa,ab]]
 have b4:=zb4 b4 [.box 25 [.int .u8 (ao:Nat),.str as_,aa,ab]]
 have b7:=zb4 b7 [.box 25 [.int .u8 (ao:Nat),.str as_,aa,ab]]
 have b8:=zb4 b8 [.box 25 [.int .u8 (ao:Nat),.str as_,aa,ab]]
 have hp3:=ex_app hp2 [.box 25 [.int .u8 (ao:Nat),.str as_,aa,ab]]
 have hat:=hat.app [.box 25 [.int .u8 (ao:Nat),.str as_,aa,ab]]
 clear hst hcl2 hp2
 generalize B2++[.box 25 [.int .u8 (ao:Nat),.str as_,aa,ab]]=B3 at *
 -- b,g:=syntax.With(in,place,put)
 refine Ends.cutO Tryz.E0 4 fun hcl3 hbl3=>?_
 clear hbl3
 have h14':VCall Tryz.prog 14 [.agg [.int .u8 (fo:Nat),.str fs,.sl none fn fc,.sl none fm fd],.sl none kn kc,.agg [.int .u8 (po:Nat),.str ps,.sl none pn pc,.sl none pm pd]] (B3++[]) (AtR e y B3):=by rw [yas];exact h14 B3
 (repeat' ((conv=>whnf);(first|refine CallN.gen _ h14' fun r H' hr=>?_|refine yb3 _ (by (repeat' (first|assumption|exact zav _ rfl|exact za1 rfl|refine za9 (B':=?_) ?_|refine zas ?_|fail))) ?_|fail)));conv=>whnf
 obtain ⟨bo,bs,ba,bb,Sb,Xb,rfl,rfl,hbt,hbnd,hblo⟩:=hr
 refine ⟨B3,Xb.length,Xb,rfl,rfl,rfl,?_⟩
 conv=>whnf
 refine CutO.mk' [2,3,4,7,8,9,10,31] (H1:=B3++Xb) rfl rfl rfl ?_
 have b3:=zb4 b3 Xb
 have b4:=zb4 b4 Xb
 have b7:=zb4 b7 Xb
 have b8:=zb4 b8 Xb
 have b9:=zb4 b9 Xb
 have hp4:=ex_app hp3 Xb
 have hlB:=ex_len hp3
 have hac:=AtF.low x hat
 have hat:=hat.app Xb
 have hSS:(Sa++Sb).Nodup:=List.nodup_append.2 ⟨hnd,hbnd,fun i hi j hj e=>by have h1:=hac i hi;have h2:=hblo j hj;omega⟩
 have hlo:∀ j∈Sa++Sb,H.length≤j:=fun j hj=>(ybd.1 hj).elim (hlo j) fun hj=>by have:=hblo j hj;omega
 clear hp3 hcl3 h14' hlB hac hnd hbnd hblo
 generalize B3++Xb=B4 at *
 have hst:=storeS_4 (o:=bo) (s:=bs) hbt.nv.1 hbt.nv.2
 refine EndsO.cut Tryz.E0 zab 0 fun hcl4 hbl4=>?_
 clear hbl4
 conv=>whnf
 refine Eq.mpr (congrArg (@SR.rec (fun _=>Prop) _ _ _ _ _ _ _ _ _ _ _ _ _ _ _ _ _ _ _ _ _) (hst [.box 25 [.int .u8 0,.str .empty,.nils,.nils]] rfl)) ?_
 conv=>whnf
 refine zei [2,3,4,7,8,9,10,11,12] (H1:=B4++[.box 25 [.int .u8 (bo:Nat),.str bs,ba,bb]]) rfl rfl rfl ?_
 have b11:(B4++[.box 25 [.int .u8 (bo:Nat),.str bs,ba,bb]])[B4.length+0]? = some (.box 25 [.int .u8 (bo:Nat),.str bs,ba,bb]):=za1 rfl
 have b3:=zb4 b3 [.box 25 [.int .u8 (bo:Nat),.str bs,ba,bb]]
 have b4:=zb4 b4 [.box 25 [.int .u8 (bo:Nat),.str bs,ba,bb]]
 have b7:=zb4 b7 [.box 25 [.int .u8 (bo:Nat),.str bs,ba,bb]]
 have b8:=zb4 b8 [.box 25 [.int .u8 (bo:Nat),.str bs,ba,bb]]
 have b9:=zb4 b9 [.box 25 [.int .u8 (bo:Nat),.str bs,ba,bb]]
 have hp5:=ex_app hp4 [.box 25 [.int .u8 (bo:Nat),.str bs,ba,bb]]
 have hat:=hat.app [.box 25 [.int .u8 (bo:Nat),.str bs,ba,bb]]
 have hbt:=hbt.app [.box 25 [.int .u8 (bo:Nat),.str bs,ba,bb]]
 clear hst hcl4 hp4
 generalize B4++[.box 25 [.int .u8 (bo:Nat),.str bs,ba,bb]]=B5 at *
 -- what follows
 have k9:∀ B6,OvS (Sa++Sb) B5 B6→(CstT H.length B6 aa∧CstF H.length B6 ab)∧(CstT H.length B6 ba∧CstF H.length B6 bb)∧OvQ H.length B5 B6:=fun B6 ho =>
  ⟨hat.over1 hxf ho (fun j hj=>List.mem_append_left _ hj) fun j hj=>hlo j (List.mem_append_left _ hj),hbt.over1 hyf ho (fun j hj=>List.mem_append_right _ hj) fun j hj=>hlo j (List.mem_append_right _ hj),
   Sa++Sb,fun j hj=>⟨hlo j hj,(ybd.1 hj).elim (AtF.low x hat j) (AtF.low y hbt j)⟩,ho⟩
 have hlt:∀ j∈Sa++Sb,j<B5.length:=fun j hj=>(ybd.1 hj).elim (AtF.low x hat j) (AtF.low y hbt j)
 refine Ends.walk Tryz.E0 zab fun hcl5 hbl5=>?_
 clear hbl5
 (repeat' ((conv=>whnf);(first|refine OrN.r ?_|(refine yai ?_;first|refine yat (bne_self_eq_false _) ?_|refine yar ?_|refine yaq rfl ?_|fail)|(refine ybe ?_;first|refine yab _ (h34 _) ?_|refine yab _ (h35 _) ?_|refine yab _ (sx _ _ _ (hat.app _)) ?_|refine yab _ (sy _ _ _ (hbt.app _)) ?_|refine yab _ (sf _) ?_|refine yab _ (sp _) ?_|fail)|refine CallN.ovs1 (Sa++Sb) 2 _ (over_ab hat hbt hSS hxf hyf _ 2 rfl) rfl rfl hlt rfl rfl fun B6 o6=>?_|refine yb3 _ ((k9 _ o6).2.2.box b9) ?_|refine zgq (over37 (k9 _ o6).1.1 _) o6.len rfl fun B7 o7=>?_|refine yb3 _ (((k9 _ o6).2.2.trans o7).box b9) ?_|refine zgq (over36 ((k9 _ o6).1.2.keep o7) _) ((k9 _ o6).2.2.trans o7).len rfl fun B8 o8=>?_|refine yb3 _ ((((k9 _ o6).2.2.trans o7).trans o8).box b11) ?_|refine zgq (over37 (((k9 _ o6).2.1.1.keep o7).keep o8) _) (((k9 _ o6).2.2.trans o7).trans o8).len rfl fun B9 o9=>?_|refine yb3 _ (((((k9 _ o6).2.2.trans o7).trans o8).trans o9).box b11) ?_|refine zgq (over36 ((((k9 _ o6).2.1.2.keep o7).keep o8).keep o9) _) ((((k9 _ o6).2.2.trans o7).trans o8).trans o9).len rfl fun B10 o10=>?_|refine yb3 _ ((((((k9 _ o6).2.2.trans o7).trans o8).trans o9).trans o10).box b7) ?_|refine yb3 _ ((((((k9 _ o6).2.2.trans o7).trans o8).trans o9).trans o10).box b3) ?_|refine yb3 _ ((((((k9 _ o6).2.2.trans o7).trans o8).trans o9).trans o10).box b8) ?_|refine yb3 _ ((((((k9 _ o6).2.2.trans o7).trans o8).trans o9).trans o10).box b4) ?_|refine yb3 _ (by (repeat' (first|assumption|exact zav _ rfl|exact za1 rfl|refine za9 (B':=?_) ?_|refine zas ?_|fail))) ?_|fail)));conv=>whnf
 have hq:=((((k9 _ o6).2.2.trans o7).trans o8).trans o9).trans o10
 obtain ⟨Z,hZ⟩:=hp5
 rw [hZ] at hq
 obtain ⟨Y,hY⟩:=hq.pre
 exact EndN2.det Y hY trivial (yae _)
end
end Go.Proofs.YtejegcmnddedmaaGreatDoor
namespace Go.Proofs.YtejegcmnddedmaaGreatDoor
section
open Go.Shelf Go.RowKit Go.Lib Go.Sort
theorem nan84_k (x:Int) (W:World):Calls Tryz.prog 95 #[.int .i64 x] W fun e w'=>e=.returned (.bool false)∧w'=W:=by
 go_enter Tryz.func95,Tryz.ntmps95
 go_wp2_with fail
 go_ret
 simp
theorem cmp62_k (x y:Int) (W:World):Calls Tryz.prog 79 #[.int .i64 x,.int .i64 y] W fun e w'=>e=.returned (.int .i64 (cmpI x y))∧w'=W:=by
 have hcon:=nan84_k
 unfold cmpI
 by_cases h1:x<y
 ·rw [if_pos h1]
  go_enter Tryz.func79,Tryz.ntmps79
  go_wp2_with (go_at_call 95;refine (hcon _ _).mono ?_;rintro e w' ⟨rfl,rfl⟩)
  all_goals (try simp [h1])
  all_goals go_ret
  all_goals exact ⟨rfl,rfl⟩
 ·rw [if_neg h1]
  by_cases h2:y<x
  ·rw [if_pos h2]
   go_enter Tryz.func79,Tryz.ntmps79
   go_wp2_with (go_at_call 95;refine (hcon _ _).mono ?_;rintro e w' ⟨rfl,rfl⟩)
   all_goals (try simp [h1,h2])
   all_goals go_ret
   all_goals exact ⟨rfl,rfl⟩
  ·rw [if_neg h2]
   go_enter Tryz.func79,Tryz.ntmps79
   go_wp2_with (go_at_call 95;refine (hcon _ _).mono ?_;rintro e w' ⟨rfl,rfl⟩)
   all_goals (try simp [h1,h2])
   all_goals go_ret
   all_goals exact ⟨rfl,rfl⟩
theorem cmp31_k (a b:ByteArray) (W:World):Calls Tryz.prog 45 #[.string a,.string b] W fun e w'=>e=.returned (.int .i64 (cmpB a b))∧w'=W:=by
 have hc:=Any.strings_Compare Tryz.cmp31 a b W
 change Calls Tryz.prog 45 _ _ _ at hc
 refine hc.mono ?_
 rintro e w' ⟨rfl,rfl⟩
 refine ⟨?_,rfl⟩
 rw [cmpb_eq]
 rfl
def symV (x:ByteArray×Nat):List Value:=[.string x.1,.int .i64 (x.2:Nat)]
def cSym (x y:ByteArray×Nat):Int:=andC (cmpB x.1 y.1) (cmpI (x.2:Nat) (y.2:Nat))
theorem clo76_k (x y:ByteArray×Nat) (W:World):Calls Tryz.prog 84 #[.agg #[.string x.1,.int .i64 (x.2:Nat)],.agg #[.string y.1,.int .i64 (y.2:Nat)]] W fun e w'=>e=.returned (.int .i64 (cSym x y))∧∃ q os',w'=grow (W.drewN q) os':=by
 have hs:=cmp31_k x.1 y.1
 have hi:=cmp62_k (x.2:Nat) (y.2:Nat)
 unfold cSym andC
 generalize cmpB x.1 y.1=c at *
 generalize cmpI (x.2:Nat) (y.2:Nat)=d at *
 by_cases h0:c=0
 ·rw [if_pos h0]
  go_enter Tryz.func84,Tryz.ntmps84
  go_wp2_with (first|(go_at_call 45;refine (hs _).mono ?_;rintro e w' ⟨rfl,rfl⟩)|(go_at_call 79;refine (hi _).mono ?_;rintro e w' ⟨rfl,rfl⟩))
  all_goals (try simp [h0])
  all_goals go_ret
  all_goals exact ⟨rfl,0,_,by rw [alloc_eq_grow,alloc_eq_grow,grow_grow];rfl⟩
 ·rw [if_neg h0]
  go_enter Tryz.func84,Tryz.ntmps84
  go_wp2_with (first|(go_at_call 45;refine (hs _).mono ?_;rintro e w' ⟨rfl,rfl⟩)|(go_at_call 79;refine (hi _).mono ?_;rintro e w' ⟨rfl,rfl⟩))
  all_goals (try simp [h0])
  all_goals go_ret
  all_goals exact ⟨rfl,0,_,by rw [alloc_eq_grow,alloc_eq_grow,grow_grow];rfl⟩
theorem clo76_lays (blk off size:Nat) (w:World):CmpLays Tryz.prog 84 #[] symV 2 cSym blk off size w :=
 fun _ _ _ _ x y=>clo76_k x y _
end
section
open Go.Shelf
def Tryz.sortf87_ren:Go.Shelf.Ren:=⟨fun|6=>97|15=>102|14=>101|28=>111|29=>112|20=>103|21=>104|22=>105|23=>106|24=>107|25=>108|26=>109|27=>110|46=>113|47=>114|48=>115|49=>116|50=>117|57=>118|n=>n,fun|22=>47|24=>52|25=>105|3=>3|39=>115|0=>0|53=>125|55=>127|4=>4|46=>118|45=>117|50=>122|5=>5|9=>9|66=>128|70=>132|76=>134|77=>135|n=>n,fun|n=>n⟩
theorem Tryz.sortf87:Go.Proofs.SlLaysF0.n6 Tryz.prog Tryz.sortf87_ren:={
 mixed:=by kernel_rfl
 f6:=⟨Tryz.f97.name,by decide,Tryz.func97.trans (congrArg some (by kernel_rfl))⟩
 f14:=⟨Tryz.f101.name,by decide,Tryz.func101.trans (congrArg some (by kernel_rfl))⟩
 f15:=Tryz.func102.trans (congrArg some (by kernel_rfl))
 f20:=⟨Tryz.f103.name,by decide,Tryz.func103.trans (congrArg some (by kernel_rfl))⟩
 f21:=⟨Tryz.f104.name,by decide,Tryz.func104.trans (congrArg some (by kernel_rfl))⟩
 f22:=⟨Tryz.f105.name,by decide,Tryz.func105.trans (congrArg some (by kernel_rfl))⟩
 f23:=⟨Tryz.f106.name,by decide,Tryz.func106.trans (congrArg some (by kernel_rfl))⟩
 f24:=⟨Tryz.f107.name,by decide,Tryz.func107.trans (congrArg some (by kernel_rfl))⟩
 f25:=⟨Tryz.f108.name,by decide,Tryz.func108.trans (congrArg some (by kernel_rfl))⟩
 f26:=⟨Tryz.f109.name,by decide,Tryz.func109.trans (congrArg some (by kernel_rfl))⟩
 f27:=⟨Tryz.f110.name,by decide,Tryz.func110.trans (congrArg some (by kernel_rfl))⟩
 f28:=Tryz.func111.trans (congrArg some (by kernel_rfl))
 f29:=Tryz.func112.trans (congrArg some (by kernel_rfl))
 f46:=⟨Tryz.f113.name,by decide,Tryz.func113.trans (congrArg some (by kernel_rfl))⟩
 f47:=Tryz.func114.trans (congrArg some (by kernel_rfl))
 f48:=Tryz.func115.trans (congrArg some (by kernel_rfl))
 f49:=⟨Tryz.f116.name,by decide,Tryz.func116.trans (congrArg some (by kernel_rfl))⟩
 f50:=⟨Tryz.f117.name,by decide,Tryz.func117.trans (congrArg some (by kernel_rfl))⟩
 f57:=⟨Tryz.f118.name,by decide,Tryz.func118.trans (congrArg some (by kernel_rfl))⟩
 t0:=Tryz.underlying0
 a0:=Tryz.isAgg0
 z0:=Tryz.sizeOf0
 v0:=Tryz.zeroValue0
 t3:=Tryz.underlying3
 a3:=Tryz.isAgg3
 z3:=Tryz.sizeOf3
 v3:=Tryz.zeroValue3
 t4:=Tryz.underlying4
 a4:=Tryz.isAgg4
 z4:=Tryz.sizeOf4
 v4:=Tryz.zeroValue4
 t5:=Tryz.underlying5
 a5:=Tryz.isAgg5
 z5:=Tryz.sizeOf5
 v5:=Tryz.zeroValue5
 t9:=Tryz.underlying9
 a9:=Tryz.isAgg9
 z9:=Tryz.sizeOf9
 v9:=Tryz.zeroValue9
 t22:=Tryz.underlying47
 a22:=Tryz.isAgg47
 z22:=Tryz.sizeOf47
 v22:=Tryz.zeroValue47
 t25:=Tryz.underlying105
 a25:=Tryz.isAgg105
 z25:=Tryz.sizeOf105
 v25:=Tryz.zeroValue105
 t39:=Tryz.underlying115
 a39:=Tryz.isAgg115
 z39:=Tryz.sizeOf115
 v39:=Tryz.zeroValue115
 t45:=Tryz.underlying117
 a45:=Tryz.isAgg117
 z45:=Tryz.sizeOf117
 v45:=Tryz.zeroValue117
 t46:=Tryz.underlying118
 a46:=Tryz.isAgg118
 z46:=Tryz.sizeOf118
 v46:=Tryz.zeroValue118
 t50:=Tryz.underlying122
 a50:=Tryz.isAgg122
 z50:=Tryz.sizeOf122
 v50:=Tryz.zeroValue122
 t53:=Tryz.underlying125
 a53:=Tryz.isAgg125
 z53:=Tryz.sizeOf125
 v53:=Tryz.zeroValue125
 t55:=Tryz.underlying127
 a55:=Tryz.isAgg127
 z55:=Tryz.sizeOf127
 v55:=Tryz.zeroValue127
 t66:=Tryz.underlying128
 a66:=Tryz.isAgg128
 z66:=Tryz.sizeOf128
 v66:=Tryz.zeroValue128
 t70:=Tryz.underlying132
 a70:=Tryz.isAgg132
 z70:=Tryz.sizeOf132
 v70:=Tryz.zeroValue132
 t76:=Tryz.underlying134
 a76:=Tryz.isAgg134
 z76:=Tryz.sizeOf134
 v76:=Tryz.zeroValue134
 t77:=Tryz.underlying135
 a77:=Tryz.isAgg135
 z77:=Tryz.sizeOf135
 v77:=Tryz.zeroValue135 }
end
end Go.Proofs.YtejegcmnddedmaaGreatDoor
