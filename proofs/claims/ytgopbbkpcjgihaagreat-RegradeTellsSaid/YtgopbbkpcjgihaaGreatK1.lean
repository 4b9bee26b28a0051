/- A text of the proof: the parts E0, E1, E2, E3, E4, E5, E6, E7, E8, E9, E10, E11. -/
import Derived.WalkKit
import Derived.Scope
import Derived.RangeFuncRecord
import Derived.OrdersIn
import Derived.TacticsIn
import Derived.Maps.AppendAt
set_option linter.unusedSimpArgs false
set_option linter.unusedVariables false
set_option maxHeartbeats 8000000
namespace Go.Vsi
abbrev yaa:=@List.cons_ne_nil
abbrev yac:=@List.getElem?_eq_some_iff
abbrev yad:=@Option.some.injEq
abbrev yag:=@Nat.lt_or_ge
abbrev yah:=@Nat.zero_le
abbrev yaj:=@List.getElem?_append_left
abbrev yak:=@Bool.and_eq_true
abbrev yal:=@List.getElem?_eq_getElem
abbrev yam:=@List.getElem?_append_right
abbrev yao:=@List.all_eq_true
abbrev yap:=@Nat.eq_of_beq_eq_true
abbrev yat:=@List.append_nil
abbrev yav:=@List.length_map
abbrev yaw:=@List.getElem?_set
abbrev yax:=@Nat.le_refl
abbrev yay:=@List.mem_cons
abbrev yaz:=@List.mem_singleton
abbrev ya0:=@Bool.false_and
abbrev ya2:=@List.take_length
abbrev ya3:=@List.eq_nil_of_length_eq_zero
abbrev ya4:=@List.mem_cons_of_mem
abbrev ya5:=@List.length_append
abbrev ya6:=@List.flatMap_cons
abbrev ya7:=@List.getElem?_map
abbrev ya8:=@Bool.true_and
abbrev ya9:=@Bool.false_eq_true
abbrev yba:=@Option.map_eq_some_iff
abbrev ybb:=@Option.map_some
abbrev ybc:=@List.mem_cons_self
abbrev ybe:=@List.append_assoc
abbrev ybg:=@Nat.le_trans
abbrev ybh:=@List.mem_append
abbrev ybj:=@Int.toNat_natCast
abbrev ybk:=@Nat.add_sub_cancel_left
abbrev ybl:=@List.getD_eq_getElem?_getD
abbrev ybm:=@List.size_toArray
abbrev ybn:=@List.ext_getElem?
abbrev ybo:=@List.mem_range
abbrev ybp:=@List.getElem?_take
abbrev ybq:=@List.mem_map
abbrev ybr:=@Nat.zero_add
abbrev ybs:=@Nat.lt_of_lt_of_le
abbrev ybt:=@List.flatMap_append
abbrev ybu:=@Array.getElem?_eq_getElem
abbrev ybv:=@Nat.le_of_ble_eq_true
abbrev ybw:=@Array.getElem?_toList
abbrev ybx:=@List.map_cons
abbrev yby:=@Nat.add_zero
abbrev ybz:=@And.intro
abbrev yb0:=@List.set_append_right
abbrev yb1:=@Array.getElem?_modify
abbrev yb2:=@Array.getElem?_setIfInBounds_ne
abbrev yb3:=@List.take_of_length_le
abbrev yb4:=@Nat.add_mul
abbrev yb5:=@Bool.eq_iff_iff
abbrev yb7:=@Prod.mk.injEq
abbrev yb8:=@Nat.mul_le_mul_right
abbrev yca:=@Nat.le_succ
abbrev ycd:=@Nat.min_eq_left
abbrev yce:=@List.length_take
abbrev ycg:=@List.getElem?_eq_none
abbrev ych:=@Array.length_toList
abbrev yci:=@List.cons_append
abbrev ycj:=@List.mem_of_getElem?
abbrev yck:=@List.take_append_drop
abbrev ycm:=@List.set_append_left
abbrev ycn:=@List.getElem?_of_mem
abbrev yco:=@Option.bind_some
abbrev ycq:=@Ne.symm
abbrev ycr:=@Nat.sub_self
abbrev ycs:=@Option.isSome_iff_exists
abbrev yct:=@Option.getD_some
abbrev ycu:=@List.not_mem_nil
abbrev ycv:=@Bool.and_false
abbrev ycw:=@Nat.mul_pos
abbrev ycy:=@List.drop_of_length_le
abbrev ycz:=@Nat.le_add_right
abbrev yc0:=@List.any_eq_true
abbrev yc1:=@Nat.eq_zero_or_pos
abbrev yc2:=@List.getElem?_drop
abbrev yc5:=@Option.map_none
abbrev yc6:=@List.take_left'
abbrev yc7:=@Nat.lt_irrefl
abbrev yc8:=@List.getElem?_range
abbrev yc9:=@Array.toList_append
abbrev ydb:=@List.getElem?_set_ne
abbrev ydd:=@List.getElem_of_mem
abbrev yde:=@List.map_nil
abbrev ydf:=@Nat.add_assoc
abbrev ydg:=@List.nil_append
abbrev ydh:=@List.map_append
abbrev ydi:=@List.foldl_cons
abbrev ydj:=@List.take_succ_eq_append_getElem
abbrev ydl:=@Array.size_append
abbrev ydn:=@List.getElem?_toArray
abbrev ydo:=@Classical.choose_spec
abbrev ydq:=@List.take_take
end Go.Vsi
namespace Go.Vsi
section
def FR (o:Option Nat):Fence:={ Fence.wide with round:=o }
theorem FR_fn (o:Option Nat) (f:FuncId):(FR o).fn f:=trivial
theorem FR_room (o:Option Nat) (n:Nat):(FR o).room n:=fun _ h=>by simp [FR,Fence.wide] at h
theorem FR_depth (o:Option Nat) (n:Nat):(FR o).depth.isSome=true→1≤n:=fun h=>by simp [FR,Fence.wide] at h
@[simp] theorem FR_round (o:Option Nat):(FR o).round=o:=rfl
theorem calls_FR {o:Option Nat} {n:Nat} {P:Program} {f:FuncId} {args:Array Value} {w:World} {R:Ending→World→Prop} (h:Calls P f args w R):CallsIn (FR o) n P f args w R :=
 (callsIn_wide (n:=n)).2 h
theorem calls_of_FR {o:Option Nat} {n:Nat} {P:Program} {f:FuncId} {args:Array Value} {w:World} {R:Ending→World→Prop} (h:CallsIn (FR o) n P f args w R):Calls P f args w R :=
 (callsIn_wide (n:=n)).1 h
section
variable {P:Program} {fo:Option Nat} {Q:Exit→Act→World→Prop} {a:Act} {w:World}
theorem semAt_of {o:Oper} {a:Act} {w w':World} {n:Next} (h:(execOp a.eval o).run P w=.ok n w') (hn:∀ d,n≠.defer d):(o.semAt fo a.eval).run P w=.ok n w':=by
 have:∀ c,o.op≠.defer c:=by
  intro c hc
  simp only [execOp,hc] at h
  rw [Sem.run_bind] at h
  cases hr:(resolve a.eval c o.type).run P w with
  | ok d w1 =>
    rw [hr] at h
    simp only [Result.andThen,Sem.run_pure,Result.ok.injEq] at h
    exact hn d h.1.symm
  | halt e w1=>rw [hr] at h;simp [Result.andThen] at h
 rw [Oper.semAt_eq fo a.eval o this]
 exact h
theorem scopeIn_straight {c:Code} {n:Nat} (h:c.wpIn (FR fo) n P (Exit.noGoto Q) a w):(Code.scope c).wpIn (FR fo) n P Q a w:=by
 intro b k cs hro hb hr
 have s0:step P (lone (b.atR a (.code (.scope c)::k)) cs w)=.next (lone (b.atR a (.code c::.inScope c::k)) cs w):=step_lone_go (by simp [stepG,stepG.exec,Frame.atR])
 have h0:(lone (b.atR a (.code (.scope c)::k)) cs w).fenced P (FR fo):=fenced_calm hb hr rfl
 obtain ⟨e,a₁,w₁,hq,harr⟩:=h b (.inScope c::k) cs hro hb hr
 cases e with
 | normal=>exact ⟨.normal,a₁,w₁,hq,.head h0 s0 (StepsIn.trans harr (.one (fenced_calm hb hr rfl) (step_lone_go (by simp [stepG,stepG.exec,Frame.atR]))))⟩
 | exit id =>
   have hx:exitTo id (.inScope c::k)=exitTo id k:=by simp [exitTo]
   exact ⟨.exit id,a₁,w₁,hq,fun k' hk=>.head h0 s0 (harr.1 k' (by rw [hx];exact hk)),fun hr' hk=>let ⟨k₁,h1,h2⟩:=harr.2 hr' (by rw [hx];exact hk);⟨k₁,h1,.head h0 s0 h2⟩⟩
 | goto l=>exact hq.elim
 | ret=>exact ⟨_,a₁,w₁,hq,.of_steps (.one h0 s0) harr⟩
 | panic ch=>exact ⟨_,a₁,w₁,hq,.of_steps (.one h0 s0) harr⟩
 | outgrown=>exact ⟨_,a₁,w₁,hq,.of_steps (.one h0 s0) harr⟩
def LoopWp (fo:Option Nat) (P:Program) (c:Code) (Q:Exit→Act→World→Prop) (a:Act) (w:World):Prop :=
 ∀ (b:Frame) (k:List Item) (cs:List Frame),b.roundOf=fo→∃ e a' w',Q e a' w'∧ArrivesIn (Machine.fenced P (FR fo)) P (lone (b.atR a (.code c::.inLoop c::k)) cs w) b k cs e a' w'
variable {c:Code}
theorem LoopWp.loop (h:LoopWp fo P c Q a w):(Code.loop c).wpIn (FR fo) 0 P Q a w:=by
 intro b k cs hro hb hr
 obtain ⟨e,a',w',hq,harr⟩:=h b k cs hro
 exact ⟨e,a',w',hq,.of_steps (.one (fenced_calm hb hr rfl) stepR_loop) harr⟩
theorem LoopWp.mono {Q':Exit→Act→World→Prop} (h:LoopWp fo P c Q a w) (hq:∀ e a w,Q e a w→Q' e a w):LoopWp fo P c Q' a w :=
 fun b k cs hro=>let ⟨e,a',w',q,r⟩:=h b k cs hro;⟨e,a',w',hq _ _ _ q,r⟩
theorem LoopWp.peel (h:c.wpIn (FR fo) 0 P (fun e a w=>match e with
  | .normal=>LoopWp fo P c Q a w
  | e=>Q e a w) a w):LoopWp fo P c Q a w:=by
 intro b k cs hro
 obtain ⟨e,a₁,w₁,hq,harr⟩:=h b (.inLoop c::k) cs hro (FR_fn _ _) (FR_room _ _)
 cases e with
 | normal =>
   obtain ⟨e₂,a₂,w₂,hq₂,harr₂⟩:=hq b k cs hro
   exact ⟨e₂,a₂,w₂,hq₂,.of_steps (StepsIn.trans harr (.one (fenced_calm (n:=0) (FR_fn _ _) (FR_room _ _) rfl) stepR_inLoop)) harr₂⟩
 | exit id=>exact ⟨_,a₁,w₁,hq,.pass (x:=.inLoop c) rfl (fun _ _=>.inl (by simp)) harr⟩
 | goto l=>exact ⟨_,a₁,w₁,hq,.pass (x:=.inLoop c) rfl (fun _ _=>.inl (by simp)) harr⟩
 | ret=>exact ⟨_,a₁,w₁,hq,.pass (x:=.inLoop c) rfl (fun _ _=>.inl (by simp)) harr⟩
 | panic ch=>exact ⟨_,a₁,w₁,hq,.pass (x:=.inLoop c) rfl (fun _ _=>.inl (by simp)) harr⟩
 | outgrown=>exact ⟨_,a₁,w₁,hq,.pass (x:=.inLoop c) rfl (fun _ _=>.inl (by simp)) harr⟩
theorem LoopWp.inv (I:Act→World→Prop) (μ:Act→World→Nat) (h₀:I a w) (round:∀ a w,I a w→c.wpIn (FR fo) 0 P (fun e a' w'=>match e with
  | .normal=>I a' w'∧μ a' w'<μ a w
  | e=>Q e a' w') a w):LoopWp fo P c Q a w:=by
 have key:∀ n a w,μ a w=n→I a w→LoopWp fo P c Q a w:=by
  intro n
  induction n using Nat.strongRecOn with
  | _ n ih =>
    intro a w hn hI
    refine LoopWp.peel (Code.wpIn_mono ?_ (round a w hI))
    intro e a' w' h
    cases e with
    | normal=>exact ih _ (hn▸h.2) a' w' rfl h.1
    | exit id=>exact h
    | goto l=>exact h
    | ret=>exact h
    | panic ch=>exact h
    | outgrown=>exact h
 exact key _ a w rfl h₀
end
section
variable {P:Program} {fo:Option Nat} {K:Act→World→Prop} {Q:Exit→Act→World→Prop} {a:Act} {w w':World} {o:Oper}
theorem zb4 {c:Value} (h:(execOp a.eval o).run P w=.ok (.value c) w') (k:K (a.put o.dst c) w'):o.wpIn (FR fo) 0 P a w K Q :=
 ⟨fun _ _=>trivial,by rw [FR_round,semAt_of h (fun _=>by simp)];exact k⟩
theorem zfr (h:(execOp a.eval o).run P w=.ok .skip w') (k:K (a.put o.dst undef) w'):o.wpIn (FR fo) 0 P a w K Q :=
 ⟨fun _ _=>trivial,by rw [FR_round,semAt_of h (fun _=>by simp)];exact k⟩
theorem opIn_enter {f:FuncId} {args:Array Value} (h:(execOp a.eval o).run P w=.ok (.enter f args) w') (k:Calls P f args w' fun
  | .returned v,w''=>K (a.put o.dst v) w''
  | .panicked chain,w''=>Q (.panic chain) a w''
  | .outgrown,_=>LetsOut Q):o.wpIn (FR fo) 0 P a w K Q :=
 ⟨fun _ _=>trivial,by rw [FR_round,semAt_of h (fun _=>by simp)];exact ⟨FR_depth _ _,calls_FR k⟩⟩
theorem roundIn_FR {o o':Option Nat} {n:Nat} {l:Nat} {f:FuncId} {tmps:Array Value} {assign body:Code} {R:Ending→World→Prop} (h:RoundIn (FR o) n P l f tmps assign body w R):RoundIn (FR o') n P l f tmps assign body w R:=h
theorem opIn_round {l:Nat} {f:FuncId} {tmps:Array Value} {assign body:Code} (h:(execOp a.eval o).run P w=.ok (.round l f tmps assign body) w') (k:RoundIn (FR none) 0 P l f tmps assign body w' fun
  | .returned v,w''=>K (a.put o.dst v) w''
  | .panicked chain,w''=>Q (.panic chain) a w''
  | .outgrown,_=>LetsOut Q):o.wpIn (FR fo) 0 P a w K Q :=
 ⟨fun _ _=>trivial,by rw [FR_round,semAt_of h (fun _=>by simp)];exact ⟨FR_depth _ _,roundIn_FR k⟩⟩
end
end
section
inductive AV where
 | bool (b:Bool)
 | int (k:IntKind) (n:Int)
 | str (s:ByteArray)
 | nilp
 | ptr (i o:Nat)
 | rptr (l:List AV)
 | nilf
 | clo (fn:Fn) (fs cs:List AV)
 | nili
 | ifc (t:TypeId) (v:AV)
 | nils
 | sl (tok:Option Nat) (n:Nat) (l:List AV)
 | sx (n:Nat) (l:List AV)
 | sk (n m:Nat) (l:List AV)
 | ms (i o n:Nat)
 | nilm
 | mp (i:Nat)
 | vs (i n:Nat)
 | vk (i n m:Nat)
 | vp (i n o:Nat)
 | rmp (ks vs:List AV)
 | agg (l:List AV)
 | tup (l:List AV)
 | junk
 deriving Inhabited
def zgm (n:Nat):Fn→Prop
 | .yield i=>i<n
 | _=>True
theorem fnBelow_mono {m n:Nat} (hmn:m≤n):∀ {fn:Fn},zgm m fn→zgm n fn
 | .yield _,h=>ybs h hmn
 | .func _,_=>trivial
 | .method _,_=>trivial
 | .methodOf _ _,_=>trivial
 | .via _ _ _ _,_=>trivial
mutual
def below (n:Nat):AV→Prop
 | .ptr i _=>i<n
 | .rptr l=>zac n l
 | .clo fn fs cs=>zgm n fn∧zac n fs∧zac n cs
 | .ifc _ v=>below n v
 | .sl tok _ l=>(∀ t,tok=some t→t<n)∧zac n l
 | .sx _ l=>zac n l
 | .sk _ _ l=>zac n l
 | .rmp ks vs=>zac n ks∧zac n vs
 | .ms i _ _=>i<n
 | .mp i=>i<n
 | .vs i _=>i<n
 | .vk i _ _=>i<n
 | .vp i _ _=>i<n
 | .agg l=>zac n l
 | .tup l=>zac n l
 | _=>True
def zac (n:Nat):List AV→Prop
 | []=>True
 | v::l=>below n v∧zac n l
end
structure Tk where
 len:Nat
 sz:Nat
 cap:Nat
 base:Option Nat
structure G where
 n:Nat
 blk:Nat→Nat
 tk:Nat→Tk
 own:Nat→Nat→Prop
 pend:Nat→Prop
def G.ok (g:G) (i:Nat):Prop:=i<g.n∧¬ g.pend i
def fnG (g:G):Fn→Fn
 | .yield i=>.yield (g.blk i)
 | f=>f
def fnOk (g:G):Fn→Prop
 | .yield i=>g.ok i
 | _=>True
theorem fnOk_below {g:G}:∀ {fn:Fn},fnOk g fn→zgm g.n fn
 | .yield _,h=>h.1
 | .func _,_=>trivial
 | .method _,_=>trivial
 | .methodOf _ _,_=>trivial
 | .via _ _ _ _,_=>trivial
def fnCap:Fn→List AV→Prop
 | .yield _,cs=>cs=[]
 | _,_=>True
def tokIs (g:G) (t:Nat) (n len:Nat) (A:Option Addr) (cap:Nat):Prop :=
 g.ok t∧len≤(g.tk t).len∧((g.tk t).len=len→A=(g.tk t).base.map (fun b=>⟨b,0,none⟩)∧cap=(g.tk t).cap∧len=n * (g.tk t).sz)
mutual
def VRel (g:G) (w:World):AV→Value→Prop
 | .bool b,c=>c=.bool b
 | .int k x,c=>c=.int k x
 | .str s,c=>c=.string s
 | .nilp,c=>c=.pointer none
 | .ptr i o,c=>g.ok i∧c=.pointer (some ⟨g.blk i,o,none⟩)
 | .rptr l,c=>∃ b o,c=.pointer (some ⟨b,o,none⟩)∧MRel g w l b o
 | .nilf,c=>c=.nilFunc
 | .clo fn fs cs,c=>(fnOk g fn∧fnCap fn cs)∧∃ f' c',c=.func (fnG g fn) f' c'∧LRel g w fs f'.toList∧LRel g w cs c'.toList
 | .nili,c=>c=.nilIface
 | .ifc t v,c=>∃ v',c=.iface t v'∧VRel g w v v'
 | .nils,c=>c=.slice none 0 0
 | .sl tok n l,c=>∃ A cap,c=.slice A n cap∧n≤cap∧(l=[]∨∃ b o,A=some ⟨b,o,none⟩∧MRel g w l b o) ∧
    (∀ t,tok=some t→tokIs g t n l.length A cap)
 | .sx n l,c=>∃ A,c=.slice A n n∧(l=[]∨∃ b o,A=some ⟨b,o,none⟩∧MRel g w l b o)
 | .sk n m l,c=>∃ A cap,c=.slice A n cap∧n≤m∧m≤cap∧(l=[]∨∃ b o,A=some ⟨b,o,none⟩∧MRel g w l b o)
 | .ms i o n,c=>g.ok i∧∃ cap,n≤cap∧c=.slice (some ⟨g.blk i,o,none⟩) n cap
 | .nilm,c=>c=.map none
 | .mp i,c=>g.ok i∧c=.map (some (g.blk i))
 | .vs i n,c=>g.ok i∧n * (g.tk i).sz≤(g.tk i).len∧∃ A cap,c=.slice A n cap∧n≤cap∧((g.tk i).len=n * (g.tk i).sz→A=(g.tk i).base.map (fun b=>⟨b,0,none⟩)∧cap=(g.tk i).cap)
 | .vk i n m,c=>g.ok i∧m * (g.tk i).sz≤(g.tk i).len∧n≤m∧∃ A cap,c=.slice A n cap∧m≤cap∧((g.tk i).len=m * (g.tk i).sz→A=(g.tk i).base.map (fun b=>⟨b,0,none⟩)∧cap=(g.tk i).cap)
 | .vp i n o,c=>g.ok i∧n * (g.tk i).sz≤(g.tk i).len∧∃ b,c=.pointer (some ⟨b,o,none⟩)∧((g.tk i).len=n * (g.tk i).sz→(g.tk i).base=some b)
 | .rmp ks vs,c=>∃ b es clk,c=.map (some b)∧w.heap[b]? = some (.map es clk)∧(clk=es.size∧∀ (j:Nat) e,es[j]? = some e→e.born=j)∧(∀ o,¬ g.own b o)∧LRel g w ks (es.toList.map (·.key))∧LRel g w vs (es.toList.map (·.val))
 | .agg l,c=>∃ cs,c=.agg cs∧LRel g w l cs.toList
 | .tup l,c=>∃ cs,c=.tuple cs∧LRel g w l cs.toList
 | .junk,_=>True
def LRel (g:G) (w:World):List AV→List Value→Prop
 | [],cs=>cs=[]
 | v::l,cs=>∃ c r,cs=c::r∧VRel g w v c∧LRel g w l r
def MRel (g:G) (w:World):List AV→Nat→Nat→Prop
 | [],_,_=>True
 | v::l,b,o=>(∃ c,w.cell? ⟨b,o,none⟩=some c∧VRel g w v c∧¬ g.own b o)∧MRel g w l b (o+1)
end
structure Ext (g:G) (w:World) (g':G) (w':World):Prop where
 n:g.n≤g'.n
 pend:∀ i,i<g.n→g.pend i→g'.pend i
 ok:∀ i,g.ok i→g'.ok i
 blk:∀ i,g.ok i→g'.blk i=g.blk i
 tk:∀ i,g.ok i→g'.tk i=g.tk i∨((g.tk i).len<(g'.tk i).len∧(g'.tk i).sz=(g.tk i).sz)
 own:∀ b o,b<w.heap.size→g'.own b o→g.own b o
 os:w'.os=w.os
 tape:w'.tape=w.tape
 output:w'.output=w.output
 drawn:w.drawn≤w'.drawn
 size:w.heap.size≤w'.heap.size
 same:∀ b,b<w.heap.size→(∀ o,¬ g.own b o)→w'.heap[b]? = w.heap[b]?
 cells:∀ (b:Nat) cs t fz,w.heap[b]? = some (.cells cs t fz)→∃ cs',w'.heap[b]? = some (.cells cs' t fz)∧cs'.size=cs.size∧∀ o:Nat,¬ g.own b o→cs'[o]? = cs[o]?
theorem zbc {w:World} {b:Nat} {o:Obj} (h:w.heap[b]? = some o):b<w.heap.size:=by
 rcases yag b w.heap.size with h1|h1
 ·exact h1
 ·rw [Array.getElem?_eq_none h1] at h;cases h
theorem cell_iff {w:World} {b o:Nat} {c:Value}:w.cell? ⟨b,o,none⟩=some c↔∃ cs t fz,w.heap[b]? = some (.cells cs t fz)∧cs[o]? = some c:=by
 unfold World.cell?
 simp only
 constructor
 ·intro h
  split at h
  ·rename_i cs t fz hh
   exact ⟨cs,t,fz,hh,by simpa using h⟩
  ·cases h
 ·rintro ⟨cs,t,fz,h1,h2⟩
  simp [h1,h2]
theorem Ext.cell {g g':G} {w w':World} (h:Ext g w g' w') {b o:Nat} {c:Value} (hc:w.cell? ⟨b,o,none⟩=some c) (ho:¬ g.own b o) :
  w'.cell? ⟨b,o,none⟩=some c∧¬ g'.own b o:=by
 obtain ⟨cs,t,fz,h1,h2⟩:=cell_iff.1 hc
 obtain ⟨cs',h3,_,h5⟩:=h.cells b cs t fz h1
 exact ⟨cell_iff.2 ⟨cs',t,fz,h3,by rw [h5 o ho,h2]⟩,fun hh=>ho (h.own b o (zbc h1) hh)⟩
theorem Ext.refl (g:G) (w:World):Ext g w g w :=
 ⟨yax _,fun _ _ h=>h,fun _ h=>h,fun _ _=>rfl,fun _ _=>.inl rfl,fun _ _ _ h=>h,rfl,rfl,rfl,yax _,yax _,fun _ _ _=>rfl,fun _ cs _ _ h=>⟨cs,h,rfl,fun _ _=>rfl⟩⟩
theorem Ext.trans {g g' g'':G} {w w' w'':World} (h:Ext g w g' w') (k:Ext g' w' g'' w''):Ext g w g'' w'':=by
 refine ⟨ybg h.n k.n,fun i hi hq=>k.pend i (ybs hi h.n) (h.pend i hi hq),fun i hi=>k.ok i (h.ok i hi),fun i hi=>?_,fun i hi=>?_,fun b o hb ho=>h.own b o hb (k.own b o (ybs hb h.size) ho),k.os.trans h.os,k.tape.trans h.tape,k.output.trans h.output,ybg h.drawn k.drawn,ybg h.size k.size,fun b hb ho=>?_,fun b cs t fz hb=>?_⟩
 ·rw [k.blk i (h.ok i hi),h.blk i hi]
 ·rcases h.tk i hi with e|e <;> rcases k.tk i (h.ok i hi) with e'|e'
  ·exact .inl (e'.trans e)
  ·exact .inr (e▸e')
  ·exact .inr (e'▸e)
  ·exact .inr ⟨Nat.lt_trans e.1 e'.1,e'.2.trans e.2⟩
 ·rw [k.same b (ybs hb h.size) (fun o hh=>ho o (h.own b o hb hh)),h.same b hb ho]
 ·obtain ⟨cs',h1,h2,h3⟩:=h.cells b cs t fz hb
  obtain ⟨cs'',k1,k2,k3⟩:=k.cells b cs' t fz h1
  exact ⟨cs'',k1,k2.trans h2,fun o ho=>by rw [k3 o (fun hh=>ho (h.own b o (zbc hb) hh)),h3 o ho]⟩
structure ExtV (g:G) (w:World) (g':G) (w':World):Prop where
 ok:∀ i,g.ok i→g'.ok i
 blk:∀ i,g.ok i→g'.blk i=g.blk i
 tk:∀ i,g.ok i→g'.tk i=g.tk i∨((g.tk i).len<(g'.tk i).len∧(g'.tk i).sz=(g.tk i).sz)
 cell:∀ {b o:Nat} {c:Value},w.cell? ⟨b,o,none⟩=some c→¬ g.own b o→w'.cell? ⟨b,o,none⟩=some c∧¬ g'.own b o
 same:∀ {b:Nat} {es:Array MapEntry} {clk:Nat},w.heap[b]? = some (.map es clk)→(∀ o,¬ g.own b o)→w'.heap[b]? = some (.map es clk)∧∀ o,¬ g'.own b o
theorem Ext.v {g g':G} {w w':World} (h:Ext g w g' w'):ExtV g w g' w':=⟨h.ok,h.blk,h.tk,fun hc ho=>h.cell hc ho,fun hb ho=>⟨by rw [h.same _ (zbc hb) ho];exact hb,fun o q=>ho o (h.own _ o (zbc hb) q)⟩⟩
theorem fnOk_ext {g g':G} {w w':World} (h:ExtV g w g' w'):∀ {fn:Fn},fnOk g fn→fnOk g' fn
 | .yield _,hk=>h.ok _ hk
 | .func _,_=>trivial
 | .method _,_=>trivial
 | .methodOf _ _,_=>trivial
 | .via _ _ _ _,_=>trivial
theorem fnG_ext {g g':G} {w w':World} (h:ExtV g w g' w'):∀ {fn:Fn},fnOk g fn→fnG g' fn=fnG g fn
 | .yield _,hk=>by simp only [fnG,h.blk _ hk]
 | .func _,_=>rfl
 | .method _,_=>rfl
 | .methodOf _ _,_=>rfl
 | .via _ _ _ _,_=>rfl
mutual
theorem zc5 {g g':G} {w w':World} (h:ExtV g w g' w'):∀ (v:AV) (c:Value),VRel g w v c→VRel g' w' v c
 | .bool _,_,hv=>by simpa [VRel] using hv
 | .int _ _,_,hv=>by simpa [VRel] using hv
 | .str _,_,hv=>by simpa [VRel] using hv
 | .nilp,_,hv=>by simpa [VRel] using hv
 | .ptr i o,_,hv=>by
   simp only [VRel] at hv ⊢
   exact ⟨h.ok _ hv.1,by rw [h.blk i hv.1];exact hv.2⟩
 | .rptr l,_,hv=>by
   simp only [VRel] at hv ⊢
   obtain ⟨b,o,hc,hm⟩:=hv
   exact ⟨b,o,hc,zcu h l b o hm⟩
 | .nilf,_,hv=>by simpa [VRel] using hv
 | .clo fn fs cs,_,hv=>by
   simp only [VRel] at hv ⊢
   obtain ⟨hok,f',c',hc,h1,h2⟩:=hv
   exact ⟨⟨fnOk_ext h hok.1,hok.2⟩,f',c',by rw [fnG_ext h hok.1];exact hc,zcj h fs _ h1,zcj h cs _ h2⟩
 | .nili,_,hv=>by simpa [VRel] using hv
 | .ifc t v,_,hv=>by
   simp only [VRel] at hv ⊢
   obtain ⟨v',hc,h1⟩:=hv
   exact ⟨v',hc,zc5 h v _ h1⟩
 | .nils,_,hv=>by simpa [VRel] using hv
 | .sl tok n l,_,hv=>by
   simp only [VRel] at hv ⊢
   obtain ⟨A,cap,hc,hn,hm,ht⟩:=hv
   refine ⟨A,cap,hc,hn,?_,fun t e=>?_⟩
   ·rcases hm with hm|⟨b,o,hA,hm⟩
    ·exact .inl hm
    ·exact .inr ⟨b,o,hA,zcu h l b o hm⟩
   ·obtain ⟨h1,h0,h2⟩:=ht t e
    rcases h.tk t h1 with e|e
    ·exact ⟨h.ok _ h1,by rw [e];exact h0,fun hl=>by rw [e] at hl ⊢;exact h2 hl⟩
    ·exact ⟨h.ok _ h1,by omega,fun hl=>by omega⟩
 | .sx n l,_,hv=>by
   simp only [VRel] at hv ⊢
   obtain ⟨A,hc,hm⟩:=hv
   refine ⟨A,hc,?_⟩
   rcases hm with hm|⟨b,o,hA,hm⟩
   ·exact .inl hm
   ·exact .inr ⟨b,o,hA,zcu h l b o hm⟩
 | .sk n m l,_,hv=>by
   simp only [VRel] at hv ⊢
   obtain ⟨A,cap,hc,hn1,hn2,hm⟩:=hv
   refine ⟨A,cap,hc,hn1,hn2,?_⟩
   rcases hm with hm|⟨b,o,hA,hm⟩
   ·exact .inl hm
   ·exact .inr ⟨b,o,hA,zcu h l b o hm⟩
 | .rmp ks vs,_,hv=>by
   simp only [VRel] at hv ⊢
   obtain ⟨b,es,clk,hc,hb,hbn,ho,h1,h2⟩:=hv
   obtain ⟨q1,q2⟩:=h.same hb ho
   exact ⟨b,es,clk,hc,q1,hbn,q2,zcj h ks _ h1,zcj h vs _ h2⟩
 | .ms i o n,_,hv=>by
   simp only [VRel] at hv ⊢
   obtain ⟨h1,cap,hn,hc⟩:=hv
   exact ⟨h.ok _ h1,cap,hn,by rw [h.blk i h1];exact hc⟩
 | .vs i n,_,hv=>by
   simp only [VRel] at hv ⊢
   obtain ⟨h1,h0,A,cap,hc,hn,h2⟩:=hv
   rcases h.tk i h1 with e'|⟨e',e2⟩
   ·rw [← e'] at h0 h2;exact ⟨h.ok _ h1,h0,A,cap,hc,hn,h2⟩
   ·rw [← e2] at h0;exact ⟨h.ok _ h1,by omega,A,cap,hc,hn,fun e=>by omega⟩
 | .vk i n m,_,hv=>by
   simp only [VRel] at hv ⊢
   obtain ⟨h1,h0,hnm,A,cap,hc,hn,h2⟩:=hv
   rcases h.tk i h1 with e'|⟨e',e2⟩
   ·rw [← e'] at h0 h2;exact ⟨h.ok _ h1,h0,hnm,A,cap,hc,hn,h2⟩
   ·rw [← e2] at h0;exact ⟨h.ok _ h1,by omega,hnm,A,cap,hc,hn,fun e=>by omega⟩
 | .vp i n o,_,hv=>by
   simp only [VRel] at hv ⊢
   obtain ⟨h1,h0,b,hc,h2⟩:=hv
   rcases h.tk i h1 with e'|⟨e',e2⟩
   ·rw [← e'] at h0 h2;exact ⟨h.ok _ h1,h0,b,hc,h2⟩
   ·rw [← e2] at h0;exact ⟨h.ok _ h1,by omega,b,hc,fun e=>by omega⟩
 | .nilm,_,hv=>by simpa [VRel] using hv
 | .mp i,_,hv=>by
   simp only [VRel] at hv ⊢
   exact ⟨h.ok _ hv.1,by rw [h.blk i hv.1];exact hv.2⟩
 | .agg l,_,hv=>by
   simp only [VRel] at hv ⊢
   obtain ⟨cs,hc,h1⟩:=hv
   exact ⟨cs,hc,zcj h l _ h1⟩
 | .tup l,_,hv=>by
   simp only [VRel] at hv ⊢
   obtain ⟨cs,hc,h1⟩:=hv
   exact ⟨cs,hc,zcj h l _ h1⟩
 | .junk,_,_=>by simp [VRel]
theorem zcj {g g':G} {w w':World} (h:ExtV g w g' w'):∀ (l:List AV) (cs:List Value),LRel g w l cs→LRel g' w' l cs
 | [],_,hv=>by simpa [LRel] using hv
 | v::l,_,hv=>by
   simp only [LRel] at hv ⊢
   obtain ⟨c,r,hc,h1,h2⟩:=hv
   exact ⟨c,r,hc,zc5 h v c h1,zcj h l r h2⟩
theorem zcu {g g':G} {w w':World} (h:ExtV g w g' w'):∀ (l:List AV) (b o:Nat),MRel g w l b o→MRel g' w' l b o
 | [],_,_,_=>by simp [MRel]
 | v::l,b,o,hv=>by
   simp only [MRel] at hv ⊢
   obtain ⟨⟨c,h1,h2,h3⟩,h4⟩:=hv
   obtain ⟨h5,h6⟩:=h.cell h1 h3
   exact ⟨⟨c,h5,zc5 h v c h2,h6⟩,zcu h l b (o+1) h4⟩
end
theorem VRel.ext {g g':G} {w w':World} (h:Ext g w g' w') (v:AV) (c:Value):VRel g w v c→VRel g' w' v c:=zc5 h.v v c
theorem LRel.ext {g g':G} {w w':World} (h:Ext g w g' w') (l:List AV) (cs:List Value):LRel g w l cs→LRel g' w' l cs:=zcj h.v l cs
theorem MRel.ext {g g':G} {w w':World} (h:Ext g w g' w') (l:List AV) (b o:Nat):MRel g w l b o→MRel g' w' l b o:=zcu h.v l b o
abbrev Env:=List (Nat×AV)
def get:Env→Nat→AV
 | [],_=>.junk
 | (i,v)::e,j=>match Nat.beq i j with
   | true=>v
   | false=>get e j
theorem zb3 (env:Env) (d:Nat) (v:AV):get ((d,v)::env) d=v:=by simp [get]
theorem zch (env:Env) {d s:Nat} (v:AV) (h:d≠s):get ((d,v)::env) s=get env s:=by
 have:Nat.beq d s=false:=by
  cases hb:Nat.beq d s
  ·rfl
  ·exact absurd (yap hb) h
 simp [get,this]
structure LCode where
 N:Nat
 ps:Array Tmp
 assign:Code
 body:Code
inductive Blk where
 | box (t:TypeId) (l:List AV)
 | tok (e:TypeId) (sz len:Nat)
 | mp (ks vs:List AV)
 | loop (st:LoopState) (jp:Option Code) (env:Env) (L:LCode)
 | it (src:AV) (n:Nat) (seen:List Nat)
 | vec (e:TypeId) (sz:Nat) (l:List AV)
 | dead
instance:Inhabited Blk:=⟨.dead⟩
abbrev Heap:=List Blk
def locs (g:G) (i:Nat):Blk→Option Nat
 | .box _ _=>some (g.blk i)
 | .tok _ _ _=>(g.tk i).base
 | .mp _ _=>some (g.blk i)
 | .loop _ _ _ _=>some (g.blk i)
 | .it _ _ _=>some (g.blk i)
 | .vec _ _ _=>(g.tk i).base
 | .dead=>none
def BRel (g:G) (w:World) (i:Nat):Blk→Prop
 | .box t l=>∃ cs,w.heap[g.blk i]? = some (.cells cs t (0,0))∧LRel g w l cs.toList∧∀ o,g.own (g.blk i) o
 | .tok e sz len=>(g.tk i).len=len∧(g.tk i).sz=sz ∧
   (((g.tk i).base=none∧len=0∧(g.tk i).cap=0) ∨
    ∃ b cs,(g.tk i).base=some b∧w.heap[b]? = some (.cells cs e (0,0))∧cs.size=(g.tk i).cap * sz∧(g.tk i).cap≤maxLen∧len≤cs.size∧∀ o,len≤o→g.own b o)
 | .mp ks vs=>∃ es clk,w.heap[g.blk i]? = some (.map es clk)∧(clk=es.size∧∀ (j:Nat) e,es[j]? = some e→e.born=j)∧LRel g w ks (es.toList.map (·.key))∧LRel g w vs (es.toList.map (·.val))∧∀ o,g.own (g.blk i) o
 | .loop st jp env L=>(∃ r:Loop,w.heap[g.blk i]? = some (.loop r)∧r.state=st∧r.pending=jp∧r.params=L.ps∧r.assign=L.assign∧r.body=L.body∧r.tmps.size=L.N∧∀ s,VRel g w (get env s) (r.tmps.getD s undef))∧∀ o,g.own (g.blk i) o
 | .it src n seen=>(∃ b a,w.heap[g.blk i]? = some (.mapIter (some b) n a n)∧a.toList=seen∧VRel g w src (.map (some b)))∧∀ o,g.own (g.blk i) o
 | .vec e sz l=>(g.tk i).len=l.length∧(g.tk i).sz=sz ∧
   (((g.tk i).base=none∧l=[]∧(g.tk i).cap=0) ∨
    ∃ b cs,(g.tk i).base=some b∧w.heap[b]? = some (.cells cs e (0,0))∧cs.size=(g.tk i).cap * sz∧(g.tk i).cap≤maxLen∧l.length≤cs.size∧LRel g w l (cs.toList.take l.length)∧∀ o,g.own b o)
 | .dead=>True
structure Hp where
 base:Heap
 k:Nat
 loc:Heap
def Hp.all (hp:Hp):Heap:=hp.base++hp.loc
def Hp.of (H:Heap):Hp:=⟨H,0,[]⟩
def lget {α:Type}:List α→Nat→Option α
 | [],_=>none
 | x::l,n=>match n with
   | 0=>some x
   | m+1=>lget l m
theorem za9 {α:Type}:∀ (l:List α) (n:Nat),lget l n=l[n]?
 | [],n=>by simp [lget]
 | x::l,0=>by simp [lget]
 | x::l,n+1=>by simp [lget,za9 l n]
def At (hp:Hp) (i:Nat) (B:Blk):Prop:=hp.all[i]? = some B
theorem zci {base:Heap} {k:Nat} {loc:Heap} {j:Nat} {B:Blk} (h:lget loc j=some B):At ⟨base,k,loc⟩ (base.length+j) B:=by
 rw [za9] at h
 unfold At Hp.all
 simp only
 rw [yam (by omega)]
 simpa using h
theorem zdg {base:Heap} {k:Nat} {loc:Heap} {i:Nat} {B:Blk} (h:base[i]? = some B):At ⟨base,k,loc⟩ i B:=by
 unfold At Hp.all
 simp only
 have hl:=(yac.1 h).1
 rw [yaj hl,h]
def avc0:Value→AV
 | .int k n=>.int k n
 | .bool b=>.bool b
 | .string s=>.str s
 | .pointer none=>.nilp
 | .slice none 0 0=>.nils
 | .map none=>.nilm
 | .nilFunc=>.nilf
 | .nilIface=>.nili
 | _=>.junk
theorem avc0_rel (g:G) (w:World) (v:Value):VRel g w (avc0 v) v:=by
 unfold avc0
 split <;> simp [VRel]
def avcL:List Value→List AV
 | []=>[]
 | v::l=>avc0 v::avcL l
theorem avcL_rel (g:G) (w:World):∀ l:List Value,LRel g w (avcL l) l
 | []=>by simp [avcL,LRel]
 | v::l=>by
   simp only [avcL,LRel]
   exact ⟨v,l,rfl,avc0_rel g w v,avcL_rel g w l⟩
def avc:Value→AV
 | .agg ⟨cs⟩=>.agg (avcL cs)
 | v=>avc0 v
theorem avc_rel (g:G) (w:World) (v:Value):VRel g w (avc v) v:=by
 unfold avc
 split
 ·simp only [VRel]
  exact ⟨_,rfl,avcL_rel g w _⟩
 ·exact avc0_rel g w v
def gget:List (Nat×List AV)→Nat→AV
 | [],_=>.junk
 | (b,l)::e,g=>match Nat.beq b g with
   | true=>.rptr l
   | false=>gget e g
theorem gget_rel {g:G} {w:World}:∀ {l:List (Nat×List AV)} (_:∀ p∈l,MRel g w p.2 p.1 0) (b:Nat),VRel g w (gget l b) (.pointer (some ⟨b,0,none⟩))
 | [],_,b=>by simp [gget,VRel]
 | (b',l')::e,h,b=>by
   simp only [gget]
   cases hb:Nat.beq b' b with
   | true =>
     have:=yap hb
     subst this
     simp only [VRel]
     exact ⟨b',0,rfl,h _ (ybc ..)⟩
   | false=>exact gget_rel (fun p hp=>h p (ya4 _ hp)) b
def mark (r:Nat):Deferred:={ target:=.collected r,args:=#[] }
def DRel (w0:World) (ds:List Deferred) (g:G) (w:World) (l:List Deferred):Prop :=
 ∃ rs:List Nat,l=rs.map mark++ds∧rs.Nodup∧∀ r∈rs,w0.heap.size≤r∧w.heap[r]? = some (.deferred (some []))∧∀ o,¬ g.own r o
theorem DRel.refl (w0:World) (ds:List Deferred) (g:G) (w:World):DRel w0 ds g w ds:=⟨[],rfl,List.nodup_nil,fun _ h=>by cases h⟩
theorem DRel.of_eq {w0:World} {ds:List Deferred} {g:G} {w:World} {l:List Deferred} (h:l=ds):DRel w0 ds g w l:=h▸DRel.refl _ _ _ _
theorem DRel.ext {w0:World} {ds:List Deferred} {g g':G} {w w':World} {l:List Deferred} (h:DRel w0 ds g w l) (hx:Ext g w g' w'):DRel w0 ds g' w' l:=by
 obtain ⟨rs,h1,h2,h3⟩:=h
 refine ⟨rs,h1,h2,fun r hr=>?_⟩
 obtain ⟨q1,q2,q3⟩:=h3 r hr
 have hlt:=zbc q2
 exact ⟨q1,by rw [hx.same r hlt q3];exact q2,fun o ho=>q3 o (hx.own r o hlt ho)⟩
theorem DRel.trans {w0 w1:World} {ds ds':List Deferred} {g1 g':G} {w':World} {l:List Deferred} (h:DRel w0 ds g1 w1 ds') (hx:Ext g1 w1 g' w') (h0:w0.heap.size≤w1.heap.size) (k:DRel w1 ds' g' w' l):DRel w0 ds g' w' l:=by
 obtain ⟨rs,e1,n1,p1⟩:=h.ext hx
 obtain ⟨rs0,e0,_,p0⟩:=h
 obtain ⟨rs',e2,n2,p2⟩:=k
 have hrs:rs=rs0:=by
  have:=e1.symm.trans e0
  rw [List.append_left_inj] at this
  exact (List.map_inj_right (fun a b hab=>by simpa [mark] using hab)).1 this
 subst hrs
 refine ⟨rs'++rs,by rw [e2,e0];simp,List.nodup_append.2 ⟨n2,n1,fun a ha b hb hab=>?_⟩,fun r hr=>?_⟩
 ·subst hab
  have:=(p2 a ha).1
  have:=zbc (p0 a hb).2.1
  omega
 ·rcases ybh.1 hr with hr|hr
  ·exact ⟨ybg h0 (p2 r hr).1,(p2 r hr).2⟩
  ·exact p1 r hr
class Glob where
 gl:List (Nat×List AV)
 low:∀ p∈gl,zac 0 p.2
structure HRel [Glob] (g:G) (w:World) (hp:Hp):Prop where
 n:g.n=hp.base.length+hp.k
 k:hp.loc.length=hp.k
 rel:∀ i B,hp.all[i]? = some B→BRel g w i B
 lt:∀ b o,g.own b o→b<w.heap.size
 pend:∀ i,g.pend i→hp.all[i]? = some .dead
 inj:∀ i j B C b,hp.all[i]? = some B→hp.all[j]? = some C→locs g i B=some b→locs g j C=some b→i=j
 glob:∀ p∈Glob.gl,MRel g w p.2 p.1 0
theorem HRel.of [Glob] {g:G} {w:World} {hp:Hp} (h:HRel g w hp):HRel g w (Hp.of hp.all) :=
 ⟨by rw [h.n];simp [Hp.of,Hp.all,h.k],rfl,by simpa [Hp.of,Hp.all] using h.rel,h.lt,by simpa [Hp.of,Hp.all] using h.pend,by simpa [Hp.of,Hp.all] using h.inj,h.glob⟩
structure FN where
 n:Nat
 r:Option Nat:=none
def FN.fo (N:FN) (g:G):Option Nat:=N.r.map g.blk
structure ERel [Glob] (N:FN) (g:G) (w:World) (env:Env) (a:Act):Prop where
 size:a.tmps.size=N.n
 rel:∀ s,VRel g w (get env s) (a.tmps.getD s undef)
 ro:∀ i,N.r=some i→g.ok i
 glob:∀ p∈Glob.gl,MRel g w p.2 p.1 0
theorem ERel.ext [Glob] {N:FN} {g g':G} {w w':World} {env:Env} {a:Act} (h:Ext g w g' w') (he:ERel N g w env a):ERel N g' w' env a :=
 ⟨he.1,fun s=>VRel.ext h _ _ (he.2 s),fun i hi=>h.ok i (he.ro i hi),fun p hp=>MRel.ext h _ _ _ (he.glob p hp)⟩
theorem ERel.fo [Glob] {N:FN} {g g':G} {w w':World} {env:Env} {a:Act} (he:ERel N g w env a) (h:Ext g w g' w'):N.fo g'=N.fo g:=by
 obtain ⟨n,r⟩:=N
 cases r with
 | none=>rfl
 | some i=>simp only [FN.fo,ybb,yad];exact h.blk i (he.ro i rfl)
theorem ERel.put [Glob] {N:FN} {g:G} {w:World} {env:Env} {a:Act} (he:ERel N g w env a) {d:Nat} (hd:Nat.blt d N.n=true) {v:AV} {c:Value} (hv:VRel g w v c) :
  ERel N g w ((d,v)::env) (a.put (some d) c):=by
 have hlt:d<N.n:=by simp [Nat.blt] at hd;omega
 obtain ⟨h1,h2,h3,h4⟩:=he
 refine ⟨by simp [Act.put,h1],fun s=>?_,h3,h4⟩
 by_cases hs:d=s
 ·subst hs
  rw [zb3]
  have:(a.put (some d) c).tmps.getD d undef=c:=by
   simp [Act.put,Array.getD,h1,hlt]
  rw [this];exact hv
 ·rw [zch env v hs]
  have:(a.put (some d) c).tmps.getD s undef=a.tmps.getD s undef:=by
   simp [Act.put,yb2 hs]
  rw [this];exact h2 s
def Lift [Glob] (N:FN) (Q:Exit→Env→Hp→Prop) (g:G) (w:World) (ds:List Deferred):Exit→Act→World→Prop :=
 fun e a' w'=>∃ env' H' g',Q e env' H'∧HRel g' w' H'∧ERel N g' w' env' a'∧Ext g w g' w'∧DRel w ds g' w' a'.defers
def VW [Glob] (P:Program) (N:FN) (c:Code) (Q:Exit→Env→Hp→Prop) (env:Env) (H:Hp):Prop :=
 ∀ g w a,HRel g w H→ERel N g w env a→c.wpIn (FR (N.fo g)) 0 P (Lift N Q g w a.defers) a w
def VO [Glob] (P:Program) (N:FN) (all:List Oper) (rest:List Oper) (Q:Env→Hp→Prop) (env:Env) (H:Hp):Prop :=
 ∀ (g0:G) (w0:World) (g:G) (w:World) (a:Act) (Qc:Exit→Act→World→Prop),HRel g w H→ERel N g w env a→Ext g0 w0 g w →
  (∀ env' H' g' a' w',Q env' H'→HRel g' w' H'→ERel N g' w' env' a'→Ext g0 w0 g' w'→a'.defers=a.defers→Qc .normal a' w') →
  wpListIn (FR (N.fo g)) 0 P all.toArray Qc rest a w
def CallOk (P:Program) (f:FuncId):Prop:=∃ fn,P.funcs[f]? = some fn∧(fn.name == "runtime.NumGoroutine")=false∧fn.body.isNone=false
def VCall [Glob] (P:Program) (f:FuncId) (args:List AV) (H:Heap) (R:AV→Heap→Prop):Prop :=
 CallOk P f∧∀ (g:G) (w:World) (as:Array Value),HRel g w (Hp.of H)→LRel g w args as.toList →
  Calls P f as w fun e w'=>∃ r H' g' c,e=.returned c∧R r H'∧HRel g' w' (Hp.of H')∧VRel g' w' r c∧Ext g w g' w'
section
variable {P:Program} {N:FN} {Q:Exit→Env→Hp→Prop} {env:Env} {H:Hp}
theorem Lift.mono [Glob] {Q':Exit→Env→Hp→Prop} {g:G} {w:World} {ds:List Deferred} (h:∀ e env H,Q e env H→Q' e env H) {e:Exit} {a:Act} {w':World} (hl:Lift N Q g w ds e a w'):Lift N Q' g w ds e a w':=by
 obtain ⟨env',H',g',q,r⟩:=hl
 exact ⟨env',H',g',h _ _ _ q,r⟩
theorem VW.mono [Glob] {Q':Exit→Env→Hp→Prop} {c:Code} (hv:VW P N c Q env H) (h:∀ e env H,Q e env H→Q' e env H):VW P N c Q' env H :=
 fun g w a hH hE=>Code.wpIn_mono (fun _ _ _ hl=>Lift.mono h hl) (hv g w a hH hE)
theorem vw_skip [Glob] (h:Q .normal env H):VW P N .skip Q env H :=
 fun g w _ hH hE=>wpIn_skip ⟨env,H,g,h,hH,hE,Ext.refl g w,DRel.refl _ _ _ _⟩
theorem vw_label [Glob] {l:Nat} (h:Q .normal env H):VW P N (.label l) Q env H :=
 fun g w _ hH hE=>wpIn_label ⟨env,H,g,h,hH,hE,Ext.refl g w,DRel.refl _ _ _ _⟩
theorem vw_exit [Glob] {id:Nat} (h:Q (.exit id) env H):VW P N (.exit id) Q env H :=
 fun g w _ hH hE=>wpIn_exit ⟨env,H,g,h,hH,hE,Ext.refl g w,DRel.refl _ _ _ _⟩
theorem vw_ret [Glob] (h:Q .ret env H):VW P N .ret Q env H :=
 fun g w _ hH hE=>wpIn_ret ⟨env,H,g,h,hH,hE,Ext.refl g w,DRel.refl _ _ _ _⟩
theorem zc1 [Glob] {g0 g:G} {w0 w:World} {ds ds':List Deferred} (hx:Ext g0 w0 g w) (hd:DRel w0 ds g w ds') {e:Exit} {a:Act} {w':World} (hl:Lift N Q g w ds' e a w'):Lift N Q g0 w0 ds e a w':=by
 obtain ⟨env',H',g',q,h1,h2,h3,h4⟩:=hl
 exact ⟨env',H',g',q,h1,h2,hx.trans h3,hd.trans h3 hx.size h4⟩
def thenQ (K:Env→Hp→Prop) (Q:Exit→Env→Hp→Prop):Exit→Env→Hp→Prop
 | .normal,env,H=>K env H
 | e,env,H=>Q e env H
theorem vw_seq [Glob] {x y:Code} (h:VW P N x (thenQ (VW P N y Q) Q) env H):VW P N (.seq x y) Q env H:=by
 intro g w a hH hE
 refine wpIn_seq (Code.wpIn_mono ?_ (h g w a hH hE))
 rintro e a' w' ⟨env',H',g',q,h1,h2,h3,h4⟩
 cases e with
 | normal =>
   have:=q g' w' a' h1 h2
   rw [hE.fo h3] at this
   refine Code.wpIn_mono (fun e a2 w2 hl=>?_) this
   exact zc1 h3 h4 hl
 | exit id=>exact ⟨env',H',g',q,h1,h2,h3,h4⟩
 | goto l=>exact ⟨env',H',g',q,h1,h2,h3,h4⟩
 | ret=>exact ⟨env',H',g',q,h1,h2,h3,h4⟩
 | panic ch=>exact ⟨env',H',g',q,h1,h2,h3,h4⟩
 | outgrown=>exact ⟨env',H',g',q,h1,h2,h3,h4⟩
def blockQ (id:Nat) (Q:Exit→Env→Hp→Prop):Exit→Env→Hp→Prop
 | .exit i,env,H=>match Nat.beq i id with
   | true=>Q .normal env H
   | false=>Q (.exit i) env H
 | e,env,H=>Q e env H
theorem vw_block [Glob] {id:Nat} {c:Code} (h:VW P N c (blockQ id Q) env H):VW P N (.block id c) Q env H:=by
 intro g w a hH hE
 refine wpIn_block (Code.wpIn_mono ?_ (h g w a hH hE))
 rintro e a' w' ⟨env',H',g',q,r⟩
 cases e with
 | exit i =>
   simp only [Exit.inBlock]
   simp only [blockQ] at q
   by_cases hi:i=id
   ·subst hi
    simp only [Nat.beq_refl] at q
    rw [if_pos rfl]
    exact ⟨env',H',g',q,r⟩
   ·have hb:Nat.beq i id=false:=by
      cases hb:Nat.beq i id
      ·rfl
      ·exact absurd (yap hb) hi
    simp only [hb] at q
    rw [if_neg hi]
    exact ⟨env',H',g',q,r⟩
 | normal=>exact ⟨env',H',g',q,r⟩
 | goto l=>exact ⟨env',H',g',q,r⟩
 | ret=>exact ⟨env',H',g',q,r⟩
 | panic ch=>exact ⟨env',H',g',q,r⟩
 | outgrown=>exact ⟨env',H',g',q,r⟩
def noGotoQ (Q:Exit→Env→Hp→Prop):Exit→Env→Hp→Prop
 | .goto _,_,_=>False
 | e,env,H=>Q e env H
def ev [Glob] (env:Env):Operand→AV
 | .tmp t=>get env t
 | .const v=>avc v
 | .func f=>.clo (.func f) [] []
 | .global g=>gget Glob.gl g
theorem zar [Glob] {N:FN} {g:G} {w:World} {env:Env} {a:Act} (he:ERel N g w env a) (x:Operand):VRel g w (ev env x) (a.eval x):=by
 cases x with
 | tmp t=>exact he.rel t
 | func f=>simp [ev,VRel,Act.eval,LRel,fnOk,fnCap,fnG]
 | global g=>exact gget_rel he.glob g
 | const v=>exact avc_rel g w v
theorem vw_cond [Glob] {c:Operand} {x y:Code} {b:Bool} (hc:ev env c=.bool b) (ht:b=true→VW P N x Q env H) (hf:b=false→VW P N y Q env H):VW P N (.cond c x y) Q env H:=by
 intro g w a hH hE
 have hr:=zar hE c
 rw [hc] at hr
 simp only [VRel] at hr
 refine wpIn_cond_split hr (fun h=>ht h g w a hH hE) (fun h=>hf h g w a hH hE)
theorem vw_region [Glob] {id:Nat} {l:List Oper} (h:VO P N l l (Q .normal) env H):VW P N (.region id l.toArray false) Q env H:=by
 intro g w a hH hE
 refine wpIn_region_lit (h g w g w a _ hH hE (Ext.refl g w) ?_)
 intro env' H' g' a' w' q h1 h2 h3 h4
 exact ⟨env',H',g',q,h1,h2,h3,DRel.of_eq h4⟩
end
end
section
inductive TK where
 | bool|int (k:IntKind)|str
 | st (fs:List (TypeId×Nat×Nat×Bool))
 | arr (n:Nat) (e:TypeId)|sl (e:TypeId)|ptr (e:TypeId)|mp (k e:TypeId)
 | fn|ifc|other
 deriving Repr
structure TI where
 kind:TK
 sz:Nat
 bytes:Nat
 zero:Option (List AV)
def av1:Value→AV
 | .int k n=>.int k n
 | .bool b=>.bool b
 | .string s=>.str s
 | .pointer none=>.nilp
 | .slice none 0 0=>.nils
 | .map none=>.nilm
 | .nilFunc=>.nilf
 | .nilIface=>.nili
 | _=>.junk
theorem av1_rel (g:G) (w:World) (v:Value):VRel g w (av1 v) v:=by
 unfold av1
 split <;> simp [VRel]
theorem zej (g:G) (w:World):∀ l:List Value,LRel g w (l.map av1) l
 | []=>by simp [LRel]
 | v::l=>by
   simp only [ybx,LRel]
   exact ⟨v,l,rfl,av1_rel g w v,zej g w l⟩
def isz (P:Program) (t:TypeId):Nat:=match P.info? t with
 | some i=>i.size
 | none=>0
def tkOf (P:Program):TypeDesc→TK
 | .bool=>.bool
 | .int k=>.int k
 | .string=>.str
 | .struct fs=>.st (fs.toList.map fun f=>(f.type,f.offset,isz P f.type,f.name == "_"))
 | .array n e=>.arr n e
 | .slice e=>.sl e
 | .pointer e=>.ptr e
 | .map k e=>.mp k e
 | .func _ _ _=>.fn
 | .interface _=>.ifc
 | _=>.other
def tiOf (P:Program) (t:TypeId):Option TI :=
 match P.underlying t,P.info? t with
 | some d,some i=>some ⟨tkOf P d,i.size,i.bytes,i.zero.map fun z=>z.cells.toList.map av1⟩
 | _,_=>none
def aggD:TypeDesc→Bool
 | .struct _|.array _ _=>true
 | _=>false
def TOk (P:Program) (T:TypeId→Option TI):Prop:=∀ t ti,T t=some ti→tiOf P t=some ti
section
variable {P:Program}
theorem zaj {t:TypeId} {ti:TI} (h:tiOf P t=some ti):∃ d i,P.underlying t=some d∧P.info? t=some i∧ti.kind=tkOf P d∧ti.sz=i.size∧ti.bytes=i.bytes∧ti.zero=i.zero.map (fun z=>z.cells.toList.map av1):=by
 unfold tiOf at h
 split at h
 ·rename_i d i h1 h2
  cases h
  exact ⟨d,i,h1,h2,rfl,rfl,rfl,rfl⟩
 ·cases h
theorem za2 {t:TypeId} {i:TypeInfo} (h:P.info? t=some i) (w:World):(sizeOf t).run P w=.ok i.size w:=by
 simp [sizeOf,typeInfo,h]
theorem isAgg_run {t:TypeId} {d:TypeDesc} (h:P.underlying t=some d) (w:World):(isAgg t).run P w=.ok (aggD d) w:=by
 unfold isAgg
 rw [Sem.run_bind,run_underlying h w]
 cases d <;> rfl
end
def Step [Glob] (P:Program) (N:FN) (hp:Hp) (env:Env) (o:Oper) (v:AV) (hp':Hp):Prop :=
 ∀ g w a,HRel g w hp→ERel N g w env a →
  ∃ c g' w',(execOp a.eval o).run P w=.ok (.value c) w'∧HRel g' w' hp'∧VRel g' w' v c∧Ext g w g' w'
def StepU [Glob] (P:Program) (N:FN) (hp:Hp) (env:Env) (o:Oper) (hp':Hp):Prop :=
 ∀ g w a,HRel g w hp→ERel N g w env a →
  ∃ g' w',(execOp a.eval o).run P w=.ok .skip w'∧HRel g' w' hp'∧Ext g w g' w'
def bb (want b:Bool):Bool:=match want with
 | true=>b
 | false=>!b
def gd (all:List Oper) (env:Env) (o:Oper):Option Bool :=
 match o.guard with
 | none=>some true
 | some (j,want)=>match lget all j with
   | some oj=>match oj.dst with
     | some d=>match get env d with
       | .bool b=>some (bb want b)
       | .tup []=>some false
       | _=>none
     | none=>none
   | none=>none
theorem zdf [Glob] {N:FN} {g:G} {w:World} {all:List Oper} {env:Env} {a:Act} {o:Oper} {b:Bool} (he:ERel N g w env a) (hgd:gd all env o=some b) :
  Region.wanted o (yielded all.toArray a.tmps)=b:=by
 unfold gd at hgd
 unfold Region.wanted
 split at hgd
 ·rename_i h;simp only [h];simpa using hgd
 ·rename_i j want h
  simp only [h]
  cases hj:lget all j with
  | none=>simp [hj] at hgd
  | some oj =>
  simp only [hj] at hgd
  cases hd:oj.dst with
  | none=>simp [hd] at hgd
  | some d =>
  simp only [hd] at hgd
  split at hgd
  case h_3=>cases hgd
  case h_2 =>
   rename_i hb
   simp only [yad] at hgd
   subst hgd
   have hr:=he.rel d
   rw [hb] at hr
   simp only [VRel] at hr
   obtain ⟨cs,hr,hl⟩:=hr
   have hcs:cs=#[]:=by
    simp only [LRel] at hl
    exact Array.toList_eq_nil_iff.1 hl
   subst hcs
   rw [za9] at hj
   have hy:yielded all.toArray a.tmps j=none:=by
    unfold yielded
    simp only [ydn,hj,yco,hd]
    cases ht:a.tmps[d]? with
    | none=>rfl
    | some v =>
      have:a.tmps.getD d undef=v:=by simp [ht]
      rw [this] at hr
      subst hr
      rfl
   rw [hy]
   cases want <;> rfl
  rename_i b' hb
  have hr:=he.rel d
  rw [hb] at hr
  simp only [VRel] at hr
  rw [za9] at hj
  have hlt:d<a.tmps.size:=by
   rcases yag d a.tmps.size with h1|h1
   ·exact h1
   ·exfalso
    have:a.tmps.getD d undef=undef:=by simp [Array.getElem?_eq_none h1]
    rw [this] at hr
    cases hr
  have h3:a.tmps[d]? = some (.bool b'):=by
   rw [ybu hlt]
   have:a.tmps.getD d undef=a.tmps[d]:=by simp [hlt]
   rw [this] at hr
   rw [hr]
  have hy:yielded all.toArray a.tmps j=some b':=by
   simp [yielded,hj,hd,h3]
  rw [hy]
  have hgb:bb want b'=b:=by simpa using hgd
  rw [← hgb]
  cases want <;> cases b' <;> rfl
section
variable {P:Program} {N:FN} {all rest:List Oper} {Q:Env→Hp→Prop} {env:Env} {hp hp':Hp} {o:Oper}
theorem vo_nil [Glob] (h:Q env hp):VO P N all [] Q env hp :=
 fun _ _ g w a _ hH hE hx k=>wpListIn_nil (k env hp g a w h hH hE hx rfl)
theorem zgg [Glob] {d:Nat} {v:AV} (hs:Step P N hp env o v hp') (hg:gd all env o=some true) (hd:o.dst=some d) (hN:Nat.blt d N.n=true) (h:VO P N all rest Q ((d,v)::env) hp') :
  VO P N all (o::rest) Q env hp:=by
 intro g0 w0 g w a Qc hH hE hx k
 unfold wpListIn
 rw [if_pos (zdf hE hg)]
 obtain ⟨c,g',w',hr,hH',hv,hx'⟩:=hs g w a hH hE
 refine zb4 hr ?_
 rw [hd]
 have:=h g0 w0 g' w' _ Qc hH' ((hE.ext hx').put hN hv) (hx.trans hx') (fun e1 h1 g1 a1 w1 q1 q2 q3 q4 q5=>k e1 h1 g1 a1 w1 q1 q2 q3 q4 (by rw [q5];rfl))
 rw [hE.fo hx'] at this
 exact this
theorem vo_stepU [Glob] (hs:StepU P N hp env o hp') (hg:gd all env o=some true) (hd:o.dst=none) (h:VO P N all rest Q env hp') :
  VO P N all (o::rest) Q env hp:=by
 intro g0 w0 g w a Qc hH hE hx k
 unfold wpListIn
 rw [if_pos (zdf hE hg)]
 obtain ⟨g',w',hr,hH',hx'⟩:=hs g w a hH hE
 refine zfr hr ?_
 rw [hd]
 have:=h g0 w0 g' w' _ Qc hH' (hE.ext hx') (hx.trans hx') k
 rw [hE.fo hx'] at this
 exact this
theorem vo_skipped [Glob] {d:Nat} (hg:gd all env o=some false) (hd:o.dst=some d) (hN:Nat.blt d N.n=true) (h:VO P N all rest Q ((d,.tup [])::env) hp) :
  VO P N all (o::rest) Q env hp:=by
 intro g0 w0 g w a Qc hH hE hx k
 unfold wpListIn
 rw [if_neg (by rw [zdf hE hg];simp),hd]
 refine ⟨fun _ _=>trivial,?_⟩
 exact h g0 w0 g w _ Qc hH (hE.put hN (by simp only [VRel];exact ⟨#[],rfl,by simp [LRel]⟩)) hx (fun e1 h1 g1 a1 w1 q1 q2 q3 q4 q5=>k e1 h1 g1 a1 w1 q1 q2 q3 q4 (by rw [q5];rfl))
theorem vo_skippedU [Glob] (hg:gd all env o=some false) (hd:o.dst=none) (h:VO P N all rest Q env hp) :
  VO P N all (o::rest) Q env hp:=by
 intro g0 w0 g w a Qc hH hE hx k
 unfold wpListIn
 rw [if_neg (by rw [zdf hE hg];simp),hd]
 refine ⟨fun _ _=>trivial,?_⟩
 exact h g0 w0 g w _ Qc hH hE hx k
theorem Step.pure [Glob] {v:AV} (h:∀ (g:G) (w:World) (a:Act),HRel g w hp→ERel N g w env a→∃ c,(execOp a.eval o).run P w=.ok (.value c) w∧VRel g w v c):Step P N hp env o v hp :=
 fun g w a hH hE=>by
  obtain ⟨c,h1,h2⟩:=h g w a hH hE
  exact ⟨c,g,w,h1,hH,h2,Ext.refl g w⟩
def nf:AV→Option AV
 | .bool b=>some (.bool b)
 | .int k n=>some (.int k n)
 | .str s=>some (.str s)
 | .nilp=>some .nilp
 | .ptr i o=>some (.ptr i o)
 | .rptr l=>some (.rptr l)
 | .nilf=>some .nilf
 | .clo fn fs cs=>some (.clo fn fs cs)
 | .nili=>some .nili
 | .ifc t v=>some (.ifc t v)
 | .nils=>some .nils
 | .sl t n l=>some (.sl t n l)
 | .sx n l=>some (.sx n l)
 | .sk n m l=>some (.sk n m l)
 | .ms i o n=>some (.ms i o n)
 | .nilm=>some .nilm
 | .mp i=>some (.mp i)
 | .vs i n=>some (.vs i n)
 | .vk i n m=>some (.vk i n m)
 | .vp i n o=>some (.vp i n o)
 | .rmp ks vs=>some (.rmp ks vs)
 | .agg l=>some (.agg l)
 | .tup l=>some (.tup l)
 | .junk=>some .junk
theorem zfs {v v':AV} (h:nf v=some v'):v=v':=by
 cases v <;> simpa [nf] using h
theorem st_move [Glob] {x:Operand} {v:AV} (ho:o.op=.move x) (hv:nf (ev env x)=some v):Step P N hp env o v hp :=
 Step.pure fun _ _ a _ hE=>⟨a.eval x,by simp [execOp,ho],by rw [← zfs hv];exact zar hE x⟩
theorem st_assign [Glob] {x:Operand} {v:AV} (ho:o.op=.assign x) (hv:nf (ev env x)=some v):Step P N hp env o v hp :=
 Step.pure fun _ _ a _ hE=>⟨a.eval x,by simp [execOp,ho],by rw [← zfs hv];exact zar hE x⟩
theorem st_pick_t [Glob] {c x y:Operand} {v:AV} (ho:o.op=.pick c x y) (hc:ev env c=.bool true) (hv:nf (ev env x)=some v):Step P N hp env o v hp :=
 Step.pure fun _ _ a _ hE=>⟨a.eval x,by
  have h:=zar hE c
  rw [hc] at h
  simp only [VRel] at h
  simp [execOp,ho,h,asBool],by rw [← zfs hv];exact zar hE x⟩
theorem st_pick_f [Glob] {c x y:Operand} {v:AV} (ho:o.op=.pick c x y) (hc:ev env c=.bool false) (hv:nf (ev env y)=some v):Step P N hp env o v hp :=
 Step.pure fun _ _ a _ hE=>⟨a.eval y,by
  have h:=zar hE c
  rw [hc] at h
  simp only [VRel] at h
  simp [execOp,ho,h,asBool],by rw [← zfs hv];exact zar hE y⟩
def intBin:BinOp→IntKind→Int→Int→Option AV
 | .add,k,a,b=>some (.int k (k.wrap (a+b)))
 | .sub,k,a,b=>some (.int k (k.wrap (a-b)))
 | .mul,k,a,b=>some (.int k (k.wrap (a * b)))
 | .and,k,a,b=>some (.int k (bits .and k a b))
 | .or,k,a,b=>some (.int k (bits .or k a b))
 | .xor,k,a,b=>some (.int k (bits .xor k a b))
 | .andNot,k,a,b=>some (.int k (bits .andNot k a b))
 | .eql,_,a,b=>some (.bool (a==b))
 | .neq,_,a,b=>some (.bool (a != b))
 | .lss,_,a,b=>some (.bool (decide (a<b)))
 | .leq,_,a,b=>some (.bool (decide (a≤b)))
 | .gtr,_,a,b=>some (.bool (decide (b<a)))
 | .geq,_,a,b=>some (.bool (decide (b≤a)))
 | _,_,_,_=>none
theorem zec (op:BinOp) (t:TypeId) (x y:Operand) (k:IntKind) (n:Int) (v:Value):eqGuard op t x y (.int k n) v=pure ():=by cases op <;> rfl
theorem st_int [Glob] {op:BinOp} {t u:TypeId} {x y:Operand} {k:IntKind} {m n:Int} {v:AV} (ho:o.op=.binOp op t x y u)
  (hx:ev env x=.int k m) (hy:ev env y=.int k n) (hv:intBin op k m n=some v):Step P N hp env o v hp :=
 Step.pure fun g w a _ hE=>by
  have h1:=zar hE x
  have h2:=zar hE y
  rw [hx] at h1
  rw [hy] at h2
  simp only [VRel] at h1 h2
  unfold execOp
  simp only [ho,h1,h2,zec]
  cases op <;> simp only [intBin,yad,reduceCtorEq] at hv <;> subst hv <;>
   simp [binOp,Op.intArith,Op.intCmp,intBits_and,intBits_or,intBits_xor,intBits_andNot,VRel]
theorem st_quo [Glob] {t u:TypeId} {x y:Operand} {k:IntKind} {m n:Int} (ho:o.op=.binOp .quo t x y u)
  (hx:ev env x=.int k m) (hy:ev env y=.int k n) (hn:n≠0):Step P N hp env o (.int k (k.wrap (m.tdiv n))) hp :=
 Step.pure fun g w a _ hE=>by
  have h1:=zar hE x
  have h2:=zar hE y
  rw [hx] at h1
  rw [hy] at h2
  simp only [VRel] at h1 h2
  unfold execOp
  simp only [ho,h1,h2,zec]
  simp [binOp,Op.intDiv,hn,VRel]
theorem st_rem [Glob] {t u:TypeId} {x y:Operand} {k:IntKind} {m n:Int} (ho:o.op=.binOp .rem t x y u)
  (hx:ev env x=.int k m) (hy:ev env y=.int k n) (hn:n≠0):Step P N hp env o (.int k (m.tmod n)) hp :=
 Step.pure fun g w a _ hE=>by
  have h1:=zar hE x
  have h2:=zar hE y
  rw [hx] at h1
  rw [hy] at h2
  simp only [VRel] at h1 h2
  unfold execOp
  simp only [ho,h1,h2,zec]
  simp [binOp,Op.intDiv,hn,VRel]
theorem st_shl [Glob] {t u:TypeId} {x y:Operand} {k k':IntKind} {m n:Int} (ho:o.op=.binOp .shl t x y u)
  (hx:ev env x=.int k m) (hy:ev env y=.int k' n) (hn:0≤n):Step P N hp env o (.int k (k.wrap (m * 2 ^ min n.toNat k.bits))) hp :=
 Step.pure fun g w a _ hE=>by
  have h1:=zar hE x
  have h2:=zar hE y
  rw [hx] at h1
  rw [hy] at h2
  simp only [VRel] at h1 h2
  unfold execOp
  simp only [ho,h1,h2,zec]
  have:¬ n<0:=by omega
  simp [binOp,Op.shift,this,VRel]
theorem st_shr [Glob] {t u:TypeId} {x y:Operand} {k k':IntKind} {m n:Int} (ho:o.op=.binOp .shr t x y u)
  (hx:ev env x=.int k m) (hy:ev env y=.int k' n) (hn:0≤n):Step P N hp env o (.int k (m.fdiv (2 ^ min n.toNat k.bits))) hp :=
 Step.pure fun g w a _ hE=>by
  have h1:=zar hE x
  have h2:=zar hE y
  rw [hx] at h1
  rw [hy] at h2
  simp only [VRel] at h1 h2
  unfold execOp
  simp only [ho,h1,h2,zec]
  have:¬ n<0:=by omega
  simp [binOp,Op.shift,this,VRel]
def strBin:BinOp→ByteArray→ByteArray→Option AV
 | .eql,a,b=>some (.bool (a.toList==b.toList))
 | .neq,a,b=>some (.bool (!(a.toList==b.toList)))
 | .lss,a,b=>some (.bool (Op.bytesLess a.toList b.toList))
 | .leq,a,b=>some (.bool (Op.bytesLess a.toList b.toList || a.toList==b.toList))
 | .gtr,a,b=>some (.bool (!(Op.bytesLess a.toList b.toList || a.toList==b.toList)))
 | .geq,a,b=>some (.bool (!(Op.bytesLess a.toList b.toList)))
 | _,_,_=>none
theorem st_str [Glob] {op:BinOp} {t u:TypeId} {x y:Operand} {m n:ByteArray} {v:AV} (ho:o.op=.binOp op t x y u)
  (hx:ev env x=.str m) (hy:ev env y=.str n) (hv:strBin op m n=some v):Step P N hp env o v hp :=
 Step.pure fun g w a _ hE=>by
  have h1:=zar hE x
  have h2:=zar hE y
  rw [hx] at h1
  rw [hy] at h2
  simp only [VRel] at h1 h2
  unfold execOp
  simp only [ho,h1,h2,eqGuard_at_string]
  cases op <;> simp only [strBin,yad,reduceCtorEq] at hv <;> subst hv <;>
   simp [binOp,Op.stringOp,VRel]
theorem st_cat [Glob] {t u:TypeId} {x y:Operand} {m n:ByteArray} (ho:o.op=.binOp .add t x y u)
  (hx:ev env x=.str m) (hy:ev env y=.str n) (hs:m.size+n.size≤9223372036854775807):Step P N hp env o (.str (m++n)) hp :=
 Step.pure fun g w a _ hE=>by
  have h1:=zar hE x
  have h2:=zar hE y
  rw [hx] at h1
  rw [hy] at h2
  simp only [VRel] at h1 h2
  unfold execOp
  simp only [ho,h1,h2,eqGuard_at_string]
  have hlt:¬ ((m.size+n.size:Nat):Int) > IntKind.i64.max:=by
   show ¬ ((9223372036854775807:Int)<_)
   omega
  simp only [binOp,Op.stringOp,if_neg hlt]
  exact ⟨_,rfl,by simp [VRel]⟩
theorem st_not [Glob] {t:TypeId} {x:Operand} {b:Bool} (ho:o.op=.unOp .not t x) (hx:ev env x=.bool b):Step P N hp env o (.bool (!b)) hp :=
 Step.pure fun g w a _ hE=>by
  have h1:=zar hE x
  rw [hx] at h1
  simp only [VRel] at h1
  simp [execOp,ho,h1,Op.unary,VRel]
theorem st_neg [Glob] {t:TypeId} {x:Operand} {k:IntKind} {n:Int} (ho:o.op=.unOp .neg t x) (hx:ev env x=.int k n):Step P N hp env o (.int k (k.wrap (0-n))) hp :=
 Step.pure fun g w a _ hE=>by
  have h1:=zar hE x
  rw [hx] at h1
  simp only [VRel] at h1
  simp [execOp,ho,h1,Op.unary,Op.intArith,VRel]
def comK (k:IntKind):Int:=if k.signed then -1 else k.max
theorem st_com [Glob] {t:TypeId} {x:Operand} {k:IntKind} {n:Int} (ho:o.op=.unOp .xor t x) (hx:ev env x=.int k n):Step P N hp env o (.int k (bits .xor k (comK k) n)) hp :=
 Step.pure fun g w a _ hE=>by
  have h1:=zar hE x
  rw [hx] at h1
  simp only [VRel] at h1
  refine ⟨.int k (bits .xor k (comK k) n),?_,by simp [VRel]⟩
  simp only [execOp,ho,h1,Op.unary,Op.intBits,bits,comK]
  rfl
theorem st_conv [Glob] {T:TypeId→Option TI} (hT:TOk P T) {s t:TypeId} {x:Operand} {k k':IntKind} {n:Int} {si ti:TI} (ho:o.op=.convert s t x)
  (hs:T s=some si) (ht:T t=some ti) (hk:ti.kind=.int k') (hx:ev env x=.int k n):Step P N hp env o (.int k' (k'.wrap n)) hp :=
 Step.pure fun g w a _ hE=>by
  have h1:=zar hE x
  rw [hx] at h1
  simp only [VRel] at h1
  obtain ⟨d,i,e1,e2,e3,-⟩:=zaj (hT _ _ hs)
  obtain ⟨d',i',f1,f2,f3,-⟩:=zaj (hT _ _ ht)
  rw [hk] at f3
  have hd:d'=.int k':=by
   cases d' <;> simp [tkOf] at f3
   rw [f3]
  subst hd
  unfold execOp
  simp [ho,h1,convert,run_underlying e1,run_underlying f1,Conv.intToInt,VRel]
theorem st_convS [Glob] {T:TypeId→Option TI} (hT:TOk P T) {s t:TypeId} {x:Operand} {k:IntKind} {n:Int} {si ti:TI} (ho:o.op=.convert s t x)
  (hs:T s=some si) (ht:T t=some ti) (hk:ti.kind=.str) (hx:ev env x=.int k n):Step P N hp env o (.str (Utf8.encode n)) hp :=
 Step.pure fun g w a _ hE=>by
  have h1:=zar hE x
  rw [hx] at h1
  simp only [VRel] at h1
  obtain ⟨d,i,e1,e2,e3,-⟩:=zaj (hT _ _ hs)
  obtain ⟨d',i',f1,f2,f3,-⟩:=zaj (hT _ _ ht)
  rw [hk] at f3
  have hd:d'=.string:=by
   cases d' <;> simp [tkOf] at f3
   rfl
  subst hd
  unfold execOp
  simp [ho,h1,convert,run_underlying e1,run_underlying f1,Conv.intToString,VRel]
theorem st_extract [Glob] {x:Operand} {i:Nat} {l:List AV} {v:AV} (ho:o.op=.extract x i) (hx:ev env x=.tup l) (hv:lget l i=some v):Step P N hp env o v hp :=
 Step.pure fun g w a _ hE=>by
  have h1:=zar hE x
  rw [hx] at h1
  simp only [VRel] at h1
  obtain ⟨cs,hc,hl⟩:=h1
  rw [za9] at hv
  have:∀ (l:List AV) (cs:List Value) (i:Nat),LRel g w l cs→l[i]? = some v→∃ c,cs[i]? = some c∧VRel g w v c:=by
   intro l
   induction l with
   | nil=>intro cs i _ h;simp at h
   | cons x l ih =>
     intro cs i hl h
     simp only [LRel] at hl
     obtain ⟨c,r,rfl,hvc,hr⟩:=hl
     cases i with
     | zero=>simp at h;subst h;exact ⟨c,by simp,hvc⟩
     | succ i=>simpa using ih r i hr (by simpa using h)
  obtain ⟨c,hc',hv'⟩:=this l cs.toList i hl hv
  refine ⟨c,?_,hv'⟩
  have:cs[i]? = some c:=by simpa using hc'
  simp [execOp,ho,hc,Instr.extract,this]
theorem zgi [Glob] {x:Operand} {i k:Nat} (ho:o.op=.nilCheck x) (hx:ev env x=.ptr i k):Step P N hp env o (.ptr i k) hp :=
 Step.pure fun g w a _ hE=>by
  have h1:=zar hE x
  rw [hx] at h1
  have h1':=h1
  simp only [VRel] at h1
  refine ⟨a.eval x,?_,h1'⟩
  simp [execOp,ho,h1.2]
theorem zgw [Glob] {x:Operand} {l:List AV} (ho:o.op=.nilCheck x) (hx:ev env x=.rptr l):Step P N hp env o (.rptr l) hp :=
 Step.pure fun g w a _ hE=>by
  have h1:=zar hE x
  rw [hx] at h1
  have h1':=h1
  simp only [VRel] at h1
  obtain ⟨b,o',hc,-⟩:=h1
  refine ⟨a.eval x,?_,h1'⟩
  simp [execOp,ho,hc]
def fnReal:Fn→Prop
 | .func _=>True
 | .yield _=>True
 | _=>False
theorem zgx [Glob] {x:Operand} {fn:Fn} {fs cs:List AV} (hfn:fnReal fn) (ho:o.op=.nilCheck x) (hx:ev env x=.clo fn fs cs):Step P N hp env o (.clo fn fs cs) hp :=
 Step.pure fun g w a _ hE=>by
  have h1:=zar hE x
  rw [hx] at h1
  have h1':=h1
  simp only [VRel] at h1
  obtain ⟨_,b,o',hc,-⟩:=h1
  refine ⟨a.eval x,?_,h1'⟩
  cases fn with
  | func f=>simp [execOp,ho,hc,fnG]
  | yield i=>simp [execOp,ho,hc,fnG]
  | _=>exact hfn.elim
end
end
section
def AV.one:AV→Bool
 | .agg _|.tup _|.junk=>false
 | _=>true
def AV.cells:AV→List AV
 | .agg l=>l
 | v=>[v]
def takeC:Nat→List AV→Option (List AV)
 | 0,_=>some []
 | n+1,x::l=>match takeC n l with
   | some r=>some (x::r)
   | none=>none
 | _+1,[]=>none
def dropC:Nat→List AV→Option (List AV)
 | 0,l=>some l
 | n+1,_::l=>dropC n l
 | _+1,[]=>none
def replC:List AV→List AV→Option (List AV)
 | l,[]=>some l
 | _::l,v::vs=>match replC l vs with
   | some r=>some (v::r)
   | none=>none
 | [],_::_=>none
 termination_by structural _ vs=>vs
def setC:List AV→Nat→List AV→Option (List AV)
 | l,0,vs=>replC l vs
 | x::l,n+1,vs=>match setC l n vs with
   | some r=>some (x::r)
   | none=>none
 | [],_+1,_=>none
 termination_by structural _ n _=>n
def zcd:List AV→Bool
 | []=>true
 | v::l=>match v.one with
   | true=>zcd l
   | false=>false
theorem takeC_cons (n:Nat) (x:AV) (l:List AV):takeC (n+1) (x::l)=(takeC n l).map (x::·):=by
 simp only [takeC];cases takeC n l <;> rfl
theorem replC_cons (x v:AV) (l vs:List AV):replC (x::l) (v::vs)=(replC l vs).map (v::·):=by
 simp only [replC];cases replC l vs <;> rfl
theorem setC_cons (x:AV) (l:List AV) (n:Nat) (vs:List AV):setC (x::l) (n+1) vs=(setC l n vs).map (x::·):=by
 simp only [setC];cases setC l n vs <;> rfl
theorem takeC_eq:∀ (n:Nat) (l r:List AV),takeC n l=some r→l.take n=r∧r.length=n
 | 0,l,r,h=>by simp [takeC] at h;subst h;simp
 | n+1,[],r,h=>by simp [takeC] at h
 | n+1,x::l,r,h=>by
   simp only [takeC_cons,yba] at h
   obtain ⟨r',h1,rfl⟩:=h
   obtain ⟨h2,h3⟩:=takeC_eq n l r' h1
   simp [h2,h3]
theorem zc0:∀ (n:Nat) (l r:List AV),dropC n l=some r→l.drop n=r∧n+r.length=l.length
 | 0,l,r,h=>by simp [dropC] at h;subst h;simp
 | n+1,[],r,h=>by simp [dropC] at h
 | n+1,x::l,r,h=>by
   simp only [dropC] at h
   obtain ⟨h2,h3⟩:=zc0 n l r h
   exact ⟨by simp [h2],by simp;omega⟩
theorem replC_eq:∀ (l vs r:List AV),replC l vs=some r→r=vs++l.drop vs.length∧vs.length≤l.length
 | l,[],r,h=>by simp [replC] at h;subst h;simp
 | [],_::_,r,h=>by simp [replC] at h
 | x::l,v::vs,r,h=>by
   simp only [replC_cons,yba] at h
   obtain ⟨r',h1,rfl⟩:=h
   obtain ⟨h2,h3⟩:=replC_eq l vs r' h1
   exact ⟨by simp [h2],by simp;omega⟩
theorem setC_eq:∀ (l:List AV) (n:Nat) (vs r:List AV),setC l n vs=some r→r=l.take n++vs++l.drop (n+vs.length)∧n+vs.length≤l.length
 | l,0,vs,r,h=>by
   simp only [setC] at h
   obtain ⟨h2,h3⟩:=replC_eq l vs r h
   exact ⟨by simp [h2],by omega⟩
 | [],n+1,vs,r,h=>by simp [setC] at h
 | x::l,n+1,vs,r,h=>by
   simp only [setC_cons,yba] at h
   obtain ⟨r',h1,rfl⟩:=h
   obtain ⟨h2,h3⟩:=setC_eq l n vs r' h1
   refine ⟨?_,by simp;omega⟩
   rw [h2,show n+1+vs.length=(n+vs.length)+1 by omega]
   simp
theorem zcq:∀ (l:List AV),zcd l=true→∀ v∈l,v.one=true
 | [],_,v,hv=>by cases hv
 | x::l,h,v,hv=>by
   simp only [zcd] at h
   split at h
   ·rename_i hx
    cases hv with
    | head=>exact hx
    | tail _ hm=>exact zcq l h v hm
   ·cases h
section
variable {g:G} {w:World}
theorem VRel.one {v:AV} {c:Value} (h:VRel g w v c) (h1:v.one=true):c.oneCell'=true:=by
 cases v <;> simp [AV.one] at h1 <;> simp only [VRel] at h
 case bool=>subst h;rfl
 case int=>subst h;rfl
 case str=>subst h;rfl
 case nilp=>subst h;rfl
 case ptr=>obtain ⟨_,rfl⟩:=h;rfl
 case rptr=>obtain ⟨_,_,rfl,_⟩:=h;rfl
 case nilf=>subst h;rfl
 case clo=>obtain ⟨_,_,_,rfl,_⟩:=h;rfl
 case nili=>subst h;rfl
 case ifc=>obtain ⟨_,rfl,_⟩:=h;rfl
 case nils=>subst h;rfl
 case sl=>obtain ⟨_,_,rfl,_⟩:=h;rfl
 case sx=>obtain ⟨_,rfl,_⟩:=h;rfl
 case sk=>obtain ⟨_,_,rfl,_⟩:=h;rfl
 case rmp=>obtain ⟨_,_,_,rfl,_⟩:=h;rfl
 case ms=>obtain ⟨_,_,_,rfl⟩:=h;rfl
 case nilm=>subst h;rfl
 case mp=>obtain ⟨_,rfl⟩:=h;rfl
 case vs=>obtain ⟨_,_,_,_,rfl,_⟩:=h;rfl
 case vk=>obtain ⟨_,_,_,_,_,rfl,_⟩:=h;rfl
 case vp=>obtain ⟨_,_,_,rfl,_⟩:=h;rfl
theorem LRel.length:∀ {l:List AV} {cs:List Value},LRel g w l cs→cs.length=l.length
 | [],cs,h=>by simp only [LRel] at h;subst h;rfl
 | v::l,cs,h=>by
   simp only [LRel] at h
   obtain ⟨c,r,rfl,-,hr⟩:=h
   simp [LRel.length hr]
theorem LRel.get:∀ {l:List AV} {cs:List Value},LRel g w l cs→∀ {i:Nat} {v:AV},l[i]? = some v→∃ c,cs[i]? = some c∧VRel g w v c
 | [],_,_,i,v,hi=>by simp at hi
 | x::l,cs,h,i,v,hi=>by
   simp only [LRel] at h
   obtain ⟨c,r,rfl,hv,hr⟩:=h
   cases i with
   | zero=>simp at hi;subst hi;exact ⟨c,by simp,hv⟩
   | succ i=>simpa using hr.get (i:=i) (by simpa using hi)
theorem LRel.mk:∀ {l:List AV} {cs:List Value},cs.length=l.length→(∀ (i:Nat) v c,l[i]? = some v→cs[i]? = some c→VRel g w v c)→LRel g w l cs
 | [],cs,h,_=>by
   have:cs=[]:=ya3 (by simpa using h)
   subst this;simp [LRel]
 | v::l,[],h,_=>by simp at h
 | v::l,c::cs,h,hi=>by
   simp only [LRel]
   exact ⟨c,cs,rfl,hi 0 v c (by simp) (by simp),LRel.mk (by simpa using h) fun i u d hu hd=>hi (i+1) u d (by simpa using hu) (by simpa using hd)⟩
theorem LRel.append {l m:List AV} {cs ds:List Value} (h:LRel g w l cs) (k:LRel g w m ds):LRel g w (l++m) (cs++ds):=by
 refine LRel.mk (by simp [h.length,k.length]) fun i v c hv hc=>?_
 have hl:=h.length
 rcases yag i l.length with hi|hi
 ·rw [yaj hi] at hv
  rw [yaj (by omega)] at hc
  obtain ⟨c',h1,h2⟩:=h.get hv
  rw [h1] at hc;cases hc;exact h2
 ·rw [yam hi] at hv
  rw [yam (by omega)] at hc
  rw [hl] at hc
  obtain ⟨c',h1,h2⟩:=k.get hv
  rw [h1] at hc;cases hc;exact h2
theorem LRel.take {l:List AV} {cs:List Value} (h:LRel g w l cs) (n:Nat):LRel g w (l.take n) (cs.take n) :=
 LRel.mk (by simp [h.length]) fun i v c hv hc=>by
  rw [ybp] at hv hc
  split at hv
  ·rename_i hi
   simp only [hi,if_true] at hc
   obtain ⟨c',h1,h2⟩:=h.get hv
   rw [h1] at hc;cases hc;exact h2
  ·cases hv
theorem LRel.drop {l:List AV} {cs:List Value} (h:LRel g w l cs) (n:Nat):LRel g w (l.drop n) (cs.drop n) :=
 LRel.mk (by simp [h.length]) fun i v c hv hc=>by
  rw [yc2] at hv hc
  obtain ⟨c',h1,h2⟩:=h.get hv
  rw [h1] at hc;cases hc;exact h2
theorem LRel.one {l:List AV} {cs:List Value} (h:LRel g w l cs) (h1:∀ v∈l,v.one=true):∀ c∈cs,c.oneCell'=true:=by
 intro c hc
 obtain ⟨i,hi⟩:=ycn hc
 have hl:i<l.length:=by rw [← h.length];exact (yac.1 hi).1
 obtain ⟨c',h2,h3⟩:=h.get (yal hl)
 rw [h2] at hi;cases hi
 exact h3.one (h1 _ (List.getElem_mem hl))
theorem VRel.cells {v:AV} {c:Value} (h:VRel g w v c) (h1:v.one=true∨∃ l,v=.agg l):LRel g w v.cells c.cells.toList:=by
 rcases h1 with h1|⟨l,rfl⟩
 ·have hc:=h.one h1
  have e1:v.cells=[v]:=by cases v <;> simp_all [AV.one,AV.cells]
  have e2:c.cells.toList=[c]:=by cases c <;> simp_all [Value.oneCell',Value.cells]
  rw [e1,e2]
  simp only [LRel]
  exact ⟨c,[],rfl,h,rfl⟩
 ·simp only [VRel] at h
  obtain ⟨cs,rfl,hl⟩:=h
  exact hl
def CRel (g:G) (w:World) (l:List AV) (b o:Nat):Prop:=∀ (j:Nat) v,l[j]? = some v→∃ c,w.cell? ⟨b,o+j,none⟩=some c∧VRel g w v c
theorem MRel.at_:∀ {l:List AV} {b o:Nat},MRel g w l b o→∀ {j:Nat} {v:AV},l[j]? = some v→∃ c,w.cell? ⟨b,o+j,none⟩=some c∧VRel g w v c∧¬ g.own b (o+j)
 | [],_,_,_,j,v,hj=>by simp at hj
 | x::l,b,o,h,j,v,hj=>by
   simp only [MRel] at h
   obtain ⟨⟨c,h1,h2,h3⟩,h4⟩:=h
   cases j with
   | zero=>simp at hj;subst hj;exact ⟨c,by simpa using h1,h2,by simpa using h3⟩
   | succ j =>
     have:=h4.at_ (j:=j) (by simpa using hj)
     rwa [show o+1+j=o+(j+1) by omega] at this
theorem MRel.mk:∀ {l:List AV} {b o:Nat},(∀ (j:Nat) v,l[j]? = some v→∃ c,w.cell? ⟨b,o+j,none⟩=some c∧VRel g w v c∧¬ g.own b (o+j))→MRel g w l b o
 | [],_,_,_=>by simp [MRel]
 | x::l,b,o,h=>by
   simp only [MRel]
   refine ⟨by simpa using h 0 x (by simp),MRel.mk fun j v hj=>?_⟩
   have:=h (j+1) v (by simpa using hj)
   rwa [show o+(j+1)=o+1+j by omega] at this
theorem MRel.crel {l:List AV} {b o:Nat} (h:MRel g w l b o):CRel g w l b o:=fun _ _ hj=>by
 obtain ⟨c,h1,h2,-⟩:=h.at_ hj
 exact ⟨c,h1,h2⟩
theorem MRel.drop {l:List AV} {b o:Nat} (h:MRel g w l b o) (n:Nat):MRel g w (l.drop n) b (o+n) :=
 MRel.mk fun j v hj=>by
  rw [yc2] at hj
  have:=h.at_ hj
  rwa [show o+n+j=o+(n+j) by omega]
theorem MRel.take {l:List AV} {b o:Nat} (h:MRel g w l b o) (n:Nat):MRel g w (l.take n) b o :=
 MRel.mk fun j v hj=>by
  rw [ybp] at hj
  split at hj
  ·exact h.at_ hj
  ·cases hj
theorem MRel.front {l m:List AV} {b o:Nat} (h:MRel g w (l++m) b o):MRel g w l b o:=by
 have:=h.take l.length
 simpa using this
theorem crel_box {i o:Nat} {t:TypeId} {l:List AV} (h:BRel g w i (.box t l)):CRel g w (l.drop o) (g.blk i) o:=by
 intro j v hj
 obtain ⟨cs,h1,h2,-⟩:=h
 rw [yc2] at hj
 obtain ⟨c,h3,h4⟩:=h2.get hj
 exact ⟨c,cell_iff.2 ⟨cs,t,_,h1,by simpa using h3⟩,h4⟩
def aggK:TK→Bool
 | .st _|.arr _ _=>true
 | _=>false
def loadC (ti:TI) (l:List AV):Option AV:=match aggK ti.kind with
 | true=>(takeC ti.sz l).map .agg
 | false=>lget l 0
theorem tk_agg {P:Program} (d:TypeDesc):aggK (tkOf P d)=aggD d:=by cases d <;> rfl
theorem load_run {P:Program} {t:TypeId} {ti:TI} (ht:tiOf P t=some ti) {l:List AV} {b o:Nat} (hc:CRel g w l b o) {v:AV} (hl:loadC ti l=some v) :
  ∃ c,(loadVar t ⟨b,o,none⟩).run P w=.ok c w∧VRel g w v c:=by
 obtain ⟨d,i,h1,h2,h3,h4,-⟩:=zaj ht
 unfold loadC at hl
 rw [h3,tk_agg] at hl
 cases hd:aggD d with
 | false =>
   rw [hd] at hl
   simp only [za9] at hl
   obtain ⟨c,h5,h6⟩:=hc 0 v hl
   refine ⟨c,?_,h6⟩
   have ha:=isAgg_run h1 w
   rw [hd] at ha
   simp only [yby] at h5
   simp [loadVar,ha,Go.load,Sem.run,h5]
 | true =>
   rw [hd] at hl
   simp only [yba] at hl
   obtain ⟨l',h5,rfl⟩:=hl
   obtain ⟨h6,h7⟩:=takeC_eq _ _ _ h5
   have ha:=isAgg_run h1 w
   rw [hd] at ha
   -- the cells
   have hex:∀ j,∃ c,j<ti.sz→(w.cell? ⟨b,o+j,none⟩=some c∧∀ v,l'[j]? = some v→VRel g w v c):=by
    intro j
    by_cases hj:j<ti.sz
    ·have hj':j<l'.length:=by omega
     have hlj:l[j]? = some l'[j]:=by
      have:l'[j]? = some l'[j]:=yal hj'
      rw [← this,← h6,ybp,if_pos hj]
     obtain ⟨c,h8,h9⟩:=hc j _ hlj
     refine ⟨c,fun _=>⟨h8,fun v hv=>?_⟩⟩
     rw [yal hj'] at hv
     cases hv;exact h9
    ·exact ⟨default,fun h=>absurd h hj⟩
   obtain ⟨f,hf⟩:=Classical.axiomOfChoice hex
   have hrun:=run_loadCells (P:=P) w ⟨b,o,none⟩ ti.sz f (fun j hj=>by
    rw [Addr.add_lit];exact (hf j hj).1)
   refine ⟨.agg ((List.range ti.sz).map f).toArray,?_,?_⟩
   ·simp [loadVar,ha,za2 h2,← h4,hrun]
   ·simp only [VRel]
    refine ⟨_,rfl,LRel.mk (by simp [h7]) fun j v c hv hc'=>?_⟩
    have hj:j<ti.sz:=by rw [← h7];exact (yac.1 hv).1
    have:c=f j:=by
     simp only [ya7,yc8 hj,ybb,yad] at hc'
     exact hc'.symm
    subst this
    exact (hf j hj).2 v hv
end
end
section
theorem hao (w:World) (o:Obj) {r:Nat} (h:r<w.heap.size):(w.alloc o).heap[r]? = w.heap[r]? := by
 first
 | exact heap_alloc_old w o h
 | exact heap_alloc_old w o r h
theorem zbe [Glob] {hp:Hp} {g:G} {w:World} (h:HRel g w hp):hp.all.length=g.n:=by simp [Hp.all,h.n,h.k]
theorem at_lt [Glob] {hp:Hp} {g:G} {w:World} (h:HRel g w hp) {i:Nat} {B:Blk} (ha:At hp i B):i<g.n:=by
 rw [← zbe h]
 exact (yac.1 ha).1
theorem at_ok [Glob] {hp:Hp} {g:G} {w:World} (h:HRel g w hp) {i:Nat} {B:Blk} (ha:At hp i B) (hB:B≠.dead):g.ok i :=
 ⟨at_lt h ha,fun hp'=>hB (by have:=h.pend i hp';unfold At at ha;rw [this] at ha;cases ha;rfl)⟩
section
variable {g g':G} {w w':World} {hp:Hp}
theorem BRel.loc_lt {i:Nat} {B:Blk} (h:BRel g w i B) {b:Nat} (hl:locs g i B=some b):b<w.heap.size:=by
 cases B with
 | box t l =>
   obtain ⟨cs,h1,-⟩:=h
   simp only [locs,yad] at hl
   subst hl
   exact zbc h1
 | tok e sz len =>
   obtain ⟨-,-,h|⟨b',cs,h1,h2,-⟩⟩:=h
   ·simp [locs,h.1] at hl
   ·simp only [locs,h1,yad] at hl
    subst hl
    exact zbc h2
 | mp ks vs =>
   obtain ⟨es,clk,h1,-⟩:=h
   simp only [locs,yad] at hl
   subst hl
   exact zbc h1
 | loop st jp env L =>
   obtain ⟨⟨r,h1,-⟩,-⟩:=h
   simp only [locs,yad] at hl
   subst hl
   exact zbc h1
 | it src n seen =>
   obtain ⟨⟨b',a,h1,-⟩,-⟩:=h
   simp only [locs,yad] at hl
   subst hl
   exact zbc h1
 | vec e sz l =>
   obtain ⟨-,-,h|⟨b',cs,h1,h2,-⟩⟩:=h
   ·simp [locs,h.1] at hl
   ·simp only [locs,h1,yad] at hl
    subst hl
    exact zbc h2
 | dead=>simp [locs] at hl
theorem BRel.keepV {i:Nat} {B:Blk} (h:BRel g w i B) (hx:ExtV g w g' w') (hi:B≠.dead→g.ok i) (hb:∀ b,locs g i B=some b→w'.heap[b]? = w.heap[b]?)
  (ht:g'.tk i=g.tk i) (ho:∀ b o,locs g i B=some b→g.own b o→g'.own b o):BRel g' w' i B:=by
 cases B with
 | box t l =>
   obtain ⟨cs,h1,h2,h3⟩:=h
   refine ⟨cs,?_,zcj hx _ _ h2,fun o=>?_⟩
   ·rw [hx.blk i (hi (by simp)),hb _ rfl,h1]
   ·rw [hx.blk i (hi (by simp))];exact ho _ _ rfl (h3 o)
 | tok e sz len =>
   obtain ⟨h1,h2,h3⟩:=h
   refine ⟨by rw [ht,h1],by rw [ht,h2],?_⟩
   rw [ht]
   rcases h3 with h3|⟨b,cs,h3,h4,h5,h6,h7,h8⟩
   ·exact .inl h3
   ·exact .inr ⟨b,cs,h3,by rw [hb b (by simp [locs,h3]),h4],h5,h6,h7,fun o hl=>ho _ _ (by simp [locs,h3]) (h8 o hl)⟩
 | mp ks vs =>
   obtain ⟨es,clk,h1,hbn,h2,h3,h4⟩:=h
   refine ⟨es,clk,?_,hbn,zcj hx _ _ h2,zcj hx _ _ h3,fun o=>?_⟩
   ·rw [hx.blk i (hi (by simp)),hb _ rfl,h1]
   ·rw [hx.blk i (hi (by simp))];exact ho _ _ rfl (h4 o)
 | loop st jp env L =>
   obtain ⟨⟨r,h1,h2,h3,h4,h5,h6,h7,h8⟩,h9⟩:=h
   refine ⟨⟨r,?_,h2,h3,h4,h5,h6,h7,fun s=>zc5 hx _ _ (h8 s)⟩,fun o=>?_⟩
   ·rw [hx.blk i (hi (by simp)),hb _ rfl,h1]
   ·rw [hx.blk i (hi (by simp))];exact ho _ _ rfl (h9 o)
 | it src n seen =>
   obtain ⟨⟨b,a,h1,h2,h3⟩,h4⟩:=h
   refine ⟨⟨b,a,?_,h2,zc5 hx _ _ h3⟩,fun o=>?_⟩
   ·rw [hx.blk i (hi (by simp)),hb _ rfl,h1]
   ·rw [hx.blk i (hi (by simp))];exact ho _ _ rfl (h4 o)
 | vec e sz l =>
   obtain ⟨h1,h2,h3⟩:=h
   refine ⟨by rw [ht,h1],by rw [ht,h2],?_⟩
   rw [ht]
   rcases h3 with h3|⟨b,cs,h3,h4,h5,h6,h7,h8,h9⟩
   ·exact .inl h3
   ·exact .inr ⟨b,cs,h3,by rw [hb b (by simp [locs,h3]),h4],h5,h6,h7,zcj hx _ _ h8,fun o=>ho _ _ (by simp [locs,h3]) (h9 o)⟩
 | dead=>trivial
theorem BRel.keep {i:Nat} {B:Blk} (h:BRel g w i B) (hx:Ext g w g' w') (hi:B≠.dead→g.ok i) (hb:∀ b,locs g i B=some b→w'.heap[b]? = w.heap[b]?)
  (ht:g'.tk i=g.tk i) (ho:∀ b o,locs g i B=some b→g.own b o→g'.own b o):BRel g' w' i B:=h.keepV hx.v hi hb ht ho
theorem locs_eq {i:Nat} {B:Blk} (hb:g'.blk i=g.blk i) (ht:g'.tk i=g.tk i):locs g' i B=locs g i B:=by
 cases B <;> simp [locs,hb,ht]
theorem zde {i:Nat} {B:Blk} (hx:Ext g w g' w') (hi:B≠.dead→g.ok i) (ht:g'.tk i=g.tk i):locs g' i B=locs g i B:=by
 cases B with
 | box t l=>simp [locs,hx.blk i (hi (by simp))]
 | tok e sz len=>simp [locs,ht]
 | mp ks vs=>simp [locs,hx.blk i (hi (by simp))]
 | loop st jp env L=>simp [locs,hx.blk i (hi (by simp))]
 | it src n seen=>simp [locs,hx.blk i (hi (by simp))]
 | vec e sz l=>simp [locs,ht]
 | dead=>rfl
theorem HRel.newObj [Glob] (h:HRel g w hp) {B:Blk} {x:Obj} (hloc:∀ (g:G) i,locs g i B=some (g.blk i))
  (hB:∀ g',g'.ok g.n→g'.blk g.n=w.heap.size→(∀ o,g'.own w.heap.size o)→Ext g w g' (w.alloc x)→BRel g' (w.alloc x) g.n B) :
  ∃ g',g'.ok g.n∧g'.blk g.n=w.heap.size∧HRel g' (w.alloc x) ⟨hp.base,hp.k+1,hp.loc++[B]⟩∧Ext g w g' (w.alloc x):=by
 let g':G:={ n:=g.n+1,blk:=fun i=>if i=g.n then w.heap.size else g.blk i,tk:=g.tk,own:=fun b o=>g.own b o∨b=w.heap.size,pend:=g.pend }
 have hok:∀ i,g.ok i→g'.ok i:=fun i hi=>⟨Nat.lt_succ_of_lt hi.1,hi.2⟩
 have hx:Ext g w g' (w.alloc x):=by
  refine ⟨yca _,fun _ _ h=>h,hok,fun i hi=>?_,fun _ _=>.inl rfl,fun b o hb ho=>?_,rfl,rfl,rfl,(by first|exact yax _|exact yca _|(simp;done)),by simp,fun b hb _=>hao w _ hb,fun b ds u fz hb=>⟨ds,?_,rfl,fun _ _=>rfl⟩⟩
  ·show (if i=g.n then w.heap.size else g.blk i)=_
   rw [if_neg (by have:=hi.1;omega)]
  ·rcases ho with ho|ho
   ·exact ho
   ·omega
  ·rw [hao w _ (zbc hb),hb]
 have hokn:g'.ok g.n:=⟨Nat.lt_succ_self _,fun hp'=>yc7 g.n (by have:=(yac.1 (h.pend _ hp')).1;rw [zbe h] at this;exact this)⟩
 have hblk:g'.blk g.n=w.heap.size:=by show (if g.n=g.n then w.heap.size else g.blk g.n)=_;simp
 have hall:(⟨hp.base,hp.k+1,hp.loc++[B]⟩:Hp).all=hp.all++[B]:=by simp [Hp.all]
 have hlen:=zbe h
 refine ⟨g',hokn,hblk,⟨?_,by simp [h.k],?_,?_,?_,?_,fun p hp'=>MRel.ext hx _ _ _ (h.glob p hp')⟩,hx⟩
 ·show g.n+1=_
  rw [h.n];simp [ydf]
 ·intro i C hi
  rw [hall] at hi
  rcases yag i hp.all.length with hlt|hge
  ·rw [yaj hlt] at hi
   have hC:=h.rel i C hi
   exact hC.keep hx (at_ok h hi) (fun b hb=>hao w _ (hC.loc_lt hb)) rfl (fun _ _ _ ho=>.inl ho)
  ·rw [yam hge] at hi
   have:i=hp.all.length:=by
    have:=(yac.1 hi).1
    simp at this;omega
   subst this
   simp at hi
   subst hi
   rw [hlen]
   exact hB g' hokn hblk (fun o=>.inr rfl) hx
 ·rintro b o (ho|ho)
  ·have:=h.lt b o ho
   simp;omega
  ·simp;omega
 ·intro i hi
  have:=h.pend i hi
  rw [hall,yaj (yac.1 this).1,this]
 ·intro i j C D b hi hj hbi hbj
  rw [hall] at hi hj
  have key:∀ (i:Nat) (C:Blk) (b:Nat),(hp.all++[B])[i]? = some C→locs g' i C=some b →
    (i<hp.all.length∧hp.all[i]? = some C∧locs g i C=some b∧b<w.heap.size)∨(i=hp.all.length∧b=w.heap.size):=by
   intro i C b hi hb
   rcases yag i hp.all.length with hlt|hge
   ·rw [yaj hlt] at hi
    rw [zde hx (at_ok h hi) rfl] at hb
    exact .inl ⟨hlt,hi,hb,(h.rel i C hi).loc_lt hb⟩
   ·rw [yam hge] at hi
    have:i=hp.all.length:=by
     have:=(yac.1 hi).1
     simp at this;omega
    subst this
    simp at hi
    subst hi
    refine .inr ⟨rfl,?_⟩
    rw [hloc,yad,hlen,hblk] at hb
    exact hb.symm
  rcases key i C b hi hbi with ⟨h1,h2,h3,h4⟩|⟨h1,h2⟩ <;> rcases key j D b hj hbj with ⟨k1,k2,k3,k4⟩|⟨k1,k2⟩
  ·exact h.inj i j C D b h2 k2 h3 k3
  ·omega
  ·omega
  ·omega
theorem HRel.newBox [Glob] (h:HRel g w hp) {t:TypeId} {l:List AV} {cs:Array Value} (hl:LRel g w l cs.toList) :
  ∃ g',g'.ok g.n∧g'.blk g.n=w.heap.size∧HRel g' (w.alloc (.cells cs t)) ⟨hp.base,hp.k+1,hp.loc++[.box t l]⟩∧Ext g w g' (w.alloc (.cells cs t)) :=
 h.newObj (fun _ _=>rfl) fun g' _ hb ho hx=>⟨cs,by rw [hb];exact heap_alloc_new w _,LRel.ext hx _ _ hl,fun o=>by rw [hb];exact ho o⟩
theorem HRel.newMap [Glob] (h:HRel g w hp) :
  ∃ g',g'.ok g.n∧g'.blk g.n=w.heap.size∧HRel g' (w.alloc (.map #[] 0)) ⟨hp.base,hp.k+1,hp.loc++[.mp [] []]⟩∧Ext g w g' (w.alloc (.map #[] 0)) :=
 h.newObj (fun _ _=>rfl) fun g' _ hb ho hx=>⟨#[],0,by rw [hb];exact heap_alloc_new w _,⟨rfl,fun j e he=>by simp at he⟩,by simp [LRel],by simp [LRel],fun o=>by rw [hb];exact ho o⟩
theorem Ext.fresh (g:G) (w:World) (o:Obj):Ext g w g (w.alloc o) :=
 ⟨yax _,fun _ _ h=>h,fun _ h=>h,fun _ _=>rfl,fun _ _=>.inl rfl,fun _ _ _ h=>h,rfl,rfl,rfl,(by first|exact yax _|exact yca _|(simp;done)),by simp,fun b hb _=>hao w _ hb,fun b ds u fz hb=>⟨ds,by rw [hao w _ (zbc hb),hb],rfl,fun _ _=>rfl⟩⟩
theorem HRel.keepAll [Glob] (h:HRel g w hp) (hx:Ext g w g w') (hb:∀ b,b<w.heap.size→w'.heap[b]? = w.heap[b]?):HRel g w' hp :=
 ⟨h.n,h.k,fun i B hi=>(h.rel i B hi).keep hx (at_ok h hi) (fun b hl=>hb b ((h.rel i B hi).loc_lt hl)) rfl (fun _ _ _ ho=>ho),fun b o ho=>ybs (h.lt b o ho) hx.size,h.pend,h.inj,fun p hp'=>MRel.ext hx _ _ _ (h.glob p hp')⟩
theorem HRel.fresh [Glob] (h:HRel g w hp) (o:Obj):HRel g (w.alloc o) hp:=h.keepAll (Ext.fresh g w o) fun _ hb=>hao w _ hb
def snocC {α:Type}:List α→α→Option (List α)
 | [],y=>some [y]
 | x::l,y=>match snocC l y with
   | some r=>some (x::r)
   | none=>none
theorem snocC_cons {α:Type} (x:α) (l:List α) (y:α):snocC (x::l) y=(snocC l y).map (x::·):=by
 simp only [snocC];cases snocC l y <;> rfl
theorem zcx {α:Type}:∀ (l:List α) (y:α) (r:List α),snocC l y=some r→r=l++[y]
 | [],_,_,h=>by simp [snocC] at h;subst h;rfl
 | x::l,y,r,h=>by
   simp only [snocC_cons,yba] at h
   obtain ⟨r',h1,rfl⟩:=h
   rw [zcx l y r' h1];rfl
def lset {α:Type}:List α→Nat→α→Option (List α)
 | [],_,_=>none
 | x::l,n,v=>match n with
   | 0=>some (v::l)
   | m+1=>match lset l m v with
     | some r=>some (x::r)
     | none=>none
theorem lset_cons {α:Type} (x:α) (l:List α) (n:Nat) (v:α):lset (x::l) (n+1) v=(lset l n v).map (x::·):=by
 simp only [lset];cases lset l n v <;> rfl
theorem zd6 {α:Type}:∀ (l:List α) (n:Nat) (v:α) (r:List α),lset l n v=some r→r=l.set n v∧n<l.length
 | [],_,_,_,h=>by simp [lset] at h
 | x::l,0,v,r,h=>by simp [lset] at h;subst h;simp
 | x::l,n+1,v,r,h=>by
   simp only [lset_cons,yba] at h
   obtain ⟨r',h1,rfl⟩:=h
   obtain ⟨h2,h3⟩:=zd6 l n v r' h1
   exact ⟨by simp [h2],by simp;omega⟩
theorem zdx {α:Type}:∀ {l:List α} {n:Nat} {v:α},n<l.length→lset l n v=some (l.set n v)
 | [],_,_,h=>by simp at h
 | x::l,0,v,_=>rfl
 | x::l,n+1,v,h=>by
   simp only [List.length_cons] at h
   simp only [lset,zdx (l:=l) (n:=n) (v:=v) (by omega),List.set_cons_succ]
structure Put (hp:Hp) (i:Nat) (B:Blk) (hp':Hp):Prop where
 all:hp'.all=hp.all.set i B
 base:hp'.base.length=hp.base.length
 k:hp'.k=hp.k
 loc:hp'.loc.length=hp.loc.length
theorem zc8 {base:Heap} {k j:Nat} {loc loc':Heap} {B:Blk} (h:lset loc j B=some loc'):Put ⟨base,k,loc⟩ (base.length+j) B ⟨base,k,loc'⟩:=by
 obtain ⟨h1,h2⟩:=zd6 _ _ _ _ h
 subst h1
 refine ⟨?_,rfl,rfl,by simp⟩
 simp only [Hp.all]
 rw [yb0 _ _ (by omega)]
 simp
theorem zd1 {base:Heap} {k i:Nat} {loc:Heap} {B B':Blk} (h:base[i]? = some B'):Put ⟨base,k,loc⟩ i B ⟨base.set i B,k,loc⟩:=by
 have hl:=(yac.1 h).1
 refine ⟨?_,by simp,rfl,rfl⟩
 simp only [Hp.all]
 rw [ycm _ _ hl]
theorem HRel.storeBox [Glob] {P:Program} (h:HRel g w hp) {i o:Nat} {t:TypeId} {l vs l':List AV} {cs:List Value} {hp':Hp} (ha:At hp i (.box t l)) (hs:setC l o vs=some l') (hv:LRel g w vs cs)
  (h1:zcd vs=true) (hput:Put hp i (.box t l') hp') :
  ∃ w',(storeCells ⟨g.blk i,o,none⟩ cs).run P w=.ok () w'∧HRel g w' hp'∧Ext g w g w':=by
 obtain ⟨e1,e2⟩:=setC_eq _ _ _ _ hs
 obtain ⟨cur,hcur,hlr,hown⟩:=h.rel i _ ha
 have hlen:=hlr.length
 have hvl:=hv.length
 simp only [ych] at hlen
 have hrun:=run_storeCells_at P (g.blk i) o t cs 0 cur w hcur (by omega) (hv.one (zcq _ h1))
 simp only [yby] at hrun
 have hsize:(cur.toList.take o++cs++cur.toList.drop (o+cs.length)).length=cur.size:=by simp;omega
 generalize hnew:(cur.toList.take o++cs++cur.toList.drop (o+cs.length)).toArray=new at hrun
 have hns:new.size=cur.size:=by rw [← hnew];simpa using hsize
 have hheap:(w.setRow (g.blk i) new).heap[g.blk i]? = some (.cells new t (0,0)):=setRow_heap w _ cur _ t _ hcur
 have hother:∀ b,b≠g.blk i→(w.setRow (g.blk i) new).heap[b]? = w.heap[b]? := fun b hb=>setRow_other w _ b _ hb
 have hx:Ext g w g (w.setRow (g.blk i) new):=by
  refine ⟨yax _,fun _ _ h=>h,fun _ h=>h,fun _ _=>rfl,fun _ _=>.inl rfl,fun _ _ _ h=>h,rfl,rfl,rfl,(by first|exact yax _|exact yca _|(simp;done)),by simp,fun b _ ho=>hother b (fun e=>ho 0 (e▸hown 0)),fun b ds u fz hb=>?_⟩
  by_cases hbi:b=g.blk i
  ·subst hbi
   rw [hcur] at hb
   cases hb
   exact ⟨new,hheap,hns,fun o' ho=>absurd (hown o') ho⟩
  ·exact ⟨ds,by rw [hother b hbi,hb],rfl,fun _ _=>rfl⟩
 refine ⟨_,hrun,⟨by rw [hput.base,hput.k,h.n],by rw [hput.loc,hput.k,h.k],?_,fun b o ho=>by simpa using h.lt b o ho,fun j hj=>?_,?_,fun p hp'=>MRel.ext hx _ _ _ (h.glob p hp')⟩,hx⟩
 ·intro j B hj
  rw [hput.all,yaw] at hj
  by_cases hij:i=j
  ·subst hij
   simp only [if_true] at hj
   split at hj
   ·cases hj
    refine ⟨new,hheap,?_,hown⟩
    have hnl:new.toList=cur.toList.take o++cs++cur.toList.drop (o+cs.length):=by rw [← hnew]
    have h2:=LRel.ext hx _ _ (((hlr.take o).append hv).append (hlr.drop (o+vs.length)))
    rw [hnl,e1,hvl]
    exact h2
   ·cases hj
  ·rw [if_neg hij] at hj
   have hB:=h.rel j B hj
   refine hB.keep hx (at_ok h hj) (fun b hb=>hother b fun e=>?_) rfl (fun _ _ _ ho=>ho)
   subst e
   exact hij (h.inj i j _ _ _ ha hj rfl hb)
 ·have hd:=h.pend j hj
  rw [hput.all,yaw,if_neg (fun e=>by subst e;unfold At at ha;rw [hd] at ha;cases ha),hd]
 ·intro j1 j2 B C b hj1 hj2 hb1 hb2
  rw [hput.all,yaw] at hj1 hj2
  have key:∀ (j:Nat) (B:Blk),(if i=j then if i<hp.all.length then some (Blk.box t l') else none else hp.all[j]?)=some B→locs g j B=some b→∃ B',hp.all[j]? = some B'∧locs g j B'=some b:=by
   intro j B hj hb
   by_cases hij:i=j
   ·subst hij
    simp only [if_true] at hj
    split at hj
    ·cases hj
     exact ⟨_,ha,hb⟩
    ·cases hj
   ·rw [if_neg hij] at hj
    exact ⟨B,hj,hb⟩
  obtain ⟨B',f1,f2⟩:=key j1 B hj1 hb1
  obtain ⟨C',f3,f4⟩:=key j2 C hj2 hb2
  exact h.inj j1 j2 B' C' b f1 f3 f2 f4
theorem HRel.setObj [Glob] (h:HRel g w hp) {i:Nat} {B B':Blk} {x x':Obj} {hp':Hp} (ha:At hp i B) (hl:locs g i B=some (g.blk i)) (hl':locs g i B'=some (g.blk i)) (hx0:w.heap[g.blk i]? = some x) (hnc:∀ cs t fz,x≠.cells cs t fz)
  (ho:∀ o,g.own (g.blk i) o) (hput:Put hp i B' hp') (hB:Ext g w g (w.putObj (g.blk i) x')→BRel g (w.putObj (g.blk i) x') i B') :
  HRel g (w.putObj (g.blk i) x') hp'∧Ext g w g (w.putObj (g.blk i) x'):=by
 have hother:∀ b,b≠g.blk i→(w.putObj (g.blk i) x').heap[b]? = w.heap[b]? := fun b hb=>World.putObj_heap_other hb
 have hx:Ext g w g (w.putObj (g.blk i) x'):=by
  refine ⟨yax _,fun _ _ h=>h,fun _ h=>h,fun _ _=>rfl,fun _ _=>.inl rfl,fun _ _ _ h=>h,rfl,rfl,rfl,(by first|exact yax _|exact yca _|(simp;done)),by simp,fun b _ ho'=>hother b (fun e=>ho' 0 (e▸ho 0)),fun b ds u fz hb=>?_⟩
  by_cases hbi:b=g.blk i
  ·subst hbi
   rw [hx0] at hb
   cases hb
   exact (hnc _ _ _ rfl).elim
  ·exact ⟨ds,by rw [hother b hbi,hb],rfl,fun _ _=>rfl⟩
 refine ⟨⟨by rw [hput.base,hput.k,h.n],by rw [hput.loc,hput.k,h.k],?_,fun b o ho=>by simpa using h.lt b o ho,fun j hj=>?_,?_,fun p hp'=>MRel.ext hx _ _ _ (h.glob p hp')⟩,hx⟩
 ·intro j C hj
  rw [hput.all,yaw] at hj
  by_cases hij:i=j
  ·subst hij
   simp only [if_true] at hj
   split at hj
   ·cases hj
    exact hB hx
   ·cases hj
  ·rw [if_neg hij] at hj
   have hC:=h.rel j C hj
   refine hC.keep hx (at_ok h hj) (fun b hb=>hother b fun e=>?_) rfl (fun _ _ _ ho=>ho)
   subst e
   exact hij (h.inj i j _ _ _ ha hj hl hb)
 ·have hd:=h.pend j hj
  rw [hput.all,yaw,if_neg (fun e=>by subst e;unfold At at ha;rw [hd] at ha;cases ha;simp [locs] at hl),hd]
 ·intro j1 j2 C D b hj1 hj2 hb1 hb2
  rw [hput.all,yaw] at hj1 hj2
  have key:∀ (j:Nat) (C:Blk),(if i=j then if i<hp.all.length then some B' else none else hp.all[j]?)=some C→locs g j C=some b→∃ C',hp.all[j]? = some C'∧locs g j C'=some b:=by
   intro j C hj hb
   by_cases hij:i=j
   ·subst hij
    simp only [if_true] at hj
    split at hj
    ·cases hj
     rw [hl'] at hb
     exact ⟨_,ha,by rw [hl];exact hb⟩
    ·cases hj
   ·rw [if_neg hij] at hj
    exact ⟨C,hj,hb⟩
  obtain ⟨C',f1,f2⟩:=key j1 C hj1 hb1
  obtain ⟨D',f3,f4⟩:=key j2 D hj2 hb2
  exact h.inj j1 j2 C' D' b f1 f3 f2 f4
end
end
section
section
variable {P:Program} {N:FN} {env:Env} {hp hp':Hp} {o:Oper} {T:TypeId→Option TI}
theorem st_fgt [Glob] (hT:TOk P T) {t:TypeId} {ti:TI} {z:List AV} (ho:o.op=.alloc t) (ht:T t=some ti) (hz:ti.zero=some z):Step P N hp env o .junk hp:=by
 intro g w a hH hE
 obtain ⟨d,i,h1,h2,h3,h4,h5,h6⟩:=zaj (hT _ _ ht)
 rw [hz] at h6
 cases hiz:i.zero with
 | none=>rw [hiz] at h6;cases h6
 | some zv =>
 refine ⟨.pointer (some ⟨w.heap.size,0,none⟩),g,w.alloc (.cells zv.cells t),?_,hH.fresh _,by simp [VRel],Ext.fresh g w _⟩
 simp [execOp,ho,Instr.alloc,zeroValue,typeInfo,h2,hiz,newVar,newRow]
theorem st_load [Glob] (hT:TOk P T) {t u:TypeId} {x:Operand} {ti:TI} {i k:Nat} {l l':List AV} {v:AV} (ho:o.op=.load t x) (ht:T t=some ti) (hx:ev env x=.ptr i k)
  (ha:At hp i (.box u l)) (hd:dropC k l=some l') (hv:loadC ti l'=some v):Step P N hp env o v hp :=
 Step.pure fun g w a hH hE=>by
  have hr:=zar hE x
  rw [hx] at hr
  simp only [VRel] at hr
  obtain ⟨hd1,-⟩:=zc0 _ _ _ hd
  have hc:=crel_box (o:=k) (hH.rel i _ ha)
  rw [hd1] at hc
  obtain ⟨c,h1,h2⟩:=load_run (hT _ _ ht) hc hv
  exact ⟨c,by simp [execOp,ho,hr.2,Instr.loadAt,Instr.sureAddr,h1],h2⟩
theorem st_load_r [Glob] (hT:TOk P T) {t:TypeId} {x:Operand} {ti:TI} {l:List AV} {v:AV} (ho:o.op=.load t x) (ht:T t=some ti) (hx:ev env x=.rptr l)
  (hv:loadC ti l=some v):Step P N hp env o v hp :=
 Step.pure fun g w a hH hE=>by
  have hr:=zar hE x
  rw [hx] at hr
  simp only [VRel] at hr
  obtain ⟨b,o',hc,hm⟩:=hr
  obtain ⟨c,h1,h2⟩:=load_run (hT _ _ ht) hm.crel hv
  exact ⟨c,by simp [execOp,ho,hc,Instr.loadAt,Instr.sureAddr,h1],h2⟩
theorem st_store [Glob] (hT:TOk P T) {t u:TypeId} {x y:Operand} {ti:TI} {i k:Nat} {l l' vs:List AV} {v:AV} (ho:o.op=.store t x y) (ht:T t=some ti) (hx:ev env x=.ptr i k)
  (ha:At hp i (.box u l)) (hy:ev env y=v) (hc:v.cells=vs) (h1:zcd vs=true) (hsz:Nat.beq vs.length ti.sz=true) (hs:setC l k vs=some l') (hput:Put hp i (.box u l') hp') :
  StepU P N hp env o hp':=by
 intro g w a hH hE
 have hr:=zar hE x
 rw [hx] at hr
 simp only [VRel] at hr
 have hry:=zar hE y
 rw [hy] at hry
 have hone:v.one=true∨∃ l,v=.agg l:=by
  subst hc
  clear hry hy hs hsz
  cases v <;> simp_all [AV.one,AV.cells,zcd]
 have hl:=hry.cells hone
 rw [hc] at hl
 obtain ⟨d,i',e1,e2,e3,e4,-⟩:=zaj (hT _ _ ht)
 obtain ⟨w',f1,f2,f3⟩:=hH.storeBox (P:=P) ha hs hl h1 hput
 refine ⟨g,w',?_,f2,f3⟩
 have hlen:=hl.length
 have hszz:(a.eval y).cells.size=i'.size:=by
  have:vs.length=ti.sz:=yap hsz
  rw [← e4,← this,← hlen];simp
 simp [execOp,ho,hr.2,Instr.storeAt,Instr.sureAddr,storeVar,za2 e2,hszz,f1]
theorem zen {b k:Nat} {f:Field} (w:World) (h:isz P f.type≠0):(fieldPlace ⟨b,k,none⟩ f).run P w=.ok ⟨b,k+f.offset,none⟩ w:=by
 unfold isz at h
 cases hi:P.info? f.type with
 | none=>simp [hi] at h
 | some i =>
   simp only [hi] at h
   simp [fieldPlace,za2 hi,h,Addr.add_lit]
theorem zcb {P:Program} {d:TypeDesc} {fs:List (TypeId×Nat×Nat×Bool)} (h:TK.st fs=tkOf P d):∃ fields:Array Field,d=.struct fields∧fs=fields.toList.map fun f=>(f.type,f.offset,isz P f.type,f.name == "_"):=by
 cases d <;> simp [tkOf] at h
 exact ⟨_,rfl,h⟩
theorem st_fieldAddr [Glob] (hT:TOk P T) {s:TypeId} {x:Operand} {f:Nat} {ti:TI} {fs:List (TypeId×Nat×Nat×Bool)} {ft off sz:Nat} {bl:Bool} {i k:Nat} (ho:o.op=.fieldAddr s x f) (ht:T s=some ti)
  (hk:ti.kind=.st fs) (hf:lget fs f=some (ft,off,sz+1,bl)) (hx:ev env x=.ptr i k):Step P N hp env o (.ptr i (k+off)) hp :=
 Step.pure fun g w a hH hE=>by
  have hr:=zar hE x
  rw [hx] at hr
  simp only [VRel] at hr
  obtain ⟨d,i',e1,e2,e3,-⟩:=zaj (hT _ _ ht)
  rw [hk] at e3
  obtain ⟨fields,rfl,hfs⟩:=zcb e3
  rw [za9,hfs] at hf
  simp only [ya7,yba,yb7,ybw] at hf
  obtain ⟨fl,h1,-,h2,h3,-⟩:=hf
  have hp':=zen (P:=P) (b:=g.blk i) (k:=k) w (f:=fl) (by omega)
  refine ⟨.pointer (some ⟨g.blk i,k+off,none⟩),?_,by simp only [VRel,and_true];exact hr.1⟩
  simp [execOp,ho,hr.2,Instr.fieldAt,run_underlying e1,h1,Instr.sureAddr,hp',h2]
theorem st_fieldAddr_r [Glob] (hT:TOk P T) {s:TypeId} {x:Operand} {f:Nat} {ti:TI} {fs:List (TypeId×Nat×Nat×Bool)} {ft off sz:Nat} {bl:Bool} {l l':List AV} (ho:o.op=.fieldAddr s x f) (ht:T s=some ti)
  (hk:ti.kind=.st fs) (hf:lget fs f=some (ft,off,sz+1,bl)) (hx:ev env x=.rptr l) (hd:dropC off l=some l'):Step P N hp env o (.rptr l') hp :=
 Step.pure fun g w a hH hE=>by
  have hr:=zar hE x
  rw [hx] at hr
  simp only [VRel] at hr
  obtain ⟨b,k,hc,hm⟩:=hr
  obtain ⟨hd1,-⟩:=zc0 _ _ _ hd
  obtain ⟨d,i',e1,e2,e3,-⟩:=zaj (hT _ _ ht)
  rw [hk] at e3
  obtain ⟨fields,rfl,hfs⟩:=zcb e3
  rw [za9,hfs] at hf
  simp only [ya7,yba,yb7,ybw] at hf
  obtain ⟨fl,h1,-,h2,h3,-⟩:=hf
  have hp':=zen (P:=P) (b:=b) (k:=k) w (f:=fl) (by omega)
  refine ⟨.pointer (some ⟨b,k+off,none⟩),?_,?_⟩
  ·simp [execOp,ho,hc,Instr.fieldAt,run_underlying e1,h1,Instr.sureAddr,hp',h2]
  ·simp only [VRel]
   exact ⟨b,k+off,rfl,by rw [← hd1];exact hm.drop off⟩
theorem part_run {t:TypeId} {ti:TI} (ht:tiOf P t=some ti) {g:G} {w:World} {l:List AV} {cs:Array Value} (hl:LRel g w l cs.toList) {off:Nat} {l':List AV} (hd:l.drop off=l') {v:AV} (hv:loadC ti l'=some v) :
  ∃ c,(part t cs off).run P w=.ok c w∧VRel g w v c:=by
 obtain ⟨d,i,h1,h2,h3,h4,-⟩:=zaj ht
 unfold loadC at hv
 rw [h3,tk_agg] at hv
 have ha:=isAgg_run h1 w
 have hl':=hl.drop off
 rw [hd] at hl'
 cases hd':aggD d with
 | false =>
   rw [hd'] at hv ha
   simp only [za9] at hv
   obtain ⟨c,h5,h6⟩:=hl'.get hv
   simp only [yc2,yby,ybw] at h5
   exact ⟨c,by simp [part,ha,h5],h6⟩
 | true =>
   rw [hd'] at hv ha
   simp only [yba] at hv
   obtain ⟨l'',h5,rfl⟩:=hv
   obtain ⟨h6,h7⟩:=takeC_eq _ _ _ h5
   refine ⟨.agg (cs.extract off (off+i.size)),by simp [part,ha,za2 h2],?_⟩
   simp only [VRel]
   refine ⟨_,rfl,?_⟩
   have:=hl'.take ti.sz
   rw [h6] at this
   rw [Array.toList_extract,List.extract_eq_take_drop]
   rw [h4] at this
   simpa using this
theorem st_field [Glob] (hT:TOk P T) {s:TypeId} {x:Operand} {f:Nat} {ti fi:TI} {fs:List (TypeId×Nat×Nat×Bool)} {ft off sz:Nat} {bl:Bool} {l l':List AV} {v:AV} (ho:o.op=.field s x f) (ht:T s=some ti)
  (hk:ti.kind=.st fs) (hf:lget fs f=some (ft,off,sz,bl)) (hx:ev env x=.agg l) (hfi:T ft=some fi) (hd:dropC off l=some l') (hv:loadC fi l'=some v):Step P N hp env o v hp :=
 Step.pure fun g w a hH hE=>by
  have hr:=zar hE x
  rw [hx] at hr
  simp only [VRel] at hr
  obtain ⟨cs,hc,hm⟩:=hr
  obtain ⟨hd1,-⟩:=zc0 _ _ _ hd
  obtain ⟨d,i',e1,e2,e3,-⟩:=zaj (hT _ _ ht)
  rw [hk] at e3
  obtain ⟨fields,rfl,hfs⟩:=zcb e3
  rw [za9,hfs] at hf
  simp only [ya7,yba,yb7,ybw] at hf
  obtain ⟨fl,h1,h0,h2,h3,-⟩:=hf
  obtain ⟨c,h4,h5⟩:=part_run (hT _ _ hfi) hm hd1 hv
  refine ⟨c,?_,h5⟩
  simp [execOp,ho,hc,Instr.field,run_underlying e1,h1,asAgg,h0,h2,h4]
def Seg (l:List AV) (o:Nat) (l':List AV):Prop:=∃ r,l.drop o=l'++r
theorem seg_rfl {l l':List AV} {o:Nat} (h:dropC o l=some l'):Seg l o l':=⟨[],by simp [(zc0 _ _ _ h).1]⟩
theorem zfc [Glob] (hT:TOk P T) {t e:TypeId} {x y:Operand} {ti ei:TI} {n:Nat} {b p:Nat} {k:IntKind} {i:Int} (ho:o.op=.indexAddr t x y) (ht:T t=some ti)
  (hk:ti.kind=.arr n e) (he:T e=some ei) (hx:ev env x=.ptr b p) (hy:ev env y=.int k i) (h0:0≤i) (hn:i<n):Step P N hp env o (.ptr b (p+i.toNat * ei.sz)) hp :=
 Step.pure fun g w a hH hE=>by
  have hr:=zar hE x
  rw [hx] at hr
  simp only [VRel] at hr
  have hry:=zar hE y
  rw [hy] at hry
  simp only [VRel] at hry
  obtain ⟨d,i',e1,e2,e3,-⟩:=zaj (hT _ _ ht)
  rw [hk] at e3
  have hd:d=.array n e:=by cases d <;> simp [tkOf] at e3;rw [e3.1,e3.2]
  subst hd
  obtain ⟨d2,i2,f1,f2,f3,f4,-⟩:=zaj (hT _ _ he)
  refine ⟨.pointer (some ⟨g.blk b,p+i.toNat * ei.sz,none⟩),?_,by simp only [VRel,and_true];exact hr.1⟩
  simp [execOp,ho,hr.2,hry,Instr.indexAt,asIntOf,run_underlying e1,Instr.sureAddr,h0,hn,za2 f2,Addr.add_lit,f4]
theorem zgy [Glob] (hT:TOk P T) {t e:TypeId} {x y:Operand} {ti ei:TI} {n:Nat} {l l':List AV} {k:IntKind} {i:Int} (ho:o.op=.indexAddr t x y) (ht:T t=some ti)
  (hk:ti.kind=.arr n e) (he:T e=some ei) (hx:ev env x=.rptr l) (hy:ev env y=.int k i) (h0:0≤i) (hn:i<n) (hl:Seg l (i.toNat * ei.sz) l'):Step P N hp env o (.rptr l') hp :=
 Step.pure fun g w a hH hE=>by
  have hr:=zar hE x
  rw [hx] at hr
  simp only [VRel] at hr
  have hry:=zar hE y
  rw [hy] at hry
  simp only [VRel] at hry
  obtain ⟨b,p,hc,hm⟩:=hr
  obtain ⟨d,i',e1,e2,e3,-⟩:=zaj (hT _ _ ht)
  rw [hk] at e3
  have hd:d=.array n e:=by cases d <;> simp [tkOf] at e3;rw [e3.1,e3.2]
  subst hd
  obtain ⟨d2,i2,f1,f2,f3,f4,-⟩:=zaj (hT _ _ he)
  obtain ⟨r,hseg⟩:=hl
  refine ⟨.pointer (some ⟨b,p+i.toNat * ei.sz,none⟩),?_,?_⟩
  ·simp [execOp,ho,hc,hry,Instr.indexAt,asIntOf,run_underlying e1,Instr.sureAddr,h0,hn,za2 f2,Addr.add_lit,f4]
  ·simp only [VRel]
   refine ⟨b,_,rfl,?_⟩
   have:=hm.drop (i.toNat * ei.sz)
   rw [hseg] at this
   exact this.front
theorem st_len [Glob] (hT:TOk P T) {t e:TypeId} {x:Operand} {ti:TI} {tok:Option Nat} {n:Nat} {l:List AV} (ho:o.op=.call { callee:=.builtin .len,args:=#[x],argTypes:=#[t] }) (ht:T t=some ti)
  (hk:ti.kind=.sl e) (hx:ev env x=.sl tok n l):Step P N hp env o (.int .i64 n) hp :=
 Step.pure fun g w a hH hE=>by
  have hr:=zar hE x
  rw [hx] at hr
  simp only [VRel] at hr
  obtain ⟨A,cap,hc,-⟩:=hr
  obtain ⟨d,i',e1,e2,e3,-⟩:=zaj (hT _ _ ht)
  rw [hk] at e3
  have hd:d=.slice e:=by cases d <;> simp [tkOf] at e3;rw [e3]
  subst hd
  refine ⟨.int .i64 n,?_,by simp [VRel]⟩
  simp [execOp,ho,resolve,invoke,builtin,Builtin.len_,hc,run_underlying e1,goInt]
theorem st_len_nil [Glob] (hT:TOk P T) {t e:TypeId} {x:Operand} {ti:TI} (ho:o.op=.call { callee:=.builtin .len,args:=#[x],argTypes:=#[t] }) (ht:T t=some ti)
  (hk:ti.kind=.sl e) (hx:ev env x=.nils):Step P N hp env o (.int .i64 0) hp :=
 Step.pure fun g w a hH hE=>by
  have hr:=zar hE x
  rw [hx] at hr
  simp only [VRel] at hr
  obtain ⟨d,i',e1,e2,e3,-⟩:=zaj (hT _ _ ht)
  rw [hk] at e3
  have hd:d=.slice e:=by cases d <;> simp [tkOf] at e3;rw [e3]
  subst hd
  refine ⟨.int .i64 0,?_,by simp [VRel]⟩
  simp [execOp,ho,resolve,invoke,builtin,Builtin.len_,hr,run_underlying e1,goInt]
theorem st_len_str [Glob] (hT:TOk P T) {t:TypeId} {x:Operand} {ti:TI} {s:ByteArray} (ho:o.op=.call { callee:=.builtin .len,args:=#[x],argTypes:=#[t] }) (ht:T t=some ti)
  (hk:ti.kind=.str) (hx:ev env x=.str s):Step P N hp env o (.int .i64 s.size) hp :=
 Step.pure fun g w a hH hE=>by
  have hr:=zar hE x
  rw [hx] at hr
  simp only [VRel] at hr
  obtain ⟨d,i',e1,e2,e3,-⟩:=zaj (hT _ _ ht)
  rw [hk] at e3
  have hd:d=.string:=by cases d <;> simp [tkOf] at e3;rfl
  subst hd
  refine ⟨.int .i64 s.size,?_,by simp [VRel]⟩
  simp [execOp,ho,resolve,invoke,builtin,Builtin.len_,hr,run_underlying e1,goInt]
theorem st_min [Glob] {ts:Array TypeId} {x y:Operand} {k:IntKind} {m n:Int} (ho:o.op=.call { callee:=.builtin .min,args:=#[x,y],argTypes:=ts })
  (hx:ev env x=.int k m) (hy:ev env y=.int k n):Step P N hp env o (.int k (min m n)) hp :=
 Step.pure fun g w a hH hE=>by
  have h1:=zar hE x
  rw [hx] at h1
  have h2:=zar hE y
  rw [hy] at h2
  simp only [VRel] at h1 h2
  refine ⟨.int k (min m n),?_,by simp [VRel]⟩
  have:(if n<m then n else m)=min m n:=by omega
  simp [execOp,ho,resolve,invoke,builtin,Builtin.min_,h1,h2,Builtin.min2,this]
theorem st_max [Glob] {ts:Array TypeId} {x y:Operand} {k:IntKind} {m n:Int} (ho:o.op=.call { callee:=.builtin .max,args:=#[x,y],argTypes:=ts })
  (hx:ev env x=.int k m) (hy:ev env y=.int k n):Step P N hp env o (.int k (max m n)) hp :=
 Step.pure fun g w a hH hE=>by
  have h1:=zar hE x
  rw [hx] at h1
  have h2:=zar hE y
  rw [hy] at h2
  simp only [VRel] at h1 h2
  refine ⟨.int k (max m n),?_,by simp [VRel]⟩
  have:(if m<n then n else m)=max m n:=by omega
  simp [execOp,ho,resolve,invoke,builtin,Builtin.max_,h1,h2,Builtin.max2,this]
end
end
section
section
variable {P:Program} {N:FN} {env:Env} {hp hp':Hp} {o:Oper} {T:TypeId→Option TI}
def fillC (place:Nat→Option (Nat×Nat)) (cells:List AV):List (Nat×AV)→Option (List AV)
 | []=>some cells
 | (i,v)::rest=>match place i with
   | none=>none
   | some (off,size)=>match Nat.beq v.cells.length size with
     | true=>match setC cells off v.cells with
       | some cells'=>fillC place cells' rest
       | none=>none
     | false=>none
def ze5:AV→Bool
 | .agg _=>true
 | v=>v.one
theorem oneOrAgg_spec {v:AV} (h:ze5 v=true):v.one=true∨∃ l,v=.agg l:=by
 cases v <;> simp_all [ze5,AV.one]
theorem foldl_set (cs:Array Value):∀ (vs:List Value) (off k:Nat),k+off+vs.length≤cs.size →
  ((vs.zipIdx k).foldl (fun (a:Array Value) (x:Value×Nat)=>a.setIfInBounds (off+x.2) x.1) cs).toList=cs.toList.take (off+k)++vs++cs.toList.drop (off+k+vs.length):=by
 intro vs
 induction vs generalizing cs with
 | nil=>intro off k _;simp
 | cons v vs ih =>
   intro off k hk
   simp only [List.zipIdx_cons,ydi,List.length_cons] at hk ⊢
   rw [ih (cs.setIfInBounds (off+k) v) off (k+1) (by simp;omega)]
   simp only [Array.toList_setIfInBounds]
   have hlt:off+k<cs.toList.length:=by simp;omega
   rw [show off+(k+1)=(off+k)+1 by omega,List.take_set,List.drop_set_of_lt (by omega),ydj hlt]
   have h1:((cs.toList.take (off+k)++[cs.toList[off+k]]).set (off+k) v)=cs.toList.take (off+k)++[v]:=by
    have hl:(cs.toList.take (off+k)).length=off+k:=by simp;omega
    rw [yb0 _ _ (by omega),hl]
    simp
   rw [h1]
   simp only [ybe,yci]
   rw [show off+k+1+vs.length=off+k+(vs.length+1) by omega]
   rfl
theorem zhf {g:G} {w:World} {place:Nat→Option (Nat×Nat)}:∀ (parts:List (Nat×AV)) (vals:List (Nat×Value)) (l r:List AV) (cs:Array Value),
  (∀ p∈parts,ze5 p.2=true)→vals.length=parts.length→(∀ (j:Nat) p q,parts[j]? = some p→vals[j]? = some q→p.1=q.1∧VRel g w p.2 q.2)→LRel g w l cs.toList →
  fillC place l parts=some r→∃ cs',Instr.fill place cs vals=some cs'∧LRel g w r cs'.toList
 | [],vals,l,r,cs,_,hlen,_,hl,h=>by
   have:vals=[]:=ya3 (by simpa using hlen)
   subst this
   simp only [fillC,yad] at h
   subst h
   exact ⟨cs,rfl,hl⟩
 | (i,v)::parts,[],l,r,cs,_,hlen,_,_,_=>by simp at hlen
 | (i,v)::parts,(i',c)::vals,l,r,cs,hone,hlen,hrel,hl,h=>by
   obtain ⟨e1,e2⟩:=hrel 0 (i,v) (i',c) (by simp) (by simp)
   simp only at e1 e2
   subst e1
   simp only [fillC] at h
   cases hp:place i with
   | none=>simp [hp] at h
   | some os =>
   obtain ⟨off,size⟩:=os
   simp only [hp] at h
   cases hb:Nat.beq v.cells.length size with
   | false=>simp [hb] at h
   | true =>
   simp only [hb] at h
   cases hs:setC l off v.cells with
   | none=>simp [hs] at h
   | some l' =>
   simp only [hs] at h
   obtain ⟨f1,f2⟩:=setC_eq _ _ _ _ hs
   have hvc:=e2.cells (oneOrAgg_spec (hone (i,v) (by simp)))
   have hcl:=hvc.length
   have hll:=hl.length
   simp only [ych] at hcl hll
   have hsz:v.cells.length=size:=yap hb
   have hfold:=foldl_set cs c.cells.toList off 0 (by simp;omega)
   simp only [yby,ych] at hfold
   have hz:c.cells.zipIdx.foldl (fun cs (x:Value×Nat)=>cs.setIfInBounds (off+x.2) x.1) cs=(c.cells.toList.zipIdx 0).foldl (fun cs (x:Value×Nat)=>cs.setIfInBounds (off+x.2) x.1) cs:=by
    rw [← Array.foldl_toList]
    simp
   have hl':LRel g w l' (c.cells.zipIdx.foldl (fun cs (x:Value×Nat)=>cs.setIfInBounds (off+x.2) x.1) cs).toList:=by
    rw [hz,hfold,f1]
    have:=((hl.take off).append hvc).append (hl.drop (off+v.cells.length))
    rw [← hcl] at this ⊢
    exact this
   obtain ⟨cs',g1,g2⟩:=zhf parts vals l' r _ (fun p hp=>hone p (by simp [hp])) (by simpa using hlen)
    (fun j p q h1 h2=>hrel (j+1) p q (by simpa using h1) (by simpa using h2)) hl' h
   refine ⟨cs',?_,g2⟩
   have hn:(decide (c.cells.size≠size) || decide (off+c.cells.size > cs.size))=false:=by
    simp only [Bool.or_eq_false_iff,decide_eq_false_iff_not];omega
   simp only [Instr.fill,hp]
   rw [hn]
   exact g1
def zb7 [Glob] (env:Env):List (Nat×Operand)→List (Nat×AV)
 | []=>[]
 | (i,x)::l=>(i,ev env x)::zb7 env l
theorem zdo [Glob] (env:Env):∀ l:List (Nat×Operand),zb7 env l=l.map fun p=>(p.1,ev env p.2)
 | []=>rfl
 | (i,x)::l=>by simp [zb7,zdo env l]
def allOA:List (Nat×AV)→Bool
 | []=>true
 | (_,v)::l=>match ze5 v with
   | true=>allOA l
   | false=>false
theorem zfx:∀ (l:List (Nat×AV)),allOA l=true→∀ p∈l,ze5 p.2=true
 | [],_,p,hp=>by cases hp
 | (i,v)::l,h,p,hp=>by
   simp only [allOA] at h
   cases hv:ze5 v with
   | false=>simp [hv] at h
   | true =>
     simp only [hv] at h
     cases hp with
     | head=>exact hv
     | tail _ hm=>exact zfx l h p hm
theorem zg3 [Glob] {g:G} {w:World} {a:Act} (hE:ERel N g w env a) (parts:List (Nat×Operand)):∀ (j:Nat) p q,(zb7 env parts)[j]? = some p→(parts.map fun (p:Nat×Operand)=>(p.1,a.eval p.2))[j]? = some q→p.1=q.1∧VRel g w p.2 q.2:=by
 intro j p q h1 h2
 rw [zdo] at h1
 simp only [ya7,yba] at h1 h2
 obtain ⟨x,hx,rfl⟩:=h1
 obtain ⟨y,hy,rfl⟩:=h2
 rw [hx] at hy
 cases hy
 exact ⟨rfl,zar hE _⟩
def stPlace (fs:List (TypeId×Nat×Nat×Bool)) (i:Nat):Option (Nat×Nat):=(lget fs i).map fun f=>(f.2.1,f.2.2.1)
def zds (sz:Nat) (i:Nat):Option (Nat×Nat):=some (i * sz,sz)
theorem mapM_places (w:World):∀ (fields:List Field),(∀ f∈fields,(P.info? f.type).isSome=true)→(fields.mapM (fun f=>do pure (f.offset,← sizeOf f.type):Field→Sem (Nat×Nat))).run P w=.ok (fields.map fun f=>(f.offset,isz P f.type)) w
 | [],_=>by simp
 | f::fs,h=>by
   have hf:=h f (by simp)
   cases hi:P.info? f.type with
   | none=>simp [hi] at hf
   | some i =>
     have h1:(do pure (f.offset,← sizeOf f.type):Sem (Nat×Nat)).run P w=.ok (f.offset,isz P f.type) w:=by simp [za2 hi,isz,hi]
     rw [List.mapM_cons,Sem.run_bind,h1,Result.andThen_ok,Sem.run_bind,mapM_places w fs (fun x hx=>h x (by simp [hx]))]
     rfl
def zeb (P:Program) (t:TypeId):Bool:=match P.underlying t with
 | some (.struct fs)=>fs.toList.all fun f=>(P.info? f.type).isSome
 | _=>true
theorem st_build [Glob] (hT:TOk P T) {t:TypeId} {ti:TI} {fs:List (TypeId×Nat×Nat×Bool)} {parts:List (Nat×Operand)} {z l:List AV} (ho:o.op=.build t parts.toArray) (ht:T t=some ti)
  (hk:ti.kind=.st fs) (hz:ti.zero=some z) (hkn:zeb P t=true) (h1:allOA (zb7 env parts)=true) (hl:fillC (stPlace fs) z (zb7 env parts)=some l) :
  Step P N hp env o (.agg l) hp :=
 Step.pure fun g w a hH hE=>by
  obtain ⟨d,i,e1,e2,e3,e4,e5,e6⟩:=zaj (hT _ _ ht)
  rw [hk] at e3
  obtain ⟨fields,rfl,hfs⟩:=zcb e3
  rw [hz] at e6
  cases hiz:i.zero with
  | none=>rw [hiz] at e6;cases e6
  | some zv =>
  rw [hiz] at e6
  simp only [ybb,yad] at e6
  have hplace:(fun i=>(fields.toList.map fun f=>(f.offset,isz P f.type)).toArray[i]?)=stPlace fs:=by
   funext i
   simp [stPlace,za9,hfs,Option.map_map,Function.comp_def]
  obtain ⟨cs',f1,f2⟩:=zhf (g:=g) (w:=w) (place:=stPlace fs) (zb7 env parts) (parts.map fun p=>(p.1,a.eval p.2)) z l zv.cells (zfx _ h1) (by simp [zdo]) (zg3 hE parts)
   (by rw [e6];exact zej g w _) hl
  refine ⟨.agg cs',?_,by simp only [VRel];exact ⟨cs',rfl,f2⟩⟩
  have hkn':∀ f∈fields.toList,(P.info? f.type).isSome=true:=by
   simp only [zeb,e1,yao] at hkn
   exact hkn
  have hm:=mapM_places (P:=P) w fields.toList hkn'
  have hm':(fields.mapM (fun f=>do pure (f.offset,← sizeOf f.type):Field→Sem (Nat×Nat))).run P w=.ok (fields.toList.map fun f=>(f.offset,isz P f.type)).toArray w:=by
   rw [Array.mapM_eq_mapM_toList,Sem.run_map,hm]
   rfl
  have hfill:Instr.fill (fun x=>(fields.toList.map fun f=>(f.offset,isz P f.type)).toArray[x]?) zv.cells (parts.map fun p=>(p.1,a.eval p.2))=some cs':=by
   rw [hplace];exact f1
  unfold execOp
  simp only [ho]
  simp only [Instr.build,zeroValue,typeInfo,Sem.run_bind,run_program,Result.andThen_ok,e2,Sem.run_pure,hiz,run_underlying e1,hm']
  simp only [List.map_toArray,ydn,ya7,ybw] at hfill ⊢
  simp [hfill]
end
end
section
theorem MRel.list {g:G} {w:World}:∀ {l:List AV} {b o:Nat},MRel g w l b o→∃ cs:List Value,LRel g w l cs∧∀ (j:Nat) c,cs[j]? = some c→w.cell? ⟨b,o+j,none⟩=some c
 | [],b,o,_=>⟨[],by simp [LRel],by simp⟩
 | v::l,b,o,h=>by
   simp only [MRel] at h
   obtain ⟨⟨c,h1,h2,h3⟩,h4⟩:=h
   obtain ⟨cs,h5,h6⟩:=h4.list
   refine ⟨c::cs,by simp only [LRel];exact ⟨c,cs,rfl,h2,h5⟩,fun j d hj=>?_⟩
   cases j with
   | zero=>simp at hj;subst hj;simpa using h1
   | succ j =>
     have:=h6 j d (by simpa using hj)
     rwa [show o+1+j=o+(j+1) by omega] at this
section
variable {P:Program} {N:FN} {env:Env} {hp hp':Hp} {o:Oper} {T:TypeId→Option TI}
theorem zgq {w:World} {t ty e:TypeId} {i:TypeInfo} (ht:P.underlying t=some (.slice e)) (hi:P.info? e=some i) {A A2:Option Addr} {n cap c2:Nat} (hn:n≤cap) :
  (Builtin.append_ #[t,t] ty #[.slice A n cap,.slice A2 0 c2]).run P w=.ok (.slice A n cap) w:=by
 cases A <;> cases A2 <;> simp [Builtin.append_,run_underlying ht,sizeOf,typeInfo,hi,Builtin.lenOf,Builtin.firstCells,hn,storeCells,loadCells,loadCellsFrom]
theorem zb0 {i j:Nat} {B B':Blk} (hput:Put hp i B hp') (hj:hp'.all[j]? = some B'):(i=j∧B'=B)∨(i≠j∧hp.all[j]? = some B'):=by
 rw [hput.all,yaw] at hj
 by_cases hij:i=j
 ·subst hij
  simp only [if_true] at hj
  split at hj
  ·cases hj;exact .inl ⟨rfl,rfl⟩
  ·cases hj
 ·rw [if_neg hij] at hj
  exact .inr ⟨hij,hj⟩
theorem zga [Glob] {g:G} {w:World} {e k n len' sz cap' len:Nat} {l':List AV} {cur':Array Value} (hH:HRel g w hp) (hat:At hp k (.tok e (sz+1) len)) (hlen:len<len') (hl':l'.length=len')
  (hn:len'=n * (sz+1)) (hncap:n≤cap') (hcap':cap'≤maxLen) (hsize:cur'.size=cap' * (sz+1)) (hrel:LRel g w l' (cur'.toList.take len')) (hput:Put hp k (.tok e (sz+1) len') hp') :
  ∃ g',HRel g' (w.drew.alloc (.cells cur' e)) hp'∧VRel g' (w.drew.alloc (.cells cur' e)) (.sl (some k) n l') (.slice (some ⟨w.heap.size,0,none⟩) n cap')∧Ext g w g' (w.drew.alloc (.cells cur' e)):=by
 have hkn:=at_ok hH hat (by simp)
 obtain ⟨b1,b2,b3⟩:=hH.rel k _ hat
 let g':G:={ n:=g.n,blk:=g.blk,tk:=fun j=>if j=k then ⟨len',sz+1,cap',some w.heap.size⟩ else g.tk j,own:=fun b o=>g.own b o∨(b=w.heap.size∧len'≤o),pend:=g.pend }
 have htk:g'.tk k=⟨len',sz+1,cap',some w.heap.size⟩:=by show (if k=k then _ else _)=_;rw [if_pos rfl]
 have htk':∀ j,j≠k→g'.tk j=g.tk j:=fun j hj=>by show (if j=k then _ else _)=_;rw [if_neg hj]
 have hold:∀ b,b<w.heap.size→(w.drew.alloc (.cells cur' e)).heap[b]? = w.heap[b]? := fun b hb=>hao w.drew _ hb
 have hnew:(w.drew.alloc (.cells cur' e)).heap[w.heap.size]? = some (.cells cur' e):=heap_alloc_new w.drew _
 have hx:Ext g w g' (w.drew.alloc (.cells cur' e)):=by
  refine ⟨yax _,fun _ _ h=>h,fun _ h=>h,fun _ _=>rfl,fun j _=>?_,fun b o hb ho=>?_,rfl,rfl,rfl,(by first|exact yax _|exact yca _|(simp;done)),by simp,fun b hb _=>hold b hb,fun b ds u fz hb=>⟨ds,by rw [hold b (zbc hb),hb],rfl,fun _ _=>rfl⟩⟩
  ·by_cases hjk:j=k
   ·subst hjk
    right
    rw [htk,b1]
    exact ⟨hlen,b2.symm⟩
   ·exact .inl (htk' j hjk)
  ·rcases ho with ho|ho
   ·exact ho
   ·omega
 refine ⟨g',⟨by rw [hput.base,hput.k];exact hH.n,by rw [hput.loc,hput.k];exact hH.k,fun j B hj=>?_,fun b o ho=>?_,fun i hi=>by
  have hd:=hH.pend i hi
  rw [hput.all,yaw,if_neg (fun e=>by subst e;unfold At at hat;rw [hd] at hat;cases hat),hd],fun i j B C b hi hj hb hc=>?_,fun pp hpp=>MRel.ext hx _ _ _ (hH.glob pp hpp)⟩,?_,hx⟩
 ·rcases zb0 hput hj with ⟨rfl,rfl⟩|⟨hne,hj'⟩
  ·refine ⟨by rw [htk],by rw [htk],.inr ⟨w.heap.size,cur',by rw [htk],hnew,by rw [htk];exact hsize,by rw [htk];exact hcap',?_,fun o ho=>.inr ⟨rfl,ho⟩⟩⟩
   rw [hsize,hn]
   exact yb8 _ hncap
  ·have hB:=hH.rel j B hj'
   exact hB.keep hx (at_ok hH hj') (fun b hb=>hold b (hB.loc_lt hb)) (htk' j (ycq hne)) (fun _ _ _ ho=>.inl ho)
 ·rcases ho with ho|ho
  ·have:=hH.lt b o ho
   simp;omega
  ·simp;omega
 ·have key:∀ (j:Nat) (B:Blk) (b:Nat),hp'.all[j]? = some B→locs g' j B=some b→(j=k∧b=w.heap.size)∨(j≠k∧hp.all[j]? = some B∧locs g j B=some b∧b<w.heap.size):=by
    intro j B b hj hb
    rcases zb0 hput hj with ⟨rfl,rfl⟩|⟨hne,hj'⟩
    ·simp only [locs,htk,yad] at hb
     exact .inl ⟨rfl,hb.symm⟩
    ·rw [zde hx (at_ok hH hj') (htk' j (ycq hne))] at hb
     exact .inr ⟨ycq hne,hj',hb,(hH.rel j B hj').loc_lt hb⟩
  rcases key i B b hi hb with ⟨h1,h2⟩|⟨h1,h2,h3,h4⟩ <;> rcases key j C b hj hc with ⟨k1,k2⟩|⟨k1,k2,k3,k4⟩
  ·omega
  ·omega
  ·omega
  ·exact hH.inj i j B C b h2 k2 h3 k3
 ·simp only [VRel]
  refine ⟨_,cap',rfl,hncap,?_,fun t ht=>?_⟩
  ·refine .inr ⟨w.heap.size,0,rfl,MRel.mk fun j v hj=>?_⟩
   have hjl:j<len':=by rw [← hl'];exact (yac.1 hj).1
   obtain ⟨c,h1,h2⟩:=(LRel.ext hx _ _ hrel).get hj
   rw [ybp,if_pos hjl] at h1
   refine ⟨c,cell_iff.2 ⟨cur',e,_,hnew,by simpa using h1⟩,h2,?_⟩
   rintro (ho|⟨_,ho⟩)
   ·exact absurd (hH.lt _ _ ho) (yc7 _)
   ·omega
  ·cases ht
   refine ⟨hkn,by rw [htk,hl'];exact yax _,fun _=>?_⟩
   rw [htk]
   exact ⟨rfl,rfl,by rw [hl'];exact hn⟩
theorem append_room [Glob] {g:G} {w:World} {e k n len' sz cap len b:Nat} {l l':List AV} {cs cur':Array Value} (hH:HRel g w hp) (hat:At hp k (.tok e (sz+1) len)) (hlen:len<len') (hll:l.length=len) (hl':l'.length=len')
  (hn:len'=n * (sz+1)) (hncap:n≤cap) (hbase:(g.tk k).base=some b) (hcap:(g.tk k).cap=cap) (hheap:w.heap[b]? = some (.cells cs e (0,0))) (hsz:cur'.size=cs.size)
  (hpre:∀ o:Nat,o<len→cur'[o]? = cs[o]?) (hrel:LRel g w l' (cur'.toList.take len')) (hput:Put hp k (.tok e (sz+1) len') hp') :
  ∃ g',HRel g' (w.setRow b cur') hp'∧VRel g' (w.setRow b cur') (.sl (some k) n l') (.slice (some ⟨b,0,none⟩) n cap)∧Ext g w g' (w.setRow b cur'):=by
 have hkn:=at_ok hH hat (by simp)
 have hB0:=hH.rel k _ hat
 obtain ⟨b1,b2,b3⟩:=hB0
 obtain ⟨hsize,hcm,hspare⟩:cs.size=cap * (sz+1)∧cap≤maxLen∧∀ o,len≤o→g.own b o:=by
  rcases b3 with ⟨h,-⟩|⟨b',cs',h1,h2,h3,h4,-,h5⟩
  ·rw [hbase] at h;cases h
  ·rw [hbase] at h1;cases h1
   rw [hheap] at h2;cases h2
   exact ⟨by rw [h3,hcap],by rw [← hcap];exact h4,h5⟩
 let g':G:={ n:=g.n,blk:=g.blk,tk:=fun j=>if j=k then ⟨len',sz+1,cap,some b⟩ else g.tk j,own:=fun b' o=>g.own b' o∧¬ (b'=b∧o<len'),pend:=g.pend }
 have htk:g'.tk k=⟨len',sz+1,cap,some b⟩:=by show (if k=k then _ else _)=_;rw [if_pos rfl]
 have htk':∀ j,j≠k→g'.tk j=g.tk j:=fun j hj=>by show (if j=k then _ else _)=_;rw [if_neg hj]
 have hnew:(w.setRow b cur').heap[b]? = some (.cells cur' e (0,0)):=setRow_heap w b cs _ e _ hheap
 have hold:∀ b',b'≠b→(w.setRow b cur').heap[b']? = w.heap[b']? := fun b' hb=>setRow_other w b b' _ hb
 have hx:Ext g w g' (w.setRow b cur'):=by
  refine ⟨yax _,fun _ _ h=>h,fun _ h=>h,fun _ _=>rfl,fun j _=>?_,fun b' o hb ho=>ho.1,rfl,rfl,rfl,(by first|exact yax _|exact yca _|(simp;done)),by simp,fun b' hb ho=>hold b' fun e=>ho len (e▸hspare len (yax _)),fun b' ds u fz hb=>?_⟩
  ·by_cases hjk:j=k
   ·subst hjk
    right
    rw [htk,b1]
    exact ⟨hlen,b2.symm⟩
   ·exact .inl (htk' j hjk)
  ·by_cases hbb:b'=b
   ·subst hbb
    rw [hheap] at hb
    cases hb
    refine ⟨cur',hnew,hsz,fun o ho=>hpre o ?_⟩
    rcases yag o len with h|h
    ·exact h
    ·exact absurd (hspare o h) ho
   ·exact ⟨ds,by rw [hold b' hbb,hb],rfl,fun _ _=>rfl⟩
 refine ⟨g',⟨by rw [hput.base,hput.k];exact hH.n,by rw [hput.loc,hput.k];exact hH.k,fun j B hj=>?_,fun b' o ho=>by simpa using hH.lt b' o ho.1,fun i hi=>by
  have hd:=hH.pend i hi
  rw [hput.all,yaw,if_neg (fun e=>by subst e;unfold At at hat;rw [hd] at hat;cases hat),hd],fun i j B C b' hi hj hb hc=>?_,fun pp hpp=>MRel.ext hx _ _ _ (hH.glob pp hpp)⟩,?_,hx⟩
 ·rcases zb0 hput hj with ⟨rfl,rfl⟩|⟨hne,hj'⟩
  ·refine ⟨by rw [htk],by rw [htk],.inr ⟨b,cur',by rw [htk],hnew,by rw [htk,hsz];exact hsize,by rw [htk];exact hcm,?_,fun o ho=>⟨hspare o (by omega),by omega⟩⟩⟩
   rw [hsz,hsize,hn]
   exact yb8 _ hncap
  ·have hB:=hH.rel j B hj'
   have hdiff:∀ b',locs g j B=some b'→b'≠b:=fun b' hb e=>hne (hH.inj k j _ _ _ hat hj' (by simp only [locs];exact hbase) (e▸hb))
   exact hB.keep hx (at_ok hH hj') (fun b' hb=>hold b' (hdiff b' hb)) (htk' j (ycq hne)) (fun b' o hb ho=>⟨ho,fun h=>hdiff b' hb h.1⟩)
 ·have key:∀ (j:Nat) (B:Blk) (b':Nat),hp'.all[j]? = some B→locs g' j B=some b'→∃ B',hp.all[j]? = some B'∧locs g j B'=some b':=by
    intro j B b' hj hb
    rcases zb0 hput hj with ⟨rfl,rfl⟩|⟨hne,hj'⟩
    ·simp only [locs,htk,yad] at hb
     exact ⟨_,hat,by simp only [locs];rw [hbase,hb]⟩
    ·rw [zde hx (at_ok hH hj') (htk' j (ycq hne))] at hb
     exact ⟨B,hj',hb⟩
  obtain ⟨B',h1,h2⟩:=key i B b' hi hb
  obtain ⟨C',h3,h4⟩:=key j C b' hj hc
  exact hH.inj i j B' C' b' h1 h3 h2 h4
 ·simp only [VRel]
  refine ⟨_,cap,rfl,hncap,?_,fun t ht=>?_⟩
  ·refine .inr ⟨b,0,rfl,MRel.mk fun j v hj=>?_⟩
   have hjl:j<len':=by rw [← hl'];exact (yac.1 hj).1
   obtain ⟨c,h1,h2⟩:=(LRel.ext hx _ _ hrel).get hj
   rw [ybp,if_pos hjl] at h1
   exact ⟨c,cell_iff.2 ⟨cur',e,_,hnew,by simpa using h1⟩,h2,fun ho=>ho.2 ⟨rfl,by omega⟩⟩
  ·cases ht
   refine ⟨hkn,by rw [htk,hl'];exact yax _,fun _=>?_⟩
   rw [htk]
   exact ⟨rfl,rfl,by rw [hl'];exact hn⟩
theorem append_core [Glob] (hT:TOk P T) {g:G} {w:World} {t ty e:TypeId} {ti ei:TI} {z:List AV} {k n m sz:Nat} {tok2:Option Nat} {l l2:List AV} {c c2:Value}
  (hH:HRel g w hp) (ht:T t=some ti) (hk:ti.kind=.sl e) (he:T e=some ei) (hez:ei.zero=some z) (hesz:ei.sz=sz+1) (hzl:z.length=ei.sz)
  (hat:At hp k (.tok e (sz+1) l.length)) (hc:VRel g w (.sl (some k) n l) c) (hc2:VRel g w (.sl tok2 m l2) c2) (h1:zcd l2=true) (hl2:l2.length=m * (sz+1))
  (hbytes:(n+m) * ei.bytes≤140737488355328) (hmax:n+m≤maxLen) (hput:Put hp k (.tok e (sz+1) (l.length+l2.length)) hp') :
  ∃ c' g' w',(Builtin.append_ #[t,t] ty #[c,c2]).run P w=.ok c' w'∧HRel g' w' hp'∧VRel g' w' (.sl (some k) (n+m) (l++l2)) c'∧Ext g w g' w':=by
 obtain ⟨d,i0,e1,-,e3,-⟩:=zaj (hT _ _ ht)
 rw [hk] at e3
 have hd:d=.slice e:=by cases d <;> simp [tkOf] at e3;rw [e3]
 subst hd
 obtain ⟨d2,i,-,f2,-,f4,f5,f6⟩:=zaj (hT _ _ he)
 rw [hez] at f6
 cases hiz:i.zero with
 | none=>rw [hiz] at f6;cases f6
 | some zv =>
 rw [hiz] at f6
 simp only [ybb,yad] at f6
 have hzs:zv.cells.size=sz+1:=by
  have:(zv.cells.toList.map av1).length=sz+1:=by rw [← f6,hzl,hesz]
  simpa using this
 have hisz:i.size=sz+1:=by rw [← f4,hesz]
 have hc0:=hc
 simp only [VRel] at hc hc2
 obtain ⟨A,cap,rfl,hncap,hm,htok⟩:=hc
 obtain ⟨A2,cap2,rfl,-,hm2,-⟩:=hc2
 obtain ⟨hkn,hlle,hcur⟩:=htok k rfl
 obtain ⟨b1,b2,b3⟩:=hH.rel k _ hat
 obtain ⟨hA,hcap,hnl⟩:=hcur b1
 rw [b2] at hnl
 by_cases hm0:m=0
 ·subst hm0
  have hl20:l2=[]:=ya3 (by simpa using hl2)
  subst hl20
  refine ⟨_,g,w,zgq e1 f2 hncap,?_,by simpa using hc0,Ext.refl g w⟩
  have hall:hp'.all=hp.all:=by
   rw [hput.all]
   simp only [List.length_nil,yby]
   apply ybn
   intro j
   rw [yaw]
   by_cases hkj:k=j
   ·subst hkj
    simp only [if_true]
    have:k<hp.all.length:=(yac.1 hat).1
    rw [if_pos this]
    exact hat.symm
   ·rw [if_neg hkj]
  exact ⟨by rw [hput.base,hput.k,hH.n],by rw [hput.loc,hput.k,hH.k],by rw [hall];exact hH.rel,hH.lt,by rw [hall];exact hH.pend,by rw [hall];exact hH.inj,hH.glob⟩
 ·have hl2ne:l2≠[]:=by
    intro h0
    have hp0:0<m * (sz+1):=ycw (by omega) (by omega)
    rw [h0] at hl2
    simp only [List.length_nil] at hl2
    omega
  obtain ⟨s2,o2,rfl,hm2'⟩:=hm2.resolve_left hl2ne
  obtain ⟨news,hnews,hnc⟩:=hm2'.list
  have hnewsl:=hnews.length
  have hnl':l.length+l2.length=(n+m) * (sz+1):=by rw [hnl,hl2,yb4]
  have hl2pos:0<l2.length:=by rw [hl2];exact ycw (by omega) (by omega)
  have hnewsz:news.length=m * i.size:=by rw [hnewsl,hl2,hisz]
  have hnc':∀ (j:Nat) u,news[j]? = some u→w.cell? ((⟨s2,o2,none⟩:Addr).add j)=some u:=fun j u hu=>by rw [Addr.add_lit];exact hnc j u hu
  have h63:n+m≤9223372036854775807:=by simp only [maxLen] at hmax;omega
  have hgc:∀ old,n+m≤grownCap w (n+m) old e∧grownCap w (n+m) old e≤maxLen:=fun old=>⟨grownCap_ge w _ _ e,grownCap_le_maxLen w _ _ e hmax⟩
  have hcursz:∀ (xs:List Value) old,xs.length=l.length→(xs.toArray++news.toArray++Builtin.zeroCells zv.cells (grownCap w (n+m) old e-(n+m))).size=grownCap w (n+m) old e * (sz+1):=by
   intro xs old hxl
   simp only [ydl,ybm,size_zeroCells,hzs,hxl,hnewsl,hnl',← yb4]
   congr 1
   have:=(hgc old).1
   omega
  have hcurrel:∀ (xs:List Value) old,LRel g w l xs→LRel g w (l++l2) ((xs.toArray++news.toArray++Builtin.zeroCells zv.cells (grownCap w (n+m) old e-(n+m))).toList.take (l.length+l2.length)):=by
   intro xs old hxs
   have hxl:=hxs.length
   have:(xs.toArray++news.toArray++Builtin.zeroCells zv.cells (grownCap w (n+m) old e-(n+m))).toList.take (l.length+l2.length)=xs++news:=by
    simp only [yc9]
    rw [← hxl,← hnewsl,← ya5,yc6]
    simp
   rw [this]
   exact hxs.append hnews
  rcases b3 with ⟨hbase,hlen0,hcap0⟩|⟨b,cs,hbase,hheap,hsize,hcm,hlen,hspare⟩
  ·have hl0:l=[]:=ya3 hlen0
   subst hl0
   rw [hbase] at hA
   simp only [yc5] at hA
   subst hA
   have hn0:n=0:=by
    rcases yc1 n with h|h
    ·exact h
    ·have:=ycw h (show 0<sz+1 by omega)
     simp at hnl
     omega
   have hcap00:cap=0:=by omega
   subst hn0
   subst hcap00
   have hrun:=run_append_nil (P:=P) w t ty e i zv e1 f2 hiz ⟨s2,o2,none⟩ m cap2 news hnewsz hnc' (by omega) (by omega) (by
    have hb:=hbytes
    rw [f5] at hb
    simp only [ybr] at hb
    omega)
   have h0:=hgc 0
   simp only [ybr] at h0
   obtain ⟨g',h2,h3,h4⟩:=zga (n:=0+m) (cap':=grownCap w m 0 e) (cur':=#[]++news.toArray++Builtin.zeroCells zv.cells (grownCap w m 0 e-m)) (l':=[]++l2) hH hat (len':=[].length+l2.length) (by simpa using hl2pos) (by simp) (by simpa using hl2) (by simpa using h0.1) h0.2
    (by have:=hcursz [] 0 rfl;simpa using this) (by have:=hcurrel [] 0 (by simp [LRel]);simpa using this) hput
   refine ⟨_,g',_,hrun,?_,?_,?_⟩
   ·simpa using h2
   ·simpa using h3
   ·simpa using h4
  ·rw [hbase] at hA
   simp only [ybb] at hA
   subst hA
   have hml:MRel g w l b 0:=by
    rcases hm with rfl|⟨b',o',hbo,hm⟩
    ·simp [MRel]
    ·cases hbo;exact hm
   obtain ⟨xs,hxs,hxc⟩:=hml.list
   have hxl:=hxs.length
   by_cases hroom:n+m≤cap
   ·have hfit:n * i.size+news.length≤cs.size:=by
      rw [hnewsz,hsize,← hcap,← yb4,hisz]
      exact yb8 _ hroom
    have hrun:=run_append_room (P:=P) w t ty e i e1 f2 b n cap cs hheap ⟨s2,o2,none⟩ m cap2 news hnewsz hnc' (hnews.one (zcq _ h1)) hroom hfit
    have hni:n * i.size=l.length:=by rw [hisz,hnl]
    rw [hni] at hrun hfit
    have htk:cs.toList.take l.length=xs:=by
     apply ybn
     intro j
     rw [ybp]
     by_cases hj:j<l.length
     ·rw [if_pos hj]
      have hjx:j<xs.length:=by omega
      have:=hxc j xs[j] (yal hjx)
      obtain ⟨cs',t',fz',q3,q4⟩:=cell_iff.1 this
      rw [hheap] at q3
      cases q3
      simp only [ybr] at q4
      rw [yal hjx]
      simpa using q4
     ·rw [if_neg hj,ycg (by omega)]
    obtain ⟨g',h2,h3,h4⟩:=append_room (n:=n+m) (cap:=cap) (cur':=(cs.toList.take l.length++news++cs.toList.drop (l.length+news.length)).toArray) (l:=l) (l':=l++l2) hH hat (len':=l.length+l2.length) (by omega) rfl (by simp) hnl' hroom hbase hcap.symm hheap
     (by simp;omega) (fun o ho=>by
       simp only [ybe,ydn]
       rw [yaj (by simp;omega),ybp,if_pos ho]
       simp) (by
       have:(cs.toList.take l.length++news++cs.toList.drop (l.length+news.length)).take (l.length+l2.length)=xs++news:=by
        rw [htk,← hxl,← hnewsl,← ya5,yc6]
        simp
       simp only [this]
       exact hxs.append hnews) hput
    exact ⟨_,g',_,hrun,h2,h3,h4⟩
   ·have hrun:=run_append_grow (P:=P) w t ty e i zv e1 f2 hiz ⟨b,0,none⟩ n cap xs (by rw [hxl,hnl,hisz]) (fun j u hu=>by rw [Addr.add_lit];exact hxc j u hu) ⟨s2,o2,none⟩ m cap2 news hnewsz hnc' (by omega) (by omega) (growslice_fits (by omega) (by rw [← f5];exact hbytes))
    obtain ⟨g',h2,h3,h4⟩:=zga (n:=n+m) (cap':=grownCap w (n+m) cap e) (cur':=xs.toArray++news.toArray++Builtin.zeroCells zv.cells (grownCap w (n+m) cap e-(n+m))) (l':=l++l2) hH hat (len':=l.length+l2.length) (by omega) (by simp) hnl' (hgc cap).1 (hgc cap).2
     (hcursz xs cap hxl) (hcurrel xs cap hxs) hput
    exact ⟨_,g',_,hrun,h2,h3,h4⟩
end
end
section
section
variable {P:Program} {N:FN} {env:Env} {hp hp':Hp} {o:Oper} {T:TypeId→Option TI}
theorem HRel.nilTok [Glob] {g:G} {w:World} (h:HRel g w hp) (e:TypeId) (sz:Nat) :
  ∃ g',g'.ok g.n∧g'.tk g.n=⟨0,sz,0,none⟩∧HRel g' w ⟨hp.base,hp.k+1,hp.loc++[.tok e sz 0]⟩∧Ext g w g' w:=by
 let g':G:={ n:=g.n+1,blk:=g.blk,tk:=fun i=>if i=g.n then ⟨0,sz,0,none⟩ else g.tk i,own:=g.own,pend:=g.pend }
 have htk':∀ i,i<g.n→g'.tk i=g.tk i:=fun i hi=>by
  show (if i=g.n then _ else _)=_
  rw [if_neg (by omega)]
 have htk:g'.tk g.n=⟨0,sz,0,none⟩:=by show (if g.n=g.n then _ else _)=_;rw [if_pos rfl]
 have hnp:¬ g.pend g.n:=fun hp'=>yc7 g.n (by have:=(yac.1 (h.pend _ hp')).1;rw [zbe h] at this;exact this)
 have hx:Ext g w g' w:=⟨yca _,fun _ _ h=>h,fun i hi=>⟨Nat.lt_succ_of_lt hi.1,hi.2⟩,fun _ _=>rfl,fun i hi=>.inl (htk' i hi.1),fun _ _ _ h=>h,rfl,rfl,rfl,(by first|exact yax _|exact yca _|(simp;done)),yax _,fun _ _ _=>rfl,fun _ ds _ _ hb=>⟨ds,hb,rfl,fun _ _=>rfl⟩⟩
 have hlen:=zbe h
 have hall:(⟨hp.base,hp.k+1,hp.loc++[.tok e sz 0]⟩:Hp).all=hp.all++[.tok e sz 0]:=by simp [Hp.all]
 have key:∀ (i:Nat) (B:Blk),(hp.all++[.tok e sz 0])[i]? = some B→(i<g.n∧hp.all[i]? = some B)∨(i=g.n∧B=.tok e sz 0):=by
  intro i B hi
  rcases yag i hp.all.length with hlt|hge
  ·rw [yaj hlt] at hi
   exact .inl ⟨by omega,hi⟩
  ·rw [yam hge] at hi
   have h0:i=hp.all.length:=by
    have:=(yac.1 hi).1
    simp at this;omega
   subst h0
   simp at hi
   exact .inr ⟨hlen,hi.symm⟩
 refine ⟨g',⟨Nat.lt_succ_self _,hnp⟩,htk,⟨?_,by simp [h.k],?_,h.lt,fun i hi=>?_,?_,fun pp hpp=>MRel.ext hx _ _ _ (h.glob pp hpp)⟩,hx⟩
 ·show g.n+1=_
  rw [h.n];simp [ydf]
 ·intro i B hi
  rw [hall] at hi
  rcases key i B hi with ⟨h1,h2⟩|⟨rfl,rfl⟩
  ·exact (h.rel i B h2).keep hx (at_ok h h2) (fun _ _=>rfl) (htk' i h1) (fun _ _ _ ho=>ho)
  ·exact ⟨by rw [htk],by rw [htk],.inl ⟨by rw [htk],rfl,by rw [htk]⟩⟩
 ·have:=h.pend i hi
  rw [hall,yaj (yac.1 this).1,this]
 ·intro i j B C b hi hj hb hc
  rw [hall] at hi hj
  have hn:∀ (i:Nat) (B:Blk),(hp.all++[.tok e sz 0])[i]? = some B→locs g' i B=some b→hp.all[i]? = some B∧locs g i B=some b:=by
   intro i B hi hb
   rcases key i B hi with ⟨h1,h2⟩|⟨rfl,rfl⟩
   ·exact ⟨h2,by rw [← zde hx (at_ok h h2) (htk' i h1)];exact hb⟩
   ·simp [locs,htk] at hb
  obtain ⟨f1,f2⟩:=hn i B hi hb
  obtain ⟨f3,f4⟩:=hn j C hj hc
  exact h.inj i j B C b f1 f3 f2 f4
theorem HRel.tokBox [Glob] {i j:Nat} {bt e:TypeId} {sz:Nat} {l l':List AV} (ha:At hp i (.box bt l)) (hl:lget l j=some .nils) (hs:lset l j (.sl (some (hp.base.length+hp.k)) 0 [])=some l')
  (hput:Put ⟨hp.base,hp.k+1,hp.loc++[.tok e sz 0]⟩ i (.box bt l') hp') {g:G} {w:World} (hH:HRel g w hp):∃ g1,HRel g1 w hp'∧Ext g w g1 w:=by
 obtain ⟨g1,f1,f2,f3,f4⟩:=hH.nilTok e sz
 obtain ⟨e1,e2⟩:=zd6 _ _ _ _ hs
 rw [za9] at hl
 have hat':At ⟨hp.base,hp.k+1,hp.loc++[.tok e sz 0]⟩ i (.box bt l):=by
  have hall:(⟨hp.base,hp.k+1,hp.loc++[.tok e sz 0]⟩:Hp).all=hp.all++[.tok e sz 0]:=by simp [Hp.all]
  unfold At
  rw [hall,yaj (yac.1 ha).1]
  exact ha
 have hH':HRel g1 w hp':=by
  refine ⟨by rw [hput.base,hput.k];exact f3.n,by rw [hput.loc,hput.k];exact f3.k,fun k B hk=>?_,f3.lt,fun j hj=>?_,fun k1 k2 B C b hk1 hk2 hb1 hb2=>?_,f3.glob⟩
  ·rcases zb0 hput hk with ⟨rfl,rfl⟩|⟨-,hk'⟩
   ·obtain ⟨cs,h1,h2,h3⟩:=f3.rel i _ hat'
    refine ⟨cs,h1,?_,h3⟩
    rw [e1]
    refine LRel.mk (by simp [h2.length]) fun q v c hv hc=>?_
    rw [yaw] at hv
    by_cases hjq:j=q
    ·subst hjq
     simp only [if_true] at hv
     split at hv
     ·cases hv
      obtain ⟨c',q1,q2⟩:=h2.get hl
      rw [q1] at hc
      cases hc
      simp only [VRel] at q2
      subst q2
      simp only [VRel]
      refine ⟨none,0,rfl,yax _,.inl trivial,fun t ht=>?_⟩
      cases ht
      have e1:g1.tk (hp.base.length+hp.k)=⟨0,sz,0,none⟩:=by rw [← hH.n];exact f2
      refine ⟨by rw [← hH.n];exact f1,by simp,fun _=>?_⟩
      rw [e1]
      simp
     ·omega
    ·rw [if_neg hjq] at hv
     obtain ⟨c',q1,q2⟩:=h2.get hv
     rw [q1] at hc;cases hc;exact q2
   ·exact f3.rel k B hk'
  ·have hd:=f3.pend j hj
   rw [hput.all,yaw,if_neg (fun e=>by subst e;unfold At at hat';rw [hd] at hat';cases hat'),hd]
  ·have key:∀ (k:Nat) (B:Blk),hp'.all[k]? = some B→locs g1 k B=some b→∃ B',(⟨hp.base,hp.k+1,hp.loc++[.tok e sz 0]⟩:Hp).all[k]? = some B'∧locs g1 k B'=some b:=by
     intro k B hk hb
     rcases zb0 hput hk with ⟨rfl,rfl⟩|⟨-,hk'⟩
     ·exact ⟨_,hat',hb⟩
     ·exact ⟨B,hk',hb⟩
   obtain ⟨B',q1,q2⟩:=key k1 B hk1 hb1
   obtain ⟨C',q3,q4⟩:=key k2 C hk2 hb2
   exact f3.inj k1 k2 B' C' b q1 q3 q2 q4
 exact ⟨g1,hH',f4⟩
def repC:Nat→List AV→List AV
 | 0,_=>[]
 | n+1,z=>z++repC n z
theorem ze4 (z:List AV):∀ n,(repC n z).length=n * z.length
 | 0=>by simp [repC]
 | n+1=>by simp [repC,ze4 z n,yb4,Nat.add_comm]
theorem repC_get (z:List AV):∀ (n i:Nat),i<n * z.length→(repC n z)[i]? = z[i % z.length]?
 | 0,i,h=>by simp at h
 | n+1,i,h=>by
   simp only [repC]
   rcases yag i z.length with hi|hi
   ·rw [yaj hi,Nat.mod_eq_of_lt hi]
   ·rw [yam hi,repC_get z n (i-z.length) (by rw [yb4] at h;omega)]
    rw [Nat.mod_eq_sub_mod hi]
theorem zeros_rel {g:G} {w:World} {z:List AV} {zv:Array Value} (hz:LRel g w z zv.toList) (n:Nat):LRel g w (repC n z) ((Array.range (n * zv.size)).map (zv[· % zv.size]!)).toList:=by
 have hl:=hz.length
 simp only [ych] at hl
 refine LRel.mk (by simp [ze4,hl]) fun i v c hv hc=>?_
 have hi:i<n * z.length:=by rw [← ze4];exact (yac.1 hv).1
 have hpos:0<z.length:=by
  rcases yc1 z.length with h|h
  ·rw [h] at hi;omega
  ·exact h
 rw [repC_get z n i hi] at hv
 obtain ⟨c',h1,h2⟩:=hz.get hv
 simp only [ybw,Array.getElem?_map,hl] at hc
 rw [Array.getElem?_range,if_pos (by omega)] at hc
 simp only [ybb,yad] at hc
 have hlt:i % z.length<zv.size:=by rw [hl];exact Nat.mod_lt _ hpos
 rw [getElem!_pos zv _ hlt] at hc
 simp only [ybw,ybu hlt,yad] at h1
 rw [← hc,h1]
 exact h2
theorem st_buildSlice [Glob] (hT:TOk P T) {t e:TypeId} {ti ei:TI} {n:Nat} {parts:List (Nat×Operand)} {z l:List AV} (ho:o.op=.buildSlice t n parts.toArray) (ht:T t=some ti)
  (hk:ti.kind=.sl e) (he:T e=some ei) (hz:ei.zero=some z) (hzl:Nat.beq z.length ei.sz=true) (hsmall:Nat.ble (n * ei.sz) 16777216=true) (h1:allOA (zb7 env parts)=true) (hl:fillC (zds ei.sz) (repC n z) (zb7 env parts)=some l) :
  Step P N hp env o (.sl none n l) hp:=by
 intro g w a hH hE
 obtain ⟨d,i0,e1,-,e3,-⟩:=zaj (hT _ _ ht)
 rw [hk] at e3
 have hd:d=.slice e:=by cases d <;> simp [tkOf] at e3;rw [e3]
 subst hd
 obtain ⟨d2,i,-,f2,-,f4,f5,f6⟩:=zaj (hT _ _ he)
 rw [hz] at f6
 cases hiz:i.zero with
 | none=>rw [hiz] at f6;cases f6
 | some zv =>
 rw [hiz] at f6
 simp only [ybb,yad] at f6
 have hzl':z.length=ei.sz:=yap hzl
 have hzr:LRel g w z zv.cells.toList:=by rw [f6];exact zej g w _
 have hzs:zv.cells.size=i.size:=by
  have:=hzr.length
  simp only [ych] at this
  rw [this,hzl',f4]
 have hzero:=zeros_rel hzr n
 rw [hzs] at hzero
 obtain ⟨cs',g1,g2⟩:=zhf (g:=g) (w:=w) (place:=zds ei.sz) (zb7 env parts) (parts.map fun p=>(p.1,a.eval p.2)) (repC n z) l _ (zfx _ h1) (by simp [zdo]) (zg3 hE parts) hzero hl
 have hle:n * i.size≤16777216:=by rw [← f4];exact ybv hsmall
 have hH':HRel g (w.alloc (.cells cs' e)) hp:=hH.fresh _
 refine ⟨.slice (some ⟨w.heap.size,0,none⟩) n n,g,w.alloc (.cells cs' e),?_,hH',?_,Ext.fresh g w _⟩
 ·have hfill:Instr.fill (fun j=>some (j * i.size,i.size)) ((Array.range (n * i.size)).map (zv.cells[· % zv.cells.size]!)) (parts.map fun p=>(p.1,a.eval p.2))=some cs':=by
    rw [← f4,← g1,← f4,hzs,← f4];rfl
  by_cases h0:n * i.size=0
  ·have he1:Instr.fill (fun j=>some (j * i.size,i.size)) #[] (parts.map fun p=>(p.1,a.eval p.2))=some cs':=by
     have:=hfill
     rw [h0,show Array.range 0=(#[]:Array Nat) from rfl,Array.map_empty] at this
     exact this
   have hr0:Array.range 0=(#[]:Array Nat):=rfl
   unfold execOp
   simp only [ho,Instr.buildSlice,Sem.run_bind,run_underlying e1,Result.andThen_ok,za2 f2]
   rw [if_neg (by omega)]
   simp only [h0,if_true,hr0]
   simp [newRow,he1]
  ·unfold execOp
   simp only [ho,Instr.buildSlice,Sem.run_bind,run_underlying e1,Result.andThen_ok,za2 f2]
   rw [if_neg (by omega)]
   simp only [h0,if_false]
   simp [zeroValue,typeInfo,f2,hiz,newRow,hfill]
 ·simp only [VRel]
  refine ⟨_,n,rfl,yax _,.inr ⟨w.heap.size,0,rfl,MRel.mk fun j v hj=>?_⟩,fun t h=>by cases h⟩
  obtain ⟨c,q1,q2⟩:=(LRel.ext (Ext.fresh g w (.cells cs' e)) _ _ g2).get hj
  exact ⟨c,cell_iff.2 ⟨cs',e,_,heap_alloc_new w _,by simpa using q1⟩,q2,fun ho=>absurd (hH.lt _ _ ho) (yc7 _)⟩
end
end
section
mutual
theorem below_mono {m n:Nat} (hmn:m≤n):∀ (v:AV),below m v→below n v
 | .bool _,_=>by simp [below]
 | .int _ _,_=>by simp [below]
 | .str _,_=>by simp [below]
 | .nilp,_=>by simp [below]
 | .ptr _ _,h=>by simp only [below] at h ⊢;omega
 | .rptr l,h=>by simp only [below] at h ⊢;exact zbd hmn l h
 | .nilf,_=>by simp [below]
 | .clo _ fs cs,h=>by simp only [below] at h ⊢;exact ⟨fnBelow_mono hmn h.1,zbd hmn fs h.2.1,zbd hmn cs h.2.2⟩
 | .nili,_=>by simp [below]
 | .ifc _ v,h=>by simp only [below] at h ⊢;exact below_mono hmn v h
 | .nils,_=>by simp [below]
 | .sl tok _ l,h=>by simp only [below] at h ⊢;exact ⟨fun t e=>ybs (h.1 t e) hmn,zbd hmn l h.2⟩
 | .ms _ _ _,h=>by simp only [below] at h ⊢;omega
 | .sx _ l,h=>by simp only [below] at h ⊢;exact zbd hmn l h
 | .sk _ _ l,h=>by simp only [below] at h ⊢;exact zbd hmn l h
 | .rmp ks vs,h=>by simp only [below] at h ⊢;exact ⟨zbd hmn ks h.1,zbd hmn vs h.2⟩
 | .nilm,_=>by simp [below]
 | .mp _,h=>by simp only [below] at h ⊢;omega
 | .vs _ _,h=>by simp only [below] at h ⊢;omega
 | .vk _ _ _,h=>by simp only [below] at h ⊢;omega
 | .vp _ _ _,h=>by simp only [below] at h ⊢;omega
 | .agg l,h=>by simp only [below] at h ⊢;exact zbd hmn l h
 | .tup l,h=>by simp only [below] at h ⊢;exact zbd hmn l h
 | .junk,_=>by simp [below]
theorem zbd {m n:Nat} (hmn:m≤n):∀ (l:List AV),zac m l→zac n l
 | [],_=>by simp [zac]
 | v::l,h=>by simp only [zac] at h ⊢;exact ⟨below_mono hmn v h.1,zbd hmn l h.2⟩
end
mutual
theorem VRel.below {g:G} {w:World}:∀ (v:AV) (c:Value),VRel g w v c→below g.n v
 | .bool _,_,_=>by simp [Vsi.below]
 | .int _ _,_,_=>by simp [Vsi.below]
 | .str _,_,_=>by simp [Vsi.below]
 | .nilp,_,_=>by simp [Vsi.below]
 | .ptr _ _,_,h=>by simp only [VRel] at h;simp only [Vsi.below];exact h.1.1
 | .rptr l,_,h=>by
   simp only [VRel] at h;simp only [Vsi.below]
   obtain ⟨b,o,-,hm⟩:=h
   exact MRel.below l b o hm
 | .nilf,_,_=>by simp [Vsi.below]
 | .clo _ fs cs,_,h=>by
   simp only [VRel] at h;simp only [Vsi.below]
   obtain ⟨h0,f',c',-,h1,h2⟩:=h
   exact ⟨fnOk_below h0.1,LRel.below fs _ h1,LRel.below cs _ h2⟩
 | .nili,_,_=>by simp [Vsi.below]
 | .ifc _ v,_,h=>by
   simp only [VRel] at h;simp only [Vsi.below]
   obtain ⟨v',-,h1⟩:=h
   exact VRel.below v _ h1
 | .nils,_,_=>by simp [Vsi.below]
 | .sl tok n l,_,h=>by
   simp only [VRel] at h;simp only [Vsi.below]
   obtain ⟨A,cap,-,-,hm,ht⟩:=h
   refine ⟨fun t e=>(ht t e).1.1,?_⟩
   rcases hm with rfl|⟨b,o,-,hm⟩
   ·simp [zac]
   ·exact MRel.below l b o hm
 | .ms _ _ _,_,h=>by simp only [VRel] at h;simp only [Vsi.below];exact h.1.1
 | .vs _ _,_,h=>by simp only [VRel] at h;simp only [Vsi.below];exact h.1.1
 | .vk _ _ _,_,h=>by simp only [VRel] at h;simp only [Vsi.below];exact h.1.1
 | .vp _ _ _,_,h=>by simp only [VRel] at h;simp only [Vsi.below];exact h.1.1
 | .sk n m l,_,h=>by
   simp only [VRel] at h;simp only [Vsi.below]
   obtain ⟨A,cap,-,-,-,hm⟩:=h
   rcases hm with rfl|⟨b,o,-,hm⟩
   ·simp [zac]
   ·exact MRel.below l b o hm
 | .sx n l,_,h=>by
   simp only [VRel] at h;simp only [Vsi.below]
   obtain ⟨A,-,hm⟩:=h
   rcases hm with rfl|⟨b,o,-,hm⟩
   ·simp [zac]
   ·exact MRel.below l b o hm
 | .rmp ks vs,_,h=>by
   simp only [VRel] at h;simp only [Vsi.below]
   obtain ⟨b,es,clk,-,-,-,-,h1,h2⟩:=h
   exact ⟨LRel.below ks _ h1,LRel.below vs _ h2⟩
 | .nilm,_,_=>by simp [Vsi.below]
 | .mp _,_,h=>by simp only [VRel] at h;simp only [Vsi.below];exact h.1.1
 | .agg l,_,h=>by
   simp only [VRel] at h;simp only [Vsi.below]
   obtain ⟨cs,-,h1⟩:=h
   exact LRel.below l _ h1
 | .tup l,_,h=>by
   simp only [VRel] at h;simp only [Vsi.below]
   obtain ⟨cs,-,h1⟩:=h
   exact LRel.below l _ h1
 | .junk,_,_=>by simp [Vsi.below]
theorem LRel.below {g:G} {w:World}:∀ (l:List AV) (cs:List Value),LRel g w l cs→zac g.n l
 | [],_,_=>by simp [zac]
 | v::l,_,h=>by
   simp only [LRel] at h;simp only [zac]
   obtain ⟨c,r,-,h1,h2⟩:=h
   exact ⟨VRel.below v c h1,LRel.below l r h2⟩
theorem MRel.below {g:G} {w:World}:∀ (l:List AV) (b o:Nat),MRel g w l b o→zac g.n l
 | [],_,_,_=>by simp [zac]
 | v::l,b,o,h=>by
   simp only [MRel] at h;simp only [zac]
   obtain ⟨⟨c,-,h1,-⟩,h2⟩:=h
   exact ⟨VRel.below v c h1,MRel.below l b (o+1) h2⟩
end
def G.cut (g:G) (n:Nat):G:={ g with n:=n,pend:=fun i=>g.pend i∧i<n }
theorem fnOk_cut {g:G} {n:Nat}:∀ {fn:Fn},fnOk g fn→zgm n fn→fnOk (g.cut n) fn
 | .yield _,h,hb=>⟨hb,fun q=>h.2 q.1⟩
 | .func _,_,_=>trivial
 | .method _,_,_=>trivial
 | .methodOf _ _,_,_=>trivial
 | .via _ _ _ _,_,_=>trivial
theorem fnG_cut {g:G} {n:Nat}:∀ {fn:Fn},fnG (g.cut n) fn=fnG g fn
 | .yield _=>rfl
 | .func _=>rfl
 | .method _=>rfl
 | .methodOf _ _=>rfl
 | .via _ _ _ _=>rfl
mutual
theorem VRel.cut {g:G} {w:World} {n:Nat}:∀ (v:AV) (c:Value),VRel g w v c→Vsi.below n v→VRel (g.cut n) w v c
 | .bool _,_,h,_=>by simpa [VRel] using h
 | .int _ _,_,h,_=>by simpa [VRel] using h
 | .str _,_,h,_=>by simpa [VRel] using h
 | .nilp,_,h,_=>by simpa [VRel] using h
 | .ptr _ _,_,h,hb=>by simp only [VRel] at h ⊢;simp only [Vsi.below] at hb;exact ⟨⟨hb,fun q=>h.1.2 q.1⟩,h.2⟩
 | .rptr l,_,h,hb=>by
   simp only [VRel] at h ⊢;simp only [Vsi.below] at hb
   obtain ⟨b,o,hc,hm⟩:=h
   exact ⟨b,o,hc,MRel.cut l b o hm hb⟩
 | .nilf,_,h,_=>by simpa [VRel] using h
 | .clo _ fs cs,_,h,hb=>by
   simp only [VRel] at h ⊢;simp only [Vsi.below] at hb
   obtain ⟨h0,f',c',hc,h1,h2⟩:=h
   exact ⟨⟨fnOk_cut h0.1 hb.1,h0.2⟩,f',c',by rw [fnG_cut];exact hc,LRel.cut fs _ h1 hb.2.1,LRel.cut cs _ h2 hb.2.2⟩
 | .nili,_,h,_=>by simpa [VRel] using h
 | .ifc _ v,_,h,hb=>by
   simp only [VRel] at h ⊢;simp only [Vsi.below] at hb
   obtain ⟨v',hc,h1⟩:=h
   exact ⟨v',hc,VRel.cut v _ h1 hb⟩
 | .nils,_,h,_=>by simpa [VRel] using h
 | .sl tok m l,_,h,hb=>by
   simp only [VRel] at h ⊢;simp only [Vsi.below] at hb
   obtain ⟨A,cap,hc,hn,hm,ht⟩:=h
   refine ⟨A,cap,hc,hn,?_,fun t e=>?_⟩
   ·rcases hm with hm|⟨b,o,hA,hm⟩
    ·exact .inl hm
    ·exact .inr ⟨b,o,hA,MRel.cut l b o hm hb.2⟩
   ·obtain ⟨h1,h2,h3⟩:=ht t e
    exact ⟨⟨hb.1 t e,fun q=>h1.2 q.1⟩,h2,h3⟩
 | .vk _ _ _,_,h,hb=>by simp only [VRel] at h ⊢;simp only [Vsi.below] at hb;exact ⟨⟨hb,fun q=>h.1.2 q.1⟩,h.2⟩
 | .vs _ _,_,h,hb=>by simp only [VRel] at h ⊢;simp only [Vsi.below] at hb;exact ⟨⟨hb,fun q=>h.1.2 q.1⟩,h.2⟩
 | .vp _ _ _,_,h,hb=>by simp only [VRel] at h ⊢;simp only [Vsi.below] at hb;exact ⟨⟨hb,fun q=>h.1.2 q.1⟩,h.2⟩
 | .ms _ _ _,_,h,hb=>by simp only [VRel] at h ⊢;simp only [Vsi.below] at hb;exact ⟨⟨hb,fun q=>h.1.2 q.1⟩,h.2⟩
 | .sk n m l,_,h,hb=>by
   simp only [VRel] at h ⊢;simp only [Vsi.below] at hb
   obtain ⟨A,cap,hc,hn1,hn2,hm⟩:=h
   refine ⟨A,cap,hc,hn1,hn2,?_⟩
   rcases hm with hm|⟨b,o,hA,hm⟩
   ·exact .inl hm
   ·exact .inr ⟨b,o,hA,MRel.cut l b o hm hb⟩
 | .sx m l,_,h,hb=>by
   simp only [VRel] at h ⊢;simp only [Vsi.below] at hb
   obtain ⟨A,hc,hm⟩:=h
   refine ⟨A,hc,?_⟩
   rcases hm with hm|⟨b,o,hA,hm⟩
   ·exact .inl hm
   ·exact .inr ⟨b,o,hA,MRel.cut l b o hm hb⟩
 | .rmp ks vs,_,h,hb=>by
   simp only [VRel] at h ⊢;simp only [Vsi.below] at hb
   obtain ⟨b,es,clk,hc,h0,hbn,ho,h1,h2⟩:=h
   exact ⟨b,es,clk,hc,h0,hbn,ho,LRel.cut ks _ h1 hb.1,LRel.cut vs _ h2 hb.2⟩
 | .nilm,_,h,_=>by simpa [VRel] using h
 | .mp _,_,h,hb=>by simp only [VRel] at h ⊢;simp only [Vsi.below] at hb;exact ⟨⟨hb,fun q=>h.1.2 q.1⟩,h.2⟩
 | .agg l,_,h,hb=>by
   simp only [VRel] at h ⊢;simp only [Vsi.below] at hb
   obtain ⟨cs,hc,h1⟩:=h
   exact ⟨cs,hc,LRel.cut l _ h1 hb⟩
 | .tup l,_,h,hb=>by
   simp only [VRel] at h ⊢;simp only [Vsi.below] at hb
   obtain ⟨cs,hc,h1⟩:=h
   exact ⟨cs,hc,LRel.cut l _ h1 hb⟩
 | .junk,_,_,_=>by simp [VRel]
theorem LRel.cut {g:G} {w:World} {n:Nat}:∀ (l:List AV) (cs:List Value),LRel g w l cs→zac n l→LRel (g.cut n) w l cs
 | [],_,h,_=>by simpa [LRel] using h
 | v::l,_,h,hb=>by
   simp only [LRel] at h ⊢;simp only [zac] at hb
   obtain ⟨c,r,hc,h1,h2⟩:=h
   exact ⟨c,r,hc,VRel.cut v c h1 hb.1,LRel.cut l r h2 hb.2⟩
theorem MRel.cut {g:G} {w:World} {n:Nat}:∀ (l:List AV) (b o:Nat),MRel g w l b o→zac n l→MRel (g.cut n) w l b o
 | [],_,_,_,_=>by simp [MRel]
 | v::l,b,o,h,hb=>by
   simp only [MRel] at h ⊢;simp only [zac] at hb
   obtain ⟨⟨c,h0,h1,h3⟩,h2⟩:=h
   exact ⟨⟨c,h0,VRel.cut v c h1 hb.1,h3⟩,MRel.cut l b (o+1) h2 hb.2⟩
end
def Blk.below (n:Nat):Blk→Prop
 | .box _ l=>zac n l
 | .mp ks vs=>zac n ks∧zac n vs
 | .loop _ _ env _=>∀ s,Vsi.below n (get env s)
 | .it src _ _=>Vsi.below n src
 | .vec _ _ l=>zac n l
 | _=>True
theorem BRel.belowB {g:G} {w:World} {i:Nat} {B:Blk} (h:BRel g w i B):B.below g.n:=by
 cases B with
 | box t l=>obtain ⟨cs,-,h2,-⟩:=h;exact LRel.below l _ h2
 | mp ks vs=>obtain ⟨es,clk,-,-,h2,h3,-⟩:=h;exact ⟨LRel.below ks _ h2,LRel.below vs _ h3⟩
 | loop st jp env L=>obtain ⟨⟨r,-,-,-,-,-,-,-,h8⟩,-⟩:=h;exact fun s=>VRel.below _ _ (h8 s)
 | it src n seen=>obtain ⟨⟨b,a,-,-,h3⟩,-⟩:=h;exact VRel.below _ _ h3
 | vec e sz l =>
   obtain ⟨-,-,h3|⟨b,cs,-,-,-,-,-,h8,-⟩⟩:=h
   ·rw [h3.2.1];trivial
   ·exact LRel.below _ _ h8
 | tok e sz len=>trivial
 | dead=>trivial
theorem BRel.cut {g:G} {w:World} {i n:Nat} {B:Blk} (h:BRel g w i B) (hb:B.below n):BRel (g.cut n) w i B:=by
 cases B with
 | box t l=>obtain ⟨cs,h1,h2,h3⟩:=h;exact ⟨cs,h1,LRel.cut l _ h2 hb,h3⟩
 | mp ks vs=>obtain ⟨es,clk,h1,hbn,h2,h3,h4⟩:=h;exact ⟨es,clk,h1,hbn,LRel.cut ks _ h2 hb.1,LRel.cut vs _ h3 hb.2,h4⟩
 | loop st jp env L=>obtain ⟨⟨r,h1,h2,h3,h4,h5,h6,h7,h8⟩,h9⟩:=h;exact ⟨⟨r,h1,h2,h3,h4,h5,h6,h7,fun s=>VRel.cut _ _ (h8 s) (hb s)⟩,h9⟩
 | it src n seen=>obtain ⟨⟨b,a,h1,h2,h3⟩,h4⟩:=h;exact ⟨⟨b,a,h1,h2,VRel.cut _ _ h3 hb⟩,h4⟩
 | vec e sz l =>
   obtain ⟨h1,h2,h3⟩:=h
   refine ⟨h1,h2,?_⟩
   rcases h3 with h3|⟨b,cs,h3,h4,h5,h6,h7,h8,h9⟩
   ·exact .inl h3
   ·exact .inr ⟨b,cs,h3,h4,h5,h6,h7,LRel.cut _ _ h8 hb,h9⟩
 | tok e sz len=>exact h
 | dead=>trivial
theorem glob_cut [Glob] {g:G} {w:World} {n:Nat} (h:∀ p∈Glob.gl,MRel g w p.2 p.1 0):∀ p∈Glob.gl,MRel (g.cut n) w p.2 p.1 0 :=
 fun p hp=>MRel.cut _ _ _ (h p hp) (zbd (yah _) _ (Glob.low p hp))
theorem HRel.cutBase [Glob] {g0 g:G} {w0 w:World} {H:Heap} {hp:Hp} (h0:HRel g0 w0 (Hp.of H)) (h:HRel g w hp) (hl:hp.base.length=H.length)
  (hb:∀ (i:Nat) B,hp.base[i]? = some B→H[i]? = some B∨B.below H.length):HRel (g.cut H.length) w (Hp.of hp.base):=by
 have hall:∀ (i:Nat) B,hp.base[i]? = some B→hp.all[i]? = some B:=fun i B hi=>by
  unfold Hp.all
  rw [yaj (yac.1 hi).1,hi]
 have hz:(Hp.of hp.base).all=hp.base:=by simp [Hp.of,Hp.all]
 refine ⟨by simp [G.cut,Hp.of,hl],rfl,fun i B hi=>?_,h.lt,fun i hi=>?_,fun i j B C b hi hj h1 h2=>?_,glob_cut h.glob⟩
 ·rw [hz] at hi
  refine (h.rel i B (hall i B hi)).cut ?_
  rcases hb i B hi with h1|h1
  ·have hn:g0.n=H.length:=by rw [h0.n];simp [Hp.of]
   rw [← hn]
   exact (h0.rel i B (by simpa [Hp.of,Hp.all] using h1)).belowB
  ·exact h1
 ·rw [hz]
  have hd:=h.pend i hi.1
  have hlt:i<hp.base.length:=by rw [hl];exact hi.2
  unfold Hp.all at hd
  rwa [yaj hlt] at hd
 ·rw [hz] at hi hj
  exact h.inj i j B C b (hall _ _ hi) (hall _ _ hj) h1 h2
theorem Ext.cut {g g':G} {w w':World} {n:Nat} (h:Ext g w g' w') (hn:g.n≤n):Ext g w (g'.cut n) w' :=
 ⟨hn,fun i hi hq=>⟨h.pend i hi hq,ybs hi hn⟩,fun i hi=>⟨ybs hi.1 hn,fun q=>(h.ok i hi).2 q.1⟩,h.blk,h.tk,h.own,h.os,h.tape,h.output,h.drawn,h.size,h.same,h.cells⟩
def Wk (r r':AV):Prop:=∀ g w c,VRel g w r c→VRel g w r' c
theorem Wk.refl (r:AV):Wk r r:=fun _ _ _ h=>h
theorem wk_sl (tok:Option Nat) (n:Nat) (l:List AV):Wk (.sl tok n l) (.sl none n l):=fun g w c h=>by
 simp only [VRel] at h ⊢
 obtain ⟨A,cap,h1,h2,h3,-⟩:=h
 exact ⟨A,cap,h1,h2,h3,fun t e=>by cases e⟩
theorem wk_sx (n:Nat) (l:List AV):Wk (.sx n l) (.sl none n l):=fun g w c h=>by
 simp only [VRel] at h ⊢
 obtain ⟨A,h1,h2⟩:=h
 exact ⟨A,n,h1,yax _,h2,fun t e=>by cases e⟩
theorem zbp:Wk .nils (.sl none 0 []):=fun g w c h=>by
 simp only [VRel] at h ⊢
 exact ⟨none,0,h,yax _,.inl trivial,fun t e=>by cases e⟩
theorem wk_junk (r:AV):Wk r .junk:=fun _ _ _ _=>by simp [VRel]
def WkL:List AV→List AV→Prop
 | [],[]=>True
 | v::l,v'::l'=>Wk v v'∧WkL l l'
 | _,_=>False
theorem WkL.rel {g:G} {w:World}:∀ {l l':List AV} {cs:List Value},WkL l l'→LRel g w l cs→LRel g w l' cs
 | [],[],_,_,h=>h
 | v::l,v'::l',cs,hw,h=>by
   simp only [LRel] at h ⊢
   obtain ⟨c,r,rfl,h1,h2⟩:=h
   exact ⟨c,r,rfl,hw.1 _ _ _ h1,WkL.rel hw.2 h2⟩
 | [],_::_,_,hw,_=>hw.elim
 | _::_,[],_,hw,_=>hw.elim
theorem zbs {l l':List AV} (h:WkL l l'):Wk (.agg l) (.agg l'):=fun g w c hr=>by
 simp only [VRel] at hr ⊢
 obtain ⟨cs,h1,h2⟩:=hr
 exact ⟨cs,h1,h.rel h2⟩
theorem zby {l l':List AV} (h:WkL l l'):Wk (.tup l) (.tup l'):=fun g w c hr=>by
 simp only [VRel] at hr ⊢
 obtain ⟨cs,h1,h2⟩:=hr
 exact ⟨cs,h1,h.rel h2⟩
section
variable {P:Program} {N:FN} {all rest:List Oper} {Q:Env→Hp→Prop} {env:Env} {hp hp':Hp} {o:Oper}
structure Sees (hp:Hp) (H':Heap) (hp':Hp):Prop where
 all:hp'.all=H'
 k:hp'.loc.length=hp'.k
theorem sees_same [Glob] {hp:Hp} {g:G} {w:World} (h:HRel g w hp):Sees hp hp.all hp:=⟨rfl,h.k⟩
theorem HRel.see [Glob] {g:G} {w:World} {H':Heap} (h:HRel g w (Hp.of H')) (hs:Sees hp H' hp'):HRel g w hp':=by
 have hz:(Hp.of H').all=H':=by simp [Hp.of,Hp.all]
 refine ⟨?_,hs.k,by rw [hs.all];simpa [hz] using h.rel,h.lt,by rw [hs.all];simpa [hz] using h.pend,by rw [hs.all];simpa [hz] using h.inj,h.glob⟩
 have h1:=h.n
 have h2:hp'.all.length=H'.length:=by rw [hs.all]
 simp only [Hp.all,ya5,hs.k] at h2
 simp only [Hp.of,yby] at h1
 omega
def VPure [Glob] (P:Program) (F:FuncId) (as:List AV) (H:Heap) (R:AV→Prop):Prop:=VCall P F as H fun r H'=>H'=H∧R r
def VDet [Glob] (P:Program) (F:FuncId) (as:List AV) (H:Heap) (v:AV):Prop:=VPure P F as H fun r=>r=v
def argEnv:Nat→List AV→Env
 | _,[]=>[]
 | i,v::l=>(i,v)::argEnv (i+1) l
theorem argEnv_get:∀ (l:List AV) (i s:Nat),get (argEnv i l) s=if i≤s then (l[s-i]?).getD .junk else .junk
 | [],i,s=>by simp [argEnv,get]
 | v::l,i,s=>by
   unfold argEnv
   by_cases h:i=s
   ·subst h
    rw [zb3]
    simp
   ·rw [zch _ _ h,argEnv_get l (i+1) s]
    by_cases h1:i+1≤s
    ·rw [if_pos h1,if_pos (by omega)]
     rw [show s-i=(s-(i+1))+1 by omega]
     simp
    ·rw [if_neg h1,if_neg (by omega)]
theorem argEnv_rel [Glob] {N:Nat} {g:G} {w:World} {args:List AV} {as:Array Value} (h:LRel g w args as.toList) (hN:args.length≤N) (hg:∀ p∈Glob.gl,MRel g w p.2 p.1 0) :
  ERel ⟨N,none⟩ g w (argEnv 0 args) { tmps:=as++Array.replicate (N-as.size) undef,defers:=[] }:=by
 have hl:=h.length
 simp only [ych] at hl
 refine ⟨by simp;omega,fun s=>?_,fun i hi=>(by cases hi),hg⟩
 rw [argEnv_get]
 simp only [yah,if_true,Nat.sub_zero]
 cases hs:args[s]? with
 | none=>simp [VRel]
 | some v =>
   obtain ⟨c,h1,h2⟩:=h.get hs
   have hlt:s<as.size:=by rw [hl];exact (yac.1 hs).1
   simp only [yct]
   have:(as++Array.replicate (N-as.size) undef).getD s undef=c:=by
    simp only [Array.getD_eq_getD_getElem?]
    rw [Array.getElem?_append_left hlt]
    simp only [ybw] at h1
    rw [h1];rfl
   rw [this];exact h2
def RV (T:TypeId→Option TI) (env:Env) (hp:Hp):ResultVar→AV→Prop
 | .tmp t,v=>nf (get env t)=some v
 | .cell t ty,v=>∃ i k u l l' ti,get env t=.ptr i k∧At hp i (.box u l)∧dropC k l=some l'∧T ty=some ti∧loadC ti l'=some v
def tupOf:List AV→AV
 | [v]=>v
 | l=>.tup l
def rvF (a:Act):ResultVar→Sem Value
 | .tmp t=>pure (a.tmps.getD t undef)
 | .cell x t=>do loadVar t (← asAddr (a.tmps.getD x undef))
theorem rv_run [Glob] {T:TypeId→Option TI} (hT:TOk P T) {g:G} {w:World} {a:Act} (hH:HRel g w hp) (hE:ERel N g w env a) {r:ResultVar} {v:AV} (h:RV T env hp r v) :
  ∃ c,(rvF a r).run P w=.ok c w∧VRel g w v c:=by
 cases r with
 | tmp t =>
   simp only [RV] at h
   exact ⟨_,rfl,zfs h▸hE.rel t⟩
 | cell t ty =>
   obtain ⟨i,k,u,l,l',ti,h1,h2,h3,h4,h5⟩:=h
   have hr:=hE.rel t
   rw [h1] at hr
   simp only [VRel] at hr
   obtain ⟨hd1,-⟩:=zc0 _ _ _ h3
   have hc:=crel_box (o:=k) (hH.rel i _ h2)
   rw [hd1] at hc
   obtain ⟨c,h6,h7⟩:=load_run (hT _ _ h4) hc h5
   refine ⟨c,?_,h7⟩
   have:a.tmps.getD t undef=.pointer (some ⟨g.blk i,k,none⟩):=hr.2
   simp only [rvF,this,asAddr,Sem.run_bind,Sem.run_pure,Result.andThen_ok,h6]
theorem Wk.of_eq {r r':AV} (h:r=r'):Wk r r':=h▸Wk.refl r
variable {Q':Exit→Env→Hp→Prop} {K:Env→Hp→Prop}
theorem vw_scope [Glob] {c:Code} (h:VW P N c (noGotoQ Q') env hp):VW P N (.scope c) Q' env hp:=by
 intro g w a hH hE
 refine scopeIn_straight (Code.wpIn_mono ?_ (h g w a hH hE))
 rintro e a' w' ⟨env',H',g',q,r⟩
 cases e with
 | goto l=>exact q.elim
 | exit i=>exact ⟨env',H',g',q,r⟩
 | normal=>exact ⟨env',H',g',q,r⟩
 | ret=>exact ⟨env',H',g',q,r⟩
 | panic ch=>exact ⟨env',H',g',q,r⟩
 | outgrown=>exact ⟨env',H',g',q,r⟩
theorem vw_cond_t [Glob] {c:Operand} {x y:Code} (hc:ev env c=.bool true) (h:VW P N x Q' env hp):VW P N (.cond c x y) Q' env hp :=
 vw_cond hc (fun _=>h) (fun e=>by cases e)
theorem vw_cond_f [Glob] {c:Operand} {x y:Code} (hc:ev env c=.bool false) (h:VW P N y Q' env hp):VW P N (.cond c x y) Q' env hp :=
 vw_cond hc (fun e=>by cases e) (fun _=>h)
theorem least {p:Nat→Prop} (h:∃ n,p n):∃ n,p n∧∀ m,p m→n≤m:=by
 obtain ⟨n,hn⟩:=h
 induction n using Nat.strongRecOn with
 | _ n ih =>
   by_cases hex:∃ m,m<n∧p m
   ·obtain ⟨m,hm,hp⟩:=hex
    exact ih m hm hp
   ·exact ⟨n,hn,fun m hp=>Nat.le_of_not_lt fun hlt=>hex ⟨m,hlt,hp⟩⟩
theorem vw_env [Glob] {c:Code} {env':Env} (h:VW P N c Q' env' hp) (hw:∀ s,Wk (get env s) (get env' s)):VW P N c Q' env hp :=
 fun g w a hH hE=>h g w a hH ⟨hE.1,fun s=>hw s _ _ _ (hE.rel s),hE.ro,hE.glob⟩
end
end
section
def ikEq:IntKind→IntKind→Bool
 | .i8,.i8|.i16,.i16|.i32,.i32|.i64,.i64|.u8,.u8|.u16,.u16|.u32,.u32|.u64,.u64=>true
 | _,_=>false
theorem zc4 {a b:IntKind} (h:ikEq a b=true):a=b:=by cases a <;> cases b <;> simp_all [ikEq]
def boolBin:BinOp→Bool→Bool→Option AV
 | .eql,a,b=>some (.bool (a==b))
 | .neq,a,b=>some (.bool (!(a==b)))
 | _,_,_=>none
def isBoolT (T:TypeId→Option TI) (t:TypeId):Bool:=match T t with
 | some ti=>match ti.kind with
   | .bool=>true
   | _=>false
 | none=>false
def binV (T:TypeId→Option TI) (op:BinOp) (t:TypeId):AV→AV→Option AV
 | .int k m,.int k' n=>match ikEq k k' with
   | true=>intBin op k m n
   | false=>none
 | .str a,.str b=>strBin op a b
 | .bool a,.bool b=>match isBoolT T t with
   | true=>boolBin op a b
   | false=>none
 | _,_=>none
def fieldV (T:TypeId→Option TI) (s:TypeId) (f:Nat):AV→Option AV
 | .ptr i k=>match T s with
   | some ti=>match ti.kind with
     | .st fs=>match lget fs f with
       | some (_,off,_+1,_)=>some (.ptr i (k+off))
       | _=>none
     | _=>none
   | none=>none
 | .rptr l=>match T s with
   | some ti=>match ti.kind with
     | .st fs=>match lget fs f with
       | some (_,off,_+1,_)=>(dropC off l).map .rptr
       | _=>none
     | _=>none
   | none=>none
 | _=>none
def convV (T:TypeId→Option TI) (s t:TypeId):AV→Option AV
 | .int _ n=>match T s with
   | some _=>match T t with
     | some ti=>match ti.kind with
       | .int k=>some (.int k (k.wrap n))
       | .str=>some (.str (Utf8.encode n))
       | _=>none
     | none=>none
   | none=>none
 | _=>none
def lenV (T:TypeId→Option TI) (t:TypeId):AV→Option AV
 | .sl _ n _=>match T t with
   | some ti=>match ti.kind with
     | .sl _=>some (.int .i64 n)
     | _=>none
   | none=>none
 | .nils=>match T t with
   | some ti=>match ti.kind with
     | .sl _=>some (.int .i64 0)
     | _=>none
   | none=>none
 | .str s=>match T t with
   | some ti=>match ti.kind with
     | .str=>some (.int .i64 s.size)
     | _=>none
   | none=>none
 | _=>none
def minV:AV→AV→Option AV
 | .int k m,.int k' n=>match ikEq k k' with
   | true=>some (.int k (min m n))
   | false=>none
 | _,_=>none
def maxV:AV→AV→Option AV
 | .int k m,.int k' n=>match ikEq k k' with
   | true=>some (.int k (max m n))
   | false=>none
 | _,_=>none
def stepV [Glob] (T:TypeId→Option TI) (env:Env):Op→Option AV
 | .move x=>nf (ev env x)
 | .assign x=>nf (ev env x)
 | .pick c x y=>match ev env c with
   | .bool true=>nf (ev env x)
   | .bool false=>nf (ev env y)
   | _=>none
 | .binOp op t x y _=>binV T op t (ev env x) (ev env y)
 | .unOp .not _ x=>match ev env x with
   | .bool b=>some (.bool (!b))
   | _=>none
 | .unOp .neg _ x=>match ev env x with
   | .int k n=>some (.int k (k.wrap (0-n)))
   | _=>none
 | .convert s t x=>convV T s t (ev env x)
 | .extract x i=>match ev env x with
   | .tup l=>match lget l i with
     | some v=>nf v
     | none=>none
   | _=>none
 | .fieldAddr s x f=>fieldV T s f (ev env x)
 | .nilCheck x=>match ev env x with
   | .ptr i k=>some (.ptr i k)
   | .rptr l=>some (.rptr l)
   | .clo (.func f) fs cs=>some (.clo (.func f) fs cs)
   | _=>none
 | .call { callee:=.builtin .len,args:=⟨[x]⟩,argTypes:=⟨[t]⟩ }=>lenV T t (ev env x)
 | .call { callee:=.builtin .min,args:=⟨[x,y]⟩,.. }=>minV (ev env x) (ev env y)
 | .call { callee:=.builtin .max,args:=⟨[x,y]⟩,.. }=>maxV (ev env x) (ev env y)
 | _=>none
section
variable {P:Program} {N:FN} {all rest:List Oper} {Q:Env→Hp→Prop} {env:Env} {hp hp':Hp} {o:Oper} {T:TypeId→Option TI}
theorem st_bool [Glob] (hT:TOk P T) {op:BinOp} {t u:TypeId} {x y:Operand} {m n:Bool} {v:AV} (ho:o.op=.binOp op t x y u)
  (hx:ev env x=.bool m) (hy:ev env y=.bool n) (ht:isBoolT T t=true) (hv:boolBin op m n=some v):Step P N hp env o v hp :=
 Step.pure fun g w a _ hE=>by
  have h1:=zar hE x
  have h2:=zar hE y
  rw [hx] at h1
  rw [hy] at h2
  simp only [VRel] at h1 h2
  have hu:P.underlying t=some .bool:=by
   unfold isBoolT at ht
   cases hti:T t with
   | none=>simp [hti] at ht
   | some ti =>
     simp only [hti] at ht
     obtain ⟨d,i,e1,e2,e3,-⟩:=zaj (hT _ _ hti)
     rw [e1]
     cases d <;> simp_all [tkOf]
  have he:(Op.equal t (.bool m) (.bool n)).run P w=.ok (m==n) w:=run_equalIn_bool' (P:=P) w 9999 t m n hu
  unfold execOp
  simp only [ho,h1,h2,eqGuard_at_bool]
  cases op <;> simp only [boolBin,yad,reduceCtorEq] at hv <;> subst hv
  ·refine ⟨.bool (m==n),?_,by simp [VRel]⟩
   have:binOp .eql t (.bool m) (.bool n)=(do pure (.bool (← Op.equal t (.bool m) (.bool n)))):=rfl
   rw [this]
   simp [he]
  ·refine ⟨.bool (!(m==n)),?_,by simp [VRel]⟩
   have:binOp .neq t (.bool m) (.bool n)=(do pure (.bool (!(← Op.equal t (.bool m) (.bool n))))):=rfl
   rw [this]
   simp [he]
theorem ze1 [Glob] (hT:TOk P T) {op:Op} {v:AV} (ho:o.op=op) (h:stepV T env op=some v):Step P N hp env o v hp:=by
 unfold stepV at h
 split at h
 ·exact st_move ho h
 ·exact st_assign ho h
 ·split at h
  ·rename_i hc;exact st_pick_t ho hc h
  ·rename_i hc;exact st_pick_f ho hc h
  ·cases h
 ·rename_i op t x y u
  generalize hx:ev env x=vx at h
  generalize hy:ev env y=vy at h
  unfold binV at h
  split at h
  ·rename_i k m k' n
   cases hk:ikEq k k' with
   | false=>simp [hk] at h
   | true =>
     simp only [hk] at h
     obtain rfl:=zc4 hk
     exact st_int ho hx hy h
  ·exact st_str ho hx hy h
  ·cases hb:isBoolT T t with
   | false=>simp [hb] at h
   | true=>simp only [hb] at h;exact st_bool hT ho hx hy hb h
  ·cases h
 ·split at h
  ·rename_i b hx;cases h;exact st_not ho hx
  ·cases h
 ·split at h
  ·rename_i k n hx;cases h;exact st_neg ho hx
  ·cases h
 ·rename_i s t x
  generalize hx:ev env x=vx at h
  unfold convV at h
  split at h
  ·cases hs:T s with
   | none=>simp [hs] at h
   | some si =>
     cases ht:T t with
     | none=>simp [hs,ht] at h
     | some ti =>
       simp only [hs,ht] at h
       split at h
       ·rename_i hk;cases h;exact st_conv hT ho hs ht hk hx
       ·rename_i hk;cases h;exact st_convS hT ho hs ht hk hx
       ·cases h
  ·cases h
 ·split at h
  ·rename_i l hx
   split at h
   ·rename_i v' hl
    obtain rfl:=zfs h
    exact st_extract ho hx hl
   ·cases h
  ·cases h
 ·rename_i s x f
  generalize hx:ev env x=vx at h
  unfold fieldV at h
  split at h
  ·cases hs:T s with
   | none=>simp [hs] at h
   | some ti =>
     simp only [hs] at h
     split at h
     ·rename_i fs hk
      split at h
      ·rename_i hl;cases h;exact st_fieldAddr hT ho hs hk hl hx
      ·cases h
     ·cases h
  ·cases hs:T s with
   | none=>simp [hs] at h
   | some ti =>
     simp only [hs] at h
     split at h
     ·rename_i fs hk
      split at h
      ·rename_i hl
       simp only [yba] at h
       obtain ⟨l',h1,rfl⟩:=h
       exact st_fieldAddr_r hT ho hs hk hl hx h1
      ·cases h
     ·cases h
  ·cases h
 ·split at h
  ·rename_i hx;cases h;exact zgi ho hx
  ·rename_i hx;cases h;exact zgw ho hx
  ·rename_i hx;cases h;exact zgx trivial ho hx
  ·cases h
 ·rename_i x t
  generalize hx:ev env x=vx at h
  unfold lenV at h
  split at h
  ·cases hs:T t with
   | none=>simp [hs] at h
   | some ti =>
     simp only [hs] at h
     split at h
     ·rename_i hk;cases h;exact st_len hT ho hs hk hx
     ·cases h
  ·cases hs:T t with
   | none=>simp [hs] at h
   | some ti =>
     simp only [hs] at h
     split at h
     ·rename_i hk;cases h;exact st_len_nil hT ho hs hk hx
     ·cases h
  ·cases hs:T t with
   | none=>simp [hs] at h
   | some ti =>
     simp only [hs] at h
     split at h
     ·rename_i hk;cases h;exact st_len_str hT ho hs hk hx
     ·cases h
  ·cases h
 ·rename_i x y ts
  generalize hx:ev env x=vx at h
  generalize hy:ev env y=vy at h
  unfold minV at h
  split at h
  ·rename_i k m k' n
   cases hk:ikEq k k' with
   | false=>simp [hk] at h
   | true =>
     simp only [hk] at h
     obtain rfl:=zc4 hk
     cases h
     exact st_min ho hx hy
  ·cases h
 ·rename_i x y ts
  generalize hx:ev env x=vx at h
  generalize hy:ev env y=vy at h
  unfold maxV at h
  split at h
  ·rename_i k m k' n
   cases hk:ikEq k k' with
   | false=>simp [hk] at h
   | true =>
     simp only [hk] at h
     obtain rfl:=zc4 hk
     cases h
     exact st_max ho hx hy
  ·cases h
 ·cases h
end
end
section
def zek (H:Heap):Prop:=∀ (i:Nat) B,H[i]? = some B→B.below H.length
theorem closed_of [Glob] {g:G} {w:World} {H:Heap} (h:HRel g w (Hp.of H)):zek H:=fun i B hi=>by
 have hn:g.n=H.length:=by rw [h.n];simp [Hp.of]
 rw [← hn]
 exact (h.rel i B (by simpa [Hp.of,Hp.all] using hi)).belowB
theorem Blk.below_mono {m n:Nat} (hmn:m≤n) {B:Blk} (h:B.below m):B.below n:=by
 cases B with
 | box t l=>exact zbd hmn l h
 | mp ks vs=>exact ⟨zbd hmn ks h.1,zbd hmn vs h.2⟩
 | loop st jp env L=>exact fun s=>Vsi.below_mono hmn _ (h s)
 | it src n seen=>exact Vsi.below_mono hmn _ h
 | vec e sz l=>exact zbd hmn l h
 | _=>trivial
def za5 (n:Nat):Heap→Prop
 | []=>True
 | B::H=>B.below n∧za5 n H
theorem belowH_get {n:Nat}:∀ {H:Heap},za5 n H→∀ {i:Nat} {B:Blk},H[i]? = some B→B.below n
 | [],_,i,B,hi=>by simp at hi
 | C::H,h,i,B,hi=>by
   cases i with
   | zero=>simp at hi;subst hi;exact h.1
   | succ i=>exact belowH_get h.2 (by simpa using hi)
section
variable {P:Program} {N:FN} {Q:Exit→Env→Hp→Prop} {env:Env} {hp hp':Hp}
theorem HRel.cutLoc [Glob] {g:G} {w:World} {base loc0 ex:Heap} {k k0:Nat} (h:HRel g w ⟨base,k,loc0++ex⟩) (hk:loc0.length=k0) (hb:zek base) (hl:za5 (base.length+k0) loc0) :
  HRel (g.cut (base.length+k0)) w ⟨base,k0,loc0⟩:=by
 have hall:(⟨base,k,loc0++ex⟩:Hp).all=(base++loc0)++ex:=by simp [Hp.all]
 have hsub:∀ (i:Nat) B,(base++loc0)[i]? = some B→(⟨base,k,loc0++ex⟩:Hp).all[i]? = some B:=fun i B hi=>by
  rw [hall,yaj (yac.1 hi).1,hi]
 refine ⟨rfl,hk,fun i B hi=>(h.rel i B (hsub i B hi)).cut ?_,h.lt,fun i hi=>?_,fun i j B C b hi hj h1 h2=>h.inj i j B C b (hsub _ _ hi) (hsub _ _ hj) h1 h2,glob_cut h.glob⟩
 ·have hi':(base++loc0)[i]? = some B:=hi
  rcases yag i base.length with hlt|hge
  ·rw [yaj hlt] at hi'
   exact Blk.below_mono (ycz _ _) (hb i B hi')
  ·rw [yam hge] at hi'
   exact belowH_get hl hi'
 ·have hd:=h.pend i hi.1
  have hlt:i<(base++loc0).length:=by simp only [ya5,hk];exact hi.2
  rw [hall,yaj hlt] at hd
  exact hd
end
end
end Go.Vsi
