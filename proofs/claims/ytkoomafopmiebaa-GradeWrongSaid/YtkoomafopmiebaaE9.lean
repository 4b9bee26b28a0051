/- A text of the proof: E9. -/
import Derived.Test.YtkoomafopmiebaaE8
set_option linter.unusedSimpArgs false
set_option linter.unusedVariables false
namespace Go.Vsi

/-! ### what a value points to -/
mutual
def below (n : Nat) : AV → Prop
  | .ptr i _ => i < n
  | .rptr l => belowL n l
  | .clo _ fs cs => belowL n fs ∧ belowL n cs
  | .ifc _ v => below n v
  | .sl tok _ l => (∀ t, tok = some t → t < n) ∧ belowL n l
  | .sx _ l => belowL n l
  | .rmp ks vs => belowL n ks ∧ belowL n vs
  | .ms i _ _ => i < n
  | .mp i => i < n
  | .agg l => belowL n l
  | .tup l => belowL n l
  | _ => True
def belowL (n : Nat) : List AV → Prop
  | [] => True
  | v :: l => below n v ∧ belowL n l
end

mutual
theorem VRel.below {g : G} {w : World} : ∀ (v : AV) (c : Value), VRel g w v c → below g.n v
  | .bool _, _, _ => by simp [Vsi.below]
  | .int _ _, _, _ => by simp [Vsi.below]
  | .str _, _, _ => by simp [Vsi.below]
  | .nilp, _, _ => by simp [Vsi.below]
  | .ptr _ _, _, h => by simp only [VRel] at h; simp only [Vsi.below]; exact h.1.1
  | .rptr l, _, h => by
    simp only [VRel] at h; simp only [Vsi.below]
    obtain ⟨b, o, -, hm⟩ := h
    exact MRel.below l b o hm
  | .nilf, _, _ => by simp [Vsi.below]
  | .clo _ fs cs, _, h => by
    simp only [VRel] at h; simp only [Vsi.below]
    obtain ⟨f', c', -, h1, h2⟩ := h
    exact ⟨LRel.below fs _ h1, LRel.below cs _ h2⟩
  | .nili, _, _ => by simp [Vsi.below]
  | .ifc _ v, _, h => by
    simp only [VRel] at h; simp only [Vsi.below]
    obtain ⟨v', -, h1⟩ := h
    exact VRel.below v _ h1
  | .nils, _, _ => by simp [Vsi.below]
  | .sl tok n l, _, h => by
    simp only [VRel] at h; simp only [Vsi.below]
    obtain ⟨A, cap, -, -, hm, ht⟩ := h
    refine ⟨fun t e => (ht t e).1.1, ?_⟩
    rcases hm with rfl | ⟨b, o, -, hm⟩
    · simp [belowL]
    · exact MRel.below l b o hm
  | .ms _ _ _, _, h => by simp only [VRel] at h; simp only [Vsi.below]; exact h.1.1
  | .sx n l, _, h => by
    simp only [VRel] at h; simp only [Vsi.below]
    obtain ⟨A, -, hm⟩ := h
    rcases hm with rfl | ⟨b, o, -, hm⟩
    · simp [belowL]
    · exact MRel.below l b o hm
  | .rmp ks vs, _, h => by
    simp only [VRel] at h; simp only [Vsi.below]
    obtain ⟨b, es, clk, -, -, -, h1, h2⟩ := h
    exact ⟨LRel.below ks _ h1, LRel.below vs _ h2⟩
  | .nilm, _, _ => by simp [Vsi.below]
  | .mp _, _, h => by simp only [VRel] at h; simp only [Vsi.below]; exact h.1.1
  | .agg l, _, h => by
    simp only [VRel] at h; simp only [Vsi.below]
    obtain ⟨cs, -, h1⟩ := h
    exact LRel.below l _ h1
  | .tup l, _, h => by
    simp only [VRel] at h; simp only [Vsi.below]
    obtain ⟨cs, -, h1⟩ := h
    exact LRel.below l _ h1
  | .junk, _, _ => by simp [Vsi.below]
theorem LRel.below {g : G} {w : World} : ∀ (l : List AV) (cs : List Value), LRel g w l cs → belowL g.n l
  | [], _, _ => by simp [belowL]
  | v :: l, _, h => by
    simp only [LRel] at h; simp only [belowL]
    obtain ⟨c, r, -, h1, h2⟩ := h
    exact ⟨VRel.below v c h1, LRel.below l r h2⟩
theorem MRel.below {g : G} {w : World} : ∀ (l : List AV) (b o : Nat), MRel g w l b o → belowL g.n l
  | [], _, _, _ => by simp [belowL]
  | v :: l, b, o, h => by
    simp only [MRel] at h; simp only [belowL]
    obtain ⟨⟨c, -, h1, -⟩, h2⟩ := h
    exact ⟨VRel.below v c h1, MRel.below l b (o + 1) h2⟩
end

def G.cut (g : G) (n : Nat) : G := { g with n := n, pend := fun i => g.pend i ∧ i < n }

mutual
theorem VRel.cut {g : G} {w : World} {n : Nat} : ∀ (v : AV) (c : Value), VRel g w v c → Vsi.below n v → VRel (g.cut n) w v c
  | .bool _, _, h, _ => by simpa [VRel] using h
  | .int _ _, _, h, _ => by simpa [VRel] using h
  | .str _, _, h, _ => by simpa [VRel] using h
  | .nilp, _, h, _ => by simpa [VRel] using h
  | .ptr _ _, _, h, hb => by simp only [VRel] at h ⊢; simp only [Vsi.below] at hb; exact ⟨⟨hb, fun q => h.1.2 q.1⟩, h.2⟩
  | .rptr l, _, h, hb => by
    simp only [VRel] at h ⊢; simp only [Vsi.below] at hb
    obtain ⟨b, o, hc, hm⟩ := h
    exact ⟨b, o, hc, MRel.cut l b o hm hb⟩
  | .nilf, _, h, _ => by simpa [VRel] using h
  | .clo _ fs cs, _, h, hb => by
    simp only [VRel] at h ⊢; simp only [Vsi.below] at hb
    obtain ⟨f', c', hc, h1, h2⟩ := h
    exact ⟨f', c', hc, LRel.cut fs _ h1 hb.1, LRel.cut cs _ h2 hb.2⟩
  | .nili, _, h, _ => by simpa [VRel] using h
  | .ifc _ v, _, h, hb => by
    simp only [VRel] at h ⊢; simp only [Vsi.below] at hb
    obtain ⟨v', hc, h1⟩ := h
    exact ⟨v', hc, VRel.cut v _ h1 hb⟩
  | .nils, _, h, _ => by simpa [VRel] using h
  | .sl tok m l, _, h, hb => by
    simp only [VRel] at h ⊢; simp only [Vsi.below] at hb
    obtain ⟨A, cap, hc, hn, hm, ht⟩ := h
    refine ⟨A, cap, hc, hn, ?_, fun t e => ?_⟩
    · rcases hm with hm | ⟨b, o, hA, hm⟩
      · exact .inl hm
      · exact .inr ⟨b, o, hA, MRel.cut l b o hm hb.2⟩
    · obtain ⟨h1, h2, h3⟩ := ht t e
      exact ⟨⟨hb.1 t e, fun q => h1.2 q.1⟩, h2, h3⟩
  | .ms _ _ _, _, h, hb => by simp only [VRel] at h ⊢; simp only [Vsi.below] at hb; exact ⟨⟨hb, fun q => h.1.2 q.1⟩, h.2⟩
  | .sx m l, _, h, hb => by
    simp only [VRel] at h ⊢; simp only [Vsi.below] at hb
    obtain ⟨A, hc, hm⟩ := h
    refine ⟨A, hc, ?_⟩
    rcases hm with hm | ⟨b, o, hA, hm⟩
    · exact .inl hm
    · exact .inr ⟨b, o, hA, MRel.cut l b o hm hb⟩
  | .rmp ks vs, _, h, hb => by
    simp only [VRel] at h ⊢; simp only [Vsi.below] at hb
    obtain ⟨b, es, clk, hc, h0, ho, h1, h2⟩ := h
    exact ⟨b, es, clk, hc, h0, ho, LRel.cut ks _ h1 hb.1, LRel.cut vs _ h2 hb.2⟩
  | .nilm, _, h, _ => by simpa [VRel] using h
  | .mp _, _, h, hb => by simp only [VRel] at h ⊢; simp only [Vsi.below] at hb; exact ⟨⟨hb, fun q => h.1.2 q.1⟩, h.2⟩
  | .agg l, _, h, hb => by
    simp only [VRel] at h ⊢; simp only [Vsi.below] at hb
    obtain ⟨cs, hc, h1⟩ := h
    exact ⟨cs, hc, LRel.cut l _ h1 hb⟩
  | .tup l, _, h, hb => by
    simp only [VRel] at h ⊢; simp only [Vsi.below] at hb
    obtain ⟨cs, hc, h1⟩ := h
    exact ⟨cs, hc, LRel.cut l _ h1 hb⟩
  | .junk, _, _, _ => by simp [VRel]
theorem LRel.cut {g : G} {w : World} {n : Nat} : ∀ (l : List AV) (cs : List Value), LRel g w l cs → belowL n l → LRel (g.cut n) w l cs
  | [], _, h, _ => by simpa [LRel] using h
  | v :: l, _, h, hb => by
    simp only [LRel] at h ⊢; simp only [belowL] at hb
    obtain ⟨c, r, hc, h1, h2⟩ := h
    exact ⟨c, r, hc, VRel.cut v c h1 hb.1, LRel.cut l r h2 hb.2⟩
theorem MRel.cut {g : G} {w : World} {n : Nat} : ∀ (l : List AV) (b o : Nat), MRel g w l b o → belowL n l → MRel (g.cut n) w l b o
  | [], _, _, _, _ => by simp [MRel]
  | v :: l, b, o, h, hb => by
    simp only [MRel] at h ⊢; simp only [belowL] at hb
    obtain ⟨⟨c, h0, h1, h3⟩, h2⟩ := h
    exact ⟨⟨c, h0, VRel.cut v c h1 hb.1, h3⟩, MRel.cut l b (o + 1) h2 hb.2⟩
end

def Blk.below (n : Nat) : Blk → Prop
  | .box _ l => belowL n l
  | .mp ks vs => belowL n ks ∧ belowL n vs
  | _ => True

theorem BRel.belowB {g : G} {w : World} {i : Nat} {B : Blk} (h : BRel g w i B) : B.below g.n := by
  cases B with
  | box t l => obtain ⟨cs, -, h2, -⟩ := h; exact LRel.below l _ h2
  | mp ks vs => obtain ⟨es, clk, -, h2, h3, -⟩ := h; exact ⟨LRel.below ks _ h2, LRel.below vs _ h3⟩
  | tok e sz len => trivial
  | dead => trivial
theorem BRel.cut {g : G} {w : World} {i n : Nat} {B : Blk} (h : BRel g w i B) (hb : B.below n) : BRel (g.cut n) w i B := by
  cases B with
  | box t l => obtain ⟨cs, h1, h2, h3⟩ := h; exact ⟨cs, h1, LRel.cut l _ h2 hb, h3⟩
  | mp ks vs => obtain ⟨es, clk, h1, h2, h3, h4⟩ := h; exact ⟨es, clk, h1, LRel.cut ks _ h2 hb.1, LRel.cut vs _ h3 hb.2, h4⟩
  | tok e sz len => exact h
  | dead => trivial

/-- the own blocks are let go -/
theorem HRel.cutBase {g0 g : G} {w0 w : World} {H : Heap} {hp : Hp} (h0 : HRel g0 w0 (Hp.of H)) (h : HRel g w hp) (hl : hp.base.length = H.length)
    (hb : ∀ (i : Nat) B, hp.base[i]? = some B → H[i]? = some B ∨ B.below H.length) : HRel (g.cut H.length) w (Hp.of hp.base) := by
  have hall : ∀ (i : Nat) B, hp.base[i]? = some B → hp.all[i]? = some B := fun i B hi => by
    unfold Hp.all
    rw [List.getElem?_append_left (List.getElem?_eq_some_iff.1 hi).1, hi]
  have hz : (Hp.of hp.base).all = hp.base := by simp [Hp.of, Hp.all]
  refine ⟨by simp [G.cut, Hp.of, hl], rfl, fun i B hi => ?_, h.lt, fun i hi => ?_, fun i j B C b hi hj h1 h2 => ?_⟩
  · rw [hz] at hi
    refine (h.rel i B (hall i B hi)).cut ?_
    rcases hb i B hi with h1 | h1
    · have hn : g0.n = H.length := by rw [h0.n]; simp [Hp.of]
      rw [← hn]
      exact (h0.rel i B (by simpa [Hp.of, Hp.all] using h1)).belowB
    · exact h1
  · rw [hz]
    have hd := h.pend i hi.1
    have hlt : i < hp.base.length := by rw [hl]; exact hi.2
    unfold Hp.all at hd
    rwa [List.getElem?_append_left hlt] at hd
  · rw [hz] at hi hj
    exact h.inj i j B C b (hall _ _ hi) (hall _ _ hj) h1 h2

theorem Ext.cut {g g' : G} {w w' : World} {n : Nat} (h : Ext g w g' w') (hn : g.n ≤ n) : Ext g w (g'.cut n) w' :=
  ⟨hn, fun i hi hq => ⟨h.pend i hi hq, Nat.lt_of_lt_of_le hi hn⟩, fun i hi => ⟨Nat.lt_of_lt_of_le hi.1 hn, fun q => (h.ok i hi).2 q.1⟩, h.blk, h.tk, h.own, h.os, h.tape, h.output, h.size, h.same, h.cells⟩

/-- less is said of it -/
def Wk (r r' : AV) : Prop := ∀ g w c, VRel g w r c → VRel g w r' c
theorem Wk.refl (r : AV) : Wk r r := fun _ _ _ h => h
theorem wk_sl (tok : Option Nat) (n : Nat) (l : List AV) : Wk (.sl tok n l) (.sl none n l) := fun g w c h => by
  simp only [VRel] at h ⊢
  obtain ⟨A, cap, h1, h2, h3, -⟩ := h
  exact ⟨A, cap, h1, h2, h3, fun t e => by cases e⟩
theorem wk_sx (n : Nat) (l : List AV) : Wk (.sx n l) (.sl none n l) := fun g w c h => by
  simp only [VRel] at h ⊢
  obtain ⟨A, h1, h2⟩ := h
  exact ⟨A, n, h1, Nat.le_refl _, h2, fun t e => by cases e⟩
theorem wk_nils : Wk .nils (.sl none 0 []) := fun g w c h => by
  simp only [VRel] at h ⊢
  exact ⟨none, 0, h, Nat.le_refl _, .inl trivial, fun t e => by cases e⟩
theorem wk_junk (r : AV) : Wk r .junk := fun _ _ _ _ => by simp [VRel]
def WkL : List AV → List AV → Prop
  | [], [] => True
  | v :: l, v' :: l' => Wk v v' ∧ WkL l l'
  | _, _ => False
theorem WkL.rel {g : G} {w : World} : ∀ {l l' : List AV} {cs : List Value}, WkL l l' → LRel g w l cs → LRel g w l' cs
  | [], [], _, _, h => h
  | v :: l, v' :: l', cs, hw, h => by
    simp only [LRel] at h ⊢
    obtain ⟨c, r, rfl, h1, h2⟩ := h
    exact ⟨c, r, rfl, hw.1 _ _ _ h1, WkL.rel hw.2 h2⟩
  | [], _ :: _, _, hw, _ => hw.elim
  | _ :: _, [], _, hw, _ => hw.elim
theorem wk_agg {l l' : List AV} (h : WkL l l') : Wk (.agg l) (.agg l') := fun g w c hr => by
  simp only [VRel] at hr ⊢
  obtain ⟨cs, h1, h2⟩ := hr
  exact ⟨cs, h1, h.rel h2⟩
theorem wk_tup {l l' : List AV} (h : WkL l l') : Wk (.tup l) (.tup l') := fun g w c hr => by
  simp only [VRel] at hr ⊢
  obtain ⟨cs, h1, h2⟩ := hr
  exact ⟨cs, h1, h.rel h2⟩

/-! ### calls -/
section
variable {P : Program} {N : Nat} {all rest : List Oper} {Q : Env → Hp → Prop} {env : Env} {hp hp' : Hp} {o : Oper}

def evL (env : Env) : List Operand → List AV
  | [] => []
  | x :: l => ev env x :: evL env l
theorem evL_rel {g : G} {w : World} {a : Act} (hE : ERel N g w env a) : ∀ l : List Operand, LRel g w (evL env l) (l.map a.eval)
  | [] => by simp [LRel, evL]
  | x :: l => by
    simp only [List.map_cons, evL, LRel]
    exact ⟨_, _, rfl, ev_rel hE x, evL_rel hE l⟩

/-- H' as a body sees it -/
structure Sees (hp : Hp) (H' : Heap) (hp' : Hp) : Prop where
  all : hp'.all = H'
  k : hp'.loc.length = hp'.k

theorem sees_same {hp : Hp} {g : G} {w : World} (h : HRel g w hp) : Sees hp hp.all hp := ⟨rfl, h.k⟩

theorem HRel.see {g : G} {w : World} {H' : Heap} (h : HRel g w (Hp.of H')) (hs : Sees hp H' hp') : HRel g w hp' := by
  have hz : (Hp.of H').all = H' := by simp [Hp.of, Hp.all]
  refine ⟨?_, hs.k, by rw [hs.all]; simpa [hz] using h.rel, h.lt, by rw [hs.all]; simpa [hz] using h.pend, by rw [hs.all]; simpa [hz] using h.inj⟩
  have h1 := h.n
  have h2 : hp'.all.length = H'.length := by rw [hs.all]
  simp only [Hp.all, List.length_append, hs.k] at h2
  simp only [Hp.of, Nat.add_zero] at h1
  omega

theorem vo_call {d : Nat} {f : Operand} {F : FuncId} {xs : List Operand} {ts : Array TypeId} {fs cs as : List AV} {R : AV → Heap → Prop} (ho : o.op = .call { callee := .value f, args := xs.toArray, argTypes := ts }) (hg : gd all env o = some true) (hd : o.dst = some d) (hN : Nat.blt d N = true)
    (hf : ev env f = .clo (.func F) fs cs) (has : (fs ++ evL env xs) ++ cs = as)
    (hc : VCall P F as hp.all R) (h : ∀ r H', R r H' → ∃ hp', (∀ g w, HRel g w hp → Sees hp H' hp') ∧ VO P N all rest Q ((d, r) :: env) hp') : VO P N all (o :: rest) Q env hp := by
  intro g0 w0 g w a Qc hH hE hx k
  unfold wpList
  rw [if_pos (gd_wanted hE hg)]
  refine .inl ?_
  obtain ⟨⟨fn, h1, h2, h3⟩, hcall⟩ := hc
  have hr := ev_rel hE f
  rw [hf] at hr
  simp only [VRel] at hr
  obtain ⟨f', c', hfv, hfs, hcs⟩ := hr
  have hargs := ((hfs.append (evL_rel hE xs)).append hcs)
  rw [has] at hargs
  unfold Oper.wp
  have hrun : (execOp a.eval o).run P w = .ok (.enter F ((f' ++ (xs.map a.eval).toArray) ++ c')) w := by
    have h2' : fn.name ≠ "runtime.NumGoroutine" := by simpa using h2
    have h3' : fn.body ≠ none := by intro h0; simp [h0] at h3
    simp [execOp, ho, resolve, hfv, Deferred.ofValue, invoke, callFunc, h1, h2', h3']
  rw [hrun, Oper.upon_enter]
  refine (hcall g w _ hH.of (by simpa using hargs)).mono ?_
  rintro e w' ⟨r, H', g', c, rfl, hR, hH', hv, hx'⟩
  obtain ⟨hp', hs, hvo⟩ := h r H' hR
  simp only
  rw [hd]
  exact hvo g0 w0 g' w' _ Qc (hH'.see (hs g w hH)) ((hE.ext hx').put hN hv) (hx.trans hx') (fun e1 h1 g1 a1 w1 q1 q2 q3 q4 q5 => k e1 h1 g1 a1 w1 q1 q2 q3 q4 (by rw [q5]; rfl))

/-- of a function that leaves what was there as it was -/
def VPure (P : Program) (F : FuncId) (as : List AV) (H : Heap) (R : AV → Prop) : Prop := VCall P F as H fun r H' => H' = H ∧ R r

theorem vo_callp {d : Nat} {f : Operand} {F : FuncId} {xs : List Operand} {ts : Array TypeId} {fs cs as : List AV} {R : AV → Prop} (ho : o.op = .call { callee := .value f, args := xs.toArray, argTypes := ts }) (hg : gd all env o = some true) (hd : o.dst = some d) (hN : Nat.blt d N = true)
    (hf : ev env f = .clo (.func F) fs cs) (has : (fs ++ evL env xs) ++ cs = as)
    (hc : VPure P F as hp.all R) (h : ∀ r, R r → VO P N all rest Q ((d, r) :: env) hp) : VO P N all (o :: rest) Q env hp :=
  vo_call ho hg hd hN hf has hc fun r H' ⟨e, hr⟩ => ⟨hp, fun g w hH => by subst e; exact sees_same hH, h r hr⟩

/-- .. and hands back this very value -/
def VDet (P : Program) (F : FuncId) (as : List AV) (H : Heap) (v : AV) : Prop := VPure P F as H fun r => r = v

theorem vo_calld {d : Nat} {f : Operand} {F : FuncId} {xs : List Operand} {ts : Array TypeId} {fs cs as : List AV} {v : AV} (ho : o.op = .call { callee := .value f, args := xs.toArray, argTypes := ts }) (hg : gd all env o = some true) (hd : o.dst = some d) (hN : Nat.blt d N = true)
    (hf : ev env f = .clo (.func F) fs cs) (has : (fs ++ evL env xs) ++ cs = as)
    (hc : VDet P F as hp.all v) (h : VO P N all rest Q ((d, v) :: env) hp) : VO P N all (o :: rest) Q env hp :=
  vo_callp ho hg hd hN hf has hc fun r e => by subst e; exact h

/-! ### the function's end -/
def argEnv : Nat → List AV → Env
  | _, [] => []
  | i, v :: l => (i, v) :: argEnv (i + 1) l

theorem argEnv_get : ∀ (l : List AV) (i s : Nat), get (argEnv i l) s = if i ≤ s then (l[s - i]?).getD .junk else .junk
  | [], i, s => by simp [argEnv, get]
  | v :: l, i, s => by
    unfold argEnv
    by_cases h : i = s
    · subst h
      rw [get_put_same]
      simp
    · rw [get_put_ne _ _ h, argEnv_get l (i + 1) s]
      by_cases h1 : i + 1 ≤ s
      · rw [if_pos h1, if_pos (by omega)]
        rw [show s - i = (s - (i + 1)) + 1 by omega]
        simp
      · rw [if_neg h1, if_neg (by omega)]

theorem argEnv_rel {g : G} {w : World} {args : List AV} {as : Array Value} (h : LRel g w args as.toList) (hN : args.length ≤ N) :
    ERel N g w (argEnv 0 args) { tmps := as ++ Array.replicate (N - as.size) undef, defers := [] } := by
  have hl := h.length
  simp only [Array.length_toList] at hl
  refine ⟨by simp; omega, fun s => ?_⟩
  rw [argEnv_get]
  simp only [Nat.zero_le, if_true, Nat.sub_zero]
  cases hs : args[s]? with
  | none => simp [VRel]
  | some v =>
    obtain ⟨c, h1, h2⟩ := h.get hs
    have hlt : s < as.size := by rw [hl]; exact (List.getElem?_eq_some_iff.1 hs).1
    simp only [Option.getD_some]
    have : (as ++ Array.replicate (N - as.size) undef).getD s undef = c := by
      simp only [Array.getD_eq_getD_getElem?]
      rw [Array.getElem?_append_left hlt]
      simp only [Array.getElem?_toList] at h1
      rw [h1]; rfl
    rw [this]; exact h2

/-- result variable rv holds v -/
def RV (T : TypeId → Option TI) (env : Env) (hp : Hp) : ResultVar → AV → Prop
  | .tmp t, v => nf (get env t) = some v
  | .cell t ty, v => ∃ i k u l l' ti, get env t = .ptr i k ∧ At hp i (.box u l) ∧ dropC k l = some l' ∧ T ty = some ti ∧ loadC ti l' = some v
def RVs (T : TypeId → Option TI) (env : Env) (hp : Hp) : List ResultVar → List AV → Prop
  | [], [] => True
  | r :: rs, v :: vs => RV T env hp r v ∧ RVs T env hp rs vs
  | _, _ => False
def tupOf : List AV → AV
  | [v] => v
  | l => .tup l

def rvF (a : Act) : ResultVar → Sem Value
  | .tmp t => pure (a.tmps.getD t undef)
  | .cell x t => do loadVar t (← asAddr (a.tmps.getD x undef))

theorem rv_run {T : TypeId → Option TI} (hT : TOk P T) {g : G} {w : World} {a : Act} (hH : HRel g w hp) (hE : ERel N g w env a) {r : ResultVar} {v : AV} (h : RV T env hp r v) :
    ∃ c, (rvF a r).run P w = .ok c w ∧ VRel g w v c := by
  cases r with
  | tmp t =>
    simp only [RV] at h
    exact ⟨_, rfl, nf_spec h ▸ hE.2 t⟩
  | cell t ty =>
    obtain ⟨i, k, u, l, l', ti, h1, h2, h3, h4, h5⟩ := h
    have hr := hE.2 t
    rw [h1] at hr
    simp only [VRel] at hr
    obtain ⟨hd1, -⟩ := dropC_eq _ _ _ h3
    have hc := crel_box (o := k) (hH.rel i _ h2)
    rw [hd1] at hc
    obtain ⟨c, h6, h7⟩ := load_run (hT _ _ h4) hc h5
    refine ⟨c, ?_, h7⟩
    have : a.tmps.getD t undef = .pointer (some ⟨g.blk i, k, none⟩) := hr.2
    simp only [rvF, this, asAddr, Sem.run_bind, Sem.run_pure, Result.andThen_ok, h6]

theorem rvs_run {T : TypeId → Option TI} (hT : TOk P T) {g : G} {w : World} {a : Act} (hH : HRel g w hp) (hE : ERel N g w env a) : ∀ {rs : List ResultVar} {vs : List AV}, RVs T env hp rs vs →
    ∃ cs : List Value, (rs.mapM (rvF a)).run P w = .ok cs w ∧ LRel g w vs cs
  | [], [], _ => ⟨[], by simp, by simp [LRel]⟩
  | r :: rs, v :: vs, h => by
    obtain ⟨c, h1, h2⟩ := rv_run hT hH hE h.1
    obtain ⟨cs, h3, h4⟩ := rvs_run hT hH hE h.2
    refine ⟨c :: cs, ?_, by simp only [LRel]; exact ⟨c, cs, rfl, h2, h4⟩⟩
    rw [List.mapM_cons, Sem.run_bind, h1, Result.andThen_ok, Sem.run_bind, h3]
    rfl
  | [], _ :: _, h => h.elim
  | _ :: _, [], h => h.elim

theorem results_run {T : TypeId → Option TI} (hT : TOk P T) {fn : Func} {g : G} {w : World} {a : Act} (hH : HRel g w hp) (hE : ERel N g w env a) {vs : List AV} (h : RVs T env hp fn.results.toList vs) :
    ∃ c, (results fn a.tmps).run P w = .ok c w ∧ VRel g w (tupOf vs) c := by
  obtain ⟨cs, h1, h2⟩ := rvs_run hT hH hE h
  refine ⟨if hz : cs.toArray.size = 1 then cs.toArray[0] else .tuple cs.toArray, ?_, ?_⟩
  · have e : results fn a.tmps = (do
        let vs ← fn.results.mapM (rvF a)
        pure (if h : vs.size = 1 then vs[0] else .tuple vs)) := rfl
    rw [e, Array.mapM_eq_mapM_toList, Sem.run_bind, Sem.run_map, h1]
    rfl
  · match vs, cs, h2 with
    | [], cs, h2 =>
      simp only [LRel] at h2
      subst h2
      simp [tupOf, VRel, LRel]
    | [v], cs, h2 =>
      simp only [LRel] at h2
      obtain ⟨c, r, rfl, h3, rfl⟩ := h2
      simpa [tupOf] using h3
    | v :: u :: vs, cs, h2 =>
      have hl := h2.length
      simp only [tupOf, VRel]
      refine ⟨cs.toArray, ?_, h2⟩
      rw [dif_neg]
      simp only [List.size_toArray, hl, List.length_cons]
      omega

/-- the end of a body: what was there is H' now (own blocks are let go) -/
structure Ends (T : TypeId → Option TI) (rs : List ResultVar) (H : Heap) (R : AV → Heap → Prop) (e : Exit) (env : Env) (hp : Hp) : Prop where
  exit : e = .ret ∨ e = .normal
  len : hp.base.length = H.length
  low : ∀ (i : Nat) B, hp.base[i]? = some B → H[i]? = some B ∨ B.below H.length
  res : ∃ vs r, RVs T env hp rs vs ∧ Wk (tupOf vs) r ∧ below H.length r ∧ R r hp.base

theorem vcall_of {T : TypeId → Option TI} (hT : TOk P T) {f : FuncId} {fn : Func} {c : Code} {args : List AV} {H : Heap} {R : AV → Heap → Prop} (hf : P.funcs[f]? = some fn) (hnm : (fn.name == "runtime.NumGoroutine") = false) (hb : fn.body = some c)
    (hN : args.length ≤ fn.ntmps) (h : VW P fn.ntmps c (Ends T fn.results.toList H R) (argEnv 0 args) (Hp.of H)) : VCall P f args H R := by
  refine ⟨⟨fn, hf, hnm, by simp [hb]⟩, fun g w as hH hl => calls_of_wp hf hb ?_⟩
  refine Code.wp_mono ?_ (h g w _ hH (argEnv_rel hl hN))
  rintro e a' w' ⟨env', hp', g', ⟨hex, hlen, hlow, vs, r, hres, hwk, hbl, hR⟩, hH', hE', hx, hds⟩
  obtain ⟨c', h1, h2⟩ := results_run hT hH' hE' hres
  have hcut := HRel.cutBase hH hH' hlen hlow
  have hgn : g.n = H.length := by rw [hH.n]; simp [Hp.of]
  have hfin : ∃ r H' g'' c, Ending.returned c' = .returned c ∧ R r H' ∧ HRel g'' w' (Hp.of H') ∧ VRel g'' w' r c ∧ Ext g w g'' w' :=
    ⟨r, hp'.base, g'.cut H.length, c', rfl, hR, hcut, VRel.cut r c' (hwk _ _ _ h2) hbl, hx.cut (by omega)⟩
  rcases hex with rfl | rfl
  · exact ⟨hds, c', h1, hfin⟩
  · exact ⟨hds, c', h1, hfin⟩

/-- the end of a body that leaves what was there as it was -/
theorem ends_pure {T : TypeId → Option TI} {rs : List ResultVar} {H : Heap} {R : AV → Prop} {e : Exit} {k : Nat} {loc : Heap} {vs : List AV} {r : AV} (he : e = .ret ∨ e = .normal) (hres : RVs T env ⟨H, k, loc⟩ rs vs) (hw : Wk (tupOf vs) r) (hb : below H.length r) (hR : R r) :
    Ends T rs H (fun r H' => H' = H ∧ R r) e env ⟨H, k, loc⟩ := ⟨he, rfl, fun _ _ h => .inl h, vs, r, hres, hw, hb, rfl, hR⟩

theorem Wk.of_eq {r r' : AV} (h : r = r') : Wk r r' := h ▸ Wk.refl r
theorem ends_det {T : TypeId → Option TI} {rs : List ResultVar} {H : Heap} {v : AV} {e : Exit} {k : Nat} {loc : Heap} (vs : List AV) (he : e = .ret ∨ e = .normal) (hres : RVs T env ⟨H, k, loc⟩ rs vs) (hw : Wk (tupOf vs) v) (hb : below H.length v) :
    Ends T rs H (fun r H' => H' = H ∧ r = v) e env ⟨H, k, loc⟩ := ⟨he, rfl, fun _ _ h => .inl h, vs, v, hres, hw, hb, rfl, rfl⟩

/-! ### exits through what stands around -/
variable {Q' : Exit → Env → Hp → Prop} {K : Env → Hp → Prop}
theorem q_then (h : K env hp) : thenQ K Q' .normal env hp := h
theorem q_then_ret (h : Q' .ret env hp) : thenQ K Q' .ret env hp := h
theorem q_then_exit {i : Nat} (h : Q' (.exit i) env hp) : thenQ K Q' (.exit i) env hp := h
theorem q_block {id : Nat} (h : Q' .normal env hp) : blockQ id Q' .normal env hp := h
theorem q_block_ret {id : Nat} (h : Q' .ret env hp) : blockQ id Q' .ret env hp := h
theorem q_block_exit {i id : Nat} (hb : Nat.beq i id = true) (h : Q' .normal env hp) : blockQ id Q' (.exit i) env hp := by
  simp only [blockQ, hb]; exact h
theorem q_block_out {i id : Nat} (hb : Nat.beq i id = false) (h : Q' (.exit i) env hp) : blockQ id Q' (.exit i) env hp := by
  simp only [blockQ, hb]; exact h
theorem q_nogoto (h : Q' .normal env hp) : noGotoQ Q' .normal env hp := h
theorem q_nogoto_ret (h : Q' .ret env hp) : noGotoQ Q' .ret env hp := h
theorem q_nogoto_exit {i : Nat} (h : Q' (.exit i) env hp) : noGotoQ Q' (.exit i) env hp := h

theorem vw_scope {c : Code} (h : VW P N c (noGotoQ Q') env hp) : VW P N (.scope c) Q' env hp := by
  intro g w a hH hE
  refine wp_scope_straight (Code.wp_mono ?_ (h g w a hH hE))
  rintro e a' w' ⟨env', H', g', q, r⟩
  cases e with
  | goto l => exact q.elim
  | exit i => exact ⟨env', H', g', q, r⟩
  | normal => exact ⟨env', H', g', q, r⟩
  | ret => exact ⟨env', H', g', q, r⟩
  | panic ch => exact ⟨env', H', g', q, r⟩
  | outgrown => exact ⟨env', H', g', q, r⟩

theorem vw_cond_t {c : Operand} {x y : Code} (hc : ev env c = .bool true) (h : VW P N x Q' env hp) : VW P N (.cond c x y) Q' env hp :=
  vw_cond hc (fun _ => h) (fun e => by cases e)
theorem vw_cond_f {c : Operand} {x y : Code} (hc : ev env c = .bool false) (h : VW P N y Q' env hp) : VW P N (.cond c x y) Q' env hp :=
  vw_cond hc (fun e => by cases e) (fun _ => h)

/-! ### loops -/
theorem least {p : Nat → Prop} (h : ∃ n, p n) : ∃ n, p n ∧ ∀ m, p m → n ≤ m := by
  obtain ⟨n, hn⟩ := h
  induction n using Nat.strongRecOn with
  | _ n ih =>
    by_cases hex : ∃ m, m < n ∧ p m
    · obtain ⟨m, hm, hp⟩ := hex
      exact ih m hm hp
    · exact ⟨n, hn, fun m hp => Nat.le_of_not_lt fun hlt => hex ⟨m, hlt, hp⟩⟩

theorem vw_loop {c : Code} (I : Nat → Env → Hp → Prop) (round : ∀ n env hp, I n env hp → VW P N c (thenQ (fun env' hp' => ∃ m, m < n ∧ I m env' hp') Q') env hp) :
    ∀ n env hp, I n env hp → VW P N (.loop c) Q' env hp := by
  intro n0 env0 hp0 hI0 g w a hH hE
  let J : Nat → Act → World → Prop := fun n a' w' => ∃ env' hp' g', I n env' hp' ∧ HRel g' w' hp' ∧ ERel N g' w' env' a' ∧ Ext g w g' w' ∧ a'.defers = a.defers
  refine wp_loop (fun a' w' => ∃ n, J n a' w') (fun a' w' => by classical exact if h : ∃ n, J n a' w' then Classical.choose (least h) else 0) ⟨n0, env0, hp0, g, hI0, hH, hE, Ext.refl g w, rfl⟩ ?_
  intro a1 w1 hex
  have hJ := (Classical.choose_spec (least hex)).1
  obtain ⟨env1, hp1, g1, hI1, hH1, hE1, hx1, hd1⟩ := hJ
  refine Code.wp_mono ?_ (round _ env1 hp1 hI1 g1 w1 a1 hH1 hE1)
  rintro e a2 w2 ⟨env2, hp2, g2, q, hH2, hE2, hx2, hd2⟩
  cases e with
  | normal =>
    obtain ⟨m, hm, hIm⟩ := q
    have hJm : J m a2 w2 := ⟨env2, hp2, g2, hIm, hH2, hE2, hx1.trans hx2, hd2.trans hd1⟩
    have hex2 : ∃ n, J n a2 w2 := ⟨m, hJm⟩
    refine ⟨hex2, ?_⟩
    simp only [hex, hex2, dif_pos]
    exact Nat.lt_of_le_of_lt ((Classical.choose_spec (least hex2)).2 m hJm) hm
  | exit i => exact ⟨env2, hp2, g2, q, hH2, hE2, hx1.trans hx2, hd2.trans hd1⟩
  | goto l => exact ⟨env2, hp2, g2, q, hH2, hE2, hx1.trans hx2, hd2.trans hd1⟩
  | ret => exact ⟨env2, hp2, g2, q, hH2, hE2, hx1.trans hx2, hd2.trans hd1⟩
  | panic ch => exact ⟨env2, hp2, g2, q, hH2, hE2, hx1.trans hx2, hd2.trans hd1⟩
  | outgrown => exact ⟨env2, hp2, g2, q, hH2, hE2, hx1.trans hx2, hd2.trans hd1⟩

/-! ### forgetting -/
theorem vw_env {c : Code} {env' : Env} (h : VW P N c Q' env' hp) (hw : ∀ s, Wk (get env s) (get env' s)) : VW P N c Q' env hp :=
  fun g w a hH hE => h g w a hH ⟨hE.1, fun s => hw s _ _ _ (hE.2 s)⟩

/-- an environment that says less: each of its entries is one of the other's -/
def subEnv (env : Env) : Env → Prop
  | [] => True
  | (i, v) :: e => Wk (get env i) v ∧ subEnv env e
theorem subEnv_get {env : Env} : ∀ {env' : Env}, subEnv env env' → ∀ s, Wk (get env s) (get env' s)
  | [], _, s => wk_junk _
  | (i, v) :: e, h, s => by
    by_cases hs : i = s
    · subst hs
      rw [get_put_same]
      exact h.1
    · rw [get_put_ne _ _ hs]
      exact subEnv_get h.2 s
theorem subEnv_cons {i : Nat} {v : AV} {e : Env} (h : get env i = v) (hs : subEnv env e) : subEnv env ((i, v) :: e) := ⟨by rw [h]; exact Wk.refl v, hs⟩
theorem subEnv_nil : subEnv env [] := trivial
end
end Go.Vsi
