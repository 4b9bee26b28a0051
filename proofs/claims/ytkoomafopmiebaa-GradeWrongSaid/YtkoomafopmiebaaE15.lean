/- A text of the proof: E15. -/
import Derived.Test.YtkoomafopmiebaaE14
set_option linter.unusedSimpArgs false
set_option linter.unusedVariables false
namespace Go.Vsi

/-- room for m boxes to come -/
theorem HRel.room {g : G} {w : World} {base loc : Heap} {k : Nat} (h : HRel g w ⟨base, k, loc⟩) (m : Nat) :
    ∃ g', HRel g' w ⟨base, k + m, loc ++ List.replicate m .dead⟩ ∧ Ext g w g' w ∧ (∀ i, i < m → g'.pend (base.length + k + i)) := by
  have hall : (⟨base, k + m, loc ++ List.replicate m Blk.dead⟩ : Hp).all = (⟨base, k, loc⟩ : Hp).all ++ List.replicate m .dead := by simp [Hp.all]
  have hlen := Hp.all_length h
  have hn := h.n
  simp only at hn
  let g' : G := { g with n := g.n + m, pend := fun i => g.pend i ∨ (g.n ≤ i ∧ i < g.n + m) }
  have hpl : ∀ i, g.pend i → i < g.n := fun i hi => by rw [← hlen]; exact (List.getElem?_eq_some_iff.1 (h.pend i hi)).1
  have hx : Ext g w g' w := ⟨Nat.le_add_right _ _, fun i _ hq => .inl hq, fun i hi => ⟨Nat.lt_of_lt_of_le hi.1 (Nat.le_add_right _ _), fun q => by
    rcases q with q | q
    · exact hi.2 q
    · have := hi.1; omega⟩, fun _ _ => rfl, fun _ _ => .inl rfl, fun _ _ _ h => h, rfl, rfl, rfl, Nat.le_refl _, fun _ _ _ => rfl, fun _ ds _ _ hb => ⟨ds, hb, rfl, fun _ _ => rfl⟩⟩
  have key : ∀ (i : Nat) (B : Blk), ((⟨base, k, loc⟩ : Hp).all ++ List.replicate m .dead)[i]? = some B → (⟨base, k, loc⟩ : Hp).all[i]? = some B ∨ B = .dead := by
    intro i B hi
    rcases Nat.lt_or_ge i (⟨base, k, loc⟩ : Hp).all.length with hlt | hge
    · rw [List.getElem?_append_left hlt] at hi; exact .inl hi
    · rw [List.getElem?_append_right hge] at hi
      have := List.getElem?_eq_some_iff.1 hi
      right
      obtain ⟨q1, q2⟩ := this
      simp at q2
      exact q2.symm
  refine ⟨g', ⟨?_, by simp [h.k], fun i B hi => ?_, h.lt, fun i hi => ?_, fun i j B C b hi hj hb hc => ?_⟩, hx, fun i hi => .inr ⟨by omega, by omega⟩⟩
  · show g.n + m = _
    rw [hn]; simp [Nat.add_assoc]
  · rw [hall] at hi
    rcases key i B hi with h1 | rfl
    · exact (h.rel i B h1).keep hx (at_ok h h1) (fun _ _ => rfl) rfl (fun _ _ _ ho => ho)
    · trivial
  · rw [hall]
    rcases hi with hi | hi
    · have := h.pend i hi
      rw [List.getElem?_append_left (List.getElem?_eq_some_iff.1 this).1, this]
    · rw [List.getElem?_append_right (by omega), hlen]
      simp only [List.getElem?_replicate]
      rw [if_pos (by omega)]
  · rw [hall] at hi hj
    rcases key i B hi with h1 | rfl
    · rcases key j C hj with h2 | rfl
      · exact h.inj i j B C b h1 h2 (by cases B <;> exact hb) (by cases C <;> exact hc)
      · cases hc
    · cases hb

def DR (P : Program) (N : Nat) (hp0 : Hp) (all : List Oper) (rest : List Oper) (ks : List Nat) (env : Env) (hp : Hp) (K : Env → Hp → Prop) : Prop :=
  ∃ ds : List DOp, ds.map (·.o) = rest ∧ ds.map (fun d => kcode d.k) = ks ∧ DF P N hp0 all ds env hp K

section
variable {P : Program} {N : Nat} {Q : Exit → Env → Hp → Prop} {env : Env}

theorem masked_none {s : Nat → Bool} (hs : ∀ i, s i = false) : ∀ (ds : List DOp) (i : Nat), masked s i ds = List.replicate (cntA ds) .dead
  | [], _ => rfl
  | d :: ds, i => by
    have ih := masked_none hs ds (i + 1)
    cases hk : d.k <;> simp [masked, cntA, hk, ih, hs, List.replicate_succ]

theorem vw_draw {id : Nat} {l : List Oper} {base loc : Heap} {k : Nat} (cl ks : List Nat) (hm : P.follows .mixedOrders = true) (hck : drawOk l cl ks = true) (hN : dstOk N l = true)
    (h : DR P N ⟨base, k, loc⟩ l l ks env ⟨base, k, loc⟩ (Q .normal)) : VW P N (.region id l.toArray true) Q env ⟨base, k, loc⟩ := by
  intro g w a hH hE
  obtain ⟨ds, h1, h2, h3⟩ := h
  obtain ⟨hs, f0, f1, f2⟩ := h3.at_
  have hck' := checked_of hck
  have hkk : ∀ (i : Nat) d, ds[i]? = some d → (fun i => ks.getD i 0) i = kcode d.k := by
    intro i d hi
    simp only
    rw [← h2]
    simp [hi]
  refine wp_region_any hm ?_
  obtain ⟨g1, hH1, hx1, hp1⟩ := hH.room (cntA ds)
  have hx0 : Ext g w g w.drew := ⟨Nat.le_refl _, fun _ _ h => h, fun _ h => h, fun _ _ => rfl, fun _ _ => .inl rfl, fun _ _ _ h => h, rfl, rfl, rfl, Nat.le_refl _, fun _ _ _ => rfl, fun _ ds _ _ hb => ⟨ds, hb, rfl, fun _ _ => rfl⟩⟩
  have hx2 : Ext g1 w g1 w.drew := ⟨Nat.le_refl _, fun _ _ h => h, fun _ h => h, fun _ _ => rfl, fun _ _ => .inl rfl, fun _ _ _ h => h, rfl, rfl, rfl, Nat.le_refl _, fun _ _ _ => rfl, fun _ ds _ _ hb => ⟨ds, hb, rfl, fun _ _ => rfl⟩⟩
  have hH2 : HRel g1 w.drew ⟨base, k + cntA ds, loc ++ List.replicate (cntA ds) .dead⟩ := hH1.keepAll hx2 fun _ _ => rfl
  have hlen : l.length = ds.length := by rw [← h1]; simp
  have hfalse : ∀ i, (Array.replicate l.toArray.size false).getD i false = false := by
    intro i
    simp [Array.getElem?_replicate]
    split <;> rfl
  have hcore := draw_core (Qc := Lift N Q g w a.defers) (g0 := g) (w0 := w) (dfs := a.defers) h1 hkk hck' hN hH.k (by rw [hH.n]) f0 f1
    (fun g' w' a' hH' hE' hx' hd' => ⟨_, _, g', f2, hH', hE', hx', hd'⟩)
  refine hcore l.toArray.size (Array.replicate l.toArray.size false) a _ g1 (by simp [hlen]) ?_ ⟨fun i j _ _ _ hj => ?_, hE.1, fun t => ?_, hx1.trans hx2, rfl, .inl ⟨fun i d _ _ => hfalse i, ?_, fun i d B hi hk _ => hp1 _ ?_⟩⟩
  · have : ∀ (s : Nat → Bool) n, cntN s n ≤ n := by
      intro s n
      induction n with
      | zero => simp [cntN]
      | succ n ih => simp only [cntN]; split <;> omega
    have := this (fun i => (Array.replicate l.toArray.size false).getD i false) ds.length
    simp only [List.size_toArray] at this ⊢
    omega
  · rw [hfalse j] at hj; cases hj
  · rw [lastv_none ds 0 _ fun j d _ _ => hfalse _]
    exact VRel.ext (hx1.trans hx2) _ _ (hE.2 t)
  · rw [masked_none hfalse]
    exact hH2
  · have hl := (List.getElem?_eq_some_iff.1 hi).1
    have h4 : cntA (ds.take (i + 1)) ≤ cntA ds := take_cntA_le ds (i + 1)
    rw [take_snoc hi, cntA_append] at h4
    simp only [cntA, hk] at h4
    omega

/-! ### the steps of such a walk -/
variable {hp0 hp hp' : Hp} {all rest : List Oper} {ks : List Nat} {o : Oper} {K : Env → Hp → Prop} {T : TypeId → Option TI}

theorem dr_nil (h : K env hp) : DR P N hp0 all [] [] env hp K := ⟨[], rfl, rfl, h⟩

theorem dr_cons {v : AV} {k : DK} {kc : Nat} (hk : kcode k = kc) (hF : FOp P N hp0 all ⟨o, k, v⟩ env hp hp') (h : DR P N hp0 all rest ks (push ⟨o, k, v⟩ env) hp' K) : DR P N hp0 all (o :: rest) (kc :: ks) env hp K := by
  obtain ⟨ds, h1, h2, h3⟩ := h
  exact ⟨⟨o, k, v⟩ :: ds, by simp [h1], by simp [hk, h2], hp', hF, h3⟩

theorem push_some {d : Nat} {v : AV} {k : DK} (hd : o.dst = some d) : push ⟨o, k, v⟩ env = (d, v) :: env := by simp [push, hd]
theorem push_none {v : AV} {k : DK} (hd : o.dst = none) : push ⟨o, k, v⟩ env = env := by simp [push, hd]

theorem xok_of_step {v : AV} (h : Step P N hp env o v hp) : XOk P N hp env o v := by
  intro g w a hH hE K Qc k
  obtain ⟨c, g', w', h1, h2, h3, h4⟩ := h g w a hH hE
  unfold Oper.wp
  rw [h1, Oper.upon_value]
  exact k g' w' c h2 h3 h4

theorem ev_agree {ts : List Nat} {e e' : Env} (h : Agree ts e e') {x : Operand} (hx : ∀ t, x = .tmp t → t ∈ ts) : ev e' x = ev e x := by
  cases x with
  | tmp t => exact h t (hx t rfl)
  | _ => rfl

/-- which slots an operation's operands name -/
def opTs (op : Op) : List Nat := op.operands.toList.filterMap fun | .tmp t => some t | _ => none
theorem opTs_looks (all : List Oper) (o : Oper) : ∀ t, t ∈ opTs o.op → t ∈ looks all o := fun t ht => by
  unfold looks
  exact List.mem_append.2 (.inl ht)
theorem ev_agree_op {e e' : Env} {op : Op} (h : Agree (opTs op) e e') {x : Operand} (hx : x ∈ op.operands.toList) : ev e' x = ev e x :=
  ev_agree h fun t ht => by
    subst ht
    unfold opTs
    exact List.mem_filterMap.2 ⟨_, hx, rfl⟩

theorem stepV_agree {e e' : Env} {op : Op} (h : Agree (opTs op) e e') {v : AV} (hv : stepV T e op = some v) : stepV T e' op = some v := by
  have ea : ∀ x, x ∈ op.operands.toList → ev e' x = ev e x := fun x hx => ev_agree_op h hx
  rw [← hv]
  unfold stepV
  split <;> simp only [Op.operands, Call.operands] at ea
  · rw [ea _ (by simp)]
  · rw [ea _ (by simp)]
  · rename_i c x y
    rw [ea c (by simp), ea x (by simp), ea y (by simp)]
  · rename_i op t x y u
    rw [ea x (by simp), ea y (by simp)]
  · rw [ea _ (by simp)]
  · rw [ea _ (by simp)]
  · rw [ea _ (by simp)]
  · rw [ea _ (by simp)]
  · rw [ea _ (by simp)]
  · rw [ea _ (by simp)]
  · rw [ea _ (by simp)]
  · rename_i x y _
    rw [ea x (by simp), ea y (by simp)]
  · rename_i x y _
    rw [ea x (by simp), ea y (by simp)]
  · rfl
end
end Go.Vsi
