/- A text of the proof: R6. -/
import Derived.Test.YtkoomafopmiebaaR5
set_option linter.unusedSimpArgs false
set_option linter.unusedVariables false
namespace Go.Vsi

abbrev QR := Exit → RE → RE → Heap → Nat → Heap → Prop

def LS (n0 : Nat) (Q : QR) : Exit → Env → Hp → Prop :=
  fun e env hp => ∃ top bot base k loc, Apx n0 env (top ++ bot) ∧ hp = ⟨base, k, loc⟩ ∧ base.length = n0 ∧ Q e top bot base k loc

/-- in a loop, at a round's begin -/
def LoopWp (P : Program) (c : Code) (Q : Exit → Act → World → Prop) (a : Act) (w : World) : Prop :=
  ∀ (b : Frame) (k : List Item) (cs : List Frame), ∃ e a' w', Q e a' w' ∧ Arrives P (lone (b.at a (.code c :: .inLoop c :: k)) cs w) b k cs e a' w'
section
variable {P : Program} {c : Code} {Q : Exit → Act → World → Prop} {a : Act} {w : World}
theorem LoopWp.loop (h : LoopWp P c Q a w) : (Code.loop c).wp P Q a w := by
  intro b k cs
  obtain ⟨e, a', w', hq, harr⟩ := h b k cs
  exact ⟨e, a', w', hq, .of_steps (.one step_loop) harr⟩
theorem LoopWp.mono {Q' : Exit → Act → World → Prop} (h : LoopWp P c Q a w) (hq : ∀ e a w, Q e a w → Q' e a w) : LoopWp P c Q' a w :=
  fun b k cs => let ⟨e, a', w', q, r⟩ := h b k cs; ⟨e, a', w', hq _ _ _ q, r⟩
theorem LoopWp.peel (h : c.wp P (fun e a w => match e with
    | .normal => LoopWp P c Q a w
    | e => Q e a w) a w) : LoopWp P c Q a w := by
  intro b k cs
  obtain ⟨e, a₁, w₁, hq, harr⟩ := h b (.inLoop c :: k) cs
  cases e with
  | normal =>
    obtain ⟨e₂, a₂, w₂, hq₂, harr₂⟩ := hq b k cs
    exact ⟨e₂, a₂, w₂, hq₂, .of_steps (Steps.trans harr (.one step_inLoop)) harr₂⟩
  | exit id => exact ⟨_, a₁, w₁, hq, .pass (x := .inLoop c) rfl (fun _ _ => .inl (by simp)) harr⟩
  | goto l => exact ⟨_, a₁, w₁, hq, .pass (x := .inLoop c) rfl (fun _ _ => .inl (by simp)) harr⟩
  | ret => exact ⟨_, a₁, w₁, hq, .pass (x := .inLoop c) rfl (fun _ _ => .inl (by simp)) harr⟩
  | panic ch => exact ⟨_, a₁, w₁, hq, .pass (x := .inLoop c) rfl (fun _ _ => .inl (by simp)) harr⟩
  | outgrown => exact ⟨_, a₁, w₁, hq, .pass (x := .inLoop c) rfl (fun _ _ => .inl (by simp)) harr⟩
theorem LoopWp.inv (I : Act → World → Prop) (μ : Act → World → Nat) (h₀ : I a w) (round : ∀ a w, I a w → c.wp P (fun e a' w' => match e with
    | .normal => I a' w' ∧ μ a' w' < μ a w
    | e => Q e a' w') a w) : LoopWp P c Q a w := by
  have key : ∀ n a w, μ a w = n → I a w → LoopWp P c Q a w := by
    intro n
    induction n using Nat.strongRecOn with
    | _ n ih =>
      intro a w hn hI
      refine LoopWp.peel (Code.wp_mono ?_ (round a w hI))
      intro e a' w' h
      cases e with
      | normal => exact ih _ (hn ▸ h.2) a' w' rfl h.1
      | exit id => exact h
      | goto l => exact h
      | ret => exact h
      | panic ch => exact h
      | outgrown => exact h
  exact key _ a w rfl h₀
end
def VL (P : Program) (N : Nat) (c : Code) (Q : Exit → Env → Hp → Prop) (env : Env) (H : Hp) : Prop :=
  ∀ g w a, HRel g w H → ERel N g w env a → LoopWp P c (Lift N Q g w a.defers) a w

structure LoopN (P : Program) (kn : TypeId → Nat) (T : TypeId → Option TI) (N n0 : Nat) (c : Code) (Q : QR) (top bot : RE) (base : Heap) (k : Nat) (loc : Heap) : Prop where
  h : VL P N c (LS n0 Q) (trE n0 (top ++ bot)) ⟨base, k, loc⟩

def wpC (P : Program) (kn : TypeId → Nat) (T : TypeId → Option TI) (N n0 : Nat) (c : Code) : QR → RE → RE → Heap → Nat → Heap → Prop :=
  @Code.rec (fun _ => QR → RE → RE → Heap → Nat → Heap → Prop)
    (fun Q top bot base k loc => Q .normal top bot base k loc)
    (fun _ ops dr Q top bot base k loc => match ops with
      | ⟨ops⟩ => match dr with
        | false => wpO P kn T N n0 bot ops ops (fun top base k loc => Q .normal top bot base k loc) top base k loc
        | true => wpD P kn T N n0 bot ops base loc ops (fun top k loc => Q .normal top bot base k loc) [] top k loc)
    (fun _ _ iha ihb Q top bot base k loc => iha (fun e top bot base k loc => match e with
      | .normal => ihb Q top bot base k loc
      | e => Q e top bot base k loc) top bot base k loc)
    (fun c _ _ ihx ihy Q top bot base k loc => match c with
      | .tmp t => match rget2 top bot t with
        | some (.lit true) => ihx Q top bot base k loc
        | some (.lit false) => ihy Q top bot base k loc
        | some (.v (.bool b)) => IfN b (ihx Q ((t, .lit true) :: top) bot base k loc) (ihy Q ((t, .lit false) :: top) bot base k loc)
        | _ => False
      | .const (.bool true) => ihx Q top bot base k loc
      | .const (.bool false) => ihy Q top bot base k loc
      | _ => False)
    (fun id _ ih Q top bot base k loc => ih (fun e top bot base k loc => match e with
      | .exit i => match Nat.beq i id with
        | true => Q .normal top bot base k loc
        | false => Q (.exit i) top bot base k loc
      | e => Q e top bot base k loc) top bot base k loc)
    (fun c _ Q top bot base k loc => LoopN P kn T N n0 c Q top bot base k loc)
    (fun _ _ _ _ _ _ _ _ _ _ _ _ => False)
    (fun id Q top bot base k loc => Q (.exit id) top bot base k loc)
    (fun _ ih Q top bot base k loc => ih (fun e top bot base k loc => match e with
      | .goto _ => False
      | e => Q e top bot base k loc) top bot base k loc)
    (fun _ Q top bot base k loc => Q .normal top bot base k loc)
    (fun _ _ _ _ _ _ _ => False)
    (fun Q top bot base k loc => Q .ret top bot base k loc)
    (fun _ _ _ _ _ _ _ => False) c

section
variable {P : Program} {N : Nat} {n0 : Nat} {T : TypeId → Option TI} {kn : TypeId → Nat}

theorem vw_mono {c : Code} {Q Q' : Exit → Env → Hp → Prop} {env : Env} {hp : Hp} (h : VW P N c Q env hp) (hq : ∀ e env H, Q e env H → Q' e env H) : VW P N c Q' env hp := h.mono hq

theorem df_mono {hp0 : Hp} {all : List Oper} {K K' : Env → Hp → Prop} (hK : ∀ e hp, K e hp → K' e hp) : ∀ {ds : List DOp} {e : Env} {hp : Hp}, DF P N hp0 all ds e hp K → DF P N hp0 all ds e hp K'
  | [], e, hp, h => hK e hp h
  | d :: ds, e, hp, ⟨hp', h1, h2⟩ => ⟨hp', h1, df_mono hK h2⟩
theorem dr_mono {hp0 : Hp} {all rest : List Oper} {ks : List Nat} {K K' : Env → Hp → Prop} {e : Env} {hp : Hp} (hK : ∀ e hp, K e hp → K' e hp) (h : DR P N hp0 all rest ks e hp K) : DR P N hp0 all rest ks e hp K' := by
  obtain ⟨ds, h1, h2, h3⟩ := h
  exact ⟨ds, h1, h2, df_mono hK h3⟩

theorem wpC_sound (he : Env0 P T kn) (hm : P.follows .mixedOrders = true) : ∀ (c : Code) (Q : QR) (top bot : RE) (base : Heap) (k : Nat) (loc : Heap), base.length = n0 → wpC P kn T N n0 c Q top bot base k loc → VW P N c (LS n0 Q) (trE n0 (top ++ bot)) ⟨base, k, loc⟩
  | .skip, Q, top, bot, base, k, loc, hn, h => vw_skip ⟨top, bot, base, k, loc, Apx.refl _ _, rfl, hn, h⟩
  | .label _, Q, top, bot, base, k, loc, hn, h => vw_label ⟨top, bot, base, k, loc, Apx.refl _ _, rfl, hn, h⟩
  | .exit id, Q, top, bot, base, k, loc, hn, h => vw_exit ⟨top, bot, base, k, loc, Apx.refl _ _, rfl, hn, h⟩
  | .ret, Q, top, bot, base, k, loc, hn, h => vw_ret ⟨top, bot, base, k, loc, Apx.refl _ _, rfl, hn, h⟩
  | .region id ⟨ops⟩ false, Q, top, bot, base, k, loc, hn, h => by
    refine vw_region (wpO_sound he ?_ ops top base k loc hn h)
    intro top base k loc hn h
    exact ⟨top, bot, base, k, loc, Apx.refl _ _, rfl, hn, h⟩
  | .region id ⟨ops⟩ true, Q, top, bot, base, k, loc, hn, h => by
    obtain ⟨ks, h1, h2⟩ := wpD_sound (N := N) (k0 := k) he hn ops [] top k loc (fun _ => ⟨[], by simp, by simp⟩) h
    simp only [List.reverse_nil, List.nil_append, Bool.and_eq_true] at h1
    refine vw_draw (closOf ops) ks hm h1.1 h1.2 (dr_mono ?_ h2)
    rintro env hp ⟨top, k, loc, e1, rfl, e2⟩
    exact ⟨top, bot, base, k, loc, e1, rfl, hn, e2⟩
  | .seq a b, Q, top, bot, base, k, loc, hn, h => by
    refine vw_seq (vw_mono (wpC_sound he hm a _ top bot base k loc hn h) ?_)
    rintro e env hp ⟨top, bot, base, k, loc, h1, rfl, h3, h4⟩
    cases e with
    | normal => exact vw_env (wpC_sound he hm b Q top bot base k loc h3 h4) h1
    | exit i => exact ⟨top, bot, base, k, loc, h1, rfl, h3, h4⟩
    | goto i => exact ⟨top, bot, base, k, loc, h1, rfl, h3, h4⟩
    | ret => exact ⟨top, bot, base, k, loc, h1, rfl, h3, h4⟩
    | panic i => exact ⟨top, bot, base, k, loc, h1, rfl, h3, h4⟩
    | outgrown => exact ⟨top, bot, base, k, loc, h1, rfl, h3, h4⟩
  | .cond c x y, Q, top, bot, base, k, loc, hn, h => by
    simp only [wpC] at h
    split at h
    · rename_i t
      split at h
      · rename_i hc
        exact vw_cond_t (rget2_get hc) (wpC_sound he hm x Q top bot base k loc hn h)
      · rename_i hc
        exact vw_cond_f (rget2_get hc) (wpC_sound he hm y Q top bot base k loc hn h)
      · rename_i b hc
        refine vw_cond (rget2_get hc) (fun e => ?_) (fun e => ?_)
        · subst e
          exact vw_env (wpC_sound he hm x Q _ bot base k loc hn (h.t rfl)) (fun s => Wk.of_eq (lit_get hc s))
        · subst e
          exact vw_env (wpC_sound he hm y Q _ bot base k loc hn (h.f rfl)) (fun s => Wk.of_eq (lit_get hc s))
      · exact h.elim
    · exact vw_cond_t rfl (wpC_sound he hm x Q top bot base k loc hn h)
    · exact vw_cond_f rfl (wpC_sound he hm y Q top bot base k loc hn h)
    · exact h.elim
  | .block id c, Q, top, bot, base, k, loc, hn, h => by
    refine vw_block (vw_mono (wpC_sound he hm c _ top bot base k loc hn h) ?_)
    rintro e env hp ⟨top, bot, base, k, loc, h1, rfl, h3, h4⟩
    cases e with
    | normal => exact ⟨top, bot, base, k, loc, h1, rfl, h3, h4⟩
    | exit i =>
      simp only [blockQ] at h4 ⊢
      split at h4
      · rename_i hb; simp only [hb]; exact ⟨top, bot, base, k, loc, h1, rfl, h3, h4⟩
      · rename_i hb; simp only [hb]; exact ⟨top, bot, base, k, loc, h1, rfl, h3, h4⟩
    | goto i => exact ⟨top, bot, base, k, loc, h1, rfl, h3, h4⟩
    | ret => exact ⟨top, bot, base, k, loc, h1, rfl, h3, h4⟩
    | panic i => exact ⟨top, bot, base, k, loc, h1, rfl, h3, h4⟩
    | outgrown => exact ⟨top, bot, base, k, loc, h1, rfl, h3, h4⟩
  | .loop c, Q, top, bot, base, k, loc, hn, h => fun g w a hH hE => (h.h g w a hH hE).loop
  | .scope c, Q, top, bot, base, k, loc, hn, h => by
    refine vw_scope (vw_mono (wpC_sound he hm c _ top bot base k loc hn h) ?_)
    rintro e env hp ⟨top, bot, base, k, loc, h1, rfl, h3, h4⟩
    cases e with
    | normal => exact ⟨top, bot, base, k, loc, h1, rfl, h3, h4⟩
    | exit i => exact ⟨top, bot, base, k, loc, h1, rfl, h3, h4⟩
    | goto i => exact h4.elim
    | ret => exact ⟨top, bot, base, k, loc, h1, rfl, h3, h4⟩
    | panic i => exact ⟨top, bot, base, k, loc, h1, rfl, h3, h4⟩
    | outgrown => exact ⟨top, bot, base, k, loc, h1, rfl, h3, h4⟩
  | .rangeFunc _ _ _ _, _, _, _, _, _, _, _, h => h.elim
  | .goto _, _, _, _, _, _, _, _, h => h.elim
  | .refuse _, _, _, _, _, _, _, _, h => h.elim

/-! ### freezing: boxes of the call's own that nobody writes any more -/
def Blk.isLoc : Blk → Bool
  | .box _ _ => true
  | .mp _ _ => true
  | _ => false
def G.frz (g : G) (n0 : Nat) (loc : Heap) : G :=
  { g with own := fun b o => g.own b o ∧ ∀ j B, loc[j]? = some B → B.isLoc = true → b ≠ g.blk (n0 + j) }

mutual
inductive Frz (n0 : Nat) (loc : Heap) : AV → AV → Prop where
  | refl (v : AV) : Frz n0 loc v v
  | ptr {j o : Nat} {t : TypeId} {l l' l'' : List AV} : lget loc j = some (.box t l) → dropC o l = some l' → FrzL n0 loc l' l'' → Frz n0 loc (.ptr (n0 + j) o) (.rptr l'')
  | clo {f : Fn} {fs fs' cs cs' : List AV} : FrzL n0 loc fs fs' → FrzL n0 loc cs cs' → Frz n0 loc (.clo f fs cs) (.clo f fs' cs')
  | agg {l l' : List AV} : FrzL n0 loc l l' → Frz n0 loc (.agg l) (.agg l')
  | tup {l l' : List AV} : FrzL n0 loc l l' → Frz n0 loc (.tup l) (.tup l')
  | sl {tok : Option Nat} {n : Nat} {l l' : List AV} : FrzL n0 loc l l' → Frz n0 loc (.sl tok n l) (.sl none n l')
  | sx {n : Nat} {l l' : List AV} : FrzL n0 loc l l' → Frz n0 loc (.sx n l) (.sx n l')
  | ms {j o n : Nat} {t : TypeId} {l l' l'' : List AV} : lget loc j = some (.box t l) → dropC o l = some l' → FrzL n0 loc l' l'' → Frz n0 loc (.ms (n0 + j) o n) (.sl none n l'')
  | mp {j : Nat} {ks vs ks' vs' : List AV} : lget loc j = some (.mp ks vs) → FrzL n0 loc ks ks' → FrzL n0 loc vs vs' → Frz n0 loc (.mp (n0 + j)) (.rmp ks' vs')
inductive FrzL (n0 : Nat) (loc : Heap) : List AV → List AV → Prop where
  | nil : FrzL n0 loc [] []
  | cons {v v' : AV} {l l' : List AV} : Frz n0 loc v v' → FrzL n0 loc l l' → FrzL n0 loc (v :: l) (v' :: l')
end

theorem frz_extV (g : G) (w : World) (n0 : Nat) (loc : Heap) : ExtV g w (g.frz n0 loc) w :=
  ⟨fun _ h => h, fun _ _ => rfl, fun _ _ => .inl rfl, fun hc ho => ⟨hc, fun q => ho q.1⟩, fun hb ho => ⟨hb, fun o q => ho o q.1⟩⟩

mutual
theorem Frz.rel {g : G} {w : World} {base : Heap} {k : Nat} {loc : Heap} (hH : HRel g w ⟨base, k, loc⟩) : ∀ {v v' : AV}, Frz base.length loc v v' → ∀ c, VRel g w v c → VRel (g.frz base.length loc) w v' c
  | _, _, .refl v, c, h => VRel.extV (frz_extV _ _ _ _) v c h
  | _, _, @Frz.ptr _ _ j o t l l' l'' h1 h2 h3, c, h => by
    simp only [VRel] at h ⊢
    obtain ⟨hok, rfl⟩ := h
    have hat : (⟨base, k, loc⟩ : Hp).all[base.length + j]? = some (.box t l) := at_loc h1
    obtain ⟨cs, e1, e2, e3⟩ := hH.rel _ _ hat
    obtain ⟨hd1, hd2⟩ := dropC_eq _ _ _ h2
    have e2' := e2.drop o
    rw [hd1] at e2'
    have e4 := FrzL.rel hH h3 _ e2'
    refine ⟨_, _, rfl, MRel.mk fun q v hq => ?_⟩
    obtain ⟨c', q1, q2⟩ := e4.get hq
    rw [List.getElem?_drop] at q1
    refine ⟨c', cell_iff.2 ⟨cs, t, _, e1, by simpa using q1⟩, q2, fun ho => ?_⟩
    rw [lget_eq] at h1
    exact ho.2 j _ h1 rfl rfl
  | _, _, .clo h1 h2, c, h => by
    simp only [VRel] at h ⊢
    obtain ⟨f', c', hc, e1, e2⟩ := h
    exact ⟨f', c', hc, FrzL.rel hH h1 _ e1, FrzL.rel hH h2 _ e2⟩
  | _, _, .agg h1, c, h => by
    simp only [VRel] at h ⊢
    obtain ⟨cs, hc, e1⟩ := h
    exact ⟨cs, hc, FrzL.rel hH h1 _ e1⟩
  | _, _, .tup h1, c, h => by
    simp only [VRel] at h ⊢
    obtain ⟨cs, hc, e1⟩ := h
    exact ⟨cs, hc, FrzL.rel hH h1 _ e1⟩
  | _, _, @Frz.sl _ _ tok n l l' h1, c, h => by
    simp only [VRel] at h ⊢
    obtain ⟨A, cap, hc, hn, hm, -⟩ := h
    refine ⟨A, cap, hc, hn, ?_, fun t e => by cases e⟩
    rcases hm with rfl | ⟨b, o, hA, hm⟩
    · cases h1; exact .inl rfl
    · exact .inr ⟨b, o, hA, FrzL.mrel hH h1 b o hm⟩
  | _, _, @Frz.sx _ _ n l l' h1, c, h => by
    simp only [VRel] at h ⊢
    obtain ⟨A, hc, hm⟩ := h
    refine ⟨A, hc, ?_⟩
    rcases hm with rfl | ⟨b, o, hA, hm⟩
    · cases h1; exact .inl rfl
    · exact .inr ⟨b, o, hA, FrzL.mrel hH h1 b o hm⟩
  | _, _, @Frz.ms _ _ j o n t l l' l'' h1 h2 h3, c, h => by
    simp only [VRel] at h ⊢
    obtain ⟨hok, cap, hn, rfl⟩ := h
    have hat : (⟨base, k, loc⟩ : Hp).all[base.length + j]? = some (.box t l) := at_loc h1
    obtain ⟨cs, e1, e2, e3⟩ := hH.rel _ _ hat
    obtain ⟨hd1, hd2⟩ := dropC_eq _ _ _ h2
    have e2' := e2.drop o
    rw [hd1] at e2'
    have e4 := FrzL.rel hH h3 _ e2'
    refine ⟨_, _, rfl, hn, .inr ⟨_, _, rfl, MRel.mk fun q v hq => ?_⟩, fun t e => by cases e⟩
    obtain ⟨c', q1, q2⟩ := e4.get hq
    rw [List.getElem?_drop] at q1
    refine ⟨c', cell_iff.2 ⟨cs, t, _, e1, by simpa using q1⟩, q2, fun ho => ?_⟩
    rw [lget_eq] at h1
    exact ho.2 j _ h1 rfl rfl
  | _, _, @Frz.mp _ _ j ks vs ks' vs' h1 h2 h3, c, h => by
    simp only [VRel] at h ⊢
    obtain ⟨hok, rfl⟩ := h
    have hat : (⟨base, k, loc⟩ : Hp).all[base.length + j]? = some (.mp ks vs) := at_loc h1
    obtain ⟨es, clk, e1, e2, e3, e4⟩ := hH.rel _ _ hat
    rw [lget_eq] at h1
    exact ⟨_, es, clk, rfl, e1, fun o ho => ho.2 j _ h1 rfl rfl, FrzL.rel hH h2 _ e2, FrzL.rel hH h3 _ e3⟩
theorem FrzL.rel {g : G} {w : World} {base : Heap} {k : Nat} {loc : Heap} (hH : HRel g w ⟨base, k, loc⟩) : ∀ {l l' : List AV}, FrzL base.length loc l l' → ∀ cs, LRel g w l cs → LRel (g.frz base.length loc) w l' cs
  | _, _, .nil, cs, h => by simpa [LRel] using h
  | _, _, .cons h1 h2, cs, h => by
    simp only [LRel] at h ⊢
    obtain ⟨c, r, hc, e1, e2⟩ := h
    exact ⟨c, r, hc, Frz.rel hH h1 c e1, FrzL.rel hH h2 r e2⟩
theorem FrzL.mrel {g : G} {w : World} {base : Heap} {k : Nat} {loc : Heap} (hH : HRel g w ⟨base, k, loc⟩) : ∀ {l l' : List AV}, FrzL base.length loc l l' → ∀ b o, MRel g w l b o → MRel (g.frz base.length loc) w l' b o
  | _, _, .nil, b, o, h => by simp [MRel]
  | _, _, .cons h1 h2, b, o, h => by
    simp only [MRel] at h ⊢
    obtain ⟨⟨c, e1, e2, e3⟩, e4⟩ := h
    exact ⟨⟨c, e1, Frz.rel hH h1 c e2, fun q => e3 q.1⟩, FrzL.mrel hH h2 b (o + 1) e4⟩
end

/-- the call's own boxes are let go, frozen -/
theorem HRel.frz {g : G} {w : World} {base : Heap} {k : Nat} {loc : Heap} (h : HRel g w ⟨base, k, loc⟩) {H : Heap} {g0 : G} {w0 : World} (h0 : HRel g0 w0 (Hp.of H)) (hl : base.length = H.length)
    (hb : ∀ (i : Nat) B, base[i]? = some B → H[i]? = some B ∨ B.below H.length) : HRel ((g.frz base.length loc).cut H.length) w (Hp.of base) := by
  have hz : (Hp.of base).all = base := by simp [Hp.of, Hp.all]
  have hc := HRel.cutBase h0 h hl hb
  have hall : ∀ (i : Nat) B, base[i]? = some B → (⟨base, k, loc⟩ : Hp).all[i]? = some B := fun i B hi => by
    unfold Hp.all
    rw [List.getElem?_append_left (List.getElem?_eq_some_iff.1 hi).1, hi]
  have hne : ∀ {i : Nat} {B : Blk} {b : Nat}, base[i]? = some B → locs g i B = some b → ∀ j C, loc[j]? = some C → C.isLoc = true → b ≠ g.blk (base.length + j) := by
    intro i B b hi hb j C hj hC e
    have hj' : (⟨base, k, loc⟩ : Hp).all[base.length + j]? = some C := at_loc (by rw [lget_eq]; exact hj)
    have := h.inj i (base.length + j) B _ b (hall i B hi) hj' hb (by rw [e]; cases C <;> simp_all [Blk.isLoc, locs])
    have := (List.getElem?_eq_some_iff.1 hi).1
    omega
  refine ⟨hc.n, hc.k, fun i B hi => ?_, fun b o hb => hc.lt b o hb.1, hc.pend, hc.inj⟩
  have hr := hc.rel i B hi
  rw [hz] at hi
  cases B with
  | box t l =>
    obtain ⟨cs, e1, e2, e3⟩ := hr
    exact ⟨cs, e1, LRel.extV (frz_extV (g.cut H.length) w base.length loc) l _ e2, fun o => ⟨e3 o, hne hi rfl⟩⟩
  | tok e sz len =>
    obtain ⟨e1, e2, e3⟩ := hr
    refine ⟨e1, e2, ?_⟩
    rcases e3 with e3 | ⟨b, cs, q1, q2, q3, q4, q5, q6⟩
    · exact .inl e3
    · exact .inr ⟨b, cs, q1, q2, q3, q4, q5, fun o ho => ⟨q6 o ho, hne hi q1⟩⟩
  | mp ks vs =>
    obtain ⟨es, clk, e1, e2, e3, e4⟩ := hr
    exact ⟨es, clk, e1, LRel.extV (frz_extV (g.cut H.length) w base.length loc) ks _ e2, LRel.extV (frz_extV (g.cut H.length) w base.length loc) vs _ e3, fun o => ⟨e4 o, hne hi rfl⟩⟩
  | dead => trivial

theorem Ext.frz {g g' : G} {w w' : World} {n0 : Nat} {loc : Heap} (h : Ext g w g' w') : Ext g w (g'.frz n0 loc) w' :=
  ⟨h.n, h.pend, h.ok, h.blk, h.tk, fun b o hb ho => h.own b o hb ho.1, h.os, h.tape, h.output, h.size, h.same, h.cells⟩
end
end Go.Vsi
