/- A text of the proof: the parts R5, R15, R6, R7, R8, R9, R10, R11, R12, R13, R14, R16. -/
import Derived.IntWalk
import Derived.Test.YtejegcmnddedmaaGreatDoorK3
set_option linter.unusedSimpArgs false
set_option linter.unusedVariables false
/-! text R5 -/
namespace Go.Vsi

section
variable {P : Program} {N : FN} {n0 : Nat} {T : TypeId → Option TI} {kn : TypeId → Nat}

theorem dr_gt [Glob] {I : Hp → Prop} {all rest : List Oper} {ks : List Nat} {o : Oper} {env : Env} {hp hp' : Hp} {K : Env → Hp → Prop} {d : Nat} {v : AV} (h1 : ∀ env', Agree (opTs o.op) env env' → WOk P N hp hp' env' o v) (hX : I hp') (hg : gd all env o = some true) (hd : o.dst = some d)
    (h : DR P N I all rest ks ((d, v) :: env) hp' K) : DR P N I all (o :: rest) (4 :: ks) env hp K := by
  refine dr_cons (v := v) (k := .w true) (hp' := hp') rfl ?_ (by rw [push_some hd]; exact h)
  unfold FOp
  simp only [hg]
  exact ⟨fun _ => hX, fun env' ha => h1 env' (agree_op ha)⟩
theorem gd_congr {all : List Oper} {o : Oper} {e e' : Env} (h : ∀ s, get e s = get e' s) : gd all e' o = gd all e o := by
  unfold gd
  simp only [h]

theorem fop_congr [Glob] {I : Hp → Prop} {all : List Oper} {d : DOp} {e e' : Env} {hp hp' : Hp} (h : ∀ s, get e s = get e' s) (hf : FOp P N I all d e hp hp') : FOp P N I all d e' hp hp' := by
  have hag : ∀ ts env', Agree ts e' env' → Agree ts e env' := fun ts env' ha t ht => by rw [ha t ht, h]
  unfold FOp at hf ⊢
  rw [gd_congr h]
  cases hgd : gd all e d.o with
  | none => simp only [hgd] at hf
  | some b =>
    simp only [hgd] at hf ⊢
    cases b with
    | false => exact hf
    | true =>
      simp only at hf ⊢
      cases hk : d.k with
      | r => simp only [hk] at hf ⊢; exact ⟨fun env' ha => hf.1 env' (hag _ _ ha), hf.2⟩
      | m => simp only [hk] at hf ⊢; exact ⟨fun env' ha => hf.1 env' (hag _ _ ha), hf.2⟩
      | a B => simp only [hk] at hf ⊢; exact ⟨hf.1, hf.2.1, fun env' ha => hf.2.2.1 env' (hag _ _ ha), hf.2.2.2⟩
      | w => simp only [hk] at hf ⊢; exact ⟨hf.1, fun env' ha => hf.2 env' (hag _ _ ha)⟩

theorem df_congr [Glob] {I : Hp → Prop} {all : List Oper} {K : Env → Hp → Prop} (hK : ∀ e1 e2 hp, (∀ s, get e1 s = get e2 s) → K e1 hp → K e2 hp) : ∀ {ds : List DOp} {e e' : Env} {hp : Hp}, (∀ s, get e s = get e' s) → DF P N I all ds e hp K → DF P N I all ds e' hp K
  | [], e, e', hp, h, hd => hK e e' hp h hd
  | d :: ds, e, e', hp, h, ⟨hp', h1, h2⟩ => by
    refine ⟨hp', fop_congr h h1, df_congr hK (fun s => ?_) h2⟩
    rw [get_push, get_push, h]

theorem dr_congr [Glob] {I : Hp → Prop} {all rest : List Oper} {ks : List Nat} {K : Env → Hp → Prop} {e e' : Env} {hp : Hp} (hK : ∀ e1 e2 hp, (∀ s, get e1 s = get e2 s) → K e1 hp → K e2 hp) (h : ∀ s, get e s = get e' s) (hd : DR P N I all rest ks e hp K) : DR P N I all rest ks e' hp K := by
  obtain ⟨ds, h1, h2, h3⟩ := hd
  exact ⟨ds, h1, h2, df_congr hK h h3⟩

/-! ### an operation looks at its operands alone -/
def restrR (ts : List Nat) (top bot : RE) : RE := ts.filterMap fun t => (rget2 top bot t).map fun v => (t, v)
theorem restrR_get {top bot : RE} {t : Nat} : ∀ {ts : List Nat}, rgetO (restrR ts top bot) t = if t ∈ ts then rget2 top bot t else none
  | [] => by simp [restrR, rgetO]
  | s :: ts => by
    have ih := restrR_get (top := top) (bot := bot) (t := t) (ts := ts)
    unfold restrR at ih ⊢
    rw [List.filterMap_cons]
    by_cases hst : s = t
    · subst hst
      cases hv : rget2 top bot s with
      | none =>
        simp only [hv, Option.map_none]
        rw [ih]
        simp [hv]
      | some v => simp [rgetO, hv]
    · cases hv : rget2 top bot s with
      | none => simp only [hv, Option.map_none]; rw [ih]; simp [Ne.symm hst]
      | some v =>
        have hb : Nat.beq s t = false := by
          cases hb : Nat.beq s t
          · rfl
          · exact absurd (Nat.eq_of_beq_eq_true hb) hst
        simp only [hv, Option.map_some, rgetO, hb, ih, List.mem_cons, Ne.symm hst, false_or]

theorem restr_apx [Glob] {g : G} {w : World} {a : Act} {ts : List Nat} {top bot : RE} {env' : Env} (ha : Agree ts (trE n0 (top ++ bot)) env') (hE : ERel N g w env' a) : ERel N g w (trE n0 (restrR ts top bot ++ [])) a := by
  refine ⟨hE.1, fun s => ?_, hE.ro, hE.glob⟩
  cases hv : rgetO (restrR ts top bot) s with
  | none =>
    rw [List.append_nil]
    have := rgetO_none (n0 := n0) hv []
    simp only [List.append_nil] at this
    rw [this]
    simp [get, VRel]
  | some v =>
    have h1 := rgetO_get (n0 := n0) hv []
    simp only [List.append_nil] at h1
    rw [List.append_nil, h1]
    rw [restrR_get] at hv
    split at hv
    · rename_i hs
      rw [← rget2_get hv, ← ha s hs]
      exact hE.rel s
    · cases hv

theorem restr_ev [Glob] {ts : List Nat} {top bot : RE} {x : Operand} (hx : ∀ t, x = .tmp t → t ∈ ts) : evR (restrR ts top bot) [] x = evR top bot x := by
  cases x with
  | tmp t =>
    change (match rgetO (restrR ts top bot) t with
      | some v => some v
      | none => rgetO [] t) = rget2 top bot t
    rw [restrR_get, if_pos (hx t rfl)]
    cases rget2 top bot t <;> rfl
  | const c => rfl
  | func f => rfl
  | global g => rfl

theorem restr_op [Glob] {top bot : RE} {op : Op} {x : Operand} (hx : x ∈ op.operands.toList) : evR (restrR (opTs op) top bot) [] x = evR top bot x :=
  restr_ev fun t ht => by
    subst ht
    unfold opTs
    exact List.mem_filterMap.2 ⟨_, hx, rfl⟩

theorem avL_congr [Glob] {t1 b1 t2 b2 : RE} : ∀ {l : List Operand}, (∀ x ∈ l, evR t1 b1 x = evR t2 b2 x) → avL n0 t1 b1 l = avL n0 t2 b2 l
  | [], _ => rfl
  | x :: l, h => by simp only [avL, av]; rw [h x (by simp), avL_congr fun y hy => h y (by simp [hy])]
theorem avP_congr [Glob] {t1 b1 t2 b2 : RE} : ∀ {l : List (Nat × Operand)}, (∀ p ∈ l, evR t1 b1 p.2 = evR t2 b2 p.2) → avP n0 t1 b1 l = avP n0 t2 b2 l
  | [], _ => rfl
  | (i, x) :: l, h => by simp only [avP, av]; rw [h (i, x) (by simp), avP_congr fun y hy => h y (by simp [hy])]

theorem avF_congr [Glob] {t1 b1 t2 b2 : RE} {x : Operand} (h : evR t1 b1 x = evR t2 b2 x) : avF n0 t1 b1 x = avF n0 t2 b2 x := by unfold avF; rw [h]
theorem avLF_congr [Glob] {t1 b1 t2 b2 : RE} : ∀ {l : List Operand}, (∀ x ∈ l, evR t1 b1 x = evR t2 b2 x) → avLF n0 t1 b1 l = avLF n0 t2 b2 l
  | [], _ => rfl
  | x :: l, h => by simp only [avLF]; rw [avF_congr (h x (by simp)), avLF_congr fun y hy => h y (by simp [hy])]
theorem avPF_congr [Glob] {t1 b1 t2 b2 : RE} : ∀ {l : List (Nat × Operand)}, (∀ p ∈ l, evR t1 b1 p.2 = evR t2 b2 p.2) → avPF n0 t1 b1 l = avPF n0 t2 b2 l
  | [], _ => rfl
  | (i, x) :: l, h => by simp only [avPF]; rw [avF_congr (h (i, x) (by simp)), avPF_congr fun y hy => h y (by simp [hy])]

theorem stepS_restr [Glob] {top bot : RE} {loc : Heap} {op : Op} : stepS kn T n0 (restrR (opTs op) top bot) [] loc op = stepS kn T n0 top bot loc op := by
  have ea : ∀ x, x ∈ op.operands.toList → evR (restrR (opTs op) top bot) [] x = evR top bot x := fun x hx => restr_op hx
  generalize restrR (opTs op) top bot = top' at ea ⊢
  have ea' : ∀ x, x ∈ op.operands.toList → av n0 top' [] x = av n0 top bot x := fun x hx => by unfold av; rw [ea x hx]
  unfold stepS
  split <;> try simp only [Op.operands, Call.operands] at ea ea'
  · rw [ea _ (by simp)]
  · rw [ea _ (by simp)]
  · rename_i op t x y u; rw [ea' x (by simp), ea' y (by simp)]
  · rw [ea' _ (by simp)]
  · rw [ea' _ (by simp)]
  · rw [ea' _ (by simp)]
  · rw [ea' _ (by simp)]
  · rw [ea' _ (by simp)]
  · rw [ea _ (by simp)]
  · rw [ea' _ (by simp)]
  · rw [ea _ (by simp)]
  · rw [ea _ (by simp)]
  · rename_i t x y; rw [ea x (by simp), avF_congr (ea y (by simp))]
  · rfl
  · rw [avF_congr (ea _ (by simp))]
  · rename_i t ps
    rw [avPF_congr fun p hp => ea p.2 (by simp only [List.mem_map]; exact ⟨p, hp, rfl⟩)]
  · rename_i t n ps
    rw [avPF_congr fun p hp => ea p.2 (by simp only [List.mem_map]; exact ⟨p, hp, rfl⟩)]
  · rename_i t x y; rw [ea x (by simp), ea' y (by simp)]
  · rename_i fn fs cs
    rw [avLF_congr (l := fs) fun x hx => ea x (by simp; exact .inl hx), avLF_congr (l := cs) fun x hx => ea x (by simp; exact .inr hx)]
  · rename_i t x low high max
    have ho : ∀ q : Option Operand, (∀ y, q = some y → y ∈ (x :: (low.toList ++ (high.toList ++ max.toList)))) → avO n0 top' [] q = avO n0 top bot q := fun q hq => by
      cases q with
      | none => rfl
      | some y => simp only [avO]; rw [ea' y (by have := hq y rfl; simpa using this)]
    rw [ea' x (by simp), ho low (by intro y hy; simp [hy]), ho high (by intro y hy; simp [hy]), ho max (by intro y hy; simp [hy])]
  · rename_i t x y; rw [ea' x (by simp), ea' y (by simp)]
  · rename_i t x y; rw [ea' x (by simp), ea' y (by simp)]
  · rfl
  · rename_i t x y ok; rw [ea' x (by simp), avF_congr (ea y (by simp))]
  · rename_i t x y z; rw [ea' x (by simp), avF_congr (ea y (by simp)), avF_congr (ea z (by simp))]
  · rename_i t x y z; rw [ea' x (by simp), avF_congr (ea y (by simp)), avF_congr (ea z (by simp))]
  · rw [ea' _ (by simp)]
  · rw [ea _ (by simp)]
  · rw [ea _ (by simp)]
  · rw [ea' _ (by simp)]
  · rename_i x y t u; rw [ea' x (by simp), ea' y (by simp)]
  · rename_i x y ts; rw [ea' x (by simp), ea' y (by simp)]
  · rename_i x y ts; rw [ea' x (by simp), ea' y (by simp)]
  · rename_i f xs ts
    rw [avLF_congr (l := xs) fun x hx => ea x (by simp; exact .inr hx), ea' f (by simp)]
  · rfl

theorem step_restr [Glob] {hp hp' : Hp} {o : Oper} {v : AV} {top bot : RE} {env' : Env} (ha : Agree (opTs o.op) (trE n0 (top ++ bot)) env') (h : Step P N hp (trE n0 (restrR (opTs o.op) top bot ++ [])) o v hp') : Step P N hp env' o v hp' :=
  fun g w a hH hE => h g w a hH (restr_apx ha hE)

theorem wpSD_leaf [Glob] {W : List Nat} {st : DM} {base loc0 b1 : Heap} {k : Nat} {loc : Heap} {K : Nat → Option RG → Heap → Nat → Heap → Prop} : ∀ (s : SR), wpSD W st P n0 base loc0 b1 k loc K s → ∃ r, Res n0 (dBase st base b1) s r ∧ leaf r = true ∧ wpSD W st P n0 base loc0 b1 k loc K r
  | .fail, h => h.elim
  | .reg v, h => ⟨_, .refl _, rfl, h⟩
  | .mem v, h => ⟨_, .refl _, rfl, h⟩
  | .box t l, h => ⟨_, .refl _, rfl, h⟩
  | .upd j B v, h => ⟨_, .refl _, rfl, h⟩
  | .updB i B v, h => ⟨_, .refl _, rfl, h⟩
  | .blk B v, h => ⟨_, .refl _, rfl, h⟩
  | .call f as, h => ⟨_, .refl _, rfl, h⟩
  | .anyU j S, h => h.elim
  | .blkU S v, h => h.elim
  | .rel S kk, h => by
    obtain ⟨y, z, h1, h2⟩ := h
    obtain ⟨r, h3, h4⟩ := wpSD_leaf (kk y z) h2
    exact ⟨r, .rel h1 h3, h4⟩
  | .side p s, h => by
    obtain ⟨r, h1, h2⟩ := wpSD_leaf s h.rest
    exact ⟨r, .side h.side h1, h2⟩
  | .ptr i kl kb, h => by
    cases h with
    | loc j h1 h2 =>
      obtain ⟨r, h3, h4⟩ := wpSD_leaf (kl j) h2
      exact ⟨r, .ptrL h1 h3, h4⟩
    | base B h1 h2 =>
      obtain ⟨r, h3, h4⟩ := wpSD_leaf (kb B) h2
      exact ⟨r, .ptrB h1 h3, h4⟩
  | .seg l o kk, h => by
    obtain ⟨l', h1, h2⟩ := h
    obtain ⟨r, h3, h4⟩ := wpSD_leaf (kk l') h2
    exact ⟨r, .seg h1 h3, h4⟩
  | .ofs i n kk, h => by
    obtain ⟨m, h1, h2, h3⟩ := h
    obtain ⟨r, h4, h5⟩ := wpSD_leaf (kk m) h3
    exact ⟨r, .ofs h1 h2 h4, h5⟩
  | .eqv x kk, h => by
    obtain ⟨y, h1, h2⟩ := h
    obtain ⟨r, h3, h4⟩ := wpSD_leaf (kk y) h2
    exact ⟨r, .eqv h1 h3, h4⟩
  | .sub l o n kk, h => by
    obtain ⟨y, h1, h2⟩ := h
    obtain ⟨r, h3, h4⟩ := wpSD_leaf (kk y) h2
    exact ⟨r, .sub h1 h3, h4⟩
  | .nat i kk, h => by
    obtain ⟨y, h1, h2⟩ := h
    obtain ⟨r, h3, h4⟩ := wpSD_leaf (kk y) h2
    exact ⟨r, .nat h1 h3, h4⟩
  | .byte s i kk, h => by
    obtain ⟨y, h1, h2⟩ := h
    obtain ⟨r, h3, h4⟩ := wpSD_leaf (kk y) h2
    exact ⟨r, .byte h1 h3, h4⟩
  | .or a b, h => by
    rcases h with h | h
    · obtain ⟨r, h3, h4⟩ := wpSD_leaf a h
      exact ⟨r, .orl h3, h4⟩
    · obtain ⟨r, h3, h4⟩ := wpSD_leaf b h
      exact ⟨r, .orr h3, h4⟩

theorem putN_reg {d : Option Nat} {v : RG} {top : RE} {K : RE → Prop} (h : putN N.n d (some v) top K) : ∃ d', d = some d' ∧ Nat.blt d' N.n = true ∧ K ((d', v) :: top) := by
  unfold putN at h
  split at h
  · simp only at h
    split at h
    · rename_i hb; exact ⟨_, rfl, hb, h⟩
    · exact h.elim
  · exact h.elim
theorem putN_none {d : Option Nat} {top : RE} {K : RE → Prop} (h : putN N.n d none top K) : d = none ∧ K top := by
  unfold putN at h
  split at h
  · exact h.elim
  · exact ⟨rfl, h⟩

/-- the memory is that ahead of the region, and more -/
def Tame (W : List Nat) (loc0 : Heap) (k0 : Nat) (loc : Heap) (k : Nat) : Prop := ∃ l1 X, Tq W loc0 l1 ∧ loc = l1 ++ X ∧ k = k0 + X.length
def IW (W : List Nat) (base : Heap) (k0 : Nat) (loc0 : Heap) : Hp → Prop := fun hp => ∃ l1 X, Tq W loc0 l1 ∧ hp = ⟨base, k0 + X.length, l1 ++ X⟩
theorem Tame.refl (W : List Nat) (loc : Heap) (k : Nat) : Tame W loc k loc k := ⟨loc, [], Tq.refl _, by simp, by simp⟩
theorem Tame.iw {W : List Nat} {base loc0 loc : Heap} {k0 k : Nat} (h : Tame W loc0 k0 loc k) : IW W base k0 loc0 ⟨base, k, loc⟩ := by
  obtain ⟨l1, X, hq, rfl, rfl⟩ := h
  exact ⟨l1, X, hq, rfl⟩
theorem Tame.snoc {W : List Nat} {loc0 loc loc' : Heap} {k0 k : Nat} {B : Blk} (h : Tame W loc0 k0 loc k) (hl : snocC loc B = some loc') : Tame W loc0 k0 loc' (k + 1) := by
  obtain ⟨l1, X, hq, rfl, rfl⟩ := h
  exact ⟨l1, X ++ [B], hq, by rw [snocC_eq _ _ _ hl, List.append_assoc], by simp; omega⟩
theorem Tame.set {W : List Nat} {loc0 loc loc' : Heap} {k0 k j : Nat} {B : Blk} (h : Tame W loc0 k0 loc k) (hj : inW W j = false → tokAt loc j B = true) (hl : lset loc j B = some loc') : Tame W loc0 k0 loc' k := by
  obtain ⟨l1, X, hq, rfl, rfl⟩ := h
  rw [(lset_eq _ _ _ _ hl).1]
  rcases Nat.lt_or_ge j l1.length with h | h
  · rw [List.set_append_left _ _ h]
    cases hw : inW W j with
    | true => exact ⟨l1.set j B, X, hq.set (B := B) j (fun e => by rw [hw] at e; cases e), rfl, rfl⟩
    | false =>
      obtain ⟨C, hC, h1, h2⟩ := tokAt_spec (hj hw)
      refine ⟨l1.set j B, X, hq.set (B := C) j (fun _ => ⟨?_, h1, h2⟩), rfl, rfl⟩
      rw [lget_eq] at hC ⊢
      rwa [List.getElem?_append_left h] at hC
  · rw [List.set_append_right _ _ h]
    exact ⟨l1, X.set (j - l1.length) B, hq, rfl, by simp⟩

/-- one operation of a drawn region -/
theorem dr_R [Glob] (he : Env0 P T kn) {W : List Nat} {st : DM} {base loc0 b1 : Heap} {k0 k : Nat} {loc locS : Heap} (hn : base.length = n0) (hn1 : b1.length = n0) {all rest : List Oper} {o : Oper} {top bot : RE} {K' : Env → Hp → Prop} {K : Nat → RE → Heap → Nat → Heap → Prop}
    (hg : gd all (trE n0 (top ++ bot)) o = some true) (hS : locS = match st with
      | .pure => loc0
      | .store => loc
      | .app => loc) (hst : st = .pure → dmOf o.op = .pure ∧ rdOk W top bot o.op = true)
    (h : wpSD W st P n0 base loc0 b1 k loc (fun c v b1 k loc => putN N.n o.dst v top fun top => K c top b1 k loc) (stepS kn T n0 top bot locS o.op))
    : ∃ c top' b2 k' loc', b2.length = n0 ∧ K c top' b2 k' loc' ∧ (c ≠ 3 → b1 = base ∧ Tame W loc0 k0 loc k → b2 = base ∧ Tame W loc0 k0 loc' k') ∧ ∀ ks, (c = 4 → b1 = base ∧ Tame W loc0 k0 loc k) → DR P N (IW W base k0 loc0) all rest ks (trE n0 (top' ++ bot)) ⟨b2, k', loc'⟩ K' → DR P N (IW W base k0 loc0) all (o :: rest) (c :: ks) (trE n0 (top ++ bot)) ⟨b1, k, loc⟩ K' := by
  obtain ⟨r, h1, h2, h3⟩ := wpSD_leaf _ h
  have h1' := h1
  rw [← stepS_restr] at h1'
  have hdb : (dBase st base b1).length = n0 := by cases st <;> assumption
  cases r with
  | reg v =>
    simp only [wpSD] at h3
    obtain ⟨d, hd, hb, hk⟩ := putN_reg h3
    have hlf := step_leaf (N := N) (k := k) he hdb rfl h1' h2
    exact ⟨_, _, _, _, _, hn1, hk, fun _ h => h, fun ks _ hdr => dr_r (fun env' ha hp => step_restr ha (hlf hp)) hg hd hdr⟩
  | mem v =>
    simp only [wpSD] at h3
    cases st with
    | store => exact h3.elim
    | app => exact h3.elim
    | pure =>
    simp only at hS
    subst hS
    obtain ⟨d, hd, hb, hk⟩ := putN_reg h3
    exact ⟨_, _, _, _, _, hn1, hk, fun _ h => h, fun ks _ hdr => dr_m (fun env' ha hp hI => by
      obtain ⟨l1, X, hq, rfl⟩ := hI
      exact xok_of_step (step_restr ha (step_leaf (N := N) (k := k0) (loc := l1) he hn rfl (by rw [stepS_restr, ← stepS_tq hq (hst rfl).1 (hst rfl).2]; exact h1) h2 X))) hg hd hdr⟩
  | box t l =>
    simp only [wpSD] at h3
    split at h3
    · rename_i loc' hl
      obtain ⟨d, hd, hb, hk⟩ := putN_reg h3
      have hlf := step_leaf (N := N) (k := k) he hdb rfl h1' h2
      refine ⟨_, _, _, _, _, hn1, hk, fun _ h => ⟨h.1, h.2.snoc hl⟩, fun ks _ hdr => dr_a (B := .box t l) (fun env' ha g w a hE => hlf g w a (restr_apx ha hE)) hl hg hd ?_⟩
      rw [hn1]; exact hdr
    · exact h3.elim
  | upd j B v =>
    simp only [wpSD] at h3
    cases st with
    | pure => exact h3.elim
    | app =>
      simp only at hS h3
      subst hS
      cases v with
      | none => exact h3.elim
      | some v =>
      simp only at h3
      split at h3
      · exact h3.elim
      · rename_i hj
        split at h3
        · rename_i loc' hl
          obtain ⟨d, hd, hb, hk⟩ := putN_reg h3
          have hlf := step_leaf (N := N) (k := k) he hdb rfl h1' h2
          refine ⟨_, _, _, _, _, hn1, hk, fun _ h => ⟨h.1, h.2.set (fun _ => hj) hl⟩, fun ks ht hdr => ?_⟩
          obtain ⟨hb1, ht2⟩ := ht rfl
          subst hb1
          exact dr_x (hp' := ⟨b1, k, loc'⟩) (fun env' ha => step_restr ha (hlf loc' hl)) (ht2.set (fun _ => hj) hl).iw hg hd hdr
        · exact h3.elim
    | store =>
    simp only at hS h3
    subst hS
    cases v with
    | some v => exact h3.elim
    | none =>
    simp only at h3
    split at h3
    · rename_i loc' hl
      have hlf := step_leaf (N := N) (k := k) he hdb rfl h1' h2
      cases hw : inW W j with
      | false =>
        simp only [hw] at h3
        obtain ⟨hd, hk⟩ := putN_none h3
        exact ⟨_, _, _, _, _, hn1, hk, fun h => absurd rfl h, fun ks _ hdr => dr_w (hp' := ⟨b1, k, loc'⟩) (fun env' ha g w a hH hE => hlf loc' hl g w a hH (restr_apx ha hE)) hg hd hdr⟩
      | true =>
        simp only [hw] at h3
        obtain ⟨hd, hk⟩ := putN_none h3
        have hnw : inW W j = false → tokAt locS j B = true := fun e => by rw [hw] at e; cases e
        refine ⟨_, _, _, _, _, hn1, hk, fun _ h => ⟨h.1, h.2.set hnw hl⟩, fun ks ht hdr => ?_⟩
        obtain ⟨hb1, ht2⟩ := ht rfl
        subst hb1
        exact dr_wt (hp' := ⟨b1, k, loc'⟩) (fun env' ha g w a hH hE => hlf loc' hl g w a hH (restr_apx ha hE)) (ht2.set hnw hl).iw hg hd hdr
    · exact h3.elim
  | updB i B v =>
    simp only [wpSD] at h3
    cases st with
    | pure => exact h3.elim
    | store =>
      simp only at hS h3
      subst hS
      cases v with
      | some v => exact h3.elim
      | none =>
      obtain ⟨b2, hset, h3⟩ := h3
      subst hset
      obtain ⟨hd, hk⟩ := putN_none h3
      have hlf := step_leaf (N := N) (k := k) he hdb rfl h1' h2
      exact ⟨_, _, _, _, _, by simpa using hn1, hk, fun h => absurd rfl h, fun ks _ hdr => dr_w (hp' := ⟨b1.set i B, k, locS⟩) (fun env' ha g w a hH hE => hlf g w a hH (restr_apx ha hE)) hg hd hdr⟩
    | app =>
      simp only at hS h3
      subst hS
      cases v with
      | none => exact h3.elim
      | some v =>
      obtain ⟨b2, hset, h3⟩ := h3
      subst hset
      obtain ⟨d, hd, hb, hk⟩ := putN_reg h3
      have hlf := step_leaf (N := N) (k := k) he hdb rfl h1' h2
      refine ⟨_, _, _, _, _, by simpa using hn1, hk, fun h => absurd rfl h, fun ks _ hdr => dr_g (hp' := ⟨b1.set i B, k, locS⟩) (fun env' ha g w a hH hE K Qc kk => ?_) hg hd hdr⟩
      obtain ⟨c, g', w', e1, e2, e3, e4⟩ := hlf g w a hH (restr_apx ha hE)
      exact opIn_value e1 (kk g' w' c e2 e3 e4)
  | blk B v =>
    simp only [wpSD] at h3
    cases st with
    | pure => exact h3.elim
    | store => exact h3.elim
    | app =>
    simp only at hS h3
    subst hS
    split at h3
    · rename_i loc' hl
      obtain ⟨d, hd, hb, hk⟩ := putN_reg h3
      have hlf := step_leaf (N := N) (k := k) he hdb rfl h1' h2
      refine ⟨_, _, _, _, _, hn1, hk, fun _ h => ⟨h.1, h.2.snoc hl⟩, fun ks ht hdr => ?_⟩
      obtain ⟨hb1, ht2⟩ := ht rfl
      subst hb1
      refine dr_x (hp' := ⟨b1, k + 1, loc'⟩) (fun env' ha => ?_) ?_ hg hd hdr
      · rw [snocC_eq _ _ _ hl]
        exact step_restr ha hlf
      · exact (ht2.snoc hl).iw
    · exact h3.elim
  | anyU j S => exact h3.elim
  | blkU S v => exact h3.elim
  | call fn as =>
    simp only [wpSD] at h3
    cases st with
    | store => exact h3.elim
    | app => exact h3.elim
    | pure =>
    have hlf := step_leaf (N := N) (k := k) he hdb rfl h1' h2
    obtain ⟨f, xs, ts, fs, cs, ws, ho, hf, has, hw⟩ := hlf
    cases h3 with
    | det v hc hk =>
      obtain ⟨d, hd, hb, hk⟩ := putN_reg hk
      refine ⟨_, _, _, _, _, hn1, hk, fun _ h => h, fun ks _ hdr => dr_m (fun env' ha hp hI => ?_) hg hd hdr⟩
      obtain ⟨l1, X, hq, rfl⟩ := hI
      intro g w a hH hE K Qc kk
      have hE' := restr_apx ha hE
      have hall : (⟨base, k0 + X.length, l1 ++ X⟩ : Hp).all = base ++ l1 ++ X := by simp [Hp.all]
      have hof := hH.of
      rw [hall] at hof
      refine call_wp ho hf (hw g w a hE') has (hc l1 hq X) hof hE' ?_
      rintro r H' g' w' c ⟨rfl, rfl⟩ hH' hv hx'
      exact kk g' w' c (hH'.see (hp := ⟨base, k0, l1⟩) ⟨hall, hH.k⟩) hv hx'
    | fix v b2 loc2 k2 hc hb2 hk2 hk =>
      obtain ⟨d, hd, hb, hk⟩ := putN_reg hk
      refine ⟨_, _, _, _, _, hb2, hk, fun h => absurd rfl h, fun ks _ hdr => dr_g (hp' := ⟨b2, k2, loc2⟩) (fun env' ha => ?_) hg hd hdr⟩
      intro g w a hH hE K Qc kk
      have hE' := restr_apx ha hE
      refine call_wp ho hf (hw g w a hE') has hc hH.of hE' ?_
      rintro r H' g' w' c ⟨rfl, rfl⟩ hH' hv hx'
      exact kk g' w' c (hH'.see (hp := ⟨b1, k, loc⟩) ⟨rfl, hk2⟩) hv hx'
    | app v X loc2 x hc hb2 hl2 hx2 hk =>
      obtain ⟨d, hd, hb, hk⟩ := putN_reg hk
      subst hl2 hx2
      have htk : Tame W loc0 k0 loc k → Tame W loc0 k0 (loc ++ X) (k + X.length) := by
        rintro ⟨l1, Y, hq, rfl, rfl⟩
        exact ⟨l1, Y ++ X, hq, by rw [List.append_assoc], by simp [Nat.add_assoc]⟩
      refine ⟨_, _, _, _, _, hb2, hk, fun _ h => ⟨h.1, htk h.2⟩, fun ks ht hdr => ?_⟩
      obtain ⟨hb1, ht2⟩ := ht rfl
      subst hb1
      refine dr_gt (hp' := ⟨b1, k + X.length, loc ++ X⟩) (fun env' ha => ?_) (htk ht2).iw hg hd hdr
      intro g w a hH hE K Qc kk
      have hE' := restr_apx ha hE
      have hlk := hH.k
      refine call_wp ho hf (hw g w a hE') has hc hH.of hE' ?_
      rintro r H' g' w' c ⟨rfl, rfl⟩ hH' hv hx'
      exact kk g' w' c (hH'.see (hp := ⟨b1, k, loc⟩) ⟨rfl, by simp only [List.length_append]; simp only at hlk; omega⟩) hv hx'
  | fail => cases h2
  | side _ _ => cases h2
  | ptr _ _ _ => cases h2
  | seg _ _ _ => cases h2
  | ofs _ _ _ => cases h2
  | eqv _ _ => cases h2
  | sub _ _ _ _ => cases h2
  | nat _ _ => cases h2
  | byte _ _ _ => cases h2
  | or _ _ => cases h2
  | rel _ _ => cases h2

def KD (n0 : Nat) (bot : RE) (K : RE → Heap → Nat → Heap → Prop) : Env → Hp → Prop := fun env hp => ∃ top b1 k loc, Apx n0 env (top ++ bot) ∧ hp = ⟨b1, k, loc⟩ ∧ b1.length = n0 ∧ K top b1 k loc
theorem KD.congr {bot : RE} {K : RE → Heap → Nat → Heap → Prop} (e1 e2 : Env) (hp : Hp) (h : ∀ s, get e1 s = get e2 s) (hk : KD n0 bot K e1 hp) : KD n0 bot K e2 hp := by
  obtain ⟨top, b1, k, loc, h1, h2, h3, h4⟩ := hk
  exact ⟨top, b1, k, loc, fun s => by rw [← h]; exact h1 s, h2, h3, h4⟩

theorem pick_agree [Glob] {env env' : Env} {o : Oper} {c x y : Operand} {b : Bool} {hp : Hp} (ho : o.op = .pick c x y) (ha : Agree (opTs o.op) env env') (hc : ev env c = .bool b) : Step P N hp env' o (ev env (if b then x else y)) hp := by
  have e1 : ev env' c = ev env c := ev_agree_op ha (by rw [ho]; simp [Op.operands])
  have e2 : ev env' (if b then x else y) = ev env (if b then x else y) := ev_agree_op ha (by rw [ho]; cases b <;> simp [Op.operands])
  rw [← e2]
  exact pick_step ho (by rw [e1]; exact hc)

theorem wpD_sound [Glob] (he : Env0 P T kn) {W : List Nat} {bot : RE} {all : List Oper} {base loc0 : Heap} {k0 : Nat} (hn : base.length = n0) {K : RE → Heap → Nat → Heap → Prop} :
    ∀ (rest : List Oper) (ks : List Nat) (top : RE) (b1 : Heap) (k : Nat) (loc : Heap), b1.length = n0 → (3 ∉ ks → b1 = base ∧ Tame W loc0 k0 loc k) → wpD W P kn T N n0 bot all base loc0 rest K ks top b1 k loc →
      ∃ ks', (drawOk all (closOf all) (ks.reverse ++ ks') && dstOk N.n all) = true ∧ DR P N (IW W base k0 loc0) all rest ks' (trE n0 (top ++ bot)) ⟨b1, k, loc⟩ (KD n0 bot K)
  | [], ks, top, b1, k, loc, hn1, _, h => ⟨[], by rw [List.append_nil]; exact h.side, dr_nil ⟨top, b1, k, loc, Apx.refl _ _, rfl, hn1, h.rest⟩⟩
  | o :: rest, ks, top, b1, k, loc, hn1, htm, h => by
    have ih := wpD_sound he (W := W) (bot := bot) (all := all) (loc0 := loc0) (k0 := k0) (K := K) hn rest
    have h : guardN bot all o top
      (opD W P kn T N n0 bot o base loc0 b1 k loc (fun c top b1 k loc => wpD W P kn T N n0 bot all base loc0 rest K (c :: ks) top b1 k loc))
      (fun top => skipN N.n o.dst top fun top => wpD W P kn T N n0 bot all base loc0 rest K (0 :: ks) top b1 k loc) := h
    obtain ⟨top', he', h1⟩ := guard_cases (n0 := n0) h
    suffices hs : ∃ ks', (drawOk all (closOf all) (ks.reverse ++ ks') && dstOk N.n all) = true ∧ DR P N (IW W base k0 loc0) all (o :: rest) ks' (trE n0 (top' ++ bot)) ⟨b1, k, loc⟩ (KD n0 bot K) by
      obtain ⟨ks', e1, e2⟩ := hs
      exact ⟨ks', e1, dr_congr KD.congr (fun s => (he' s).symm) e2⟩
    have hks : ∀ (c : Nat) (ks' : List Nat), (c :: ks).reverse ++ ks' = ks.reverse ++ (c :: ks') := by simp
    rcases h1 with ⟨hg, hx⟩ | ⟨hg, hx⟩
    · have fin : ∀ (st : DM) (locS : Heap), (locS = match st with
          | .pure => loc0
          | .store => loc
          | .app => loc) → (st = .pure → dmOf o.op = .pure ∧ rdOk W top' bot o.op = true) → wpSD W st P n0 base loc0 b1 k loc (fun c v b1 k loc => putN N.n o.dst v top' fun top => wpD W P kn T N n0 bot all base loc0 rest K (c :: ks) top b1 k loc) (stepS kn T n0 top' bot locS o.op) →
          ∃ ks', (drawOk all (closOf all) (ks.reverse ++ ks') && dstOk N.n all) = true ∧ DR P N (IW W base k0 loc0) all (o :: rest) ks' (trE n0 (top' ++ bot)) ⟨b1, k, loc⟩ (KD n0 bot K) := by
        intro st locS hS hst hw
        obtain ⟨c, top2, b2, k2, loc2, hb2, hk, htm2, hdr⟩ := dr_R (k0 := k0) (rest := rest) (K' := KD n0 bot K) he hn hn1 hg hS hst hw
        obtain ⟨ks', e1, e2⟩ := ih _ _ _ _ _ hb2 (fun h3 => by
          rw [List.mem_cons, not_or] at h3
          exact htm2 (fun e => h3.1 e.symm) (htm h3.2)) hk
        rw [hks] at e1
        refine ⟨c :: ks', e1, hdr ks' (fun hc => htm fun h3 => ?_) e2⟩
        subst hc
        rw [Bool.and_eq_true] at e1
        exact drawOk_tame e1.1 (List.mem_reverse.2 h3)
      unfold opD at hx
      split at hx
      · rename_i c x y ho
        obtain ⟨b, hc, hp⟩ := pick_cases hx
        obtain ⟨d, v, hd, hv, hb, hk⟩ := putS_some hp
        obtain ⟨ks', e1, e2⟩ := ih _ _ _ _ _ hn1 (fun h3 => htm (fun h => h3 (List.mem_cons_of_mem _ h))) hk
        refine ⟨0 :: ks', by rw [← hks]; exact e1, dr_r (v := tr n0 v) (fun env' ha hp => ?_) hg hd e2⟩
        have := pick_agree (P := P) (N := N) (hp := hp) ho ha hc
        rwa [evR_ev hv] at this
      · split at hx
        · exact fin .store _ rfl (fun e => by cases e) hx
        · exact fin .app _ rfl (fun e => by cases e) hx
        · rename_i heq
          split at hx
          · rename_i hrd
            exact fin .pure _ rfl (fun _ => ⟨heq, hrd⟩) hx
          · exact hx.elim
    · unfold skipN at hx
      split at hx
      · rename_i d hd
        split at hx
        · rename_i hb
          obtain ⟨ks', e1, e2⟩ := ih _ _ _ _ _ hn1 (fun h3 => htm (fun h => h3 (List.mem_cons_of_mem _ h))) hx
          exact ⟨0 :: ks', by rw [← hks]; exact e1, dr_skipped hg hd e2⟩
        · exact hx.elim
      · rename_i hd
        obtain ⟨ks', e1, e2⟩ := ih _ _ _ _ _ hn1 (fun h3 => htm (fun h => h3 (List.mem_cons_of_mem _ h))) hx
        refine ⟨0 :: ks', by rw [← hks]; exact e1, ?_⟩
        refine dr_cons (v := .tup []) (k := .r) (hp' := ⟨b1, k, loc⟩) rfl ?_ (by rw [push_none hd]; exact e2)
        unfold FOp
        simp only [hg]
        exact ⟨⟨trivial, trivial⟩, trivial⟩
end
end Go.Vsi
/-! text R15 -/
namespace Go.Vsi

/-! ### a drawn region that ends in: append, address of the new element, its store, the slice's store -/
/-- a block of one's own, and with it written -/
inductive OwnB (n0 : Nat) (base loc : Heap) (i : Nat) (B B' : Blk) : Heap → Heap → Prop where
  | loc (j : Nat) {loc' : Heap} (h : i = n0 + j) (h1 : lget loc j = some B) (h2 : lset loc j B' = some loc') : OwnB n0 base loc i B B' base loc'
  | base (h : base[i]? = some B) : OwnB n0 base loc i B B' (base.set i B') loc
theorem OwnB.at_ {n0 : Nat} {base loc base' loc' : Heap} {i k : Nat} {B B' : Blk} (hn : base.length = n0) (h : OwnB n0 base loc i B B' base' loc') : At ⟨base, k, loc⟩ i B ∧ Put ⟨base, k, loc⟩ i B' ⟨base', k, loc'⟩ ∧ base'.length = n0 := by
  cases h with
  | loc j h h1 h2 =>
    subst h hn
    exact ⟨at_loc h1, put_loc h2, rfl⟩
  | base h => exact ⟨at_base h, put_base h, by simpa using hn⟩

theorem OwnB.base_ {n0 : Nat} {base loc base1 : Heap} {i : Nat} {B B' : Blk} (h : base[i]? = some B) (hs : base.set i B' = base1) : OwnB n0 base loc i B B' base1 loc := hs ▸ .base h
def edgeTo (o : Oper) (i : Nat) : Bool := o.after.toList.any fun e => Region.binds .any e && e.on == i
theorem edgeTo_spec {o : Oper} {i : Nat} (h : edgeTo o i = true) : ∃ e ∈ o.after.toList, Region.binds .any e = true ∧ e.on = i := by
  unfold edgeTo at h
  rw [List.any_eq_true] at h
  obtain ⟨e, he, h⟩ := h
  rw [Bool.and_eq_true, beq_iff_eq] at h
  exact ⟨e, he, h.1, h.2⟩
def tlChk (all : List Oper) (m : Nat) (o5 o6 o7 o8 : Oper) : Bool := drawBack all && ((List.range m).all fun i => edgeTo o5 i) && (edgeTo o6 m && edgeTo o7 (m + 1) && edgeTo o8 m)

def opNe (x y : Operand) : Bool := match x with
  | .tmp t => match y with
    | .tmp u => !Nat.beq t u
    | _ => true
  | _ => true
theorem opNe_spec {x : Operand} {t : Nat} (h : opNe x (.tmp t) = true) : x ≠ .tmp t := by
  rintro rfl
  simp [opNe] at h

inductive ApE [Glob] (P : Program) (T : TypeId → Option TI) (N : FN) (n0 : Nat) (all : List Oper) (m : Nat) (bot top : RE) (base : Heap) (k : Nat) (loc : Heap) (K : RE → Heap → Nat → Heap → Prop) : Prop where
  | mk {o5 o6 o7 o8 : Oper} {t et st e : TypeId} {x y i v p : Operand} {d5 d6 : Nat} {ti ei eti sti : TI} {z : List AV} {tk n sz j oj : Nat} {u : TypeId} {ki : IntKind} {ni : Int} {l l2 vs bl bl' : List AV} {pv : RG} {base1 loc1 base2 loc2 : Heap}
    (hall : all.drop m = [o5, o6, o7, o8])
    (ho5 : o5.op = .call { callee := .builtin .append, args := #[x, y], argTypes := #[t, t] }) (hd5 : o5.dst = some d5) (ho6 : o6.op = .indexAddr t (.tmp d5) i) (hd6 : o6.dst = some d6) (ho7 : o7.op = .store et (.tmp d6) v) (hd7 : o7.dst = none) (ho8 : o8.op = .store st p (.tmp d5)) (hd8 : o8.dst = none)
    (g5 : o5.guard = none) (g6 : o6.guard = none) (g7 : o7.guard = none) (g8 : o8.guard = none)
    (hchk : (tlChk all m o5 o6 o7 o8 && (Nat.blt d5 N.n && Nat.blt d6 N.n && !Nat.beq d5 d6) && (opNe i (.tmp d5) && opNe v (.tmp d5) && opNe v (.tmp d6) && opNe p (.tmp d5) && opNe p (.tmp d6))) = true)
    (ht : T t = some ti) (hk : ti.kind = .sl e) (he : T e = some ei) (hez : ei.zero = some z) (hesz : ei.sz = sz + 1) (hzl : z.length = ei.sz) (het : T et = some eti) (hets : eti.sz = sz + 1) (hst : T st = some sti) (hsts : sti.sz = 1)
    (hx : evR top bot x = some (.v (.sl (some tk) n l))) (hy : slOf (av n0 top bot y) = some (1, l2)) (h1 : allOne l2 = true) (hl2 : l2.length = sz + 1) (hi : evR top bot i = some (.v (.int ki ni))) (hni : ni = (n : Int))
    (hvc : (av n0 top bot v).cells = vs) (hv1 : allOne vs = true) (hvl : vs.length = sz + 1) (hpv : evR top bot p = some pv) (hpp : tr n0 pv = .ptr j oj) (hjk : j ≠ tk)
    (hset : setC bl oj [.sl (some tk) (n + 1) (l ++ vs)] = some bl')
    (hown : OwnB n0 base loc tk (.tok e (sz + 1) l.length) (.tok e (sz + 1) (l.length + (sz + 1))) base1 loc1) (hown2 : OwnB n0 base1 loc1 j (.box u bl) (.box u bl') base2 loc2)
    (hbytes : (n + 1) * ei.bytes ≤ 140737488355328) (hmax : n + 1 ≤ maxLen)
    (a : K ((d6, .v .junk) :: (d5, .v (.sl (some tk) (n + 1) (l ++ vs))) :: top) base2 k loc2) : ApE P T N n0 all m bot top base k loc K

section
variable {P : Program} {N : FN} {n0 : Nat} {T : TypeId → Option TI} {kn : TypeId → Nat}

theorem av_ev' [Glob] {top bot : RE} {x : Operand} (h : av n0 top bot x ≠ .junk) : ev (trE n0 (top ++ bot)) x = av n0 top bot x := av_ev rfl h

theorem vw_ap [Glob] (he0 : Env0 P T kn) (hm : P.follows .mixedOrders = true) {id m : Nat} {ops : List Oper} {W : List Nat} {bot top : RE} {base : Heap} {k : Nat} {loc : Heap} (hn : base.length = n0) {Q : Exit → Env → Hp → Prop} {K : RE → Heap → Nat → Heap → Prop}
    (hK : ∀ top b1 k loc, b1.length = n0 → K top b1 k loc → Q .normal (trE n0 (top ++ bot)) ⟨b1, k, loc⟩)
    (h : wpD W P kn T N n0 bot ops base loc (ops.take m) (fun top b1 k loc => ApE P T N n0 ops m bot top b1 k loc K) [] top base k loc) :
    VW P N (.region id ops.toArray true) Q (trE n0 (top ++ bot)) ⟨base, k, loc⟩ := by
  obtain ⟨ks, h1, h2⟩ := wpD_sound (N := N) (k0 := k) (W := W) he0 hn (ops.take m) [] top base k loc hn (fun _ => ⟨rfl, Tame.refl _ _ _⟩) h
  simp only [List.reverse_nil, List.nil_append, Bool.and_eq_true] at h1
  intro g w a hH hE
  refine wpIn_region_any hm ?_
  -- the tail's operations
  have hA : ∃ top b1 k' loc', ApE P T N n0 ops m bot top b1 k' loc' K := by
    obtain ⟨ds, -, -, h3⟩ := h2
    obtain ⟨hs, -, -, h4⟩ := h3.at_
    obtain ⟨top, b1, k', loc', -, -, -, h5⟩ := h4
    exact ⟨top, b1, k', loc', h5⟩
  obtain ⟨topA, bA, kA, locA, hA⟩ := hA
  obtain ⟨o5, o6, o7, o8, hall, hchk⟩ : ∃ o5 o6 o7 o8, ops.drop m = [o5, o6, o7, o8] ∧ tlChk ops m o5 o6 o7 o8 = true := by
    cases hA with
    | mk hall ho5 hd5 ho6 hd6 ho7 hd7 ho8 hd8 g5 g6 g7 g8 hchk =>
      simp only [Bool.and_eq_true] at hchk
      exact ⟨_, _, _, _, hall, hchk.1.1⟩
  have hsplit : ops.take m ++ [o5, o6, o7, o8] = ops := by rw [← hall]; exact List.take_append_drop m ops
  have hml : (ops.take m).length = m := by
    have := congrArg List.length hall
    simp at this
    simp
    omega
  unfold tlChk at hchk
  simp only [Bool.and_eq_true, List.all_eq_true, List.mem_range] at hchk
  obtain ⟨⟨c1, c2⟩, ⟨c3, c4⟩, c5⟩ := hchk
  have hback : ∀ j oj, ops[j]? = some oj → ∀ e ∈ oj.after.toList, Region.binds .any e = true → e.on < j := by
    intro j oj hj e he hb
    unfold drawBack at c1
    simp only [List.all_eq_true, List.mem_range] at c1
    have := c1 j (List.getElem?_eq_some_iff.1 hj).1
    simp only [hj, List.all_eq_true] at this
    simpa [hb] using this e he
  have hO : TlOk (ops.take m).length o6 o7 o8 (ops.take m ++ [o5, o6, o7, o8]) := by
    rw [hsplit, hml]
    exact ⟨hback, edgeTo_spec c3, edgeTo_spec c4, edgeTo_spec c5⟩
  have key := draw_head (l := ops.take m) (tl := [o5, o6, o7, o8]) (Qc := Lift N Q g w a.defers) (I := IW W base k loc) (k := k) (fun X => ⟨loc, X, Tq.refl _, rfl⟩) (closOf ops) ks (by rw [hsplit]; exact h1.1) (by rw [hsplit]; exact h1.2) (fun j oj hj ho => by
    rw [hsplit] at ho
    rw [hml] at hj ⊢
    have hlen : ops.length = m + 4 := by
      have := congrArg List.length hsplit
      rw [List.length_append, hml] at this
      simp at this
      omega
    have hlt := (List.getElem?_eq_some_iff.1 ho).1
    have ho' : (ops.take m ++ [o5, o6, o7, o8])[j]? = some oj := by rw [hsplit]; exact ho
    rw [List.getElem?_append_right (by omega), hml] at ho'
    have hj4 : j = m ∨ j = m + 1 ∨ j = m + 2 ∨ j = m + 3 := by omega
    rcases hj4 with rfl | rfl | rfl | rfl
    · rw [Nat.sub_self] at ho'
      simp at ho'
      subst ho'
      left
      intro i hi
      exact edgeTo_spec (c2 i hi)
    · rw [Nat.add_sub_cancel_left] at ho'
      simp at ho'
      subst ho'
      right
      obtain ⟨e, e1, e2, e3⟩ := edgeTo_spec c3
      exact ⟨e, e1, e2, by omega⟩
    · rw [Nat.add_sub_cancel_left] at ho'
      simp at ho'
      subst ho'
      right
      obtain ⟨e, e1, e2, e3⟩ := edgeTo_spec c4
      exact ⟨e, e1, e2, by omega⟩
    · rw [Nat.add_sub_cancel_left] at ho'
      simp at ho'
      subst ho'
      right
      obtain ⟨e, e1, e2, e3⟩ := edgeTo_spec c5
      exact ⟨e, e1, e2, by omega⟩) (K := KD n0 bot fun top b1 k loc => ApE P T N n0 ops m bot top b1 k loc K) (by rw [hsplit]; exact h2) hH hE (fun env' hp' g' w' a' fuel listed hKD q1 q2 q3 q4 hH' hE' hx' hd' => by
    obtain ⟨top', b1, k1, loc1, hap, rfl, hb1, hA'⟩ := hKD
    have hE2 : ERel N g' w' (trE n0 (top' ++ bot)) a' := ⟨hE'.1, fun s => hap s _ _ _ (hE'.rel s), hE'.ro, hE'.glob⟩
    cases hA' with
    | mk hall' ho5 hd5 ho6 hd6 ho7 hd7 ho8 hd8 g5 g6 g7 g8 hchk ht hk he hez hesz hzl het hets hst hsts hx hy hl1 hl2 hi hni hvc hv1 hvl hpv hpp hjk hset hown hown2 hbytes hmax ak =>
      rw [hall] at hall'
      simp only [List.cons.injEq, and_true] at hall'
      obtain ⟨rfl, rfl, rfl, rfl⟩ := hall'
      subst hni
      simp only [Bool.and_eq_true] at hchk
      obtain ⟨⟨-, ⟨r1, r2⟩, r3⟩, ⟨⟨⟨r4, r5⟩, r6⟩, r7⟩, r8⟩ := hchk
      obtain ⟨s1, s2, s3⟩ := hown.at_ (k := k1) hb1
      obtain ⟨t1, t2, t3⟩ := hown2.at_ (k := k1) s3
      have hjt := t1
      unfold At at hjt
      rw [s2.all, List.getElem?_set, if_neg (Ne.symm hjk)] at hjt
      refine ap_fin he0.T ho5 hd5 ho6 hd6 ho7 hd7 ho8 hd8 g5 g6 g7 g8 r1 r2 (by intro e; rw [e] at r3; simp at r3) (opNe_spec r4) (opNe_spec r5) (opNe_spec r6) (opNe_spec r7) (opNe_spec r8) hO ht hk he hez hesz hzl het hets hst hsts s1 s2 (evR_ev hx) ?_ hl1 hl2 (evR_ev hi) ?_ hv1 hvl ((evR_ev hpv).trans hpp) hjk hjt hset t2 hbytes hmax hH' hE2 q1 q2 q3 q4 ?_
      · rw [av_ev' (fun eq => by rw [eq] at hy; cases hy)]; exact hy
      · rw [av_ev' (fun eq => by
          rw [eq] at hvc
          subst hvc
          simp [AV.cells, allOne, AV.one] at hv1)]
        exact hvc
      · intro g2 w2 a2 hH2 hE3 hx2 hd2
        exact ⟨_, _, g2, hK _ _ _ _ t3 ak, hH2, hE3, hx'.trans hx2, DRel.of_eq (hd2.trans hd')⟩)
  rw [hsplit] at key
  simpa using key
end
end Go.Vsi
/-! text R6 -/
namespace Go.Vsi

abbrev QR := Exit → RE → RE → Heap → Nat → Heap → Prop

def LS (n0 : Nat) (Q : QR) : Exit → Env → Hp → Prop :=
  fun e env hp => ∃ top bot base k loc, Apx n0 env (top ++ bot) ∧ hp = ⟨base, k, loc⟩ ∧ base.length = n0 ∧ Q e top bot base k loc

def VL [Glob] (P : Program) (N : FN) (c : Code) (Q : Exit → Env → Hp → Prop) (env : Env) (H : Hp) : Prop :=
  ∀ g w a, HRel g w H → ERel N g w env a → LoopWp (N.fo g) P c (Lift N Q g w a.defers) a w

structure LoopN [Glob] (P : Program) (kn : TypeId → Nat) (T : TypeId → Option TI) (N : FN) (n0 : Nat) (c : Code) (Q : QR) (top bot : RE) (base : Heap) (k : Nat) (loc : Heap) : Prop where
  h : VL P N c (LS n0 Q) (trE n0 (top ++ bot)) ⟨base, k, loc⟩

def pickO : List Nat → RE → RE → Option RE
  | [], _, _ => some []
  | t :: ts, top, bot => match rget2 top bot t with
    | some v => match pickO ts top bot with
      | some l => some ((t, v) :: l)
      | none => none
    | none => none
theorem pickO_get {top bot : RE} : ∀ {ts : List Nat} {l : RE}, pickO ts top bot = some l → ∀ {s : Nat} {w : RG}, rgetO l s = some w → rget2 top bot s = some w
  | [], l, h, s, w, hg => by simp only [pickO, Option.some.injEq] at h; subst h; cases hg
  | t :: ts, l, h, s, w, hg => by
    simp only [pickO] at h
    split at h
    · rename_i v hv
      split at h
      · rename_i l' hl
        simp only [Option.some.injEq] at h; subst h
        simp only [rgetO] at hg
        cases hb : Nat.beq t s with
        | true =>
          simp only [hb, Option.some.injEq] at hg; subst hg
          have := Nat.eq_of_beq_eq_true hb
          subst this
          exact hv
        | false => simp only [hb] at hg; exact pickO_get hl hg
      · cases h
    · cases h

def jumpN (Q : QR) (top bot : RE) (base : Heap) (k : Nat) (loc : Heap) : Option Code → Prop
  | none => Q .normal top bot base k loc
  | some .ret => Q .ret top bot base k loc
  | some (.exit id) => Q (.exit id) top bot base k loc
  | _ => False
/-- a loop over a function -/
structure RangeN0 [Glob] (P : Program) (N : FN) (n0 : Nat) (gf : FuncId) (fs cs : List AV) (ps : Array Tmp) (assign body : Code) (Q : QR) (top bot : RE) (base : Heap) (k : Nat) (loc : Heap) : Prop where
  ro : ∀ i, N.r = some i → ∃ st jp e L, (base ++ loc)[i]? = some (.loop st jp e L)
  h : ∃ (ts : List Nat) (bk : RE) (R : AV → Heap → Prop), pickO ts top bot = some bk ∧ VCall P gf (appL (appL fs [.clo (.yield (n0 + k)) [] []]) cs) ((base ++ loc) ++ [.loop .ready none (trE n0 bk) ⟨N.n, ps, assign, body⟩]) R ∧
    ∀ r H', R r H' → ∃ base' k' loc' st jp loc'', base' ++ loc' = H' ∧ loc'.length = k' ∧ base'.length = n0 ∧ lget loc' k = some (.loop st jp (trE n0 bk) ⟨N.n, ps, assign, body⟩) ∧ st ≠ .busy ∧ lset loc' k .dead = some loc'' ∧ jumpN Q top bot base' k' loc'' jp

/-- .. a nil slice in a box may get a token ahead of it: then append keeps its cells in the box's own memory -/
inductive RangeN [Glob] (P : Program) (N : FN) (n0 : Nat) (gf : FuncId) (fs cs : List AV) (ps : Array Tmp) (assign body : Code) (Q : QR) (top bot : RE) (base : Heap) : Nat → Heap → Prop where
  | mk {k : Nat} {loc : Heap} (h : RangeN0 P N n0 gf fs cs ps assign body Q top bot base k loc) : RangeN P N n0 gf fs cs ps assign body Q top bot base k loc
  | tokB {k : Nat} {loc : Heap} (i j : Nat) (e : TypeId) (sz : Nat) {loc1 loc' : Heap} {bt : TypeId} {l l' : List AV} (hb : lget loc i = some (.box bt l)) (hv : lget l j = some .nils) (hs : lset l j (.sl (some (n0 + k)) 0 []) = some l') (hl : snocC loc (.tok e sz 0) = some loc1) (h1 : lset loc1 i (.box bt l') = some loc')
    (h : RangeN P N n0 gf fs cs ps assign body Q top bot base (k + 1) loc') : RangeN P N n0 gf fs cs ps assign body Q top bot base k loc
  | vecB {k : Nat} {loc : Heap} (i j : Nat) (e : TypeId) (sz : Nat) {loc1 loc' : Heap} {bt : TypeId} {l l' : List AV} (hb : lget loc i = some (.box bt l)) (hv : lget l j = some .nils) (hs : lset l j (.vs (n0 + k) 0) = some l') (hl : snocC loc (.vec e sz []) = some loc1) (h1 : lset loc1 i (.box bt l') = some loc')
    (h : RangeN P N n0 gf fs cs ps assign body Q top bot base (k + 1) loc') : RangeN P N n0 gf fs cs ps assign body Q top bot base k loc

def wpC [Glob] (P : Program) (kn : TypeId → Nat) (T : TypeId → Option TI) (N : FN) (n0 : Nat) (c : Code) : QR → RE → RE → Heap → Nat → Heap → Prop :=
  @Code.rec (fun _ => QR → RE → RE → Heap → Nat → Heap → Prop)
    (fun Q top bot base k loc => Q .normal top bot base k loc)
    (fun _ ops dr Q top bot base k loc => match ops with
      | ⟨ops⟩ => match dr with
        | false => wpO P kn T N n0 bot ops ops (fun top base k loc => Q .normal top bot base k loc) top base k loc
        | true => DrawN (fun W => wpD W P kn T N n0 bot ops base loc ops (fun top base k loc => Q .normal top bot base k loc) [] top base k loc)
          (fun m W => wpD W P kn T N n0 bot ops base loc (ops.take m) (fun top base k loc => ApE P T N n0 ops m bot top base k loc (fun top base k loc => Q .normal top bot base k loc)) [] top base k loc))
    (fun _ _ iha ihb Q top bot base k loc => iha (fun e top bot base k loc => match e with
      | .normal => ihb Q top bot base k loc
      | e => Q e top bot base k loc) top bot base k loc)
    (fun c _ _ ihx ihy Q top bot base k loc => match c with
      | .tmp t => match rget2 top bot t with
        | some (.lit true) => ihx Q top bot base k loc
        | some (.lit false) => ihy Q top bot base k loc
        | some (.v (.bool b)) => IfN b (ihx Q ((t, .lit true) :: top) bot base k loc) (ihy Q ((t, .lit false) :: top) bot base k loc)
        | _ => False
      | .const (.bool true) => ihx Q top bot base k loc
      | .const (.bool false) => ihy Q top bot base k loc
      | _ => False)
    (fun id _ ih Q top bot base k loc => ih (fun e top bot base k loc => match e with
      | .exit i => match Nat.beq i id with
        | true => Q .normal top bot base k loc
        | false => Q (.exit i) top bot base k loc
      | e => Q e top bot base k loc) top bot base k loc)
    (fun c _ Q top bot base k loc => LoopN P kn T N n0 c Q top bot base k loc)
    (fun f ps assign body _ _ Q top bot base k loc => match evR top bot f with
      | some (.v (.clo (.func gf) fs cs)) => RangeN P N n0 gf fs cs ps assign body Q top bot base k loc
      | _ => False)
    (fun id Q top bot base k loc => Q (.exit id) top bot base k loc)
    (fun _ ih Q top bot base k loc => ih (fun e top bot base k loc => match e with
      | .goto _ => False
      | e => Q e top bot base k loc) top bot base k loc)
    (fun _ Q top bot base k loc => Q .normal top bot base k loc)
    (fun _ _ _ _ _ _ _ => False)
    (fun Q top bot base k loc => Q .ret top bot base k loc)
    (fun _ _ _ _ _ _ _ => False) c

section
variable {P : Program} {N : FN} {n0 : Nat} {T : TypeId → Option TI} {kn : TypeId → Nat}

theorem vw_mono [Glob] {c : Code} {Q Q' : Exit → Env → Hp → Prop} {env : Env} {hp : Hp} (h : VW P N c Q env hp) (hq : ∀ e env H, Q e env H → Q' e env H) : VW P N c Q' env hp := h.mono hq

theorem df_mono [Glob] {I : Hp → Prop} {all : List Oper} {K K' : Env → Hp → Prop} (hK : ∀ e hp, K e hp → K' e hp) : ∀ {ds : List DOp} {e : Env} {hp : Hp}, DF P N I all ds e hp K → DF P N I all ds e hp K'
  | [], e, hp, h => hK e hp h
  | d :: ds, e, hp, ⟨hp', h1, h2⟩ => ⟨hp', h1, df_mono hK h2⟩
theorem dr_mono [Glob] {I : Hp → Prop} {all rest : List Oper} {ks : List Nat} {K K' : Env → Hp → Prop} {e : Env} {hp : Hp} (hK : ∀ e hp, K e hp → K' e hp) (h : DR P N I all rest ks e hp K) : DR P N I all rest ks e hp K' := by
  obtain ⟨ds, h1, h2, h3⟩ := h
  exact ⟨ds, h1, h2, df_mono hK h3⟩

theorem range_sound [Glob] {f : Operand} {gf : FuncId} {fs cs : List AV} {ps : Array Tmp} {assign body : Code} {Q : QR} {top bot : RE} {base : Heap} (hf : evR top bot f = some (.v (.clo (.func gf) fs cs))) (hn : base.length = n0) {k : Nat} {loc : Heap} (h : RangeN P N n0 gf fs cs ps assign body Q top bot base k loc) :
    VW P N (.rangeFunc f ps assign body) (LS n0 Q) (trE n0 (top ++ bot)) ⟨base, k, loc⟩ := by
  induction h with
  | mk h =>
    rename_i k loc
    obtain ⟨hro, ts, bk, R, hbk, hc, hR⟩ := h
    subst hn
    intro g w a hH hE
    have hk : loc.length = k := hH.k
    rw [appL_eq, appL_eq] at hc
    refine vw_range (hp := ⟨base, k, loc⟩) (benv := trE base.length bk) (R := R) (evR_ev hf) (fun s => ?_) (fun i hi => ?_) hc (fun r H' hr => ?_) g w a hH hE
    · cases hb : rgetO bk s with
      | some v =>
        have h1 := rget2_get (n0 := base.length) (pickO_get hbk hb)
        have h2 := rgetO_get (n0 := base.length) hb []
        rw [List.append_nil] at h2
        rw [h1, h2]
        exact Wk.refl _
      | none =>
        have h2 := rgetO_none (n0 := base.length) hb []
        rw [List.append_nil] at h2
        rw [h2]
        exact wk_junk _
    · obtain ⟨st, jp, e, L, h1⟩ := hro i hi
      exact ⟨st, jp, e, L, h1⟩
    · obtain ⟨base', k', loc', st, jp, loc'', e1, e2, e3, e4, e5, e6, e7⟩ := hR r H' hr
      have e6' : lset loc' k (.loop .exhausted jp (trE base.length bk) ⟨N.n, ps, assign, body⟩) = some (loc'.set k (.loop .exhausted jp (trE base.length bk) ⟨N.n, ps, assign, body⟩)) := lset_some (lset_eq _ _ _ _ e6).2
      have e8 : lset (loc'.set k (.loop .exhausted jp (trE base.length bk) ⟨N.n, ps, assign, body⟩)) k .dead = some loc'' := by
        obtain ⟨q1, q2⟩ := lset_eq _ _ _ _ e6
        rw [lset_some (by simpa using q2), q1]
        simp
      have hput := put_loc (base := base') (k := k') e6'
      have hput2 := put_loc (base := base') (k := k') e8
      rw [e3] at hput hput2
      refine ⟨⟨base', k', loc'⟩, fun g w hH => ⟨e1, e2⟩, st, jp, ?_, e5, _, _, hput, hput2, ?_⟩
      · have := at_loc (base := base') (k := k') e4
        rw [e3] at this
        exact this
      · cases jp with
        | none => exact ⟨top, bot, base', k', loc'', Apx.refl _ _, rfl, e3, e7⟩
        | some c =>
          cases c with
          | ret => exact ⟨top, bot, base', k', loc'', Apx.refl _ _, rfl, e3, e7⟩
          | exit id => exact ⟨top, bot, base', k', loc'', Apx.refl _ _, rfl, e3, e7⟩
          | _ => exact e7.elim
  | tokB i j e sz hb hv hs hl h1 _ ih =>
    intro g w a hH hE
    rw [snocC_eq _ _ _ hl] at h1
    obtain ⟨g1, f3, f4⟩ := hH.tokBox (at_loc hb) hv (by rw [← hn] at hs; exact hs) (put_loc h1)
    rw [← hE.fo f4]
    exact Code.wpIn_mono (fun _ _ _ hl => Lift.of_later f4 (DRel.refl _ _ _ _) hl) (ih g1 w a f3 (hE.ext f4))
  | vecB i j e sz hb hv hs hl h1 _ ih =>
    intro g w a hH hE
    rw [snocC_eq _ _ _ hl] at h1
    obtain ⟨g1, f3, f4⟩ := hH.vecBox (at_loc hb) hv (by rw [← hn] at hs; exact hs) (put_loc h1)
    rw [← hE.fo f4]
    exact Code.wpIn_mono (fun _ _ _ hl => Lift.of_later f4 (DRel.refl _ _ _ _) hl) (ih g1 w a f3 (hE.ext f4))

theorem wpC_sound [Glob] (he : Env0 P T kn) (hm : P.follows .mixedOrders = true) : ∀ (c : Code) (Q : QR) (top bot : RE) (base : Heap) (k : Nat) (loc : Heap), base.length = n0 → wpC P kn T N n0 c Q top bot base k loc → VW P N c (LS n0 Q) (trE n0 (top ++ bot)) ⟨base, k, loc⟩
  | .skip, Q, top, bot, base, k, loc, hn, h => vw_skip ⟨top, bot, base, k, loc, Apx.refl _ _, rfl, hn, h⟩
  | .label _, Q, top, bot, base, k, loc, hn, h => vw_label ⟨top, bot, base, k, loc, Apx.refl _ _, rfl, hn, h⟩
  | .exit id, Q, top, bot, base, k, loc, hn, h => vw_exit ⟨top, bot, base, k, loc, Apx.refl _ _, rfl, hn, h⟩
  | .ret, Q, top, bot, base, k, loc, hn, h => vw_ret ⟨top, bot, base, k, loc, Apx.refl _ _, rfl, hn, h⟩
  | .region id ⟨ops⟩ false, Q, top, bot, base, k, loc, hn, h => by
    refine vw_region (wpO_sound he ?_ ops top base k loc hn h)
    intro top base k loc hn h
    exact ⟨top, bot, base, k, loc, Apx.refl _ _, rfl, hn, h⟩
  | .region id ⟨ops⟩ true, Q, top, bot, base, k, loc, hn, h => by
    rcases h with ⟨⟨W, h⟩ | ⟨m, W, h⟩⟩
    rotate_left
    · exact vw_ap he hm hn (fun top base k loc hn h => ⟨top, bot, base, k, loc, Apx.refl _ _, rfl, hn, h⟩) h
    obtain ⟨ks, h1, h2⟩ := wpD_sound (N := N) (k0 := k) (W := W) he hn ops [] top base k loc hn (fun _ => ⟨rfl, Tame.refl _ _ _⟩) h
    simp only [List.reverse_nil, List.nil_append, Bool.and_eq_true] at h1
    refine vw_draw (I := IW W base k loc) (fun X => ⟨loc, X, Tq.refl _, rfl⟩) (closOf ops) ks hm h1.1 h1.2 (dr_mono ?_ h2)
    rintro env hp ⟨top, b1, k, loc, e1, rfl, e3, e2⟩
    exact ⟨top, bot, b1, k, loc, e1, rfl, e3, e2⟩
  | .seq a b, Q, top, bot, base, k, loc, hn, h => by
    refine vw_seq (vw_mono (wpC_sound he hm a _ top bot base k loc hn h) ?_)
    rintro e env hp ⟨top, bot, base, k, loc, h1, rfl, h3, h4⟩
    cases e with
    | normal => exact vw_env (wpC_sound he hm b Q top bot base k loc h3 h4) h1
    | exit i => exact ⟨top, bot, base, k, loc, h1, rfl, h3, h4⟩
    | goto i => exact ⟨top, bot, base, k, loc, h1, rfl, h3, h4⟩
    | ret => exact ⟨top, bot, base, k, loc, h1, rfl, h3, h4⟩
    | panic i => exact ⟨top, bot, base, k, loc, h1, rfl, h3, h4⟩
    | outgrown => exact ⟨top, bot, base, k, loc, h1, rfl, h3, h4⟩
  | .cond c x y, Q, top, bot, base, k, loc, hn, h => by
    simp only [wpC] at h
    split at h
    · rename_i t
      split at h
      · rename_i hc
        exact vw_cond_t (rget2_get hc) (wpC_sound he hm x Q top bot base k loc hn h)
      · rename_i hc
        exact vw_cond_f (rget2_get hc) (wpC_sound he hm y Q top bot base k loc hn h)
      · rename_i b hc
        refine vw_cond (rget2_get hc) (fun e => ?_) (fun e => ?_)
        · subst e
          exact vw_env (wpC_sound he hm x Q _ bot base k loc hn (h.t rfl)) (fun s => Wk.of_eq (lit_get hc s))
        · subst e
          exact vw_env (wpC_sound he hm y Q _ bot base k loc hn (h.f rfl)) (fun s => Wk.of_eq (lit_get hc s))
      · exact h.elim
    · exact vw_cond_t rfl (wpC_sound he hm x Q top bot base k loc hn h)
    · exact vw_cond_f rfl (wpC_sound he hm y Q top bot base k loc hn h)
    · exact h.elim
  | .block id c, Q, top, bot, base, k, loc, hn, h => by
    refine vw_block (vw_mono (wpC_sound he hm c _ top bot base k loc hn h) ?_)
    rintro e env hp ⟨top, bot, base, k, loc, h1, rfl, h3, h4⟩
    cases e with
    | normal => exact ⟨top, bot, base, k, loc, h1, rfl, h3, h4⟩
    | exit i =>
      simp only [blockQ] at h4 ⊢
      split at h4
      · rename_i hb; simp only [hb]; exact ⟨top, bot, base, k, loc, h1, rfl, h3, h4⟩
      · rename_i hb; simp only [hb]; exact ⟨top, bot, base, k, loc, h1, rfl, h3, h4⟩
    | goto i => exact ⟨top, bot, base, k, loc, h1, rfl, h3, h4⟩
    | ret => exact ⟨top, bot, base, k, loc, h1, rfl, h3, h4⟩
    | panic i => exact ⟨top, bot, base, k, loc, h1, rfl, h3, h4⟩
    | outgrown => exact ⟨top, bot, base, k, loc, h1, rfl, h3, h4⟩
  | .loop c, Q, top, bot, base, k, loc, hn, h => fun g w a hH hE => (h.h g w a hH hE).loop
  | .scope c, Q, top, bot, base, k, loc, hn, h => by
    refine vw_scope (vw_mono (wpC_sound he hm c _ top bot base k loc hn h) ?_)
    rintro e env hp ⟨top, bot, base, k, loc, h1, rfl, h3, h4⟩
    cases e with
    | normal => exact ⟨top, bot, base, k, loc, h1, rfl, h3, h4⟩
    | exit i => exact ⟨top, bot, base, k, loc, h1, rfl, h3, h4⟩
    | goto i => exact h4.elim
    | ret => exact ⟨top, bot, base, k, loc, h1, rfl, h3, h4⟩
    | panic i => exact ⟨top, bot, base, k, loc, h1, rfl, h3, h4⟩
    | outgrown => exact ⟨top, bot, base, k, loc, h1, rfl, h3, h4⟩
  | .rangeFunc f ps assign body, Q, top, bot, base, k, loc, hn, h => by
    simp only [wpC] at h
    split at h
    case h_2 => exact h.elim
    rename_i gf fs cs hf
    exact range_sound hf hn h
  | .goto _, _, _, _, _, _, _, _, h => h.elim
  | .refuse _, _, _, _, _, _, _, _, h => h.elim

/-! ### freezing: boxes of the call's own that nobody writes any more -/
def Blk.isLoc : Blk → Bool
  | .box _ _ => true
  | .mp _ _ => true
  | .vec _ _ _ => true
  | _ => false
def G.frz (g : G) (n0 : Nat) (loc : Heap) : G :=
  { g with own := fun b o => g.own b o ∧ ∀ j B, loc[j]? = some B → B.isLoc = true → locs g (n0 + j) B ≠ some b }

mutual
inductive Frz (n0 : Nat) (loc : Heap) : AV → AV → Prop where
  | refl (v : AV) : Frz n0 loc v v
  | ptr {j o : Nat} {t : TypeId} {l l' l'' : List AV} : lget loc j = some (.box t l) → dropC o l = some l' → FrzL n0 loc l' l'' → Frz n0 loc (.ptr (n0 + j) o) (.rptr l'')
  | clo {f : Fn} {fs fs' cs cs' : List AV} : FrzL n0 loc fs fs' → FrzL n0 loc cs cs' → Frz n0 loc (.clo f fs cs) (.clo f fs' cs')
  | agg {l l' : List AV} : FrzL n0 loc l l' → Frz n0 loc (.agg l) (.agg l')
  | tup {l l' : List AV} : FrzL n0 loc l l' → Frz n0 loc (.tup l) (.tup l')
  | sl {tok : Option Nat} {n : Nat} {l l' : List AV} : FrzL n0 loc l l' → Frz n0 loc (.sl tok n l) (.sl none n l')
  | sx {n : Nat} {l l' : List AV} : FrzL n0 loc l l' → Frz n0 loc (.sx n l) (.sx n l')
  | ms {j o n : Nat} {t : TypeId} {l l' l'' : List AV} : lget loc j = some (.box t l) → dropC o l = some l' → FrzL n0 loc l' l'' → Frz n0 loc (.ms (n0 + j) o n) (.sl none n l'')
  | mp {j : Nat} {ks vs ks' vs' : List AV} : lget loc j = some (.mp ks vs) → FrzL n0 loc ks ks' → FrzL n0 loc vs vs' → Frz n0 loc (.mp (n0 + j)) (.rmp ks' vs')
  | vs {j n sz : Nat} {e : TypeId} {l l' : List AV} : lget loc j = some (.vec e sz l) → l.length = n * sz → FrzL n0 loc l l' → Frz n0 loc (.vs (n0 + j) n) (.sl none n l')
inductive FrzL (n0 : Nat) (loc : Heap) : List AV → List AV → Prop where
  | nil : FrzL n0 loc [] []
  | cons {v v' : AV} {l l' : List AV} : Frz n0 loc v v' → FrzL n0 loc l l' → FrzL n0 loc (v :: l) (v' :: l')
end

theorem frz_extV (g : G) (w : World) (n0 : Nat) (loc : Heap) : ExtV g w (g.frz n0 loc) w :=
  ⟨fun _ h => h, fun _ _ => rfl, fun _ _ => .inl rfl, fun hc ho => ⟨hc, fun q => ho q.1⟩, fun hb ho => ⟨hb, fun o q => ho o q.1⟩⟩

mutual
theorem Frz.rel [Glob] {g : G} {w : World} {base : Heap} {k : Nat} {loc : Heap} (hH : HRel g w ⟨base, k, loc⟩) : ∀ {v v' : AV}, Frz base.length loc v v' → ∀ c, VRel g w v c → VRel (g.frz base.length loc) w v' c
  | _, _, .refl v, c, h => VRel.extV (frz_extV _ _ _ _) v c h
  | _, _, @Frz.ptr _ _ j o t l l' l'' h1 h2 h3, c, h => by
    simp only [VRel] at h ⊢
    obtain ⟨hok, rfl⟩ := h
    have hat : (⟨base, k, loc⟩ : Hp).all[base.length + j]? = some (.box t l) := at_loc h1
    obtain ⟨cs, e1, e2, e3⟩ := hH.rel _ _ hat
    obtain ⟨hd1, hd2⟩ := dropC_eq _ _ _ h2
    have e2' := e2.drop o
    rw [hd1] at e2'
    have e4 := FrzL.rel hH h3 _ e2'
    refine ⟨_, _, rfl, MRel.mk fun q v hq => ?_⟩
    obtain ⟨c', q1, q2⟩ := e4.get hq
    rw [List.getElem?_drop] at q1
    refine ⟨c', cell_iff.2 ⟨cs, t, _, e1, by simpa using q1⟩, q2, fun ho => ?_⟩
    rw [lget_eq] at h1
    exact ho.2 j _ h1 rfl rfl
  | _, _, .clo h1 h2, c, h => by
    simp only [VRel] at h ⊢
    obtain ⟨⟨h0, h0'⟩, f', c', hc, e1, e2⟩ := h
    refine ⟨⟨fnOk_ext (frz_extV g w base.length loc) h0, ?_⟩, f', c', by rw [fnG_ext (frz_extV g w base.length loc) h0]; exact hc, FrzL.rel hH h1 _ e1, FrzL.rel hH h2 _ e2⟩
    rename_i f fs fs' cs cs'
    cases f with
    | yield i =>
      have h0' : cs = [] := h0'
      subst h0'
      cases h2
      exact rfl
    | _ => trivial
  | _, _, .agg h1, c, h => by
    simp only [VRel] at h ⊢
    obtain ⟨cs, hc, e1⟩ := h
    exact ⟨cs, hc, FrzL.rel hH h1 _ e1⟩
  | _, _, .tup h1, c, h => by
    simp only [VRel] at h ⊢
    obtain ⟨cs, hc, e1⟩ := h
    exact ⟨cs, hc, FrzL.rel hH h1 _ e1⟩
  | _, _, @Frz.sl _ _ tok n l l' h1, c, h => by
    simp only [VRel] at h ⊢
    obtain ⟨A, cap, hc, hn, hm, -⟩ := h
    refine ⟨A, cap, hc, hn, ?_, fun t e => by cases e⟩
    rcases hm with rfl | ⟨b, o, hA, hm⟩
    · cases h1; exact .inl rfl
    · exact .inr ⟨b, o, hA, FrzL.mrel hH h1 b o hm⟩
  | _, _, @Frz.sx _ _ n l l' h1, c, h => by
    simp only [VRel] at h ⊢
    obtain ⟨A, hc, hm⟩ := h
    refine ⟨A, hc, ?_⟩
    rcases hm with rfl | ⟨b, o, hA, hm⟩
    · cases h1; exact .inl rfl
    · exact .inr ⟨b, o, hA, FrzL.mrel hH h1 b o hm⟩
  | _, _, @Frz.ms _ _ j o n t l l' l'' h1 h2 h3, c, h => by
    simp only [VRel] at h ⊢
    obtain ⟨hok, cap, hn, rfl⟩ := h
    have hat : (⟨base, k, loc⟩ : Hp).all[base.length + j]? = some (.box t l) := at_loc h1
    obtain ⟨cs, e1, e2, e3⟩ := hH.rel _ _ hat
    obtain ⟨hd1, hd2⟩ := dropC_eq _ _ _ h2
    have e2' := e2.drop o
    rw [hd1] at e2'
    have e4 := FrzL.rel hH h3 _ e2'
    refine ⟨_, _, rfl, hn, .inr ⟨_, _, rfl, MRel.mk fun q v hq => ?_⟩, fun t e => by cases e⟩
    obtain ⟨c', q1, q2⟩ := e4.get hq
    rw [List.getElem?_drop] at q1
    refine ⟨c', cell_iff.2 ⟨cs, t, _, e1, by simpa using q1⟩, q2, fun ho => ?_⟩
    rw [lget_eq] at h1
    exact ho.2 j _ h1 rfl rfl
  | _, _, @Frz.mp _ _ j ks vs ks' vs' h1 h2 h3, c, h => by
    simp only [VRel] at h ⊢
    obtain ⟨hok, rfl⟩ := h
    have hat : (⟨base, k, loc⟩ : Hp).all[base.length + j]? = some (.mp ks vs) := at_loc h1
    obtain ⟨es, clk, e1, hbn, e2, e3, e4⟩ := hH.rel _ _ hat
    rw [lget_eq] at h1
    exact ⟨_, es, clk, rfl, e1, hbn, fun o ho => ho.2 j _ h1 rfl rfl, FrzL.rel hH h2 _ e2, FrzL.rel hH h3 _ e3⟩
  | _, _, @Frz.vs _ _ j n sz e l l' h1 h2 h3, c, h => by
    simp only [VRel] at h ⊢
    obtain ⟨hok, hle, A, cap, rfl, hn, hA⟩ := h
    have hat : (⟨base, k, loc⟩ : Hp).all[base.length + j]? = some (.vec e sz l) := at_loc h1
    obtain ⟨q1, q2, q3⟩ := hH.rel _ _ hat
    rw [lget_eq] at h1
    obtain ⟨r1, r2⟩ := hA (by rw [q1, q2, h2])
    subst r1 r2
    have e4 : ∀ cs, LRel g w l cs → LRel (g.frz base.length loc) w l' cs := fun cs hcs => FrzL.rel hH h3 _ hcs
    rcases q3 with ⟨p1, p2, p3⟩ | ⟨b, cs, p1, p2, p3, p4, p5, p6, p7⟩
    · subst p2
      cases h3
      exact ⟨_, _, rfl, hn, .inl rfl, fun t e => by cases e⟩
    · refine ⟨_, _, rfl, hn, .inr ⟨b, 0, by rw [p1]; rfl, MRel.mk fun q v hq => ?_⟩, fun t e => by cases e⟩
      · obtain ⟨c', s1, s2⟩ := (e4 _ p6).get hq
        refine ⟨c', cell_iff.2 ⟨cs, e, _, p2, ?_⟩, s2, fun ho => ho.2 j _ h1 rfl p1⟩
        rw [List.getElem?_take] at s1
        split at s1
        · simpa using s1
        · cases s1
theorem FrzL.rel [Glob] {g : G} {w : World} {base : Heap} {k : Nat} {loc : Heap} (hH : HRel g w ⟨base, k, loc⟩) : ∀ {l l' : List AV}, FrzL base.length loc l l' → ∀ cs, LRel g w l cs → LRel (g.frz base.length loc) w l' cs
  | _, _, .nil, cs, h => by simpa [LRel] using h
  | _, _, .cons h1 h2, cs, h => by
    simp only [LRel] at h ⊢
    obtain ⟨c, r, hc, e1, e2⟩ := h
    exact ⟨c, r, hc, Frz.rel hH h1 c e1, FrzL.rel hH h2 r e2⟩
theorem FrzL.mrel [Glob] {g : G} {w : World} {base : Heap} {k : Nat} {loc : Heap} (hH : HRel g w ⟨base, k, loc⟩) : ∀ {l l' : List AV}, FrzL base.length loc l l' → ∀ b o, MRel g w l b o → MRel (g.frz base.length loc) w l' b o
  | _, _, .nil, b, o, h => by simp [MRel]
  | _, _, .cons h1 h2, b, o, h => by
    simp only [MRel] at h ⊢
    obtain ⟨⟨c, e1, e2, e3⟩, e4⟩ := h
    exact ⟨⟨c, e1, Frz.rel hH h1 c e2, fun q => e3 q.1⟩, FrzL.mrel hH h2 b (o + 1) e4⟩
end

/-- the call's own boxes are let go, frozen -/
theorem HRel.frz [Glob] {g : G} {w : World} {base : Heap} {k : Nat} {loc : Heap} (h : HRel g w ⟨base, k, loc⟩) {H : Heap} {g0 : G} {w0 : World} (h0 : HRel g0 w0 (Hp.of H)) (hl : base.length = H.length)
    (hb : ∀ (i : Nat) B, base[i]? = some B → H[i]? = some B ∨ B.below H.length) : HRel ((g.frz base.length loc).cut H.length) w (Hp.of base) := by
  have hz : (Hp.of base).all = base := by simp [Hp.of, Hp.all]
  have hc := HRel.cutBase h0 h hl hb
  have hall : ∀ (i : Nat) B, base[i]? = some B → (⟨base, k, loc⟩ : Hp).all[i]? = some B := fun i B hi => by
    unfold Hp.all
    rw [List.getElem?_append_left (List.getElem?_eq_some_iff.1 hi).1, hi]
  have hne : ∀ {i : Nat} {B : Blk} {b : Nat}, base[i]? = some B → locs g i B = some b → ∀ j C, loc[j]? = some C → C.isLoc = true → locs g (base.length + j) C ≠ some b := by
    intro i B b hi hb j C hj hC e
    have hj' : (⟨base, k, loc⟩ : Hp).all[base.length + j]? = some C := at_loc (by rw [lget_eq]; exact hj)
    have := h.inj i (base.length + j) B _ b (hall i B hi) hj' hb e
    have := (List.getElem?_eq_some_iff.1 hi).1
    omega
  have hx := frz_extV (g.cut H.length) w base.length loc
  have heq : (g.frz base.length loc).cut H.length = (g.cut H.length).frz base.length loc := by
    unfold G.frz G.cut
    simp only [G.mk.injEq, true_and, and_true]
    funext b o
    congr 1
  rw [heq]
  refine ⟨hc.n, hc.k, fun i B hi => ?_, fun b o hb => hc.lt b o hb.1, hc.pend, hc.inj, fun p hp => MRel.extV hx _ _ _ (hc.glob p hp)⟩
  have hr := hc.rel i B hi
  have hi' := hi
  rw [hz] at hi
  exact hr.keepV hx (at_ok hc hi') (fun _ _ => rfl) rfl (fun b o hb ho => ⟨ho, fun j C hj hC e => hne (b := b) hi (by cases B <;> exact hb) j C hj hC (by cases C <;> exact e)⟩)

theorem Ext.frz {g g' : G} {w w' : World} {n0 : Nat} {loc : Heap} (h : Ext g w g' w') : Ext g w (g'.frz n0 loc) w' :=
  ⟨h.n, h.pend, h.ok, h.blk, h.tk, fun b o hb ho => h.own b o hb ho.1, h.os, h.tape, h.output, h.size, h.same, h.cells⟩
end
end Go.Vsi
/-! text R7 -/
namespace Go.Vsi

/-! ### the function's ends -/
def rvR (T : TypeId → Option TI) (n0 : Nat) (top bot : RE) (loc : Heap) : ResultVar → Option AV
  | .tmp t => match rget2 top bot t with
    | some (.v a) => some a
    | some (.lp j o) => some (.ptr (n0 + j) o)
    | some (.lit b) => some (.bool b)
    | none => none
  | .cell t ty => match rget2 top bot t with
    | some (.lp j o) => match lget loc j with
      | some (.box _ l) => match dropC o l with
        | some l' => match T ty with
          | some ti => loadC ti l'
          | none => none
        | none => none
      | _ => none
    | _ => none
def rvRs (T : TypeId → Option TI) (n0 : Nat) (top bot : RE) (loc : Heap) : List ResultVar → Option (List AV)
  | [] => some []
  | r :: rs => match rvR T n0 top bot loc r with
    | some v => match rvRs T n0 top bot loc rs with
      | some vs => some (v :: vs)
      | none => none
    | none => none

/-- a function ends: its own memory is cut off (what the result points to is frozen), or it is all kept -/
inductive EndN (H base : Heap) (loc : Heap) (u : AV) (R : AV → Heap → Prop) : Prop where
  | cut (len : base.length = H.length)
    (low : ∀ (i : Nat) B, base[i]? = some B → H[i]? = some B ∨ B.below H.length)
    (res : ∃ u' r, Frz base.length loc u u' ∧ Wk u' r ∧ below H.length r ∧ R r base)
  | keep (r : AV) (hw : Wk u r) (h : R r (base ++ loc))

def endQ (T : TypeId → Option TI) (n0 : Nat) (rs : List ResultVar) (H : Heap) (R : AV → Heap → Prop) : QR := fun e top bot base _ loc => match e with
  | .ret => match rvRs T n0 top bot loc rs with
    | some [v] => EndN H base loc v R
    | some vs => EndN H base loc (.tup vs) R
    | none => False
  | .normal => match rvRs T n0 top bot loc rs with
    | some [v] => EndN H base loc v R
    | some vs => EndN H base loc (.tup vs) R
    | none => False
  | _ => False

def argRE : Nat → List AV → RE
  | _, [] => []
  | i, v :: l => (i, .v v) :: argRE (i + 1) l
def argO : Nat → List AV → Option RE
  | _, [] => some []
  | i, v :: l => match argO (i + 1) l with
    | some r => some ((i, .v v) :: r)
    | none => none
theorem argO_eq : ∀ (l : List AV) (i : Nat) (r : RE), argO i l = some r → r = argRE i l
  | [], _, _, h => by simp only [argO, Option.some.injEq] at h; exact h.symm
  | v :: l, i, r, h => by
    simp only [argO] at h
    split at h
    · rename_i r' hr
      simp only [Option.some.injEq] at h; subst h
      rw [argO_eq l (i + 1) r' hr]; rfl
    · cases h
theorem argRE_tr (n0 : Nat) : ∀ (l : List AV) (i : Nat), trE n0 (argRE i l) = argEnv i l
  | [], _ => rfl
  | v :: l, i => by simp [argRE, trE, argEnv, tr, argRE_tr n0 l (i + 1)]

section
variable {P : Program} {N : FN} {n0 : Nat} {T : TypeId → Option TI} {kn : TypeId → Nat}

theorem rvRs_RVs [Glob] {top bot : RE} {base : Heap} {k : Nat} {loc : Heap} {env : Env} (hn : base.length = n0) (ha : Apx n0 env (top ++ bot)) : ∀ {rs : List ResultVar} {vs : List AV}, rvRs T n0 top bot loc rs = some vs →
    ∀ {g : G} {w : World} {a : Act} (_ : TOk P T), HRel g w ⟨base, k, loc⟩ → ERel N g w env a → ∃ cs : List Value, (rs.mapM (rvF a)).run P w = .ok cs w ∧ LRel g w vs cs
  | [], vs, h, g, w, a, hT, hH, hE => by
    simp only [rvRs, Option.some.injEq] at h; subst h
    exact ⟨[], by simp, by simp [LRel]⟩
  | r :: rs, vs, h, g, w, a, hT, hH, hE => by
    simp only [rvRs] at h
    split at h
    · rename_i v hv
      split at h
      · rename_i vs' hvs
        simp only [Option.some.injEq] at h; subst h
        have hE' : ERel N g w (trE n0 (top ++ bot)) a := ⟨hE.1, fun s => ha s _ _ _ (hE.rel s), hE.ro, hE.glob⟩
        have hrv : RV T (trE n0 (top ++ bot)) ⟨base, k, loc⟩ r v := by
          cases r with
          | tmp t =>
            simp only [rvR] at hv
            have : ∃ v', rget2 top bot t = some v' ∧ v = tr n0 v' := by
              split at hv <;> simp only [Option.some.injEq, reduceCtorEq] at hv <;> subst hv <;> exact ⟨_, ‹_›, rfl⟩
            obtain ⟨v', hv', rfl⟩ := this
            simp only [RV]; rw [rget2_get hv']; exact nf_ne
          | cell t ty =>
            simp only [rvR] at hv
            split at hv
            · rename_i j o hv'
              split at hv
              · rename_i u l hg
                split at hv
                · rename_i l' hd
                  split at hv
                  · rename_i ti ht
                    refine ⟨n0 + j, o, u, l, l', ti, rget2_get hv', ?_, hd, ht, hv⟩
                    rw [← hn]; exact at_loc hg
                  · cases hv
                · cases hv
              · cases hv
            · cases hv
        obtain ⟨c, h1, h2⟩ := rv_run hT hH hE' hrv
        obtain ⟨cs, h3, h4⟩ := rvRs_RVs hn ha hvs hT hH hE
        refine ⟨c :: cs, ?_, by simp only [LRel]; exact ⟨c, cs, rfl, h2, h4⟩⟩
        rw [List.mapM_cons, Sem.run_bind, h1, Result.andThen_ok, Sem.run_bind, h3]
        rfl
      · cases h
    · cases h

theorem results_of {fn : Func} {a : Act} {w : World} {g : G} {vs : List AV} {cs : List Value} (h1 : (fn.results.toList.mapM (rvF a)).run P w = .ok cs w) (h2 : LRel g w vs cs) :
    ∃ c, (results fn a.tmps).run P w = .ok c w ∧ VRel g w (tupOf vs) c := by
  refine ⟨if hz : cs.toArray.size = 1 then cs.toArray[0] else .tuple cs.toArray, ?_, ?_⟩
  · have e : results fn a.tmps = (do
        let vs ← fn.results.mapM (rvF a)
        pure (if h : vs.size = 1 then vs[0] else .tuple vs)) := rfl
    rw [e, Array.mapM_eq_mapM_toList, Sem.run_bind, Sem.run_map, h1]
    rfl
  · match vs, cs, h2 with
    | [], cs, h2 =>
      simp only [LRel] at h2
      subst h2
      simp [tupOf, VRel, LRel]
    | [v], cs, h2 =>
      simp only [LRel] at h2
      obtain ⟨c, r, rfl, h3, rfl⟩ := h2
      simpa [tupOf] using h3
    | v :: u :: vs, cs, h2 =>
      have hl := h2.length
      simp only [tupOf, VRel]
      refine ⟨cs.toArray, ?_, h2⟩
      rw [dif_neg]
      simp only [List.size_toArray, hl, List.length_cons]
      omega

theorem fn_gen [Glob] (he : Env0 P T kn) (hm : P.follows .mixedOrders = true) {F : FuncId} {fn : Func} {c : Code} {args : List AV} {H : Heap} {R : AV → Heap → Prop} (hf : P.funcs[F]? = some fn) (hnm : (fn.name == "runtime.NumGoroutine") = false) (hb : fn.body = some c)
    (hN : args.length ≤ fn.ntmps) {re : RE} (hre : argO 0 args = some re) (h : Closed H → belowL H.length args → wpC P kn T ⟨fn.ntmps, none⟩ H.length c (endQ T H.length fn.results.toList H R) re [] H 0 []) : VCall P F args H R := by
  obtain rfl := argO_eq _ _ _ hre
  refine ⟨⟨fn, hf, hnm, by simp [hb]⟩, fun g w as hH hl => calls_of_FR (o := none) (n := 0) (callsIn_of_wp_marks hf hb trivial ?_ rfl)⟩
  have hgn : g.n = H.length := by rw [hH.n]; simp [Hp.of]
  have hw := wpC_sound he hm c _ _ _ _ _ _ rfl (h (closed_of hH) (hgn ▸ LRel.below _ _ hl))
  rw [List.append_nil, argRE_tr] at hw
  refine Code.wpIn_mono ?_ (hw g w _ hH (argEnv_rel hl hN hH.glob))
  rintro e a' w' ⟨env', hp', g', ⟨top, bot, base, k, loc, hap, rfl, hbl, hq⟩, hH', hE', hx, hds⟩
  have key : ∀ vs, rvRs T H.length top bot loc fn.results.toList = some vs → EndN H base loc (tupOf vs) R → LeavesInM (FR none) 0 P fn a'.tmps (fun e w' => ∃ r H' g'' c', e = .returned c' ∧ R r H' ∧ HRel g'' w' (Hp.of H') ∧ VRel g'' w' r c' ∧ Ext g w g'' w') a'.defers .returning w' := by
    intro vs hvs hend
    obtain ⟨rs, hds1, hds2, hds3⟩ := hds
    simp only [List.append_nil] at hds1
    rw [hds1]
    obtain ⟨x1, x2, x3⟩ := shutAll_ok hds2 (fun r hr => ⟨(hds3 r hr).1, (hds3 r hr).2.1⟩) hx
    refine leaves_marks hds2 (fun r hr => (hds3 r hr).2.1) ?_
    have hH'' := x3 _ hH'
    have hE'' : ERel ⟨fn.ntmps, none⟩ g' (shutAll rs w') env' a' := ⟨hE'.1, fun s => VRel.extV x2 _ _ (hE'.rel s), hE'.ro, fun p hp => MRel.extV x2 _ _ _ (hE'.glob p hp)⟩
    obtain ⟨cs, h1, h2⟩ := rvRs_RVs (N := ⟨fn.ntmps, none⟩) hbl hap hvs he.T hH'' hE''
    obtain ⟨c', h3, h4⟩ := results_of h1 h2
    cases hend with
    | cut hlen hlow hres =>
      obtain ⟨u', r, hfz, hwk, hbr, hR⟩ := hres
      refine ⟨c', h3, r, base, (g'.frz base.length loc).cut H.length, c', rfl, hR, HRel.frz hH'' hH hlen hlow, ?_, x1.frz.cut (by omega)⟩
      exact VRel.cut r c' (hwk _ _ _ (hfz.rel hH'' c' h4)) hbr
    | keep r hwk hR => exact ⟨c', h3, r, base ++ loc, g', c', rfl, hR, hH''.of, hwk _ _ _ h4, x1⟩
  cases e with
  | ret =>
    simp only [endQ] at hq
    split at hq
    · rename_i v hvs; exact key [v] hvs hq
    · rename_i vs hne hvs; exact key vs hvs (by
        have : tupOf vs = .tup vs := by
          match vs, hne with
          | [], _ => rfl
          | [v], hne => exact (hne v rfl).elim
          | _ :: _ :: _, _ => rfl
        rw [this]; exact hq)
    · exact hq.elim
  | normal =>
    simp only [endQ] at hq
    split at hq
    · rename_i v hvs; exact key [v] hvs hq
    · rename_i vs hne hvs; exact key vs hvs (by
        have : tupOf vs = .tup vs := by
          match vs, hne with
          | [], _ => rfl
          | [v], hne => exact (hne v rfl).elim
          | _ :: _ :: _, _ => rfl
        rw [this]; exact hq)
    · exact hq.elim
  | exit i => exact hq.elim
  | goto i => exact hq.elim
  | panic i => exact hq.elim
  | outgrown => exact hq.elim

def detR (H : Heap) (v : AV) : AV → Heap → Prop := fun r H' => H' = H ∧ r = v
def pureR (H : Heap) (R : AV → Prop) : AV → Heap → Prop := fun r H' => H' = H ∧ R r

theorem EndN.det {H : Heap} {loc : Heap} {u v : AV} (hb : below H.length v) (hw : Wk u v) : EndN H H loc u (detR H v) :=
  .cut rfl (fun _ _ h => .inl h) ⟨u, v, .refl u, hw, hb, rfl, rfl⟩
theorem EndN.detF {H : Heap} {loc : Heap} {u u' v : AV} (hb : below H.length v) (hf : Frz H.length loc u u') (hw : Wk u' v) : EndN H H loc u (detR H v) :=
  .cut rfl (fun _ _ h => .inl h) ⟨u', v, hf, hw, hb, rfl, rfl⟩
theorem EndN.pure {H : Heap} {loc : Heap} {u v : AV} {R : AV → Prop} (hb : below H.length v) (hw : Wk u v) (hR : R v) : EndN H H loc u (pureR H R) :=
  .cut rfl (fun _ _ h => .inl h) ⟨u, v, .refl u, hw, hb, rfl, hR⟩

theorem fn_det [Glob] (he : Env0 P T kn) (hm : P.follows .mixedOrders = true) {F : FuncId} {fn : Func} {c : Code} {args : List AV} {H : Heap} {v : AV} (hf : P.funcs[F]? = some fn) (hnm : (fn.name == "runtime.NumGoroutine") = false) (hb : fn.body = some c)
    (hN : args.length ≤ fn.ntmps) {re : RE} (hre : argO 0 args = some re) (h : Closed H → belowL H.length args → wpC P kn T ⟨fn.ntmps, none⟩ H.length c (endQ T H.length fn.results.toList H (detR H v)) re [] H 0 []) : VDet P F args H v :=
  fn_gen he hm hf hnm hb hN hre h
theorem fn_pure [Glob] (he : Env0 P T kn) (hm : P.follows .mixedOrders = true) {F : FuncId} {fn : Func} {c : Code} {args : List AV} {H : Heap} {R : AV → Prop} (hf : P.funcs[F]? = some fn) (hnm : (fn.name == "runtime.NumGoroutine") = false) (hb : fn.body = some c)
    (hN : args.length ≤ fn.ntmps) {re : RE} (hre : argO 0 args = some re) (h : Closed H → belowL H.length args → wpC P kn T ⟨fn.ntmps, none⟩ H.length c (endQ T H.length fn.results.toList H (pureR H R)) re [] H 0 []) : VPure P F args H R :=
  fn_gen he hm hf hnm hb hN hre h

/-! ### loops -/
def subR (n0 : Nat) (top bot : RE) : RE → Prop
  | [] => True
  | (i, w) :: l => (∃ v, rget2 top bot i = some v ∧ Wk (tr n0 v) (tr n0 w)) ∧ subR n0 top bot l
theorem subR_get {top bot : RE} : ∀ {l : RE}, subR n0 top bot l → ∀ {s : Nat} {w : RG}, rgetO l s = some w → Wk (get (trE n0 (top ++ bot)) s) (tr n0 w)
  | [], _, s, w, h => by cases h
  | (i, w') :: l, h, s, w, hg => by
    simp only [rgetO] at hg
    cases hb : Nat.beq i s with
    | true =>
      simp only [hb, Option.some.injEq] at hg; subst hg
      have := Nat.eq_of_beq_eq_true hb
      subst this
      obtain ⟨v, h1, h2⟩ := h.1
      rw [rget2_get h1]; exact h2
    | false => simp only [hb] at hg; exact subR_get h.2 hg

def hasK : RE → Nat → Bool
  | [], _ => false
  | (i, _) :: l, t => match Nat.beq i t with
    | true => true
    | false => hasK l t
def disjK : RE → RE → Bool
  | _, [] => true
  | top, (i, _) :: l => match hasK top i with
    | true => false
    | false => disjK top l
theorem hasK_none {t : Nat} : ∀ {l : RE}, hasK l t = false → rgetO l t = none
  | [], _ => rfl
  | (i, _) :: l, h => by
    simp only [hasK] at h
    simp only [rgetO]
    cases hb : Nat.beq i t with
    | true => simp [hb] at h
    | false => simp only [hb] at h; exact hasK_none h
theorem disjK_none {top : RE} : ∀ {bk : RE}, disjK top bk = true → ∀ {s : Nat} {w : RG}, rgetO bk s = some w → rgetO top s = none
  | [], _, s, w, h => by cases h
  | (i, v) :: l, hd, s, w, h => by
    simp only [disjK] at hd
    cases hk : hasK top i with
    | true => simp [hk] at hd
    | false =>
      simp only [hk] at hd
      simp only [rgetO] at h
      cases hb : Nat.beq i s with
      | true => have := Nat.eq_of_beq_eq_true hb; subst this; exact hasK_none hk
      | false => simp only [hb] at h; exact disjK_none hd h

def belowRE (n0 n : Nat) : RE → Prop
  | [] => True
  | (_, v) :: l => below n (tr n0 v) ∧ belowRE n0 n l
theorem belowRE_get {n : Nat} : ∀ {l : RE}, belowRE n0 n l → ∀ {s : Nat} {w : RG}, rgetO l s = some w → below n (tr n0 w)
  | [], _, s, w, h => by cases h
  | (i, v) :: l, hb, s, w, h => by
    simp only [rgetO] at h
    cases hi : Nat.beq i s with
    | true => simp only [hi, Option.some.injEq] at h; subst h; exact hb.1
    | false => simp only [hi] at h; exact belowRE_get hb.2 h

/-- the round's end comes back to the head -/
structure RoundN {σ : Type} (inv : σ → Prop) (ms : σ → Nat) (st : σ → RE) (lc : σ → Heap) (bk : RE) (n0 : Nat) (base : σ → Heap) (k : Nat) (m : Nat) (top bot : RE) (base' : Heap) (loc' : Heap) : Prop where
  h : ∃ s', inv s' ∧ ms s' < m ∧ subR n0 top bot (st s') ∧ ((bot = bk ∧ disjK top bk = true) ∨ subR n0 top bot bk) ∧ base' = base s' ∧ ∃ ex, loc' = lc s' ++ ex ∧ (ex = [] ∨ belowRE n0 (n0 + k) (st s') ∧ belowH (n0 + k) (lc s'))

def roundQ {σ : Type} (inv : σ → Prop) (ms : σ → Nat) (st : σ → RE) (lc : σ → Heap) (bk : RE) (n0 : Nat) (base : σ → Heap) (k : Nat) (m : Nat) (Q : QR) : QR := fun e top bot base' k' loc' => match e with
  | .normal => RoundN inv ms st lc bk n0 base k m top bot base' loc'
  | e => Q e top bot base' k' loc'

theorem belowH_of {n : Nat} : ∀ {H : Heap}, (∀ (i : Nat) B, H[i]? = some B → B.below n) → belowH n H
  | [], _ => trivial
  | B :: H, h => ⟨h 0 B (by simp), belowH_of fun i B hi => h (i + 1) B (by simpa using hi)⟩

theorem loop_B [Glob] (he : Env0 P T kn) (hm : P.follows .mixedOrders = true) {σ : Type} (inv : σ → Prop) (ms : σ → Nat) (st : σ → RE) (bs lc : σ → Heap) (bk : RE) (s0 : σ) {c : Code} {Q : QR} {top bot : RE} {base : Heap} {k : Nat} {loc : Heap}
    (hn : ∀ s, inv s → (bs s).length = n0) (hcl : ∀ s, inv s → Closed (bs s)) (ts : List Nat) (hbk : pickO ts top bot = some bk) (h0 : inv s0) (hst : subR n0 top bot (st s0)) (hbase : base = bs s0) (hloc : loc = lc s0) (hlen : ∀ s, inv s → (lc s).length = k)
    (round : ∀ s, inv s → wpC P kn T N n0 c (roundQ inv ms st lc bk n0 bs k (ms s) Q) (st s) bk (bs s) k (lc s)) : LoopN P kn T N n0 c Q top bot base k loc := by
  refine ⟨?_⟩
  subst hloc hbase
  intro g w a hH hE
  have hbkb : ∀ s v, rgetO bk s = some v → below (n0 + k) (tr n0 v) := by
    intro s v hv
    have h1 := rget2_get (n0 := n0) (pickO_get hbk hv)
    have h2 := VRel.below _ _ (hE.rel s)
    rw [h1, hH.n] at h2
    simp only [hn s0 h0] at h2
    exact h2
  let J : Nat → Act → World → Prop := fun n a' w' => ∃ s g', inv s ∧ ms s = n ∧ HRel g' w' ⟨bs s, k, lc s⟩ ∧ ERel N g' w' (trE n0 (st s ++ bk)) a' ∧ Ext g w g' w' ∧ DRel w a.defers g' w' a'.defers
  have hget : ∀ (l bk : RE) (s : Nat), get (trE n0 (l ++ bk)) s = match rgetO l s with
      | some v => tr n0 v
      | none => match rgetO bk s with
        | some v => tr n0 v
        | none => .junk := by
    intro l bk s
    rw [trE_append]
    cases hl : rgetO l s with
    | some v => simp only; exact rgetO_get hl _
    | none =>
      simp only
      rw [rgetO_none hl]
      cases hb : rgetO bk s with
      | some v => simp only; have := rgetO_get (n0 := n0) hb []; simpa using this
      | none => simp only; have := rgetO_none (n0 := n0) hb []; simp only [List.append_nil] at this; rw [this]; rfl
  refine LoopWp.inv (fun a' w' => ∃ n, J n a' w') (fun a' w' => by classical exact if h : ∃ n, J n a' w' then Classical.choose (least h) else 0) ⟨ms s0, s0, g, h0, rfl, hH, ⟨hE.1, fun s => ?_, hE.ro, hE.glob⟩, Ext.refl g w, DRel.refl _ _ _ _⟩ ?_
  · rw [hget]
    cases hl : rgetO (st s0) s with
    | some v => simp only; exact subR_get hst hl _ _ _ (hE.rel s)
    | none =>
      simp only
      cases hb : rgetO bk s with
      | some v => simp only; rw [← rget2_get (n0 := n0) (pickO_get hbk hb)]; exact hE.rel s
      | none => simp [VRel]
  intro a1 w1 hex
  have hJ := (Classical.choose_spec (least hex)).1
  obtain ⟨s1, g1, hI1, hms1, hH1, hE1, hx1, hd1⟩ := hJ
  have hr := wpC_sound he hm c _ _ _ _ _ _ (hn s1 hI1) (round s1 hI1) g1 w1 a1 hH1 hE1
  rw [hE.fo hx1] at hr
  refine Code.wpIn_mono ?_ hr
  rintro e a2 w2 ⟨env2, hp2, g2, ⟨top2, bot2, base2, k2, loc2, hap, rfl, hn2, q⟩, hH2, hE2, hx2, hd2⟩
  have other : e ≠ .normal → Q e top2 bot2 base2 k2 loc2 → Lift N (LS n0 Q) g w a.defers e a2 w2 := fun _ hq =>
    ⟨env2, _, g2, ⟨top2, bot2, base2, k2, loc2, hap, rfl, hn2, hq⟩, hH2, hE2, hx1.trans hx2, hd1.trans hx2 hx1.size hd2⟩
  cases e with
  | normal =>
    obtain ⟨s', hi', hms', hsub, hbk', rfl, ex, rfl, hbel⟩ := q
    have hns := hn s' hi'
    have hE3 : ERel N g2 w2 (trE n0 (st s' ++ bk)) a2 := by
      refine ⟨hE2.1, fun s => ?_, hE2.ro, hE2.glob⟩
      have h2 := hap s _ _ _ (hE2.rel s)
      rw [hget]
      cases hl : rgetO (st s') s with
      | some v => simp only; exact subR_get hsub hl _ _ _ h2
      | none =>
        simp only
        cases hb : rgetO bk s with
        | none => simp [VRel]
        | some v =>
          simp only
          rcases hbk' with ⟨rfl, hdj⟩ | hsb
          · rw [hget, disjK_none hdj hb] at h2
            simp only [hb] at h2
            exact h2
          · exact subR_get hsb hb _ _ _ h2
    have hlc := hlen s' hi'
    have hex2 : ∃ m, m < ms s1 ∧ J m a2 w2 := by
      rcases hbel with rfl | ⟨hb1, hb2⟩
      · have hk2 : k2 = k := by have := hH2.k; simp only [List.append_nil] at this; omega
        subst hk2
        rw [List.append_nil] at hH2
        exact ⟨ms s', hms', s', g2, hi', rfl, hH2, hE3, hx1.trans hx2, hd1.trans hx2 hx1.size hd2⟩
      · have hcut := hH2.cutLoc hlc (hcl s' hi') (by rw [hns]; exact hb2)
        have hgn : g.n ≤ (bs s').length + k := by rw [hH.n, hns]; simp only [hn s0 h0]; exact Nat.le_refl _
        have hxc := (hx1.trans hx2).cut hgn
        refine ⟨ms s', hms', s', g2.cut ((bs s').length + k), hi', rfl, hcut, ⟨hE3.1, fun s => VRel.cut _ _ (hE3.rel s) ?_, fun i hi => ?_, glob_cut hE3.glob⟩, hxc, ?_⟩
        · rw [hget]
          rw [hns]
          cases hl : rgetO (st s') s with
          | some v => simp only; exact belowRE_get hb1 hl
          | none =>
            simp only
            cases hb : rgetO bk s with
            | some v => simp only; exact hbkb s v hb
            | none => simp [below]
        · have h1 := hE.ro i hi
          exact ⟨Nat.lt_of_lt_of_le h1.1 hgn, fun q => (hE3.ro i hi).2 q.1⟩
        · obtain ⟨rs, d1, d2, d3⟩ := hd1.trans hx2 hx1.size hd2
          exact ⟨rs, d1, d2, d3⟩
    obtain ⟨m, hmlt, hJm⟩ := hex2
    have hex2 : ∃ n, J n a2 w2 := ⟨m, hJm⟩
    refine ⟨hex2, ?_⟩
    simp only [hex, hex2, dif_pos]
    refine Nat.lt_of_le_of_lt ((Classical.choose_spec (least hex2)).2 m hJm) ?_
    rw [hms1] at hmlt
    exact hmlt
  | exit i => exact other (by simp) q
  | goto l => exact other (by simp) q
  | ret => exact other (by simp) q
  | panic ch => exact other (by simp) q
  | outgrown => exact other (by simp) q
theorem loop_R [Glob] (he : Env0 P T kn) (hm : P.follows .mixedOrders = true) {σ : Type} (inv : σ → Prop) (ms : σ → Nat) (st : σ → RE) (lc : σ → Heap) (bk : RE) (s0 : σ) {c : Code} {Q : QR} {top bot : RE} {base : Heap} {k : Nat} {loc : Heap}
    (hn : base.length = n0) (hcl : Closed base) (ts : List Nat) (hbk : pickO ts top bot = some bk) (h0 : inv s0) (hst : subR n0 top bot (st s0)) (hloc : loc = lc s0) (hlen : ∀ s, inv s → (lc s).length = k)
    (round : ∀ s, inv s → wpC P kn T N n0 c (roundQ inv ms st lc bk n0 (fun _ => base) k (ms s) Q) (st s) bk base k (lc s)) : LoopN P kn T N n0 c Q top bot base k loc :=
  loop_B he hm inv ms st (fun _ => base) lc bk s0 (fun _ _ => hn) (fun _ _ => hcl) ts hbk h0 hst rfl hloc hlen round
end
end Go.Vsi
/-! text R8 -/
namespace Go.Vsi

/-! ### lists of encoded elements -/
theorem flat_drop {α : Type} {f : α → List AV} {sz : Nat} (hsz : ∀ x, (f x).length = sz) : ∀ (l : List α) (m : Nat) (x : α), l[m]? = some x → ∃ r, (l.flatMap f).drop (m * sz) = f x ++ r
  | [], m, x, h => by simp at h
  | y :: l, 0, x, h => by simp at h; subst h; exact ⟨l.flatMap f, by simp⟩
  | y :: l, m + 1, x, h => by
    obtain ⟨r, hr⟩ := flat_drop hsz l m x (by simpa using h)
    refine ⟨r, ?_⟩
    rw [List.flatMap_cons, show (m + 1) * sz = (f y).length + m * sz by rw [hsz, Nat.add_mul]; omega, ← List.drop_drop, List.drop_left, hr]

theorem SegN.nth {α : Type} {f : α → List AV} {sz : Nat} {l : List α} {i : Int} {k : List AV → Prop} (d : α) (m : Nat) (hi : i = m) (hm : m < l.length) (hsz : ∀ x, (f x).length = sz) (h : k (f (l.getD m d))) : SegN (l.flatMap f) (i.toNat * sz) k := by
  refine ⟨_, ?_, h⟩
  have hx : l[m]? = some (l.getD m d) := by simp [List.getElem?_eq_getElem hm]
  obtain ⟨r, hr⟩ := flat_drop hsz l m _ hx
  exact ⟨r, by rw [hi, Int.toNat_natCast, hr]⟩

theorem belowL_append {n : Nat} : ∀ (l m : List AV), belowL n (l ++ m) ↔ belowL n l ∧ belowL n m
  | [], m => by simp [belowL]
  | v :: l, m => by simp [belowL, belowL_append l m, and_assoc]
theorem belowL_flat {α : Type} {f : α → List AV} {n : Nat} (l : List α) (h : ∀ x, belowL n (f x)) : belowL n (l.flatMap f) := by
  induction l with
  | nil => simp [belowL]
  | cons x l ih => simp [belowL_append, h, ih]
theorem flat_length {α : Type} {f : α → List AV} {sz : Nat} (hsz : ∀ x, (f x).length = sz) (l : List α) : (l.flatMap f).length = l.length * sz := by
  induction l with
  | nil => simp
  | cons x l ih => simp [ih, hsz, Nat.add_mul, Nat.add_comm]

theorem w64 {n : Int} (h : -9223372036854775808 ≤ n ∧ n ≤ 9223372036854775807) : IntKind.i64.wrap n = n := IntWalk.i64_in n h

/-! ### integers under their plain names -/
section
variable {k : Int → Prop} {x y : Int}
theorem EqN.i64 (h : -9223372036854775808 ≤ x ∧ x ≤ 9223372036854775807) (a : k x) : EqN (IntKind.i64.wrap x) k := ⟨_, IntWalk.i64_in x h, a⟩
theorem EqN.i32 (h : -2147483648 ≤ x ∧ x ≤ 2147483647) (a : k x) : EqN (IntKind.i32.wrap x) k := ⟨_, IntWalk.i32_in x h, a⟩
theorem EqN.u8 (h : 0 ≤ x ∧ x ≤ 255) (a : k x) : EqN (IntKind.u8.wrap x) k := ⟨_, IntWalk.u8_in x h, a⟩
theorem EqN.u16 (h : 0 ≤ x ∧ x ≤ 65535) (a : k x) : EqN (IntKind.u16.wrap x) k := ⟨_, IntWalk.u16_in x h, a⟩
theorem EqN.u32 (h : 0 ≤ x ∧ x ≤ 4294967295) (a : k x) : EqN (IntKind.u32.wrap x) k := ⟨_, IntWalk.u32_in x h, a⟩
theorem EqN.u64 (h : 0 ≤ x ∧ x ≤ 18446744073709551615) (a : k x) : EqN (IntKind.u64.wrap x) k := ⟨_, IntWalk.u64_in x h, a⟩
theorem EqN.quo (h : 0 ≤ x ∧ x ≤ 9223372036854775807 ∧ 1 ≤ y) (a : k (x / y)) : EqN (IntKind.i64.wrap (x.tdiv y)) k := ⟨_, IntWalk.i64_quo x y h, a⟩
theorem EqN.quo8 (h : 0 ≤ x ∧ x ≤ 255 ∧ 1 ≤ y) (a : k (x / y)) : EqN (IntKind.u8.wrap (x.tdiv y)) k := ⟨_, IntWalk.u8_quo x y h, a⟩
theorem EqN.quou (h : 0 ≤ x ∧ x ≤ 18446744073709551615 ∧ 1 ≤ y) (a : k (x / y)) : EqN (IntKind.u64.wrap (x.tdiv y)) k := ⟨_, IntWalk.u64_quo x y h, a⟩
theorem EqN.rem (h : 0 ≤ x) (a : k (x % y)) : EqN (x.tmod y) k := ⟨_, Int.tmod_eq_emod_of_nonneg h, a⟩
theorem EqN.shr {b : Nat} (m : Nat) (hy : y = m) (hb : m ≤ b) (a : k (x / (2 : Int) ^ m)) : EqN (x.fdiv (2 ^ min y.toNat b)) k := ⟨_, by
  subst hy
  rw [Int.toNat_natCast, Nat.min_eq_left hb, Int.fdiv_eq_ediv_of_nonneg]
  exact Int.pow_nonneg (by omega), a⟩
end

theorem EqN.shrL {k : Int → Prop} {x y : Int} {b : Nat} (m : Nat) (M : Int) (hM : (2 : Int) ^ m = M) (hy : y = m) (hb : Nat.ble m b = true) (a : k (x / M)) : EqN (x.fdiv (2 ^ min y.toNat b)) k := by
  subst hM
  exact EqN.shr m hy (Nat.le_of_ble_eq_true hb) a

theorem EqN.shlU {k : Int → Prop} {x y : Int} {b : Nat} (m : Nat) (M : Int) (hM : (2 : Int) ^ m = M) (hy : y = m) (hb : Nat.ble m b = true) (h : 0 ≤ x * M ∧ x * M ≤ 18446744073709551615) (a : k (x * M)) : EqN (IntKind.u64.wrap (x * 2 ^ min y.toNat b)) k := by
  subst hM hy
  rw [Int.toNat_natCast, Nat.min_eq_left (Nat.le_of_ble_eq_true hb)]
  exact EqN.u64 h a
theorem EqN.shlI {k : Int → Prop} {x y : Int} {b : Nat} (m : Nat) (M : Int) (hM : (2 : Int) ^ m = M) (hy : y = m) (hb : Nat.ble m b = true) (h : -9223372036854775808 ≤ x * M ∧ x * M ≤ 9223372036854775807) (a : k (x * M)) : EqN (IntKind.i64.wrap (x * 2 ^ min y.toNat b)) k := by
  subst hM hy
  rw [Int.toNat_natCast, Nat.min_eq_left (Nat.le_of_ble_eq_true hb)]
  exact EqN.i64 h a

theorem FrzL.refl {n0 : Nat} {loc : Heap} : ∀ l : List AV, FrzL n0 loc l l
  | [] => .nil
  | v :: l => .cons (.refl v) (FrzL.refl l)

theorem OfsN.at_ {i : Int} {n : Nat} {k : Nat → Prop} (h : 0 ≤ i ∧ i < n) (a : k i.toNat) : OfsN i n k := ⟨i.toNat, by omega, by omega, a⟩
theorem NatN.at_ {i : Int} {k : Nat → Prop} (h : 0 ≤ i) (a : k i.toNat) : NatN i k := ⟨i.toNat, by omega, a⟩

theorem VDet.wk [Glob] {P : Program} {F : FuncId} {as as' : List AV} {H : Heap} {v : AV} (h : VDet P F as' H v) (hw : WkL as as') : VDet P F as H v :=
  ⟨h.1, fun g w cs hH hl => h.2 g w cs hH (hw.rel hl)⟩

theorem map_take_succ {α β : Type} (f : α → β) (l : List α) (d : α) (k : Nat) (h : k < l.length) : (l.take k).map f ++ [f (l.getD k d)] = (l.take (k + 1)).map f := by
  rw [List.take_add_one, List.map_append]
  simp [List.getElem?_eq_getElem h]
theorem foldl_take {α β : Type} (f : β → α → β) (b : β) (l : List α) (d : α) (k : Nat) (h : k < l.length) : (l.take (k + 1)).foldl f b = f ((l.take k).foldl f b) (l.getD k d) := by
  rw [List.take_add_one, List.foldl_append]
  simp [List.getElem?_eq_getElem h]

/-! ### a loop, round by round -/
def rounds [Glob] (P : Program) (kn : TypeId → Nat) (T : TypeId → Option TI) (N : FN) (n0 : Nat) (c : Code) (Q : QR) (n : Nat) : RE → RE → Heap → Nat → Heap → Prop :=
  @Nat.rec (fun _ => RE → RE → Heap → Nat → Heap → Prop) (fun _ _ _ _ _ => False)
    (fun _ ih top bot base k loc => wpC P kn T N n0 c (fun e top bot base k loc => match e with
      | .normal => ih top bot base k loc
      | e => Q e top bot base k loc) top bot base k loc) n

section
variable {P : Program} {N : FN} {n0 : Nat} {T : TypeId → Option TI} {kn : TypeId → Nat}
theorem rounds_code [Glob] (he : Env0 P T kn) (hm : P.follows .mixedOrders = true) {c : Code} {Q : QR} {g0 : G} {w0 : World} {ds : List Deferred} : ∀ (n : Nat) (top bot : RE) (base : Heap) (k : Nat) (loc : Heap) (g : G) (w : World) (a : Act), base.length = n0 → HRel g w ⟨base, k, loc⟩ → ERel N g w (trE n0 (top ++ bot)) a → Ext g0 w0 g w → DRel w0 ds g w a.defers →
    rounds P kn T N n0 c Q n top bot base k loc → LoopWp (N.fo g) P c (Lift N (LS n0 Q) g0 w0 ds) a w
  | 0, _, _, _, _, _, _, _, _, _, _, _, _, _, h => h.elim
  | n + 1, top, bot, base, k, loc, g, w, a, hn, hH, hE, hx, hd, h => by
    have hw := wpC_sound he hm c _ top bot base k loc hn h g w a hH hE
    refine LoopWp.peel (Code.wpIn_mono ?_ hw)
    rintro e a2 w2 ⟨env2, hp2, g2, ⟨top2, bot2, base2, k2, loc2, hap, rfl, hn2, q⟩, hH2, hE2, hx2, hd2⟩
    have other : e ≠ .normal → Q e top2 bot2 base2 k2 loc2 → Lift N (LS n0 Q) g0 w0 ds e a2 w2 := fun _ hq =>
      ⟨env2, _, g2, ⟨top2, bot2, base2, k2, loc2, hap, rfl, hn2, hq⟩, hH2, hE2, hx.trans hx2, hd.trans hx2 hx.size hd2⟩
    cases e with
    | normal =>
      have := rounds_code he hm n _ _ _ _ _ g2 w2 a2 hn2 hH2 ⟨hE2.1, fun s => hap s _ _ _ (hE2.rel s), hE2.ro, hE2.glob⟩ (hx.trans hx2) (hd.trans hx2 hx.size hd2) q
      rw [hE.fo hx2] at this
      exact this
    | exit i => exact other (by simp) q
    | goto l => exact other (by simp) q
    | ret => exact other (by simp) q
    | panic ch => exact other (by simp) q
    | outgrown => exact other (by simp) q

theorem LoopN.rounds [Glob] (he : Env0 P T kn) (hm : P.follows .mixedOrders = true) (n : Nat) {c : Code} {Q : QR} {top bot : RE} {base : Heap} {k : Nat} {loc : Heap} (hn : base.length = n0) (h : rounds P kn T N n0 c Q n top bot base k loc) : LoopN P kn T N n0 c Q top bot base k loc :=
  ⟨fun g w a hH hE => (rounds_code he hm n top bot base k loc g w a hn hH hE (Ext.refl g w) (DRel.refl _ _ _ _) h)⟩

/-- before a loop: a nil slice gets a token of its own -/
theorem LoopN.tok [Glob] (t : Nat) (e : TypeId) (sz : Nat) {c : Code} {Q : QR} {top bot : RE} {base : Heap} {k : Nat} {loc loc' : Heap} (hn : base.length = n0) (hv : rget2 top bot t = some (.v .nils)) (hl : snocC loc (.tok e sz 0) = some loc')
    (h : LoopN P kn T N n0 c Q ((t, .v (.sl (some (n0 + k)) 0 [])) :: top) bot base (k + 1) loc') : LoopN P kn T N n0 c Q top bot base k loc := by
  refine ⟨fun g w a hH hE => ?_⟩
  obtain ⟨g1, f1, f2, f3, f4⟩ := hH.nilTok e sz
  have hgn := hH.n
  simp only at hgn
  rw [snocC_eq _ _ _ hl] at h
  have hE' := hE.ext f4
  rw [← hE.fo f4]
  refine LoopWp.mono (h.h g1 w a f3 ⟨hE.1, fun s => ?_, hE'.ro, hE'.glob⟩) (fun _ _ _ hl => Lift.of_later f4 (DRel.refl _ _ _ _) hl)
  simp only [List.cons_append, trE]
  by_cases hs : t = s
  · subst hs
    rw [get_put_same]
    have h0 := hE.rel t
    rw [rget2_get hv] at h0
    simp only [tr, VRel] at h0 ⊢
    refine ⟨none, 0, h0, Nat.le_refl _, .inl trivial, fun t ht => ?_⟩
    cases ht
    rw [← hn, ← hgn]
    refine ⟨f1, by simp, fun _ => ?_⟩
    rw [f2]
    simp
  · rw [get_put_ne _ _ hs]
    exact VRel.ext f4 _ _ (hE.rel s)

/-- before a loop: a nil slice in a box gets a token of its own -/
theorem LoopN.tokB [Glob] (i j : Nat) (e : TypeId) (sz : Nat) {c : Code} {Q : QR} {top bot : RE} {base : Heap} {k : Nat} {loc loc1 loc' : Heap} {bt : TypeId} {l l' : List AV} (hn : base.length = n0) (hb : lget loc i = some (.box bt l)) (hv : lget l j = some .nils) (hs : lset l j (.sl (some (n0 + k)) 0 []) = some l') (hl : snocC loc (.tok e sz 0) = some loc1) (h1 : lset loc1 i (.box bt l') = some loc')
    (h : LoopN P kn T N n0 c Q top bot base (k + 1) loc') : LoopN P kn T N n0 c Q top bot base k loc := by
  refine ⟨fun g w a hH hE => ?_⟩
  rw [snocC_eq _ _ _ hl] at h1
  obtain ⟨g1, f3, f4⟩ := hH.tokBox (at_loc hb) hv (by rw [← hn] at hs; exact hs) (put_loc h1)
  rw [← hE.fo f4]
  exact LoopWp.mono (h.h g1 w a f3 (hE.ext f4)) (fun _ _ _ hl => Lift.of_later f4 (DRel.refl _ _ _ _) hl)

theorem LoopN.vecB [Glob] (i j : Nat) (e : TypeId) (sz : Nat) {c : Code} {Q : QR} {top bot : RE} {base : Heap} {k : Nat} {loc loc1 loc' : Heap} {bt : TypeId} {l l' : List AV} (hn : base.length = n0) (hb : lget loc i = some (.box bt l)) (hv : lget l j = some .nils) (hs : lset l j (.vs (n0 + k) 0) = some l') (hl : snocC loc (.vec e sz []) = some loc1) (h1 : lset loc1 i (.box bt l') = some loc')
    (h : LoopN P kn T N n0 c Q top bot base (k + 1) loc') : LoopN P kn T N n0 c Q top bot base k loc := by
  refine ⟨fun g w a hH hE => ?_⟩
  rw [snocC_eq _ _ _ hl] at h1
  obtain ⟨g1, f3, f4⟩ := hH.vecBox (at_loc hb) hv (by rw [← hn] at hs; exact hs) (put_loc h1)
  rw [← hE.fo f4]
  exact LoopWp.mono (h.h g1 w a f3 (hE.ext f4)) (fun _ _ _ hl => Lift.of_later f4 (DRel.refl _ _ _ _) hl)

/-- one round, then the loop again -/
theorem LoopN.once [Glob] (he : Env0 P T kn) (hm : P.follows .mixedOrders = true) {c : Code} {Q : QR} {top bot : RE} {base : Heap} {k : Nat} {loc : Heap} (hn : base.length = n0)
    (h : wpC P kn T N n0 c (fun e top bot base k loc => match e with
      | .normal => LoopN P kn T N n0 c Q top bot base k loc
      | e => Q e top bot base k loc) top bot base k loc) : LoopN P kn T N n0 c Q top bot base k loc := by
  refine ⟨fun g w a hH hE => ?_⟩
  refine LoopWp.peel (Code.wpIn_mono ?_ (wpC_sound he hm c _ top bot base k loc hn h g w a hH hE))
  rintro e a2 w2 ⟨env2, hp2, g2, ⟨top2, bot2, base2, k2, loc2, hap, rfl, hn2, q⟩, hH2, hE2, hx2, hd2⟩
  have other : e ≠ .normal → Q e top2 bot2 base2 k2 loc2 → Lift N (LS n0 Q) g w a.defers e a2 w2 := fun _ hq =>
    ⟨env2, _, g2, ⟨top2, bot2, base2, k2, loc2, hap, rfl, hn2, hq⟩, hH2, hE2, hx2, hd2⟩
  cases e with
  | normal =>
    have := q.h g2 w2 a2 hH2 ⟨hE2.1, fun s => hap s _ _ _ (hE2.rel s), hE2.ro, hE2.glob⟩
    rw [hE.fo hx2] at this
    exact LoopWp.mono this (fun e a3 w3 hl => Lift.of_later hx2 hd2 hl)
  | exit i => exact other (by simp) q
  | goto l => exact other (by simp) q
  | ret => exact other (by simp) q
  | panic ch => exact other (by simp) q
  | outgrown => exact other (by simp) q
end
end Go.Vsi
/-! text R9 -/
namespace Go.Vsi
theorem SubN.flat {α : Type} {f : α → List AV} {sz : Nat} {l : List α} {lo n : Nat} {k : List AV → Prop} (hsz : ∀ x, (f x).length = sz) (h : lo + n ≤ l.length) (a : k (((l.drop lo).take n).flatMap f)) : SubN (l.flatMap f) (lo * sz) (n * sz) k := by
  have key : ∀ (l : List α) (m : Nat), (l.flatMap f).drop (m * sz) = (l.drop m).flatMap f := by
    intro l
    induction l with
    | nil => intro m; simp
    | cons x l ih =>
      intro m
      cases m with
      | zero => simp
      | succ m =>
        rw [List.flatMap_cons, show (m + 1) * sz = (f x).length + m * sz by rw [hsz, Nat.add_mul]; omega, ← List.drop_drop, List.drop_left, ih]
        rfl
  refine ⟨_, ⟨⟨((l.drop lo).drop n).flatMap f, ?_⟩, ?_⟩, a⟩
  · rw [key, ← List.flatMap_append, List.take_append_drop]
  · rw [flat_length hsz, List.length_take, List.length_drop, Nat.min_eq_left (by omega)]
theorem allOne_append : ∀ {l m : List AV}, allOne l = true → allOne m = true → allOne (l ++ m) = true
  | [], _, _, h => h
  | v :: l, m, h1, h2 => by
    simp only [List.cons_append, allOne] at h1 ⊢
    split at h1
    · exact allOne_append h1 h2
    · cases h1
theorem allOne_flat {α : Type} {f : α → List AV} (h : ∀ x, allOne (f x) = true) : ∀ l : List α, allOne (l.flatMap f) = true
  | [] => rfl
  | x :: l => by rw [List.flatMap_cons]; exact allOne_append (h x) (allOne_flat h l)
end Go.Vsi
/-! text R10 -/
namespace Go.Vsi

/-! ### lemmas for the nodes of a walk: bits of natural numbers -/
theorem bits_of (op : BinOp) (m n r : Nat) (hr : r < 9223372036854775808)
    (h : (match op with
      | .and => BitVec.ofInt 64 (m : Int) &&& BitVec.ofInt 64 (n : Int)
      | .or => BitVec.ofInt 64 (m : Int) ||| BitVec.ofInt 64 (n : Int)
      | .xor => BitVec.ofInt 64 (m : Int) ^^^ BitVec.ofInt 64 (n : Int)
      | _ => BitVec.ofInt 64 (m : Int) &&& ~~~BitVec.ofInt 64 (n : Int)).toNat = r) : bits op .i64 m n = (r : Int) := by
  unfold bits
  have h2 : IntKind.i64.wrap (r : Int) = r := w64 (by omega)
  rw [← h2, ← h]
  cases op <;> rfl
theorem ofInt64 (m : Nat) (h : m < 9223372036854775808) : (BitVec.ofInt 64 (m : Int)).toNat = m := by
  rw [BitVec.toNat_ofInt]
  have : ((m : Int) % ((2 ^ 64 : Nat) : Int)) = m := by
    rw [Int.emod_eq_of_lt (by omega) (by have : (2 ^ 64 : Nat) = 18446744073709551616 := rfl; omega)]
  rw [this]; simp
section
variable {x y : Int} {k : Int → Prop}
theorem EqN.and (m n : Nat) (hx : x = m) (hy : y = n) (h : m < 9223372036854775808 ∧ n < 9223372036854775808) (a : k ((m &&& n : Nat) : Int)) : EqN (bits .and .i64 x y) k := by
  subst hx hy
  refine ⟨_, bits_of .and m n _ (Nat.lt_of_le_of_lt Nat.and_le_left h.1) ?_, a⟩
  simp only [BitVec.toNat_and, ofInt64 m h.1, ofInt64 n h.2]
theorem EqN.or (m n : Nat) (hx : x = m) (hy : y = n) (h : m < 9223372036854775808 ∧ n < 9223372036854775808) (a : k ((m ||| n : Nat) : Int)) : EqN (bits .or .i64 x y) k := by
  subst hx hy
  refine ⟨_, bits_of .or m n _ (Nat.or_lt_two_pow (n := 63) h.1 h.2) ?_, a⟩
  simp only [BitVec.toNat_or, ofInt64 m h.1, ofInt64 n h.2]
theorem EqN.xor (m n : Nat) (hx : x = m) (hy : y = n) (h : m < 9223372036854775808 ∧ n < 9223372036854775808) (a : k ((m ^^^ n : Nat) : Int)) : EqN (bits .xor .i64 x y) k := by
  subst hx hy
  refine ⟨_, bits_of .xor m n _ (Nat.xor_lt_two_pow (n := 63) h.1 h.2) ?_, a⟩
  simp only [BitVec.toNat_xor, ofInt64 m h.1, ofInt64 n h.2]
theorem andNot_nat (m n : Nat) (hm : m < 9223372036854775808) (hn : n < 9223372036854775808) : (BitVec.ofInt 64 (m : Int) &&& ~~~BitVec.ofInt 64 (n : Int)).toNat = m ^^^ (m &&& n) := by
  apply Nat.eq_of_testBit_eq
  intro i
  rw [BitVec.toNat_and, ofInt64 m hm, Nat.testBit_and, Nat.testBit_xor, Nat.testBit_and]
  by_cases hi : i < 64
  · have : (~~~BitVec.ofInt 64 (n : Int)).toNat.testBit i = !n.testBit i := by
      have h1 : (~~~BitVec.ofInt 64 (n : Int)).toNat.testBit i = (~~~BitVec.ofInt 64 (n : Int)).getLsbD i := rfl
      have h2 : (BitVec.ofInt 64 (n : Int)).getLsbD i = (BitVec.ofInt 64 (n : Int)).toNat.testBit i := rfl
      rw [h1, BitVec.getLsbD_not, h2, ofInt64 n hn]
      simp [hi]
    rw [this]
    cases m.testBit i <;> cases n.testBit i <;> rfl
  · have : m.testBit i = false := Nat.testBit_lt_two_pow (Nat.lt_of_lt_of_le hm (Nat.le_trans (by decide : 9223372036854775808 ≤ 2 ^ 64) (Nat.pow_le_pow_right (by decide) (by omega))))
    rw [this]; rfl
theorem EqN.andNot (m n : Nat) (hx : x = m) (hy : y = n) (h : m < 9223372036854775808 ∧ n < 9223372036854775808) (a : k ((m ^^^ (m &&& n) : Nat) : Int)) : EqN (bits .andNot .i64 x y) k := by
  subst hx hy
  exact ⟨_, bits_of .andNot m n _ (Nat.xor_lt_two_pow (n := 63) h.1 (Nat.lt_of_le_of_lt Nat.and_le_left h.1)) (andNot_nat m n h.1 h.2), a⟩
theorem EqN.shrN {b : Nat} (m n : Nat) (hx : x = m) (hy : y = n) (hb : Nat.ble 63 b = true) (h : n ≤ 63) (a : k ((m >>> n : Nat) : Int)) : EqN (x.fdiv (2 ^ min y.toNat b)) k := by
  subst hx hy
  refine ⟨_, ?_, a⟩
  rw [Int.toNat_natCast, Nat.min_eq_left (Nat.le_trans h (Nat.le_of_ble_eq_true hb)), Nat.shiftRight_eq_div_pow]
  have : ((2 : Int) ^ n) = ((2 ^ n : Nat) : Int) := by simp
  rw [this, Int.fdiv_eq_ediv_of_nonneg _ (Int.natCast_nonneg _)]
  simp
theorem EqN.shlN {b : Nat} (m n : Nat) (hx : x = m) (hy : y = n) (hb : Nat.ble 63 b = true) (h : n ≤ 63) (hr : m <<< n < 9223372036854775808) (a : k ((m <<< n : Nat) : Int)) : EqN (IntKind.i64.wrap (x * 2 ^ min y.toNat b)) k := by
  subst hx hy
  refine ⟨_, ?_, a⟩
  rw [Int.toNat_natCast, Nat.min_eq_left (Nat.le_trans h (Nat.le_of_ble_eq_true hb))]
  rw [Nat.shiftLeft_eq] at hr ⊢
  have : ((2 : Int) ^ n) = ((2 ^ n : Nat) : Int) := by simp
  rw [this, ← Int.natCast_mul]
  exact w64 (by omega)
/-- a sum, a difference, a remainder of natural numbers -/
theorem EqN.addN (m n : Nat) (hx : x = m) (hy : y = n) (h : m + n < 9223372036854775808) (a : k ((m + n : Nat) : Int)) : EqN (IntKind.i64.wrap (x + y)) k := by
  subst hx hy
  exact ⟨_, by rw [← Int.natCast_add]; exact w64 (by omega), a⟩
theorem EqN.subN (m n : Nat) (hx : x = m) (hy : y = n) (h : n ≤ m ∧ m < 9223372036854775808) (a : k ((m - n : Nat) : Int)) : EqN (IntKind.i64.wrap (x - y)) k := by
  subst hx hy
  exact ⟨_, by rw [← Int.natCast_sub h.1]; exact w64 (by omega), a⟩
theorem EqN.mulN (m n : Nat) (hx : x = m) (hy : y = n) (h : m * n < 9223372036854775808) (a : k ((m * n : Nat) : Int)) : EqN (IntKind.i64.wrap (x * y)) k := by
  subst hx hy
  exact ⟨_, by rw [← Int.natCast_mul]; exact w64 (by omega), a⟩
theorem EqN.remN (m n : Nat) (hx : x = m) (hy : y = n) (a : k ((m % n : Nat) : Int)) : EqN (x.tmod y) k := by
  subst hx hy
  exact ⟨_, by rw [Int.tmod_eq_emod_of_nonneg (by omega)]; simp, a⟩
end

theorem IfN.id {b : Bool} {A B : Prop} (h : IfN b A B) : IfN b A B := h
theorem EqN.id {x : Int} {k : Int → Prop} (h : EqN x k) : EqN x k := h
theorem PtrN.id {n0 : Nat} {base : Heap} {i : Nat} {kl : Nat → Prop} {kb : Blk → Prop} (h : PtrN n0 base i kl kb) : PtrN n0 base i kl kb := h
theorem CallN.id [Glob] {P : Program} {F : Fn} {as : List AV} {n0 : Nat} {base : Heap} {k : Nat} {loc : Heap} {K : AV → Heap → Nat → Heap → Prop} (h : CallN P F as n0 base k loc K) : CallN P F as n0 base k loc K := h
theorem CallD.id [Glob] {W : List Nat} {P : Program} {F : Fn} {as : List AV} {n0 : Nat} {base loc0 b1 loc : Heap} {K : AV → Prop} {K3 K4 : AV → Heap → Nat → Heap → Prop} (h : CallD W P F as n0 base loc0 b1 loc K K3 K4) : CallD W P F as n0 base loc0 b1 loc K K3 K4 := h

/-! ### memory -/
theorem at_loc' {base loc : Heap} {j : Nat} {B : Blk} (X : Heap) (h : lget loc j = some B) : ((base ++ loc) ++ X)[base.length + j]? = some B := by
  rw [lget_eq] at h
  have hj := (List.getElem?_eq_some_iff.1 h).1
  rw [List.append_assoc, List.getElem?_append_right (Nat.le_add_right ..), Nat.add_sub_cancel_left, List.getElem?_append_left hj]
  exact h
/-- .. and whatever its owners have used since -/
theorem at_tq {base loc l1 : Heap} {j : Nat} {B : Blk} (X : Heap) {W : List Nat} (hq : Tq W loc l1) (h : lget loc j = some B) (hB : B.isTok = false) (hw : inW W j = false) : ((base ++ l1) ++ X)[base.length + j]? = some B := at_loc' X (hq.get h hB hw)
theorem at_loc0 {base loc : Heap} {j : Nat} {B : Blk} (h : lget loc j = some B) : (base ++ loc)[base.length + j]? = some B := by
  have := at_loc' (base := base) [] h
  rwa [List.append_nil] at this
theorem set_loc' {base loc : Heap} {j : Nat} {B : Blk} : (base ++ loc).set (base.length + j) B = base ++ loc.set j B := by
  rw [List.set_append_right _ _ (Nat.le_add_right ..), Nat.add_sub_cancel_left]
theorem set_base' {base loc : Heap} {i : Nat} {B B' : Blk} (h : base[i]? = some B') : (base ++ loc).set i B = base.set i B ++ loc :=
  List.set_append_left _ _ (List.getElem?_eq_some_iff.1 h).1
theorem at_base' {base loc : Heap} {i : Nat} {B : Blk} (h : base[i]? = some B) : (base ++ loc)[i]? = some B := by
  rw [List.getElem?_append_left (List.getElem?_eq_some_iff.1 h).1]; exact h
theorem at_set {base : Heap} {i : Nat} {B B' : Blk} (h : base[i]? = some B') : (base.set i B)[i]? = some B := by
  rw [List.getElem?_set_self (List.getElem?_eq_some_iff.1 h).1]
theorem at_setNe {base : Heap} {i j : Nat} {B B' : Blk} (hij : i ≠ j) (h : base[j]? = some B') : (base.set i B)[j]? = some B' := by
  rw [List.getElem?_set_ne hij]; exact h

theorem cst0 : (0 : Int) = ((0 : Nat) : Int) := rfl
theorem cst1 : (1 : Int) = ((1 : Nat) : Int) := rfl
theorem cst2 : (2 : Int) = ((2 : Nat) : Int) := rfl
theorem cst3 : (3 : Int) = ((3 : Nat) : Int) := rfl
theorem cst4 : (4 : Int) = ((4 : Nat) : Int) := rfl
theorem cst5 : (5 : Int) = ((5 : Nat) : Int) := rfl
theorem cst6 : (6 : Int) = ((6 : Nat) : Int) := rfl
theorem cst7 : (7 : Int) = ((7 : Nat) : Int) := rfl
theorem cst8 : (8 : Int) = ((8 : Nat) : Int) := rfl
theorem cst14 : (14 : Int) = ((14 : Nat) : Int) := rfl
theorem cst15 : (15 : Int) = ((15 : Nat) : Int) := rfl
theorem cst25 : (25 : Int) = ((25 : Nat) : Int) := rfl
theorem cst30 : (30 : Int) = ((30 : Nat) : Int) := rfl
theorem cst31 : (31 : Int) = ((31 : Nat) : Int) := rfl
/-! ### bounds -/
theorem bnd_andl {m n B : Nat} (h : m < B) : m &&& n < B := Nat.lt_of_le_of_lt Nat.and_le_left h
theorem bnd_andr {m n B : Nat} (h : n < B) : m &&& n < B := Nat.lt_of_le_of_lt Nat.and_le_right h
theorem bnd_or {m n : Nat} (h1 : m < 9223372036854775808) (h2 : n < 9223372036854775808) : m ||| n < 9223372036854775808 := Nat.or_lt_two_pow (n := 63) h1 h2
theorem bnd_or31 {m n : Nat} (h1 : m < 2147483648) (h2 : n < 2147483648) : m ||| n < 2147483648 := Nat.or_lt_two_pow (n := 31) h1 h2
theorem bnd_xor {m n : Nat} (h1 : m < 9223372036854775808) (h2 : n < 9223372036854775808) : m ^^^ n < 9223372036854775808 := Nat.xor_lt_two_pow (n := 63) h1 h2
theorem bnd_xor31 {m n : Nat} (h1 : m < 2147483648) (h2 : n < 2147483648) : m ^^^ n < 2147483648 := Nat.xor_lt_two_pow (n := 31) h1 h2
theorem bnd_shr {m n B : Nat} (h : m < B) : m >>> n < B := by
  rw [Nat.shiftRight_eq_div_pow]; exact Nat.lt_of_le_of_lt (Nat.div_le_self _ _) h
theorem bnd_shl {m n : Nat} (h1 : m < 2147483648) (h2 : n ≤ 31) : m <<< n < 9223372036854775808 := by
  rw [Nat.shiftLeft_eq]
  have : 2 ^ n ≤ 2 ^ 31 := Nat.pow_le_pow_right (by decide) h2
  have h3 : m * 2 ^ n ≤ m * 2 ^ 31 := Nat.mul_le_mul_left _ this
  have : (2 : Nat) ^ 31 = 2147483648 := rfl
  omega
theorem bnd_mod {m n B : Nat} (h : m < B) : m % n < B := Nat.lt_of_le_of_lt (Nat.mod_le _ _) h

theorem VCall.mono [Glob] {P : Program} {F : FuncId} {as : List AV} {H : Heap} {R R' : AV → Heap → Prop} (h : VCall P F as H R) (hr : ∀ r H', R r H' → R' r H') : VCall P F as H R' :=
  ⟨h.1, fun g w a hH hl => (h.2 g w a hH hl).mono fun e w' ⟨r, H', g', c, h1, h2, h3⟩ => ⟨r, H', g', c, h1, hr r H' h2, h3⟩⟩
/-! ### calls that change one block -/
def setR (H : Heap) (i : Nat) (B : Blk) (v : AV) : AV → Heap → Prop := fun r H' => H' = H.set i B ∧ r = v
theorem EndN.setB {H loc : Heap} {i : Nat} {B : Blk} {u v : AV} (hB : B.below H.length) (hb : below H.length v) (hw : Wk u v) : EndN H (H.set i B) loc u (setR H i B v) :=
  .cut (by simp) (fun j C hj => by
    rw [List.getElem?_set] at hj
    split at hj
    · split at hj
      · simp only [Option.some.injEq] at hj; subst hj; exact .inr hB
      · cases hj
    · exact .inl hj) ⟨u, v, .refl u, hw, hb, rfl, rfl⟩
section
variable {P : Program} {n0 : Nat} {base loc : Heap} {k : Nat} {K : AV → Heap → Nat → Heap → Prop}
/-- the block lies ahead of the call's own memory -/
theorem CallN.setB [Glob] {F : FuncId} {as : List AV} (i : Nat) (B B0 : Blk) (v : AV) (base2 : Heap) (hi : base[i]? = some B0) (hn : base.length = n0) (hk : loc.length = k) (h : VCall P F as (base ++ loc) (setR (base ++ loc) i B v)) (hb : base.set i B = base2) (a : K v base2 k loc) : CallN P (.func F) as n0 base k loc K :=
  .gen _ h fun r H' hr => by
    obtain ⟨rfl, rfl⟩ := hr
    exact ⟨base2, k, loc, by rw [← hb, set_base' hi], hk, by rw [← hb]; simpa using hn, a⟩
/-- .. or is of the own memory -/
theorem CallN.setL [Glob] {F : FuncId} {as : List AV} (j : Nat) (B : Blk) (v : AV) (loc2 : Heap) (hn : base.length = n0) (hk : loc2.length = k) (h : VCall P F as (base ++ loc) (setR (base ++ loc) (base.length + j) B v)) (hl : loc.set j B = loc2) (a : K v base k loc2) : CallN P (.func F) as n0 base k loc K :=
  .gen _ h fun r H' hr => by
    obtain ⟨rfl, rfl⟩ := hr
    exact ⟨base, k, loc2, by rw [← hl, set_loc'], hk, hn, a⟩
theorem CallD.setB [Glob] {W : List Nat} {F : FuncId} {as : List AV} {loc0 b1 : Heap} {K : AV → Prop} {K3 K4 : AV → Heap → Nat → Heap → Prop} (i : Nat) (B B0 : Blk) (v : AV) (b2 : Heap) (hi : b1[i]? = some B0) (hn : b1.length = n0) (hk : loc.length = k) (h : VCall P F as (b1 ++ loc) (setR (b1 ++ loc) i B v)) (hb : b1.set i B = b2) (a : K3 v b2 k loc) : CallD W P (.func F) as n0 base loc0 b1 loc K K3 K4 :=
  .fix v b2 loc k (VCall.mono h fun r H' hr => by
    obtain ⟨rfl, rfl⟩ := hr
    exact ⟨rfl, by rw [← hb, set_base' hi]⟩) (by rw [← hb]; simpa using hn) hk a
end
theorem EndN.same {H loc : Heap} {i : Nat} {B : Blk} {u v : AV} (hi : H[i]? = some B) (hb : below H.length v) (hw : Wk u v) : EndN H H loc u (setR H i B v) :=
  .cut rfl (fun _ _ h => .inl h) ⟨u, v, .refl u, hw, hb, by
    obtain ⟨h1, h2⟩ := List.getElem?_eq_some_iff.1 hi
    rw [← h2]; exact (List.set_getElem_self h1).symm, rfl⟩
end Go.Vsi
/-! text R11 -/
namespace Go.Vsi

/-! ### rounds of loops over functions -/
def reB (n0 : Nat) : RE → RE
  | [] => []
  | (t, .lit b) :: l => (t, .lit b) :: reB n0 l
  | (t, v) :: l => (t, .v (tr n0 v)) :: reB n0 l
theorem reB_tr (n0 n1 : Nat) : ∀ l : RE, trE n1 (reB n0 l) = trE n0 l
  | [] => rfl
  | (t, .lit b) :: l => by simp only [reB, trE, reB_tr n0 n1 l]; rfl
  | (t, .v a) :: l => by simp only [reB, trE, reB_tr n0 n1 l]; rfl
  | (t, .lp j o) :: l => by simp only [reB, trE, reB_tr n0 n1 l]; rfl
def parRE : List Tmp → List AV → RE → RE
  | p :: ps, v :: vs, re => parRE ps vs ((p, .v v) :: re)
  | _, _, re => re
theorem parRE_tr (n1 : Nat) : ∀ (ps : List Tmp) (vs : List AV) (re : RE), trE n1 (parRE ps vs re) = parEnv ps vs (trE n1 re)
  | [], _, re => by simp [parRE, parEnv]
  | _ :: _, [], re => by simp [parRE, parEnv]
  | p :: ps, v :: vs, re => by
    simp only [parRE, parEnv, parRE_tr n1 ps vs]
    rfl

/-- the end of a round, on the walk's side -/
def rndQ (H : Heap) (i : Nat) (env : Env) (L : LCode) (R : AV → Heap → Prop) : QR := fun e _ _ base _ _ => RndEnd H i env L R e base
/-- the assignment of a round's values is done: the body follows -/
structure RndB [Glob] (P : Program) (kn : TypeId → Nat) (T : TypeId → Option TI) (H : Heap) (i : Nat) (env : Env) (L : LCode) (R : AV → Heap → Prop) (top bot : RE) (base : Heap) (k : Nat) (loc : Heap) : Prop where
  h : ∃ jp base1, base[i]? = some (.loop .ready jp env L) ∧ base.set i (.loop .busy jp env L) = base1 ∧ wpC P kn T ⟨L.N, some i⟩ H.length L.body (rndQ H i env L R) top bot base1 k loc

section
variable {P : Program} {T : TypeId → Option TI} {kn : TypeId → Nat}
theorem round_R [Glob] (he : Env0 P T kn) (hm : P.follows .mixedOrders = true) {i n0 : Nat} {H : Heap} {jp0 : Option Code} {bk : RE} {L : LCode} {as : List AV} {R : AV → Heap → Prop} (hi : H[i]? = some (.loop .ready jp0 (trE n0 bk) L)) (hps : ∀ p ∈ L.ps.toList, p < L.N) (hlen : as.length = L.ps.size)
    (h : wpC P kn T ⟨L.N, some i⟩ H.length L.assign (fun e top bot base k loc => match e with
      | .normal => RndB P kn T H i (trE n0 bk) L R top bot base k loc
      | _ => False) (parRE L.ps.toList as (reB n0 bk)) [] H 0 []) : VYield P i as H R := by
  refine vround (env := trE n0 bk) hi hps hlen ?_
  have hw := wpC_sound he hm L.assign _ _ _ _ _ _ rfl h
  rw [List.append_nil, parRE_tr, reB_tr] at hw
  refine vw_mono hw ?_
  rintro e env1 hp1 ⟨top, bot, base, k, loc, hap, rfl, hbl, hq⟩
  cases e with
  | normal =>
    obtain ⟨jp, base1, h1, h2, h3⟩ := hq
    refine ⟨rfl, jp, h1, ?_⟩
    subst h2
    refine vw_env (vw_mono (wpC_sound he hm L.body _ _ _ _ _ _ (by simpa using hbl) h3) ?_) hap
    rintro e env3 hp3 ⟨top3, bot3, base3, k3, loc3, -, rfl, -, hq3⟩
    exact hq3
  | exit i => exact hq.elim
  | goto i => exact hq.elim
  | ret => exact hq.elim
  | panic i => exact hq.elim
  | outgrown => exact hq.elim
end

theorem CallN.fix [Glob] {P : Program} {F : Fn} {as : List AV} {n0 : Nat} {base loc : Heap} {k : Nat} {K : AV → Heap → Nat → Heap → Prop} (v : AV) (b2 loc2 : Heap) (k2 : Nat) (h : VFn P F as (base ++ loc) fun r H' => r = v ∧ H' = b2 ++ loc2) (hb : b2.length = n0) (hk : loc2.length = k2) (a : K v b2 k2 loc2) : CallN P F as n0 base k loc K :=
  .genF _ h fun r H' hr => by
    obtain ⟨rfl, rfl⟩ := hr
    exact ⟨b2, k2, loc2, rfl, hk, hb, a⟩

/-! ### the memory ahead of a call and behind it -/
theorem low_loc {base l l' : Heap} (h : ∀ B ∈ l', B.below (base ++ l).length) : ∀ (j : Nat) B, (base ++ l')[j]? = some B → (base ++ l)[j]? = some B ∨ B.below (base ++ l).length := fun j B hj => by
  by_cases hb : j < base.length
  · rw [List.getElem?_append_left hb] at hj ⊢
    exact .inl hj
  · rw [List.getElem?_append_right (by omega)] at hj
    exact .inr (h B (List.mem_of_getElem? hj))
theorem closed_loc {base l : Heap} (hc : Closed base) (h : ∀ B ∈ l, B.below (base ++ l).length) : Closed (base ++ l) := fun j B hj => by
  by_cases hb : j < base.length
  · rw [List.getElem?_append_left hb] at hj
    exact Blk.below_mono (by simp) (hc j B hj)
  · rw [List.getElem?_append_right (by omega)] at hj
    exact h B (List.mem_of_getElem? hj)
theorem get_below {n0 n : Nat} : ∀ {l : RE}, belowRE n0 n l → ∀ s, below n (get (trE n0 l) s)
  | [], _, _ => by simp [trE, get, below]
  | (i, v) :: l, h, s => by
    by_cases hs : i = s
    · subst hs
      simp only [trE]
      rw [get_put_same]
      exact h.1
    · simp only [trE]
      rw [get_put_ne _ _ hs]
      exact get_below h.2 s

/-- a call that lays new memory -/
theorem CallD.grow [Glob] {W : List Nat} {P : Program} {F : FuncId} {as : List AV} {n0 : Nat} {base loc0 b1 loc : Heap} {K : AV → Prop} {K3 K4 : AV → Heap → Nat → Heap → Prop} (v : AV) (X loc2 : Heap) (k2 : Nat) (h : VCall P F as (b1 ++ loc) fun r H' => r = v ∧ H' = (b1 ++ loc) ++ X) (hn : b1.length = n0) (hl : loc ++ X = loc2) (hk : loc2.length = k2) (a : K3 v b1 k2 loc2) : CallD W P (.func F) as n0 base loc0 b1 loc K K3 K4 :=
  .fix v b1 loc2 k2 (VCall.mono h fun r H' hr => ⟨hr.1, by rw [hr.2, List.append_assoc, hl]⟩) hn hk a
theorem CallD.app1 [Glob] {W : List Nat} {P : Program} {F : FuncId} {as : List AV} {n0 : Nat} {base loc0 b1 loc : Heap} {K : AV → Prop} {K3 K4 : AV → Heap → Nat → Heap → Prop} (v : AV) (X loc2 : Heap) (x : Nat) (h : VCall P F as (b1 ++ loc) fun r H' => r = v ∧ H' = (b1 ++ loc) ++ X) (hn : b1.length = n0) (hl : loc ++ X = loc2) (hx : X.length = x) (a : K4 v b1 x loc2) : CallD W P (.func F) as n0 base loc0 b1 loc K K3 K4 :=
  .app v X loc2 x (VCall.mono h fun r H' hr => ⟨hr.1, by rw [hr.2, List.append_assoc, hl]⟩) hn hl hx a
theorem CallN.grow [Glob] {P : Program} {F : FuncId} {as : List AV} {n0 : Nat} {base loc : Heap} {k : Nat} {K : AV → Heap → Nat → Heap → Prop} (v : AV) (X loc2 : Heap) (k2 : Nat) (h : VCall P F as (base ++ loc) fun r H' => r = v ∧ H' = (base ++ loc) ++ X) (hn : base.length = n0) (hl : loc ++ X = loc2) (hk : loc2.length = k2) (a : K v base k2 loc2) : CallN P (.func F) as n0 base k loc K :=
  .fix v base loc2 k2 (VCall.mono h fun r H' hr => ⟨hr.1, by rw [hr.2, List.append_assoc, hl]⟩) hn hk a

theorem LoopN.base_eq [Glob] {P : Program} {kn : TypeId → Nat} {T : TypeId → Option TI} {N : FN} {n0 : Nat} {c : Code} {Q : QR} {top bot : RE} {base : Heap} {k : Nat} {loc : Heap} (base2 : Heap) (e : base = base2) (h : LoopN P kn T N n0 c Q top bot base2 k loc) : LoopN P kn T N n0 c Q top bot base k loc := e ▸ h
end Go.Vsi
/-! text R12 -/
namespace Go.Vsi

/-! ### loops that build a slice by cutting and appending: its owner is renewed at each round's end -/
/-- one more owner behind the memory: what it owns is no other block's -/
theorem HRel.newTok [Glob] {g : G} {w : World} {hp : Hp} (h : HRel g w hp) (e : TypeId) (sz len : Nat) (Tk0 : Tk) (hl : Tk0.len = len) (hs : Tk0.sz = sz)
    (hb : (Tk0.base = none ∧ len = 0 ∧ Tk0.cap = 0) ∨ ∃ b cs, Tk0.base = some b ∧ w.heap[b]? = some (.cells cs e (0, 0)) ∧ cs.size = Tk0.cap * sz ∧ Tk0.cap ≤ maxLen ∧ len ≤ cs.size ∧ ∀ o, len ≤ o → g.own b o)
    (hinj : ∀ (i : Nat) B b, hp.all[i]? = some B → Tk0.base = some b → locs g i B ≠ some b) :
    ∃ g', g'.ok g.n ∧ g'.tk g.n = Tk0 ∧ HRel g' w ⟨hp.base, hp.k + 1, hp.loc ++ [.tok e sz len]⟩ ∧ Ext g w g' w := by
  let g' : G := { n := g.n + 1, blk := g.blk, tk := fun i => if i = g.n then Tk0 else g.tk i, own := g.own, pend := g.pend }
  have htk' : ∀ i, i < g.n → g'.tk i = g.tk i := fun i hi => by
    show (if i = g.n then _ else _) = _
    rw [if_neg (by omega)]
  have htk : g'.tk g.n = Tk0 := by show (if g.n = g.n then _ else _) = _; rw [if_pos rfl]
  have hnp : ¬ g.pend g.n := fun hp' => Nat.lt_irrefl g.n (by have := (List.getElem?_eq_some_iff.1 (h.pend _ hp')).1; rw [Hp.all_length h] at this; exact this)
  have hx : Ext g w g' w := ⟨Nat.le_succ _, fun _ _ h => h, fun i hi => ⟨Nat.lt_succ_of_lt hi.1, hi.2⟩, fun _ _ => rfl, fun i hi => .inl (htk' i hi.1), fun _ _ _ h => h, rfl, rfl, rfl, Nat.le_refl _, fun _ _ _ => rfl, fun _ ds _ _ hb => ⟨ds, hb, rfl, fun _ _ => rfl⟩⟩
  have hlen := Hp.all_length h
  have hall : (⟨hp.base, hp.k + 1, hp.loc ++ [.tok e sz len]⟩ : Hp).all = hp.all ++ [.tok e sz len] := by simp [Hp.all]
  have key : ∀ (i : Nat) (B : Blk), (hp.all ++ [.tok e sz len])[i]? = some B → (i < g.n ∧ hp.all[i]? = some B) ∨ (i = g.n ∧ B = .tok e sz len) := by
    intro i B hi
    rcases Nat.lt_or_ge i hp.all.length with hlt | hge
    · rw [List.getElem?_append_left hlt] at hi
      exact .inl ⟨by omega, hi⟩
    · rw [List.getElem?_append_right hge] at hi
      have h0 : i = hp.all.length := by
        have := (List.getElem?_eq_some_iff.1 hi).1
        simp at this; omega
      subst h0
      simp at hi
      exact .inr ⟨hlen, hi.symm⟩
  refine ⟨g', ⟨Nat.lt_succ_self _, hnp⟩, htk, ⟨?_, by simp [h.k], ?_, h.lt, fun i hi => ?_, ?_, fun pp hpp => MRel.ext hx _ _ _ (h.glob pp hpp)⟩, hx⟩
  · show g.n + 1 = _
    rw [h.n]; simp [Nat.add_assoc]
  · intro i B hi
    rw [hall] at hi
    rcases key i B hi with ⟨h1, h2⟩ | ⟨rfl, rfl⟩
    · exact (h.rel i B h2).keep hx (at_ok h h2) (fun _ _ => rfl) (htk' i h1) (fun _ _ _ ho => ho)
    · refine ⟨by rw [htk]; exact hl, by rw [htk]; exact hs, ?_⟩
      rw [htk]
      exact hb
  · have := h.pend i hi
    rw [hall, List.getElem?_append_left (List.getElem?_eq_some_iff.1 this).1, this]
  · intro i j B C b hi hj hb hc
    rw [hall] at hi hj
    have hold : ∀ (i : Nat) (B : Blk), i < g.n → hp.all[i]? = some B → locs g' i B = locs g i B := fun i B hi hB => locs_keep hx (at_ok h hB) (htk' i hi)
    rcases key i B hi with ⟨i1, i2⟩ | ⟨rfl, rfl⟩
    · rw [hold i B i1 i2] at hb
      rcases key j C hj with ⟨j1, j2⟩ | ⟨rfl, rfl⟩
      · rw [hold j C j1 j2] at hc
        exact h.inj i j B C b i2 j2 hb hc
      · simp only [locs, htk] at hc
        exact absurd hb (hinj i B b i2 hc)
    · simp only [locs, htk] at hb
      rcases key j C hj with ⟨j1, j2⟩ | ⟨rfl, rfl⟩
      · rw [hold j C j1 j2] at hc
        exact absurd hc (hinj j C b j2 hb)
      · rfl

/-- the round's end: the slice has an owner of its own, behind the loop's memory -/
structure RoundT {σ : Type} (inv : σ → Prop) (ms : σ → Nat) (st : σ → RE) (lc : σ → Heap) (bk : RE) (n0 : Nat) (base : Heap) (k : Nat) (t : Nat) (e : TypeId) (sz : Nat) (num : σ → Nat) (cl : σ → List AV) (m : Nat) (top bot : RE) (base' : Heap) (loc' : Heap) : Prop where
  h : ∃ s' x n l L, inv s' ∧ ms s' < m ∧ subR n0 top bot (st s') ∧ subR n0 top bot bk ∧ base' = base ∧ rget2 top bot t = some (.v (.sl (some (n0 + x)) n l)) ∧ n = num s' ∧ l = cl s' ∧ k ≤ x ∧ lget loc' x = some (.tok e sz L) ∧ L = l.length ∧ (∃ ex, loc' = lc s' ++ ex) ∧ belowRE n0 (n0 + k) (st s') ∧ belowH (n0 + k) (lc s') ∧ belowL (n0 + k) (cl s')

def roundTQ {σ : Type} (inv : σ → Prop) (ms : σ → Nat) (st : σ → RE) (lc : σ → Heap) (bk : RE) (n0 : Nat) (base : Heap) (k : Nat) (t : Nat) (e : TypeId) (sz : Nat) (num : σ → Nat) (cl : σ → List AV) (m : Nat) (Q : QR) : QR := fun x top bot base' k' loc' => match x with
  | .normal => RoundT inv ms st lc bk n0 base k t e sz num cl m top bot base' loc'
  | x => Q x top bot base' k' loc'

section
variable {P : Program} {N : FN} {n0 : Nat} {T : TypeId → Option TI} {kn : TypeId → Nat}
theorem loop_T [Glob] (he : Env0 P T kn) (hm : P.follows .mixedOrders = true) {σ : Type} (inv : σ → Prop) (ms : σ → Nat) (st : σ → RE) (lc : σ → Heap) (bk : RE) (s0 : σ) (t : Nat) (e : TypeId) (sz : Nat) (num : σ → Nat) (cl : σ → List AV) {c : Code} {Q : QR} {top bot : RE} {base : Heap} {k : Nat} {loc : Heap}
    (hn : base.length = n0) (hcl : Closed base) (ts : List Nat) (hbk : pickO ts top bot = some bk) (h0 : inv s0) (hst : subR n0 top bot (st s0)) (hloc : loc = lc s0) (hlen : ∀ s, inv s → (lc s).length = k)
    (hv : rget2 top bot t = some (.v .nils)) (hnum : num s0 = 0) (hcl0 : cl s0 = [])
    (round : ∀ s, inv s → wpC P kn T N n0 c (roundTQ inv ms st lc bk n0 base k t e sz num cl (ms s) Q) ((t, .v (.sl (some (n0 + k)) (num s) (cl s))) :: st s) bk base (k + 1) (lc s ++ [.tok e sz (cl s).length])) : LoopN P kn T N n0 c Q top bot base k loc := by
  refine ⟨?_⟩
  subst hloc hn
  intro g w a hH hE
  have hgn : g.n = base.length + k := by rw [hH.n]
  have hbkb : ∀ s v, rgetO bk s = some v → below (base.length + k) (tr base.length v) := by
    intro s v hv
    have h1 := rget2_get (n0 := base.length) (pickO_get hbk hv)
    have h2 := VRel.below _ _ (hE.rel s)
    rw [h1, hgn] at h2
    exact h2
  let tv : σ → RG := fun s => .v (.sl (some (base.length + k)) (num s) (cl s))
  let J : Nat → Act → World → Prop := fun n a' w' => ∃ s g', inv s ∧ ms s = n ∧ HRel g' w' ⟨base, k + 1, lc s ++ [.tok e sz (cl s).length]⟩ ∧ ERel N g' w' (trE base.length (((t, tv s) :: st s) ++ bk)) a' ∧ Ext g w g' w' ∧ DRel w a.defers g' w' a'.defers
  have hget : ∀ (l bk : RE) (s : Nat), get (trE base.length (l ++ bk)) s = match rgetO l s with
      | some v => tr base.length v
      | none => match rgetO bk s with
        | some v => tr base.length v
        | none => .junk := by
    intro l bk s
    rw [trE_append]
    cases hl : rgetO l s with
    | some v => simp only; exact rgetO_get hl _
    | none =>
      simp only
      rw [rgetO_none hl]
      cases hb : rgetO bk s with
      | some v => simp only; have := rgetO_get (n0 := base.length) hb []; simpa using this
      | none => simp only; have := rgetO_none (n0 := base.length) hb []; simp only [List.append_nil] at this; rw [this]; rfl
  have hgetT : ∀ (s : σ) (u : Nat), get (trE base.length (((t, tv s) :: st s) ++ bk)) u = if t = u then .sl (some (base.length + k)) (num s) (cl s) else get (trE base.length (st s ++ bk)) u := by
    intro s u
    by_cases hu : t = u
    · subst hu
      rw [if_pos rfl]
      simp only [List.cons_append, trE]
      rw [get_put_same]
      rfl
    · rw [if_neg hu]
      simp only [List.cons_append, trE]
      rw [get_put_ne _ _ hu]
  -- the owner of the nil slice
  obtain ⟨g1, f1, f2, f3, f4⟩ := hH.nilTok e sz
  simp only at f3
  have hnil : VRel g1 w (.sl (some (base.length + k)) 0 []) (a.tmps.getD t undef) := by
    have h1 := hE.rel t
    rw [rget2_get hv] at h1
    simp only [tr, VRel] at h1
    rw [h1]
    simp only [VRel]
    refine ⟨none, 0, rfl, Nat.le_refl _, .inl trivial, fun u hu => ?_⟩
    cases hu
    rw [← hgn]
    refine ⟨f1, by simp, fun _ => ?_⟩
    rw [f2]
    simp
  refine LoopWp.inv (fun a' w' => ∃ n, J n a' w') (fun a' w' => by classical exact if h : ∃ n, J n a' w' then Classical.choose (least h) else 0) ⟨ms s0, s0, g1, h0, rfl, ?_, ⟨hE.1, fun s => ?_, fun i hi => f4.ok i (hE.ro i hi), fun p hp => MRel.ext f4 _ _ _ (hE.glob p hp)⟩, f4, DRel.refl _ _ _ _⟩ ?_
  · rw [hcl0]; exact f3
  · rw [hgetT]
    by_cases hs : t = s
    · subst hs
      rw [if_pos rfl, hnum, hcl0]
      exact hnil
    · rw [if_neg hs, hget]
      cases hl : rgetO (st s0) s with
      | some v => simp only; exact VRel.ext f4 _ _ (subR_get hst hl _ _ _ (hE.rel s))
      | none =>
        simp only
        cases hb : rgetO bk s with
        | some v => simp only; rw [← rget2_get (n0 := base.length) (pickO_get hbk hb)]; exact VRel.ext f4 _ _ (hE.rel s)
        | none => simp [VRel]
  intro a1 w1 hex
  have hJ := (Classical.choose_spec (least hex)).1
  obtain ⟨s1, g2, hI1, hms1, hH1, hE1, hx1, hd1⟩ := hJ
  have hr := wpC_sound he hm c _ _ _ _ _ _ rfl (round s1 hI1) g2 w1 a1 hH1 hE1
  rw [hE.fo hx1] at hr
  refine Code.wpIn_mono ?_ hr
  rintro ex a2 w2 ⟨env2, hp2, g3, ⟨top2, bot2, base2, k2, loc2, hap, rfl, hn2, q⟩, hH2, hE2, hx2, hd2⟩
  have other : ex ≠ .normal → Q ex top2 bot2 base2 k2 loc2 → Lift N (LS base.length Q) g w a.defers ex a2 w2 := fun _ hq =>
    ⟨env2, _, g3, ⟨top2, bot2, base2, k2, loc2, hap, rfl, hn2, hq⟩, hH2, hE2, hx1.trans hx2, hd1.trans hx2 hx1.size hd2⟩
  cases ex with
  | normal =>
    obtain ⟨s', x, n, l, L, hi', hms', hsub, hsb, rfl, hsl, rfl, rfl, hkx, hx, rfl, ⟨lx, rfl⟩, hb1, hb2, hb3⟩ := q
    have hlc := hlen s' hi'
    have hcut := hH2.cutLoc hlc hcl hb2
    have hxc := (hx1.trans hx2).cut (n := base2.length + k) (Nat.le_of_eq hgn)
    -- the block that the slice is cut from
    have hxat : (⟨base2, k2, lc s' ++ lx⟩ : Hp).all[base2.length + x]? = some (.tok e sz (cl s').length) := at_loc hx
    obtain ⟨b1, b2, b3⟩ := hH2.rel _ _ hxat
    have hnc : (g3.cut (base2.length + k)).n = base2.length + k := rfl
    obtain ⟨g4, p1, p2, p3, p4⟩ := hcut.newTok e sz (cl s').length (g3.tk (base2.length + x)) b1 b2 b3 (fun i B b hB hbb hloc => by
      have hlt : i < (base2 ++ lc s').length := (List.getElem?_eq_some_iff.1 hB).1
      have hB2 : (⟨base2, k2, lc s' ++ lx⟩ : Hp).all[i]? = some B := by
        have e0 : (⟨base2, k2, lc s' ++ lx⟩ : Hp).all = (base2 ++ lc s') ++ lx := by simp [Hp.all]
        rw [e0, List.getElem?_append_left hlt]
        exact hB
      have hl1 : locs g3 i B = some b := by rw [← hloc]; cases B <;> rfl
      have := hH2.inj i (base2.length + x) B _ b hB2 hxat hl1 (by simp only [locs]; exact hbb)
      simp only [List.length_append, hlc] at hlt
      omega)
    rw [hnc] at p1 p2
    simp only at p3
    have hxe := hxc.trans p4
    have hval : ∀ v c, VRel g3 w2 v c → below (base2.length + k) v → VRel g4 w2 v c := fun v c h1 h2 => VRel.ext p4 _ _ (VRel.cut _ _ h1 h2)
    have hE3 : ERel N g4 w2 (trE base2.length (((t, tv s') :: st s') ++ bk)) a2 := by
      refine ⟨hE2.1, fun s => ?_, fun i hi => hxe.ok i (hE.ro i hi), fun p hp => MRel.ext hxe _ _ _ (hE.glob p hp)⟩
      have h2 := hap s _ _ _ (hE2.rel s)
      rw [hgetT]
      by_cases hs : t = s
      · subst hs
        rw [if_pos rfl]
        rw [rget2_get hsl] at h2
        simp only [tr, VRel] at h2 ⊢
        obtain ⟨A, cap, q1, q2, q3, q4⟩ := h2
        refine ⟨A, cap, q1, q2, ?_, fun u hu => ?_⟩
        · rcases q3 with q3 | ⟨b, o, q3, q5⟩
          · exact .inl q3
          · exact .inr ⟨b, o, q3, MRel.ext p4 _ _ _ (MRel.cut _ _ _ q5 hb3)⟩
        · cases hu
          obtain ⟨u1, u2, u3⟩ := q4 _ rfl
          refine ⟨p1, ?_, ?_⟩
          · rw [p2]; exact u2
          · rw [p2]; exact u3
      · rw [if_neg hs, hget]
        cases hl : rgetO (st s') s with
        | some v => simp only; exact hval _ _ (subR_get hsub hl _ _ _ h2) (belowRE_get hb1 hl)
        | none =>
          simp only
          cases hb : rgetO bk s with
          | none => simp [VRel]
          | some v => simp only; exact hval _ _ (subR_get hsb hb _ _ _ h2) (hbkb s v hb)
    have hex2 : ∃ m, m < ms s1 ∧ J m a2 w2 := by
      refine ⟨ms s', hms', s', g4, hi', rfl, p3, hE3, hxe, ?_⟩
      obtain ⟨rs, d1, d2, d3⟩ := hd1.trans hx2 hx1.size hd2
      have hdc : DRel w a.defers (g3.cut (base2.length + k)) w2 a2.defers := ⟨rs, d1, d2, d3⟩
      exact hdc.ext p4
    obtain ⟨m, hmlt, hJm⟩ := hex2
    have hex2 : ∃ n, J n a2 w2 := ⟨m, hJm⟩
    refine ⟨hex2, ?_⟩
    simp only [hex, hex2, dif_pos]
    refine Nat.lt_of_le_of_lt ((Classical.choose_spec (least hex2)).2 m hJm) ?_
    rw [hms1] at hmlt
    exact hmlt
  | exit i => exact other (by simp) q
  | goto l => exact other (by simp) q
  | ret => exact other (by simp) q
  | panic ch => exact other (by simp) q
  | outgrown => exact other (by simp) q
end
/-! ### sums, remainders, shifts under their given names -/
theorem EqN.remC {m n : Nat} {x y : Int} {k : Int → Prop} (c : Nat) (hx : x = m) (hy : y = n) (h : m % n = c) (a : k c) : EqN (x.tmod y) k := by
  subst hx hy
  refine ⟨c, ?_, a⟩
  rw [Int.tmod_eq_emod_of_nonneg (by omega), ← h]
  simp
theorem EqN.addC {x y : Int} {k : Int → Prop} (m n c : Nat) (hx : x = m) (hy : y = n) (h : m + n = c) (hc : c < 9223372036854775808) (a : k c) : EqN (IntKind.i64.wrap (x + y)) k := by
  subst hx hy
  exact ⟨_, by rw [← Int.natCast_add, h]; exact w64 (by omega), a⟩
theorem EqN.shlC {b : Nat} {x y : Int} {k : Int → Prop} (m n c : Nat) (hx : x = m) (hy : y = n) (hb : Nat.ble 63 b = true) (h : m <<< n = c) (hn : n ≤ 63) (hc : c < 9223372036854775808) (a : k c) : EqN (IntKind.i64.wrap (x * 2 ^ min y.toNat b)) k :=
  EqN.shlN m n hx hy hb hn (h ▸ hc) (h.symm ▸ a)
end Go.Vsi
/-! text R13 -/
namespace Go.Vsi

/-! ### own memory is lent for a call that reads -/
def G.bare (g : G) : G := { g with own := fun _ _ => False }
theorem bare_extV (g : G) (w : World) : ExtV g w g.bare w :=
  ⟨fun _ h => h, fun _ _ => rfl, fun _ _ => .inl rfl, fun hc _ => ⟨hc, fun q => q⟩, fun hb _ => ⟨hb, fun _ q => q⟩⟩

mutual
inductive Lend (H : Heap) : AV → AV → Prop where
  | refl (v : AV) : Lend H v v
  | ptr {i o : Nat} {t : TypeId} {l l' l'' : List AV} : H[i]? = some (.box t l) → dropC o l = some l' → LendL H l' l'' → Lend H (.ptr i o) (.rptr l'')
  | ms {i o n : Nat} {t : TypeId} {l l' l'' : List AV} : H[i]? = some (.box t l) → dropC o l = some l' → LendL H l' l'' → Lend H (.ms i o n) (.sl none n l'')
  | agg {l l' : List AV} : LendL H l l' → Lend H (.agg l) (.agg l')
  | tup {l l' : List AV} : LendL H l l' → Lend H (.tup l) (.tup l')
inductive LendL (H : Heap) : List AV → List AV → Prop where
  | nil : LendL H [] []
  | cons {v v' : AV} {l l' : List AV} : Lend H v v' → LendL H l l' → LendL H (v :: l) (v' :: l')
end
theorem LendL.refl {H : Heap} : ∀ l : List AV, LendL H l l
  | [] => .nil
  | v :: l => .cons (.refl v) (LendL.refl l)

mutual
theorem Lend.rel [Glob] {g : G} {w : World} {H : Heap} (hH : HRel g w (Hp.of H)) : ∀ {v v' : AV}, Lend H v v' → ∀ c, VRel g w v c → VRel g.bare w v' c
  | _, _, .refl v, c, h => VRel.extV (bare_extV _ _) v c h
  | _, _, @Lend.ptr _ i o t l l' l'' h1 h2 h3, c, h => by
    simp only [VRel] at h ⊢
    obtain ⟨hok, rfl⟩ := h
    obtain ⟨cs, e1, e2, e3⟩ := hH.rel i _ (by simpa [Hp.of, Hp.all] using h1)
    obtain ⟨hd1, hd2⟩ := dropC_eq _ _ _ h2
    have e2' := e2.drop o
    rw [hd1] at e2'
    have e4 := LendL.rel hH h3 _ e2'
    refine ⟨_, _, rfl, MRel.mk fun q v hq => ?_⟩
    obtain ⟨c', q1, q2⟩ := e4.get hq
    rw [List.getElem?_drop] at q1
    exact ⟨c', cell_iff.2 ⟨cs, t, _, e1, by simpa using q1⟩, q2, fun ho => ho⟩
  | _, _, @Lend.ms _ i o n t l l' l'' h1 h2 h3, c, h => by
    simp only [VRel] at h ⊢
    obtain ⟨hok, cap, hn, rfl⟩ := h
    obtain ⟨cs, e1, e2, e3⟩ := hH.rel i _ (by simpa [Hp.of, Hp.all] using h1)
    obtain ⟨hd1, hd2⟩ := dropC_eq _ _ _ h2
    have e2' := e2.drop o
    rw [hd1] at e2'
    have e4 := LendL.rel hH h3 _ e2'
    refine ⟨_, _, rfl, hn, .inr ⟨_, _, rfl, MRel.mk fun q v hq => ?_⟩, fun t e => by cases e⟩
    obtain ⟨c', q1, q2⟩ := e4.get hq
    rw [List.getElem?_drop] at q1
    exact ⟨c', cell_iff.2 ⟨cs, t, _, e1, by simpa using q1⟩, q2, fun ho => ho⟩
  | _, _, .agg h1, c, h => by
    simp only [VRel] at h ⊢
    obtain ⟨cs, hc, e1⟩ := h
    exact ⟨cs, hc, LendL.rel hH h1 _ e1⟩
  | _, _, .tup h1, c, h => by
    simp only [VRel] at h ⊢
    obtain ⟨cs, hc, e1⟩ := h
    exact ⟨cs, hc, LendL.rel hH h1 _ e1⟩
theorem LendL.rel [Glob] {g : G} {w : World} {H : Heap} (hH : HRel g w (Hp.of H)) : ∀ {l l' : List AV}, LendL H l l' → ∀ cs, LRel g w l cs → LRel g.bare w l' cs
  | _, _, .nil, cs, h => by simpa [LRel] using h
  | _, _, .cons h1 h2, cs, h => by
    simp only [LRel] at h ⊢
    obtain ⟨c, r, hc, e1, e2⟩ := h
    exact ⟨c, r, hc, Lend.rel hH h1 _ e1, LendL.rel hH h2 _ e2⟩
end

mutual
/-- a value that points to no memory -/
def flatV : AV → Bool
  | .bool _ => true
  | .int _ _ => true
  | .str _ => true
  | .nilp => true
  | .nilf => true
  | .nili => true
  | .nils => true
  | .nilm => true
  | .agg l => flatL l
  | .tup l => flatL l
  | _ => false
def flatL : List AV → Bool
  | [] => true
  | v :: l => flatV v && flatL l
end
mutual
theorem flat_rel {g g' : G} {w : World} : ∀ {v : AV}, flatV v = true → ∀ {c}, VRel g' w v c → VRel g w v c
  | .bool _, _, _, h => by simpa [VRel] using h
  | .int _ _, _, _, h => by simpa [VRel] using h
  | .str _, _, _, h => by simpa [VRel] using h
  | .nilp, _, _, h => by simpa [VRel] using h
  | .nilf, _, _, h => by simpa [VRel] using h
  | .nili, _, _, h => by simpa [VRel] using h
  | .nils, _, _, h => by simpa [VRel] using h
  | .nilm, _, _, h => by simpa [VRel] using h
  | .agg l, hf, _, h => by
    simp only [VRel] at h ⊢
    obtain ⟨cs, hc, e⟩ := h
    exact ⟨cs, hc, flat_relL (by simpa [flatV] using hf) e⟩
  | .tup l, hf, _, h => by
    simp only [VRel] at h ⊢
    obtain ⟨cs, hc, e⟩ := h
    exact ⟨cs, hc, flat_relL (by simpa [flatV] using hf) e⟩
theorem flat_relL {g g' : G} {w : World} : ∀ {l : List AV}, flatL l = true → ∀ {cs}, LRel g' w l cs → LRel g w l cs
  | [], _, _, h => by simpa [LRel] using h
  | v :: l, hf, _, h => by
    simp only [flatL, Bool.and_eq_true] at hf
    simp only [LRel] at h ⊢
    obtain ⟨c, r, hc, e1, e2⟩ := h
    exact ⟨c, r, hc, flat_rel hf.1 e1, flat_relL hf.2 e2⟩
end

theorem VDet.lend [Glob] {P : Program} {F : FuncId} {as as' : List AV} {H : Heap} {v : AV} (h : ∀ H, VDet P F as' H v) (hl : LendL H as as') (hv : flatV v = true) : VDet P F as H v := by
  refine ⟨(h []).1, fun g w cs hH hL => ?_⟩
  have hlen : g.n = H.length := by have := hH.n; simpa [Hp.of] using this
  have hH1 : HRel g.bare w (Hp.of (List.replicate H.length .dead)) := by
    have hrep : ∀ (i : Nat) B, (List.replicate H.length Blk.dead)[i]? = some B → B = .dead := fun i B hi => by
      rw [List.getElem?_replicate] at hi
      split at hi
      · cases hi; rfl
      · cases hi
    refine ⟨by simp [Hp.of, G.bare, hlen], rfl, fun i B hi => ?_, fun _ _ q => q.elim, fun i hi => ?_, fun i j B C b hi _ hb _ => ?_, fun p hp => MRel.extV (bare_extV g w) _ _ _ (hH.glob p hp)⟩
    · rw [hrep i B (by simpa [Hp.of, Hp.all] using hi)]; trivial
    · have := hH.pend i hi
      have hi' : i < H.length := by simpa [Hp.of, Hp.all] using (List.getElem?_eq_some_iff.1 this).1
      simp [Hp.of, Hp.all, List.getElem?_replicate, hi']
    · rw [hrep i B (by simpa [Hp.of, Hp.all] using hi)] at hb; cases hb
  refine ((h _).2 g.bare w cs hH1 (LendL.rel hH hl _ hL)).mono ?_
  rintro e w' ⟨r, H', g', c, rfl, ⟨rfl, rfl⟩, -, hv', hx'⟩
  have hsame : ∀ b, b < w.heap.size → w'.heap[b]? = w.heap[b]? := fun b hb => hx'.same b hb fun _ q => q
  have hx : Ext g w g w' := ⟨Nat.le_refl _, fun _ _ h => h, fun _ h => h, fun _ _ => rfl, fun _ _ => .inl rfl, fun _ _ _ h => h, hx'.os, hx'.tape, hx'.output, hx'.size, fun b hb _ => hsame b hb, fun b cs t fz hb => ⟨cs, by rw [hsame b (lt_size hb)]; exact hb, rfl, fun _ _ => rfl⟩⟩
  exact ⟨_, H, g, c, rfl, ⟨rfl, rfl⟩, hH.keepAll hx hsame, flat_rel hv hv', hx⟩

/-- what lies behind the cells of a slice need not be known -/
theorem MRel.pre {g : G} {w : World} : ∀ {l m : List AV} {b o : Nat}, MRel g w (l ++ m) b o → MRel g w l b o
  | [], _, _, _, _ => by simp [MRel]
  | v :: l, m, b, o, h => by
    simp only [List.cons_append, MRel] at h ⊢
    exact ⟨h.1, MRel.pre h.2⟩
theorem wk_pre (n : Nat) (l m : List AV) : Wk (.sl none n (l ++ m)) (.sl none n l) := fun g w c h => by
  simp only [VRel] at h ⊢
  obtain ⟨A, cap, h1, h2, h3, h4⟩ := h
  refine ⟨A, cap, h1, h2, ?_, fun t e => by cases e⟩
  rcases h3 with h3 | ⟨b, o, h3, h5⟩
  · exact .inl (List.append_eq_nil_iff.1 h3).1
  · exact .inr ⟨b, o, h3, h5.pre⟩
/-- a call that lays new memory, one of a family -/
theorem CallN.more [Glob] {P : Program} {F : FuncId} {as : List AV} {n0 : Nat} {base loc : Heap} {k : Nat} {K : AV → Heap → Nat → Heap → Prop} {ι : Type} (v : ι → AV) (X : ι → Heap) (h : VCall P F as (base ++ loc) fun r H' => ∃ s, r = v s ∧ H' = (base ++ loc) ++ X s) (hn : base.length = n0) (loc2 : ι → Heap) (hl : ∀ s, loc ++ X s = loc2 s) (k2 : Nat) (hk : ∀ s, (loc2 s).length = k2) (a : ∀ s, K (v s) base k2 (loc2 s)) : CallN P (.func F) as n0 base k loc K :=
  .gen _ h fun r H' ⟨s, h1, h2⟩ => ⟨base, k2, loc2 s, by rw [h2, ← hl s, List.append_assoc], hk s, hn, h1 ▸ a s⟩
end Go.Vsi
/-! text R14 -/
namespace Go.Vsi

/-- a new owner of new memory, of which nothing is used yet -/
theorem HRel.newTok0 [Glob] {g : G} {w : World} {hp : Hp} (h : HRel g w hp) (e : TypeId) (sz cap : Nat) (cs : Array Value) (hcs : cs.size = cap * sz) (hcap : cap ≤ maxLen) :
    ∃ g', g'.ok g.n ∧ g'.tk g.n = ⟨0, sz, cap, some w.heap.size⟩ ∧ HRel g' (w.drew.alloc (.cells cs e)) ⟨hp.base, hp.k + 1, hp.loc ++ [.tok e sz 0]⟩ ∧ Ext g w g' (w.drew.alloc (.cells cs e)) := by
  let g' : G := { n := g.n + 1, blk := g.blk, tk := fun i => if i = g.n then ⟨0, sz, cap, some w.heap.size⟩ else g.tk i, own := fun b o => g.own b o ∨ b = w.heap.size, pend := g.pend }
  have hok : ∀ i, g.ok i → g'.ok i := fun i hi => ⟨Nat.lt_succ_of_lt hi.1, hi.2⟩
  have htk' : ∀ i, i < g.n → g'.tk i = g.tk i := fun i hi => by
    show (if i = g.n then _ else _) = _
    rw [if_neg (by omega)]
  have htk : g'.tk g.n = ⟨0, sz, cap, some w.heap.size⟩ := by show (if g.n = g.n then _ else _) = _; rw [if_pos rfl]
  have hold : ∀ b, b < w.heap.size → (w.drew.alloc (.cells cs e)).heap[b]? = w.heap[b]? := fun b hb => hao w.drew _ hb
  have hsz : (w.drew.alloc (.cells cs e)).heap.size = w.heap.size + 1 := by show (w.drew.heap.push _).size = _; rw [Array.size_push]; rfl
  have hx : Ext g w g' (w.drew.alloc (.cells cs e)) := by
    refine ⟨Nat.le_succ _, fun _ _ h => h, hok, fun i hi => rfl, fun i hi => .inl (htk' i hi.1), fun b o hb ho => ?_, rfl, rfl, rfl, ?_, fun b hb _ => hold b hb, fun b ds u fz hb => ⟨ds, ?_, rfl, fun _ _ => rfl⟩⟩
    · rcases ho with ho | ho
      · exact ho
      · omega
    · show w.heap.size ≤ (w.drew.alloc (.cells cs e)).heap.size
      rw [hsz]; omega
    · rw [hold _ (lt_size hb), hb]
  have hokn : g'.ok g.n := ⟨Nat.lt_succ_self _, fun hp' => Nat.lt_irrefl g.n (by have := (List.getElem?_eq_some_iff.1 (h.pend _ hp')).1; rw [Hp.all_length h] at this; exact this)⟩
  have hall : (⟨hp.base, hp.k + 1, hp.loc ++ [.tok e sz 0]⟩ : Hp).all = hp.all ++ [.tok e sz 0] := by simp [Hp.all]
  have hlen := Hp.all_length h
  refine ⟨g', hokn, htk, ⟨?_, by simp [h.k], ?_, ?_, ?_, ?_, fun p hp' => MRel.ext hx _ _ _ (h.glob p hp')⟩, hx⟩
  · show g.n + 1 = _
    rw [h.n]; simp [Nat.add_assoc]
  · intro i C hi
    rw [hall] at hi
    rcases Nat.lt_or_ge i hp.all.length with hlt | hge
    · rw [List.getElem?_append_left hlt] at hi
      have hC := h.rel i C hi
      exact hC.keep hx (at_ok h hi) (fun b hb => hold b (hC.loc_lt hb)) (htk' i (by omega)) (fun _ _ _ ho => .inl ho)
    · rw [List.getElem?_append_right hge] at hi
      have : i = hp.all.length := by
        have := (List.getElem?_eq_some_iff.1 hi).1
        simp at this; omega
      subst this
      simp at hi
      subst hi
      rw [hlen]
      refine ⟨by rw [htk], by rw [htk], .inr ⟨w.heap.size, cs, by rw [htk], heap_alloc_new w.drew _, by rw [htk]; exact hcs, by rw [htk]; exact hcap, Nat.zero_le _, fun o _ => .inr rfl⟩⟩
  · rintro b o (ho | ho)
    · have := h.lt b o ho
      rw [hsz]; omega
    · rw [hsz]; omega
  · intro i hi
    have := h.pend i hi
    rw [hall, List.getElem?_append_left (List.getElem?_eq_some_iff.1 this).1, this]
  · intro i j C D b hi hj hbi hbj
    rw [hall] at hi hj
    have key : ∀ (i : Nat) (C : Blk) (b : Nat), (hp.all ++ [.tok e sz 0])[i]? = some C → locs g' i C = some b →
        (i < hp.all.length ∧ hp.all[i]? = some C ∧ locs g i C = some b ∧ b < w.heap.size) ∨ (i = hp.all.length ∧ b = w.heap.size) := by
      intro i C b hi hb
      rcases Nat.lt_or_ge i hp.all.length with hlt | hge
      · rw [List.getElem?_append_left hlt] at hi
        rw [locs_keep hx (at_ok h hi) (htk' i (by omega))] at hb
        exact .inl ⟨hlt, hi, hb, (h.rel i C hi).loc_lt hb⟩
      · rw [List.getElem?_append_right hge] at hi
        have : i = hp.all.length := by
          have := (List.getElem?_eq_some_iff.1 hi).1
          simp at this; omega
        subst this
        simp at hi
        subst hi
        refine .inr ⟨rfl, ?_⟩
        simp only [locs] at hb
        rw [hlen, htk, Option.some.injEq] at hb
        exact hb.symm
    rcases key i C b hi hbi with ⟨h1, h2, h3, h4⟩ | ⟨h1, h2⟩ <;> rcases key j D b hj hbj with ⟨k1, k2, k3, k4⟩ | ⟨k1, k2⟩
    · exact h.inj i j C D b h2 k2 h3 k3
    · omega
    · omega
    · omega
/-- a store at an offset that does not compute -/
theorem storeS_box {T : TypeId → Option TI} {t u : TypeId} {loc : Heap} {j o : Nat} {v : AV} {ti : TI} {l l' vs : List AV} (hv : cellsS v = some vs) (ht : T t = some ti) (hs : Nat.beq vs.length ti.sz = true) (hj : lget loc j = some (.box u l)) (hk : setC l o vs = some l') :
    storeS T t loc (some (.lp j o)) (some v) = .upd j (.box u l') none := by
  simp only [storeS, hv, ht, hs, hj, hk]
/-- make: of a length, or empty with room -/
theorem OrN.natL {i : Int} {k : Nat → Prop} {B : Prop} (h : NatN i k) : OrN (NatN i k) B := .l h
theorem OrN.natR {i c : Int} {k k2 : Nat → Prop} (h : NatN c k2) : OrN (NatN i k) (NatN c k2) := .r h
end Go.Vsi
/-! text R16 -/
namespace Go.Vsi

/-! ### of a call's own memory one block is kept, under the first free name -/
theorem HRel.split [Glob] {g : G} {w : World} {H loc : Heap} (h : HRel g w (Hp.of (H ++ loc))) : HRel g w ⟨H, loc.length, loc⟩ :=
  ⟨by rw [h.n]; simp [Hp.of], rfl, by simpa [Hp.of, Hp.all] using h.rel, h.lt, by simpa [Hp.of, Hp.all] using h.pend, by simpa [Hp.of, Hp.all] using h.inj, h.glob⟩

/-- a block is forgotten -/
theorem HRel.forget [Glob] {g : G} {w : World} {base : Heap} {k : Nat} {loc : Heap} (h : HRel g w ⟨base, k, loc⟩) (j : Nat) : HRel g w ⟨base, k, loc.set j .dead⟩ := by
  have key : ∀ (i : Nat) (B : Blk), (⟨base, k, loc.set j .dead⟩ : Hp).all[i]? = some B → B = .dead ∨ (⟨base, k, loc⟩ : Hp).all[i]? = some B := by
    intro i B hi
    unfold Hp.all at hi ⊢
    simp only at hi ⊢
    rcases Nat.lt_or_ge i base.length with hlt | hge
    · rw [List.getElem?_append_left hlt] at hi ⊢
      exact .inr hi
    · rw [List.getElem?_append_right hge] at hi ⊢
      rw [List.getElem?_set] at hi
      split at hi
      · split at hi
        · cases hi; exact .inl rfl
        · cases hi
      · exact .inr hi
  refine ⟨h.n, by simpa using h.k, fun i B hi => ?_, h.lt, fun i hi => ?_, fun i1 i2 B C b h1 h2 hb hc => ?_, h.glob⟩
  · rcases key i B hi with rfl | h'
    · trivial
    · exact h.rel i B h'
  · have hd := h.pend i hi
    unfold Hp.all at hd ⊢
    simp only at hd ⊢
    rcases Nat.lt_or_ge i base.length with hlt | hge
    · rw [List.getElem?_append_left hlt] at hd ⊢
      exact hd
    · rw [List.getElem?_append_right hge] at hd ⊢
      rw [List.getElem?_set]
      split
      · rename_i e
        rw [if_pos]
        rw [e]
        exact (List.getElem?_eq_some_iff.1 hd).1
      · exact hd
  · rcases key i1 B h1 with rfl | h1'
    · cases hb
    · rcases key i2 C h2 with rfl | h2'
      · cases hc
      · exact h.inj i1 i2 B C b h1' h2' hb hc

mutual
inductive Kp (n0 : Nat) (loc : Heap) (j : Nat) : AV → AV → Prop where
  | low (v : AV) : below n0 v → Kp n0 loc j v v
  | frz {v v' : AV} : Frz n0 (loc.set j .dead) v v' → below n0 v' → Kp n0 loc j v v'
  | ms {o n : Nat} {t : TypeId} {l : List AV} : loc[j]? = some (.box t l) → Kp n0 loc j (.ms (n0 + j) o n) (.ms n0 o n)
  | vs {n sz : Nat} {e : TypeId} {l : List AV} : loc[j]? = some (.vec e sz l) → l.length = n * sz → 0 < n * sz → Kp n0 loc j (.vs (n0 + j) n) (.ms n0 0 n)
  | vv {n sz : Nat} {e : TypeId} {l : List AV} : loc[j]? = some (.vec e sz l) → l.length = n * sz → Kp n0 loc j (.vs (n0 + j) n) (.vs n0 n)
  | agg {l l' : List AV} : KpL n0 loc j l l' → Kp n0 loc j (.agg l) (.agg l')
  | tup {l l' : List AV} : KpL n0 loc j l l' → Kp n0 loc j (.tup l) (.tup l')
  | sl {tok : Option Nat} {n : Nat} {l l' : List AV} : KpL n0 loc j l l' → Kp n0 loc j (.sl tok n l) (.sl none n l')
inductive KpL (n0 : Nat) (loc : Heap) (j : Nat) : List AV → List AV → Prop where
  | nil : KpL n0 loc j [] []
  | cons {v v' : AV} {l l' : List AV} : Kp n0 loc j v v' → KpL n0 loc j l l' → KpL n0 loc j (v :: l) (v' :: l')
end

/-- the map of names after the block's move -/
def G.one (g : G) (n0 : Nat) (loc : Heap) (j b : Nat) : G :=
  { (g.frz n0 (loc.set j .dead)).cut n0 with n := n0 + 1, blk := fun i => if i = n0 then b else g.blk i, tk := fun i => if i = n0 then g.tk (n0 + j) else g.tk i }

theorem one_extV {g : G} {n0 : Nat} {loc : Heap} {j b : Nat} (w : World) : ExtV ((g.frz n0 (loc.set j .dead)).cut n0) w (g.one n0 loc j b) w :=
  ⟨fun i hi => ⟨Nat.lt_succ_of_lt hi.1, hi.2⟩, fun i hi => by
    have : i ≠ n0 := Nat.ne_of_lt hi.1
    show (if i = n0 then b else g.blk i) = g.blk i
    rw [if_neg this], fun i hi => .inl (by
    have : i ≠ n0 := Nat.ne_of_lt hi.1
    show (if i = n0 then g.tk (n0 + j) else g.tk i) = g.tk i
    rw [if_neg this]), fun hc ho => ⟨hc, ho⟩, fun hb ho => ⟨hb, ho⟩⟩

mutual
theorem Kp.rel [Glob] {g : G} {w : World} {base : Heap} {k : Nat} {loc : Heap} {j b : Nat} {B : Blk} (hH : HRel g w ⟨base, k, loc⟩) (hj : loc[j]? = some B) (hb : locs g (base.length + j) B = some b) : ∀ {v v' : AV}, Kp base.length loc j v v' → ∀ c, VRel g w v c → VRel (g.one base.length loc j b) w v' c
  | _, _, .low v hv, c, h => VRel.extV (one_extV w) _ _ (VRel.cut _ _ (VRel.extV (frz_extV g w base.length (loc.set j .dead)) _ _ h) hv)
  | _, _, .frz hf hv, c, h => VRel.extV (one_extV w) _ _ (VRel.cut _ _ (hf.rel (hH.forget j) c h) hv)
  | _, _, @Kp.ms _ _ _ o n t l h1, c, h => by
    rw [hj] at h1
    cases h1
    simp only [locs, Option.some.injEq] at hb
    simp only [VRel] at h ⊢
    obtain ⟨hok, cap, hn, rfl⟩ := h
    refine ⟨⟨Nat.lt_succ_self _, fun q => Nat.lt_irrefl _ q.2⟩, cap, hn, ?_⟩
    have : (g.one base.length loc j b).blk base.length = b := by show (if _ = _ then b else _) = b; rw [if_pos rfl]
    rw [this, hb]
  | _, _, @Kp.vs _ _ _ n sz e l h1 h2 h3, c, h => by
    rw [hj] at h1
    cases h1
    simp only [locs] at hb
    have hat : (⟨base, k, loc⟩ : Hp).all[base.length + j]? = some (.vec e sz l) := at_loc (by rw [lget_eq]; exact hj)
    obtain ⟨q1, q2, q3⟩ := hH.rel _ _ hat
    simp only [VRel] at h ⊢
    obtain ⟨hok, hle, A, cap, rfl, hn, hA⟩ := h
    obtain ⟨r1, r2⟩ := hA (by rw [q1, q2, h2])
    refine ⟨⟨Nat.lt_succ_self _, fun q => Nat.lt_irrefl _ q.2⟩, cap, hn, ?_⟩
    have : (g.one base.length loc j b).blk base.length = b := by show (if _ = _ then b else _) = b; rw [if_pos rfl]
    rw [this, r1, hb]
    rfl
  | _, _, @Kp.vv _ _ _ n sz e l h1 h2, c, h => by
    have hat : (⟨base, k, loc⟩ : Hp).all[base.length + j]? = some (.vec e sz l) := at_loc (by rw [lget_eq]; exact h1)
    obtain ⟨q1, q2, q3⟩ := hH.rel _ _ hat
    have htk : (g.one base.length loc j b).tk base.length = g.tk (base.length + j) := by show (if _ = _ then _ else _) = _; rw [if_pos rfl]
    simp only [VRel] at h ⊢
    obtain ⟨hok, hle, A, cap, rfl, hn, hA⟩ := h
    exact ⟨⟨Nat.lt_succ_self _, fun q => Nat.lt_irrefl _ q.2⟩, by rw [htk]; exact hle, A, cap, rfl, hn, fun e => by rw [htk] at e ⊢; exact hA e⟩
  | _, _, .agg h1, c, h => by
    simp only [VRel] at h ⊢
    obtain ⟨cs, hc, e1⟩ := h
    exact ⟨cs, hc, KpL.rel hH hj hb h1 _ e1⟩
  | _, _, .tup h1, c, h => by
    simp only [VRel] at h ⊢
    obtain ⟨cs, hc, e1⟩ := h
    exact ⟨cs, hc, KpL.rel hH hj hb h1 _ e1⟩
  | _, _, @Kp.sl _ _ _ tok n l l' h1, c, h => by
    simp only [VRel] at h ⊢
    obtain ⟨A, cap, hc, hn, hm, -⟩ := h
    refine ⟨A, cap, hc, hn, ?_, fun t e => by cases e⟩
    rcases hm with rfl | ⟨b', o, hA, hm⟩
    · cases h1; exact .inl rfl
    · exact .inr ⟨b', o, hA, KpL.mrel hH hj hb h1 b' o hm⟩
theorem KpL.rel [Glob] {g : G} {w : World} {base : Heap} {k : Nat} {loc : Heap} {j b : Nat} {B : Blk} (hH : HRel g w ⟨base, k, loc⟩) (hj : loc[j]? = some B) (hb : locs g (base.length + j) B = some b) : ∀ {l l' : List AV}, KpL base.length loc j l l' → ∀ cs, LRel g w l cs → LRel (g.one base.length loc j b) w l' cs
  | _, _, .nil, cs, h => by simpa [LRel] using h
  | _, _, .cons h1 h2, cs, h => by
    simp only [LRel] at h ⊢
    obtain ⟨c, r, hc, e1, e2⟩ := h
    exact ⟨c, r, hc, Kp.rel hH hj hb h1 c e1, KpL.rel hH hj hb h2 r e2⟩
theorem KpL.mrel [Glob] {g : G} {w : World} {base : Heap} {k : Nat} {loc : Heap} {j b : Nat} {B : Blk} (hH : HRel g w ⟨base, k, loc⟩) (hj : loc[j]? = some B) (hb : locs g (base.length + j) B = some b) : ∀ {l l' : List AV}, KpL base.length loc j l l' → ∀ b' o, MRel g w l b' o → MRel (g.one base.length loc j b) w l' b' o
  | _, _, .nil, b', o, h => by simp [MRel]
  | _, _, .cons h1 h2, b', o, h => by
    simp only [MRel] at h ⊢
    obtain ⟨⟨c, e1, e2, e3⟩, e4⟩ := h
    exact ⟨⟨c, e1, Kp.rel hH hj hb h1 c e2, fun q => e3 q.1⟩, KpL.mrel hH hj hb h2 b' (o + 1) e4⟩
end

theorem LRel.spare {g : G} {w : World} {l : List AV} {cs : List Value} (h : LRel g w l (cs.take l.length)) (hl : l.length ≤ cs.length) : LRel g w (l ++ List.replicate (cs.length - l.length) .junk) cs := by
  refine LRel.mk (by simp; omega) fun q v c hv hc => ?_
  rcases Nat.lt_or_ge q l.length with hlt | hge
  · rw [List.getElem?_append_left hlt] at hv
    obtain ⟨c', q1, q2⟩ := h.get hv
    rw [List.getElem?_take, if_pos hlt, hc] at q1
    cases q1
    exact q2
  · rw [List.getElem?_append_right hge, List.getElem?_replicate] at hv
    split at hv
    · cases hv; simp [VRel]
    · cases hv

/-- a block that may be kept: what it holds becomes l' -/
inductive OneB (n0 : Nat) (loc : Heap) (j : Nat) (t : TypeId) (l' : List AV) : Prop where
  | box {l : List AV} : loc[j]? = some (.box t l) → KpL n0 loc j l l' → OneB n0 loc j t l'
  | vec {l : List AV} {sz : Nat} : loc[j]? = some (.vec t sz l) → 0 < l.length → KpL n0 loc j l l' → OneB n0 loc j t l'

theorem KpL.length {n0 : Nat} {loc : Heap} {j : Nat} : ∀ {l l' : List AV}, KpL n0 loc j l l' → l'.length = l.length
  | _, _, .nil => rfl
  | _, _, .cons _ h => by simp [h.length]

theorem VCall.oneG [Glob] {P : Program} {F : FuncId} {as : List AV} {H : Heap} {ι : Type} {u u' : ι → AV} {loc : ι → Heap} {j : Nat} {Po : ι → Blk → Prop}
    (h : VCall P F as H fun r H' => ∃ i, r = u i ∧ H' = H ++ loc i) (hu : ∀ i, Kp H.length (loc i) j (u i) (u' i))
    (ho : ∀ i (g : G) (w : World), HRel g w ⟨H, (loc i).length, loc i⟩ → ∃ B b, (loc i)[j]? = some B ∧ locs g (H.length + j) B = some b ∧ (∀ o, g.own b o) ∧ ((∀ o, (g.one H.length (loc i) j b).own b o) → ∃ B', Po i B' ∧ BRel (g.one H.length (loc i) j b) w H.length B' ∧ locs (g.one H.length (loc i) j b) H.length B' = some b)) :
    VCall P F as H fun r H' => ∃ i B', r = u' i ∧ Po i B' ∧ H' = H ++ [B'] := by
  refine ⟨h.1, fun g w cs hH hL => (h.2 g w cs hH hL).mono ?_⟩
  rintro e w' ⟨r, H', g', c, rfl, ⟨i, rfl, rfl⟩, hH', hv, hx⟩
  have hs := hH'.split
  have hz : (Hp.of H).all = H := by simp [Hp.of, Hp.all]
  have hfr := HRel.frz (hs.forget j) hH rfl (fun _ _ h => .inl h)
  have hat : ∀ B, (loc i)[j]? = some B → (⟨H, (loc i).length, loc i⟩ : Hp).all[H.length + j]? = some B := fun B hB => at_loc (by rw [lget_eq]; exact hB)
  obtain ⟨B, b, hB, hlb, hown, hmk⟩ := ho i g' w' hs
  have hgn : (g'.one H.length (loc i) j b).n = H.length + 1 := rfl
  have hne : ∀ {q : Nat} {C : Blk} {b' : Nat}, H[q]? = some C → locs g' q C = some b' → b' ≠ b := by
    intro q C b' hq hb' e
    subst e
    have hq' : (⟨H, (loc i).length, loc i⟩ : Hp).all[q]? = some C := by
      unfold Hp.all
      rw [List.getElem?_append_left (List.getElem?_eq_some_iff.1 hq).1, hq]
    have := hs.inj q (H.length + j) C B _ hq' (hat B hB) hb' hlb
    have := (List.getElem?_eq_some_iff.1 hq).1
    omega
  have hlocs : ∀ (q : Nat) C, q < H.length → locs (g'.one H.length (loc i) j b) q C = locs g' q C := by
    intro q C hq
    have e1 : (g'.one H.length (loc i) j b).blk q = g'.blk q := by show (if q = _ then b else _) = _; rw [if_neg (by omega)]
    have e2 : (g'.one H.length (loc i) j b).tk q = g'.tk q := by show (if q = _ then _ else _) = _; rw [if_neg (by omega)]
    cases C <;> simp only [locs, e1, e2]
  have hlocs2 : ∀ (q : Nat) C, locs ((g'.frz H.length ((loc i).set j .dead)).cut H.length) q C = locs g' q C := by
    intro q C
    cases C <;> rfl
  have hown1 : ∀ o, (g'.one H.length (loc i) j b).own b o := fun o => ⟨hown o, fun q C hC hCl e => by
    rw [List.getElem?_set] at hC
    split at hC
    · split at hC
      · cases hC; cases hCl
      · cases hC
    · rename_i hqj
      have h1 := hs.inj (H.length + q) (H.length + j) C B b (show (⟨H, (loc i).length, loc i⟩ : Hp).all[H.length + q]? = some C from at_loc (by rw [lget_eq]; exact hC)) (hat B hB) e hlb
      omega⟩
  obtain ⟨B', hPo, hBr, hlB⟩ := hmk hown1
  have key : ∀ (q : Nat) C, (Hp.of (H ++ [B'])).all[q]? = some C → (q < H.length ∧ H[q]? = some C) ∨ (q = H.length ∧ C = B') := by
    intro q C hq
    simp only [Hp.of, Hp.all, List.append_nil] at hq
    rcases Nat.lt_or_ge q H.length with hlt | hge
    · rw [List.getElem?_append_left hlt] at hq
      exact .inl ⟨hlt, hq⟩
    · rw [List.getElem?_append_right hge] at hq
      have h0 : q = H.length := by
        have := (List.getElem?_eq_some_iff.1 hq).1
        simp at this; omega
      subst h0
      simp at hq
      exact .inr ⟨rfl, hq.symm⟩
  refine ⟨_, _, g'.one H.length (loc i) j b, c, rfl, ⟨i, B', rfl, hPo, rfl⟩, ?_, Kp.rel hs hB hlb (hu i) c hv, ?_⟩
  · refine ⟨by rw [hgn]; simp [Hp.of], rfl, fun q C hq => ?_, fun b' o hb' => hH'.lt b' o hb'.1, fun q hq => ?_, fun q1 q2 C D b' h1 h2 hb1 hb2 => ?_, fun p hp => MRel.extV (one_extV w') _ _ _ (hfr.glob p hp)⟩
    · rcases key q C hq with ⟨hlt, hq'⟩ | ⟨rfl, rfl⟩
      · have hr := hfr.rel q C (by rw [hz]; exact hq')
        refine hr.keepV (one_extV w') (at_ok hfr (by rw [At, hz]; exact hq')) (fun _ _ => rfl) ?_ (fun b' o hb' ho => ho)
        show (if q = _ then _ else _) = _
        rw [if_neg (by omega)]
        rfl
      · exact hBr
    · have := hfr.pend q hq
      rw [hz] at this
      have hlt := (List.getElem?_eq_some_iff.1 this).1
      simp only [Hp.of, Hp.all, List.append_nil]
      rw [List.getElem?_append_left hlt, this]
    · rcases key q1 C h1 with ⟨l1, h1'⟩ | ⟨rfl, rfl⟩ <;> rcases key q2 D h2 with ⟨l2, h2'⟩ | ⟨rfl, rfl⟩
      · rw [hlocs _ _ l1] at hb1
        rw [hlocs _ _ l2] at hb2
        exact hfr.inj q1 q2 C D b' (by rw [hz]; exact h1') (by rw [hz]; exact h2') (by rw [hlocs2]; exact hb1) (by rw [hlocs2]; exact hb2)
      · rw [hlocs _ _ l1] at hb1
        rw [hlB] at hb2
        cases hb2
        exact absurd rfl (hne h1' hb1)
      · rw [hlocs _ _ l2] at hb2
        rw [hlB] at hb1
        cases hb1
        exact absurd rfl (hne h2' hb2)
      · rfl
  · have hgn0 : g.n = H.length := by have := hH.n; simpa [Hp.of] using this
    have hx2 : Ext g w ((g'.frz H.length ((loc i).set j .dead)).cut H.length) w' := hx.frz.cut (by omega)
    refine ⟨by rw [hgn]; omega, hx2.pend, fun q hq => (one_extV w').ok q (hx2.ok q hq), fun q hq => ?_, fun q hq => ?_, fun b' o hb' ho => hx2.own b' o hb' ho, hx2.os, hx2.tape, hx2.output, hx2.size, hx2.same, hx2.cells⟩
    · rw [(one_extV w').blk q (hx2.ok q hq), hx2.blk q hq]
    · have h1 := hx2.tk q hq
      have h2 : (g'.one H.length (loc i) j b).tk q = ((g'.frz H.length ((loc i).set j .dead)).cut H.length).tk q := by
        have h3 : q < H.length := (hx2.ok q hq).1
        show (if q = H.length then g'.tk (H.length + j) else g'.tk q) = g'.tk q
        rw [if_neg (Nat.ne_of_lt h3)]
      rw [h2]
      exact h1

theorem VCall.one [Glob] {P : Program} {F : FuncId} {as : List AV} {H : Heap} {ι : Type} {u u' : ι → AV} {loc : ι → Heap} {j : Nat} {t : TypeId} {l' : ι → List AV}
    (h : VCall P F as H fun r H' => ∃ i, r = u i ∧ H' = H ++ loc i) (hu : ∀ i, Kp H.length (loc i) j (u i) (u' i)) (ho : ∀ i, OneB H.length (loc i) j t (l' i)) :
    VCall P F as H fun r H' => ∃ i s, r = u' i ∧ H' = H ++ [.box t (l' i ++ List.replicate s .junk)] := by
  refine VCall.mono (VCall.oneG (Po := fun i B' => ∃ s, B' = .box t (l' i ++ List.replicate s .junk)) h hu fun i g' w' hs => ?_) ?_
  · have hat : ∀ B, (loc i)[j]? = some B → (⟨H, (loc i).length, loc i⟩ : Hp).all[H.length + j]? = some B := fun B hB => at_loc (by rw [lget_eq]; exact hB)
    have hblk : ∀ b, (g'.one H.length (loc i) j b).blk H.length = b := fun b => by show (if _ = _ then b else _) = b; rw [if_pos rfl]
    cases ho i with
    | box h1 h2 =>
      obtain ⟨cs', e1, e2, e3⟩ := hs.rel _ _ (hat _ h1)
      refine ⟨_, g'.blk (H.length + j), h1, rfl, e3, fun hown => ⟨_, ⟨0, rfl⟩, ⟨cs', by rw [hblk]; exact e1, ?_, fun o => by rw [hblk]; exact hown o⟩, congrArg some (hblk _)⟩⟩
      simpa using KpL.rel hs h1 rfl h2 _ e2
    | @vec l sz h1 h3 h2 =>
      obtain ⟨e1, e2, e3⟩ := hs.rel _ _ (hat _ h1)
      rcases e3 with ⟨-, q, -⟩ | ⟨b, cs', p1, p2, p3, p4, p5, p6, p7⟩
      · rw [q] at h3; cases h3
      · refine ⟨_, b, h1, p1, p7, fun hown => ⟨_, ⟨cs'.size - (l' i).length, rfl⟩, ⟨cs', by rw [hblk]; exact p2, ?_, fun o => by rw [hblk]; exact hown o⟩, congrArg some (hblk _)⟩⟩
        have := KpL.rel hs h1 (by exact p1) h2 _ p6
        rw [← h2.length] at this p5
        have h5 := LRel.spare this (by simpa using p5)
        simpa using h5
  · rintro r H' ⟨i, B', rfl, ⟨s, rfl⟩, rfl⟩
    exact ⟨i, s, rfl, rfl⟩

/-- .. a growing slice stays one -/
theorem VCall.oneV [Glob] {P : Program} {F : FuncId} {as : List AV} {H : Heap} {u u' : AV} {loc : Heap} {j : Nat} {t : TypeId} {sz : Nat} {l l' : List AV}
    (h : VCall P F as H fun r H' => r = u ∧ H' = H ++ loc) (hu : Kp H.length loc j u u') (ho : loc[j]? = some (.vec t sz l)) (hl0 : 0 < l.length) (hl : KpL H.length loc j l l') :
    VCall P F as H fun r H' => r = u' ∧ H' = H ++ [.vec t sz l'] := by
  refine VCall.mono (VCall.oneG (ι := Unit) (u := fun _ => u) (u' := fun _ => u') (loc := fun _ => loc) (j := j) (Po := fun _ B' => B' = .vec t sz l') (VCall.mono h fun r H' h => ⟨(), h⟩) (fun _ => hu) fun _ g' w' hs => ?_) ?_
  · have hat : ∀ B, loc[j]? = some B → (⟨H, loc.length, loc⟩ : Hp).all[H.length + j]? = some B := fun B hB => at_loc (by rw [lget_eq]; exact hB)
    have htk : ∀ b, (g'.one H.length loc j b).tk H.length = g'.tk (H.length + j) := fun b => by show (if _ = _ then _ else _) = _; rw [if_pos rfl]
    obtain ⟨e1, e2, e3⟩ := hs.rel _ _ (hat _ ho)
    rcases e3 with ⟨-, q, -⟩ | ⟨b, cs', p1, p2, p3, p4, p5, p6, p7⟩
    · rw [q] at hl0; cases hl0
    · refine ⟨_, b, ho, p1, p7, fun hown => ⟨_, rfl, ⟨by rw [htk, e1, hl.length], by rw [htk, e2], .inr ⟨b, cs', by rw [htk]; exact p1, p2, by rw [htk]; exact p3, by rw [htk]; exact p4, by rw [hl.length]; exact p5, ?_, hown⟩⟩, by simp only [locs, htk]; exact p1⟩⟩
      rw [hl.length]
      exact KpL.rel hs ho (by exact p1) hl _ p6
  · rintro r H' ⟨_, B', rfl, rfl, rfl⟩
    exact ⟨rfl, rfl⟩

/-! ### a slice that grows becomes one that may be written -/
theorem wk_tokVec (t : Nat) : Wk (.sl (some t) 0 []) (.vs t 0) := fun g w c h => by
  simp only [VRel] at h ⊢
  obtain ⟨A, cap, rfl, hn, -, ht⟩ := h
  obtain ⟨h1, h2, h3⟩ := ht t rfl
  refine ⟨h1, by omega, A, cap, rfl, hn, fun e => ?_⟩
  obtain ⟨q1, q2, -⟩ := h3 (by simpa using e)
  exact ⟨q1, q2⟩
theorem HRel.tokVec [Glob] {g : G} {w : World} {base : Heap} {k : Nat} {loc : Heap} {j : Nat} {e : TypeId} {sz : Nat} (h : HRel g w ⟨base, k, loc⟩) (hj : loc[j]? = some (.tok e sz 0)) : HRel g w ⟨base, k, loc.set j (.vec e sz [])⟩ := by
  have hat : (⟨base, k, loc⟩ : Hp).all[base.length + j]? = some (.tok e sz 0) := at_loc (by rw [lget_eq]; exact hj)
  have key : ∀ (i : Nat) (B : Blk), (⟨base, k, loc.set j (.vec e sz [])⟩ : Hp).all[i]? = some B → (i = base.length + j ∧ B = .vec e sz []) ∨ (⟨base, k, loc⟩ : Hp).all[i]? = some B := by
    intro i B hi
    unfold Hp.all at hi ⊢
    simp only at hi ⊢
    rcases Nat.lt_or_ge i base.length with hlt | hge
    · rw [List.getElem?_append_left hlt] at hi ⊢
      exact .inr hi
    · rw [List.getElem?_append_right hge] at hi ⊢
      rw [List.getElem?_set] at hi
      split at hi
      · rename_i e1
        split at hi
        · cases hi; exact .inl ⟨by omega, rfl⟩
        · cases hi
      · exact .inr hi
  refine ⟨h.n, by simpa using h.k, fun i B hi => ?_, h.lt, fun i hi => ?_, fun i1 i2 B C b h1 h2 hb hc => ?_, h.glob⟩
  · rcases key i B hi with ⟨rfl, rfl⟩ | h'
    · obtain ⟨e1, e2, e3⟩ := h.rel _ _ hat
      refine ⟨e1, e2, ?_⟩
      rcases e3 with ⟨q1, -, q3⟩ | ⟨b, cs, q1, q2, q3, q4, q5, q6⟩
      · exact .inl ⟨q1, rfl, q3⟩
      · exact .inr ⟨b, cs, q1, q2, q3, q4, by simp, by simp [LRel], fun o => q6 o (Nat.zero_le _)⟩
    · exact h.rel i B h'
  · have hd := h.pend i hi
    unfold Hp.all at hd ⊢
    simp only at hd ⊢
    rcases Nat.lt_or_ge i base.length with hlt | hge
    · rw [List.getElem?_append_left hlt] at hd ⊢
      exact hd
    · rw [List.getElem?_append_right hge] at hd ⊢
      rw [List.getElem?_set]
      split
      · rename_i e1
        rw [← e1, hj] at hd
        cases hd
      · exact hd
  · have key2 : ∀ (i : Nat) (B : Blk), (⟨base, k, loc.set j (.vec e sz [])⟩ : Hp).all[i]? = some B → ∀ b, locs g i B = some b → ∃ B', (⟨base, k, loc⟩ : Hp).all[i]? = some B' ∧ locs g i B' = some b := by
      intro i B hi b hb
      rcases key i B hi with ⟨rfl, rfl⟩ | h'
      · exact ⟨_, hat, hb⟩
      · exact ⟨B, h', hb⟩
    obtain ⟨B', p1, p2⟩ := key2 i1 B h1 b hb
    obtain ⟨C', p3, p4⟩ := key2 i2 C h2 b hc
    exact h.inj i1 i2 B' C' b p1 p3 p2 p4
section
variable {P : Program} {N : FN} {n0 : Nat} {T : TypeId → Option TI} {kn : TypeId → Nat}
/-- before a loop: a slice that has been made, with room and empty, may be written -/
theorem LoopN.tokVec [Glob] (t j : Nat) (e : TypeId) (sz : Nat) {c : Code} {Q : QR} {top bot : RE} {base : Heap} {k : Nat} {loc loc' : Heap} (hv : rget2 top bot t = some (.v (.sl (some (n0 + j)) 0 []))) (hl : lget loc j = some (.tok e sz 0)) (hs : lset loc j (.vec e sz []) = some loc')
    (h : LoopN P kn T N n0 c Q ((t, .v (.vs (n0 + j) 0)) :: top) bot base k loc') : LoopN P kn T N n0 c Q top bot base k loc := by
  refine ⟨fun g w a hH hE => ?_⟩
  obtain ⟨e1, -⟩ := lset_eq _ _ _ _ hs
  subst e1
  rw [lget_eq] at hl
  refine h.h g w a (hH.tokVec hl) ⟨hE.1, fun s => ?_, hE.ro, hE.glob⟩
  simp only [List.cons_append, trE]
  by_cases hs : t = s
  · subst hs
    rw [get_put_same]
    have h0 := hE.rel t
    rw [rget2_get hv] at h0
    exact wk_tokVec _ _ _ _ h0
  · rw [get_put_ne _ _ hs]
    exact hE.rel s
/-! ### a loop whose rounds may leave more memory -/
structure RoundK {σ : Type} (inv : σ → Prop) (ms : σ → Nat) (st : σ → RE) (lc : σ → Heap) (bk : RE) (n0 : Nat) (base : σ → Heap) (lens : σ → Nat) (m : Nat) (top bot : RE) (base' : Heap) (loc' : Heap) : Prop where
  h : ∃ s', inv s' ∧ ms s' < m ∧ subR n0 top bot (st s') ∧ ((bot = bk ∧ disjK top bk = true) ∨ subR n0 top bot bk) ∧ base' = base s' ∧ ∃ ex, loc' = lc s' ++ ex ∧ (ex = [] ∨ belowRE n0 (n0 + lens s') (st s') ∧ belowH (n0 + lens s') (lc s'))
def roundK {σ : Type} (inv : σ → Prop) (ms : σ → Nat) (st : σ → RE) (lc : σ → Heap) (bk : RE) (n0 : Nat) (base : σ → Heap) (lens : σ → Nat) (m : Nat) (Q : QR) : QR := fun e top bot base' k' loc' => match e with
  | .normal => RoundK inv ms st lc bk n0 base lens m top bot base' loc'
  | e => Q e top bot base' k' loc'
theorem loop_K [Glob] (he : Env0 P T kn) (hm : P.follows .mixedOrders = true) {σ : Type} (inv : σ → Prop) (ms : σ → Nat) (st : σ → RE) (bs lc : σ → Heap) (lens : σ → Nat) (bk : RE) (s0 : σ) {c : Code} {Q : QR} {top bot : RE} {base : Heap} {k : Nat} {loc : Heap}
    (hn : ∀ s, inv s → (bs s).length = n0) (hcl : ∀ s, inv s → Closed (bs s)) (ts : List Nat) (hbk : pickO ts top bot = some bk) (h0 : inv s0) (hst : subR n0 top bot (st s0)) (hbase : base = bs s0) (hloc : loc = lc s0) (hk0 : k = lens s0) (hmono : ∀ s, inv s → lens s0 ≤ lens s) (hlen : ∀ s, inv s → (lc s).length = lens s)
    (round : ∀ s, inv s → wpC P kn T N n0 c (roundK inv ms st lc bk n0 bs lens (ms s) Q) (st s) bk (bs s) (lens s) (lc s)) : LoopN P kn T N n0 c Q top bot base k loc := by
  refine ⟨?_⟩
  subst hloc hbase hk0
  intro g w a hH hE
  have hbkb : ∀ s v, rgetO bk s = some v → below (n0 + lens s0) (tr n0 v) := by
    intro s v hv
    have h1 := rget2_get (n0 := n0) (pickO_get hbk hv)
    have h2 := VRel.below _ _ (hE.rel s)
    rw [h1, hH.n] at h2
    simp only [hn s0 h0] at h2
    exact h2
  let J : Nat → Act → World → Prop := fun n a' w' => ∃ s g', inv s ∧ ms s = n ∧ HRel g' w' ⟨bs s, lens s, lc s⟩ ∧ ERel N g' w' (trE n0 (st s ++ bk)) a' ∧ Ext g w g' w' ∧ DRel w a.defers g' w' a'.defers
  have hget : ∀ (l bk : RE) (s : Nat), get (trE n0 (l ++ bk)) s = match rgetO l s with
      | some v => tr n0 v
      | none => match rgetO bk s with
        | some v => tr n0 v
        | none => .junk := by
    intro l bk s
    rw [trE_append]
    cases hl : rgetO l s with
    | some v => simp only; exact rgetO_get hl _
    | none =>
      simp only
      rw [rgetO_none hl]
      cases hb : rgetO bk s with
      | some v => simp only; have := rgetO_get (n0 := n0) hb []; simpa using this
      | none => simp only; have := rgetO_none (n0 := n0) hb []; simp only [List.append_nil] at this; rw [this]; rfl
  refine LoopWp.inv (fun a' w' => ∃ n, J n a' w') (fun a' w' => by classical exact if h : ∃ n, J n a' w' then Classical.choose (least h) else 0) ⟨ms s0, s0, g, h0, rfl, hH, ⟨hE.1, fun s => ?_, hE.ro, hE.glob⟩, Ext.refl g w, DRel.refl _ _ _ _⟩ ?_
  · rw [hget]
    cases hl : rgetO (st s0) s with
    | some v => simp only; exact subR_get hst hl _ _ _ (hE.rel s)
    | none =>
      simp only
      cases hb : rgetO bk s with
      | some v => simp only; rw [← rget2_get (n0 := n0) (pickO_get hbk hb)]; exact hE.rel s
      | none => simp [VRel]
  intro a1 w1 hex
  have hJ := (Classical.choose_spec (least hex)).1
  obtain ⟨s1, g1, hI1, hms1, hH1, hE1, hx1, hd1⟩ := hJ
  have hr := wpC_sound he hm c _ _ _ _ _ _ (hn s1 hI1) (round s1 hI1) g1 w1 a1 hH1 hE1
  rw [hE.fo hx1] at hr
  refine Code.wpIn_mono ?_ hr
  rintro e a2 w2 ⟨env2, hp2, g2, ⟨top2, bot2, base2, k2, loc2, hap, rfl, hn2, q⟩, hH2, hE2, hx2, hd2⟩
  have other : e ≠ .normal → Q e top2 bot2 base2 k2 loc2 → Lift N (LS n0 Q) g w a.defers e a2 w2 := fun _ hq =>
    ⟨env2, _, g2, ⟨top2, bot2, base2, k2, loc2, hap, rfl, hn2, hq⟩, hH2, hE2, hx1.trans hx2, hd1.trans hx2 hx1.size hd2⟩
  cases e with
  | normal =>
    obtain ⟨s', hi', hms', hsub, hbk', rfl, ex, rfl, hbel⟩ := q
    have hns := hn s' hi'
    have hE3 : ERel N g2 w2 (trE n0 (st s' ++ bk)) a2 := by
      refine ⟨hE2.1, fun s => ?_, hE2.ro, hE2.glob⟩
      have h2 := hap s _ _ _ (hE2.rel s)
      rw [hget]
      cases hl : rgetO (st s') s with
      | some v => simp only; exact subR_get hsub hl _ _ _ h2
      | none =>
        simp only
        cases hb : rgetO bk s with
        | none => simp [VRel]
        | some v =>
          simp only
          rcases hbk' with ⟨rfl, hdj⟩ | hsb
          · rw [hget, disjK_none hdj hb] at h2
            simp only [hb] at h2
            exact h2
          · exact subR_get hsb hb _ _ _ h2
    have hlc := hlen s' hi'
    have hex2 : ∃ m, m < ms s1 ∧ J m a2 w2 := by
      rcases hbel with rfl | ⟨hb1, hb2⟩
      · have hk2 : k2 = lens s' := by have := hH2.k; simp only [List.append_nil] at this; omega
        subst hk2
        rw [List.append_nil] at hH2
        exact ⟨ms s', hms', s', g2, hi', rfl, hH2, hE3, hx1.trans hx2, hd1.trans hx2 hx1.size hd2⟩
      · have hcut := hH2.cutLoc hlc (hcl s' hi') (by rw [hns]; exact hb2)
        have hgn : g.n ≤ (bs s').length + lens s' := by rw [hH.n, hns]; simp only [hn s0 h0]; have := hmono s' hi'; omega
        have hxc := (hx1.trans hx2).cut hgn
        refine ⟨ms s', hms', s', g2.cut ((bs s').length + lens s'), hi', rfl, hcut, ⟨hE3.1, fun s => VRel.cut _ _ (hE3.rel s) ?_, fun i hi => ?_, glob_cut hE3.glob⟩, hxc, ?_⟩
        · rw [hget]
          rw [hns]
          cases hl : rgetO (st s') s with
          | some v => simp only; exact belowRE_get hb1 hl
          | none =>
            simp only
            cases hb : rgetO bk s with
            | some v => simp only; exact below_mono (Nat.add_le_add_left (hmono s' hi') _) _ (hbkb s v hb)
            | none => simp [below]
        · have h1 := hE.ro i hi
          exact ⟨Nat.lt_of_lt_of_le h1.1 hgn, fun q => (hE3.ro i hi).2 q.1⟩
        · obtain ⟨rs, d1, d2, d3⟩ := hd1.trans hx2 hx1.size hd2
          exact ⟨rs, d1, d2, d3⟩
    obtain ⟨m, hmlt, hJm⟩ := hex2
    have hex2 : ∃ n, J n a2 w2 := ⟨m, hJm⟩
    refine ⟨hex2, ?_⟩
    simp only [hex, hex2, dif_pos]
    refine Nat.lt_of_le_of_lt ((Classical.choose_spec (least hex2)).2 m hJm) ?_
    rw [hms1] at hmlt
    exact hmlt
  | exit i => exact other (by simp) q
  | goto l => exact other (by simp) q
  | ret => exact other (by simp) q
  | panic ch => exact other (by simp) q
  | outgrown => exact other (by simp) q
end
/-! ### weakening inside slices -/
theorem WkL.mrel {g : G} {w : World} : ∀ {l l' : List AV} {b o : Nat}, WkL l l' → MRel g w l b o → MRel g w l' b o
  | [], [], _, _, _, h => h
  | v :: l, v' :: l', b, o, hw, h => by
    simp only [MRel] at h ⊢
    obtain ⟨⟨c, h1, h2, h3⟩, h4⟩ := h
    exact ⟨⟨c, h1, hw.1 _ _ _ h2, h3⟩, WkL.mrel hw.2 h4⟩
  | [], _ :: _, _, _, hw, _ => hw.elim
  | _ :: _, [], _, _, hw, _ => hw.elim
theorem WkL.id : ∀ l : List AV, WkL l l
  | [] => trivial
  | v :: l => ⟨Wk.refl v, WkL.id l⟩
theorem WkL.app : ∀ {a a' b b' : List AV}, WkL a a' → WkL b b' → WkL (a ++ b) (a' ++ b')
  | [], [], _, _, _, h => h
  | _ :: _, _ :: _, _, _, h1, h => ⟨h1.1, WkL.app h1.2 h⟩
  | [], _ :: _, _, _, h1, _ => h1.elim
  | _ :: _, [], _, _, h1, _ => h1.elim
theorem wk_slL {tok : Option Nat} {n : Nat} {l l' : List AV} (h : WkL l l') : Wk (.sl tok n l) (.sl none n l') := fun g w c hr => by
  simp only [VRel] at hr ⊢
  obtain ⟨A, cap, h1, h2, h3, -⟩ := hr
  refine ⟨A, cap, h1, h2, ?_, fun t e => by cases e⟩
  rcases h3 with h3 | ⟨b, o, h3, h4⟩
  · subst h3
    cases l' with
    | nil => exact .inl rfl
    | cons v l' => exact h.elim
  · exact .inr ⟨b, o, h3, h.mrel h4⟩
theorem Wk.trans {a b c : AV} (h : Wk a b) (k : Wk b c) : Wk a c := fun g w x hx => k g w x (h g w x hx)
end Go.Vsi
