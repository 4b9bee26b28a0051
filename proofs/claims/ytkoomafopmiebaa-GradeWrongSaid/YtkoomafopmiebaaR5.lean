/- A text of the proof: R5. -/
import Derived.Test.YtkoomafopmiebaaR4
set_option linter.unusedSimpArgs false
set_option linter.unusedVariables false
namespace Go.Vsi

section
variable {P : Program} {N : Nat} {n0 : Nat} {T : TypeId → Option TI} {kn : TypeId → Nat}

theorem gd_congr {all : List Oper} {o : Oper} {e e' : Env} (h : ∀ s, get e s = get e' s) : gd all e' o = gd all e o := by
  unfold gd
  simp only [h]

theorem fop_congr {hp0 : Hp} {all : List Oper} {d : DOp} {e e' : Env} {hp hp' : Hp} (h : ∀ s, get e s = get e' s) (hf : FOp P N hp0 all d e hp hp') : FOp P N hp0 all d e' hp hp' := by
  have hag : ∀ ts env', Agree ts e' env' → Agree ts e env' := fun ts env' ha t ht => by rw [ha t ht, h]
  unfold FOp at hf ⊢
  rw [gd_congr h]
  cases hgd : gd all e d.o with
  | none => simp only [hgd] at hf
  | some b =>
    simp only [hgd] at hf ⊢
    cases b with
    | false => exact hf
    | true =>
      simp only at hf ⊢
      cases hk : d.k with
      | r => simp only [hk] at hf ⊢; exact ⟨fun env' ha => hf.1 env' (hag _ _ ha), hf.2⟩
      | m => simp only [hk] at hf ⊢; exact ⟨fun env' ha => hf.1 env' (hag _ _ ha), hf.2⟩
      | a B => simp only [hk] at hf ⊢; exact ⟨hf.1, hf.2.1, fun env' ha => hf.2.2.1 env' (hag _ _ ha), hf.2.2.2⟩
      | w => simp only [hk] at hf ⊢; exact ⟨hf.1, fun env' ha => hf.2 env' (hag _ _ ha)⟩

theorem df_congr {hp0 : Hp} {all : List Oper} {K : Env → Hp → Prop} (hK : ∀ e1 e2 hp, (∀ s, get e1 s = get e2 s) → K e1 hp → K e2 hp) : ∀ {ds : List DOp} {e e' : Env} {hp : Hp}, (∀ s, get e s = get e' s) → DF P N hp0 all ds e hp K → DF P N hp0 all ds e' hp K
  | [], e, e', hp, h, hd => hK e e' hp h hd
  | d :: ds, e, e', hp, h, ⟨hp', h1, h2⟩ => by
    refine ⟨hp', fop_congr h h1, df_congr hK (fun s => ?_) h2⟩
    rw [get_push, get_push, h]

theorem dr_congr {hp0 : Hp} {all rest : List Oper} {ks : List Nat} {K : Env → Hp → Prop} {e e' : Env} {hp : Hp} (hK : ∀ e1 e2 hp, (∀ s, get e1 s = get e2 s) → K e1 hp → K e2 hp) (h : ∀ s, get e s = get e' s) (hd : DR P N hp0 all rest ks e hp K) : DR P N hp0 all rest ks e' hp K := by
  obtain ⟨ds, h1, h2, h3⟩ := hd
  exact ⟨ds, h1, h2, df_congr hK h h3⟩

/-! ### an operation looks at its operands alone -/
def restrR (ts : List Nat) (top bot : RE) : RE := ts.filterMap fun t => (rget2 top bot t).map fun v => (t, v)
theorem restrR_get {top bot : RE} {t : Nat} : ∀ {ts : List Nat}, rgetO (restrR ts top bot) t = if t ∈ ts then rget2 top bot t else none
  | [] => by simp [restrR, rgetO]
  | s :: ts => by
    have ih := restrR_get (top := top) (bot := bot) (t := t) (ts := ts)
    unfold restrR at ih ⊢
    rw [List.filterMap_cons]
    by_cases hst : s = t
    · subst hst
      cases hv : rget2 top bot s with
      | none =>
        simp only [hv, Option.map_none]
        rw [ih]
        simp [hv]
      | some v => simp [rgetO, hv]
    · cases hv : rget2 top bot s with
      | none => simp only [hv, Option.map_none]; rw [ih]; simp [Ne.symm hst]
      | some v =>
        have hb : Nat.beq s t = false := by
          cases hb : Nat.beq s t
          · rfl
          · exact absurd (Nat.eq_of_beq_eq_true hb) hst
        simp only [hv, Option.map_some, rgetO, hb, ih, List.mem_cons, Ne.symm hst, false_or]

theorem restr_apx {g : G} {w : World} {a : Act} {ts : List Nat} {top bot : RE} {env' : Env} (ha : Agree ts (trE n0 (top ++ bot)) env') (hE : ERel N g w env' a) : ERel N g w (trE n0 (restrR ts top bot ++ [])) a := by
  refine ⟨hE.1, fun s => ?_⟩
  cases hv : rgetO (restrR ts top bot) s with
  | none =>
    rw [List.append_nil]
    have := rgetO_none (n0 := n0) hv []
    simp only [List.append_nil] at this
    rw [this]
    simp [get, VRel]
  | some v =>
    have h1 := rgetO_get (n0 := n0) hv []
    simp only [List.append_nil] at h1
    rw [List.append_nil, h1]
    rw [restrR_get] at hv
    split at hv
    · rename_i hs
      rw [← rget2_get hv, ← ha s hs]
      exact hE.2 s
    · cases hv

theorem restr_ev {ts : List Nat} {top bot : RE} {x : Operand} (hx : ∀ t, x = .tmp t → t ∈ ts) : evR (restrR ts top bot) [] x = evR top bot x := by
  cases x with
  | tmp t =>
    change (match rgetO (restrR ts top bot) t with
      | some v => some v
      | none => rgetO [] t) = rget2 top bot t
    rw [restrR_get, if_pos (hx t rfl)]
    cases rget2 top bot t <;> rfl
  | const c => rfl
  | func f => rfl
  | global g => rfl

theorem restr_op {top bot : RE} {op : Op} {x : Operand} (hx : x ∈ op.operands.toList) : evR (restrR (opTs op) top bot) [] x = evR top bot x :=
  restr_ev fun t ht => by
    subst ht
    unfold opTs
    exact List.mem_filterMap.2 ⟨_, hx, rfl⟩

theorem avL_congr {t1 b1 t2 b2 : RE} : ∀ {l : List Operand}, (∀ x ∈ l, evR t1 b1 x = evR t2 b2 x) → avL n0 t1 b1 l = avL n0 t2 b2 l
  | [], _ => rfl
  | x :: l, h => by simp only [avL, av]; rw [h x (by simp), avL_congr fun y hy => h y (by simp [hy])]
theorem avP_congr {t1 b1 t2 b2 : RE} : ∀ {l : List (Nat × Operand)}, (∀ p ∈ l, evR t1 b1 p.2 = evR t2 b2 p.2) → avP n0 t1 b1 l = avP n0 t2 b2 l
  | [], _ => rfl
  | (i, x) :: l, h => by simp only [avP, av]; rw [h (i, x) (by simp), avP_congr fun y hy => h y (by simp [hy])]

theorem avF_congr {t1 b1 t2 b2 : RE} {x : Operand} (h : evR t1 b1 x = evR t2 b2 x) : avF n0 t1 b1 x = avF n0 t2 b2 x := by unfold avF; rw [h]
theorem avLF_congr {t1 b1 t2 b2 : RE} : ∀ {l : List Operand}, (∀ x ∈ l, evR t1 b1 x = evR t2 b2 x) → avLF n0 t1 b1 l = avLF n0 t2 b2 l
  | [], _ => rfl
  | x :: l, h => by simp only [avLF]; rw [avF_congr (h x (by simp)), avLF_congr fun y hy => h y (by simp [hy])]
theorem avPF_congr {t1 b1 t2 b2 : RE} : ∀ {l : List (Nat × Operand)}, (∀ p ∈ l, evR t1 b1 p.2 = evR t2 b2 p.2) → avPF n0 t1 b1 l = avPF n0 t2 b2 l
  | [], _ => rfl
  | (i, x) :: l, h => by simp only [avPF]; rw [avF_congr (h (i, x) (by simp)), avPF_congr fun y hy => h y (by simp [hy])]

theorem stepS_restr {top bot : RE} {loc : Heap} {op : Op} : stepS kn T n0 (restrR (opTs op) top bot) [] loc op = stepS kn T n0 top bot loc op := by
  have ea : ∀ x, x ∈ op.operands.toList → evR (restrR (opTs op) top bot) [] x = evR top bot x := fun x hx => restr_op hx
  generalize restrR (opTs op) top bot = top' at ea ⊢
  have ea' : ∀ x, x ∈ op.operands.toList → av n0 top' [] x = av n0 top bot x := fun x hx => by unfold av; rw [ea x hx]
  unfold stepS
  split <;> try simp only [Op.operands, Call.operands] at ea ea'
  · rw [ea _ (by simp)]
  · rw [ea _ (by simp)]
  · rename_i op t x y u; rw [ea' x (by simp), ea' y (by simp)]
  · rw [ea' _ (by simp)]
  · rw [ea' _ (by simp)]
  · rw [ea' _ (by simp)]
  · rw [ea' _ (by simp)]
  · rw [ea _ (by simp)]
  · rw [ea' _ (by simp)]
  · rw [ea _ (by simp)]
  · rw [ea _ (by simp)]
  · rename_i t x y; rw [ea x (by simp), avF_congr (ea y (by simp))]
  · rfl
  · rw [avF_congr (ea _ (by simp))]
  · rename_i t ps
    rw [avPF_congr fun p hp => ea p.2 (by simp only [List.mem_map]; exact ⟨p, hp, rfl⟩)]
  · rename_i t n ps
    rw [avPF_congr fun p hp => ea p.2 (by simp only [List.mem_map]; exact ⟨p, hp, rfl⟩)]
  · rename_i t x y; rw [ea x (by simp), ea' y (by simp)]
  · rename_i fn fs cs
    rw [avLF_congr (l := fs) fun x hx => ea x (by simp; exact .inl hx), avLF_congr (l := cs) fun x hx => ea x (by simp; exact .inr hx)]
  · rename_i t x low high max
    have ho : ∀ q : Option Operand, (∀ y, q = some y → y ∈ (x :: (low.toList ++ (high.toList ++ max.toList)))) → avO n0 top' [] q = avO n0 top bot q := fun q hq => by
      cases q with
      | none => rfl
      | some y => simp only [avO]; rw [ea' y (by have := hq y rfl; simpa using this)]
    rw [ea' x (by simp), ho low (by intro y hy; simp [hy]), ho high (by intro y hy; simp [hy]), ho max (by intro y hy; simp [hy])]
  · rename_i t x y; rw [ea' x (by simp), ea' y (by simp)]
  · rename_i t x y; rw [ea' x (by simp), ea' y (by simp)]
  · rw [ea' _ (by simp)]
  · rename_i x y t u; rw [ea' x (by simp), ea' y (by simp)]
  · rename_i x y ts; rw [ea' x (by simp), ea' y (by simp)]
  · rename_i x y ts; rw [ea' x (by simp), ea' y (by simp)]
  · rename_i f xs ts
    rw [avLF_congr (l := xs) fun x hx => ea x (by simp; exact .inr hx), ea' f (by simp)]
  · rfl

theorem step_restr {hp hp' : Hp} {o : Oper} {v : AV} {top bot : RE} {env' : Env} (ha : Agree (opTs o.op) (trE n0 (top ++ bot)) env') (h : Step P N hp (trE n0 (restrR (opTs o.op) top bot ++ [])) o v hp') : Step P N hp env' o v hp' :=
  fun g w a hH hE => h g w a hH (restr_apx ha hE)

theorem wpSD_leaf {st : DM} {base loc0 : Heap} {k : Nat} {loc : Heap} {K : Nat → Option RG → Nat → Heap → Prop} : ∀ (s : SR), wpSD st P n0 base loc0 k loc K s → ∃ r, Res n0 base s r ∧ leaf r = true ∧ wpSD st P n0 base loc0 k loc K r
  | .fail, h => h.elim
  | .reg v, h => ⟨_, .refl _, rfl, h⟩
  | .mem v, h => ⟨_, .refl _, rfl, h⟩
  | .box t l, h => ⟨_, .refl _, rfl, h⟩
  | .upd j B v, h => ⟨_, .refl _, rfl, h⟩
  | .updB i B v, h => h.elim
  | .blk B v, h => ⟨_, .refl _, rfl, h⟩
  | .call f as, h => ⟨_, .refl _, rfl, h⟩
  | .side p s, h => by
    obtain ⟨r, h1, h2⟩ := wpSD_leaf s h.rest
    exact ⟨r, .side h.side h1, h2⟩
  | .ptr i kl kb, h => by
    cases h with
    | loc j h1 h2 =>
      obtain ⟨r, h3, h4⟩ := wpSD_leaf (kl j) h2
      exact ⟨r, .ptrL h1 h3, h4⟩
    | base B h1 h2 =>
      obtain ⟨r, h3, h4⟩ := wpSD_leaf (kb B) h2
      exact ⟨r, .ptrB h1 h3, h4⟩
  | .seg l o kk, h => by
    obtain ⟨l', h1, h2⟩ := h
    obtain ⟨r, h3, h4⟩ := wpSD_leaf (kk l') h2
    exact ⟨r, .seg h1 h3, h4⟩
  | .ofs i n kk, h => by
    obtain ⟨m, h1, h2, h3⟩ := h
    obtain ⟨r, h4, h5⟩ := wpSD_leaf (kk m) h3
    exact ⟨r, .ofs h1 h2 h4, h5⟩
  | .eqv x kk, h => by
    obtain ⟨y, h1, h2⟩ := h
    obtain ⟨r, h3, h4⟩ := wpSD_leaf (kk y) h2
    exact ⟨r, .eqv h1 h3, h4⟩
  | .sub l o n kk, h => by
    obtain ⟨y, h1, h2⟩ := h
    obtain ⟨r, h3, h4⟩ := wpSD_leaf (kk y) h2
    exact ⟨r, .sub h1 h3, h4⟩
  | .nat i kk, h => by
    obtain ⟨y, h1, h2⟩ := h
    obtain ⟨r, h3, h4⟩ := wpSD_leaf (kk y) h2
    exact ⟨r, .nat h1 h3, h4⟩
  | .byte s i kk, h => by
    obtain ⟨y, h1, h2⟩ := h
    obtain ⟨r, h3, h4⟩ := wpSD_leaf (kk y) h2
    exact ⟨r, .byte h1 h3, h4⟩
  | .or a b, h => by
    rcases h with h | h
    · obtain ⟨r, h3, h4⟩ := wpSD_leaf a h
      exact ⟨r, .orl h3, h4⟩
    · obtain ⟨r, h3, h4⟩ := wpSD_leaf b h
      exact ⟨r, .orr h3, h4⟩

theorem putN_reg {d : Option Nat} {v : RG} {top : RE} {K : RE → Prop} (h : putN N d (some v) top K) : ∃ d', d = some d' ∧ Nat.blt d' N = true ∧ K ((d', v) :: top) := by
  unfold putN at h
  split at h
  · simp only at h
    split at h
    · rename_i hb; exact ⟨_, rfl, hb, h⟩
    · exact h.elim
  · exact h.elim
theorem putN_none {d : Option Nat} {top : RE} {K : RE → Prop} (h : putN N d none top K) : d = none ∧ K top := by
  unfold putN at h
  split at h
  · exact h.elim
  · exact ⟨rfl, h⟩

/-- the memory is that ahead of the region, and more -/
def Tame (loc0 : Heap) (k0 : Nat) (loc : Heap) (k : Nat) : Prop := ∃ X : Heap, loc = loc0 ++ X ∧ k = k0 + X.length
theorem Tame.snoc {loc0 loc loc' : Heap} {k0 k : Nat} {B : Blk} (h : Tame loc0 k0 loc k) (hl : snocC loc B = some loc') : Tame loc0 k0 loc' (k + 1) := by
  obtain ⟨X, rfl, rfl⟩ := h
  exact ⟨X ++ [B], by rw [snocC_eq _ _ _ hl, List.append_assoc], by simp; omega⟩
theorem Tame.set {loc0 loc loc' : Heap} {k0 k j : Nat} {B : Blk} (h : Tame loc0 k0 loc k) (hj : Nat.blt j loc0.length = false) (hl : lset loc j B = some loc') : Tame loc0 k0 loc' k := by
  obtain ⟨X, rfl, rfl⟩ := h
  have hj' : loc0.length ≤ j := by
    rcases Nat.lt_or_ge j loc0.length with h | h
    · have : Nat.blt j loc0.length = true := Nat.ble_eq_true_of_le h
      rw [this] at hj
      cases hj
    · exact h
  refine ⟨X.set (j - loc0.length) B, ?_, by simp⟩
  rw [(lset_eq _ _ _ _ hl).1, List.set_append_right _ _ hj']

/-- one operation of a drawn region -/
theorem dr_R (he : Env0 P T kn) {st : DM} {base loc0 : Heap} {k0 k : Nat} {loc locS : Heap} (hn : base.length = n0) {all rest : List Oper} {o : Oper} {top bot : RE} {K' : Env → Hp → Prop} {K : Nat → RE → Nat → Heap → Prop}
    (hg : gd all (trE n0 (top ++ bot)) o = some true) (hS : locS = match st with
      | .pure => loc0
      | .store => loc
      | .app => loc)
    (h : wpSD st P n0 base loc0 k loc (fun c v k loc => putN N o.dst v top fun top => K c top k loc) (stepS kn T n0 top bot locS o.op))
    : ∃ c top' k' loc', K c top' k' loc' ∧ (c ≠ 3 → Tame loc0 k0 loc k → Tame loc0 k0 loc' k') ∧ ∀ ks, (c = 4 → Tame loc0 k0 loc k) → DR P N ⟨base, k0, loc0⟩ all rest ks (trE n0 (top' ++ bot)) ⟨base, k', loc'⟩ K' → DR P N ⟨base, k0, loc0⟩ all (o :: rest) (c :: ks) (trE n0 (top ++ bot)) ⟨base, k, loc⟩ K' := by
  obtain ⟨r, h1, h2, h3⟩ := wpSD_leaf _ h
  have h1' := h1
  rw [← stepS_restr] at h1'
  cases r with
  | reg v =>
    simp only [wpSD] at h3
    obtain ⟨d, hd, hb, hk⟩ := putN_reg h3
    have hlf := step_leaf (N := N) (k := k) he hn rfl h1' h2
    exact ⟨_, _, _, _, hk, fun _ h => h, fun ks _ hdr => dr_r (fun env' ha hp => step_restr ha (hlf hp)) hg hd hdr⟩
  | mem v =>
    simp only [wpSD] at h3
    cases st with
    | store => exact h3.elim
    | app => exact h3.elim
    | pure =>
    simp only at hS
    subst hS
    obtain ⟨d, hd, hb, hk⟩ := putN_reg h3
    have hlf := step_leaf (N := N) (k := k0) he hn rfl h1' h2
    exact ⟨_, _, _, _, hk, fun _ h => h, fun ks _ hdr => dr_m (fun env' ha X => xok_of_step (step_restr ha (hlf X))) hg hd hdr⟩
  | box t l =>
    simp only [wpSD] at h3
    split at h3
    · rename_i loc' hl
      obtain ⟨d, hd, hb, hk⟩ := putN_reg h3
      have hlf := step_leaf (N := N) (k := k) he hn rfl h1' h2
      refine ⟨_, _, _, _, hk, fun _ h => h.snoc hl, fun ks _ hdr => dr_a (B := .box t l) (fun env' ha g w a hE => hlf g w a (restr_apx ha hE)) hl hg hd ?_⟩
      rw [hn]; exact hdr
    · exact h3.elim
  | upd j B v =>
    simp only [wpSD] at h3
    cases st with
    | pure => exact h3.elim
    | app =>
      simp only at hS h3
      subst hS
      cases v with
      | none => exact h3.elim
      | some v =>
      simp only at h3
      split at h3
      · exact h3.elim
      · rename_i hj
        split at h3
        · rename_i loc' hl
          obtain ⟨d, hd, hb, hk⟩ := putN_reg h3
          have hlf := step_leaf (N := N) (k := k) he hn rfl h1' h2
          refine ⟨_, _, _, _, hk, fun _ h => h.set hj hl, fun ks ht hdr => ?_⟩
          refine dr_x (hp' := ⟨base, k, loc'⟩) (fun env' ha => step_restr ha (hlf loc' hl)) ?_ hg hd hdr
          obtain ⟨X, q1, q2⟩ := (ht rfl).set hj hl
          exact ⟨X, by rw [q1, q2]⟩
        · exact h3.elim
    | store =>
    simp only at hS h3
    subst hS
    cases v with
    | some v => exact h3.elim
    | none =>
    simp only at h3
    split at h3
    · rename_i loc' hl
      obtain ⟨hd, hk⟩ := putN_none h3
      have hlf := step_leaf (N := N) (k := k) he hn rfl h1' h2
      exact ⟨_, _, _, _, hk, fun h => absurd rfl h, fun ks _ hdr => dr_w (hp' := ⟨base, k, loc'⟩) (fun env' ha g w a hH hE => hlf loc' hl g w a hH (restr_apx ha hE)) hg hd hdr⟩
    · exact h3.elim
  | updB i B v => exact h3.elim
  | blk B v =>
    simp only [wpSD] at h3
    cases st with
    | pure => exact h3.elim
    | store => exact h3.elim
    | app =>
    simp only at hS h3
    subst hS
    split at h3
    · rename_i loc' hl
      obtain ⟨d, hd, hb, hk⟩ := putN_reg h3
      have hlf := step_leaf (N := N) (k := k) he hn rfl h1' h2
      refine ⟨_, _, _, _, hk, fun _ h => h.snoc hl, fun ks ht hdr => ?_⟩
      refine dr_x (hp' := ⟨base, k + 1, loc'⟩) (fun env' ha => ?_) ?_ hg hd hdr
      · rw [snocC_eq _ _ _ hl]
        exact step_restr ha hlf
      · obtain ⟨X, q1, q2⟩ := (ht rfl).snoc hl
        exact ⟨X, by rw [q1, q2]⟩
    · exact h3.elim
  | call F as =>
    simp only [wpSD] at h3
    obtain ⟨v, hc, hk⟩ := h3
    cases st with
    | store => exact hk.elim
    | app => exact hk.elim
    | pure =>
    obtain ⟨d, hd, hb, hk⟩ := putN_reg hk
    have hlf := step_leaf (N := N) (k := k) he hn rfl h1' h2
    obtain ⟨f, xs, ts, fs, cs, ws, ho, hf, has, hw⟩ := hlf
    refine ⟨_, _, _, _, hk, fun _ h => h, fun ks _ hdr => dr_m (fun env' ha X => ?_) hg hd hdr⟩
    intro g w a hH hE K Qc kk
    have hE' := restr_apx ha hE
    have hall : (⟨base, k0 + X.length, loc0 ++ X⟩ : Hp).all = base ++ loc0 ++ X := by simp [Hp.all]
    obtain ⟨⟨fn, h1, h2, h3⟩, hcall⟩ := hc X
    have hr := ev_rel hE' f
    rw [hf] at hr
    simp only [VRel] at hr
    obtain ⟨f', c', hfv, hfs, hcs⟩ := hr
    have hargs := ((hfs.append (hw g w a hE')).append hcs)
    rw [has] at hargs
    have hrun : (execOp a.eval o).run P w = .ok (.enter F ((f' ++ (xs.map a.eval).toArray) ++ c')) w := by
      have h2' : fn.name ≠ "runtime.NumGoroutine" := by simpa using h2
      have h3' : fn.body ≠ none := by intro h0; simp [h0] at h3
      simp [execOp, ho, resolve, hfv, Deferred.ofValue, invoke, callFunc, h1, h2', h3']
    unfold Oper.wp
    rw [hrun, Oper.upon_enter]
    have hof := hH.of
    rw [hall] at hof
    refine (hcall g w ((f' ++ (xs.map a.eval).toArray) ++ c') hof (by simpa using hargs)).mono ?_
    rintro e w' ⟨r, H', g', c, rfl, ⟨rfl, rfl⟩, hH', hv, hx'⟩
    simp only
    exact kk g' w' c (hH'.see (hp := ⟨base, k0, loc0⟩) ⟨hall, hH.k⟩) hv hx'
  | fail => cases h2
  | side _ _ => cases h2
  | ptr _ _ _ => cases h2
  | seg _ _ _ => cases h2
  | ofs _ _ _ => cases h2
  | eqv _ _ => cases h2
  | sub _ _ _ _ => cases h2
  | nat _ _ => cases h2
  | byte _ _ _ => cases h2
  | or _ _ => cases h2

def KD (n0 : Nat) (base : Heap) (bot : RE) (K : RE → Nat → Heap → Prop) : Env → Hp → Prop := fun env hp => ∃ top k loc, Apx n0 env (top ++ bot) ∧ hp = ⟨base, k, loc⟩ ∧ K top k loc
theorem KD.congr {base : Heap} {bot : RE} {K : RE → Nat → Heap → Prop} (e1 e2 : Env) (hp : Hp) (h : ∀ s, get e1 s = get e2 s) (hk : KD n0 base bot K e1 hp) : KD n0 base bot K e2 hp := by
  obtain ⟨top, k, loc, h1, h2, h3⟩ := hk
  exact ⟨top, k, loc, fun s => by rw [← h]; exact h1 s, h2, h3⟩

theorem pick_agree {env env' : Env} {o : Oper} {c x y : Operand} {b : Bool} {hp : Hp} (ho : o.op = .pick c x y) (ha : Agree (opTs o.op) env env') (hc : ev env c = .bool b) : Step P N hp env' o (ev env (if b then x else y)) hp := by
  have e1 : ev env' c = ev env c := ev_agree_op ha (by rw [ho]; simp [Op.operands])
  have e2 : ev env' (if b then x else y) = ev env (if b then x else y) := ev_agree_op ha (by rw [ho]; cases b <;> simp [Op.operands])
  rw [← e2]
  exact pick_step ho (by rw [e1]; exact hc)

theorem wpD_sound (he : Env0 P T kn) {bot : RE} {all : List Oper} {base loc0 : Heap} {k0 : Nat} (hn : base.length = n0) {K : RE → Nat → Heap → Prop} :
    ∀ (rest : List Oper) (ks : List Nat) (top : RE) (k : Nat) (loc : Heap), (3 ∉ ks → Tame loc0 k0 loc k) → wpD P kn T N n0 bot all base loc0 rest K ks top k loc →
      ∃ ks', (drawOk all (closOf all) (ks.reverse ++ ks') && dstOk N all) = true ∧ DR P N ⟨base, k0, loc0⟩ all rest ks' (trE n0 (top ++ bot)) ⟨base, k, loc⟩ (KD n0 base bot K)
  | [], ks, top, k, loc, _, h => ⟨[], by rw [List.append_nil]; exact h.side, dr_nil ⟨top, k, loc, Apx.refl _ _, rfl, h.rest⟩⟩
  | o :: rest, ks, top, k, loc, htm, h => by
    have ih := wpD_sound he (bot := bot) (all := all) (loc0 := loc0) (k0 := k0) (K := K) hn rest
    have h : guardN bot all o top
      (opD P kn T N n0 bot o base loc0 k loc (fun c top k loc => wpD P kn T N n0 bot all base loc0 rest K (c :: ks) top k loc))
      (fun top => skipN N o.dst top fun top => wpD P kn T N n0 bot all base loc0 rest K (0 :: ks) top k loc) := h
    obtain ⟨top', he', h1⟩ := guard_cases (n0 := n0) h
    suffices hs : ∃ ks', (drawOk all (closOf all) (ks.reverse ++ ks') && dstOk N all) = true ∧ DR P N ⟨base, k0, loc0⟩ all (o :: rest) ks' (trE n0 (top' ++ bot)) ⟨base, k, loc⟩ (KD n0 base bot K) by
      obtain ⟨ks', e1, e2⟩ := hs
      exact ⟨ks', e1, dr_congr KD.congr (fun s => (he' s).symm) e2⟩
    have hks : ∀ (c : Nat) (ks' : List Nat), (c :: ks).reverse ++ ks' = ks.reverse ++ (c :: ks') := by simp
    rcases h1 with ⟨hg, hx⟩ | ⟨hg, hx⟩
    · have fin : ∀ (st : DM) (locS : Heap), (locS = match st with
          | .pure => loc0
          | .store => loc
          | .app => loc) → wpSD st P n0 base loc0 k loc (fun c v k loc => putN N o.dst v top' fun top => wpD P kn T N n0 bot all base loc0 rest K (c :: ks) top k loc) (stepS kn T n0 top' bot locS o.op) →
          ∃ ks', (drawOk all (closOf all) (ks.reverse ++ ks') && dstOk N all) = true ∧ DR P N ⟨base, k0, loc0⟩ all (o :: rest) ks' (trE n0 (top' ++ bot)) ⟨base, k, loc⟩ (KD n0 base bot K) := by
        intro st locS hS hw
        obtain ⟨c, top2, k2, loc2, hk, htm2, hdr⟩ := dr_R (k0 := k0) (rest := rest) (K' := KD n0 base bot K) he hn hg hS hw
        obtain ⟨ks', e1, e2⟩ := ih _ _ _ _ (fun h3 => by
          rw [List.mem_cons, not_or] at h3
          exact htm2 (fun e => h3.1 e.symm) (htm h3.2)) hk
        rw [hks] at e1
        refine ⟨c :: ks', e1, hdr ks' (fun hc => htm fun h3 => ?_) e2⟩
        subst hc
        rw [Bool.and_eq_true] at e1
        exact drawOk_tame e1.1 (List.mem_reverse.2 h3)
      unfold opD at hx
      split at hx
      · rename_i c x y ho
        obtain ⟨b, hc, hp⟩ := pick_cases hx
        obtain ⟨d, v, hd, hv, hb, hk⟩ := putS_some hp
        obtain ⟨ks', e1, e2⟩ := ih _ _ _ _ (fun h3 => htm (fun h => h3 (List.mem_cons_of_mem _ h))) hk
        refine ⟨0 :: ks', by rw [← hks]; exact e1, dr_r (v := tr n0 v) (fun env' ha hp => ?_) hg hd e2⟩
        have := pick_agree (P := P) (N := N) (hp := hp) ho ha hc
        rwa [evR_ev hv] at this
      · split at hx
        · exact fin .store _ rfl hx
        · exact fin .app _ rfl hx
        · exact fin .pure _ rfl hx
    · unfold skipN at hx
      split at hx
      · rename_i d hd
        split at hx
        · rename_i hb
          obtain ⟨ks', e1, e2⟩ := ih _ _ _ _ (fun h3 => htm (fun h => h3 (List.mem_cons_of_mem _ h))) hx
          exact ⟨0 :: ks', by rw [← hks]; exact e1, dr_skipped hg hd e2⟩
        · exact hx.elim
      · rename_i hd
        obtain ⟨ks', e1, e2⟩ := ih _ _ _ _ (fun h3 => htm (fun h => h3 (List.mem_cons_of_mem _ h))) hx
        refine ⟨0 :: ks', by rw [← hks]; exact e1, ?_⟩
        refine dr_cons (v := .tup []) (k := .r) (hp' := ⟨base, k, loc⟩) rfl ?_ (by rw [push_none hd]; exact e2)
        unfold FOp
        simp only [hg]
        exact ⟨⟨trivial, trivial⟩, trivial⟩
end
end Go.Vsi
