/- A text of the proof: R3. -/
import Derived.Test.YtkoomafopmiebaaR2
set_option linter.unusedSimpArgs false
set_option linter.unusedVariables false
namespace Go.Vsi

section
variable {P : Program} {N : Nat} {n0 : Nat} {base : Heap} {k : Nat} {loc : Heap} {top bot : RE} {o : Oper} {T : TypeId → Option TI} {kn : TypeId → Nat} {r : SR}

structure Env0 (P : Program) (T : TypeId → Option TI) (kn : TypeId → Nat) : Prop where
  T : TOk P T
  fk : ∀ t n, kn t = n + 1 → fieldsKnown P t = true
  eq : ∀ t n, kn t = n + 2 → P.stoodInHeld t = false ∧ P.eqGuardType P.depth t = false

theorem step_leaf (he : Env0 P T kn) (hn : base.length = n0) {op : Op} (ho : o.op = op) (h : Res n0 base (stepS kn T n0 top bot loc op) r) (hl : leaf r = true) : LeafOk P N n0 base k loc (trE n0 (top ++ bot)) o r := by
  unfold stepS at h
  split at h
  · exact leaf_move (.inl ho) h hl
  · exact leaf_move (.inr ho) h hl
  · exact leaf_bin he.T he.eq ho h hl
  · exact leaf_not ho h hl
  · exact leaf_neg ho h hl
  · rename_i s t x
    refine ofI_step h hl fun v hv hp => ?_
    generalize hx : av n0 top bot x = vx at hv
    refine stepV_sound he.T ho ?_
    simp only [stepV]
    rw [av_ev hx (by rintro rfl; cases hv)]
    exact hv
  · exact leaf_extract ho h hl
  · exact leaf_field he.T ho h hl
  · exact leaf_fieldPart he.T ho h hl
  · exact leaf_nil ho h hl
  · exact leaf_load he.T hn ho h hl
  · exact leaf_store he.T hn ho h hl
  · exact leaf_alloc he.T ho h hl
  · obtain ⟨a, ha, h⟩ := res_withV h hl
    rw [← avF_av ha] at h
    exact leaf_box ho h hl
  · obtain ⟨a, ha, h⟩ := res_withL h hl
    rw [← avPF_eq ha] at h
    exact leaf_build he.T he.fk ho h hl
  · obtain ⟨a, ha, h⟩ := res_withL h hl
    rw [← avPF_eq ha] at h
    exact leaf_buildSlice he.T ho h hl
  · exact leaf_index he.T ho h hl
  · obtain ⟨a, ha, h⟩ := res_withL h hl
    obtain ⟨b, hb, h⟩ := res_withL h hl
    rw [← avLF_eq ha, ← avLF_eq hb] at h
    exact leaf_func ho h
  · exact leaf_slice he.T ho h hl
  · exact leaf_indexV he.T ho h hl
  · exact leaf_make he.T hn ho h hl
  · exact leaf_len he.T ho h hl
  · split at h
    · rename_i hb
      have hb := Nat.eq_of_beq_eq_true hb
      subst hb
      exact leaf_append he.T hn ho h hl
    · exact (res_fail h hl).elim
  · rename_i x y ts
    refine ofV_step h hl fun v hv hp => ?_
    generalize hx : av n0 top bot x = vx at hv
    generalize hy : av n0 top bot y = vy at hv
    refine stepV_sound he.T ho ?_
    simp only [stepV]
    rw [av_ev hx (by rintro rfl; cases hv), av_ev hy (by rintro rfl; cases vx <;> cases hv)]
    exact hv
  · rename_i x y ts
    refine ofV_step h hl fun v hv hp => ?_
    generalize hx : av n0 top bot x = vx at hv
    generalize hy : av n0 top bot y = vy at hv
    refine stepV_sound he.T ho ?_
    simp only [stepV]
    rw [av_ev hx (by rintro rfl; cases hv), av_ev hy (by rintro rfl; cases vx <;> cases hv)]
    exact hv
  · rename_i f xs ts
    obtain ⟨a, ha, h⟩ := res_withL h hl
    rw [← avLF_eq ha] at h
    obtain ⟨F, as, rfl, fs, cs, h1, h2⟩ := leaf_call h hl
    exact ⟨f, xs, ts, fs, cs, _, ho, h1, h2, fun g w a hE => avL_rel hE xs⟩
  · exact (res_fail h hl).elim

/-! ### the nodes of a walk -/
structure IfN (b : Bool) (A B : Prop) : Prop where
  t : b = true → A
  f : b = false → B
theorem IfN.tt {b : Bool} {A B : Prop} (h : b = true) (a : A) : IfN b A B := ⟨fun _ => a, fun e => by rw [h] at e; cases e⟩
theorem IfN.ff {b : Bool} {A B : Prop} (h : b = false) (a : B) : IfN b A B := ⟨(fun e => by rw [h] at e; cases e), fun _ => a⟩
structure SideN (p A : Prop) : Prop where
  side : p
  rest : A
inductive PtrN (n0 : Nat) (base : Heap) (i : Nat) (kl : Nat → Prop) (kb : Blk → Prop) : Prop where
  | loc (j : Nat) (h : i = n0 + j) (a : kl j)
  | base (B : Blk) (h : base[i]? = some B) (a : kb B)
inductive SegN (l : List AV) (o : Nat) (k : List AV → Prop) : Prop where
  | mk (l' : List AV) (h : Seg l o l') (a : k l')
inductive SubN (l : List AV) (o n : Nat) (k : List AV → Prop) : Prop where
  | mk (l' : List AV) (h : SubL l o n l') (a : k l')
inductive NatN (i : Int) (k : Nat → Prop) : Prop where
  | mk (m : Nat) (h : i = (m : Int)) (a : k m)
inductive ByteN (s : ByteArray) (i : Int) (k : UInt8 → Prop) : Prop where
  | mk (b : UInt8) (h : s[i.toNat]? = some b) (a : k b)
inductive OrN (A B : Prop) : Prop where
  | l (a : A)
  | r (b : B)
inductive OfsN (i : Int) (n : Nat) (k : Nat → Prop) : Prop where
  | mk (m : Nat) (h : i = (m : Int)) (hm : m < n) (a : k m)
inductive EqN (x : Int) (k : Int → Prop) : Prop where
  | mk (y : Int) (h : x = y) (a : k y)
theorem IfN.not {b : Bool} {A B : Prop} (h : IfN b B A) : IfN (!b) A B := ⟨(fun e => h.f (by simpa using e)), fun e => h.t (by simpa using e)⟩
theorem IfN.dec {p : Prop} [Decidable p] {A B : Prop} (h1 : p → A) (h2 : ¬p → B) : IfN (decide p) A B := ⟨(fun e => h1 (by simpa using e)), fun e => h2 (by simpa using e)⟩
theorem IfN.dT {p : Prop} [Decidable p] {A B : Prop} (h : p) (a : A) : IfN (decide p) A B := .tt (by simpa using h) a
theorem IfN.dF {p : Prop} [Decidable p] {A B : Prop} (h : ¬p) (a : B) : IfN (decide p) A B := .ff (by simpa using h) a
theorem IfN.eq {a b : Int} {A B : Prop} (h1 : a = b → A) (h2 : a ≠ b → B) : IfN (a == b) A B := ⟨(fun e => h1 (by simpa using e)), fun e => h2 (by simpa using e)⟩
theorem IfN.eqT {a b : Int} {A B : Prop} (h : a = b) (k : A) : IfN (a == b) A B := .tt (by simpa using h) k
theorem IfN.eqF {a b : Int} {A B : Prop} (h : a ≠ b) (k : B) : IfN (a == b) A B := .ff (by simpa using h) k
theorem IfN.ne {a b : Int} {A B : Prop} (h1 : a ≠ b → A) (h2 : a = b → B) : IfN (a != b) A B := ⟨(fun e => h1 (by simpa using e)), fun e => h2 (by simpa using e)⟩
theorem IfN.neT {a b : Int} {A B : Prop} (h : a ≠ b) (k : A) : IfN (a != b) A B := .tt (by simpa using h) k
theorem IfN.neF {a b : Int} {A B : Prop} (h : a = b) (k : B) : IfN (a != b) A B := .ff (by simpa using h) k
inductive CallN (P : Program) (F : FuncId) (as : List AV) (n0 : Nat) (base : Heap) (k : Nat) (loc : Heap) (K : AV → Heap → Nat → Heap → Prop) : Prop where
  | det (v : AV) (h : VDet P F as (base ++ loc) v) (a : K v base k loc)
  | pure (R : AV → Prop) (h : VPure P F as (base ++ loc) R) (a : ∀ r, R r → K r base k loc)
  | gen (R : AV → Heap → Prop) (h : VCall P F as (base ++ loc) R)
      (a : ∀ r H', R r H' → ∃ base' k' loc', base' ++ loc' = H' ∧ loc'.length = k' ∧ base'.length = n0 ∧ K r base' k' loc')

def wpS (P : Program) (n0 : Nat) (base : Heap) (k : Nat) (loc : Heap) (K : Option RG → Heap → Nat → Heap → Prop) (s : SR) : Prop :=
  @SR.rec (fun _ => Prop) False
    (fun v => K (some v) base k loc)
    (fun v => K (some v) base k loc)
    (fun t l => match snocC loc (.box t l) with
      | some loc' => K (some (.lp k 0)) base (k + 1) loc'
      | none => False)
    (fun j B v => match lset loc j B with
      | some loc' => K v base k loc'
      | none => False)
    (fun i B v => K v (base.set i B) k loc)
    (fun B v => match snocC loc B with
      | some loc' => K (some (v k)) base (k + 1) loc'
      | none => False)
    (fun p _ ih => SideN p ih)
    (fun i _ _ ihl ihb => PtrN n0 base i ihl ihb)
    (fun l o _ ih => SegN l o ih)
    (fun i n _ ih => OfsN i n ih)
    (fun x _ ih => EqN x ih)
    (fun l o n _ ih => SubN l o n ih)
    (fun i _ ih => NatN i ih)
    (fun s i _ ih => ByteN s i ih)
    (fun _ _ iha ihb => OrN iha ihb)
    (fun f as => CallN P f as n0 base k loc (fun r => K (some (.v r)))) s

theorem wpS_leaf {K : Option RG → Heap → Nat → Heap → Prop} : ∀ (s : SR), wpS P n0 base k loc K s → ∃ r, Res n0 base s r ∧ leaf r = true ∧ wpS P n0 base k loc K r
  | .fail, h => h.elim
  | .reg v, h => ⟨_, .refl _, rfl, h⟩
  | .mem v, h => ⟨_, .refl _, rfl, h⟩
  | .box t l, h => ⟨_, .refl _, rfl, h⟩
  | .upd j B v, h => ⟨_, .refl _, rfl, h⟩
  | .updB i B v, h => ⟨_, .refl _, rfl, h⟩
  | .blk B v, h => ⟨_, .refl _, rfl, h⟩
  | .call f as, h => ⟨_, .refl _, rfl, h⟩
  | .side p s, h => by
    obtain ⟨r, h1, h2⟩ := wpS_leaf s h.rest
    exact ⟨r, .side h.side h1, h2⟩
  | .ptr i kl kb, h => by
    cases h with
    | loc j h1 h2 =>
      obtain ⟨r, h3, h4⟩ := wpS_leaf (kl j) h2
      exact ⟨r, .ptrL h1 h3, h4⟩
    | base B h1 h2 =>
      obtain ⟨r, h3, h4⟩ := wpS_leaf (kb B) h2
      exact ⟨r, .ptrB h1 h3, h4⟩
  | .seg l o kk, h => by
    obtain ⟨l', h1, h2⟩ := h
    obtain ⟨r, h3, h4⟩ := wpS_leaf (kk l') h2
    exact ⟨r, .seg h1 h3, h4⟩
  | .ofs i n kk, h => by
    obtain ⟨m, h1, h2, h3⟩ := h
    obtain ⟨r, h4, h5⟩ := wpS_leaf (kk m) h3
    exact ⟨r, .ofs h1 h2 h4, h5⟩
  | .eqv x kk, h => by
    obtain ⟨y, h1, h2⟩ := h
    obtain ⟨r, h3, h4⟩ := wpS_leaf (kk y) h2
    exact ⟨r, .eqv h1 h3, h4⟩
  | .sub l o n kk, h => by
    obtain ⟨y, h1, h2⟩ := h
    obtain ⟨r, h3, h4⟩ := wpS_leaf (kk y) h2
    exact ⟨r, .sub h1 h3, h4⟩
  | .nat i kk, h => by
    obtain ⟨y, h1, h2⟩ := h
    obtain ⟨r, h3, h4⟩ := wpS_leaf (kk y) h2
    exact ⟨r, .nat h1 h3, h4⟩
  | .byte s i kk, h => by
    obtain ⟨y, h1, h2⟩ := h
    obtain ⟨r, h3, h4⟩ := wpS_leaf (kk y) h2
    exact ⟨r, .byte h1 h3, h4⟩
  | .or a b, h => by
    rcases h with h | h
    · obtain ⟨r, h3, h4⟩ := wpS_leaf a h
      exact ⟨r, .orl h3, h4⟩
    · obtain ⟨r, h3, h4⟩ := wpS_leaf b h
      exact ⟨r, .orr h3, h4⟩

def putN (N : Nat) (d : Option Nat) (v : Option RG) (top : RE) (K : RE → Prop) : Prop := match d with
  | some d => match v with
    | some v => match Nat.blt d N with
      | true => K ((d, v) :: top)
      | false => False
    | none => False
  | none => match v with
    | none => K top
    | some _ => False

theorem vcall_conv {f : Operand} {F : FuncId} {xs : List Operand} {ts : Array TypeId} {fs cs ws as : List AV} {d : Nat} {env : Env} {hp : Hp} {all rest : List Oper} {Q : Env → Hp → Prop} {R : AV → Heap → Prop} (ho : o.op = .call { callee := .value f, args := xs.toArray, argTypes := ts }) (hg : gd all env o = some true) (hd : o.dst = some d) (hN : Nat.blt d N = true)
    (hf : ev env f = .clo (.func F) fs cs) (hw : ∀ g w a, ERel N g w env a → LRel g w ws (xs.map a.eval)) (has : (fs ++ ws) ++ cs = as)
    (hc : VCall P F as hp.all R) (h : ∀ r H', R r H' → ∃ hp', (∀ g w, HRel g w hp → Sees hp H' hp') ∧ VO P N all rest Q ((d, r) :: env) hp') : VO P N all (o :: rest) Q env hp := by
  intro g0 w0 g w a Qc hH hE hx k
  unfold wpList
  rw [if_pos (gd_wanted hE hg)]
  refine .inl ?_
  obtain ⟨⟨fn, h1, h2, h3⟩, hcall⟩ := hc
  have hr := ev_rel hE f
  rw [hf] at hr
  simp only [VRel] at hr
  obtain ⟨f', c', hfv, hfs, hcs⟩ := hr
  have hargs := ((hfs.append (hw g w a hE)).append hcs)
  rw [has] at hargs
  unfold Oper.wp
  have hrun : (execOp a.eval o).run P w = .ok (.enter F ((f' ++ (xs.map a.eval).toArray) ++ c')) w := by
    have h2' : fn.name ≠ "runtime.NumGoroutine" := by simpa using h2
    have h3' : fn.body ≠ none := by intro h0; simp [h0] at h3
    simp [execOp, ho, resolve, hfv, Deferred.ofValue, invoke, callFunc, h1, h2', h3']
  rw [hrun, Oper.upon_enter]
  refine (hcall g w _ hH.of (by simpa using hargs)).mono ?_
  rintro e w' ⟨r, H', g', c, rfl, hR, hH', hv, hx'⟩
  obtain ⟨hp', hs, hvo⟩ := h r H' hR
  simp only
  rw [hd]
  exact hvo g0 w0 g' w' _ Qc (hH'.see (hs g w hH)) ((hE.ext hx').put hN hv) (hx.trans hx') (fun e1 h1 g1 a1 w1 q1 q2 q3 q4 q5 => k e1 h1 g1 a1 w1 q1 q2 q3 q4 (by rw [q5]; rfl))

theorem step_of_aok {t : TypeId} {l : List AV} {env : Env} (h : AOk P N (.box t l) env o) : Step P N ⟨base, k, loc⟩ env o (.ptr (base.length + k) 0) ⟨base, k + 1, loc ++ [.box t l]⟩ := by
  intro g w a hH hE
  obtain ⟨t', l', cs, h1, h2, h3⟩ := h g w a hE
  cases h1
  obtain ⟨g', e1, e2, e3, e4⟩ := hH.newBox (t := t) (l := l) (cs := cs) h2
  refine ⟨_, g', _, h3, e3, ?_, e4⟩
  simp only [VRel]
  have hn := hH.n
  simp only at hn
  exact ⟨by rw [← hn]; exact e1, by rw [← hn, e2]⟩

/-- one operation of a plain region -/
theorem vo_R (he : Env0 P T kn) (hn : base.length = n0) {all rest : List Oper} {Q : Env → Hp → Prop} {K : RE → Heap → Nat → Heap → Prop}
    (hg : gd all (trE n0 (top ++ bot)) o = some true)
    (h : wpS P n0 base k loc (fun v base k loc => putN N o.dst v top fun top => K top base k loc) (stepS kn T n0 top bot loc o.op))
    (hK : ∀ top base k loc, base.length = n0 → K top base k loc → VO P N all rest Q (trE n0 (top ++ bot)) ⟨base, k, loc⟩) :
    VO P N all (o :: rest) Q (trE n0 (top ++ bot)) ⟨base, k, loc⟩ := by
  obtain ⟨r, h1, h2, h3⟩ := wpS_leaf _ h
  have hlf := step_leaf (N := N) (k := k) (loc := loc) he hn rfl h1 h2
  have puts : ∀ {v : RG} {base' k' loc'}, putN N o.dst (some v) top (fun top => K top base' k' loc') → ∃ d, o.dst = some d ∧ Nat.blt d N = true ∧ K ((d, v) :: top) base' k' loc' := by
    intro v base' k' loc' hp
    unfold putN at hp
    split at hp
    · rename_i d hd
      simp only at hp
      split at hp
      · rename_i hb; exact ⟨d, hd, hb, hp⟩
      · exact hp.elim
    · exact hp.elim
  have putU : ∀ {base' k' loc'}, putN N o.dst none top (fun top => K top base' k' loc') → o.dst = none ∧ K top base' k' loc' := by
    intro base' k' loc' hp
    unfold putN at hp
    split at hp
    · exact hp.elim
    · rename_i hd; exact ⟨hd, hp⟩
  cases r with
  | reg v =>
    obtain ⟨d, hd, hb, hk⟩ := puts h3
    exact vo_step (hlf ⟨base, k, loc⟩) hg hd hb (hK ((d, v) :: top) _ _ _ hn hk)
  | mem v =>
    obtain ⟨d, hd, hb, hk⟩ := puts h3
    have hs := hlf []
    simp only [List.length_nil, Nat.add_zero, List.append_nil] at hs
    exact vo_step hs hg hd hb (hK ((d, v) :: top) _ _ _ hn hk)
  | box t l =>
    simp only [wpS] at h3
    split at h3
    · rename_i loc' hl
      obtain ⟨d, hd, hb, hk⟩ := puts h3
      have hs := step_of_aok (base := base) (k := k) (loc := loc) hlf
      rw [← snocC_eq _ _ _ hl, hn] at hs
      exact vo_step hs hg hd hb (hK ((d, _) :: top) _ _ _ hn hk)
    · exact h3.elim
  | upd j B v =>
    simp only [wpS] at h3
    split at h3
    · rename_i loc' hl
      cases v with
      | none =>
        obtain ⟨hd, hk⟩ := putU h3
        exact vo_stepU (hlf loc' hl) hg hd (hK _ _ _ _ hn hk)
      | some v =>
        obtain ⟨d, hd, hb, hk⟩ := puts h3
        exact vo_step (hlf loc' hl) hg hd hb (hK ((d, v) :: top) _ _ _ hn hk)
    · exact h3.elim
  | updB i B v =>
    simp only [wpS] at h3
    cases v with
    | none =>
      obtain ⟨hd, hk⟩ := putU h3
      exact vo_stepU hlf hg hd (hK _ _ _ _ (by simpa using hn) hk)
    | some v =>
      obtain ⟨d, hd, hb, hk⟩ := puts h3
      exact vo_step hlf hg hd hb (hK ((d, v) :: top) _ _ _ (by simpa using hn) hk)
  | blk B v =>
    simp only [wpS] at h3
    split at h3
    · rename_i loc' hl
      obtain ⟨d, hd, hb, hk⟩ := puts h3
      have hs := hlf
      simp only [LeafOk] at hs
      rw [← snocC_eq _ _ _ hl] at hs
      exact vo_step hs hg hd hb (hK ((d, v k) :: top) _ _ _ hn hk)
    · exact h3.elim
  | call F as =>
    obtain ⟨f, xs, ts, fs, cs, ws, ho, hf, has, hw⟩ := hlf
    have hall : (⟨base, k, loc⟩ : Hp).all = base ++ loc := rfl
    simp only [wpS] at h3
    cases h3 with
    | det v hc hk =>
      obtain ⟨d, hd, hb, hk⟩ := puts hk
      exact vcall_conv ho hg hd hb hf hw has hc fun r H' ⟨e, hr⟩ => ⟨⟨base, k, loc⟩, fun g w hH => by subst e; exact sees_same hH, by subst hr; exact hK ((d, _) :: top) _ _ _ hn hk⟩
    | pure R hc hk =>
      by_cases hex : ∃ d, o.dst = some d ∧ Nat.blt d N = true
      · obtain ⟨d, hd, hb⟩ := hex
        refine vcall_conv ho hg hd hb hf hw has hc fun r H' ⟨e, hr⟩ => ⟨⟨base, k, loc⟩, fun g w hH => by subst e; exact sees_same hH, ?_⟩
        obtain ⟨d', hd', hb', hk'⟩ := puts (hk r hr)
        rw [hd] at hd'; cases hd'
        exact hK ((d, .v r) :: top) _ _ _ hn hk'
      · intro g0 w0 g w a Qc hH hE hx kk
        exfalso
        obtain ⟨⟨fn, q1, q2, q3⟩, hcall⟩ := hc
        have hr := ev_rel hE f
        rw [hf] at hr
        simp only [VRel] at hr
        obtain ⟨f', c', hfv, hfs, hcs⟩ := hr
        have hargs := ((hfs.append (hw g w a hE)).append hcs)
        rw [has] at hargs
        have hcl := hcall g w ((f' ++ (xs.map a.eval).toArray) ++ c') hH.of (by simpa using hargs)
        obtain ⟨e, w', fr, ⟨r, H', g', c, -, ⟨-, hR⟩, -⟩, -⟩ := hcl []
        obtain ⟨d', hd', hb', -⟩ := puts (hk r hR)
        exact hex ⟨d', hd', hb'⟩
    | gen R hc hk =>
      by_cases hex : ∃ d, o.dst = some d ∧ Nat.blt d N = true
      · obtain ⟨d, hd, hb⟩ := hex
        refine vcall_conv ho hg hd hb hf hw has hc fun r H' hr => ?_
        obtain ⟨base', k', loc', e1, e2, e3, hk'⟩ := hk r H' hr
        refine ⟨⟨base', k', loc'⟩, fun g w hH => ⟨e1, e2⟩, ?_⟩
        obtain ⟨d', hd', hb', hk'⟩ := puts hk'
        rw [hd] at hd'; cases hd'
        exact hK ((d, .v r) :: top) _ _ _ e3 hk'
      · intro g0 w0 g w a Qc hH hE hx kk
        exfalso
        obtain ⟨⟨fn, q1, q2, q3⟩, hcall⟩ := hc
        have hr := ev_rel hE f
        rw [hf] at hr
        simp only [VRel] at hr
        obtain ⟨f', c', hfv, hfs, hcs⟩ := hr
        have hargs := ((hfs.append (hw g w a hE)).append hcs)
        rw [has] at hargs
        have hcl := hcall g w ((f' ++ (xs.map a.eval).toArray) ++ c') hH.of (by simpa using hargs)
        obtain ⟨e, w', fr, ⟨r, H', g', c, -, hR, -⟩, -⟩ := hcl []
        obtain ⟨base', k', loc', e1, e2, e3, hk'⟩ := hk r H' hR
        obtain ⟨d', hd', hb', -⟩ := puts hk'
        exact hex ⟨d', hd', hb'⟩
  | fail => cases h2
  | side _ _ => cases h2
  | ptr _ _ _ => cases h2
  | seg _ _ _ => cases h2
  | ofs _ _ _ => cases h2
  | eqv _ _ => cases h2
  | sub _ _ _ _ => cases h2
  | nat _ _ => cases h2
  | byte _ _ _ => cases h2
  | or _ _ => cases h2
end
end Go.Vsi
