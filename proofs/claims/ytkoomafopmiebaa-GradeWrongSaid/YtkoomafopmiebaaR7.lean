/- A text of the proof: R7. -/
import Derived.Test.YtkoomafopmiebaaR6
set_option linter.unusedSimpArgs false
set_option linter.unusedVariables false
namespace Go.Vsi

/-! ### the function's ends -/
def rvR (T : TypeId → Option TI) (n0 : Nat) (top bot : RE) (loc : Heap) : ResultVar → Option AV
  | .tmp t => match rget2 top bot t with
    | some (.v a) => some a
    | some (.lp j o) => some (.ptr (n0 + j) o)
    | some (.lit b) => some (.bool b)
    | none => none
  | .cell t ty => match rget2 top bot t with
    | some (.lp j o) => match lget loc j with
      | some (.box _ l) => match dropC o l with
        | some l' => match T ty with
          | some ti => loadC ti l'
          | none => none
        | none => none
      | _ => none
    | _ => none
def rvRs (T : TypeId → Option TI) (n0 : Nat) (top bot : RE) (loc : Heap) : List ResultVar → Option (List AV)
  | [] => some []
  | r :: rs => match rvR T n0 top bot loc r with
    | some v => match rvRs T n0 top bot loc rs with
      | some vs => some (v :: vs)
      | none => none
    | none => none

structure EndN (H base : Heap) (loc : Heap) (u : AV) (R : AV → Heap → Prop) : Prop where
  len : base.length = H.length
  low : ∀ (i : Nat) B, base[i]? = some B → H[i]? = some B ∨ B.below H.length
  res : ∃ u' r, Frz base.length loc u u' ∧ Wk u' r ∧ below H.length r ∧ R r base

def endQ (T : TypeId → Option TI) (n0 : Nat) (rs : List ResultVar) (H : Heap) (R : AV → Heap → Prop) : QR := fun e top bot base _ loc => match e with
  | .ret => match rvRs T n0 top bot loc rs with
    | some [v] => EndN H base loc v R
    | some vs => EndN H base loc (.tup vs) R
    | none => False
  | .normal => match rvRs T n0 top bot loc rs with
    | some [v] => EndN H base loc v R
    | some vs => EndN H base loc (.tup vs) R
    | none => False
  | _ => False

def argRE : Nat → List AV → RE
  | _, [] => []
  | i, v :: l => (i, .v v) :: argRE (i + 1) l
def argO : Nat → List AV → Option RE
  | _, [] => some []
  | i, v :: l => match argO (i + 1) l with
    | some r => some ((i, .v v) :: r)
    | none => none
theorem argO_eq : ∀ (l : List AV) (i : Nat) (r : RE), argO i l = some r → r = argRE i l
  | [], _, _, h => by simp only [argO, Option.some.injEq] at h; exact h.symm
  | v :: l, i, r, h => by
    simp only [argO] at h
    split at h
    · rename_i r' hr
      simp only [Option.some.injEq] at h; subst h
      rw [argO_eq l (i + 1) r' hr]; rfl
    · cases h
theorem argRE_tr (n0 : Nat) : ∀ (l : List AV) (i : Nat), trE n0 (argRE i l) = argEnv i l
  | [], _ => rfl
  | v :: l, i => by simp [argRE, trE, argEnv, tr, argRE_tr n0 l (i + 1)]

section
variable {P : Program} {N : Nat} {n0 : Nat} {T : TypeId → Option TI} {kn : TypeId → Nat}

theorem rvRs_RVs {top bot : RE} {base : Heap} {k : Nat} {loc : Heap} {env : Env} (hn : base.length = n0) (ha : Apx n0 env (top ++ bot)) : ∀ {rs : List ResultVar} {vs : List AV}, rvRs T n0 top bot loc rs = some vs →
    ∀ {g : G} {w : World} {a : Act} (_ : TOk P T), HRel g w ⟨base, k, loc⟩ → ERel N g w env a → ∃ cs : List Value, (rs.mapM (rvF a)).run P w = .ok cs w ∧ LRel g w vs cs
  | [], vs, h, g, w, a, hT, hH, hE => by
    simp only [rvRs, Option.some.injEq] at h; subst h
    exact ⟨[], by simp, by simp [LRel]⟩
  | r :: rs, vs, h, g, w, a, hT, hH, hE => by
    simp only [rvRs] at h
    split at h
    · rename_i v hv
      split at h
      · rename_i vs' hvs
        simp only [Option.some.injEq] at h; subst h
        have hE' : ERel N g w (trE n0 (top ++ bot)) a := ⟨hE.1, fun s => ha s _ _ _ (hE.2 s)⟩
        have hrv : RV T (trE n0 (top ++ bot)) ⟨base, k, loc⟩ r v := by
          cases r with
          | tmp t =>
            simp only [rvR] at hv
            have : ∃ v', rget2 top bot t = some v' ∧ v = tr n0 v' := by
              split at hv <;> simp only [Option.some.injEq, reduceCtorEq] at hv <;> subst hv <;> exact ⟨_, ‹_›, rfl⟩
            obtain ⟨v', hv', rfl⟩ := this
            simp only [RV]; rw [rget2_get hv']; exact nf_ne
          | cell t ty =>
            simp only [rvR] at hv
            split at hv
            · rename_i j o hv'
              split at hv
              · rename_i u l hg
                split at hv
                · rename_i l' hd
                  split at hv
                  · rename_i ti ht
                    refine ⟨n0 + j, o, u, l, l', ti, rget2_get hv', ?_, hd, ht, hv⟩
                    rw [← hn]; exact at_loc hg
                  · cases hv
                · cases hv
              · cases hv
            · cases hv
        obtain ⟨c, h1, h2⟩ := rv_run hT hH hE' hrv
        obtain ⟨cs, h3, h4⟩ := rvRs_RVs hn ha hvs hT hH hE
        refine ⟨c :: cs, ?_, by simp only [LRel]; exact ⟨c, cs, rfl, h2, h4⟩⟩
        rw [List.mapM_cons, Sem.run_bind, h1, Result.andThen_ok, Sem.run_bind, h3]
        rfl
      · cases h
    · cases h

theorem results_of {fn : Func} {a : Act} {w : World} {g : G} {vs : List AV} {cs : List Value} (h1 : (fn.results.toList.mapM (rvF a)).run P w = .ok cs w) (h2 : LRel g w vs cs) :
    ∃ c, (results fn a.tmps).run P w = .ok c w ∧ VRel g w (tupOf vs) c := by
  refine ⟨if hz : cs.toArray.size = 1 then cs.toArray[0] else .tuple cs.toArray, ?_, ?_⟩
  · have e : results fn a.tmps = (do
        let vs ← fn.results.mapM (rvF a)
        pure (if h : vs.size = 1 then vs[0] else .tuple vs)) := rfl
    rw [e, Array.mapM_eq_mapM_toList, Sem.run_bind, Sem.run_map, h1]
    rfl
  · match vs, cs, h2 with
    | [], cs, h2 =>
      simp only [LRel] at h2
      subst h2
      simp [tupOf, VRel, LRel]
    | [v], cs, h2 =>
      simp only [LRel] at h2
      obtain ⟨c, r, rfl, h3, rfl⟩ := h2
      simpa [tupOf] using h3
    | v :: u :: vs, cs, h2 =>
      have hl := h2.length
      simp only [tupOf, VRel]
      refine ⟨cs.toArray, ?_, h2⟩
      rw [dif_neg]
      simp only [List.size_toArray, hl, List.length_cons]
      omega

theorem fn_gen (he : Env0 P T kn) (hm : P.follows .mixedOrders = true) {F : FuncId} {fn : Func} {c : Code} {args : List AV} {H : Heap} {R : AV → Heap → Prop} (hf : P.funcs[F]? = some fn) (hnm : (fn.name == "runtime.NumGoroutine") = false) (hb : fn.body = some c)
    (hN : args.length ≤ fn.ntmps) {re : RE} (hre : argO 0 args = some re) (h : Closed H → belowL H.length args → wpC P kn T fn.ntmps H.length c (endQ T H.length fn.results.toList H R) re [] H 0 []) : VCall P F args H R := by
  obtain rfl := argO_eq _ _ _ hre
  refine ⟨⟨fn, hf, hnm, by simp [hb]⟩, fun g w as hH hl => calls_of_wp hf hb ?_⟩
  have hgn : g.n = H.length := by rw [hH.n]; simp [Hp.of]
  have hw := wpC_sound he hm c _ _ _ _ _ _ rfl (h (closed_of hH) (hgn ▸ LRel.below _ _ hl))
  rw [List.append_nil, argRE_tr] at hw
  refine Code.wp_mono ?_ (hw g w _ hH (argEnv_rel hl hN))
  rintro e a' w' ⟨env', hp', g', ⟨top, bot, base, k, loc, hap, rfl, hbl, hq⟩, hH', hE', hx, hds⟩
  have key : ∀ vs, rvRs T H.length top bot loc fn.results.toList = some vs → EndN H base loc (tupOf vs) R → a'.defers = #[].toList ∧ ∃ c, (results fn a'.tmps).run P w' = .ok c w' ∧ ∃ r H' g'' c', Ending.returned c = .returned c' ∧ R r H' ∧ HRel g'' w' (Hp.of H') ∧ VRel g'' w' r c' ∧ Ext g w g'' w' := by
    intro vs hvs hend
    obtain ⟨cs, h1, h2⟩ := rvRs_RVs (N := fn.ntmps) hbl hap hvs he.T hH' hE'
    obtain ⟨c', h3, h4⟩ := results_of h1 h2
    obtain ⟨hlen, hlow, u', r, hfz, hwk, hbr, hR⟩ := hend
    refine ⟨hds, c', h3, r, base, (g'.frz base.length loc).cut H.length, c', rfl, hR, HRel.frz hH' hH hlen hlow, ?_, hx.frz.cut (by omega)⟩
    exact VRel.cut r c' (hwk _ _ _ (hfz.rel hH' c' h4)) hbr
  cases e with
  | ret =>
    simp only [endQ] at hq
    split at hq
    · rename_i v hvs; exact key [v] hvs hq
    · rename_i vs hne hvs; exact key vs hvs (by
        have : tupOf vs = .tup vs := by
          match vs, hne with
          | [], _ => rfl
          | [v], hne => exact (hne v rfl).elim
          | _ :: _ :: _, _ => rfl
        rw [this]; exact hq)
    · exact hq.elim
  | normal =>
    simp only [endQ] at hq
    split at hq
    · rename_i v hvs; exact key [v] hvs hq
    · rename_i vs hne hvs; exact key vs hvs (by
        have : tupOf vs = .tup vs := by
          match vs, hne with
          | [], _ => rfl
          | [v], hne => exact (hne v rfl).elim
          | _ :: _ :: _, _ => rfl
        rw [this]; exact hq)
    · exact hq.elim
  | exit i => exact hq.elim
  | goto i => exact hq.elim
  | panic i => exact hq.elim
  | outgrown => exact hq.elim

def detR (H : Heap) (v : AV) : AV → Heap → Prop := fun r H' => H' = H ∧ r = v
def pureR (H : Heap) (R : AV → Prop) : AV → Heap → Prop := fun r H' => H' = H ∧ R r

theorem EndN.det {H : Heap} {loc : Heap} {u v : AV} (hb : below H.length v) (hw : Wk u v) : EndN H H loc u (detR H v) :=
  ⟨rfl, fun _ _ h => .inl h, u, v, .refl u, hw, hb, rfl, rfl⟩
theorem EndN.detF {H : Heap} {loc : Heap} {u u' v : AV} (hb : below H.length v) (hf : Frz H.length loc u u') (hw : Wk u' v) : EndN H H loc u (detR H v) :=
  ⟨rfl, fun _ _ h => .inl h, u', v, hf, hw, hb, rfl, rfl⟩
theorem EndN.pure {H : Heap} {loc : Heap} {u v : AV} {R : AV → Prop} (hb : below H.length v) (hw : Wk u v) (hR : R v) : EndN H H loc u (pureR H R) :=
  ⟨rfl, fun _ _ h => .inl h, u, v, .refl u, hw, hb, rfl, hR⟩

theorem fn_det (he : Env0 P T kn) (hm : P.follows .mixedOrders = true) {F : FuncId} {fn : Func} {c : Code} {args : List AV} {H : Heap} {v : AV} (hf : P.funcs[F]? = some fn) (hnm : (fn.name == "runtime.NumGoroutine") = false) (hb : fn.body = some c)
    (hN : args.length ≤ fn.ntmps) {re : RE} (hre : argO 0 args = some re) (h : Closed H → belowL H.length args → wpC P kn T fn.ntmps H.length c (endQ T H.length fn.results.toList H (detR H v)) re [] H 0 []) : VDet P F args H v :=
  fn_gen he hm hf hnm hb hN hre h
theorem fn_pure (he : Env0 P T kn) (hm : P.follows .mixedOrders = true) {F : FuncId} {fn : Func} {c : Code} {args : List AV} {H : Heap} {R : AV → Prop} (hf : P.funcs[F]? = some fn) (hnm : (fn.name == "runtime.NumGoroutine") = false) (hb : fn.body = some c)
    (hN : args.length ≤ fn.ntmps) {re : RE} (hre : argO 0 args = some re) (h : Closed H → belowL H.length args → wpC P kn T fn.ntmps H.length c (endQ T H.length fn.results.toList H (pureR H R)) re [] H 0 []) : VPure P F args H R :=
  fn_gen he hm hf hnm hb hN hre h

/-! ### loops -/
def subR (n0 : Nat) (top bot : RE) : RE → Prop
  | [] => True
  | (i, w) :: l => (∃ v, rget2 top bot i = some v ∧ Wk (tr n0 v) (tr n0 w)) ∧ subR n0 top bot l
theorem subR_get {top bot : RE} : ∀ {l : RE}, subR n0 top bot l → ∀ {s : Nat} {w : RG}, rgetO l s = some w → Wk (get (trE n0 (top ++ bot)) s) (tr n0 w)
  | [], _, s, w, h => by cases h
  | (i, w') :: l, h, s, w, hg => by
    simp only [rgetO] at hg
    cases hb : Nat.beq i s with
    | true =>
      simp only [hb, Option.some.injEq] at hg; subst hg
      have := Nat.eq_of_beq_eq_true hb
      subst this
      obtain ⟨v, h1, h2⟩ := h.1
      rw [rget2_get h1]; exact h2
    | false => simp only [hb] at hg; exact subR_get h.2 hg

def pickO : List Nat → RE → RE → Option RE
  | [], _, _ => some []
  | t :: ts, top, bot => match rget2 top bot t with
    | some v => match pickO ts top bot with
      | some l => some ((t, v) :: l)
      | none => none
    | none => none
theorem pickO_get {top bot : RE} : ∀ {ts : List Nat} {l : RE}, pickO ts top bot = some l → ∀ {s : Nat} {w : RG}, rgetO l s = some w → rget2 top bot s = some w
  | [], l, h, s, w, hg => by simp only [pickO, Option.some.injEq] at h; subst h; cases hg
  | t :: ts, l, h, s, w, hg => by
    simp only [pickO] at h
    split at h
    · rename_i v hv
      split at h
      · rename_i l' hl
        simp only [Option.some.injEq] at h; subst h
        simp only [rgetO] at hg
        cases hb : Nat.beq t s with
        | true =>
          simp only [hb, Option.some.injEq] at hg; subst hg
          have := Nat.eq_of_beq_eq_true hb
          subst this
          exact hv
        | false => simp only [hb] at hg; exact pickO_get hl hg
      · cases h
    · cases h

def hasK : RE → Nat → Bool
  | [], _ => false
  | (i, _) :: l, t => match Nat.beq i t with
    | true => true
    | false => hasK l t
def disjK : RE → RE → Bool
  | _, [] => true
  | top, (i, _) :: l => match hasK top i with
    | true => false
    | false => disjK top l
theorem hasK_none {t : Nat} : ∀ {l : RE}, hasK l t = false → rgetO l t = none
  | [], _ => rfl
  | (i, _) :: l, h => by
    simp only [hasK] at h
    simp only [rgetO]
    cases hb : Nat.beq i t with
    | true => simp [hb] at h
    | false => simp only [hb] at h; exact hasK_none h
theorem disjK_none {top : RE} : ∀ {bk : RE}, disjK top bk = true → ∀ {s : Nat} {w : RG}, rgetO bk s = some w → rgetO top s = none
  | [], _, s, w, h => by cases h
  | (i, v) :: l, hd, s, w, h => by
    simp only [disjK] at hd
    cases hk : hasK top i with
    | true => simp [hk] at hd
    | false =>
      simp only [hk] at hd
      simp only [rgetO] at h
      cases hb : Nat.beq i s with
      | true => have := Nat.eq_of_beq_eq_true hb; subst this; exact hasK_none hk
      | false => simp only [hb] at h; exact disjK_none hd h

def belowRE (n0 n : Nat) : RE → Prop
  | [] => True
  | (_, v) :: l => below n (tr n0 v) ∧ belowRE n0 n l
theorem belowRE_get {n : Nat} : ∀ {l : RE}, belowRE n0 n l → ∀ {s : Nat} {w : RG}, rgetO l s = some w → below n (tr n0 w)
  | [], _, s, w, h => by cases h
  | (i, v) :: l, hb, s, w, h => by
    simp only [rgetO] at h
    cases hi : Nat.beq i s with
    | true => simp only [hi, Option.some.injEq] at h; subst h; exact hb.1
    | false => simp only [hi] at h; exact belowRE_get hb.2 h

/-- the round's end comes back to the head -/
structure RoundN {σ : Type} (inv : σ → Prop) (ms : σ → Nat) (st : σ → RE) (lc : σ → Heap) (bk : RE) (n0 : Nat) (base : Heap) (k : Nat) (m : Nat) (top bot : RE) (base' : Heap) (loc' : Heap) : Prop where
  h : ∃ s', inv s' ∧ ms s' < m ∧ subR n0 top bot (st s') ∧ ((bot = bk ∧ disjK top bk = true) ∨ subR n0 top bot bk) ∧ base' = base ∧ ∃ ex, loc' = lc s' ++ ex ∧ (ex = [] ∨ belowRE n0 (n0 + k) (st s') ∧ belowH (n0 + k) (lc s'))

def roundQ {σ : Type} (inv : σ → Prop) (ms : σ → Nat) (st : σ → RE) (lc : σ → Heap) (bk : RE) (n0 : Nat) (base : Heap) (k : Nat) (m : Nat) (Q : QR) : QR := fun e top bot base' k' loc' => match e with
  | .normal => RoundN inv ms st lc bk n0 base k m top bot base' loc'
  | e => Q e top bot base' k' loc'

theorem belowH_of {n : Nat} : ∀ {H : Heap}, (∀ (i : Nat) B, H[i]? = some B → B.below n) → belowH n H
  | [], _ => trivial
  | B :: H, h => ⟨h 0 B (by simp), belowH_of fun i B hi => h (i + 1) B (by simpa using hi)⟩

theorem loop_R (he : Env0 P T kn) (hm : P.follows .mixedOrders = true) {σ : Type} (inv : σ → Prop) (ms : σ → Nat) (st : σ → RE) (lc : σ → Heap) (bk : RE) (s0 : σ) {c : Code} {Q : QR} {top bot : RE} {base : Heap} {k : Nat} {loc : Heap}
    (hn : base.length = n0) (hcl : Closed base) (ts : List Nat) (hbk : pickO ts top bot = some bk) (h0 : inv s0) (hst : subR n0 top bot (st s0)) (hloc : loc = lc s0) (hlen : ∀ s, inv s → (lc s).length = k)
    (round : ∀ s, inv s → wpC P kn T N n0 c (roundQ inv ms st lc bk n0 base k (ms s) Q) (st s) bk base k (lc s)) : LoopN P kn T N n0 c Q top bot base k loc := by
  refine ⟨?_⟩
  subst hloc
  intro g w a hH hE
  have hbkb : ∀ s v, rgetO bk s = some v → below (n0 + k) (tr n0 v) := by
    intro s v hv
    have h1 := rget2_get (n0 := n0) (pickO_get hbk hv)
    have h2 := VRel.below _ _ (hE.2 s)
    rw [h1, hH.n] at h2
    simp only [hn] at h2
    exact h2
  let J : Nat → Act → World → Prop := fun n a' w' => ∃ s g', inv s ∧ ms s = n ∧ HRel g' w' ⟨base, k, lc s⟩ ∧ ERel N g' w' (trE n0 (st s ++ bk)) a' ∧ Ext g w g' w' ∧ a'.defers = a.defers
  have hget : ∀ (l bk : RE) (s : Nat), get (trE n0 (l ++ bk)) s = match rgetO l s with
      | some v => tr n0 v
      | none => match rgetO bk s with
        | some v => tr n0 v
        | none => .junk := by
    intro l bk s
    rw [trE_append]
    cases hl : rgetO l s with
    | some v => simp only; exact rgetO_get hl _
    | none =>
      simp only
      rw [rgetO_none hl]
      cases hb : rgetO bk s with
      | some v => simp only; have := rgetO_get (n0 := n0) hb []; simpa using this
      | none => simp only; have := rgetO_none (n0 := n0) hb []; simp only [List.append_nil] at this; rw [this]; rfl
  refine LoopWp.inv (fun a' w' => ∃ n, J n a' w') (fun a' w' => by classical exact if h : ∃ n, J n a' w' then Classical.choose (least h) else 0) ⟨ms s0, s0, g, h0, rfl, hH, ⟨hE.1, fun s => ?_⟩, Ext.refl g w, rfl⟩ ?_
  · rw [hget]
    cases hl : rgetO (st s0) s with
    | some v => simp only; exact subR_get hst hl _ _ _ (hE.2 s)
    | none =>
      simp only
      cases hb : rgetO bk s with
      | some v => simp only; rw [← rget2_get (n0 := n0) (pickO_get hbk hb)]; exact hE.2 s
      | none => simp [VRel]
  intro a1 w1 hex
  have hJ := (Classical.choose_spec (least hex)).1
  obtain ⟨s1, g1, hI1, hms1, hH1, hE1, hx1, hd1⟩ := hJ
  have hr := wpC_sound he hm c _ _ _ _ _ _ hn (round s1 hI1)
  refine Code.wp_mono ?_ (hr g1 w1 a1 hH1 hE1)
  rintro e a2 w2 ⟨env2, hp2, g2, ⟨top2, bot2, base2, k2, loc2, hap, rfl, hn2, q⟩, hH2, hE2, hx2, hd2⟩
  have other : e ≠ .normal → Q e top2 bot2 base2 k2 loc2 → Lift N (LS n0 Q) g w a.defers e a2 w2 := fun _ hq =>
    ⟨env2, _, g2, ⟨top2, bot2, base2, k2, loc2, hap, rfl, hn2, hq⟩, hH2, hE2, hx1.trans hx2, hd2.trans hd1⟩
  cases e with
  | normal =>
    obtain ⟨s', hi', hms', hsub, hbk', rfl, ex, rfl, hbel⟩ := q
    have hE3 : ERel N g2 w2 (trE n0 (st s' ++ bk)) a2 := by
      refine ⟨hE2.1, fun s => ?_⟩
      have h2 := hap s _ _ _ (hE2.2 s)
      rw [hget]
      cases hl : rgetO (st s') s with
      | some v => simp only; exact subR_get hsub hl _ _ _ h2
      | none =>
        simp only
        cases hb : rgetO bk s with
        | none => simp [VRel]
        | some v =>
          simp only
          rcases hbk' with ⟨rfl, hdj⟩ | hsb
          · rw [hget, disjK_none hdj hb] at h2
            simp only [hb] at h2
            exact h2
          · exact subR_get hsb hb _ _ _ h2
    have hlc := hlen s' hi'
    have hex2 : ∃ m, m < ms s1 ∧ J m a2 w2 := by
      rcases hbel with rfl | ⟨hb1, hb2⟩
      · have hk2 : k2 = k := by have := hH2.k; simp only [List.append_nil] at this; omega
        subst hk2
        rw [List.append_nil] at hH2
        exact ⟨ms s', hms', s', g2, hi', rfl, hH2, hE3, hx1.trans hx2, hd2.trans hd1⟩
      · have hcut := hH2.cutLoc hlc hcl (by rw [hn]; exact hb2)
        have hgn : g.n ≤ base2.length + k := by rw [hH.n]; exact Nat.le_refl _
        have hxc := (hx1.trans hx2).cut hgn
        refine ⟨ms s', hms', s', g2.cut (base2.length + k), hi', rfl, hcut, ⟨hE3.1, fun s => VRel.cut _ _ (hE3.2 s) ?_⟩, hxc, hd2.trans hd1⟩
        rw [hget]
        rw [hn]
        cases hl : rgetO (st s') s with
        | some v => simp only; exact belowRE_get hb1 hl
        | none =>
          simp only
          cases hb : rgetO bk s with
          | some v => simp only; exact hbkb s v hb
          | none => simp [below]
    obtain ⟨m, hmlt, hJm⟩ := hex2
    have hex2 : ∃ n, J n a2 w2 := ⟨m, hJm⟩
    refine ⟨hex2, ?_⟩
    simp only [hex, hex2, dif_pos]
    refine Nat.lt_of_le_of_lt ((Classical.choose_spec (least hex2)).2 m hJm) ?_
    rw [hms1] at hmlt
    exact hmlt
  | exit i => exact other (by simp) q
  | goto l => exact other (by simp) q
  | ret => exact other (by simp) q
  | panic ch => exact other (by simp) q
  | outgrown => exact other (by simp) q
end
end Go.Vsi
