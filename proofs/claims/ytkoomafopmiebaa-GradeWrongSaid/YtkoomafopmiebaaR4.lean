/- A text of the proof: R4. -/
import Derived.Test.YtkoomafopmiebaaR3
set_option linter.unusedSimpArgs false
set_option linter.unusedVariables false
namespace Go.Vsi

/-- the state with this environment says no more than that one -/
def Apx (n0 : Nat) (env : Env) (re : RE) : Prop := ∀ s, Wk (get env s) (get (trE n0 re) s)
theorem Apx.refl (n0 : Nat) (re : RE) : Apx n0 (trE n0 re) re := fun _ => Wk.refl _

def LQ (n0 : Nat) (bot : RE) (Q : Exit → RE → Heap → Nat → Heap → Prop) : Exit → Env → Hp → Prop :=
  fun e env hp => ∃ top base k loc, Apx n0 env (top ++ bot) ∧ hp = ⟨base, k, loc⟩ ∧ base.length = n0 ∧ Q e top base k loc

section
variable {P : Program} {N : Nat} {n0 : Nat} {T : TypeId → Option TI} {kn : TypeId → Nat}

theorem vo_env {all rest : List Oper} {Q : Env → Hp → Prop} {env env' : Env} {hp : Hp} (h : VO P N all rest Q env' hp) (hw : ∀ s, Wk (get env s) (get env' s)) : VO P N all rest Q env hp :=
  fun g0 w0 g w a Qc hH hE hx k => h g0 w0 g w a Qc hH ⟨hE.1, fun s => hw s _ _ _ (hE.2 s)⟩ hx k

/-- the slot that a guard looks at -/
def gslot (all : List Oper) (j : Nat) : Option Nat := match lget all j with
  | some oj => oj.dst
  | none => none

def skipN (N : Nat) (d : Option Nat) (top : RE) (K : RE → Prop) : Prop := match d with
  | some d => match Nat.blt d N with
    | true => K ((d, .v (.tup [])) :: top)
    | false => False
  | none => K top

def putS (N : Nat) (d : Option Nat) (v : Option RG) (top : RE) (K : RE → Prop) : Prop := match d with
  | some d => match v with
    | some v => match Nat.blt d N with
      | true => K ((d, v) :: top)
      | false => False
    | none => False
  | none => False

def pickN (N : Nat) (bot : RE) (d : Option Nat) (c x y : Operand) (top : RE) (K : RE → Prop) : Prop := match evR top bot c with
  | some (.lit true) => putS N d (evR top bot x) top K
  | some (.lit false) => putS N d (evR top bot y) top K
  | some (.v (.bool b)) => IfN b (putS N d (evR top bot x) top K) (putS N d (evR top bot y) top K)
  | _ => False

def opN (P : Program) (kn : TypeId → Nat) (T : TypeId → Option TI) (N n0 : Nat) (bot : RE) (o : Oper) (base : Heap) (k : Nat) (loc : Heap) (K : RE → Heap → Nat → Heap → Prop) (top : RE) : Prop :=
  match o.op with
  | .pick c x y => pickN N bot o.dst c x y top fun top => K top base k loc
  | op => wpS P n0 base k loc (fun v base k loc => putN N o.dst v top fun top => K top base k loc) (stepS kn T n0 top bot loc op)

def guardN (bot : RE) (all : List Oper) (o : Oper) (top : RE) (ex sk : RE → Prop) : Prop :=
  match o.guard with
  | none => ex top
  | some (j, want) => match gslot all j with
    | some d => match rget2 top bot d with
      | some (.lit true) => (match want with
        | true => ex top
        | false => sk top)
      | some (.lit false) => (match want with
        | true => sk top
        | false => ex top)
      | some (.v (.bool b)) => (match want with
        | true => IfN b (ex ((d, .lit true) :: top)) (sk ((d, .lit false) :: top))
        | false => IfN b (sk ((d, .lit true) :: top)) (ex ((d, .lit false) :: top)))
      | some (.v (.tup [])) => sk top
      | _ => False
    | none => False

/- written by recursors: so that the kernel's own way through it and Lean's come to the same terms -/
def wpO (P : Program) (kn : TypeId → Nat) (T : TypeId → Option TI) (N n0 : Nat) (bot : RE) (all l : List Oper) (K : RE → Heap → Nat → Heap → Prop) : RE → Heap → Nat → Heap → Prop :=
  @List.rec Oper (fun _ => RE → Heap → Nat → Heap → Prop) K
    (fun o _ ih top base k loc => guardN bot all o top
      (opN P kn T N n0 bot o base k loc ih)
      (fun top => skipN N o.dst top fun top => ih top base k loc)) l

theorem lit_get {top bot : RE} {d : Nat} {b : Bool} (h : rget2 top bot d = some (.v (.bool b))) (s : Nat) : get (trE n0 (top ++ bot)) s = get (trE n0 ((d, .lit b) :: top ++ bot)) s := by
  simp only [List.cons_append, trE]
  by_cases hs : d = s
  · subst hs
    rw [get_put_same, rget2_get h]; rfl
  · rw [get_put_ne _ _ hs]

theorem gd_some {all : List Oper} {o : Oper} {j : Nat} {want : Bool} {top bot : RE} {d : Nat} {v : RG} {b : Bool} (hg : o.guard = some (j, want)) (hs : gslot all j = some d) (hv : rget2 top bot d = some v) (hb : tr n0 v = .bool b) :
    gd all (trE n0 (top ++ bot)) o = some (bb want b) := by
  unfold gd
  simp only [hg]
  unfold gslot at hs
  cases hl : lget all j with
  | none => simp [hl] at hs
  | some oj =>
    simp only [hl] at hs
    simp only [hs, rget2_get hv, hb]

/-- the guard's ways -/
theorem guard_cases {all : List Oper} {o : Oper} {top bot : RE} {ex sk : RE → Prop} (h : guardN bot all o top ex sk) :
    ∃ top', (∀ s, get (trE n0 (top ++ bot)) s = get (trE n0 (top' ++ bot)) s) ∧ ((gd all (trE n0 (top' ++ bot)) o = some true ∧ ex top') ∨ (gd all (trE n0 (top' ++ bot)) o = some false ∧ sk top')) := by
  unfold guardN at h
  split at h
  · rename_i hg
    exact ⟨top, fun _ => rfl, .inl ⟨by unfold gd; simp [hg], h⟩⟩
  · rename_i j want hg
    split at h
    · rename_i d hs
      split at h
      · rename_i hv
        have hgd := gd_some (n0 := n0) hg hs hv rfl
        cases want with
        | true => exact ⟨top, fun _ => rfl, .inl ⟨hgd, h⟩⟩
        | false => exact ⟨top, fun _ => rfl, .inr ⟨hgd, h⟩⟩
      · rename_i hv
        have hgd := gd_some (n0 := n0) hg hs hv rfl
        cases want with
        | true => exact ⟨top, fun _ => rfl, .inr ⟨hgd, h⟩⟩
        | false => exact ⟨top, fun _ => rfl, .inl ⟨hgd, h⟩⟩
      · rename_i b hv
        have hl : ∀ c, rget2 ((d, RG.lit c) :: top) bot d = some (.lit c) := fun c => by simp [rget2, rgetO]
        have hgd : ∀ c, gd all (trE n0 (((d, RG.lit c) :: top) ++ bot)) o = some (bb want c) := fun c => gd_some (n0 := n0) hg hs (hl c) rfl
        cases want with
        | true =>
          cases b with
          | true => exact ⟨_, lit_get hv, .inl ⟨hgd true, h.t rfl⟩⟩
          | false => exact ⟨_, lit_get hv, .inr ⟨hgd false, h.f rfl⟩⟩
        | false =>
          cases b with
          | true => exact ⟨_, lit_get hv, .inr ⟨hgd true, h.t rfl⟩⟩
          | false => exact ⟨_, lit_get hv, .inl ⟨hgd false, h.f rfl⟩⟩
      · rename_i hv
        refine ⟨top, fun _ => rfl, .inr ⟨?_, h⟩⟩
        unfold gd
        simp only [hg]
        unfold gslot at hs
        cases hl : lget all j with
        | none => simp [hl] at hs
        | some oj =>
          simp only [hl] at hs
          simp only [hs, rget2_get hv, tr]
      · exact h.elim
    · exact h.elim

theorem putS_some {d : Option Nat} {v : Option RG} {top : RE} {K : RE → Prop} (h : putS N d v top K) : ∃ d' v', d = some d' ∧ v = some v' ∧ Nat.blt d' N = true ∧ K ((d', v') :: top) := by
  unfold putS at h
  split at h
  · split at h
    · split at h
      · rename_i hb; exact ⟨_, _, rfl, rfl, hb, h⟩
      · exact h.elim
    · exact h.elim
  · exact h.elim

/-- the picked operand -/
theorem pick_cases {bot : RE} {d : Option Nat} {c x y : Operand} {top : RE} {K : RE → Prop} (h : pickN N bot d c x y top K) :
    ∃ b, ev (trE n0 (top ++ bot)) c = .bool b ∧ putS N d (evR top bot (if b then x else y)) top K := by
  unfold pickN at h
  split at h
  · rename_i hc; exact ⟨true, evR_ev hc, h⟩
  · rename_i hc; exact ⟨false, evR_ev hc, h⟩
  · rename_i b hc
    refine ⟨b, evR_ev hc, ?_⟩
    cases b with
    | true => exact h.t rfl
    | false => exact h.f rfl
  · exact h.elim

theorem pick_step {env : Env} {hp : Hp} {o : Oper} {c x y : Operand} {b : Bool} (ho : o.op = .pick c x y) (hc : ev env c = .bool b) : Step P N hp env o (ev env (if b then x else y)) hp := by
  cases b with
  | true => exact st_pick_t ho hc nf_ne
  | false => exact st_pick_f ho hc nf_ne

theorem wpO_sound (he : Env0 P T kn) {bot : RE} {all : List Oper} {Q : Env → Hp → Prop} {K : RE → Heap → Nat → Heap → Prop}
    (hK : ∀ top base k loc, base.length = n0 → K top base k loc → Q (trE n0 (top ++ bot)) ⟨base, k, loc⟩) :
    ∀ (rest : List Oper) (top : RE) (base : Heap) (k : Nat) (loc : Heap), base.length = n0 → wpO P kn T N n0 bot all rest K top base k loc → VO P N all rest Q (trE n0 (top ++ bot)) ⟨base, k, loc⟩
  | [], top, base, k, loc, hn, h => vo_nil (hK _ _ _ _ hn h)
  | o :: rest, top, base, k, loc, hn, h => by
    have ih := wpO_sound he (bot := bot) (all := all) hK rest
    have h : guardN bot all o top (opN P kn T N n0 bot o base k loc (wpO P kn T N n0 bot all rest K))
      (fun top => skipN N o.dst top fun top => wpO P kn T N n0 bot all rest K top base k loc) := h
    obtain ⟨top', he', h1⟩ := guard_cases (n0 := n0) h
    refine vo_env (env' := trE n0 (top' ++ bot)) ?_ (fun s => Wk.of_eq (he' s))
    rcases h1 with ⟨hg, hx⟩ | ⟨hg, hx⟩
    · unfold opN at hx
      split at hx
      · rename_i c x y ho
        obtain ⟨b, hc, hp⟩ := pick_cases hx
        obtain ⟨d, v, hd, hv, hb, hk⟩ := putS_some hp
        have := pick_step (P := P) (N := N) (hp := ⟨base, k, loc⟩) ho hc
        rw [evR_ev hv] at this
        exact vo_step this hg hd hb (ih _ _ _ _ hn hk)
      · exact vo_R he hn hg hx (fun top base k loc hn h => ih top base k loc hn h)
    · unfold skipN at hx
      split at hx
      · rename_i d hd
        split at hx
        · rename_i hb
          exact vo_skipped hg hd hb (ih _ _ _ _ hn hx)
        · exact hx.elim
      · rename_i hd
        exact vo_skippedU hg hd (ih _ _ _ _ hn hx)

/-! ### a region that draws its order -/
def closOf (all : List Oper) : List Nat :=
  all.foldl (fun acc o => acc ++ [o.after.toList.foldl (fun m e => if Region.binds .any e then m ||| 1 <<< e.on ||| acc.getD e.on 0 else m) 0]) []

inductive CallD (P : Program) (F : FuncId) (as : List AV) (base : Heap) (loc0 : Heap) (K : AV → Prop) : Prop where
  | det (v : AV) (h : ∀ X : Heap, VDet P F as (base ++ loc0 ++ X) v) (a : K v)

/-- how an operation of a drawn region is taken: by the memory ahead of the region; as a store; as one that makes or fills memory in the line -/
inductive DM where
  | pure
  | store
  | app

def wpSD (st : DM) (P : Program) (n0 : Nat) (base loc0 : Heap) (k : Nat) (loc : Heap) (K : Nat → Option RG → Nat → Heap → Prop) (s : SR) : Prop :=
  @SR.rec (fun _ => Prop) False
    (fun v => K 0 (some v) k loc)
    (fun v => match st with
      | .pure => K 1 (some v) k loc
      | .app => False
      | .store => False)
    (fun t l => match snocC loc (.box t l) with
      | some loc' => K 2 (some (.lp k 0)) (k + 1) loc'
      | none => False)
    (fun j B v => match st with
      | .store => match v with
        | none => match lset loc j B with
          | some loc' => K 3 none k loc'
          | none => False
        | some _ => False
      | .app => match v with
        | none => False
        | some v => match Nat.blt j loc0.length with
          | true => False
          | false => match lset loc j B with
            | some loc' => K 4 (some v) k loc'
            | none => False
      | .pure => False)
    (fun _ _ _ => False)
    (fun B v => match st with
      | .app => match snocC loc B with
        | some loc' => K 4 (some (v k)) (k + 1) loc'
        | none => False
      | .pure => False
      | .store => False)
    (fun p _ ih => SideN p ih)
    (fun i _ _ ihl ihb => PtrN n0 base i ihl ihb)
    (fun l o _ ih => SegN l o ih)
    (fun i n _ ih => OfsN i n ih)
    (fun x _ ih => EqN x ih)
    (fun l o n _ ih => SubN l o n ih)
    (fun i _ ih => NatN i ih)
    (fun s i _ ih => ByteN s i ih)
    (fun _ _ iha ihb => OrN iha ihb)
    (fun f as => CallD P f as base loc0 (fun r => match st with
      | .pure => K 1 (some (.v r)) k loc
      | .app => False
      | .store => False)) s

def dmOf : Op → DM
  | .store _ _ _ => .store
  | .call { callee := .builtin .append, .. } => .app
  | _ => .pure

def opD (P : Program) (kn : TypeId → Nat) (T : TypeId → Option TI) (N n0 : Nat) (bot : RE) (o : Oper) (base loc0 : Heap) (k : Nat) (loc : Heap) (K : Nat → RE → Nat → Heap → Prop) (top : RE) : Prop :=
  match o.op with
  | .pick c x y => pickN N bot o.dst c x y top fun top => K 0 top k loc
  | op => match dmOf op with
    | .store => wpSD .store P n0 base loc0 k loc (fun c v k loc => putN N o.dst v top fun top => K c top k loc) (stepS kn T n0 top bot loc op)
    | .app => wpSD .app P n0 base loc0 k loc (fun c v k loc => putN N o.dst v top fun top => K c top k loc) (stepS kn T n0 top bot loc op)
    | .pure => wpSD .pure P n0 base loc0 k loc (fun c v k loc => putN N o.dst v top fun top => K c top k loc) (stepS kn T n0 top bot loc0 op)

def wpD (P : Program) (kn : TypeId → Nat) (T : TypeId → Option TI) (N n0 : Nat) (bot : RE) (all : List Oper) (base loc0 : Heap) (l : List Oper) (K : RE → Nat → Heap → Prop) : List Nat → RE → Nat → Heap → Prop :=
  @List.rec Oper (fun _ => List Nat → RE → Nat → Heap → Prop)
    (fun ks top k loc => SideN ((drawOk all (closOf all) (ks.reverse) && dstOk N all) = true) (K top k loc))
    (fun o _ ih ks top k loc => guardN bot all o top
      (opD P kn T N n0 bot o base loc0 k loc (fun c top k loc => ih (c :: ks) top k loc))
      (fun top => skipN N o.dst top fun top => ih (0 :: ks) top k loc)) l
end
end Go.Vsi
