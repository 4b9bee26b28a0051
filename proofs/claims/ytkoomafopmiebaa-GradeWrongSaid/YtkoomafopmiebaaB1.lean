/- A text of the proof: B1. -/
import Derived.Test.YtkoomafopmiebaaB0
set_option linter.unusedSimpArgs false
set_option linter.unusedVariables false
namespace Go.Vsi
open Go.ChangeShapes Go.WideShapes

/-- the type of a row of the table, as far as it is plain -/
def tyFlds (ty : TypeId → Option Ty) (szOf : TypeId → Option Nat) : List (TypeId × Nat × Nat × Bool) → Nat → Option Ty
  | [], _ => some .unit
  | (ft, o, sz, _) :: fs, off => match Nat.beq o off with
    | true => match ty ft with
      | some a => match Nat.beq sz a.sz with
        | true => match tyFlds ty szOf fs (off + a.sz) with
          | some b => some (.pair a b)
          | none => none
        | false => none
      | none => none
    | false => none
def szT (T : TypeId → Option TI) (t : TypeId) : Option Nat := match T t with
  | some ti => some ti.sz
  | none => none
def tyOf (T : TypeId → Option TI) : Nat → TypeId → Option Ty
  | 0, _ => none
  | n + 1, t => match T t with
    | some ti => match ti.kind with
      | .int k => some (.int k)
      | .bool => some .bool
      | .str => some .str
      | .sl e => match tyOf T n e with
        | some τ => match szT T e with
          | some s => match Nat.beq s τ.sz with
            | true => match τ.sz with
              | 0 => none
              | _ + 1 => some (.sl τ)
            | false => none
          | none => none
        | none => none
      | .st fs => match tyFlds (tyOf T n) (szT T) fs 0 with
        | some τ => match Nat.beq ti.sz τ.sz with
          | true => some τ
          | false => none
        | none => none
      | .arr m e => match tyOf T n e with
        | some τ => match szT T e with
          | some s => match Nat.beq s τ.sz with
            | true => match Nat.beq ti.sz (m * τ.sz) with
              | true => some (repTy m τ)
              | false => none
            | false => none
          | none => none
        | none => none
      | _ => none
    | none => none

section
variable {P : Program} {T : TypeId → Option TI}
theorem cellsOf_of {t : TypeId} {i : TypeInfo} (h : P.info? t = some i) : P.cellsOf t = i.size := by simp [Program.cellsOf, h]
theorem szT_cells (hT : TOk P T) {t : TypeId} {s : Nat} (h : szT T t = some s) : P.cellsOf t = s := by
  unfold szT at h
  split at h
  · rename_i ti ht
    simp only [Option.some.injEq] at h; subst h
    obtain ⟨d, i, -, h2, -, h4, -⟩ := tiOf_some (hT _ _ ht)
    rw [cellsOf_of h2, h4]
  · cases h

theorem tyFlds_ok {ty : TypeId → Option Ty} {szOf : TypeId → Option Nat} (hty : ∀ t τ, ty t = some τ → TyOk P t τ) : ∀ {fs : List Field} {off : Nat} {τ : Ty}, tyFlds ty szOf (fs.map fun f => (f.type, f.offset, isz P f.type, f.name == "_")) off = some τ → (∀ f ∈ fs, P.cellsOf f.type = isz P f.type) → FldOk P fs off τ
  | [], off, τ, h, _ => by simp only [List.map_nil, tyFlds, Option.some.injEq] at h; subst h; exact .nil
  | f :: fs, off, τ, h, hc => by
    simp only [List.map_cons, tyFlds] at h
    split at h
    · rename_i ho
      split at h
      · rename_i a ha
        split at h
        · rename_i hs
          split at h
          · rename_i b hb
            simp only [Option.some.injEq] at h; subst h
            exact .cons (Nat.eq_of_beq_eq_true ho) (by rw [hc f (by simp)]; exact Nat.eq_of_beq_eq_true hs) (hty _ _ ha) (tyFlds_ok hty hb fun g hg => hc g (by simp [hg]))
          · cases h
        · cases h
      · cases h
    · cases h

theorem tyOf_ok (hT : TOk P T) : ∀ (n : Nat) (t : TypeId) (τ : Ty), tyOf T n t = some τ → TyOk P t τ
  | 0, _, _, h => by cases h
  | n + 1, t, τ, h => by
    simp only [tyOf] at h
    split at h
    case h_2 => cases h
    rename_i ti ht
    obtain ⟨d, i, e1, e2, e3, e4, -⟩ := tiOf_some (hT _ _ ht)
    split at h
    · rename_i k hk
      simp only [Option.some.injEq] at h; subst h
      rw [hk] at e3
      have hd : d = .int k := by cases d <;> simp [tkOf] at e3; rw [e3]
      subst hd; exact .int e1
    · rename_i hk
      simp only [Option.some.injEq] at h; subst h
      rw [hk] at e3
      have hd : d = .bool := by cases d <;> simp [tkOf] at e3; rfl
      subst hd; exact .bool e1
    · rename_i hk
      simp only [Option.some.injEq] at h; subst h
      rw [hk] at e3
      have hd : d = .string := by cases d <;> simp [tkOf] at e3; rfl
      subst hd; exact .str e1
    · rename_i e hk
      rw [hk] at e3
      have hd : d = .slice e := by cases d <;> simp [tkOf] at e3; rw [e3]
      subst hd
      split at h
      · rename_i τ' hτ
        split at h
        · rename_i s hs
          split at h
          · rename_i hb
            split at h
            · cases h
            · rename_i q hq
              simp only [Option.some.injEq] at h; subst h
              exact .sl e1 (by rw [szT_cells hT hs]; exact Nat.eq_of_beq_eq_true hb) (by omega) (tyOf_ok hT n e τ' hτ)
          · cases h
        · cases h
      · cases h
    · rename_i fs hk
      rw [hk] at e3
      obtain ⟨fields, rfl, hfs⟩ := st_field_of e3
      split at h
      · rename_i τ' hτ
        split at h
        · rename_i hb
          simp only [Option.some.injEq] at h; subst h
          rw [hfs] at hτ
          refine .st e1 (by rw [cellsOf_of e2, ← e4]; exact Nat.eq_of_beq_eq_true hb) (tyFlds_ok (tyOf_ok hT n) hτ fun f _ => ?_)
          unfold Program.cellsOf isz
          cases P.info? f.type <;> rfl
        · cases h
      · cases h
    · rename_i m e hk
      rw [hk] at e3
      have hd : d = .array m e := by cases d <;> simp [tkOf] at e3; rw [e3.1, e3.2]
      subst hd
      split at h
      · rename_i τ' hτ
        split at h
        · rename_i s hs
          split at h
          · rename_i hb
            split at h
            · rename_i hz
              simp only [Option.some.injEq] at h; subst h
              exact .arr e1 (by rw [szT_cells hT hs]; exact Nat.eq_of_beq_eq_true hb) (tyOf_ok hT n e τ' hτ) (by rw [cellsOf_of e2, ← e4]; exact Nat.eq_of_beq_eq_true hz)
            · cases h
          · cases h
        · cases h
      · cases h
    · cases h

/-! ### one argument -/
variable {H : Type} {enc : TypeId × Value → H} {W : World} {sp : Nat → Bool} {r : Reach} {b0 : Nat}

theorem arg_agg {g : G} (hg : ∀ b o, ¬ g.own b o) {t : TypeId} {τ : Ty} {v : Value} {d : DataW H} {ps : List MemPlace} (hd : (∃ fs, P.underlying t = some (.struct fs)) ∨ ∃ n e, P.underlying t = some (.array n e)) (ht : TyOk P t τ) (hval : Value.okWide P W r b0 t v) (h : DataW.Trod enc P W 0 sp true t v d ps) :
    ∃ x : τ.I, VRel g W (.agg (τ.enc x)) v ∧ τ.good x := by
  obtain ⟨fuel, hf⟩ := h
  obtain ⟨x, h1, h2, -⟩ := trod_ty hg fuel ht hf
  have : ∃ cs, v = .agg cs := by
    unfold Value.okWide at hval
    rcases hd with ⟨fs, hd⟩ | ⟨n, e, hd⟩
    · rw [hd] at hval; obtain ⟨cs, h, -⟩ := hval; exact ⟨cs, h⟩
    · rw [hd] at hval; obtain ⟨cs, h, -⟩ := hval; exact ⟨cs, h⟩
  obtain ⟨cs, rfl⟩ := this
  refine ⟨x, ?_, h2⟩
  simp only [VRel]
  exact ⟨cs, rfl, h1⟩
theorem arg_one {g : G} (hg : ∀ b o, ¬ g.own b o) {t : TypeId} {τ : Ty} {v : Value} {d : DataW H} {ps : List MemPlace} (hd : (∃ k, P.underlying t = some (.int k)) ∨ P.underlying t = some .bool ∨ P.underlying t = some .string ∨ ∃ e, P.underlying t = some (.slice e)) (ht : TyOk P t τ) (hval : Value.okWide P W r b0 t v) (h : DataW.Trod enc P W 0 sp true t v d ps) :
    ∃ x : τ.I, LRel g W (τ.enc x) [v] ∧ τ.good x := by
  obtain ⟨fuel, hf⟩ := h
  obtain ⟨x, h1, h2, -⟩ := trod_ty hg fuel ht hf
  have : v.cells.toList = [v] := by
    unfold Value.okWide at hval
    rcases hd with ⟨k, hd⟩ | hd | hd | ⟨e, hd⟩ <;> rw [hd] at hval <;> cases v <;> simp_all [Value.cells, Cell.okWide, Cell.ok]
  rw [this] at h1
  exact ⟨x, h1, h2⟩

/-! ### a law's row -/
theorem post_of_ext {f : Func} {s : ChangeSpec} {again : Bool} {W W' : World} {args : Array Value} {v : Value} {ds gs : List (DataW H)} {before : List MemPlace} {g g' : G} {tb : TypeId}
    (hW : DataW.Whole enc P f.params.toList s.vars false W args.toList ds gs before) (hx : Ext g W g' W') (hg : ∀ b o, ¬ g.own b o)
    (hl : laidOutB P = true) (hr : f.params.all (fun t => P.readableRec t && decide (t < P.types.size)) = true)
    (hres : f.resultTypes = #[tb]) (htb : P.underlying tb = some .bool) (hv : v = .bool true) (hvars : s.vars = []) (hfn : s.fn H (ds ++ gs) = { results := [.lit (.bool true)], args := ds }) :
    s.post enc P f false true false again W args v W' := by
  subst hv
  have hb : ∀ p ∈ before, p.block < W.heap.size := fun p hp => hW.lt p hp
  have hheap : ∀ b, b < W.heap.size → W'.heap[b]? = W.heap[b]? := fun b hb => hx.same b hb fun o => hg b o
  obtain ⟨p, q, hA, hV, hpq, hfz, hnd⟩ := id hW
  rw [hvars] at hV
  obtain ⟨rfl, rfl⟩ : gs = [] ∧ q = [] := by
    cases gs with
    | nil => exact ⟨rfl, hV⟩
    | cons g gs => exact hV.elim
  rw [List.append_nil] at hpq
  subst hpq
  have hsame : ∀ pl ∈ before, W.sameAt W' pl := by
    intro pl hpl
    have h1 := hheap pl.block (hb pl hpl)
    cases pl with
    | cell b o =>
      simp only [MemPlace.block] at h1
      simp [World.sameAt, World.cell?, h1]
    | map b =>
      simp only [MemPlace.block] at h1
      simp [World.sameAt, h1]
  have hargs : ∀ sp : Nat → Bool, (∀ p ∈ before, sp p.block = true) → DataW.TrodAll enc P W' 0 sp true f.params.toList args.toList ds before := by
    intro sp hsp
    have key : ∀ (ts : List TypeId) (vs : List Value) (ds : List (DataW H)) (ps : List MemPlace), (∀ t ∈ ts, P.readableRec t = true ∧ t < P.types.size) → (∀ p ∈ ps, W.sameAt W' p) → (∀ p ∈ ps, sp p.block = true) → DataW.TrodAll enc P W 0 (fun _ => true) true ts vs ds ps → DataW.TrodAll enc P W' 0 sp true ts vs ds ps := by
      intro ts
      induction ts with
      | nil => intro vs ds ps _ _ _ h; cases vs <;> cases ds <;> exact h
      | cons t ts ih =>
        intro vs ds ps h1 h2 h3 h
        cases vs with
        | nil => exact h.elim
        | cons v vs =>
        cases ds with
        | nil => exact h.elim
        | cons d ds =>
        obtain ⟨p1, q1, e1, e2, rfl⟩ := h
        obtain ⟨r1, r2⟩ := h1 t (by simp)
        exact ⟨p1, q1, Go.WideElems.Trod_stays hl r1 r2 e1 (fun p hp => h2 p (by simp [hp])) (fun p hp => h3 p (by simp [hp])), ih vs ds q1 (fun t ht => h1 t (by simp [ht])) (fun p hp => h2 p (by simp [hp])) (fun p hp => h3 p (by simp [hp])) e2, rfl⟩
    refine key _ _ _ _ (fun t ht => ?_) hsame hsp hA
    rw [Array.all_eq_true] at hr
    obtain ⟨i, hi, rfl⟩ := List.getElem_of_mem ht
    have := hr i (by simpa using hi)
    simpa using this
  have hresT : ∀ (b : Nat) (sp : Nat → Bool) (hd : Bool), DataW.TrodAll enc P W' b sp hd f.resultTypes.toList ((Value.bool true).resultList f.resultTypes.size) (s.fn H (ds ++ [])).results [] := by
    intro b sp hd
    rw [hfn, hres]
    exact ⟨[], [], Go.RowKit.shut_bool htb true, rfl, rfl⟩
  have hold : ∀ p ∈ before, (fun b => decide (b < W.heap.size)) p.block = true := fun p hp => by simpa using hb p hp
  have hvarsT : ∀ sp : Nat → Bool, DataW.TrodVars enc P W' sp s.vars (s.fn H (ds ++ [])).vars [] := by
    intro sp
    rw [hvars, hfn]
    rfl
  have hargs' : ∀ sp : Nat → Bool, (∀ p ∈ before, sp p.block = true) → DataW.TrodAll enc P W' 0 sp true f.params.toList args.toList (s.fn H (ds ++ [])).args before := by
    intro sp hsp
    rw [hfn]
    exact hargs sp hsp
  have hk : W.keptBut W' (· ∈ before) := by
    refine ⟨hx.os, hx.output, fun i hi => ?_⟩
    rw [hheap i hi]
    cases hh : W.heap[i]? with
    | none => trivial
    | some o => cases o <;> simp
  refine ⟨ds, [], before, [], before, [], hW, hresT _ _ _, hargs' _ hold, hvarsT _, World.keptBut_mono (fun p hp => ⟨hp, ?_⟩) hk, fun _ => ?_⟩
  · simp [hp]
  · refine ⟨Go.RowKit.ok_one hres rfl (Go.RowKit.okWide_bool_mk htb true), _, _, ([] ++ before) ++ [], ⟨[] ++ before, [], trodAll_append (hargs' _ (fun _ _ => rfl)) (hresT _ _ _), hvarsT _, rfl, ?_, ?_⟩, ?_⟩
    · intro b off hp
      have hp' : MemPlace.cell b off ∈ before := by simpa using hp
      have := hheap b (hb _ hp')
      unfold World.frozen?
      simp only [this]
      exact hfz b off hp'
    · intro ha; cases ha
    · intro p hp _
      simpa using hp

/-- from the walk to the row's step -/
theorem law_calls {f : Func} {F : FuncId} {s : ChangeSpec} {again : Bool} {W : World} {args : Array Value} {ds gs : List (DataW H)} {before : List MemPlace} {as : List AV} {tb : TypeId}
    (hW : DataW.Whole enc P f.params.toList s.vars false W args.toList ds gs before) (hd : VDet P F as [] (.bool true)) (has : LRel G.none W as args.toList)
    (hl : laidOutB P = true) (hr : f.params.all (fun t => P.readableRec t && decide (t < P.types.size)) = true)
    (hres : f.resultTypes = #[tb]) (htb : P.underlying tb = some .bool) (hvars : s.vars = []) (hfn : s.fn H (ds ++ gs) = { results := [.lit (.bool true)], args := ds }) :
    Calls P F args W fun e W' => ∃ v, e = .returned v ∧ s.post enc P f false true false again W args v W' := by
  refine (hd.2 G.none W args (hrel_none W) has).mono ?_
  rintro e W' ⟨r, H', g', c, rfl, ⟨-, rfl⟩, -, hv, hx⟩
  simp only [VRel] at hv
  subst hv
  exact ⟨_, rfl, post_of_ext hW hx (fun _ _ h => h) hl hr hres htb rfl hvars hfn⟩
end
end Go.Vsi
