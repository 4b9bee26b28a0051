/- A text of the proof: E19. -/
import Derived.Test.YtkoomafopmiebaaE18
import Derived.Laws.StructEq
set_option linter.unusedSimpArgs false
set_option linter.unusedVariables false
namespace Go.Vsi

/-! ### == of structs, field by field -/
def eqFs (eq : TypeId → AV → AV → Option Bool) (T : TypeId → Option TI) (l m : List AV) : List (TypeId × Nat × Nat × Bool) → Option Bool
  | [] => some true
  | (ft, off, _, bl) :: fs => match bl with
    | true => eqFs eq T l m fs
    | false => match T ft with
      | some fi => match dropC off l with
        | some l' => match loadC fi l' with
          | some x => match dropC off m with
            | some m' => match loadC fi m' with
              | some y => match eq ft x y with
                | some b => match eqFs eq T l m fs with
                  | some c => some (b && c)
                  | none => none
                | none => none
              | none => none
            | none => none
          | none => none
        | none => none
      | none => none
def eqV (kn : TypeId → Nat) (T : TypeId → Option TI) : Nat → TypeId → AV → AV → Option Bool
  | 0, _, _, _ => none
  | n + 1, t, x, y => match T t with
    | some ti => match ti.kind with
      | .int _ => match x, y with
        | .int k a, .int k' b => match ikEq k k' with
          | true => some (a == b)
          | false => none
        | _, _ => none
      | .bool => match x, y with
        | .bool a, .bool b => some (a == b)
        | _, _ => none
      | .str => match x, y with
        | .str a, .str b => some (a.toList == b.toList)
        | _, _ => none
      | .st fs => match kn t with
        | _ + 2 => match x, y with
          | .agg l, .agg m => eqFs (eqV kn T n) T l m fs
          | _, _ => none
        | _ => none
      | _ => none
    | none => none

section
variable {P : Program} {T : TypeId → Option TI} {kn : TypeId → Nat}

theorem eqFs_run (hT : TOk P T) {eq : TypeId → AV → AV → Option Bool} {d : Nat} {g : G} {w : World} (ih : ∀ {t : TypeId} {x y : AV} {b : Bool} {c e : Value}, eq t x y = some b → VRel g w x c → VRel g w y e → (Op.equalIn d t c e).run P w = .ok b w)
    {l m : List AV} {cs ds : Array Value} (hl : LRel g w l cs.toList) (hm : LRel g w m ds.toList) : ∀ {fs : List Field} {b : Bool}, eqFs eq T l m (fs.map fun f => (f.type, f.offset, isz P f.type, f.name == "_")) = some b → (Op.eqFields d cs ds fs).run P w = .ok b w
  | [], b, h => by
    simp only [List.map_nil, eqFs, Option.some.injEq] at h; subst h
    simp [Op.eqFields]
  | f :: fs, b, h => by
    simp only [List.map_cons, eqFs] at h
    split at h
    · rename_i hb
      have hn : f.name = "_" := by simpa using hb
      simp only [Op.eqFields, hn, ne_eq, not_true_eq_false, if_false]
      exact eqFs_run hT ih hl hm h
    · rename_i hb
      have hn : f.name ≠ "_" := by simpa using hb
      split at h
      case h_2 => cases h
      rename_i fi hfi
      split at h
      case h_2 => cases h
      rename_i l' hl'
      split at h
      case h_2 => cases h
      rename_i x hx
      split at h
      case h_2 => cases h
      rename_i m' hm'
      split at h
      case h_2 => cases h
      rename_i y hy
      split at h
      case h_2 => cases h
      rename_i b1 hb1
      split at h
      case h_2 => cases h
      rename_i b2 hb2
      simp only [Option.some.injEq] at h
      subst h
      obtain ⟨c, p1, p2⟩ := part_run (hT _ _ hfi) hl (dropC_eq _ _ _ hl').1 hx
      obtain ⟨e, p3, p4⟩ := part_run (hT _ _ hfi) hm (dropC_eq _ _ _ hm').1 hy
      have hr := ih hb1 p2 p4
      have hrest := eqFs_run hT ih hl hm hb2
      simp only [Op.eqFields]
      rw [if_pos hn]
      simp only [Sem.run_bind, p1, Result.andThen_ok, p3, hr]
      cases b1 with
      | true => simpa using hrest
      | false => simp

theorem eqV_run (hT : TOk P T) (hk : ∀ t n, kn t = n + 2 → P.stoodInHeld t = false ∧ P.eqGuardType P.depth t = false) : ∀ (n d : Nat), n ≤ d → ∀ {g : G} {w : World} {t : TypeId} {x y : AV} {b : Bool} {c e : Value}, eqV kn T n t x y = some b → VRel g w x c → VRel g w y e → (Op.equalIn d t c e).run P w = .ok b w
  | 0, _, _, _, _, _, _, _, _, _, _, h, _, _ => by cases h
  | n + 1, 0, h0, _, _, _, _, _, _, _, _, _, _, _ => by omega
  | n + 1, d + 1, h0, g, w, t, x, y, b, c, e, h, hx, hy => by
    simp only [eqV] at h
    split at h
    case h_2 => cases h
    rename_i ti ht
    obtain ⟨dd, i, e1, e2, e3, -⟩ := tiOf_some (hT _ _ ht)
    split at h
    · rename_i k0 hkd
      rw [hkd] at e3
      have hd : dd = .int k0 := by cases dd <;> simp [tkOf] at e3; rw [e3]
      subst hd
      split at h
      · rename_i k a k' b'
        split at h
        · rename_i hke
          obtain rfl := ikEq_spec hke
          simp only [Option.some.injEq] at h; subst h
          simp only [VRel] at hx hy
          subst hx hy
          simp [Op.equalIn, run_underlying e1]
        · cases h
      · cases h
    · rename_i hkd
      rw [hkd] at e3
      have hd : dd = .bool := by cases dd <;> simp [tkOf] at e3; rfl
      subst hd
      split at h
      · simp only [Option.some.injEq] at h; subst h
        simp only [VRel] at hx hy
        subst hx hy
        simp [Op.equalIn, run_underlying e1]
      · cases h
    · rename_i hkd
      rw [hkd] at e3
      have hd : dd = .string := by cases dd <;> simp [tkOf] at e3; rfl
      subst hd
      split at h
      · simp only [Option.some.injEq] at h; subst h
        simp only [VRel] at hx hy
        subst hx hy
        simp [Op.equalIn, run_underlying e1, beq_toListBytes]
      · cases h
    · rename_i fs hkd
      rw [hkd] at e3
      obtain ⟨fields, rfl, hfs⟩ := st_field_of e3
      split at h
      · rename_i q hq
        obtain ⟨s1, -⟩ := hk t q hq
        split at h
        · rename_i l m
          simp only [VRel] at hx hy
          obtain ⟨cs, rfl, hl⟩ := hx
          obtain ⟨ds, rfl, hm⟩ := hy
          have hfo : P.fieldsOf t = fields := by simp [Program.fieldsOf, e1]
          rw [run_equalIn_struct w d t cs ds (by rw [hfo]; exact e1) s1, hfo]
          rw [hfs] at h
          exact eqFs_run hT (fun h1 h2 h3 => eqV_run hT hk n d (by omega) h1 h2 h3) hl hm h
        · cases h
      · cases h
    · cases h

variable {N : Nat} {env : Env} {hp : Hp} {o : Oper}
theorem st_eqAgg (hT : TOk P T) (hk : ∀ t n, kn t = n + 2 → P.stoodInHeld t = false ∧ P.eqGuardType P.depth t = false) {op : BinOp} {t u : TypeId} {x y : Operand} {l m : List AV} {b : Bool} {q : Nat} (hop : op = .eql ∨ op = .neq) (ho : o.op = .binOp op t x y u)
    (hx : ev env x = .agg l) (hy : ev env y = .agg m) (hq : kn t = q + 2) (hv : eqV kn T 20 t (.agg l) (.agg m) = some b) : Step P N hp env o (.bool (match op with
      | .neq => !b
      | _ => b)) hp :=
  Step.pure fun g w a _ hE => by
    have h1 := ev_rel hE x
    have h2 := ev_rel hE y
    rw [hx] at h1
    rw [hy] at h2
    have hr := eqV_run hT hk 20 9999 (by omega) hv h1 h2
    have hr' : (Op.equal t (a.eval x) (a.eval y)).run P w = .ok b w := eqV_run hT hk 20 10000 (by omega) hv h1 h2
    simp only [VRel] at h1 h2
    obtain ⟨cs, hc, -⟩ := h1
    obtain ⟨ds, hd, -⟩ := h2
    have hg : (eqGuard op t x y (a.eval x) (a.eval y)).run P w = .ok () w := by
      rw [hc, hd]
      rcases hop with rfl | rfl <;> simp [eqGuard, (hk t q hq).2]
    rw [hc, hd] at hr' hg
    unfold execOp
    simp only [ho, hc, hd]
    rcases hop with rfl | rfl
    · refine ⟨.bool b, ?_, by simp [VRel]⟩
      have : binOp .eql t (.agg cs) (.agg ds) = (do pure (.bool (← Op.equal t (.agg cs) (.agg ds)))) := rfl
      rw [this]
      simp [hg, hr']
    · refine ⟨.bool (!b), ?_, by simp [VRel]⟩
      have : binOp .neq t (.agg cs) (.agg ds) = (do pure (.bool (!(← Op.equal t (.agg cs) (.agg ds))))) := rfl
      rw [this]
      simp [hg, hr']
end
end Go.Vsi
