/- A text of the proof: E6. -/
import Derived.Test.YtkoomafopmiebaaE5
set_option linter.unusedSimpArgs false
set_option linter.unusedVariables false
namespace Go.Vsi

section
variable {P : Program} {N : Nat} {env : Env} {hp hp' : Hp} {o : Oper} {T : TypeId → Option TI}

/-! ### build -/
def fillC (place : Nat → Option (Nat × Nat)) (cells : List AV) : List (Nat × AV) → Option (List AV)
  | [] => some cells
  | (i, v) :: rest => match place i with
    | none => none
    | some (off, size) => match Nat.beq v.cells.length size with
      | true => match setC cells off v.cells with
        | some cells' => fillC place cells' rest
        | none => none
      | false => none

def oneOrAgg : AV → Bool
  | .agg _ => true
  | v => v.one
theorem oneOrAgg_spec {v : AV} (h : oneOrAgg v = true) : v.one = true ∨ ∃ l, v = .agg l := by
  cases v <;> simp_all [oneOrAgg, AV.one]

theorem foldl_set (cs : Array Value) : ∀ (vs : List Value) (off k : Nat), k + off + vs.length ≤ cs.size →
    ((vs.zipIdx k).foldl (fun (a : Array Value) (x : Value × Nat) => a.setIfInBounds (off + x.2) x.1) cs).toList = cs.toList.take (off + k) ++ vs ++ cs.toList.drop (off + k + vs.length) := by
  intro vs
  induction vs generalizing cs with
  | nil => intro off k _; simp
  | cons v vs ih =>
    intro off k hk
    simp only [List.zipIdx_cons, List.foldl_cons, List.length_cons] at hk ⊢
    rw [ih (cs.setIfInBounds (off + k) v) off (k + 1) (by simp; omega)]
    simp only [Array.toList_setIfInBounds]
    have hlt : off + k < cs.toList.length := by simp; omega
    rw [show off + (k + 1) = (off + k) + 1 by omega, List.take_set, List.drop_set_of_lt (by omega), List.take_succ_eq_append_getElem hlt]
    have h1 : ((cs.toList.take (off + k) ++ [cs.toList[off + k]]).set (off + k) v) = cs.toList.take (off + k) ++ [v] := by
      have hl : (cs.toList.take (off + k)).length = off + k := by simp; omega
      rw [List.set_append_right _ _ (by omega), hl]
      simp
    rw [h1]
    simp only [List.append_assoc, List.cons_append]
    rw [show off + k + 1 + vs.length = off + k + (vs.length + 1) by omega]
    rfl

theorem fill_rel {g : G} {w : World} {place : Nat → Option (Nat × Nat)} : ∀ (parts : List (Nat × AV)) (vals : List (Nat × Value)) (l r : List AV) (cs : Array Value),
    (∀ p ∈ parts, oneOrAgg p.2 = true) → vals.length = parts.length → (∀ (j : Nat) p q, parts[j]? = some p → vals[j]? = some q → p.1 = q.1 ∧ VRel g w p.2 q.2) → LRel g w l cs.toList →
    fillC place l parts = some r → ∃ cs', Instr.fill place cs vals = some cs' ∧ LRel g w r cs'.toList
  | [], vals, l, r, cs, _, hlen, _, hl, h => by
    have : vals = [] := List.eq_nil_of_length_eq_zero (by simpa using hlen)
    subst this
    simp only [fillC, Option.some.injEq] at h
    subst h
    exact ⟨cs, rfl, hl⟩
  | (i, v) :: parts, [], l, r, cs, _, hlen, _, _, _ => by simp at hlen
  | (i, v) :: parts, (i', c) :: vals, l, r, cs, hone, hlen, hrel, hl, h => by
    obtain ⟨e1, e2⟩ := hrel 0 (i, v) (i', c) (by simp) (by simp)
    simp only at e1 e2
    subst e1
    simp only [fillC] at h
    cases hp : place i with
    | none => simp [hp] at h
    | some os =>
    obtain ⟨off, size⟩ := os
    simp only [hp] at h
    cases hb : Nat.beq v.cells.length size with
    | false => simp [hb] at h
    | true =>
    simp only [hb] at h
    cases hs : setC l off v.cells with
    | none => simp [hs] at h
    | some l' =>
    simp only [hs] at h
    obtain ⟨f1, f2⟩ := setC_eq _ _ _ _ hs
    have hvc := e2.cells (oneOrAgg_spec (hone (i, v) (by simp)))
    have hcl := hvc.length
    have hll := hl.length
    simp only [Array.length_toList] at hcl hll
    have hsz : v.cells.length = size := Nat.eq_of_beq_eq_true hb
    have hfold := foldl_set cs c.cells.toList off 0 (by simp; omega)
    simp only [Nat.add_zero, Array.length_toList] at hfold
    have hz : c.cells.zipIdx.foldl (fun cs (x : Value × Nat) => cs.setIfInBounds (off + x.2) x.1) cs = (c.cells.toList.zipIdx 0).foldl (fun cs (x : Value × Nat) => cs.setIfInBounds (off + x.2) x.1) cs := by
      rw [← Array.foldl_toList]
      simp
    have hl' : LRel g w l' (c.cells.zipIdx.foldl (fun cs (x : Value × Nat) => cs.setIfInBounds (off + x.2) x.1) cs).toList := by
      rw [hz, hfold, f1]
      have := ((hl.take off).append hvc).append (hl.drop (off + v.cells.length))
      rw [← hcl] at this ⊢
      exact this
    obtain ⟨cs', g1, g2⟩ := fill_rel parts vals l' r _ (fun p hp => hone p (by simp [hp])) (by simpa using hlen)
      (fun j p q h1 h2 => hrel (j + 1) p q (by simpa using h1) (by simpa using h2)) hl' h
    refine ⟨cs', ?_, g2⟩
    have hn : (decide (c.cells.size ≠ size) || decide (off + c.cells.size > cs.size)) = false := by
      simp only [Bool.or_eq_false_iff, decide_eq_false_iff_not]; omega
    simp only [Instr.fill, hp]
    rw [hn]
    exact g1

def evParts (env : Env) : List (Nat × Operand) → List (Nat × AV)
  | [] => []
  | (i, x) :: l => (i, ev env x) :: evParts env l
theorem evParts_map (env : Env) : ∀ l : List (Nat × Operand), evParts env l = l.map fun p => (p.1, ev env p.2)
  | [] => rfl
  | (i, x) :: l => by simp [evParts, evParts_map env l]

def allOA : List (Nat × AV) → Bool
  | [] => true
  | (_, v) :: l => match oneOrAgg v with
    | true => allOA l
    | false => false
theorem allOA_mem : ∀ (l : List (Nat × AV)), allOA l = true → ∀ p ∈ l, oneOrAgg p.2 = true
  | [], _, p, hp => by cases hp
  | (i, v) :: l, h, p, hp => by
    simp only [allOA] at h
    cases hv : oneOrAgg v with
    | false => simp [hv] at h
    | true =>
      simp only [hv] at h
      cases hp with
      | head => exact hv
      | tail _ hm => exact allOA_mem l h p hm

theorem parts_rel {g : G} {w : World} {a : Act} (hE : ERel N g w env a) (parts : List (Nat × Operand)) : ∀ (j : Nat) p q, (evParts env parts)[j]? = some p → (parts.map fun (p : Nat × Operand) => (p.1, a.eval p.2))[j]? = some q → p.1 = q.1 ∧ VRel g w p.2 q.2 := by
  intro j p q h1 h2
  rw [evParts_map] at h1
  simp only [List.getElem?_map, Option.map_eq_some_iff] at h1 h2
  obtain ⟨x, hx, rfl⟩ := h1
  obtain ⟨y, hy, rfl⟩ := h2
  rw [hx] at hy
  cases hy
  exact ⟨rfl, ev_rel hE _⟩

def stPlace (fs : List (TypeId × Nat × Nat × Bool)) (i : Nat) : Option (Nat × Nat) := (lget fs i).map fun f => (f.2.1, f.2.2.1)
def arrPlace (sz : Nat) (i : Nat) : Option (Nat × Nat) := some (i * sz, sz)

theorem mapM_places (w : World) : ∀ (fields : List Field), (∀ f ∈ fields, (P.info? f.type).isSome = true) → (fields.mapM (fun f => do pure (f.offset, ← sizeOf f.type) : Field → Sem (Nat × Nat))).run P w = .ok (fields.map fun f => (f.offset, isz P f.type)) w
  | [], _ => by simp
  | f :: fs, h => by
    have hf := h f (by simp)
    cases hi : P.info? f.type with
    | none => simp [hi] at hf
    | some i =>
      have h1 : (do pure (f.offset, ← sizeOf f.type) : Sem (Nat × Nat)).run P w = .ok (f.offset, isz P f.type) w := by simp [sizeOf_run hi, isz, hi]
      rw [List.mapM_cons, Sem.run_bind, h1, Result.andThen_ok, Sem.run_bind, mapM_places w fs (fun x hx => h x (by simp [hx]))]
      rfl

/-- all types of fields are known -/
def fieldsKnown (P : Program) (t : TypeId) : Bool := match P.underlying t with
  | some (.struct fs) => fs.toList.all fun f => (P.info? f.type).isSome
  | _ => true

theorem st_build (hT : TOk P T) {t : TypeId} {ti : TI} {fs : List (TypeId × Nat × Nat × Bool)} {parts : List (Nat × Operand)} {z l : List AV} (ho : o.op = .build t parts.toArray) (ht : T t = some ti)
    (hk : ti.kind = .st fs) (hz : ti.zero = some z) (hkn : fieldsKnown P t = true) (h1 : allOA (evParts env parts) = true) (hl : fillC (stPlace fs) z (evParts env parts) = some l) :
    Step P N hp env o (.agg l) hp :=
  Step.pure fun g w a hH hE => by
    obtain ⟨d, i, e1, e2, e3, e4, e5, e6⟩ := tiOf_some (hT _ _ ht)
    rw [hk] at e3
    obtain ⟨fields, rfl, hfs⟩ := st_field_of e3
    rw [hz] at e6
    cases hiz : i.zero with
    | none => rw [hiz] at e6; cases e6
    | some zv =>
    rw [hiz] at e6
    simp only [Option.map_some, Option.some.injEq] at e6
    have hplace : (fun i => (fields.toList.map fun f => (f.offset, isz P f.type)).toArray[i]?) = stPlace fs := by
      funext i
      simp [stPlace, lget_eq, hfs, Option.map_map, Function.comp_def]
    obtain ⟨cs', f1, f2⟩ := fill_rel (g := g) (w := w) (place := stPlace fs) (evParts env parts) (parts.map fun p => (p.1, a.eval p.2)) z l zv.cells (allOA_mem _ h1) (by simp [evParts_map]) (parts_rel hE parts)
      (by rw [e6]; exact av1s_rel g w _) hl
    refine ⟨.agg cs', ?_, by simp only [VRel]; exact ⟨cs', rfl, f2⟩⟩
    have hkn' : ∀ f ∈ fields.toList, (P.info? f.type).isSome = true := by
      simp only [fieldsKnown, e1, List.all_eq_true] at hkn
      exact hkn
    have hm := mapM_places (P := P) w fields.toList hkn'
    have hm' : (fields.mapM (fun f => do pure (f.offset, ← sizeOf f.type) : Field → Sem (Nat × Nat))).run P w = .ok (fields.toList.map fun f => (f.offset, isz P f.type)).toArray w := by
      rw [Array.mapM_eq_mapM_toList, Sem.run_map, hm]
      rfl
    have hfill : Instr.fill (fun x => (fields.toList.map fun f => (f.offset, isz P f.type)).toArray[x]?) zv.cells (parts.map fun p => (p.1, a.eval p.2)) = some cs' := by
      rw [hplace]; exact f1
    unfold execOp
    simp only [ho]
    simp only [Instr.build, zeroValue, typeInfo, Sem.run_bind, run_program, Result.andThen_ok, e2, Sem.run_pure, hiz, run_underlying e1, hm']
    simp only [List.map_toArray, List.getElem?_toArray, List.getElem?_map, Array.getElem?_toList] at hfill ⊢
    simp [hfill]
end
end Go.Vsi
