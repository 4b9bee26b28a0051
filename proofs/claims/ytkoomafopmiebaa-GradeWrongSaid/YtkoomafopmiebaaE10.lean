/- A text of the proof: E10. -/
import Derived.Test.YtkoomafopmiebaaE9
set_option linter.unusedSimpArgs false
set_option linter.unusedVariables false
namespace Go.Vsi

/-! ### the steps that look at no memory, as one function -/
def ikEq : IntKind → IntKind → Bool
  | .i8, .i8 | .i16, .i16 | .i32, .i32 | .i64, .i64 | .u8, .u8 | .u16, .u16 | .u32, .u32 | .u64, .u64 => true
  | _, _ => false
theorem ikEq_spec {a b : IntKind} (h : ikEq a b = true) : a = b := by cases a <;> cases b <;> simp_all [ikEq]

def boolBin : BinOp → Bool → Bool → Option AV
  | .eql, a, b => some (.bool (a == b))
  | .neq, a, b => some (.bool (!(a == b)))
  | _, _, _ => none

def isBoolT (T : TypeId → Option TI) (t : TypeId) : Bool := match T t with
  | some ti => match ti.kind with
    | .bool => true
    | _ => false
  | none => false

def binV (T : TypeId → Option TI) (op : BinOp) (t : TypeId) : AV → AV → Option AV
  | .int k m, .int k' n => match ikEq k k' with
    | true => intBin op k m n
    | false => none
  | .str a, .str b => strBin op a b
  | .bool a, .bool b => match isBoolT T t with
    | true => boolBin op a b
    | false => none
  | _, _ => none

def fieldV (T : TypeId → Option TI) (s : TypeId) (f : Nat) : AV → Option AV
  | .ptr i k => match T s with
    | some ti => match ti.kind with
      | .st fs => match lget fs f with
        | some (_, off, _ + 1, _) => some (.ptr i (k + off))
        | _ => none
      | _ => none
    | none => none
  | .rptr l => match T s with
    | some ti => match ti.kind with
      | .st fs => match lget fs f with
        | some (_, off, _ + 1, _) => (dropC off l).map .rptr
        | _ => none
      | _ => none
    | none => none
  | _ => none

def convV (T : TypeId → Option TI) (s t : TypeId) : AV → Option AV
  | .int _ n => match T s with
    | some _ => match T t with
      | some ti => match ti.kind with
        | .int k => some (.int k (k.wrap n))
        | _ => none
      | none => none
    | none => none
  | _ => none

def lenV (T : TypeId → Option TI) (t : TypeId) : AV → Option AV
  | .sl _ n _ => match T t with
    | some ti => match ti.kind with
      | .sl _ => some (.int .i64 n)
      | _ => none
    | none => none
  | .nils => match T t with
    | some ti => match ti.kind with
      | .sl _ => some (.int .i64 0)
      | _ => none
    | none => none
  | .str s => match T t with
    | some ti => match ti.kind with
      | .str => some (.int .i64 s.size)
      | _ => none
    | none => none
  | _ => none

def minV : AV → AV → Option AV
  | .int k m, .int k' n => match ikEq k k' with
    | true => some (.int k (min m n))
    | false => none
  | _, _ => none
def maxV : AV → AV → Option AV
  | .int k m, .int k' n => match ikEq k k' with
    | true => some (.int k (max m n))
    | false => none
  | _, _ => none

def stepV (T : TypeId → Option TI) (env : Env) : Op → Option AV
  | .move x => nf (ev env x)
  | .assign x => nf (ev env x)
  | .pick c x y => match ev env c with
    | .bool true => nf (ev env x)
    | .bool false => nf (ev env y)
    | _ => none
  | .binOp op t x y _ => binV T op t (ev env x) (ev env y)
  | .unOp .not _ x => match ev env x with
    | .bool b => some (.bool (!b))
    | _ => none
  | .unOp .neg _ x => match ev env x with
    | .int k n => some (.int k (k.wrap (0 - n)))
    | _ => none
  | .convert s t x => convV T s t (ev env x)
  | .extract x i => match ev env x with
    | .tup l => match lget l i with
      | some v => nf v
      | none => none
    | _ => none
  | .fieldAddr s x f => fieldV T s f (ev env x)
  | .nilCheck x => match ev env x with
    | .ptr i k => some (.ptr i k)
    | .rptr l => some (.rptr l)
    | .clo (.func f) fs cs => some (.clo (.func f) fs cs)
    | _ => none
  | .call { callee := .builtin .len, args := ⟨[x]⟩, argTypes := ⟨[t]⟩ } => lenV T t (ev env x)
  | .call { callee := .builtin .min, args := ⟨[x, y]⟩, .. } => minV (ev env x) (ev env y)
  | .call { callee := .builtin .max, args := ⟨[x, y]⟩, .. } => maxV (ev env x) (ev env y)
  | _ => none

section
variable {P : Program} {N : Nat} {all rest : List Oper} {Q : Env → Hp → Prop} {env : Env} {hp hp' : Hp} {o : Oper} {T : TypeId → Option TI}

theorem st_bool (hT : TOk P T) {op : BinOp} {t u : TypeId} {x y : Operand} {m n : Bool} {v : AV} (ho : o.op = .binOp op t x y u)
    (hx : ev env x = .bool m) (hy : ev env y = .bool n) (ht : isBoolT T t = true) (hv : boolBin op m n = some v) : Step P N hp env o v hp :=
  Step.pure fun g w a _ hE => by
    have h1 := ev_rel hE x
    have h2 := ev_rel hE y
    rw [hx] at h1
    rw [hy] at h2
    simp only [VRel] at h1 h2
    have hu : P.underlying t = some .bool := by
      unfold isBoolT at ht
      cases hti : T t with
      | none => simp [hti] at ht
      | some ti =>
        simp only [hti] at ht
        obtain ⟨d, i, e1, e2, e3, -⟩ := tiOf_some (hT _ _ hti)
        rw [e1]
        cases d <;> simp_all [tkOf]
    have he : (Op.equal t (.bool m) (.bool n)).run P w = .ok (m == n) w := run_equalIn_bool' (P := P) w 9999 t m n hu
    unfold execOp
    simp only [ho, h1, h2, eqGuard_at_bool]
    cases op <;> simp only [boolBin, Option.some.injEq, reduceCtorEq] at hv <;> subst hv
    · refine ⟨.bool (m == n), ?_, by simp [VRel]⟩
      have : binOp .eql t (.bool m) (.bool n) = (do pure (.bool (← Op.equal t (.bool m) (.bool n)))) := rfl
      rw [this]
      simp [he]
    · refine ⟨.bool (!(m == n)), ?_, by simp [VRel]⟩
      have : binOp .neq t (.bool m) (.bool n) = (do pure (.bool (!(← Op.equal t (.bool m) (.bool n))))) := rfl
      rw [this]
      simp [he]

theorem stepV_sound (hT : TOk P T) {op : Op} {v : AV} (ho : o.op = op) (h : stepV T env op = some v) : Step P N hp env o v hp := by
  unfold stepV at h
  split at h
  · exact st_move ho h
  · exact st_assign ho h
  · split at h
    · rename_i hc; exact st_pick_t ho hc h
    · rename_i hc; exact st_pick_f ho hc h
    · cases h
  · rename_i op t x y u
    generalize hx : ev env x = vx at h
    generalize hy : ev env y = vy at h
    unfold binV at h
    split at h
    · rename_i k m k' n
      cases hk : ikEq k k' with
      | false => simp [hk] at h
      | true =>
        simp only [hk] at h
        obtain rfl := ikEq_spec hk
        exact st_int ho hx hy h
    · exact st_str ho hx hy h
    · cases hb : isBoolT T t with
      | false => simp [hb] at h
      | true => simp only [hb] at h; exact st_bool hT ho hx hy hb h
    · cases h
  · split at h
    · rename_i b hx; cases h; exact st_not ho hx
    · cases h
  · split at h
    · rename_i k n hx; cases h; exact st_neg ho hx
    · cases h
  · rename_i s t x
    generalize hx : ev env x = vx at h
    unfold convV at h
    split at h
    · cases hs : T s with
      | none => simp [hs] at h
      | some si =>
        cases ht : T t with
        | none => simp [hs, ht] at h
        | some ti =>
          simp only [hs, ht] at h
          split at h
          · rename_i hk; cases h; exact st_conv hT ho hs ht hk hx
          · cases h
    · cases h
  · split at h
    · rename_i l hx
      split at h
      · rename_i v' hl
        obtain rfl := nf_spec h
        exact st_extract ho hx hl
      · cases h
    · cases h
  · rename_i s x f
    generalize hx : ev env x = vx at h
    unfold fieldV at h
    split at h
    · cases hs : T s with
      | none => simp [hs] at h
      | some ti =>
        simp only [hs] at h
        split at h
        · rename_i fs hk
          split at h
          · rename_i hl; cases h; exact st_fieldAddr hT ho hs hk hl hx
          · cases h
        · cases h
    · cases hs : T s with
      | none => simp [hs] at h
      | some ti =>
        simp only [hs] at h
        split at h
        · rename_i fs hk
          split at h
          · rename_i hl
            simp only [Option.map_eq_some_iff] at h
            obtain ⟨l', h1, rfl⟩ := h
            exact st_fieldAddr_r hT ho hs hk hl hx h1
          · cases h
        · cases h
    · cases h
  · split at h
    · rename_i hx; cases h; exact st_nilcheck ho hx
    · rename_i hx; cases h; exact st_nilcheck_r ho hx
    · rename_i hx; cases h; exact st_nilcheck_f ho hx
    · cases h
  · rename_i x t
    generalize hx : ev env x = vx at h
    unfold lenV at h
    split at h
    · cases hs : T t with
      | none => simp [hs] at h
      | some ti =>
        simp only [hs] at h
        split at h
        · rename_i hk; cases h; exact st_len hT ho hs hk hx
        · cases h
    · cases hs : T t with
      | none => simp [hs] at h
      | some ti =>
        simp only [hs] at h
        split at h
        · rename_i hk; cases h; exact st_len_nil hT ho hs hk hx
        · cases h
    · cases hs : T t with
      | none => simp [hs] at h
      | some ti =>
        simp only [hs] at h
        split at h
        · rename_i hk; cases h; exact st_len_str hT ho hs hk hx
        · cases h
    · cases h
  · rename_i x y ts
    generalize hx : ev env x = vx at h
    generalize hy : ev env y = vy at h
    unfold minV at h
    split at h
    · rename_i k m k' n
      cases hk : ikEq k k' with
      | false => simp [hk] at h
      | true =>
        simp only [hk] at h
        obtain rfl := ikEq_spec hk
        cases h
        exact st_min ho hx hy
    · cases h
  · rename_i x y ts
    generalize hx : ev env x = vx at h
    generalize hy : ev env y = vy at h
    unfold maxV at h
    split at h
    · rename_i k m k' n
      cases hk : ikEq k k' with
      | false => simp [hk] at h
      | true =>
        simp only [hk] at h
        obtain rfl := ikEq_spec hk
        cases h
        exact st_max ho hx hy
    · cases h
  · cases h

theorem vo_id (h : VO P N all (o :: rest) Q env hp) : VO P N all (o :: rest) Q env hp := h
theorem vo_v {d : Nat} {v : AV} (hT : TOk P T) (hs : stepV T env o.op = some v) (hg : gd all env o = some true) (hd : o.dst = some d) (hN : Nat.blt d N = true) (h : VO P N all rest Q ((d, v) :: env) hp) :
    VO P N all (o :: rest) Q env hp := vo_step (stepV_sound hT rfl hs) hg hd hN h
end
end Go.Vsi
