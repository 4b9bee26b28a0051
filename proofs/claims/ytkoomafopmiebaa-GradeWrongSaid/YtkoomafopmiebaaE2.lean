/- A text of the proof: E2. -/
import Derived.Test.YtkoomafopmiebaaE1
set_option linter.unusedSimpArgs false
set_option linter.unusedVariables false
namespace Go.Vsi

/-! ### types -/
inductive TK where
  | bool | int (k : IntKind) | str
  | st (fs : List (TypeId × Nat × Nat × Bool))
  | arr (n : Nat) (e : TypeId) | sl (e : TypeId) | ptr (e : TypeId) | mp (k e : TypeId)
  | fn | ifc | other
  deriving Repr

structure TI where
  kind : TK
  sz : Nat
  bytes : Nat
  zero : Option (List AV)

def av1 : Value → AV
  | .int k n => .int k n
  | .bool b => .bool b
  | .string s => .str s
  | .pointer none => .nilp
  | .slice none 0 0 => .nils
  | .map none => .nilm
  | .nilFunc => .nilf
  | .nilIface => .nili
  | _ => .junk

theorem av1_rel (g : G) (w : World) (v : Value) : VRel g w (av1 v) v := by
  unfold av1
  split <;> simp [VRel]
theorem av1s_rel (g : G) (w : World) : ∀ l : List Value, LRel g w (l.map av1) l
  | [] => by simp [LRel]
  | v :: l => by
    simp only [List.map_cons, LRel]
    exact ⟨v, l, rfl, av1_rel g w v, av1s_rel g w l⟩

def isz (P : Program) (t : TypeId) : Nat := match P.info? t with
  | some i => i.size
  | none => 0

def tkOf (P : Program) : TypeDesc → TK
  | .bool => .bool
  | .int k => .int k
  | .string => .str
  | .struct fs => .st (fs.toList.map fun f => (f.type, f.offset, isz P f.type, f.name == "_"))
  | .array n e => .arr n e
  | .slice e => .sl e
  | .pointer e => .ptr e
  | .map k e => .mp k e
  | .func _ _ _ => .fn
  | .interface _ => .ifc
  | _ => .other

def tiOf (P : Program) (t : TypeId) : Option TI :=
  match P.underlying t, P.info? t with
  | some d, some i => some ⟨tkOf P d, i.size, i.bytes, i.zero.map fun z => z.cells.toList.map av1⟩
  | _, _ => none

def aggD : TypeDesc → Bool
  | .struct _ | .array _ _ => true
  | _ => false

/-- the table T tells the truth of P's types -/
def TOk (P : Program) (T : TypeId → Option TI) : Prop := ∀ t ti, T t = some ti → tiOf P t = some ti

section
variable {P : Program}
theorem tiOf_some {t : TypeId} {ti : TI} (h : tiOf P t = some ti) : ∃ d i, P.underlying t = some d ∧ P.info? t = some i ∧ ti.kind = tkOf P d ∧ ti.sz = i.size ∧ ti.bytes = i.bytes ∧ ti.zero = i.zero.map (fun z => z.cells.toList.map av1) := by
  unfold tiOf at h
  split at h
  · rename_i d i h1 h2
    cases h
    exact ⟨d, i, h1, h2, rfl, rfl, rfl, rfl⟩
  · cases h
theorem sizeOf_run {t : TypeId} {i : TypeInfo} (h : P.info? t = some i) (w : World) : (sizeOf t).run P w = .ok i.size w := by
  simp [sizeOf, typeInfo, h]
theorem isAgg_run {t : TypeId} {d : TypeDesc} (h : P.underlying t = some d) (w : World) : (isAgg t).run P w = .ok (aggD d) w := by
  unfold isAgg
  rw [Sem.run_bind, run_underlying h w]
  cases d <;> rfl
end

/-! ### one step of a region -/
def Step (P : Program) (N : Nat) (hp : Hp) (env : Env) (o : Oper) (v : AV) (hp' : Hp) : Prop :=
  ∀ g w a, HRel g w hp → ERel N g w env a →
    ∃ c g' w', (execOp a.eval o).run P w = .ok (.value c) w' ∧ HRel g' w' hp' ∧ VRel g' w' v c ∧ Ext g w g' w'
def StepU (P : Program) (N : Nat) (hp : Hp) (env : Env) (o : Oper) (hp' : Hp) : Prop :=
  ∀ g w a, HRel g w hp → ERel N g w env a →
    ∃ g' w', (execOp a.eval o).run P w = .ok .skip w' ∧ HRel g' w' hp' ∧ Ext g w g' w'

def bb (want b : Bool) : Bool := match want with
  | true => b
  | false => !b

def gd (all : List Oper) (env : Env) (o : Oper) : Option Bool :=
  match o.guard with
  | none => some true
  | some (j, want) => match lget all j with
    | some oj => match oj.dst with
      | some d => match get env d with
        | .bool b => some (bb want b)
        | .tup [] => some false
        | _ => none
      | none => none
    | none => none

theorem gd_wanted {N : Nat} {g : G} {w : World} {all : List Oper} {env : Env} {a : Act} {o : Oper} {b : Bool} (he : ERel N g w env a) (hgd : gd all env o = some b) :
    Region.wanted o (yielded all.toArray a.tmps) = b := by
  unfold gd at hgd
  unfold Region.wanted
  split at hgd
  · rename_i h; simp only [h]; simpa using hgd
  · rename_i j want h
    simp only [h]
    cases hj : lget all j with
    | none => simp [hj] at hgd
    | some oj =>
    simp only [hj] at hgd
    cases hd : oj.dst with
    | none => simp [hd] at hgd
    | some d =>
    simp only [hd] at hgd
    split at hgd
    case h_3 => cases hgd
    case h_2 =>
      rename_i hb
      simp only [Option.some.injEq] at hgd
      subst hgd
      have hr := he.2 d
      rw [hb] at hr
      simp only [VRel] at hr
      obtain ⟨cs, hr, hl⟩ := hr
      have hcs : cs = #[] := by
        simp only [LRel] at hl
        exact Array.toList_eq_nil_iff.1 hl
      subst hcs
      rw [lget_eq] at hj
      have hy : yielded all.toArray a.tmps j = none := by
        unfold yielded
        simp only [List.getElem?_toArray, hj, Option.bind_some, hd]
        cases ht : a.tmps[d]? with
        | none => rfl
        | some v =>
          have : a.tmps.getD d undef = v := by simp [ht]
          rw [this] at hr
          subst hr
          rfl
      rw [hy]
      cases want <;> rfl
    rename_i b' hb
    have hr := he.2 d
    rw [hb] at hr
    simp only [VRel] at hr
    rw [lget_eq] at hj
    have hlt : d < a.tmps.size := by
      rcases Nat.lt_or_ge d a.tmps.size with h1 | h1
      · exact h1
      · exfalso
        have : a.tmps.getD d undef = undef := by simp [Array.getElem?_eq_none h1]
        rw [this] at hr
        cases hr
    have h3 : a.tmps[d]? = some (.bool b') := by
      rw [Array.getElem?_eq_getElem hlt]
      have : a.tmps.getD d undef = a.tmps[d] := by simp [hlt]
      rw [this] at hr
      rw [hr]
    have hy : yielded all.toArray a.tmps j = some b' := by
      simp [yielded, hj, hd, h3]
    rw [hy]
    have hgb : bb want b' = b := by simpa using hgd
    rw [← hgb]
    cases want <;> cases b' <;> rfl

section
variable {P : Program} {N : Nat} {all rest : List Oper} {Q : Env → Hp → Prop} {env : Env} {hp hp' : Hp} {o : Oper}

theorem vo_nil (h : Q env hp) : VO P N all [] Q env hp :=
  fun _ _ g w a _ hH hE hx k => wpList_nil (k env hp g a w h hH hE hx rfl)

theorem vo_step {d : Nat} {v : AV} (hs : Step P N hp env o v hp') (hg : gd all env o = some true) (hd : o.dst = some d) (hN : Nat.blt d N = true) (h : VO P N all rest Q ((d, v) :: env) hp') :
    VO P N all (o :: rest) Q env hp := by
  intro g0 w0 g w a Qc hH hE hx k
  unfold wpList
  rw [if_pos (gd_wanted hE hg)]
  refine .inl ?_
  obtain ⟨c, g', w', hr, hH', hv, hx'⟩ := hs g w a hH hE
  unfold Oper.wp
  rw [hr, Oper.upon_value, hd]
  exact h g0 w0 g' w' _ Qc hH' ((hE.ext hx').put hN hv) (hx.trans hx') (fun e1 h1 g1 a1 w1 q1 q2 q3 q4 q5 => k e1 h1 g1 a1 w1 q1 q2 q3 q4 (by rw [q5]; rfl))

theorem vo_stepU (hs : StepU P N hp env o hp') (hg : gd all env o = some true) (hd : o.dst = none) (h : VO P N all rest Q env hp') :
    VO P N all (o :: rest) Q env hp := by
  intro g0 w0 g w a Qc hH hE hx k
  unfold wpList
  rw [if_pos (gd_wanted hE hg)]
  refine .inl ?_
  obtain ⟨g', w', hr, hH', hx'⟩ := hs g w a hH hE
  unfold Oper.wp
  rw [hr, Oper.upon_skip, hd]
  exact h g0 w0 g' w' _ Qc hH' (hE.ext hx') (hx.trans hx') k

theorem vo_skipped {d : Nat} (hg : gd all env o = some false) (hd : o.dst = some d) (hN : Nat.blt d N = true) (h : VO P N all rest Q ((d, .tup []) :: env) hp) :
    VO P N all (o :: rest) Q env hp := by
  intro g0 w0 g w a Qc hH hE hx k
  unfold wpList
  rw [if_neg (by rw [gd_wanted hE hg]; simp), hd]
  exact h g0 w0 g w _ Qc hH (hE.put hN (by simp only [VRel]; exact ⟨#[], rfl, by simp [LRel]⟩)) hx (fun e1 h1 g1 a1 w1 q1 q2 q3 q4 q5 => k e1 h1 g1 a1 w1 q1 q2 q3 q4 (by rw [q5]; rfl))

theorem vo_skippedU (hg : gd all env o = some false) (hd : o.dst = none) (h : VO P N all rest Q env hp) :
    VO P N all (o :: rest) Q env hp := by
  intro g0 w0 g w a Qc hH hE hx k
  unfold wpList
  rw [if_neg (by rw [gd_wanted hE hg]; simp), hd]
  exact h g0 w0 g w _ Qc hH hE hx k

/-- the value that an operation's guard looks at -/
def gdv (all : List Oper) (env : Env) (o : Oper) : Option Bool :=
  match o.guard with
  | none => none
  | some (j, _) => match lget all j with
    | some oj => match oj.dst with
      | some d => match get env d with
        | .bool b => some b
        | _ => none
      | none => none
    | none => none
theorem vo_split {b : Bool} (_hg : gdv all env o = some b) (ht : b = true → VO P N all (o :: rest) Q env hp) (hf : b = false → VO P N all (o :: rest) Q env hp) :
    VO P N all (o :: rest) Q env hp := by
  cases b
  · exact hf rfl
  · exact ht rfl

/-! ### steps that look at no memory -/
theorem Step.pure {v : AV} (h : ∀ (g : G) (w : World) (a : Act), HRel g w hp → ERel N g w env a → ∃ c, (execOp a.eval o).run P w = .ok (.value c) w ∧ VRel g w v c) : Step P N hp env o v hp :=
  fun g w a hH hE => by
    obtain ⟨c, h1, h2⟩ := h g w a hH hE
    exact ⟨c, g, w, h1, hH, h2, Ext.refl g w⟩

/-- a value, its head laid open -/
def nf : AV → Option AV
  | .bool b => some (.bool b)
  | .int k n => some (.int k n)
  | .str s => some (.str s)
  | .nilp => some .nilp
  | .ptr i o => some (.ptr i o)
  | .rptr l => some (.rptr l)
  | .nilf => some .nilf
  | .clo fn fs cs => some (.clo fn fs cs)
  | .nili => some .nili
  | .ifc t v => some (.ifc t v)
  | .nils => some .nils
  | .sl t n l => some (.sl t n l)
  | .sx n l => some (.sx n l)
  | .ms i o n => some (.ms i o n)
  | .nilm => some .nilm
  | .mp i => some (.mp i)
  | .rmp ks vs => some (.rmp ks vs)
  | .agg l => some (.agg l)
  | .tup l => some (.tup l)
  | .junk => some .junk
theorem nf_spec {v v' : AV} (h : nf v = some v') : v = v' := by
  cases v <;> simpa [nf] using h

theorem st_move {x : Operand} {v : AV} (ho : o.op = .move x) (hv : nf (ev env x) = some v) : Step P N hp env o v hp :=
  Step.pure fun _ _ a _ hE => ⟨a.eval x, by simp [execOp, ho], by rw [← nf_spec hv]; exact ev_rel hE x⟩
theorem st_assign {x : Operand} {v : AV} (ho : o.op = .assign x) (hv : nf (ev env x) = some v) : Step P N hp env o v hp :=
  Step.pure fun _ _ a _ hE => ⟨a.eval x, by simp [execOp, ho], by rw [← nf_spec hv]; exact ev_rel hE x⟩
theorem st_pick_t {c x y : Operand} {v : AV} (ho : o.op = .pick c x y) (hc : ev env c = .bool true) (hv : nf (ev env x) = some v) : Step P N hp env o v hp :=
  Step.pure fun _ _ a _ hE => ⟨a.eval x, by
    have h := ev_rel hE c
    rw [hc] at h
    simp only [VRel] at h
    simp [execOp, ho, h, asBool], by rw [← nf_spec hv]; exact ev_rel hE x⟩
theorem st_pick_f {c x y : Operand} {v : AV} (ho : o.op = .pick c x y) (hc : ev env c = .bool false) (hv : nf (ev env y) = some v) : Step P N hp env o v hp :=
  Step.pure fun _ _ a _ hE => ⟨a.eval y, by
    have h := ev_rel hE c
    rw [hc] at h
    simp only [VRel] at h
    simp [execOp, ho, h, asBool], by rw [← nf_spec hv]; exact ev_rel hE y⟩

def intBin : BinOp → IntKind → Int → Int → Option AV
  | .add, k, a, b => some (.int k (k.wrap (a + b)))
  | .sub, k, a, b => some (.int k (k.wrap (a - b)))
  | .mul, k, a, b => some (.int k (k.wrap (a * b)))
  | .and, k, a, b => some (.int k (bits .and k a b))
  | .or, k, a, b => some (.int k (bits .or k a b))
  | .xor, k, a, b => some (.int k (bits .xor k a b))
  | .andNot, k, a, b => some (.int k (bits .andNot k a b))
  | .eql, _, a, b => some (.bool (a == b))
  | .neq, _, a, b => some (.bool (a != b))
  | .lss, _, a, b => some (.bool (decide (a < b)))
  | .leq, _, a, b => some (.bool (decide (a ≤ b)))
  | .gtr, _, a, b => some (.bool (decide (b < a)))
  | .geq, _, a, b => some (.bool (decide (b ≤ a)))
  | _, _, _, _ => none

theorem eqGuard_int (op : BinOp) (t : TypeId) (x y : Operand) (k : IntKind) (n : Int) (v : Value) : eqGuard op t x y (.int k n) v = pure () := by cases op <;> rfl

theorem st_int {op : BinOp} {t u : TypeId} {x y : Operand} {k : IntKind} {m n : Int} {v : AV} (ho : o.op = .binOp op t x y u)
    (hx : ev env x = .int k m) (hy : ev env y = .int k n) (hv : intBin op k m n = some v) : Step P N hp env o v hp :=
  Step.pure fun g w a _ hE => by
    have h1 := ev_rel hE x
    have h2 := ev_rel hE y
    rw [hx] at h1
    rw [hy] at h2
    simp only [VRel] at h1 h2
    unfold execOp
    simp only [ho, h1, h2, eqGuard_int]
    cases op <;> simp only [intBin, Option.some.injEq, reduceCtorEq] at hv <;> subst hv <;>
      simp [binOp, Op.intArith, Op.intCmp, intBits_and, intBits_or, intBits_xor, intBits_andNot, VRel]

theorem st_quo {t u : TypeId} {x y : Operand} {k : IntKind} {m n : Int} (ho : o.op = .binOp .quo t x y u)
    (hx : ev env x = .int k m) (hy : ev env y = .int k n) (hn : n ≠ 0) : Step P N hp env o (.int k (k.wrap (m.tdiv n))) hp :=
  Step.pure fun g w a _ hE => by
    have h1 := ev_rel hE x
    have h2 := ev_rel hE y
    rw [hx] at h1
    rw [hy] at h2
    simp only [VRel] at h1 h2
    unfold execOp
    simp only [ho, h1, h2, eqGuard_int]
    simp [binOp, Op.intDiv, hn, VRel]
theorem st_rem {t u : TypeId} {x y : Operand} {k : IntKind} {m n : Int} (ho : o.op = .binOp .rem t x y u)
    (hx : ev env x = .int k m) (hy : ev env y = .int k n) (hn : n ≠ 0) : Step P N hp env o (.int k (m.tmod n)) hp :=
  Step.pure fun g w a _ hE => by
    have h1 := ev_rel hE x
    have h2 := ev_rel hE y
    rw [hx] at h1
    rw [hy] at h2
    simp only [VRel] at h1 h2
    unfold execOp
    simp only [ho, h1, h2, eqGuard_int]
    simp [binOp, Op.intDiv, hn, VRel]
theorem st_shl {t u : TypeId} {x y : Operand} {k k' : IntKind} {m n : Int} (ho : o.op = .binOp .shl t x y u)
    (hx : ev env x = .int k m) (hy : ev env y = .int k' n) (hn : 0 ≤ n) : Step P N hp env o (.int k (k.wrap (m * 2 ^ min n.toNat k.bits))) hp :=
  Step.pure fun g w a _ hE => by
    have h1 := ev_rel hE x
    have h2 := ev_rel hE y
    rw [hx] at h1
    rw [hy] at h2
    simp only [VRel] at h1 h2
    unfold execOp
    simp only [ho, h1, h2, eqGuard_int]
    have : ¬ n < 0 := by omega
    simp [binOp, Op.shift, this, VRel]
theorem st_shr {t u : TypeId} {x y : Operand} {k k' : IntKind} {m n : Int} (ho : o.op = .binOp .shr t x y u)
    (hx : ev env x = .int k m) (hy : ev env y = .int k' n) (hn : 0 ≤ n) : Step P N hp env o (.int k (m.fdiv (2 ^ min n.toNat k.bits))) hp :=
  Step.pure fun g w a _ hE => by
    have h1 := ev_rel hE x
    have h2 := ev_rel hE y
    rw [hx] at h1
    rw [hy] at h2
    simp only [VRel] at h1 h2
    unfold execOp
    simp only [ho, h1, h2, eqGuard_int]
    have : ¬ n < 0 := by omega
    simp [binOp, Op.shift, this, VRel]

def strBin : BinOp → ByteArray → ByteArray → Option AV
  | .eql, a, b => some (.bool (a.toList == b.toList))
  | .neq, a, b => some (.bool (!(a.toList == b.toList)))
  | .lss, a, b => some (.bool (Op.bytesLess a.toList b.toList))
  | .leq, a, b => some (.bool (Op.bytesLess a.toList b.toList || a.toList == b.toList))
  | .gtr, a, b => some (.bool (!(Op.bytesLess a.toList b.toList || a.toList == b.toList)))
  | .geq, a, b => some (.bool (!(Op.bytesLess a.toList b.toList)))
  | _, _, _ => none
theorem st_str {op : BinOp} {t u : TypeId} {x y : Operand} {m n : ByteArray} {v : AV} (ho : o.op = .binOp op t x y u)
    (hx : ev env x = .str m) (hy : ev env y = .str n) (hv : strBin op m n = some v) : Step P N hp env o v hp :=
  Step.pure fun g w a _ hE => by
    have h1 := ev_rel hE x
    have h2 := ev_rel hE y
    rw [hx] at h1
    rw [hy] at h2
    simp only [VRel] at h1 h2
    unfold execOp
    simp only [ho, h1, h2, eqGuard_at_string]
    cases op <;> simp only [strBin, Option.some.injEq, reduceCtorEq] at hv <;> subst hv <;>
      simp [binOp, Op.stringOp, VRel]

theorem st_not {t : TypeId} {x : Operand} {b : Bool} (ho : o.op = .unOp .not t x) (hx : ev env x = .bool b) : Step P N hp env o (.bool (!b)) hp :=
  Step.pure fun g w a _ hE => by
    have h1 := ev_rel hE x
    rw [hx] at h1
    simp only [VRel] at h1
    simp [execOp, ho, h1, Op.unary, VRel]
theorem st_neg {t : TypeId} {x : Operand} {k : IntKind} {n : Int} (ho : o.op = .unOp .neg t x) (hx : ev env x = .int k n) : Step P N hp env o (.int k (k.wrap (0 - n))) hp :=
  Step.pure fun g w a _ hE => by
    have h1 := ev_rel hE x
    rw [hx] at h1
    simp only [VRel] at h1
    simp [execOp, ho, h1, Op.unary, Op.intArith, VRel]

theorem st_conv {T : TypeId → Option TI} (hT : TOk P T) {s t : TypeId} {x : Operand} {k k' : IntKind} {n : Int} {si ti : TI} (ho : o.op = .convert s t x)
    (hs : T s = some si) (ht : T t = some ti) (hk : ti.kind = .int k') (hx : ev env x = .int k n) : Step P N hp env o (.int k' (k'.wrap n)) hp :=
  Step.pure fun g w a _ hE => by
    have h1 := ev_rel hE x
    rw [hx] at h1
    simp only [VRel] at h1
    obtain ⟨d, i, e1, e2, e3, -⟩ := tiOf_some (hT _ _ hs)
    obtain ⟨d', i', f1, f2, f3, -⟩ := tiOf_some (hT _ _ ht)
    rw [hk] at f3
    have hd : d' = .int k' := by
      cases d' <;> simp [tkOf] at f3
      rw [f3]
    subst hd
    unfold execOp
    simp [ho, h1, convert, run_underlying e1, run_underlying f1, Conv.intToInt, VRel]

theorem st_extract {x : Operand} {i : Nat} {l : List AV} {v : AV} (ho : o.op = .extract x i) (hx : ev env x = .tup l) (hv : lget l i = some v) : Step P N hp env o v hp :=
  Step.pure fun g w a _ hE => by
    have h1 := ev_rel hE x
    rw [hx] at h1
    simp only [VRel] at h1
    obtain ⟨cs, hc, hl⟩ := h1
    rw [lget_eq] at hv
    have : ∀ (l : List AV) (cs : List Value) (i : Nat), LRel g w l cs → l[i]? = some v → ∃ c, cs[i]? = some c ∧ VRel g w v c := by
      intro l
      induction l with
      | nil => intro cs i _ h; simp at h
      | cons x l ih =>
        intro cs i hl h
        simp only [LRel] at hl
        obtain ⟨c, r, rfl, hvc, hr⟩ := hl
        cases i with
        | zero => simp at h; subst h; exact ⟨c, by simp, hvc⟩
        | succ i => simpa using ih r i hr (by simpa using h)
    obtain ⟨c, hc', hv'⟩ := this l cs.toList i hl hv
    refine ⟨c, ?_, hv'⟩
    have : cs[i]? = some c := by simpa using hc'
    simp [execOp, ho, hc, Instr.extract, this]

theorem evs_rel {g : G} {w : World} {a : Act} (hE : ERel N g w env a) : ∀ l : List Operand, LRel g w (l.map (ev env)) (l.map a.eval)
  | [] => by simp [LRel]
  | x :: l => by
    simp only [List.map_cons, LRel]
    exact ⟨_, _, rfl, ev_rel hE x, evs_rel hE l⟩

theorem st_func {fn : Fn} {fs cs : List Operand} (ho : o.op = .makeFunc fn fs.toArray cs.toArray) : Step P N hp env o (.clo fn (fs.map (ev env)) (cs.map (ev env))) hp :=
  Step.pure fun g w a _ hE => by
    refine ⟨.func fn (fs.map a.eval).toArray (cs.map a.eval).toArray, ?_, ?_⟩
    · simp [execOp, ho, Instr.makeFunc]
    · simp only [VRel]
      exact ⟨_, _, rfl, evs_rel hE fs, evs_rel hE cs⟩

theorem st_nilcheck {x : Operand} {i k : Nat} (ho : o.op = .nilCheck x) (hx : ev env x = .ptr i k) : Step P N hp env o (.ptr i k) hp :=
  Step.pure fun g w a _ hE => by
    have h1 := ev_rel hE x
    rw [hx] at h1
    have h1' := h1
    simp only [VRel] at h1
    refine ⟨a.eval x, ?_, h1'⟩
    simp [execOp, ho, h1.2]
theorem st_nilcheck_r {x : Operand} {l : List AV} (ho : o.op = .nilCheck x) (hx : ev env x = .rptr l) : Step P N hp env o (.rptr l) hp :=
  Step.pure fun g w a _ hE => by
    have h1 := ev_rel hE x
    rw [hx] at h1
    have h1' := h1
    simp only [VRel] at h1
    obtain ⟨b, o', hc, -⟩ := h1
    refine ⟨a.eval x, ?_, h1'⟩
    simp [execOp, ho, hc]
theorem st_nilcheck_f {x : Operand} {f : FuncId} {fs cs : List AV} (ho : o.op = .nilCheck x) (hx : ev env x = .clo (.func f) fs cs) : Step P N hp env o (.clo (.func f) fs cs) hp :=
  Step.pure fun g w a _ hE => by
    have h1 := ev_rel hE x
    rw [hx] at h1
    have h1' := h1
    simp only [VRel] at h1
    obtain ⟨b, o', hc, -⟩ := h1
    refine ⟨a.eval x, ?_, h1'⟩
    simp [execOp, ho, hc]
end
end Go.Vsi
