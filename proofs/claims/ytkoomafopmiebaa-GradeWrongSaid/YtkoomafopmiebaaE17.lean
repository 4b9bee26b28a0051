/- A text of the proof: E17. -/
import Derived.Test.YtkoomafopmiebaaE16
import Derived.IntWalk
set_option linter.unusedSimpArgs false
set_option linter.unusedVariables false
namespace Go.Vsi

/-! ### slices, whatever is known of their spare room -/
def slOf : AV → Option (Nat × List AV)
  | .sl _ n l => some (n, l)
  | .sx n l => some (n, l)
  | .nils => some (0, [])
  | _ => none

theorem slOf_rel {g : G} {w : World} {v : AV} {c : Value} {n : Nat} {l : List AV} (h : VRel g w v c) (hs : slOf v = some (n, l)) : ∃ A cap, c = .slice A n cap ∧ n ≤ cap ∧ (l = [] ∨ ∃ b o, A = some ⟨b, o, none⟩ ∧ MRel g w l b o) := by
  cases v <;> simp only [slOf, Option.some.injEq, Prod.mk.injEq, reduceCtorEq] at hs
  case nils => obtain ⟨rfl, rfl⟩ := hs; simp only [VRel] at h; exact ⟨none, 0, h, Nat.le_refl _, .inl rfl⟩
  case sl => obtain ⟨rfl, rfl⟩ := hs; simp only [VRel] at h; obtain ⟨A, cap, h1, h2, h3, -⟩ := h; exact ⟨A, cap, h1, h2, h3⟩
  case sx => obtain ⟨rfl, rfl⟩ := hs; simp only [VRel] at h; obtain ⟨A, h1, h2⟩ := h; exact ⟨A, _, h1, Nat.le_refl _, h2⟩

section
variable {P : Program} {N : Nat} {env : Env} {hp hp' : Hp} {o : Oper} {T : TypeId → Option TI}

theorem st_lenS (hT : TOk P T) {t e : TypeId} {x : Operand} {ti : TI} {n : Nat} {l : List AV} (ho : o.op = .call { callee := .builtin .len, args := #[x], argTypes := #[t] }) (ht : T t = some ti)
    (hk : ti.kind = .sl e) (hx : slOf (ev env x) = some (n, l)) : Step P N hp env o (.int .i64 n) hp :=
  Step.pure fun g w a _ hE => by
    obtain ⟨A, cap, hc, -⟩ := slOf_rel (ev_rel hE x) hx
    obtain ⟨d, i', e1, e2, e3, -⟩ := tiOf_some (hT _ _ ht)
    rw [hk] at e3
    have hd : d = .slice e := by cases d <;> simp [tkOf] at e3; rw [e3]
    subst hd
    refine ⟨.int .i64 n, ?_, by simp [VRel]⟩
    simp [execOp, ho, resolve, invoke, builtin, Builtin.len_, hc, run_underlying e1, goInt]

theorem st_indexS (hT : TOk P T) {t e : TypeId} {x y : Operand} {ti ei : TI} {n : Nat} {l l' : List AV} {k : IntKind} {i : Int} (ho : o.op = .indexAddr t x y) (ht : T t = some ti)
    (hk : ti.kind = .sl e) (he : T e = some ei) (hx : slOf (ev env x) = some (n, l)) (hy : ev env y = .int k i) (h0 : 0 ≤ i) (hn : i < n) (hl : Seg l (i.toNat * ei.sz) l') (hne : l' ≠ []) : Step P N hp env o (.rptr l') hp :=
  Step.pure fun g w a hH hE => by
    obtain ⟨A, cap, hc, hcap, hm⟩ := slOf_rel (ev_rel hE x) hx
    have hry := ev_rel hE y
    rw [hy] at hry
    simp only [VRel] at hry
    obtain ⟨d, i', e1, e2, e3, -⟩ := tiOf_some (hT _ _ ht)
    rw [hk] at e3
    have hd : d = .slice e := by cases d <;> simp [tkOf] at e3; rw [e3]
    subst hd
    obtain ⟨d2, i2, f1, f2, f3, f4, -⟩ := tiOf_some (hT _ _ he)
    obtain ⟨r, hseg⟩ := hl
    have hlne : l ≠ [] := by
      rintro rfl
      simp at hseg
      exact hne hseg.1
    obtain ⟨b, k', rfl, hm'⟩ := hm.resolve_left hlne
    refine ⟨.pointer (some ⟨b, k' + i.toNat * ei.sz, none⟩), ?_, ?_⟩
    · simp [execOp, ho, hc, hry, Instr.indexAt, asIntOf, run_underlying e1, h0, hn, sizeOf_run f2, Addr.add_lit, f4]
    · simp only [VRel]
      refine ⟨b, _, rfl, ?_⟩
      have := hm'.drop (i.toNat * ei.sz)
      rw [hseg] at this
      exact this.front

/-- a slice literal, known to have no spare room -/
theorem st_buildSliceX (hT : TOk P T) {t e : TypeId} {ti ei : TI} {n : Nat} {parts : List (Nat × Operand)} {z l : List AV} (ho : o.op = .buildSlice t n parts.toArray) (ht : T t = some ti)
    (hk : ti.kind = .sl e) (he : T e = some ei) (hz : ei.zero = some z) (hzl : Nat.beq z.length ei.sz = true) (hsmall : Nat.ble (n * ei.sz) 16777216 = true) (h1 : allOA (evParts env parts) = true) (hl : fillC (arrPlace ei.sz) (repC n z) (evParts env parts) = some l) :
    Step P N hp env o (.sx n l) hp := by
  intro g w a hH hE
  obtain ⟨c, g', w', e1, e2, e3, e4⟩ := st_buildSlice hT ho ht hk he hz hzl hsmall h1 hl g w a hH hE
  refine ⟨c, g', w', e1, e2, ?_, e4⟩
  simp only [VRel] at e3 ⊢
  obtain ⟨A, cap, rfl, hc, hm, -⟩ := e3
  have hcap : cap = n := by
    have : ∀ {x : Except Unit Unit}, True := fun {_} => trivial
    unfold execOp at e1
    simp only [ho, Instr.buildSlice] at e1
    obtain ⟨d, i0, q1, -, q3, -⟩ := tiOf_some (hT _ _ ht)
    rw [hk] at q3
    have hd : d = .slice e := by cases d <;> simp [tkOf] at q3; rw [q3]
    subst hd
    obtain ⟨d2, i, -, f2, -, f4, f5, f6⟩ := tiOf_some (hT _ _ he)
    rw [hz] at f6
    cases hiz : i.zero with
    | none => rw [hiz] at f6; cases f6
    | some zv =>
    have hle : n * i.size ≤ 16777216 := by rw [← f4]; exact Nat.le_of_ble_eq_true hsmall
    simp only [Sem.run_bind, run_underlying q1, Result.andThen_ok, sizeOf_run f2] at e1
    rw [if_neg (by omega)] at e1
    by_cases h0 : n * i.size = 0
    · simp only [h0, if_true, Sem.run_bind, Sem.run_pure, Result.andThen_ok] at e1
      split at e1
      · simp [newRow] at e1
        exact e1.1.2.symm
      · simp at e1
    · simp only [h0, if_false, Sem.run_bind, zeroValue, typeInfo, f2, hiz, run_program, Result.andThen_ok, Sem.run_pure] at e1
      split at e1
      · simp [newRow] at e1
        exact e1.1.2.symm
      · simp at e1
  subst hcap
  exact ⟨A, rfl, hm⟩

/-- a bound of a slice expression -/
def Bd (env : Env) (x : Option Operand) (d m : Nat) : Prop := match x with
  | none => m = d
  | some y => ∃ k, ev env y = .int k (m : Int)
def SubL (l : List AV) (o n : Nat) (l' : List AV) : Prop := (∃ r, l.drop o = l' ++ r) ∧ l'.length = n

theorem bound_run {g : G} {w : World} {a : Act} {y : Operand} {k : IntKind} {m c : Nat} {code : BoundsCode} (hE : ERel N g w env a) (hy : ev env y = .int k (m : Int)) (h : m ≤ c) :
    (Instr.sliceBound (a.eval y) c code).run P w = .ok m w := by
  have hr := ev_rel hE y
  rw [hy] at hr
  simp only [VRel] at hr
  have h2 : (0 : Int) ≤ m ∧ (m : Int) ≤ c := ⟨by omega, by omega⟩
  simp [Instr.sliceBound, hr, asIntOf, h2]

theorem st_sliceS (hT : TOk P T) {t e : TypeId} {x : Operand} {low high : Option Operand} {ti ei : TI} {n lo hi : Nat} {l l' : List AV} (ho : o.op = .slice t x low high none) (ht : T t = some ti)
    (hk : ti.kind = .sl e) (he : T e = some ei) (hx : slOf (ev env x) = some (n, l)) (hlo : Bd env low 0 lo) (hhi : Bd env high n hi) (h1 : lo ≤ hi) (h2 : hi ≤ n) (hl : SubL l (lo * ei.sz) ((hi - lo) * ei.sz) l') : Step P N hp env o (.sl none (hi - lo) l') hp :=
  Step.pure fun g w a hH hE => by
    obtain ⟨A, cap, hc, hcap, hm⟩ := slOf_rel (ev_rel hE x) hx
    obtain ⟨d, i', e1, e2, e3, -⟩ := tiOf_some (hT _ _ ht)
    rw [hk] at e3
    have hd : d = .slice e := by cases d <;> simp [tkOf] at e3; rw [e3]
    subst hd
    obtain ⟨d2, i2, f1, f2, f3, f4, -⟩ := tiOf_some (hT _ _ he)
    have hb : (Instr.sliceBounds true n cap (low.map a.eval) (high.map a.eval) none).run P w = .ok (lo, hi, cap) w := by
      unfold Instr.sliceBounds
      cases low with
      | none =>
        simp only [Bd] at hlo; subst hlo
        cases high with
        | none => simp only [Bd] at hhi; subst hhi; simp
        | some y => simp only [Bd] at hhi; obtain ⟨kk, hy⟩ := hhi; simp [bound_run (P := P) hE hy (by omega : hi ≤ cap)]
      | some z =>
        simp only [Bd] at hlo; obtain ⟨kz, hz⟩ := hlo
        cases high with
        | none => simp only [Bd] at hhi; subst hhi; simp [bound_run (P := P) hE hz h1]
        | some y => simp only [Bd] at hhi; obtain ⟨kk, hy⟩ := hhi; simp [bound_run (P := P) hE hy (by omega : hi ≤ cap), bound_run (P := P) hE hz h1]
    refine ⟨.slice (if cap = lo then A else A.map (·.add (lo * i2.size))) (hi - lo) (cap - lo), ?_, ?_⟩
    · simp only [execOp, ho, hc, Option.map_none]
      unfold Instr.sliceAt Instr.slice
      simp [run_underlying e1, hb, sizeOf_run f2]
    · simp only [VRel]
      refine ⟨_, _, rfl, by omega, ?_, fun t h => by cases h⟩
      obtain ⟨⟨r, hr⟩, hlen⟩ := hl
      by_cases hc2 : cap = lo
      · left
        have : hi - lo = 0 := by omega
        rw [this, Nat.zero_mul] at hlen
        exact List.eq_nil_of_length_eq_zero hlen
      · by_cases hl0 : l' = []
        · exact .inl hl0
        · right
          rw [if_neg hc2]
          have hlne : l ≠ [] := by
            rintro rfl
            simp at hr
            exact hl0 hr.1
          obtain ⟨b, k', rfl, hm'⟩ := hm.resolve_left hlne
          refine ⟨b, k' + lo * i2.size, by simp [Addr.add_lit], ?_⟩
          have := hm'.drop (lo * ei.sz)
          rw [hr] at this
          rw [← f4]
          exact this.front

theorem st_sliceX (hT : TOk P T) {t e : TypeId} {x ym : Operand} {low high : Option Operand} {ti ei : TI} {n lo hi : Nat} {l l' : List AV} (ho : o.op = .slice t x low high (some ym)) (ht : T t = some ti)
    (hk : ti.kind = .sl e) (he : T e = some ei) (hx : slOf (ev env x) = some (n, l)) (hlo : Bd env low 0 lo) {yh : Operand} (hhs : high = some yh) {kh km : IntKind} (hhi : ev env yh = .int kh (hi : Int)) (hmx : ev env ym = .int km (hi : Int)) (h1 : lo ≤ hi) (h2 : hi ≤ n) (hl : SubL l (lo * ei.sz) ((hi - lo) * ei.sz) l') : Step P N hp env o (.sx (hi - lo) l') hp :=
  Step.pure fun g w a hH hE => by
    subst hhs
    obtain ⟨A, cap, hc, hcap, hm⟩ := slOf_rel (ev_rel hE x) hx
    obtain ⟨d, i', e1, e2, e3, -⟩ := tiOf_some (hT _ _ ht)
    rw [hk] at e3
    have hd : d = .slice e := by cases d <;> simp [tkOf] at e3; rw [e3]
    subst hd
    obtain ⟨d2, i2, f1, f2, f3, f4, -⟩ := tiOf_some (hT _ _ he)
    have hb : (Instr.sliceBounds true n cap (low.map a.eval) (some (a.eval yh)) (some (a.eval ym))).run P w = .ok (lo, hi, hi) w := by
      unfold Instr.sliceBounds
      cases low with
      | none =>
        simp only [Bd] at hlo; subst hlo
        simp [bound_run (P := P) hE hmx (by omega : hi ≤ cap), bound_run (P := P) hE hhi (Nat.le_refl _)]
      | some z =>
        simp only [Bd] at hlo; obtain ⟨kz, hz⟩ := hlo
        simp [bound_run (P := P) hE hmx (by omega : hi ≤ cap), bound_run (P := P) hE hhi (Nat.le_refl _), bound_run (P := P) hE hz h1]
    refine ⟨.slice (if hi = lo then A else A.map (·.add (lo * i2.size))) (hi - lo) (hi - lo), ?_, ?_⟩
    · simp only [execOp, ho, hc, Option.map_some]
      unfold Instr.sliceAt Instr.slice
      simp [run_underlying e1, hb, sizeOf_run f2]
    · simp only [VRel]
      refine ⟨_, rfl, ?_⟩
      obtain ⟨⟨r, hr⟩, hlen⟩ := hl
      by_cases hc2 : hi = lo
      · left
        have : hi - lo = 0 := by omega
        rw [this, Nat.zero_mul] at hlen
        exact List.eq_nil_of_length_eq_zero hlen
      · by_cases hl0 : l' = []
        · exact .inl hl0
        · right
          rw [if_neg hc2]
          have hlne : l ≠ [] := by
            rintro rfl
            simp at hr
            exact hl0 hr.1
          obtain ⟨b, k', rfl, hm'⟩ := hm.resolve_left hlne
          refine ⟨b, k' + lo * i2.size, by simp [Addr.add_lit], ?_⟩
          have := hm'.drop (lo * ei.sz)
          rw [hr] at this
          rw [← f4]
          exact this.front

theorem st_sliceStr (hT : TOk P T) {t : TypeId} {x : Operand} {low high : Option Operand} {ti : TI} {lo hi : Nat} {s : ByteArray} (ho : o.op = .slice t x low high none) (ht : T t = some ti)
    (hk : ti.kind = .str) (hx : ev env x = .str s) (hlo : Bd env low 0 lo) (hhi : Bd env high s.size hi) (h1 : lo ≤ hi) (h2 : hi ≤ s.size) : Step P N hp env o (.str (s.extract lo hi)) hp :=
  Step.pure fun g w a hH hE => by
    have hc := ev_rel hE x
    rw [hx] at hc
    simp only [VRel] at hc
    obtain ⟨d, i', e1, e2, e3, -⟩ := tiOf_some (hT _ _ ht)
    rw [hk] at e3
    have hd : d = .string := by cases d <;> simp [tkOf] at e3; rfl
    subst hd
    have hb : (Instr.sliceBounds false s.size s.size (low.map a.eval) (high.map a.eval) none).run P w = .ok (lo, hi, s.size) w := by
      unfold Instr.sliceBounds
      cases low with
      | none =>
        simp only [Bd] at hlo; subst hlo
        cases high with
        | none => simp only [Bd] at hhi; subst hhi; simp
        | some y => simp only [Bd] at hhi; obtain ⟨kk, hy⟩ := hhi; simp [bound_run (P := P) hE hy (by omega : hi ≤ s.size)]
      | some z =>
        simp only [Bd] at hlo; obtain ⟨kz, hz⟩ := hlo
        cases high with
        | none => simp only [Bd] at hhi; subst hhi; simp [bound_run (P := P) hE hz h1]
        | some y => simp only [Bd] at hhi; obtain ⟨kk, hy⟩ := hhi; simp [bound_run (P := P) hE hy (by omega : hi ≤ s.size), bound_run (P := P) hE hz h1]
    refine ⟨.string (s.extract lo hi), ?_, by simp [VRel]⟩
    simp only [execOp, ho, hc, Option.map_none]
    unfold Instr.sliceAt Instr.slice
    simp [run_underlying e1, hb]

/-- s[i] of a string -/
theorem st_indexStr (hT : TOk P T) {t : TypeId} {x y : Operand} {ti : TI} {s : ByteArray} {k : IntKind} {i : Int} {b : UInt8} (ho : o.op = .index t x y) (ht : T t = some ti) (hk : ti.kind = .str)
    (hx : ev env x = .str s) (hy : ev env y = .int k i) (h0 : 0 ≤ i) (hb : s[i.toNat]? = some b) : Step P N hp env o (.int .u8 b.toNat) hp :=
  Step.pure fun g w a hH hE => by
    have hc := ev_rel hE x
    rw [hx] at hc
    simp only [VRel] at hc
    have hry := ev_rel hE y
    rw [hy] at hry
    simp only [VRel] at hry
    obtain ⟨d, i', e1, e2, e3, -⟩ := tiOf_some (hT _ _ ht)
    rw [hk] at e3
    have hd : d = .string := by cases d <;> simp [tkOf] at e3; rfl
    subst hd
    refine ⟨.int .u8 b.toNat, ?_, by simp [VRel]⟩
    simp [execOp, ho, hc, hry, Instr.index, asIntOf, run_underlying e1, h0, hb]

/-! ### make -/
theorem make_run (hT : TOk P T) {t e : TypeId} {x y : Operand} {ti ei : TI} {k k' : IntKind} {n : Nat} {z : List AV} {g : G} {w : World} {a : Act} (hE : ERel N g w env a) (ho : o.op = .makeSlice t x y) (ht : T t = some ti) (hk : ti.kind = .sl e) (he : T e = some ei) (hz : ei.zero = some z) (hzl : z.length = ei.sz)
    (hx : ev env x = .int k (n : Int)) (hy : ev env y = .int k' (n : Int)) (hn : (n : Int) ≤ 9223372036854775807) (hb : n * ei.bytes ≤ 281474976710656) :
    ∃ cs : Array Value, (execOp a.eval o).run P w = .ok (.value (.slice (some ⟨w.heap.size, 0, none⟩) n n)) (w.alloc (.cells cs e)) ∧ ∀ g' w', LRel g' w' (repC n z) cs.toList := by
  have hrx := ev_rel hE x
  rw [hx] at hrx
  have hry := ev_rel hE y
  rw [hy] at hry
  simp only [VRel] at hrx hry
  obtain ⟨d, i0, e1, -, e3, -⟩ := tiOf_some (hT _ _ ht)
  rw [hk] at e3
  have hd : d = .slice e := by cases d <;> simp [tkOf] at e3; rw [e3]
  subst hd
  obtain ⟨d2, i, -, f2, -, f4, f5, f6⟩ := tiOf_some (hT _ _ he)
  rw [hz] at f6
  cases hiz : i.zero with
  | none => rw [hiz] at f6; cases f6
  | some zv =>
  rw [hiz] at f6
  simp only [Option.map_some, Option.some.injEq] at f6
  have hzs : zv.cells.size = i.size := by
    have : (zv.cells.toList.map av1).length = i.size := by rw [← f6, hzl, f4]
    simpa using this
  have hw : IntKind.i64.wrap (n : Int) = n := IntWalk.i64_in _ ⟨by omega, by omega⟩
  have hbn : ¬ (281474976710656 < (i.bytes : Int) * (n : Int)) := by
    rw [← f5]
    have : ((n * ei.bytes : Nat) : Int) ≤ 281474976710656 := by omega
    rw [Int.natCast_mul, Int.mul_comm] at this
    omega
  have hn0 : ¬ ((n : Int) < 0) := by omega
  have hr0 : Array.range 0 = (#[] : Array Nat) := rfl
  by_cases h0 : n * i.size = 0
  · refine ⟨#[], ?_, fun g' w' => ?_⟩
    · simp [execOp, ho, hrx, hry, Instr.makeSlice, run_underlying e1, asInt, asIntOf, typeInfo, f2, hw, hbn, sizeOf_run f2, h0, newRow, hn0, hr0]
    · have : (repC n z).length = 0 := by rw [repC_length, hzl, f4]; exact h0
      rw [List.eq_nil_of_length_eq_zero this]
      simp [LRel]
  · refine ⟨_, ?_, fun g' w' => zeros_rel (by rw [f6]; exact av1s_rel g' w' _) n⟩
    rw [hzs]
    simp [execOp, ho, hrx, hry, Instr.makeSlice, run_underlying e1, asInt, asIntOf, typeInfo, f2, hw, hbn, sizeOf_run f2, h0, newRow, zeroValue, hiz, hzs, hn0]

theorem st_len_ms (hT : TOk P T) {t e : TypeId} {x : Operand} {ti : TI} {b q n : Nat} (ho : o.op = .call { callee := .builtin .len, args := #[x], argTypes := #[t] }) (ht : T t = some ti)
    (hk : ti.kind = .sl e) (hx : ev env x = .ms b q n) : Step P N hp env o (.int .i64 n) hp :=
  Step.pure fun g w a _ hE => by
    have hr := ev_rel hE x
    rw [hx] at hr
    simp only [VRel] at hr
    obtain ⟨-, cap, -, hc⟩ := hr
    obtain ⟨d, i', e1, e2, e3, -⟩ := tiOf_some (hT _ _ ht)
    rw [hk] at e3
    have hd : d = .slice e := by cases d <;> simp [tkOf] at e3; rw [e3]
    subst hd
    refine ⟨.int .i64 n, ?_, by simp [VRel]⟩
    simp [execOp, ho, resolve, invoke, builtin, Builtin.len_, hc, run_underlying e1, goInt]
theorem st_index_ms (hT : TOk P T) {t e : TypeId} {x y : Operand} {ti ei : TI} {b q n : Nat} {k : IntKind} {i : Int} (ho : o.op = .indexAddr t x y) (ht : T t = some ti)
    (hk : ti.kind = .sl e) (he : T e = some ei) (hx : ev env x = .ms b q n) (hy : ev env y = .int k i) (h0 : 0 ≤ i) (hn : i < n) : Step P N hp env o (.ptr b (q + i.toNat * ei.sz)) hp :=
  Step.pure fun g w a _ hE => by
    have hr := ev_rel hE x
    rw [hx] at hr
    simp only [VRel] at hr
    obtain ⟨hok, cap, -, hc⟩ := hr
    have hry := ev_rel hE y
    rw [hy] at hry
    simp only [VRel] at hry
    obtain ⟨d, i', e1, e2, e3, -⟩ := tiOf_some (hT _ _ ht)
    rw [hk] at e3
    have hd : d = .slice e := by cases d <;> simp [tkOf] at e3; rw [e3]
    subst hd
    obtain ⟨d2, i2, f1, f2, f3, f4, -⟩ := tiOf_some (hT _ _ he)
    refine ⟨.pointer (some ⟨g.blk b, q + i.toNat * ei.sz, none⟩), ?_, by simp only [VRel, and_true]; exact hok⟩
    simp [execOp, ho, hc, hry, Instr.indexAt, asIntOf, run_underlying e1, h0, hn, sizeOf_run f2, Addr.add_lit, f4]

/-- an array, put together -/
theorem st_buildArr (hT : TOk P T) {t e : TypeId} {ti ei : TI} {n : Nat} {parts : List (Nat × Operand)} {z l : List AV} (ho : o.op = .build t parts.toArray) (ht : T t = some ti)
    (hk : ti.kind = .arr n e) (he : T e = some ei) (hz : ti.zero = some z) (h1 : allOA (evParts env parts) = true) (hl : fillC (arrPlace ei.sz) z (evParts env parts) = some l) :
    Step P N hp env o (.agg l) hp :=
  Step.pure fun g w a hH hE => by
    obtain ⟨d, i, e1, e2, e3, e4, e5, e6⟩ := tiOf_some (hT _ _ ht)
    rw [hk] at e3
    have hd : d = .array n e := by cases d <;> simp [tkOf] at e3; rw [e3.1, e3.2]
    subst hd
    obtain ⟨d2, i2, f1, f2, f3, f4, -⟩ := tiOf_some (hT _ _ he)
    rw [hz] at e6
    cases hiz : i.zero with
    | none => rw [hiz] at e6; cases e6
    | some zv =>
    rw [hiz] at e6
    simp only [Option.map_some, Option.some.injEq] at e6
    obtain ⟨cs', g1, g2⟩ := fill_rel (g := g) (w := w) (place := arrPlace ei.sz) (evParts env parts) (parts.map fun p => (p.1, a.eval p.2)) z l zv.cells (allOA_mem _ h1) (by simp [evParts_map]) (parts_rel hE parts)
      (by rw [e6]; exact av1s_rel g w _) hl
    refine ⟨.agg cs', ?_, by simp only [VRel]; exact ⟨cs', rfl, g2⟩⟩
    have hfill : Instr.fill (fun j => some (j * i2.size, i2.size)) zv.cells (parts.map fun p => (p.1, a.eval p.2)) = some cs' := by
      rw [← f4]; exact g1
    unfold execOp
    simp only [ho]
    simp only [Instr.build, zeroValue, typeInfo, Sem.run_bind, run_program, Result.andThen_ok, e2, Sem.run_pure, hiz, run_underlying e1, sizeOf_run f2]
    simp [hfill]
end
end Go.Vsi
