/- A text of the proof: E5. -/
import Derived.Test.YtkoomafopmiebaaE4
set_option linter.unusedSimpArgs false
set_option linter.unusedVariables false
namespace Go.Vsi

section
variable {P : Program} {N : Nat} {env : Env} {hp hp' : Hp} {o : Oper} {T : TypeId → Option TI}

theorem st_alloc (hT : TOk P T) {base loc loc' : Heap} {k : Nat} {t : TypeId} {ti : TI} {z : List AV} (ho : o.op = .alloc t) (ht : T t = some ti) (hz : ti.zero = some z) (hl : snocC loc (.box t z) = some loc') :
    Step P N ⟨base, k, loc⟩ env o (.ptr (base.length + k) 0) ⟨base, k + 1, loc'⟩ := by
  intro g w a hH hE
  obtain ⟨d, i, h1, h2, h3, h4, h5, h6⟩ := tiOf_some (hT _ _ ht)
  rw [hz] at h6
  cases hiz : i.zero with
  | none => rw [hiz] at h6; cases h6
  | some zv =>
  rw [hiz] at h6
  simp only [Option.map_some, Option.some.injEq] at h6
  obtain ⟨g', e1, e2, e3, e4⟩ := hH.newBox (t := t) (l := z) (cs := zv.cells) (by rw [h6]; exact av1s_rel g w _)
  refine ⟨.pointer (some ⟨w.heap.size, 0, none⟩), g', _, ?_, by rw [snocC_eq _ _ _ hl]; exact e3, ?_, e4⟩
  · simp [execOp, ho, Instr.alloc, zeroValue, typeInfo, h2, hiz, newVar, newRow]
  · simp only [VRel]
    have hn := hH.n
    simp only at hn
    exact ⟨by rw [← hn]; exact e1, by rw [← hn, e2]⟩

theorem st_box {base loc loc' : Heap} {k : Nat} {t : TypeId} {x : Operand} {v : AV} {l : List AV} (ho : o.op = .box t x) (hx : ev env x = v) (h1 : v.one = true ∨ ∃ l, v = .agg l) (hl : v.cells = l) (hl' : snocC loc (.box t l) = some loc') :
    Step P N ⟨base, k, loc⟩ env o (.ptr (base.length + k) 0) ⟨base, k + 1, loc'⟩ := by
  intro g w a hH hE
  have hr := ev_rel hE x
  rw [hx] at hr
  obtain ⟨g', e1, e2, e3, e4⟩ := hH.newBox (t := t) (l := l) (cs := (a.eval x).cells) (by rw [← hl]; exact hr.cells h1)
  refine ⟨.pointer (some ⟨w.heap.size, 0, none⟩), g', _, ?_, by rw [snocC_eq _ _ _ hl']; exact e3, ?_, e4⟩
  · simp [execOp, ho, Instr.box, newVar, newRow]
  · simp only [VRel]
    have hn := hH.n
    simp only at hn
    exact ⟨by rw [← hn]; exact e1, by rw [← hn, e2]⟩
theorem st_box1 {base loc loc' : Heap} {k : Nat} {t : TypeId} {x : Operand} {v : AV} (ho : o.op = .box t x) (hx : nf (ev env x) = some v) (h1 : v.one = true) (hl' : snocC loc (.box t [v]) = some loc') :
    Step P N ⟨base, k, loc⟩ env o (.ptr (base.length + k) 0) ⟨base, k + 1, loc'⟩ := by
  refine st_box ho (nf_spec hx) (.inl h1) ?_ hl'
  revert h1
  cases v <;> simp [AV.one, AV.cells]
theorem st_boxA {base loc loc' : Heap} {k : Nat} {t : TypeId} {x : Operand} {l : List AV} (ho : o.op = .box t x) (hx : ev env x = .agg l) (hl' : snocC loc (.box t l) = some loc') :
    Step P N ⟨base, k, loc⟩ env o (.ptr (base.length + k) 0) ⟨base, k + 1, loc'⟩ :=
  st_box ho hx (.inr ⟨l, rfl⟩) rfl hl'

theorem st_load (hT : TOk P T) {t u : TypeId} {x : Operand} {ti : TI} {i k : Nat} {l l' : List AV} {v : AV} (ho : o.op = .load t x) (ht : T t = some ti) (hx : ev env x = .ptr i k)
    (ha : At hp i (.box u l)) (hd : dropC k l = some l') (hv : loadC ti l' = some v) : Step P N hp env o v hp :=
  Step.pure fun g w a hH hE => by
    have hr := ev_rel hE x
    rw [hx] at hr
    simp only [VRel] at hr
    obtain ⟨hd1, -⟩ := dropC_eq _ _ _ hd
    have hc := crel_box (o := k) (hH.rel i _ ha)
    rw [hd1] at hc
    obtain ⟨c, h1, h2⟩ := load_run (hT _ _ ht) hc hv
    exact ⟨c, by simp [execOp, ho, hr.2, Instr.loadAt, Instr.sureAddr, h1], h2⟩
theorem st_load_r (hT : TOk P T) {t : TypeId} {x : Operand} {ti : TI} {l : List AV} {v : AV} (ho : o.op = .load t x) (ht : T t = some ti) (hx : ev env x = .rptr l)
    (hv : loadC ti l = some v) : Step P N hp env o v hp :=
  Step.pure fun g w a hH hE => by
    have hr := ev_rel hE x
    rw [hx] at hr
    simp only [VRel] at hr
    obtain ⟨b, o', hc, hm⟩ := hr
    obtain ⟨c, h1, h2⟩ := load_run (hT _ _ ht) hm.crel hv
    exact ⟨c, by simp [execOp, ho, hc, Instr.loadAt, Instr.sureAddr, h1], h2⟩

theorem st_store (hT : TOk P T) {t u : TypeId} {x y : Operand} {ti : TI} {i k : Nat} {l l' vs : List AV} {v : AV} (ho : o.op = .store t x y) (ht : T t = some ti) (hx : ev env x = .ptr i k)
    (ha : At hp i (.box u l)) (hy : ev env y = v) (hc : v.cells = vs) (h1 : allOne vs = true) (hsz : Nat.beq vs.length ti.sz = true) (hs : setC l k vs = some l') (hput : Put hp i (.box u l') hp') :
    StepU P N hp env o hp' := by
  intro g w a hH hE
  have hr := ev_rel hE x
  rw [hx] at hr
  simp only [VRel] at hr
  have hry := ev_rel hE y
  rw [hy] at hry
  have hone : v.one = true ∨ ∃ l, v = .agg l := by
    subst hc
    clear hry hy hs hsz
    cases v <;> simp_all [AV.one, AV.cells, allOne]
  have hl := hry.cells hone
  rw [hc] at hl
  obtain ⟨d, i', e1, e2, e3, e4, -⟩ := tiOf_some (hT _ _ ht)
  obtain ⟨w', f1, f2, f3⟩ := hH.storeBox (P := P) ha hs hl h1 hput
  refine ⟨g, w', ?_, f2, f3⟩
  have hlen := hl.length
  have hszz : (a.eval y).cells.size = i'.size := by
    have : vs.length = ti.sz := Nat.eq_of_beq_eq_true hsz
    rw [← e4, ← this, ← hlen]; simp
  simp [execOp, ho, hr.2, Instr.storeAt, Instr.sureAddr, storeVar, sizeOf_run e2, hszz, f1]

theorem st_store1 (hT : TOk P T) {t u : TypeId} {x y : Operand} {ti : TI} {i k : Nat} {l l' : List AV} {v : AV} (ho : o.op = .store t x y) (ht : T t = some ti) (hx : ev env x = .ptr i k)
    (ha : At hp i (.box u l)) (hy : nf (ev env y) = some v) (h1 : v.one = true) (hsz : Nat.beq 1 ti.sz = true) (hs : setC l k [v] = some l') (hput : Put hp i (.box u l') hp') :
    StepU P N hp env o hp' := by
  have hc : v.cells = [v] := by
    revert h1
    cases v <;> simp [AV.one, AV.cells]
  exact st_store hT ho ht hx ha (nf_spec hy) hc (by simp [allOne, h1]) hsz hs hput
theorem st_storeA (hT : TOk P T) {t u : TypeId} {x y : Operand} {ti : TI} {i k : Nat} {l l' vs : List AV} (ho : o.op = .store t x y) (ht : T t = some ti) (hx : ev env x = .ptr i k)
    (ha : At hp i (.box u l)) (hy : ev env y = .agg vs) (h1 : allOne vs = true) (hsz : Nat.beq vs.length ti.sz = true) (hs : setC l k vs = some l') (hput : Put hp i (.box u l') hp') :
    StepU P N hp env o hp' := st_store hT ho ht hx ha hy rfl h1 hsz hs hput

theorem fieldPlace_run {b k : Nat} {f : Field} (w : World) (h : isz P f.type ≠ 0) : (fieldPlace ⟨b, k, none⟩ f).run P w = .ok ⟨b, k + f.offset, none⟩ w := by
  unfold isz at h
  cases hi : P.info? f.type with
  | none => simp [hi] at h
  | some i =>
    simp only [hi] at h
    simp [fieldPlace, sizeOf_run hi, h, Addr.add_lit]

theorem st_field_of {P : Program} {d : TypeDesc} {fs : List (TypeId × Nat × Nat × Bool)} (h : TK.st fs = tkOf P d) : ∃ fields : Array Field, d = .struct fields ∧ fs = fields.toList.map fun f => (f.type, f.offset, isz P f.type, f.name == "_") := by
  cases d <;> simp [tkOf] at h
  exact ⟨_, rfl, h⟩

theorem st_fieldAddr (hT : TOk P T) {s : TypeId} {x : Operand} {f : Nat} {ti : TI} {fs : List (TypeId × Nat × Nat × Bool)} {ft off sz : Nat} {bl : Bool} {i k : Nat} (ho : o.op = .fieldAddr s x f) (ht : T s = some ti)
    (hk : ti.kind = .st fs) (hf : lget fs f = some (ft, off, sz + 1, bl)) (hx : ev env x = .ptr i k) : Step P N hp env o (.ptr i (k + off)) hp :=
  Step.pure fun g w a hH hE => by
    have hr := ev_rel hE x
    rw [hx] at hr
    simp only [VRel] at hr
    obtain ⟨d, i', e1, e2, e3, -⟩ := tiOf_some (hT _ _ ht)
    rw [hk] at e3
    obtain ⟨fields, rfl, hfs⟩ := st_field_of e3
    rw [lget_eq, hfs] at hf
    simp only [List.getElem?_map, Option.map_eq_some_iff, Prod.mk.injEq, Array.getElem?_toList] at hf
    obtain ⟨fl, h1, -, h2, h3, -⟩ := hf
    have hp' := fieldPlace_run (P := P) (b := g.blk i) (k := k) w (f := fl) (by omega)
    refine ⟨.pointer (some ⟨g.blk i, k + off, none⟩), ?_, by simp only [VRel, and_true]; exact hr.1⟩
    simp [execOp, ho, hr.2, Instr.fieldAt, run_underlying e1, h1, Instr.sureAddr, hp', h2]

theorem st_fieldAddr_r (hT : TOk P T) {s : TypeId} {x : Operand} {f : Nat} {ti : TI} {fs : List (TypeId × Nat × Nat × Bool)} {ft off sz : Nat} {bl : Bool} {l l' : List AV} (ho : o.op = .fieldAddr s x f) (ht : T s = some ti)
    (hk : ti.kind = .st fs) (hf : lget fs f = some (ft, off, sz + 1, bl)) (hx : ev env x = .rptr l) (hd : dropC off l = some l') : Step P N hp env o (.rptr l') hp :=
  Step.pure fun g w a hH hE => by
    have hr := ev_rel hE x
    rw [hx] at hr
    simp only [VRel] at hr
    obtain ⟨b, k, hc, hm⟩ := hr
    obtain ⟨hd1, -⟩ := dropC_eq _ _ _ hd
    obtain ⟨d, i', e1, e2, e3, -⟩ := tiOf_some (hT _ _ ht)
    rw [hk] at e3
    obtain ⟨fields, rfl, hfs⟩ := st_field_of e3
    rw [lget_eq, hfs] at hf
    simp only [List.getElem?_map, Option.map_eq_some_iff, Prod.mk.injEq, Array.getElem?_toList] at hf
    obtain ⟨fl, h1, -, h2, h3, -⟩ := hf
    have hp' := fieldPlace_run (P := P) (b := b) (k := k) w (f := fl) (by omega)
    refine ⟨.pointer (some ⟨b, k + off, none⟩), ?_, ?_⟩
    · simp [execOp, ho, hc, Instr.fieldAt, run_underlying e1, h1, Instr.sureAddr, hp', h2]
    · simp only [VRel]
      exact ⟨b, k + off, rfl, by rw [← hd1]; exact hm.drop off⟩

def partC (ti : TI) (l : List AV) : Option AV := loadC ti l
theorem part_run {t : TypeId} {ti : TI} (ht : tiOf P t = some ti) {g : G} {w : World} {l : List AV} {cs : Array Value} (hl : LRel g w l cs.toList) {off : Nat} {l' : List AV} (hd : l.drop off = l') {v : AV} (hv : loadC ti l' = some v) :
    ∃ c, (part t cs off).run P w = .ok c w ∧ VRel g w v c := by
  obtain ⟨d, i, h1, h2, h3, h4, -⟩ := tiOf_some ht
  unfold loadC at hv
  rw [h3, tk_agg] at hv
  have ha := isAgg_run h1 w
  have hl' := hl.drop off
  rw [hd] at hl'
  cases hd' : aggD d with
  | false =>
    rw [hd'] at hv ha
    simp only [lget_eq] at hv
    obtain ⟨c, h5, h6⟩ := hl'.get hv
    simp only [List.getElem?_drop, Nat.add_zero, Array.getElem?_toList] at h5
    exact ⟨c, by simp [part, ha, h5], h6⟩
  | true =>
    rw [hd'] at hv ha
    simp only [Option.map_eq_some_iff] at hv
    obtain ⟨l'', h5, rfl⟩ := hv
    obtain ⟨h6, h7⟩ := takeC_eq _ _ _ h5
    refine ⟨.agg (cs.extract off (off + i.size)), by simp [part, ha, sizeOf_run h2], ?_⟩
    simp only [VRel]
    refine ⟨_, rfl, ?_⟩
    have := hl'.take ti.sz
    rw [h6] at this
    rw [Array.toList_extract, List.extract_eq_take_drop]
    rw [h4] at this
    simpa using this

theorem st_field (hT : TOk P T) {s : TypeId} {x : Operand} {f : Nat} {ti fi : TI} {fs : List (TypeId × Nat × Nat × Bool)} {ft off sz : Nat} {bl : Bool} {l l' : List AV} {v : AV} (ho : o.op = .field s x f) (ht : T s = some ti)
    (hk : ti.kind = .st fs) (hf : lget fs f = some (ft, off, sz, bl)) (hx : ev env x = .agg l) (hfi : T ft = some fi) (hd : dropC off l = some l') (hv : loadC fi l' = some v) : Step P N hp env o v hp :=
  Step.pure fun g w a hH hE => by
    have hr := ev_rel hE x
    rw [hx] at hr
    simp only [VRel] at hr
    obtain ⟨cs, hc, hm⟩ := hr
    obtain ⟨hd1, -⟩ := dropC_eq _ _ _ hd
    obtain ⟨d, i', e1, e2, e3, -⟩ := tiOf_some (hT _ _ ht)
    rw [hk] at e3
    obtain ⟨fields, rfl, hfs⟩ := st_field_of e3
    rw [lget_eq, hfs] at hf
    simp only [List.getElem?_map, Option.map_eq_some_iff, Prod.mk.injEq, Array.getElem?_toList] at hf
    obtain ⟨fl, h1, h0, h2, h3, -⟩ := hf
    obtain ⟨c, h4, h5⟩ := part_run (hT _ _ hfi) hm hd1 hv
    refine ⟨c, ?_, h5⟩
    simp [execOp, ho, hc, Instr.field, run_underlying e1, h1, asAgg, h0, h2, h4]

/-- a slice's element -/
def Seg (l : List AV) (o : Nat) (l' : List AV) : Prop := ∃ r, l.drop o = l' ++ r
theorem seg_rfl {l l' : List AV} {o : Nat} (h : dropC o l = some l') : Seg l o l' := ⟨[], by simp [(dropC_eq _ _ _ h).1]⟩

theorem st_indexAddr (hT : TOk P T) {t e : TypeId} {x y : Operand} {ti ei : TI} {tok : Option Nat} {n : Nat} {l l' : List AV} {k : IntKind} {i : Int} (ho : o.op = .indexAddr t x y) (ht : T t = some ti)
    (hk : ti.kind = .sl e) (he : T e = some ei) (hx : ev env x = .sl tok n l) (hy : ev env y = .int k i) (h0 : 0 ≤ i) (hn : i < n) (hl : Seg l (i.toNat * ei.sz) l') (hne : l' ≠ []) : Step P N hp env o (.rptr l') hp :=
  Step.pure fun g w a hH hE => by
    have hr := ev_rel hE x
    rw [hx] at hr
    simp only [VRel] at hr
    have hry := ev_rel hE y
    rw [hy] at hry
    simp only [VRel] at hry
    obtain ⟨A, cap, hc, hcap, hm, -⟩ := hr
    obtain ⟨d, i', e1, e2, e3, -⟩ := tiOf_some (hT _ _ ht)
    rw [hk] at e3
    have hd : d = .slice e := by cases d <;> simp [tkOf] at e3; rw [e3]
    subst hd
    obtain ⟨d2, i2, f1, f2, f3, f4, -⟩ := tiOf_some (hT _ _ he)
    obtain ⟨r, hseg⟩ := hl
    have hlne : l ≠ [] := by
      rintro rfl
      simp at hseg
      exact hne hseg.1
    obtain ⟨b, k', rfl, hm'⟩ := hm.resolve_left hlne
    refine ⟨.pointer (some ⟨b, k' + i.toNat * ei.sz, none⟩), ?_, ?_⟩
    · simp [execOp, ho, hc, hry, Instr.indexAt, asIntOf, run_underlying e1, h0, hn, sizeOf_run f2, Addr.add_lit, f4]
    · simp only [VRel]
      refine ⟨b, _, rfl, ?_⟩
      have := hm'.drop (i.toNat * ei.sz)
      rw [hseg] at this
      exact this.front

theorem st_indexAddr_arr (hT : TOk P T) {t e : TypeId} {x y : Operand} {ti ei : TI} {n : Nat} {b p : Nat} {k : IntKind} {i : Int} (ho : o.op = .indexAddr t x y) (ht : T t = some ti)
    (hk : ti.kind = .arr n e) (he : T e = some ei) (hx : ev env x = .ptr b p) (hy : ev env y = .int k i) (h0 : 0 ≤ i) (hn : i < n) : Step P N hp env o (.ptr b (p + i.toNat * ei.sz)) hp :=
  Step.pure fun g w a hH hE => by
    have hr := ev_rel hE x
    rw [hx] at hr
    simp only [VRel] at hr
    have hry := ev_rel hE y
    rw [hy] at hry
    simp only [VRel] at hry
    obtain ⟨d, i', e1, e2, e3, -⟩ := tiOf_some (hT _ _ ht)
    rw [hk] at e3
    have hd : d = .array n e := by cases d <;> simp [tkOf] at e3; rw [e3.1, e3.2]
    subst hd
    obtain ⟨d2, i2, f1, f2, f3, f4, -⟩ := tiOf_some (hT _ _ he)
    refine ⟨.pointer (some ⟨g.blk b, p + i.toNat * ei.sz, none⟩), ?_, by simp only [VRel, and_true]; exact hr.1⟩
    simp [execOp, ho, hr.2, hry, Instr.indexAt, asIntOf, run_underlying e1, Instr.sureAddr, h0, hn, sizeOf_run f2, Addr.add_lit, f4]
theorem st_indexAddr_arr_r (hT : TOk P T) {t e : TypeId} {x y : Operand} {ti ei : TI} {n : Nat} {l l' : List AV} {k : IntKind} {i : Int} (ho : o.op = .indexAddr t x y) (ht : T t = some ti)
    (hk : ti.kind = .arr n e) (he : T e = some ei) (hx : ev env x = .rptr l) (hy : ev env y = .int k i) (h0 : 0 ≤ i) (hn : i < n) (hl : Seg l (i.toNat * ei.sz) l') : Step P N hp env o (.rptr l') hp :=
  Step.pure fun g w a hH hE => by
    have hr := ev_rel hE x
    rw [hx] at hr
    simp only [VRel] at hr
    have hry := ev_rel hE y
    rw [hy] at hry
    simp only [VRel] at hry
    obtain ⟨b, p, hc, hm⟩ := hr
    obtain ⟨d, i', e1, e2, e3, -⟩ := tiOf_some (hT _ _ ht)
    rw [hk] at e3
    have hd : d = .array n e := by cases d <;> simp [tkOf] at e3; rw [e3.1, e3.2]
    subst hd
    obtain ⟨d2, i2, f1, f2, f3, f4, -⟩ := tiOf_some (hT _ _ he)
    obtain ⟨r, hseg⟩ := hl
    refine ⟨.pointer (some ⟨b, p + i.toNat * ei.sz, none⟩), ?_, ?_⟩
    · simp [execOp, ho, hc, hry, Instr.indexAt, asIntOf, run_underlying e1, Instr.sureAddr, h0, hn, sizeOf_run f2, Addr.add_lit, f4]
    · simp only [VRel]
      refine ⟨b, _, rfl, ?_⟩
      have := hm.drop (i.toNat * ei.sz)
      rw [hseg] at this
      exact this.front

theorem st_len (hT : TOk P T) {t e : TypeId} {x : Operand} {ti : TI} {tok : Option Nat} {n : Nat} {l : List AV} (ho : o.op = .call { callee := .builtin .len, args := #[x], argTypes := #[t] }) (ht : T t = some ti)
    (hk : ti.kind = .sl e) (hx : ev env x = .sl tok n l) : Step P N hp env o (.int .i64 n) hp :=
  Step.pure fun g w a hH hE => by
    have hr := ev_rel hE x
    rw [hx] at hr
    simp only [VRel] at hr
    obtain ⟨A, cap, hc, -⟩ := hr
    obtain ⟨d, i', e1, e2, e3, -⟩ := tiOf_some (hT _ _ ht)
    rw [hk] at e3
    have hd : d = .slice e := by cases d <;> simp [tkOf] at e3; rw [e3]
    subst hd
    refine ⟨.int .i64 n, ?_, by simp [VRel]⟩
    simp [execOp, ho, resolve, invoke, builtin, Builtin.len_, hc, run_underlying e1, goInt]
theorem st_len_nil (hT : TOk P T) {t e : TypeId} {x : Operand} {ti : TI} (ho : o.op = .call { callee := .builtin .len, args := #[x], argTypes := #[t] }) (ht : T t = some ti)
    (hk : ti.kind = .sl e) (hx : ev env x = .nils) : Step P N hp env o (.int .i64 0) hp :=
  Step.pure fun g w a hH hE => by
    have hr := ev_rel hE x
    rw [hx] at hr
    simp only [VRel] at hr
    obtain ⟨d, i', e1, e2, e3, -⟩ := tiOf_some (hT _ _ ht)
    rw [hk] at e3
    have hd : d = .slice e := by cases d <;> simp [tkOf] at e3; rw [e3]
    subst hd
    refine ⟨.int .i64 0, ?_, by simp [VRel]⟩
    simp [execOp, ho, resolve, invoke, builtin, Builtin.len_, hr, run_underlying e1, goInt]
theorem st_len_str (hT : TOk P T) {t : TypeId} {x : Operand} {ti : TI} {s : ByteArray} (ho : o.op = .call { callee := .builtin .len, args := #[x], argTypes := #[t] }) (ht : T t = some ti)
    (hk : ti.kind = .str) (hx : ev env x = .str s) : Step P N hp env o (.int .i64 s.size) hp :=
  Step.pure fun g w a hH hE => by
    have hr := ev_rel hE x
    rw [hx] at hr
    simp only [VRel] at hr
    obtain ⟨d, i', e1, e2, e3, -⟩ := tiOf_some (hT _ _ ht)
    rw [hk] at e3
    have hd : d = .string := by cases d <;> simp [tkOf] at e3; rfl
    subst hd
    refine ⟨.int .i64 s.size, ?_, by simp [VRel]⟩
    simp [execOp, ho, resolve, invoke, builtin, Builtin.len_, hr, run_underlying e1, goInt]

theorem st_min {ts : Array TypeId} {x y : Operand} {k : IntKind} {m n : Int} (ho : o.op = .call { callee := .builtin .min, args := #[x, y], argTypes := ts })
    (hx : ev env x = .int k m) (hy : ev env y = .int k n) : Step P N hp env o (.int k (min m n)) hp :=
  Step.pure fun g w a hH hE => by
    have h1 := ev_rel hE x
    rw [hx] at h1
    have h2 := ev_rel hE y
    rw [hy] at h2
    simp only [VRel] at h1 h2
    refine ⟨.int k (min m n), ?_, by simp [VRel]⟩
    have : (if n < m then n else m) = min m n := by omega
    simp [execOp, ho, resolve, invoke, builtin, Builtin.min_, h1, h2, Builtin.min2, this]
theorem st_max {ts : Array TypeId} {x y : Operand} {k : IntKind} {m n : Int} (ho : o.op = .call { callee := .builtin .max, args := #[x, y], argTypes := ts })
    (hx : ev env x = .int k m) (hy : ev env y = .int k n) : Step P N hp env o (.int k (max m n)) hp :=
  Step.pure fun g w a hH hE => by
    have h1 := ev_rel hE x
    rw [hx] at h1
    have h2 := ev_rel hE y
    rw [hy] at h2
    simp only [VRel] at h1 h2
    refine ⟨.int k (max m n), ?_, by simp [VRel]⟩
    have : (if m < n then n else m) = max m n := by omega
    simp [execOp, ho, resolve, invoke, builtin, Builtin.max_, h1, h2, Builtin.max2, this]
end
end Go.Vsi
