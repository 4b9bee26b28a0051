/- A text of the proof: E16. -/
import Derived.Test.YtkoomafopmiebaaE15
set_option linter.unusedSimpArgs false
set_option linter.unusedVariables false
namespace Go.Vsi

section
variable {P : Program} {N : Nat} {env : Env} {hp0 hp hp' : Hp} {all rest : List Oper} {ks : List Nat} {o : Oper} {K : Env → Hp → Prop} {T : TypeId → Option TI}

theorem agree_op {e e' : Env} (h : Agree (looks all o) e e') : Agree (opTs o.op) e e' := fun t ht => h t (opTs_looks all o t ht)

theorem dr_r {d : Nat} {v : AV} (h1 : ∀ env', Agree (opTs o.op) env env' → ∀ hp, Step P N hp env' o v hp) (hg : gd all env o = some true) (hd : o.dst = some d)
    (h : DR P N hp0 all rest ks ((d, v) :: env) hp K) : DR P N hp0 all (o :: rest) (0 :: ks) env hp K := by
  refine dr_cons (v := v) (k := .r) (hp' := hp) rfl ?_ (by rw [push_some hd]; exact h)
  unfold FOp
  simp only [hg]
  exact ⟨fun env' ha hp => xok_of_step (h1 env' (agree_op ha) hp), trivial⟩

theorem dr_v {d : Nat} {v : AV} (hT : TOk P T) (hs : stepV T env o.op = some v) (hg : gd all env o = some true) (hd : o.dst = some d)
    (h : DR P N hp0 all rest ks ((d, v) :: env) hp K) : DR P N hp0 all (o :: rest) (0 :: ks) env hp K :=
  dr_r (fun _ ha _ => stepV_sound hT rfl (stepV_agree ha hs)) hg hd h

theorem dr_skipped {d : Nat} (hg : gd all env o = some false) (hd : o.dst = some d) (h : DR P N hp0 all rest ks ((d, .tup []) :: env) hp K) : DR P N hp0 all (o :: rest) (0 :: ks) env hp K := by
  refine dr_cons (v := .tup []) (k := .r) (hp' := hp) rfl ?_ (by rw [push_some hd]; exact h)
  unfold FOp
  simp only [hg]
  exact ⟨⟨trivial, trivial⟩, trivial⟩

theorem at_ext {i : Nat} {B : Blk} (h : At hp0 i B) (X : Heap) : At ⟨hp0.base, hp0.k + X.length, hp0.loc ++ X⟩ i B := by
  unfold At Hp.all at h ⊢
  simp only
  rw [← List.append_assoc, List.getElem?_append_left (List.getElem?_eq_some_iff.1 h).1, h]

theorem dr_m {d : Nat} {v : AV} (h1 : ∀ env', Agree (opTs o.op) env env' → ∀ X : Heap, XOk P N ⟨hp0.base, hp0.k + X.length, hp0.loc ++ X⟩ env' o v) (hg : gd all env o = some true) (hd : o.dst = some d)
    (h : DR P N hp0 all rest ks ((d, v) :: env) hp K) : DR P N hp0 all (o :: rest) (1 :: ks) env hp K := by
  refine dr_cons (v := v) (k := .m) (hp' := hp) rfl ?_ (by rw [push_some hd]; exact h)
  unfold FOp
  simp only [hg]
  exact ⟨fun env' ha X => h1 env' (agree_op ha) X, trivial⟩

theorem dr_load (hT : TOk P T) {t u d : TypeId} {x : Operand} {ti : TI} {i k : Nat} {l l' : List AV} {v : AV} (ho : o.op = .load t x) (ht : T t = some ti) (hx : ev env x = .ptr i k)
    (ha : At hp0 i (.box u l)) (hdr : dropC k l = some l') (hv : loadC ti l' = some v) (hg : gd all env o = some true) (hd : o.dst = some d)
    (h : DR P N hp0 all rest ks ((d, v) :: env) hp K) : DR P N hp0 all (o :: rest) (1 :: ks) env hp K :=
  dr_m (fun env' hag X => xok_of_step (st_load hT ho ht (by rw [ev_agree_op hag (by rw [ho]; simp [Op.operands])]; exact hx) (at_ext ha X) hdr hv)) hg hd h
theorem dr_load_r (hT : TOk P T) {t d : TypeId} {x : Operand} {ti : TI} {l : List AV} {v : AV} (ho : o.op = .load t x) (ht : T t = some ti) (hx : ev env x = .rptr l)
    (hv : loadC ti l = some v) (hg : gd all env o = some true) (hd : o.dst = some d)
    (h : DR P N hp0 all rest ks ((d, v) :: env) hp K) : DR P N hp0 all (o :: rest) (1 :: ks) env hp K :=
  dr_m (fun env' hag X => xok_of_step (st_load_r hT ho ht (by rw [ev_agree_op hag (by rw [ho]; simp [Op.operands])]; exact hx) hv)) hg hd h

theorem evL_agree {e e' : Env} : ∀ {l : List Operand}, (∀ x ∈ l, ev e' x = ev e x) → evL e' l = evL e l
  | [], _ => rfl
  | x :: l, h => by simp only [evL]; rw [h x (by simp), evL_agree fun y hy => h y (by simp [hy])]

theorem dr_call {d : Nat} {f : Operand} {F : FuncId} {xs : List Operand} {ts : Array TypeId} {fs cs as : List AV} {v : AV} (ho : o.op = .call { callee := .value f, args := xs.toArray, argTypes := ts }) (hg : gd all env o = some true) (hd : o.dst = some d)
    (hf : ev env f = .clo (.func F) fs cs) (has : (fs ++ evL env xs) ++ cs = as) (hc : ∀ X : Heap, VDet P F as (hp0.all ++ X) v)
    (h : DR P N hp0 all rest ks ((d, v) :: env) hp K) : DR P N hp0 all (o :: rest) (1 :: ks) env hp K := by
  refine dr_m (fun env' hag X => ?_) hg hd h
  have hops : ∀ x, x = f ∨ x ∈ xs → ev env' x = ev env x := fun x hx => ev_agree_op hag (by rw [ho]; simp only [Op.operands, Call.operands]; simpa using hx)
  intro g w a hH hE K Qc k
  have hall : (⟨hp0.base, hp0.k + X.length, hp0.loc ++ X⟩ : Hp).all = hp0.all ++ X := by simp [Hp.all]
  obtain ⟨⟨fn, h1, h2, h3⟩, hcall⟩ := hc X
  have hr := ev_rel hE f
  rw [hops f (.inl rfl), hf] at hr
  simp only [VRel] at hr
  obtain ⟨f', c', hfv, hfs, hcs⟩ := hr
  have hev : evL env' xs = evL env xs := evL_agree fun x hx => hops x (.inr hx)
  have hargs := ((hfs.append (evL_rel hE xs)).append hcs)
  rw [hev, has] at hargs
  have hrun : (execOp a.eval o).run P w = .ok (.enter F ((f' ++ (xs.map a.eval).toArray) ++ c')) w := by
    have h2' : fn.name ≠ "runtime.NumGoroutine" := by simpa using h2
    have h3' : fn.body ≠ none := by intro h0; simp [h0] at h3
    simp [execOp, ho, resolve, hfv, Deferred.ofValue, invoke, callFunc, h1, h2', h3']
  unfold Oper.wp
  rw [hrun, Oper.upon_enter]
  have hof := hH.of
  rw [hall] at hof
  refine (hcall g w _ hof (by simpa using hargs)).mono ?_
  rintro e w' ⟨r, H', g', c, rfl, ⟨rfl, rfl⟩, hH', hv, hx'⟩
  simp only
  refine k g' w' c ?_ hv hx'
  exact hH'.see (hp := hp0) ⟨hall, hH.k⟩

theorem dr_a {d : Nat} {base loc loc' : Heap} {k : Nat} {B : Blk} (h1 : ∀ env', Agree (opTs o.op) env env' → AOk P N B env' o) (hl : snocC loc B = some loc') (hg : gd all env o = some true) (hd : o.dst = some d)
    (h : DR P N hp0 all rest ks ((d, .ptr (base.length + k) 0) :: env) ⟨base, k + 1, loc'⟩ K) : DR P N hp0 all (o :: rest) (2 :: ks) env ⟨base, k, loc⟩ K := by
  refine dr_cons (v := .ptr (base.length + k) 0) (k := .a B) (hp' := ⟨base, k + 1, loc'⟩) rfl ?_ (by rw [push_some hd]; exact h)
  unfold FOp
  simp only [hg]
  exact ⟨by rw [hd]; rfl, trivial, fun env' ha => h1 env' (agree_op ha), by rw [snocC_eq _ _ _ hl]⟩

theorem dr_alloc (hT : TOk P T) {d : Nat} {base loc loc' : Heap} {k : Nat} {t : TypeId} {ti : TI} {z : List AV} (ho : o.op = .alloc t) (ht : T t = some ti) (hz : ti.zero = some z) (hl : snocC loc (.box t z) = some loc') (hg : gd all env o = some true) (hd : o.dst = some d)
    (h : DR P N hp0 all rest ks ((d, .ptr (base.length + k) 0) :: env) ⟨base, k + 1, loc'⟩ K) : DR P N hp0 all (o :: rest) (2 :: ks) env ⟨base, k, loc⟩ K := by
  refine dr_a (B := .box t z) (fun env' _ g w a hE => ?_) hl hg hd h
  obtain ⟨d, i, h1, h2, h3, h4, h5, h6⟩ := tiOf_some (hT _ _ ht)
  rw [hz] at h6
  cases hiz : i.zero with
  | none => rw [hiz] at h6; cases h6
  | some zv =>
  rw [hiz] at h6
  simp only [Option.map_some, Option.some.injEq] at h6
  refine ⟨t, z, zv.cells, rfl, by rw [h6]; exact av1s_rel g w _, ?_⟩
  simp [execOp, ho, Instr.alloc, zeroValue, typeInfo, h2, hiz, newVar, newRow]

theorem dr_box1 {d : Nat} {base loc loc' : Heap} {k : Nat} {t : TypeId} {x : Operand} {v : AV} (ho : o.op = .box t x) (hx : nf (ev env x) = some v) (h1 : v.one = true) (hl : snocC loc (.box t [v]) = some loc') (hg : gd all env o = some true) (hd : o.dst = some d)
    (h : DR P N hp0 all rest ks ((d, .ptr (base.length + k) 0) :: env) ⟨base, k + 1, loc'⟩ K) : DR P N hp0 all (o :: rest) (2 :: ks) env ⟨base, k, loc⟩ K := by
  refine dr_a (B := .box t [v]) (fun env' ha g w a hE => ?_) hl hg hd h
  have hr := ev_rel hE x
  rw [ev_agree_op ha (by rw [ho]; simp [Op.operands]), nf_spec hx] at hr
  have hc : v.cells = [v] := by
    revert h1
    cases v <;> simp [AV.one, AV.cells]
  refine ⟨t, [v], (a.eval x).cells, rfl, by rw [← hc]; exact hr.cells (.inl h1), ?_⟩
  simp [execOp, ho, Instr.box, newVar, newRow]
theorem dr_boxA {d : Nat} {base loc loc' : Heap} {k : Nat} {t : TypeId} {x : Operand} {l : List AV} (ho : o.op = .box t x) (hx : ev env x = .agg l) (hl : snocC loc (.box t l) = some loc') (hg : gd all env o = some true) (hd : o.dst = some d)
    (h : DR P N hp0 all rest ks ((d, .ptr (base.length + k) 0) :: env) ⟨base, k + 1, loc'⟩ K) : DR P N hp0 all (o :: rest) (2 :: ks) env ⟨base, k, loc⟩ K := by
  refine dr_a (B := .box t l) (fun env' ha g w a hE => ?_) hl hg hd h
  have hr := ev_rel hE x
  rw [ev_agree_op ha (by rw [ho]; simp [Op.operands]), hx] at hr
  refine ⟨t, l, (a.eval x).cells, rfl, hr.cells (.inr ⟨l, rfl⟩), ?_⟩
  simp [execOp, ho, Instr.box, newVar, newRow]

theorem dr_w (h1 : ∀ env', Agree (opTs o.op) env env' → StepU P N hp env' o hp') (hg : gd all env o = some true) (hd : o.dst = none)
    (h : DR P N hp0 all rest ks env hp' K) : DR P N hp0 all (o :: rest) (3 :: ks) env hp K := by
  refine dr_cons (v := .junk) (k := .w false) (hp' := hp') rfl ?_ (by rw [push_none hd]; exact h)
  unfold FOp
  simp only [hg]
  refine ⟨(fun h => by cases h), fun env' ha g w a hH hE K Qc k => ?_⟩
  obtain ⟨g', w', e1, e2, e3⟩ := h1 env' (agree_op ha) g w a hH hE
  unfold Oper.wp
  rw [e1, Oper.upon_skip]
  have := k g' w' undef e2 (by simp [VRel]) e3
  exact this
/-- an operation that makes or fills memory of this region's own, in the line -/
theorem dr_x {d : Nat} {v : AV} (h1 : ∀ env', Agree (opTs o.op) env env' → Step P N hp env' o v hp') (hX : ∃ X : Heap, hp' = ⟨hp0.base, hp0.k + X.length, hp0.loc ++ X⟩) (hg : gd all env o = some true) (hd : o.dst = some d)
    (h : DR P N hp0 all rest ks ((d, v) :: env) hp' K) : DR P N hp0 all (o :: rest) (4 :: ks) env hp K := by
  refine dr_cons (v := v) (k := .w true) (hp' := hp') rfl ?_ (by rw [push_some hd]; exact h)
  unfold FOp
  simp only [hg]
  refine ⟨(fun _ => hX), fun env' ha g w a hH hE K Qc k => ?_⟩
  obtain ⟨c, g', w', e1, e2, e3, e4⟩ := h1 env' (agree_op ha) g w a hH hE
  unfold Oper.wp
  rw [e1, Oper.upon_value]
  exact k g' w' c e2 e3 e4
theorem dr_store1 (hT : TOk P T) {t u : TypeId} {x y : Operand} {ti : TI} {i k : Nat} {l l' : List AV} {v : AV} (ho : o.op = .store t x y) (ht : T t = some ti) (hx : ev env x = .ptr i k)
    (ha : At hp i (.box u l)) (hy : nf (ev env y) = some v) (h1 : v.one = true) (hsz : Nat.beq 1 ti.sz = true) (hs : setC l k [v] = some l') (hput : Put hp i (.box u l') hp') (hg : gd all env o = some true) (hd : o.dst = none)
    (h : DR P N hp0 all rest ks env hp' K) : DR P N hp0 all (o :: rest) (3 :: ks) env hp K :=
  dr_w (fun env' hag => st_store1 hT ho ht (by rw [ev_agree_op hag (by rw [ho]; simp [Op.operands])]; exact hx) ha (by rw [ev_agree_op hag (by rw [ho]; simp [Op.operands])]; exact hy) h1 hsz hs hput) hg hd h
theorem dr_storeA (hT : TOk P T) {t u : TypeId} {x y : Operand} {ti : TI} {i k : Nat} {l l' vs : List AV} (ho : o.op = .store t x y) (ht : T t = some ti) (hx : ev env x = .ptr i k)
    (ha : At hp i (.box u l)) (hy : ev env y = .agg vs) (h1 : allOne vs = true) (hsz : Nat.beq vs.length ti.sz = true) (hs : setC l k vs = some l') (hput : Put hp i (.box u l') hp') (hg : gd all env o = some true) (hd : o.dst = none)
    (h : DR P N hp0 all rest ks env hp' K) : DR P N hp0 all (o :: rest) (3 :: ks) env hp K :=
  dr_w (fun env' hag => st_storeA hT ho ht (by rw [ev_agree_op hag (by rw [ho]; simp [Op.operands])]; exact hx) ha (by rw [ev_agree_op hag (by rw [ho]; simp [Op.operands])]; exact hy) h1 hsz hs hput) hg hd h

theorem dr_indexAddr (hT : TOk P T) {t e d : TypeId} {x y : Operand} {ti ei : TI} {tok : Option Nat} {n : Nat} {l l' : List AV} {k : IntKind} {i : Int} (ho : o.op = .indexAddr t x y) (ht : T t = some ti)
    (hk : ti.kind = .sl e) (he : T e = some ei) (hx : ev env x = .sl tok n l) (hy : ev env y = .int k i) (h0 : 0 ≤ i) (hn : i < n) (hl : Seg l (i.toNat * ei.sz) l') (hne : l' ≠ []) (hg : gd all env o = some true) (hd : o.dst = some d)
    (h : DR P N hp0 all rest ks ((d, .rptr l') :: env) hp K) : DR P N hp0 all (o :: rest) (0 :: ks) env hp K :=
  dr_r (fun env' hag hp => st_indexAddr hT ho ht hk he (by rw [ev_agree_op hag (by rw [ho]; simp [Op.operands])]; exact hx) (by rw [ev_agree_op hag (by rw [ho]; simp [Op.operands])]; exact hy) h0 hn hl hne) hg hd h
theorem dr_indexAddr_arr (hT : TOk P T) {t e d : TypeId} {x y : Operand} {ti ei : TI} {n : Nat} {b p : Nat} {k : IntKind} {i : Int} (ho : o.op = .indexAddr t x y) (ht : T t = some ti)
    (hk : ti.kind = .arr n e) (he : T e = some ei) (hx : ev env x = .ptr b p) (hy : ev env y = .int k i) (h0 : 0 ≤ i) (hn : i < n) (hg : gd all env o = some true) (hd : o.dst = some d)
    (h : DR P N hp0 all rest ks ((d, .ptr b (p + i.toNat * ei.sz)) :: env) hp K) : DR P N hp0 all (o :: rest) (0 :: ks) env hp K :=
  dr_r (fun env' hag hp => st_indexAddr_arr hT ho ht hk he (by rw [ev_agree_op hag (by rw [ho]; simp [Op.operands])]; exact hx) (by rw [ev_agree_op hag (by rw [ho]; simp [Op.operands])]; exact hy) h0 hn) hg hd h
end
end Go.Vsi
