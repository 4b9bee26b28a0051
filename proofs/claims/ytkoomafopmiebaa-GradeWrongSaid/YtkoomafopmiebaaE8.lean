/- A text of the proof: E8. -/
import Derived.Test.YtkoomafopmiebaaE7
set_option linter.unusedSimpArgs false
set_option linter.unusedVariables false
namespace Go.Vsi

section
variable {P : Program} {N : Nat} {env : Env} {hp hp' : Hp} {o : Oper} {T : TypeId → Option TI}

theorem st_append (hT : TOk P T) {t e : TypeId} {x y : Operand} {ti ei : TI} {z : List AV} {k n m sz : Nat} {tok2 : Option Nat} {l l2 : List AV} {L : Nat} (ho : o.op = .call { callee := .builtin .append, args := #[x, y], argTypes := #[t, t] })
    (ht : T t = some ti) (hk : ti.kind = .sl e) (he : T e = some ei) (hez : ei.zero = some z) (hesz : ei.sz = sz + 1) (hzl : Nat.beq z.length ei.sz = true)
    (hx : ev env x = .sl (some k) n l) (hy : ev env y = .sl tok2 m l2) (hat : At hp k (.tok e (sz + 1) L)) (hL : L = l.length) (h1 : allOne l2 = true) (hl2 : l2.length = m * (sz + 1))
    (hbytes : (n + m) * ei.bytes ≤ 140737488355328) (hmax : n + m ≤ maxLen) (hput : Put hp k (.tok e (sz + 1) (l.length + l2.length)) hp') :
    Step P N hp env o (.sl (some k) (n + m) (l ++ l2)) hp' := by
  intro g w a hH hE
  subst hL
  have hr := ev_rel hE x
  rw [hx] at hr
  have hry := ev_rel hE y
  rw [hy] at hry
  obtain ⟨c', g', w', h2, h3, h4, h5⟩ := append_core (ty := o.type) hT hH ht hk he hez hesz (Nat.eq_of_beq_eq_true hzl) hat hr hry h1 hl2 hbytes hmax hput
  refine ⟨c', g', w', ?_, h3, h4, h5⟩
  simp [execOp, ho, resolve, invoke, builtin, h2]

/-- a token for the nil slice -/
theorem HRel.nilTok {g : G} {w : World} (h : HRel g w hp) (e : TypeId) (sz : Nat) :
    ∃ g', g'.ok g.n ∧ g'.tk g.n = ⟨0, sz, 0, none⟩ ∧ HRel g' w ⟨hp.base, hp.k + 1, hp.loc ++ [.tok e sz 0]⟩ ∧ Ext g w g' w := by
  let g' : G := { n := g.n + 1, blk := g.blk, tk := fun i => if i = g.n then ⟨0, sz, 0, none⟩ else g.tk i, own := g.own, pend := g.pend }
  have htk' : ∀ i, i < g.n → g'.tk i = g.tk i := fun i hi => by
    show (if i = g.n then _ else _) = _
    rw [if_neg (by omega)]
  have htk : g'.tk g.n = ⟨0, sz, 0, none⟩ := by show (if g.n = g.n then _ else _) = _; rw [if_pos rfl]
  have hnp : ¬ g.pend g.n := fun hp' => Nat.lt_irrefl g.n (by have := (List.getElem?_eq_some_iff.1 (h.pend _ hp')).1; rw [Hp.all_length h] at this; exact this)
  have hx : Ext g w g' w := ⟨Nat.le_succ _, fun _ _ h => h, fun i hi => ⟨Nat.lt_succ_of_lt hi.1, hi.2⟩, fun _ _ => rfl, fun i hi => .inl (htk' i hi.1), fun _ _ _ h => h, rfl, rfl, rfl, Nat.le_refl _, fun _ _ _ => rfl, fun _ ds _ _ hb => ⟨ds, hb, rfl, fun _ _ => rfl⟩⟩
  have hlen := Hp.all_length h
  have hall : (⟨hp.base, hp.k + 1, hp.loc ++ [.tok e sz 0]⟩ : Hp).all = hp.all ++ [.tok e sz 0] := by simp [Hp.all]
  have key : ∀ (i : Nat) (B : Blk), (hp.all ++ [.tok e sz 0])[i]? = some B → (i < g.n ∧ hp.all[i]? = some B) ∨ (i = g.n ∧ B = .tok e sz 0) := by
    intro i B hi
    rcases Nat.lt_or_ge i hp.all.length with hlt | hge
    · rw [List.getElem?_append_left hlt] at hi
      exact .inl ⟨by omega, hi⟩
    · rw [List.getElem?_append_right hge] at hi
      have h0 : i = hp.all.length := by
        have := (List.getElem?_eq_some_iff.1 hi).1
        simp at this; omega
      subst h0
      simp at hi
      exact .inr ⟨hlen, hi.symm⟩
  refine ⟨g', ⟨Nat.lt_succ_self _, hnp⟩, htk, ⟨?_, by simp [h.k], ?_, h.lt, fun i hi => ?_, ?_⟩, hx⟩
  · show g.n + 1 = _
    rw [h.n]; simp [Nat.add_assoc]
  · intro i B hi
    rw [hall] at hi
    rcases key i B hi with ⟨h1, h2⟩ | ⟨rfl, rfl⟩
    · exact (h.rel i B h2).keep hx (at_ok h h2) (fun _ _ => rfl) (htk' i h1) (fun _ _ _ ho => ho)
    · exact ⟨by rw [htk], by rw [htk], .inl ⟨by rw [htk], rfl, by rw [htk]⟩⟩
  · have := h.pend i hi
    rw [hall, List.getElem?_append_left (List.getElem?_eq_some_iff.1 this).1, this]
  · intro i j B C b hi hj hb hc
    rw [hall] at hi hj
    have hn : ∀ (i : Nat) (B : Blk), (hp.all ++ [.tok e sz 0])[i]? = some B → locs g' i B = some b → hp.all[i]? = some B ∧ locs g i B = some b := by
      intro i B hi hb
      rcases key i B hi with ⟨h1, h2⟩ | ⟨rfl, rfl⟩
      · exact ⟨h2, by rw [← locs_keep hx (at_ok h h2) (htk' i h1)]; exact hb⟩
      · simp [locs, htk] at hb
    obtain ⟨f1, f2⟩ := hn i B hi hb
    obtain ⟨f3, f4⟩ := hn j C hj hc
    exact h.inj i j B C b f1 f3 f2 f4

theorem st_append_nil (hT : TOk P T) {base loc loc' : Heap} {k : Nat} {t e : TypeId} {x y : Operand} {ti ei : TI} {z : List AV} {m sz : Nat} {tok2 : Option Nat} {l2 : List AV} (ho : o.op = .call { callee := .builtin .append, args := #[x, y], argTypes := #[t, t] })
    (ht : T t = some ti) (hk : ti.kind = .sl e) (he : T e = some ei) (hez : ei.zero = some z) (hesz : ei.sz = sz + 1) (hzl : Nat.beq z.length ei.sz = true)
    (hx : ev env x = .nils) (hy : ev env y = .sl tok2 m l2) (h1 : allOne l2 = true) (hl2 : l2.length = m * (sz + 1))
    (hbytes : m * ei.bytes ≤ 140737488355328) (hmax : m ≤ maxLen) (hl' : snocC loc (.tok e (sz + 1) l2.length) = some loc') :
    Step P N ⟨base, k, loc⟩ env o (.sl (some (base.length + k)) m l2) ⟨base, k + 1, loc'⟩ := by
  rw [snocC_eq _ _ _ hl']
  generalize hhp : (⟨base, k, loc⟩ : Hp) = hp
  have q1 : base = hp.base := by rw [← hhp]
  have q2 : k = hp.k := by rw [← hhp]
  have q3 : loc = hp.loc := by rw [← hhp]
  rw [q1, q2, q3]
  clear q1 q2 q3 hhp
  intro g w a hH hE
  have hr := ev_rel hE x
  rw [hx] at hr
  simp only [VRel] at hr
  have hry := ev_rel hE y
  rw [hy] at hry
  obtain ⟨g1, f1, f2, f3, f4⟩ := hH.nilTok e (sz + 1)
  have hat : At ⟨hp.base, hp.k + 1, hp.loc ++ [.tok e (sz + 1) 0]⟩ (hp.base.length + hp.k) (.tok e (sz + 1) ([] : List AV).length) := by
    unfold At Hp.all
    simp only
    rw [List.getElem?_append_right (by omega), Nat.add_sub_cancel_left, ← hH.k]
    simp
  have hnil : VRel g1 w (.sl (some (hp.base.length + hp.k)) 0 []) (.slice none 0 0) := by
    simp only [VRel]
    refine ⟨none, 0, rfl, Nat.le_refl _, .inl trivial, fun t ht => ?_⟩
    cases ht
    have e1 : g1.tk (hp.base.length + hp.k) = ⟨0, sz + 1, 0, none⟩ := by rw [← hH.n]; exact f2
    refine ⟨by rw [← hH.n]; exact f1, by simp, fun _ => ?_⟩
    rw [e1]
    simp
  have hput : Put ⟨hp.base, hp.k + 1, hp.loc ++ [.tok e (sz + 1) 0]⟩ (hp.base.length + hp.k) (.tok e (sz + 1) (([] : List AV).length + l2.length)) ⟨hp.base, hp.k + 1, hp.loc ++ [.tok e (sz + 1) l2.length]⟩ := by
    refine ⟨?_, rfl, rfl, by simp⟩
    simp only [Hp.all, List.length_nil, Nat.zero_add]
    rw [List.set_append_right _ _ (by omega), Nat.add_sub_cancel_left, ← hH.k, List.set_append_right _ _ (by omega)]
    simp
  obtain ⟨c', g', w', h2, h3, h4, h5⟩ := append_core (ty := o.type) hT f3 ht hk he hez hesz (Nat.eq_of_beq_eq_true hzl) hat hnil (VRel.ext f4 _ _ hry) h1 hl2 (by simpa using hbytes) (by simpa using hmax) hput
  refine ⟨c', g', w', ?_, h3, by simpa using h4, f4.trans h5⟩
  simp [execOp, ho, resolve, invoke, builtin, hr, h2]

theorem HRel.tokBox {i j : Nat} {bt e : TypeId} {sz : Nat} {l l' : List AV} (ha : At hp i (.box bt l)) (hl : lget l j = some .nils) (hs : lset l j (.sl (some (hp.base.length + hp.k)) 0 []) = some l')
    (hput : Put ⟨hp.base, hp.k + 1, hp.loc ++ [.tok e sz 0]⟩ i (.box bt l') hp') {g : G} {w : World} (hH : HRel g w hp) : ∃ g1, HRel g1 w hp' ∧ Ext g w g1 w := by
  obtain ⟨g1, f1, f2, f3, f4⟩ := hH.nilTok e sz
  obtain ⟨e1, e2⟩ := lset_eq _ _ _ _ hs
  rw [lget_eq] at hl
  have hat' : At ⟨hp.base, hp.k + 1, hp.loc ++ [.tok e sz 0]⟩ i (.box bt l) := by
    have hall : (⟨hp.base, hp.k + 1, hp.loc ++ [.tok e sz 0]⟩ : Hp).all = hp.all ++ [.tok e sz 0] := by simp [Hp.all]
    unfold At
    rw [hall, List.getElem?_append_left (List.getElem?_eq_some_iff.1 ha).1]
    exact ha
  have hH' : HRel g1 w hp' := by
    refine ⟨by rw [hput.base, hput.k]; exact f3.n, by rw [hput.loc, hput.k]; exact f3.k, fun k B hk => ?_, f3.lt, fun j hj => ?_, fun k1 k2 B C b hk1 hk2 hb1 hb2 => ?_⟩
    · rcases put_split hput hk with ⟨rfl, rfl⟩ | ⟨-, hk'⟩
      · obtain ⟨cs, h1, h2, h3⟩ := f3.rel i _ hat'
        refine ⟨cs, h1, ?_, h3⟩
        rw [e1]
        refine LRel.mk (by simp [h2.length]) fun q v c hv hc => ?_
        rw [List.getElem?_set] at hv
        by_cases hjq : j = q
        · subst hjq
          simp only [if_true] at hv
          split at hv
          · cases hv
            obtain ⟨c', q1, q2⟩ := h2.get hl
            rw [q1] at hc
            cases hc
            simp only [VRel] at q2
            subst q2
            simp only [VRel]
            refine ⟨none, 0, rfl, Nat.le_refl _, .inl trivial, fun t ht => ?_⟩
            cases ht
            have e1 : g1.tk (hp.base.length + hp.k) = ⟨0, sz, 0, none⟩ := by rw [← hH.n]; exact f2
            refine ⟨by rw [← hH.n]; exact f1, by simp, fun _ => ?_⟩
            rw [e1]
            simp
          · omega
        · rw [if_neg hjq] at hv
          obtain ⟨c', q1, q2⟩ := h2.get hv
          rw [q1] at hc; cases hc; exact q2
      · exact f3.rel k B hk'
    · have hd := f3.pend j hj
      rw [hput.all, List.getElem?_set, if_neg (fun e => by subst e; unfold At at hat'; rw [hd] at hat'; cases hat'), hd]
    · have key : ∀ (k : Nat) (B : Blk), hp'.all[k]? = some B → locs g1 k B = some b → ∃ B', (⟨hp.base, hp.k + 1, hp.loc ++ [.tok e sz 0]⟩ : Hp).all[k]? = some B' ∧ locs g1 k B' = some b := by
        intro k B hk hb
        rcases put_split hput hk with ⟨rfl, rfl⟩ | ⟨-, hk'⟩
        · exact ⟨_, hat', hb⟩
        · exact ⟨B, hk', hb⟩
      obtain ⟨B', q1, q2⟩ := key k1 B hk1 hb1
      obtain ⟨C', q3, q4⟩ := key k2 C hk2 hb2
      exact f3.inj k1 k2 B' C' b q1 q3 q2 q4
  exact ⟨g1, hH', f4⟩

/-- before a loop: a box that holds the nil slice gets a token of its own -/
theorem vw_tok {c : Code} {Q : Exit → Env → Hp → Prop} {i j : Nat} {bt e : TypeId} {sz : Nat} {l l' : List AV} (ha : At hp i (.box bt l)) (hl : lget l j = some .nils) (hs : lset l j (.sl (some (hp.base.length + hp.k)) 0 []) = some l')
    (hput : Put ⟨hp.base, hp.k + 1, hp.loc ++ [.tok e sz 0]⟩ i (.box bt l') hp') (h : VW P N c Q env hp') : VW P N c Q env hp := by
  intro g w a hH hE
  obtain ⟨g1, hH', f4⟩ := hH.tokBox ha hl hs hput
  exact Code.wp_mono (fun _ _ _ hl => Lift.of_later f4 hl) (h g1 w a hH' (hE.ext f4))

/-! ### a slice literal -/
def repC : Nat → List AV → List AV
  | 0, _ => []
  | n + 1, z => z ++ repC n z
theorem repC_length (z : List AV) : ∀ n, (repC n z).length = n * z.length
  | 0 => by simp [repC]
  | n + 1 => by simp [repC, repC_length z n, Nat.add_mul, Nat.add_comm]
theorem repC_get (z : List AV) : ∀ (n i : Nat), i < n * z.length → (repC n z)[i]? = z[i % z.length]?
  | 0, i, h => by simp at h
  | n + 1, i, h => by
    simp only [repC]
    rcases Nat.lt_or_ge i z.length with hi | hi
    · rw [List.getElem?_append_left hi, Nat.mod_eq_of_lt hi]
    · rw [List.getElem?_append_right hi, repC_get z n (i - z.length) (by rw [Nat.add_mul] at h; omega)]
      rw [Nat.mod_eq_sub_mod hi]

theorem zeros_rel {g : G} {w : World} {z : List AV} {zv : Array Value} (hz : LRel g w z zv.toList) (n : Nat) : LRel g w (repC n z) ((Array.range (n * zv.size)).map (zv[· % zv.size]!)).toList := by
  have hl := hz.length
  simp only [Array.length_toList] at hl
  refine LRel.mk (by simp [repC_length, hl]) fun i v c hv hc => ?_
  have hi : i < n * z.length := by rw [← repC_length]; exact (List.getElem?_eq_some_iff.1 hv).1
  have hpos : 0 < z.length := by
    rcases Nat.eq_zero_or_pos z.length with h | h
    · rw [h] at hi; omega
    · exact h
  rw [repC_get z n i hi] at hv
  obtain ⟨c', h1, h2⟩ := hz.get hv
  simp only [Array.getElem?_toList, Array.getElem?_map, hl] at hc
  rw [Array.getElem?_range, if_pos (by omega)] at hc
  simp only [Option.map_some, Option.some.injEq] at hc
  have hlt : i % z.length < zv.size := by rw [hl]; exact Nat.mod_lt _ hpos
  rw [getElem!_pos zv _ hlt] at hc
  simp only [Array.getElem?_toList, Array.getElem?_eq_getElem hlt, Option.some.injEq] at h1
  rw [← hc, h1]
  exact h2

theorem st_buildSlice (hT : TOk P T) {t e : TypeId} {ti ei : TI} {n : Nat} {parts : List (Nat × Operand)} {z l : List AV} (ho : o.op = .buildSlice t n parts.toArray) (ht : T t = some ti)
    (hk : ti.kind = .sl e) (he : T e = some ei) (hz : ei.zero = some z) (hzl : Nat.beq z.length ei.sz = true) (hsmall : Nat.ble (n * ei.sz) 16777216 = true) (h1 : allOA (evParts env parts) = true) (hl : fillC (arrPlace ei.sz) (repC n z) (evParts env parts) = some l) :
    Step P N hp env o (.sl none n l) hp := by
  intro g w a hH hE
  obtain ⟨d, i0, e1, -, e3, -⟩ := tiOf_some (hT _ _ ht)
  rw [hk] at e3
  have hd : d = .slice e := by cases d <;> simp [tkOf] at e3; rw [e3]
  subst hd
  obtain ⟨d2, i, -, f2, -, f4, f5, f6⟩ := tiOf_some (hT _ _ he)
  rw [hz] at f6
  cases hiz : i.zero with
  | none => rw [hiz] at f6; cases f6
  | some zv =>
  rw [hiz] at f6
  simp only [Option.map_some, Option.some.injEq] at f6
  have hzl' : z.length = ei.sz := Nat.eq_of_beq_eq_true hzl
  have hzr : LRel g w z zv.cells.toList := by rw [f6]; exact av1s_rel g w _
  have hzs : zv.cells.size = i.size := by
    have := hzr.length
    simp only [Array.length_toList] at this
    rw [this, hzl', f4]
  have hzero := zeros_rel hzr n
  rw [hzs] at hzero
  obtain ⟨cs', g1, g2⟩ := fill_rel (g := g) (w := w) (place := arrPlace ei.sz) (evParts env parts) (parts.map fun p => (p.1, a.eval p.2)) (repC n z) l _ (allOA_mem _ h1) (by simp [evParts_map]) (parts_rel hE parts) hzero hl
  have hle : n * i.size ≤ 16777216 := by rw [← f4]; exact Nat.le_of_ble_eq_true hsmall
  have hH' : HRel g (w.alloc (.cells cs' e)) hp := hH.fresh _
  refine ⟨.slice (some ⟨w.heap.size, 0, none⟩) n n, g, w.alloc (.cells cs' e), ?_, hH', ?_, Ext.fresh g w _⟩
  · have hfill : Instr.fill (fun j => some (j * i.size, i.size)) ((Array.range (n * i.size)).map (zv.cells[· % zv.cells.size]!)) (parts.map fun p => (p.1, a.eval p.2)) = some cs' := by
      rw [← f4, ← g1, ← f4, hzs, ← f4]; rfl
    by_cases h0 : n * i.size = 0
    · have he1 : Instr.fill (fun j => some (j * i.size, i.size)) #[] (parts.map fun p => (p.1, a.eval p.2)) = some cs' := by
        have := hfill
        rw [h0, show Array.range 0 = (#[] : Array Nat) from rfl, Array.map_empty] at this
        exact this
      have hr0 : Array.range 0 = (#[] : Array Nat) := rfl
      unfold execOp
      simp only [ho, Instr.buildSlice, Sem.run_bind, run_underlying e1, Result.andThen_ok, sizeOf_run f2]
      rw [if_neg (by omega)]
      simp only [h0, if_true, hr0]
      simp [newRow, he1]
    · unfold execOp
      simp only [ho, Instr.buildSlice, Sem.run_bind, run_underlying e1, Result.andThen_ok, sizeOf_run f2]
      rw [if_neg (by omega)]
      simp only [h0, if_false]
      simp [zeroValue, typeInfo, f2, hiz, newRow, hfill]
  · simp only [VRel]
    refine ⟨_, n, rfl, Nat.le_refl _, .inr ⟨w.heap.size, 0, rfl, MRel.mk fun j v hj => ?_⟩, fun t h => by cases h⟩
    obtain ⟨c, q1, q2⟩ := (LRel.ext (Ext.fresh g w (.cells cs' e)) _ _ g2).get hj
    exact ⟨c, cell_iff.2 ⟨cs', e, _, heap_alloc_new w _, by simpa using q1⟩, q2, fun ho => absurd (hH.lt _ _ ho) (Nat.lt_irrefl _)⟩
end
end Go.Vsi
