/- A text of the proof: E18. -/
import Derived.Test.YtkoomafopmiebaaE17
set_option linter.unusedSimpArgs false
set_option linter.unusedVariables false
namespace Go.Vsi

section
variable {P : Program} {N : Nat} {env : Env} {hp hp' : Hp} {o : Oper} {T : TypeId → Option TI}

/-- make, of a slice that nobody writes -/
theorem st_makeX (hT : TOk P T) {t e : TypeId} {x y : Operand} {ti ei : TI} {k k' : IntKind} {n : Nat} {z : List AV} (ho : o.op = .makeSlice t x y) (ht : T t = some ti) (hk : ti.kind = .sl e) (he : T e = some ei) (hz : ei.zero = some z) (hzl : z.length = ei.sz)
    (hx : ev env x = .int k (n : Int)) (hy : ev env y = .int k' (n : Int)) (hn : (n : Int) ≤ 9223372036854775807) (hb : n * ei.bytes ≤ 281474976710656) : Step P N hp env o (.sx n (repC n z)) hp := by
  intro g w a hH hE
  obtain ⟨cs, h1, h2⟩ := make_run hT hE ho ht hk he hz hzl hx hy hn hb
  refine ⟨_, g, _, h1, hH.fresh _, ?_, Ext.fresh g w _⟩
  simp only [VRel]
  refine ⟨_, rfl, .inr ⟨w.heap.size, 0, rfl, MRel.mk fun j v hj => ?_⟩⟩
  obtain ⟨c, q1, q2⟩ := (h2 g (w.alloc (.cells cs e))).get hj
  exact ⟨c, cell_iff.2 ⟨cs, e, _, heap_alloc_new w _, by simpa using q1⟩, q2, fun ho => absurd (hH.lt _ _ ho) (Nat.lt_irrefl _)⟩

/-- make, of a slice that is written -/
theorem st_makeB (hT : TOk P T) {base loc : Heap} {q : Nat} {t e : TypeId} {x y : Operand} {ti ei : TI} {k k' : IntKind} {n : Nat} {z : List AV} (ho : o.op = .makeSlice t x y) (ht : T t = some ti) (hk : ti.kind = .sl e) (he : T e = some ei) (hz : ei.zero = some z) (hzl : z.length = ei.sz)
    (hx : ev env x = .int k (n : Int)) (hy : ev env y = .int k' (n : Int)) (hn : (n : Int) ≤ 9223372036854775807) (hb : n * ei.bytes ≤ 281474976710656) : Step P N ⟨base, q, loc⟩ env o (.ms (base.length + q) 0 n) ⟨base, q + 1, loc ++ [.box e (repC n z)]⟩ := by
  intro g w a hH hE
  obtain ⟨cs, h1, h2⟩ := make_run hT hE ho ht hk he hz hzl hx hy hn hb
  obtain ⟨g', e1, e2, e3, e4⟩ := hH.newBox (t := e) (l := repC n z) (cs := cs) (h2 g w)
  refine ⟨_, g', _, h1, e3, ?_, e4⟩
  simp only [VRel]
  have hn' := hH.n
  simp only at hn'
  exact ⟨by rw [← hn']; exact e1, n, Nat.le_refl _, by rw [← hn', e2]⟩

/-- append behind what has no spare room: an array of one's own -/
theorem st_append_x (hT : TOk P T) {base loc : Heap} {k : Nat} {t e : TypeId} {x y : Operand} {ti ei : TI} {z : List AV} {n m sz : Nat} {l l2 : List AV} (ho : o.op = .call { callee := .builtin .append, args := #[x, y], argTypes := #[t, t] })
    (ht : T t = some ti) (hk : ti.kind = .sl e) (he : T e = some ei) (hez : ei.zero = some z) (hesz : ei.sz = sz + 1) (hzl : z.length = ei.sz)
    (hx : ev env x = .sx n l ∨ (ev env x = .nils ∧ n = 0 ∧ l = [])) (hy : slOf (ev env y) = some (m, l2)) (hl : l.length = n * (sz + 1)) (hl2 : l2.length = m * (sz + 1)) (hm0 : 0 < m)
    (hbytes : (n + m) * ei.bytes ≤ 140737488355328) (hmax : n + m ≤ maxLen) :
    Step P N ⟨base, k, loc⟩ env o (.sl (some (base.length + k)) (n + m) (l ++ l2)) ⟨base, k + 1, loc ++ [.tok e (sz + 1) (l.length + l2.length)]⟩ := by
  generalize hhp : (⟨base, k, loc⟩ : Hp) = hp
  have q1 : base = hp.base := by rw [← hhp]
  have q2 : k = hp.k := by rw [← hhp]
  have q3 : loc = hp.loc := by rw [← hhp]
  rw [q1, q2, q3]
  clear q1 q2 q3 hhp
  intro g w a hH hE
  have hr := ev_rel hE x
  obtain ⟨A, hc, hm⟩ : ∃ A, a.eval x = .slice A n n ∧ (l = [] ∨ ∃ b o, A = some ⟨b, o, none⟩ ∧ MRel g w l b o) := by
    rcases hx with hx | ⟨hx, rfl, rfl⟩
    · rw [hx] at hr; simp only [VRel] at hr; exact hr
    · rw [hx] at hr; simp only [VRel] at hr; exact ⟨none, hr, .inl rfl⟩
  obtain ⟨A2, cap2, hc2, -, hm2⟩ := slOf_rel (ev_rel hE y) hy
  obtain ⟨d, i0, e1, -, e3, -⟩ := tiOf_some (hT _ _ ht)
  rw [hk] at e3
  have hd : d = .slice e := by cases d <;> simp [tkOf] at e3; rw [e3]
  subst hd
  obtain ⟨d2, i, -, f2, -, f4, f5, f6⟩ := tiOf_some (hT _ _ he)
  rw [hez] at f6
  cases hiz : i.zero with
  | none => rw [hiz] at f6; cases f6
  | some zv =>
  rw [hiz] at f6
  simp only [Option.map_some, Option.some.injEq] at f6
  have hisz : i.size = sz + 1 := by rw [← f4, hesz]
  have hzs : zv.cells.size = sz + 1 := by
    have : (zv.cells.toList.map av1).length = sz + 1 := by rw [← f6, hzl, hesz]
    simpa using this
  obtain ⟨g1, n1, n2, n3, n4⟩ := hH.nilTok e (sz + 1)
  have hat : At ⟨hp.base, hp.k + 1, hp.loc ++ [.tok e (sz + 1) 0]⟩ (hp.base.length + hp.k) (.tok e (sz + 1) 0) := by
    unfold At Hp.all
    simp only
    rw [List.getElem?_append_right (by omega), Nat.add_sub_cancel_left, ← hH.k]
    simp
  have hput : Put ⟨hp.base, hp.k + 1, hp.loc ++ [.tok e (sz + 1) 0]⟩ (hp.base.length + hp.k) (.tok e (sz + 1) (l.length + l2.length)) ⟨hp.base, hp.k + 1, hp.loc ++ [.tok e (sz + 1) (l.length + l2.length)]⟩ := by
    refine ⟨?_, rfl, rfl, by simp⟩
    simp only [Hp.all]
    rw [List.set_append_right _ _ (by omega), Nat.add_sub_cancel_left, ← hH.k, List.set_append_right _ _ (by omega)]
    simp
  have hl2pos : 0 < l2.length := by rw [hl2]; exact Nat.mul_pos hm0 (by omega)
  have hl2ne : l2 ≠ [] := by rintro rfl; simp at hl2pos
  obtain ⟨s2, o2, rfl, hm2'⟩ := hm2.resolve_left hl2ne
  obtain ⟨news, hnews, hnc⟩ := hm2'.list
  have hnewsl := hnews.length
  have hnewsz : news.length = m * i.size := by rw [hnewsl, hl2, hisz]
  have hnc' : ∀ (j : Nat) u, news[j]? = some u → w.cell? ((⟨s2, o2, none⟩ : Addr).add j) = some u := fun j u hu => by rw [Addr.add_lit]; exact hnc j u hu
  have hnl' : l.length + l2.length = (n + m) * (sz + 1) := by rw [hl, hl2, Nat.add_mul]
  have h63 : n + m ≤ 9223372036854775807 := by simp only [maxLen] at hmax; omega
  have hgc : n + m ≤ grownCap w (n + m) n e ∧ grownCap w (n + m) n e ≤ maxLen := ⟨grownCap_ge w _ _ e, grownCap_le_maxLen w _ _ e hmax⟩
  have fin : ∀ (xs : List Value), LRel g w l xs → ∃ g', HRel g' (w.drew.alloc (.cells (xs.toArray ++ news.toArray ++ Builtin.zeroCells zv.cells (grownCap w (n + m) n e - (n + m))) e)) ⟨hp.base, hp.k + 1, hp.loc ++ [.tok e (sz + 1) (l.length + l2.length)]⟩ ∧
      VRel g' (w.drew.alloc (.cells (xs.toArray ++ news.toArray ++ Builtin.zeroCells zv.cells (grownCap w (n + m) n e - (n + m))) e)) (.sl (some (hp.base.length + hp.k)) (n + m) (l ++ l2)) (.slice (some ⟨w.heap.size, 0, none⟩) (n + m) (grownCap w (n + m) n e)) ∧ Ext g w g' (w.drew.alloc (.cells (xs.toArray ++ news.toArray ++ Builtin.zeroCells zv.cells (grownCap w (n + m) n e - (n + m))) e)) := by
    intro xs hxs
    have hxl := hxs.length
    have hsz : (xs.toArray ++ news.toArray ++ Builtin.zeroCells zv.cells (grownCap w (n + m) n e - (n + m))).size = grownCap w (n + m) n e * (sz + 1) := by
      simp only [Array.size_append, List.size_toArray, size_zeroCells, hzs, hxl, hnewsl, hnl', ← Nat.add_mul]
      congr 1
      have := hgc.1
      omega
    have hrel : LRel g1 w (l ++ l2) ((xs.toArray ++ news.toArray ++ Builtin.zeroCells zv.cells (grownCap w (n + m) n e - (n + m))).toList.take (l.length + l2.length)) := by
      have : (xs.toArray ++ news.toArray ++ Builtin.zeroCells zv.cells (grownCap w (n + m) n e - (n + m))).toList.take (l.length + l2.length) = xs ++ news := by
        simp only [Array.toList_append]
        rw [← hxl, ← hnewsl, ← List.length_append, List.take_left']
        simp
      rw [this]
      exact LRel.ext n4 _ _ (hxs.append hnews)
    obtain ⟨g', r1, r2, r3⟩ := append_new (n := n + m) (cap' := grownCap w (n + m) n e) (l' := l ++ l2) n3 hat (len' := l.length + l2.length) (by omega) (by simp) hnl' hgc.1 hgc.2 hsz hrel hput
    exact ⟨g', r1, r2, n4.trans r3⟩
  have hexec : ∀ c w', (Builtin.append_ #[t, t] o.type #[a.eval x, .slice (some ⟨s2, o2, none⟩) m cap2]).run P w = .ok c w' → (execOp a.eval o).run P w = .ok (.value c) w' := by
    intro c w' h2
    simp [execOp, ho, resolve, invoke, builtin, hc2, h2]
  by_cases hln : l = []
  · subst hln
    have hn0 : n = 0 := by
      rcases Nat.eq_zero_or_pos n with h | h
      · exact h
      · have := Nat.mul_pos h (show 0 < sz + 1 by omega)
        simp at hl
        omega
    subst hn0
    cases A with
    | none =>
      have hrun := run_append_nil (P := P) w t o.type e i zv e1 f2 hiz ⟨s2, o2, none⟩ m cap2 news hnewsz hnc' hm0 (by omega) (by rw [f5] at hbytes; simp only [Nat.zero_add] at hbytes; omega)
      obtain ⟨g', r1, r2, r3⟩ := fin [] (by simp [LRel])
      refine ⟨_, g', _, hexec _ _ (by rw [hc]; exact hrun), ?_, ?_, ?_⟩
      · simpa using r1
      · simpa using r2
      · simpa using r3
    | some p =>
      have hrun := run_append_grow (P := P) w t o.type e i zv e1 f2 hiz p 0 0 [] (by simp) (by simp) ⟨s2, o2, none⟩ m cap2 news hnewsz hnc' (by omega) (by omega) (growslice_fits (by omega) (by rw [← f5]; exact hbytes))
      obtain ⟨g', r1, r2, r3⟩ := fin [] (by simp [LRel])
      exact ⟨_, g', _, hexec _ _ (by rw [hc]; exact hrun), r1, r2, r3⟩
  · obtain ⟨b, o', rfl, hm'⟩ := hm.resolve_left hln
    obtain ⟨xs, hxs, hxc⟩ := hm'.list
    have hxl := hxs.length
    have hrun := run_append_grow (P := P) w t o.type e i zv e1 f2 hiz ⟨b, o', none⟩ n n xs (by rw [hxl, hl, hisz]) (fun j u hu => by rw [Addr.add_lit]; exact hxc j u hu) ⟨s2, o2, none⟩ m cap2 news hnewsz hnc' (by omega) (by omega) (growslice_fits (by omega) (by rw [← f5]; exact hbytes))
    obtain ⟨g', r1, r2, r3⟩ := fin xs hxs
    exact ⟨_, g', _, hexec _ _ (by rw [hc]; exact hrun), r1, r2, r3⟩

/-- .. of nothing -/
theorem st_append_0 (hT : TOk P T) {t e : TypeId} {x y : Operand} {ti ei : TI} {l2 : List AV} {v : AV} {n : Nat} {l : List AV} (ho : o.op = .call { callee := .builtin .append, args := #[x, y], argTypes := #[t, t] })
    (ht : T t = some ti) (hk : ti.kind = .sl e) (he : T e = some ei) (hx : ev env x = v) (hs : slOf v = some (n, l)) (hy : slOf (ev env y) = some (0, l2)) : Step P N hp env o v hp := by
  intro g w a hH hE
  have hr := ev_rel hE x
  rw [hx] at hr
  obtain ⟨A, cap, hc, hcap, hm⟩ := slOf_rel hr hs
  obtain ⟨A2, cap2, hc2, -, -⟩ := slOf_rel (ev_rel hE y) hy
  obtain ⟨d, i0, e1, -, e3, -⟩ := tiOf_some (hT _ _ ht)
  rw [hk] at e3
  have hd : d = .slice e := by cases d <;> simp [tkOf] at e3; rw [e3]
  subst hd
  obtain ⟨d2, i, -, f2, -⟩ := tiOf_some (hT _ _ he)
  have hrun := append_none (P := P) (w := w) (t := t) (ty := o.type) e1 f2 (A := A) (A2 := A2) (c2 := cap2) hcap
  exact ⟨.slice A n cap, g, w, by simp [execOp, ho, resolve, invoke, builtin, hc, hc2, hrun], hH, by rw [← hc]; exact hr, Ext.refl g w⟩

theorem sl_of_slOf {g : G} {w : World} {v : AV} {c : Value} {m : Nat} {l2 : List AV} (h : VRel g w v c) (hs : slOf v = some (m, l2)) : VRel g w (.sl none m l2) c := by
  obtain ⟨A, cap, h1, h2, h3⟩ := slOf_rel h hs
  simp only [VRel]
  exact ⟨A, cap, h1, h2, h3, fun t e => by cases e⟩

/-- append in one's own array -/
theorem st_append_t (hT : TOk P T) {t e : TypeId} {x y : Operand} {ti ei : TI} {z : List AV} {k n m sz : Nat} {l l2 : List AV} {L : Nat} (ho : o.op = .call { callee := .builtin .append, args := #[x, y], argTypes := #[t, t] })
    (ht : T t = some ti) (hk : ti.kind = .sl e) (he : T e = some ei) (hez : ei.zero = some z) (hesz : ei.sz = sz + 1) (hzl : z.length = ei.sz)
    (hx : ev env x = .sl (some k) n l) (hy : slOf (ev env y) = some (m, l2)) (hat : At hp k (.tok e (sz + 1) L)) (hL : L = l.length) (h1 : allOne l2 = true) (hl2 : l2.length = m * (sz + 1))
    (hbytes : (n + m) * ei.bytes ≤ 140737488355328) (hmax : n + m ≤ maxLen) (hput : Put hp k (.tok e (sz + 1) (l.length + l2.length)) hp') :
    Step P N hp env o (.sl (some k) (n + m) (l ++ l2)) hp' := by
  intro g w a hH hE
  subst hL
  have hr := ev_rel hE x
  rw [hx] at hr
  have hry := sl_of_slOf (ev_rel hE y) hy
  obtain ⟨c', g', w', h2, h3, h4, h5⟩ := append_core (ty := o.type) hT hH ht hk he hez hesz hzl hat hr hry h1 hl2 hbytes hmax hput
  refine ⟨c', g', w', ?_, h3, h4, h5⟩
  simp [execOp, ho, resolve, invoke, builtin, h2]
end
end Go.Vsi
