/- A text of the proof: E7. -/
import Derived.Test.YtkoomafopmiebaaE6
import Derived.Maps.AppendAt
set_option linter.unusedSimpArgs false
set_option linter.unusedVariables false
namespace Go.Vsi

theorem MRel.list {g : G} {w : World} : ∀ {l : List AV} {b o : Nat}, MRel g w l b o → ∃ cs : List Value, LRel g w l cs ∧ ∀ (j : Nat) c, cs[j]? = some c → w.cell? ⟨b, o + j, none⟩ = some c
  | [], b, o, _ => ⟨[], by simp [LRel], by simp⟩
  | v :: l, b, o, h => by
    simp only [MRel] at h
    obtain ⟨⟨c, h1, h2, h3⟩, h4⟩ := h
    obtain ⟨cs, h5, h6⟩ := h4.list
    refine ⟨c :: cs, by simp only [LRel]; exact ⟨c, cs, rfl, h2, h5⟩, fun j d hj => ?_⟩
    cases j with
    | zero => simp at hj; subst hj; simpa using h1
    | succ j =>
      have := h6 j d (by simpa using hj)
      rwa [show o + 1 + j = o + (j + 1) by omega] at this

section
variable {P : Program} {N : Nat} {env : Env} {hp hp' : Hp} {o : Oper} {T : TypeId → Option TI}

theorem append_none {w : World} {t ty e : TypeId} {i : TypeInfo} (ht : P.underlying t = some (.slice e)) (hi : P.info? e = some i) {A A2 : Option Addr} {n cap c2 : Nat} (hn : n ≤ cap) :
    (Builtin.append_ #[t, t] ty #[.slice A n cap, .slice A2 0 c2]).run P w = .ok (.slice A n cap) w := by
  cases A <;> cases A2 <;> simp [Builtin.append_, run_underlying ht, sizeOf, typeInfo, hi, Builtin.lenOf, Builtin.firstCells, hn, storeCells, loadCells, loadCellsFrom]

theorem put_split {i j : Nat} {B B' : Blk} (hput : Put hp i B hp') (hj : hp'.all[j]? = some B') : (i = j ∧ B' = B) ∨ (i ≠ j ∧ hp.all[j]? = some B') := by
  rw [hput.all, List.getElem?_set] at hj
  by_cases hij : i = j
  · subst hij
    simp only [if_true] at hj
    split at hj
    · cases hj; exact .inl ⟨rfl, rfl⟩
    · cases hj
  · rw [if_neg hij] at hj
    exact .inr ⟨hij, hj⟩

theorem append_new {g : G} {w : World} {e k n len' sz cap' len : Nat} {l' : List AV} {cur' : Array Value} (hH : HRel g w hp) (hat : At hp k (.tok e (sz + 1) len)) (hlen : len < len') (hl' : l'.length = len')
    (hn : len' = n * (sz + 1)) (hncap : n ≤ cap') (hcap' : cap' ≤ maxLen) (hsize : cur'.size = cap' * (sz + 1)) (hrel : LRel g w l' (cur'.toList.take len')) (hput : Put hp k (.tok e (sz + 1) len') hp') :
    ∃ g', HRel g' (w.drew.alloc (.cells cur' e)) hp' ∧ VRel g' (w.drew.alloc (.cells cur' e)) (.sl (some k) n l') (.slice (some ⟨w.heap.size, 0, none⟩) n cap') ∧ Ext g w g' (w.drew.alloc (.cells cur' e)) := by
  have hkn := at_ok hH hat (by simp)
  obtain ⟨b1, b2, b3⟩ := hH.rel k _ hat
  let g' : G := { n := g.n, blk := g.blk, tk := fun j => if j = k then ⟨len', sz + 1, cap', some w.heap.size⟩ else g.tk j, own := fun b o => g.own b o ∨ (b = w.heap.size ∧ len' ≤ o), pend := g.pend }
  have htk : g'.tk k = ⟨len', sz + 1, cap', some w.heap.size⟩ := by show (if k = k then _ else _) = _; rw [if_pos rfl]
  have htk' : ∀ j, j ≠ k → g'.tk j = g.tk j := fun j hj => by show (if j = k then _ else _) = _; rw [if_neg hj]
  have hold : ∀ b, b < w.heap.size → (w.drew.alloc (.cells cur' e)).heap[b]? = w.heap[b]? := fun b hb => heap_alloc_old w.drew _ hb
  have hnew : (w.drew.alloc (.cells cur' e)).heap[w.heap.size]? = some (.cells cur' e) := heap_alloc_new w.drew _
  have hx : Ext g w g' (w.drew.alloc (.cells cur' e)) := by
    refine ⟨Nat.le_refl _, fun _ _ h => h, fun _ h => h, fun _ _ => rfl, fun j _ => ?_, fun b o hb ho => ?_, rfl, rfl, rfl, by simp, fun b hb _ => hold b hb, fun b ds u fz hb => ⟨ds, by rw [hold b (lt_size hb), hb], rfl, fun _ _ => rfl⟩⟩
    · by_cases hjk : j = k
      · subst hjk
        right
        rw [htk, b1]
        exact hlen
      · exact .inl (htk' j hjk)
    · rcases ho with ho | ho
      · exact ho
      · omega
  refine ⟨g', ⟨by rw [hput.base, hput.k]; exact hH.n, by rw [hput.loc, hput.k]; exact hH.k, fun j B hj => ?_, fun b o ho => ?_, fun i hi => by
    have hd := hH.pend i hi
    rw [hput.all, List.getElem?_set, if_neg (fun e => by subst e; unfold At at hat; rw [hd] at hat; cases hat), hd], fun i j B C b hi hj hb hc => ?_⟩, ?_, hx⟩
  · rcases put_split hput hj with ⟨rfl, rfl⟩ | ⟨hne, hj'⟩
    · refine ⟨by rw [htk], by rw [htk], .inr ⟨w.heap.size, cur', by rw [htk], hnew, by rw [htk]; exact hsize, by rw [htk]; exact hcap', ?_, fun o ho => .inr ⟨rfl, ho⟩⟩⟩
      rw [hsize, hn]
      exact Nat.mul_le_mul_right _ hncap
    · have hB := hH.rel j B hj'
      exact hB.keep hx (at_ok hH hj') (fun b hb => hold b (hB.loc_lt hb)) (htk' j (Ne.symm hne)) (fun _ _ _ ho => .inl ho)
  · rcases ho with ho | ho
    · have := hH.lt b o ho
      simp; omega
    · simp; omega
  · have key : ∀ (j : Nat) (B : Blk) (b : Nat), hp'.all[j]? = some B → locs g' j B = some b → (j = k ∧ b = w.heap.size) ∨ (j ≠ k ∧ hp.all[j]? = some B ∧ locs g j B = some b ∧ b < w.heap.size) := by
      intro j B b hj hb
      rcases put_split hput hj with ⟨rfl, rfl⟩ | ⟨hne, hj'⟩
      · simp only [locs, htk, Option.some.injEq] at hb
        exact .inl ⟨rfl, hb.symm⟩
      · rw [locs_keep hx (at_ok hH hj') (htk' j (Ne.symm hne))] at hb
        exact .inr ⟨Ne.symm hne, hj', hb, (hH.rel j B hj').loc_lt hb⟩
    rcases key i B b hi hb with ⟨h1, h2⟩ | ⟨h1, h2, h3, h4⟩ <;> rcases key j C b hj hc with ⟨k1, k2⟩ | ⟨k1, k2, k3, k4⟩
    · omega
    · omega
    · omega
    · exact hH.inj i j B C b h2 k2 h3 k3
  · simp only [VRel]
    refine ⟨_, cap', rfl, hncap, ?_, fun t ht => ?_⟩
    · refine .inr ⟨w.heap.size, 0, rfl, MRel.mk fun j v hj => ?_⟩
      have hjl : j < len' := by rw [← hl']; exact (List.getElem?_eq_some_iff.1 hj).1
      obtain ⟨c, h1, h2⟩ := (LRel.ext hx _ _ hrel).get hj
      rw [List.getElem?_take, if_pos hjl] at h1
      refine ⟨c, cell_iff.2 ⟨cur', e, _, hnew, by simpa using h1⟩, h2, ?_⟩
      rintro (ho | ⟨_, ho⟩)
      · exact absurd (hH.lt _ _ ho) (Nat.lt_irrefl _)
      · omega
    · cases ht
      refine ⟨hkn, by rw [htk, hl']; exact Nat.le_refl _, fun _ => ?_⟩
      rw [htk]
      exact ⟨rfl, rfl, by rw [hl']; exact hn⟩

theorem append_room {g : G} {w : World} {e k n len' sz cap len b : Nat} {l l' : List AV} {cs cur' : Array Value} (hH : HRel g w hp) (hat : At hp k (.tok e (sz + 1) len)) (hlen : len < len') (hll : l.length = len) (hl' : l'.length = len')
    (hn : len' = n * (sz + 1)) (hncap : n ≤ cap) (hbase : (g.tk k).base = some b) (hcap : (g.tk k).cap = cap) (hheap : w.heap[b]? = some (.cells cs e (0, 0))) (hsz : cur'.size = cs.size)
    (hpre : ∀ o : Nat, o < len → cur'[o]? = cs[o]?) (hrel : LRel g w l' (cur'.toList.take len')) (hput : Put hp k (.tok e (sz + 1) len') hp') :
    ∃ g', HRel g' (w.setRow b cur') hp' ∧ VRel g' (w.setRow b cur') (.sl (some k) n l') (.slice (some ⟨b, 0, none⟩) n cap) ∧ Ext g w g' (w.setRow b cur') := by
  have hkn := at_ok hH hat (by simp)
  have hB0 := hH.rel k _ hat
  obtain ⟨b1, b2, b3⟩ := hB0
  obtain ⟨hsize, hcm, hspare⟩ : cs.size = cap * (sz + 1) ∧ cap ≤ maxLen ∧ ∀ o, len ≤ o → g.own b o := by
    rcases b3 with ⟨h, -⟩ | ⟨b', cs', h1, h2, h3, h4, -, h5⟩
    · rw [hbase] at h; cases h
    · rw [hbase] at h1; cases h1
      rw [hheap] at h2; cases h2
      exact ⟨by rw [h3, hcap], by rw [← hcap]; exact h4, h5⟩
  let g' : G := { n := g.n, blk := g.blk, tk := fun j => if j = k then ⟨len', sz + 1, cap, some b⟩ else g.tk j, own := fun b' o => g.own b' o ∧ ¬ (b' = b ∧ o < len'), pend := g.pend }
  have htk : g'.tk k = ⟨len', sz + 1, cap, some b⟩ := by show (if k = k then _ else _) = _; rw [if_pos rfl]
  have htk' : ∀ j, j ≠ k → g'.tk j = g.tk j := fun j hj => by show (if j = k then _ else _) = _; rw [if_neg hj]
  have hnew : (w.setRow b cur').heap[b]? = some (.cells cur' e (0, 0)) := setRow_heap w b cs _ e _ hheap
  have hold : ∀ b', b' ≠ b → (w.setRow b cur').heap[b']? = w.heap[b']? := fun b' hb => setRow_other w b b' _ hb
  have hx : Ext g w g' (w.setRow b cur') := by
    refine ⟨Nat.le_refl _, fun _ _ h => h, fun _ h => h, fun _ _ => rfl, fun j _ => ?_, fun b' o hb ho => ho.1, rfl, rfl, rfl, by simp, fun b' hb ho => hold b' fun e => ho len (e ▸ hspare len (Nat.le_refl _)), fun b' ds u fz hb => ?_⟩
    · by_cases hjk : j = k
      · subst hjk
        right
        rw [htk, b1]
        exact hlen
      · exact .inl (htk' j hjk)
    · by_cases hbb : b' = b
      · subst hbb
        rw [hheap] at hb
        cases hb
        refine ⟨cur', hnew, hsz, fun o ho => hpre o ?_⟩
        rcases Nat.lt_or_ge o len with h | h
        · exact h
        · exact absurd (hspare o h) ho
      · exact ⟨ds, by rw [hold b' hbb, hb], rfl, fun _ _ => rfl⟩
  refine ⟨g', ⟨by rw [hput.base, hput.k]; exact hH.n, by rw [hput.loc, hput.k]; exact hH.k, fun j B hj => ?_, fun b' o ho => by simpa using hH.lt b' o ho.1, fun i hi => by
    have hd := hH.pend i hi
    rw [hput.all, List.getElem?_set, if_neg (fun e => by subst e; unfold At at hat; rw [hd] at hat; cases hat), hd], fun i j B C b' hi hj hb hc => ?_⟩, ?_, hx⟩
  · rcases put_split hput hj with ⟨rfl, rfl⟩ | ⟨hne, hj'⟩
    · refine ⟨by rw [htk], by rw [htk], .inr ⟨b, cur', by rw [htk], hnew, by rw [htk, hsz]; exact hsize, by rw [htk]; exact hcm, ?_, fun o ho => ⟨hspare o (by omega), by omega⟩⟩⟩
      rw [hsz, hsize, hn]
      exact Nat.mul_le_mul_right _ hncap
    · have hB := hH.rel j B hj'
      have hdiff : ∀ b', locs g j B = some b' → b' ≠ b := fun b' hb e => hne (hH.inj k j _ _ _ hat hj' (by simp only [locs]; exact hbase) (e ▸ hb))
      exact hB.keep hx (at_ok hH hj') (fun b' hb => hold b' (hdiff b' hb)) (htk' j (Ne.symm hne)) (fun b' o hb ho => ⟨ho, fun h => hdiff b' hb h.1⟩)
  · have key : ∀ (j : Nat) (B : Blk) (b' : Nat), hp'.all[j]? = some B → locs g' j B = some b' → ∃ B', hp.all[j]? = some B' ∧ locs g j B' = some b' := by
      intro j B b' hj hb
      rcases put_split hput hj with ⟨rfl, rfl⟩ | ⟨hne, hj'⟩
      · simp only [locs, htk, Option.some.injEq] at hb
        exact ⟨_, hat, by simp only [locs]; rw [hbase, hb]⟩
      · rw [locs_keep hx (at_ok hH hj') (htk' j (Ne.symm hne))] at hb
        exact ⟨B, hj', hb⟩
    obtain ⟨B', h1, h2⟩ := key i B b' hi hb
    obtain ⟨C', h3, h4⟩ := key j C b' hj hc
    exact hH.inj i j B' C' b' h1 h3 h2 h4
  · simp only [VRel]
    refine ⟨_, cap, rfl, hncap, ?_, fun t ht => ?_⟩
    · refine .inr ⟨b, 0, rfl, MRel.mk fun j v hj => ?_⟩
      have hjl : j < len' := by rw [← hl']; exact (List.getElem?_eq_some_iff.1 hj).1
      obtain ⟨c, h1, h2⟩ := (LRel.ext hx _ _ hrel).get hj
      rw [List.getElem?_take, if_pos hjl] at h1
      exact ⟨c, cell_iff.2 ⟨cur', e, _, hnew, by simpa using h1⟩, h2, fun ho => ho.2 ⟨rfl, by omega⟩⟩
    · cases ht
      refine ⟨hkn, by rw [htk, hl']; exact Nat.le_refl _, fun _ => ?_⟩
      rw [htk]
      exact ⟨rfl, rfl, by rw [hl']; exact hn⟩

theorem append_core (hT : TOk P T) {g : G} {w : World} {t ty e : TypeId} {ti ei : TI} {z : List AV} {k n m sz : Nat} {tok2 : Option Nat} {l l2 : List AV} {c c2 : Value}
    (hH : HRel g w hp) (ht : T t = some ti) (hk : ti.kind = .sl e) (he : T e = some ei) (hez : ei.zero = some z) (hesz : ei.sz = sz + 1) (hzl : z.length = ei.sz)
    (hat : At hp k (.tok e (sz + 1) l.length)) (hc : VRel g w (.sl (some k) n l) c) (hc2 : VRel g w (.sl tok2 m l2) c2) (h1 : allOne l2 = true) (hl2 : l2.length = m * (sz + 1))
    (hbytes : (n + m) * ei.bytes ≤ 140737488355328) (hmax : n + m ≤ maxLen) (hput : Put hp k (.tok e (sz + 1) (l.length + l2.length)) hp') :
    ∃ c' g' w', (Builtin.append_ #[t, t] ty #[c, c2]).run P w = .ok c' w' ∧ HRel g' w' hp' ∧ VRel g' w' (.sl (some k) (n + m) (l ++ l2)) c' ∧ Ext g w g' w' := by
  obtain ⟨d, i0, e1, -, e3, -⟩ := tiOf_some (hT _ _ ht)
  rw [hk] at e3
  have hd : d = .slice e := by cases d <;> simp [tkOf] at e3; rw [e3]
  subst hd
  obtain ⟨d2, i, -, f2, -, f4, f5, f6⟩ := tiOf_some (hT _ _ he)
  rw [hez] at f6
  cases hiz : i.zero with
  | none => rw [hiz] at f6; cases f6
  | some zv =>
  rw [hiz] at f6
  simp only [Option.map_some, Option.some.injEq] at f6
  have hzs : zv.cells.size = sz + 1 := by
    have : (zv.cells.toList.map av1).length = sz + 1 := by rw [← f6, hzl, hesz]
    simpa using this
  have hisz : i.size = sz + 1 := by rw [← f4, hesz]
  have hc0 := hc
  simp only [VRel] at hc hc2
  obtain ⟨A, cap, rfl, hncap, hm, htok⟩ := hc
  obtain ⟨A2, cap2, rfl, -, hm2, -⟩ := hc2
  obtain ⟨hkn, hlle, hcur⟩ := htok k rfl
  obtain ⟨b1, b2, b3⟩ := hH.rel k _ hat
  obtain ⟨hA, hcap, hnl⟩ := hcur b1
  rw [b2] at hnl
  by_cases hm0 : m = 0
  · subst hm0
    have hl20 : l2 = [] := List.eq_nil_of_length_eq_zero (by simpa using hl2)
    subst hl20
    refine ⟨_, g, w, append_none e1 f2 hncap, ?_, by simpa using hc0, Ext.refl g w⟩
    have hall : hp'.all = hp.all := by
      rw [hput.all]
      simp only [List.length_nil, Nat.add_zero]
      apply List.ext_getElem?
      intro j
      rw [List.getElem?_set]
      by_cases hkj : k = j
      · subst hkj
        simp only [if_true]
        have : k < hp.all.length := (List.getElem?_eq_some_iff.1 hat).1
        rw [if_pos this]
        exact hat.symm
      · rw [if_neg hkj]
    exact ⟨by rw [hput.base, hput.k, hH.n], by rw [hput.loc, hput.k, hH.k], by rw [hall]; exact hH.rel, hH.lt, by rw [hall]; exact hH.pend, by rw [hall]; exact hH.inj⟩
  · have hl2ne : l2 ≠ [] := by
      intro h0
      have hp0 : 0 < m * (sz + 1) := Nat.mul_pos (by omega) (by omega)
      rw [h0] at hl2
      simp only [List.length_nil] at hl2
      omega
    obtain ⟨s2, o2, rfl, hm2'⟩ := hm2.resolve_left hl2ne
    obtain ⟨news, hnews, hnc⟩ := hm2'.list
    have hnewsl := hnews.length
    have hnl' : l.length + l2.length = (n + m) * (sz + 1) := by rw [hnl, hl2, Nat.add_mul]
    have hl2pos : 0 < l2.length := by rw [hl2]; exact Nat.mul_pos (by omega) (by omega)
    have hnewsz : news.length = m * i.size := by rw [hnewsl, hl2, hisz]
    have hnc' : ∀ (j : Nat) u, news[j]? = some u → w.cell? ((⟨s2, o2, none⟩ : Addr).add j) = some u := fun j u hu => by rw [Addr.add_lit]; exact hnc j u hu
    have h63 : n + m ≤ 9223372036854775807 := by simp only [maxLen] at hmax; omega
    have hgc : ∀ old, n + m ≤ grownCap w (n + m) old e ∧ grownCap w (n + m) old e ≤ maxLen := fun old => ⟨grownCap_ge w _ _ e, grownCap_le_maxLen w _ _ e hmax⟩
    have hcursz : ∀ (xs : List Value) old, xs.length = l.length → (xs.toArray ++ news.toArray ++ Builtin.zeroCells zv.cells (grownCap w (n + m) old e - (n + m))).size = grownCap w (n + m) old e * (sz + 1) := by
      intro xs old hxl
      simp only [Array.size_append, List.size_toArray, size_zeroCells, hzs, hxl, hnewsl, hnl', ← Nat.add_mul]
      congr 1
      have := (hgc old).1
      omega
    have hcurrel : ∀ (xs : List Value) old, LRel g w l xs → LRel g w (l ++ l2) ((xs.toArray ++ news.toArray ++ Builtin.zeroCells zv.cells (grownCap w (n + m) old e - (n + m))).toList.take (l.length + l2.length)) := by
      intro xs old hxs
      have hxl := hxs.length
      have : (xs.toArray ++ news.toArray ++ Builtin.zeroCells zv.cells (grownCap w (n + m) old e - (n + m))).toList.take (l.length + l2.length) = xs ++ news := by
        simp only [Array.toList_append]
        rw [← hxl, ← hnewsl, ← List.length_append, List.take_left']
        simp
      rw [this]
      exact hxs.append hnews
    rcases b3 with ⟨hbase, hlen0, hcap0⟩ | ⟨b, cs, hbase, hheap, hsize, hcm, hlen, hspare⟩
    · have hl0 : l = [] := List.eq_nil_of_length_eq_zero hlen0
      subst hl0
      rw [hbase] at hA
      simp only [Option.map_none] at hA
      subst hA
      have hn0 : n = 0 := by
        rcases Nat.eq_zero_or_pos n with h | h
        · exact h
        · have := Nat.mul_pos h (show 0 < sz + 1 by omega)
          simp at hnl
          omega
      have hcap00 : cap = 0 := by omega
      subst hn0
      subst hcap00
      have hrun := run_append_nil (P := P) w t ty e i zv e1 f2 hiz ⟨s2, o2, none⟩ m cap2 news hnewsz hnc' (by omega) (by omega) (by
        have hb := hbytes
        rw [f5] at hb
        simp only [Nat.zero_add] at hb
        omega)
      have h0 := hgc 0
      simp only [Nat.zero_add] at h0
      obtain ⟨g', h2, h3, h4⟩ := append_new (n := 0 + m) (cap' := grownCap w m 0 e) (cur' := #[] ++ news.toArray ++ Builtin.zeroCells zv.cells (grownCap w m 0 e - m)) (l' := [] ++ l2) hH hat (len' := [].length + l2.length) (by simpa using hl2pos) (by simp) (by simpa using hl2) (by simpa using h0.1) h0.2
        (by have := hcursz [] 0 rfl; simpa using this) (by have := hcurrel [] 0 (by simp [LRel]); simpa using this) hput
      refine ⟨_, g', _, hrun, ?_, ?_, ?_⟩
      · simpa using h2
      · simpa using h3
      · simpa using h4
    · rw [hbase] at hA
      simp only [Option.map_some] at hA
      subst hA
      have hml : MRel g w l b 0 := by
        rcases hm with rfl | ⟨b', o', hbo, hm⟩
        · simp [MRel]
        · cases hbo; exact hm
      obtain ⟨xs, hxs, hxc⟩ := hml.list
      have hxl := hxs.length
      by_cases hroom : n + m ≤ cap
      · have hfit : n * i.size + news.length ≤ cs.size := by
          rw [hnewsz, hsize, ← hcap, ← Nat.add_mul, hisz]
          exact Nat.mul_le_mul_right _ hroom
        have hrun := run_append_room (P := P) w t ty e i e1 f2 b n cap cs hheap ⟨s2, o2, none⟩ m cap2 news hnewsz hnc' (hnews.one (allOne_mem _ h1)) hroom hfit
        have hni : n * i.size = l.length := by rw [hisz, hnl]
        rw [hni] at hrun hfit
        have htk : cs.toList.take l.length = xs := by
          apply List.ext_getElem?
          intro j
          rw [List.getElem?_take]
          by_cases hj : j < l.length
          · rw [if_pos hj]
            have hjx : j < xs.length := by omega
            have := hxc j xs[j] (List.getElem?_eq_getElem hjx)
            obtain ⟨cs', t', fz', q3, q4⟩ := cell_iff.1 this
            rw [hheap] at q3
            cases q3
            simp only [Nat.zero_add] at q4
            rw [List.getElem?_eq_getElem hjx]
            simpa using q4
          · rw [if_neg hj, List.getElem?_eq_none (by omega)]
        obtain ⟨g', h2, h3, h4⟩ := append_room (n := n + m) (cap := cap) (cur' := (cs.toList.take l.length ++ news ++ cs.toList.drop (l.length + news.length)).toArray) (l := l) (l' := l ++ l2) hH hat (len' := l.length + l2.length) (by omega) rfl (by simp) hnl' hroom hbase hcap.symm hheap
          (by simp; omega) (fun o ho => by
            simp only [List.append_assoc, List.getElem?_toArray]
            rw [List.getElem?_append_left (by simp; omega), List.getElem?_take, if_pos ho]
            simp) (by
            have : (cs.toList.take l.length ++ news ++ cs.toList.drop (l.length + news.length)).take (l.length + l2.length) = xs ++ news := by
              rw [htk, ← hxl, ← hnewsl, ← List.length_append, List.take_left']
              simp
            simp only [this]
            exact hxs.append hnews) hput
        exact ⟨_, g', _, hrun, h2, h3, h4⟩
      · have hrun := run_append_grow (P := P) w t ty e i zv e1 f2 hiz ⟨b, 0, none⟩ n cap xs (by rw [hxl, hnl, hisz]) (fun j u hu => by rw [Addr.add_lit]; exact hxc j u hu) ⟨s2, o2, none⟩ m cap2 news hnewsz hnc' (by omega) (by omega) (growslice_fits (by omega) (by rw [← f5]; exact hbytes))
        obtain ⟨g', h2, h3, h4⟩ := append_new (n := n + m) (cap' := grownCap w (n + m) cap e) (cur' := xs.toArray ++ news.toArray ++ Builtin.zeroCells zv.cells (grownCap w (n + m) cap e - (n + m))) (l' := l ++ l2) hH hat (len' := l.length + l2.length) (by omega) (by simp) hnl' (hgc cap).1 (hgc cap).2
          (hcursz xs cap hxl) (hcurrel xs cap hxs) hput
        exact ⟨_, g', _, hrun, h2, h3, h4⟩
end
end Go.Vsi
