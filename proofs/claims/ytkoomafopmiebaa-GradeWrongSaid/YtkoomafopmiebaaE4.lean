/- A text of the proof: E4. -/
import Derived.Test.YtkoomafopmiebaaE3
set_option linter.unusedSimpArgs false
set_option linter.unusedVariables false
namespace Go.Vsi

theorem Hp.all_length {hp : Hp} {g : G} {w : World} (h : HRel g w hp) : hp.all.length = g.n := by simp [Hp.all, h.n, h.k]

theorem at_lt {hp : Hp} {g : G} {w : World} (h : HRel g w hp) {i : Nat} {B : Blk} (ha : At hp i B) : i < g.n := by
  rw [← Hp.all_length h]
  exact (List.getElem?_eq_some_iff.1 ha).1

theorem at_ok {hp : Hp} {g : G} {w : World} (h : HRel g w hp) {i : Nat} {B : Blk} (ha : At hp i B) (hB : B ≠ .dead) : g.ok i :=
  ⟨at_lt h ha, fun hp' => hB (by have := h.pend i hp'; unfold At at ha; rw [this] at ha; cases ha; rfl)⟩

section
variable {g g' : G} {w w' : World} {hp : Hp}

theorem BRel.loc_lt {i : Nat} {B : Blk} (h : BRel g w i B) {b : Nat} (hl : locs g i B = some b) : b < w.heap.size := by
  cases B with
  | box t l =>
    obtain ⟨cs, h1, -⟩ := h
    simp only [locs, Option.some.injEq] at hl
    subst hl
    exact lt_size h1
  | tok e sz len =>
    obtain ⟨-, -, h | ⟨b', cs, h1, h2, -⟩⟩ := h
    · simp [locs, h.1] at hl
    · simp only [locs, h1, Option.some.injEq] at hl
      subst hl
      exact lt_size h2
  | mp ks vs =>
    obtain ⟨es, clk, h1, -⟩ := h
    simp only [locs, Option.some.injEq] at hl
    subst hl
    exact lt_size h1
  | dead => simp [locs] at hl

theorem BRel.keep {i : Nat} {B : Blk} (h : BRel g w i B) (hx : Ext g w g' w') (hi : B ≠ .dead → g.ok i) (hb : ∀ b, locs g i B = some b → w'.heap[b]? = w.heap[b]?)
    (ht : g'.tk i = g.tk i) (ho : ∀ b o, locs g i B = some b → g.own b o → g'.own b o) : BRel g' w' i B := by
  cases B with
  | box t l =>
    obtain ⟨cs, h1, h2, h3⟩ := h
    refine ⟨cs, ?_, LRel.ext hx _ _ h2, fun o => ?_⟩
    · rw [hx.blk i (hi (by simp)), hb _ rfl, h1]
    · rw [hx.blk i (hi (by simp))]; exact ho _ _ rfl (h3 o)
  | tok e sz len =>
    obtain ⟨h1, h2, h3⟩ := h
    refine ⟨by rw [ht, h1], by rw [ht, h2], ?_⟩
    rw [ht]
    rcases h3 with h3 | ⟨b, cs, h3, h4, h5, h6, h7, h8⟩
    · exact .inl h3
    · exact .inr ⟨b, cs, h3, by rw [hb b (by simp [locs, h3]), h4], h5, h6, h7, fun o hl => ho _ _ (by simp [locs, h3]) (h8 o hl)⟩
  | mp ks vs =>
    obtain ⟨es, clk, h1, h2, h3, h4⟩ := h
    refine ⟨es, clk, ?_, LRel.ext hx _ _ h2, LRel.ext hx _ _ h3, fun o => ?_⟩
    · rw [hx.blk i (hi (by simp)), hb _ rfl, h1]
    · rw [hx.blk i (hi (by simp))]; exact ho _ _ rfl (h4 o)
  | dead => trivial

theorem locs_keep {i : Nat} {B : Blk} (hx : Ext g w g' w') (hi : B ≠ .dead → g.ok i) (ht : g'.tk i = g.tk i) : locs g' i B = locs g i B := by
  cases B with
  | box t l => simp [locs, hx.blk i (hi (by simp))]
  | tok e sz len => simp [locs, ht]
  | mp ks vs => simp [locs, hx.blk i (hi (by simp))]
  | dead => rfl

theorem HRel.all_rel (h : HRel g w hp) {i : Nat} {B : Blk} (ha : At hp i B) : BRel g w i B := h.rel i B ha

/-- a new box -/
theorem HRel.newBox (h : HRel g w hp) {t : TypeId} {l : List AV} {cs : Array Value} (hl : LRel g w l cs.toList) :
    ∃ g', g'.ok g.n ∧ g'.blk g.n = w.heap.size ∧ HRel g' (w.alloc (.cells cs t)) ⟨hp.base, hp.k + 1, hp.loc ++ [.box t l]⟩ ∧ Ext g w g' (w.alloc (.cells cs t)) := by
  let g' : G := { n := g.n + 1, blk := fun i => if i = g.n then w.heap.size else g.blk i, tk := g.tk, own := fun b o => g.own b o ∨ b = w.heap.size, pend := g.pend }
  have hok : ∀ i, g.ok i → g'.ok i := fun i hi => ⟨Nat.lt_succ_of_lt hi.1, hi.2⟩
  have hx : Ext g w g' (w.alloc (.cells cs t)) := by
    refine ⟨Nat.le_succ _, fun _ _ h => h, hok, fun i hi => ?_, fun _ _ => .inl rfl, fun b o hb ho => ?_, rfl, rfl, rfl, by simp, fun b hb _ => heap_alloc_old w _ hb, fun b ds u fz hb => ⟨ds, ?_, rfl, fun _ _ => rfl⟩⟩
    · show (if i = g.n then w.heap.size else g.blk i) = _
      rw [if_neg (by have := hi.1; omega)]
    · rcases ho with ho | ho
      · exact ho
      · omega
    · rw [heap_alloc_old w _ (lt_size hb), hb]
  refine ⟨g', ⟨Nat.lt_succ_self _, fun hp' => Nat.lt_irrefl g.n (by have := (List.getElem?_eq_some_iff.1 (h.pend _ hp')).1; rw [Hp.all_length h] at this; exact this)⟩, by show (if g.n = g.n then w.heap.size else g.blk g.n) = _; simp, ⟨?_, by simp [h.k], ?_, ?_, ?_, ?_⟩, hx⟩
  · show g.n + 1 = _
    rw [h.n]; simp [Nat.add_assoc]
  · intro i B hi
    have hall : (⟨hp.base, hp.k + 1, hp.loc ++ [.box t l]⟩ : Hp).all = hp.all ++ [.box t l] := by simp [Hp.all]
    rw [hall] at hi
    have hlen := Hp.all_length h
    rcases Nat.lt_or_ge i hp.all.length with hlt | hge
    · rw [List.getElem?_append_left hlt] at hi
      have hB := h.rel i B hi
      exact hB.keep hx (at_ok h hi) (fun b hb => heap_alloc_old w _ (hB.loc_lt hb)) rfl (fun _ _ _ ho => .inl ho)
    · rw [List.getElem?_append_right hge] at hi
      have : i = hp.all.length := by
        have := (List.getElem?_eq_some_iff.1 hi).1
        simp at this; omega
      subst this
      simp at hi
      subst hi
      have e : g'.blk hp.all.length = w.heap.size := by
        show (if hp.all.length = g.n then w.heap.size else _) = _
        rw [if_pos hlen]
      refine ⟨cs, by rw [e]; exact heap_alloc_new w _, LRel.ext hx _ _ hl, fun o => ?_⟩
      rw [e]; exact .inr rfl
  · rintro b o (ho | ho)
    · have := h.lt b o ho
      simp; omega
    · simp; omega
  · intro i hi
    have hall : (⟨hp.base, hp.k + 1, hp.loc ++ [.box t l]⟩ : Hp).all = hp.all ++ [.box t l] := by simp [Hp.all]
    have := h.pend i hi
    rw [hall, List.getElem?_append_left (List.getElem?_eq_some_iff.1 this).1, this]
  · intro i j B C b hi hj hbi hbj
    have hall : (⟨hp.base, hp.k + 1, hp.loc ++ [.box t l]⟩ : Hp).all = hp.all ++ [.box t l] := by simp [Hp.all]
    rw [hall] at hi hj
    have hlen := Hp.all_length h
    have key : ∀ (i : Nat) (B : Blk) (b : Nat), (hp.all ++ [.box t l])[i]? = some B → locs g' i B = some b →
        (i < hp.all.length ∧ hp.all[i]? = some B ∧ locs g i B = some b ∧ b < w.heap.size) ∨ (i = hp.all.length ∧ b = w.heap.size) := by
      intro i B b hi hb
      rcases Nat.lt_or_ge i hp.all.length with hlt | hge
      · rw [List.getElem?_append_left hlt] at hi
        rw [locs_keep hx (at_ok h hi) rfl] at hb
        exact .inl ⟨hlt, hi, hb, (h.rel i B hi).loc_lt hb⟩
      · rw [List.getElem?_append_right hge] at hi
        have : i = hp.all.length := by
          have := (List.getElem?_eq_some_iff.1 hi).1
          simp at this; omega
        subst this
        simp at hi
        subst hi
        refine .inr ⟨rfl, ?_⟩
        simp only [locs, Option.some.injEq] at hb
        rw [← hb]
        show (if hp.all.length = g.n then w.heap.size else _) = _
        rw [if_pos hlen]
    rcases key i B b hi hbi with ⟨h1, h2, h3, h4⟩ | ⟨h1, h2⟩ <;> rcases key j C b hj hbj with ⟨k1, k2, k3, k4⟩ | ⟨k1, k2⟩
    · exact h.inj i j B C b h2 k2 h3 k3
    · omega
    · omega
    · omega

/-- new memory that is not owned -/
theorem Ext.fresh (g : G) (w : World) (o : Obj) : Ext g w g (w.alloc o) :=
  ⟨Nat.le_refl _, fun _ _ h => h, fun _ h => h, fun _ _ => rfl, fun _ _ => .inl rfl, fun _ _ _ h => h, rfl, rfl, rfl, by simp, fun b hb _ => heap_alloc_old w _ hb, fun b ds u fz hb => ⟨ds, by rw [heap_alloc_old w _ (lt_size hb), hb], rfl, fun _ _ => rfl⟩⟩
theorem HRel.keepAll (h : HRel g w hp) (hx : Ext g w g w') (hb : ∀ b, b < w.heap.size → w'.heap[b]? = w.heap[b]?) : HRel g w' hp :=
  ⟨h.n, h.k, fun i B hi => (h.rel i B hi).keep hx (at_ok h hi) (fun b hl => hb b ((h.rel i B hi).loc_lt hl)) rfl (fun _ _ _ ho => ho), fun b o ho => Nat.lt_of_lt_of_le (h.lt b o ho) hx.size, h.pend, h.inj⟩
theorem HRel.fresh (h : HRel g w hp) (o : Obj) : HRel g (w.alloc o) hp := h.keepAll (Ext.fresh g w o) fun _ hb => heap_alloc_old w _ hb

def snocC {α : Type} : List α → α → Option (List α)
  | [], y => some [y]
  | x :: l, y => match snocC l y with
    | some r => some (x :: r)
    | none => none
theorem snocC_cons {α : Type} (x : α) (l : List α) (y : α) : snocC (x :: l) y = (snocC l y).map (x :: ·) := by
  simp only [snocC]; cases snocC l y <;> rfl
theorem snocC_eq {α : Type} : ∀ (l : List α) (y : α) (r : List α), snocC l y = some r → r = l ++ [y]
  | [], _, _, h => by simp [snocC] at h; subst h; rfl
  | x :: l, y, r, h => by
    simp only [snocC_cons, Option.map_eq_some_iff] at h
    obtain ⟨r', h1, rfl⟩ := h
    rw [snocC_eq l y r' h1]; rfl

/-! ### stores -/
def lset {α : Type} : List α → Nat → α → Option (List α)
  | [], _, _ => none
  | x :: l, n, v => match n with
    | 0 => some (v :: l)
    | m + 1 => match lset l m v with
      | some r => some (x :: r)
      | none => none
theorem lset_cons {α : Type} (x : α) (l : List α) (n : Nat) (v : α) : lset (x :: l) (n + 1) v = (lset l n v).map (x :: ·) := by
  simp only [lset]; cases lset l n v <;> rfl
theorem lset_eq {α : Type} : ∀ (l : List α) (n : Nat) (v : α) (r : List α), lset l n v = some r → r = l.set n v ∧ n < l.length
  | [], _, _, _, h => by simp [lset] at h
  | x :: l, 0, v, r, h => by simp [lset] at h; subst h; simp
  | x :: l, n + 1, v, r, h => by
    simp only [lset_cons, Option.map_eq_some_iff] at h
    obtain ⟨r', h1, rfl⟩ := h
    obtain ⟨h2, h3⟩ := lset_eq l n v r' h1
    exact ⟨by simp [h2], by simp; omega⟩

structure Put (hp : Hp) (i : Nat) (B : Blk) (hp' : Hp) : Prop where
  all : hp'.all = hp.all.set i B
  base : hp'.base.length = hp.base.length
  k : hp'.k = hp.k
  loc : hp'.loc.length = hp.loc.length
theorem put_loc {base : Heap} {k j : Nat} {loc loc' : Heap} {B : Blk} (h : lset loc j B = some loc') : Put ⟨base, k, loc⟩ (base.length + j) B ⟨base, k, loc'⟩ := by
  obtain ⟨h1, h2⟩ := lset_eq _ _ _ _ h
  subst h1
  refine ⟨?_, rfl, rfl, by simp⟩
  simp only [Hp.all]
  rw [List.set_append_right _ _ (by omega)]
  simp
theorem put_base {base : Heap} {k i : Nat} {loc : Heap} {B B' : Blk} (h : base[i]? = some B') : Put ⟨base, k, loc⟩ i B ⟨base.set i B, k, loc⟩ := by
  have hl := (List.getElem?_eq_some_iff.1 h).1
  refine ⟨?_, by simp, rfl, rfl⟩
  simp only [Hp.all]
  rw [List.set_append_left _ _ hl]

theorem HRel.storeBox {P : Program} (h : HRel g w hp) {i o : Nat} {t : TypeId} {l vs l' : List AV} {cs : List Value} {hp' : Hp} (ha : At hp i (.box t l)) (hs : setC l o vs = some l') (hv : LRel g w vs cs)
    (h1 : allOne vs = true) (hput : Put hp i (.box t l') hp') :
    ∃ w', (storeCells ⟨g.blk i, o, none⟩ cs).run P w = .ok () w' ∧ HRel g w' hp' ∧ Ext g w g w' := by
  obtain ⟨e1, e2⟩ := setC_eq _ _ _ _ hs
  obtain ⟨cur, hcur, hlr, hown⟩ := h.rel i _ ha
  have hlen := hlr.length
  have hvl := hv.length
  simp only [Array.length_toList] at hlen
  have hrun := run_storeCells_at P (g.blk i) o t cs 0 cur w hcur (by omega) (hv.one (allOne_mem _ h1))
  simp only [Nat.add_zero] at hrun
  have hsize : (cur.toList.take o ++ cs ++ cur.toList.drop (o + cs.length)).length = cur.size := by simp; omega
  generalize hnew : (cur.toList.take o ++ cs ++ cur.toList.drop (o + cs.length)).toArray = new at hrun
  have hns : new.size = cur.size := by rw [← hnew]; simpa using hsize
  have hheap : (w.setRow (g.blk i) new).heap[g.blk i]? = some (.cells new t (0, 0)) := setRow_heap w _ cur _ t _ hcur
  have hother : ∀ b, b ≠ g.blk i → (w.setRow (g.blk i) new).heap[b]? = w.heap[b]? := fun b hb => setRow_other w _ b _ hb
  have hx : Ext g w g (w.setRow (g.blk i) new) := by
    refine ⟨Nat.le_refl _, fun _ _ h => h, fun _ h => h, fun _ _ => rfl, fun _ _ => .inl rfl, fun _ _ _ h => h, rfl, rfl, rfl, by simp, fun b _ ho => hother b (fun e => ho 0 (e ▸ hown 0)), fun b ds u fz hb => ?_⟩
    by_cases hbi : b = g.blk i
    · subst hbi
      rw [hcur] at hb
      cases hb
      exact ⟨new, hheap, hns, fun o' ho => absurd (hown o') ho⟩
    · exact ⟨ds, by rw [hother b hbi, hb], rfl, fun _ _ => rfl⟩
  refine ⟨_, hrun, ⟨by rw [hput.base, hput.k, h.n], by rw [hput.loc, hput.k, h.k], ?_, fun b o ho => by simpa using h.lt b o ho, fun j hj => ?_, ?_⟩, hx⟩
  · intro j B hj
    rw [hput.all, List.getElem?_set] at hj
    by_cases hij : i = j
    · subst hij
      simp only [if_true] at hj
      split at hj
      · cases hj
        refine ⟨new, hheap, ?_, hown⟩
        have hnl : new.toList = cur.toList.take o ++ cs ++ cur.toList.drop (o + cs.length) := by rw [← hnew]
        have h2 := LRel.ext hx _ _ (((hlr.take o).append hv).append (hlr.drop (o + vs.length)))
        rw [hnl, e1, hvl]
        exact h2
      · cases hj
    · rw [if_neg hij] at hj
      have hB := h.rel j B hj
      refine hB.keep hx (at_ok h hj) (fun b hb => hother b fun e => ?_) rfl (fun _ _ _ ho => ho)
      subst e
      exact hij (h.inj i j _ _ _ ha hj rfl hb)
  · have hd := h.pend j hj
    rw [hput.all, List.getElem?_set, if_neg (fun e => by subst e; unfold At at ha; rw [hd] at ha; cases ha), hd]
  · intro j1 j2 B C b hj1 hj2 hb1 hb2
    rw [hput.all, List.getElem?_set] at hj1 hj2
    have key : ∀ (j : Nat) (B : Blk), (if i = j then if i < hp.all.length then some (Blk.box t l') else none else hp.all[j]?) = some B → locs g j B = some b → ∃ B', hp.all[j]? = some B' ∧ locs g j B' = some b := by
      intro j B hj hb
      by_cases hij : i = j
      · subst hij
        simp only [if_true] at hj
        split at hj
        · cases hj
          exact ⟨_, ha, hb⟩
        · cases hj
      · rw [if_neg hij] at hj
        exact ⟨B, hj, hb⟩
    obtain ⟨B', f1, f2⟩ := key j1 B hj1 hb1
    obtain ⟨C', f3, f4⟩ := key j2 C hj2 hb2
    exact h.inj j1 j2 B' C' b f1 f3 f2 f4
end
end Go.Vsi
