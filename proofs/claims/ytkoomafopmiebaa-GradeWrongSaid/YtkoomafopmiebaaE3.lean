/- A text of the proof: E3. -/
import Derived.Test.YtkoomafopmiebaaE2
set_option linter.unusedSimpArgs false
set_option linter.unusedVariables false
namespace Go.Vsi

/-! ### lists of cells -/
def AV.one : AV → Bool
  | .agg _ | .tup _ | .junk => false
  | _ => true
def AV.cells : AV → List AV
  | .agg l => l
  | v => [v]

def takeC : Nat → List AV → Option (List AV)
  | 0, _ => some []
  | n + 1, x :: l => match takeC n l with
    | some r => some (x :: r)
    | none => none
  | _ + 1, [] => none
def dropC : Nat → List AV → Option (List AV)
  | 0, l => some l
  | n + 1, _ :: l => dropC n l
  | _ + 1, [] => none
def replC : List AV → List AV → Option (List AV)
  | l, [] => some l
  | _ :: l, v :: vs => match replC l vs with
    | some r => some (v :: r)
    | none => none
  | [], _ :: _ => none
def setC : List AV → Nat → List AV → Option (List AV)
  | l, 0, vs => replC l vs
  | x :: l, n + 1, vs => match setC l n vs with
    | some r => some (x :: r)
    | none => none
  | [], _ + 1, _ => none
def allOne : List AV → Bool
  | [] => true
  | v :: l => match v.one with
    | true => allOne l
    | false => false

theorem takeC_cons (n : Nat) (x : AV) (l : List AV) : takeC (n + 1) (x :: l) = (takeC n l).map (x :: ·) := by
  simp only [takeC]; cases takeC n l <;> rfl
theorem replC_cons (x v : AV) (l vs : List AV) : replC (x :: l) (v :: vs) = (replC l vs).map (v :: ·) := by
  simp only [replC]; cases replC l vs <;> rfl
theorem setC_cons (x : AV) (l : List AV) (n : Nat) (vs : List AV) : setC (x :: l) (n + 1) vs = (setC l n vs).map (x :: ·) := by
  simp only [setC]; cases setC l n vs <;> rfl
theorem takeC_eq : ∀ (n : Nat) (l r : List AV), takeC n l = some r → l.take n = r ∧ r.length = n
  | 0, l, r, h => by simp [takeC] at h; subst h; simp
  | n + 1, [], r, h => by simp [takeC] at h
  | n + 1, x :: l, r, h => by
    simp only [takeC_cons, Option.map_eq_some_iff] at h
    obtain ⟨r', h1, rfl⟩ := h
    obtain ⟨h2, h3⟩ := takeC_eq n l r' h1
    simp [h2, h3]
theorem dropC_eq : ∀ (n : Nat) (l r : List AV), dropC n l = some r → l.drop n = r ∧ n + r.length = l.length
  | 0, l, r, h => by simp [dropC] at h; subst h; simp
  | n + 1, [], r, h => by simp [dropC] at h
  | n + 1, x :: l, r, h => by
    simp only [dropC] at h
    obtain ⟨h2, h3⟩ := dropC_eq n l r h
    exact ⟨by simp [h2], by simp; omega⟩
theorem replC_eq : ∀ (l vs r : List AV), replC l vs = some r → r = vs ++ l.drop vs.length ∧ vs.length ≤ l.length
  | l, [], r, h => by simp [replC] at h; subst h; simp
  | [], _ :: _, r, h => by simp [replC] at h
  | x :: l, v :: vs, r, h => by
    simp only [replC_cons, Option.map_eq_some_iff] at h
    obtain ⟨r', h1, rfl⟩ := h
    obtain ⟨h2, h3⟩ := replC_eq l vs r' h1
    exact ⟨by simp [h2], by simp; omega⟩
theorem setC_eq : ∀ (l : List AV) (n : Nat) (vs r : List AV), setC l n vs = some r → r = l.take n ++ vs ++ l.drop (n + vs.length) ∧ n + vs.length ≤ l.length
  | l, 0, vs, r, h => by
    simp only [setC] at h
    obtain ⟨h2, h3⟩ := replC_eq l vs r h
    exact ⟨by simp [h2], by omega⟩
  | [], n + 1, vs, r, h => by simp [setC] at h
  | x :: l, n + 1, vs, r, h => by
    simp only [setC_cons, Option.map_eq_some_iff] at h
    obtain ⟨r', h1, rfl⟩ := h
    obtain ⟨h2, h3⟩ := setC_eq l n vs r' h1
    refine ⟨?_, by simp; omega⟩
    rw [h2, show n + 1 + vs.length = (n + vs.length) + 1 by omega]
    simp
theorem allOne_mem : ∀ (l : List AV), allOne l = true → ∀ v ∈ l, v.one = true
  | [], _, v, hv => by cases hv
  | x :: l, h, v, hv => by
    simp only [allOne] at h
    split at h
    · rename_i hx
      cases hv with
      | head => exact hx
      | tail _ hm => exact allOne_mem l h v hm
    · cases h

section
variable {g : G} {w : World}
theorem VRel.one {v : AV} {c : Value} (h : VRel g w v c) (h1 : v.one = true) : c.oneCell' = true := by
  cases v <;> simp [AV.one] at h1 <;> simp only [VRel] at h
  case bool => subst h; rfl
  case int => subst h; rfl
  case str => subst h; rfl
  case nilp => subst h; rfl
  case ptr => obtain ⟨_, rfl⟩ := h; rfl
  case rptr => obtain ⟨_, _, rfl, _⟩ := h; rfl
  case nilf => subst h; rfl
  case clo => obtain ⟨_, _, rfl, _⟩ := h; rfl
  case nili => subst h; rfl
  case ifc => obtain ⟨_, rfl, _⟩ := h; rfl
  case nils => subst h; rfl
  case sl => obtain ⟨_, _, rfl, _⟩ := h; rfl
  case sx => obtain ⟨_, rfl, _⟩ := h; rfl
  case rmp => obtain ⟨_, _, _, rfl, _⟩ := h; rfl
  case ms => obtain ⟨_, _, _, rfl⟩ := h; rfl
  case nilm => subst h; rfl
  case mp => obtain ⟨_, rfl⟩ := h; rfl

theorem LRel.length : ∀ {l : List AV} {cs : List Value}, LRel g w l cs → cs.length = l.length
  | [], cs, h => by simp only [LRel] at h; subst h; rfl
  | v :: l, cs, h => by
    simp only [LRel] at h
    obtain ⟨c, r, rfl, -, hr⟩ := h
    simp [LRel.length hr]
theorem LRel.get : ∀ {l : List AV} {cs : List Value}, LRel g w l cs → ∀ {i : Nat} {v : AV}, l[i]? = some v → ∃ c, cs[i]? = some c ∧ VRel g w v c
  | [], _, _, i, v, hi => by simp at hi
  | x :: l, cs, h, i, v, hi => by
    simp only [LRel] at h
    obtain ⟨c, r, rfl, hv, hr⟩ := h
    cases i with
    | zero => simp at hi; subst hi; exact ⟨c, by simp, hv⟩
    | succ i => simpa using hr.get (i := i) (by simpa using hi)
theorem LRel.mk : ∀ {l : List AV} {cs : List Value}, cs.length = l.length → (∀ (i : Nat) v c, l[i]? = some v → cs[i]? = some c → VRel g w v c) → LRel g w l cs
  | [], cs, h, _ => by
    have : cs = [] := List.eq_nil_of_length_eq_zero (by simpa using h)
    subst this; simp [LRel]
  | v :: l, [], h, _ => by simp at h
  | v :: l, c :: cs, h, hi => by
    simp only [LRel]
    exact ⟨c, cs, rfl, hi 0 v c (by simp) (by simp), LRel.mk (by simpa using h) fun i u d hu hd => hi (i + 1) u d (by simpa using hu) (by simpa using hd)⟩
theorem LRel.append {l m : List AV} {cs ds : List Value} (h : LRel g w l cs) (k : LRel g w m ds) : LRel g w (l ++ m) (cs ++ ds) := by
  refine LRel.mk (by simp [h.length, k.length]) fun i v c hv hc => ?_
  have hl := h.length
  rcases Nat.lt_or_ge i l.length with hi | hi
  · rw [List.getElem?_append_left hi] at hv
    rw [List.getElem?_append_left (by omega)] at hc
    obtain ⟨c', h1, h2⟩ := h.get hv
    rw [h1] at hc; cases hc; exact h2
  · rw [List.getElem?_append_right hi] at hv
    rw [List.getElem?_append_right (by omega)] at hc
    rw [hl] at hc
    obtain ⟨c', h1, h2⟩ := k.get hv
    rw [h1] at hc; cases hc; exact h2
theorem LRel.take {l : List AV} {cs : List Value} (h : LRel g w l cs) (n : Nat) : LRel g w (l.take n) (cs.take n) :=
  LRel.mk (by simp [h.length]) fun i v c hv hc => by
    rw [List.getElem?_take] at hv hc
    split at hv
    · rename_i hi
      simp only [hi, if_true] at hc
      obtain ⟨c', h1, h2⟩ := h.get hv
      rw [h1] at hc; cases hc; exact h2
    · cases hv
theorem LRel.drop {l : List AV} {cs : List Value} (h : LRel g w l cs) (n : Nat) : LRel g w (l.drop n) (cs.drop n) :=
  LRel.mk (by simp [h.length]) fun i v c hv hc => by
    rw [List.getElem?_drop] at hv hc
    obtain ⟨c', h1, h2⟩ := h.get hv
    rw [h1] at hc; cases hc; exact h2
theorem LRel.one {l : List AV} {cs : List Value} (h : LRel g w l cs) (h1 : ∀ v ∈ l, v.one = true) : ∀ c ∈ cs, c.oneCell' = true := by
  intro c hc
  obtain ⟨i, hi⟩ := List.getElem?_of_mem hc
  have hl : i < l.length := by rw [← h.length]; exact (List.getElem?_eq_some_iff.1 hi).1
  obtain ⟨c', h2, h3⟩ := h.get (List.getElem?_eq_getElem hl)
  rw [h2] at hi; cases hi
  exact h3.one (h1 _ (List.getElem_mem hl))

theorem VRel.cells {v : AV} {c : Value} (h : VRel g w v c) (h1 : v.one = true ∨ ∃ l, v = .agg l) : LRel g w v.cells c.cells.toList := by
  rcases h1 with h1 | ⟨l, rfl⟩
  · have hc := h.one h1
    have e1 : v.cells = [v] := by cases v <;> simp_all [AV.one, AV.cells]
    have e2 : c.cells.toList = [c] := by cases c <;> simp_all [Value.oneCell', Value.cells]
    rw [e1, e2]
    simp only [LRel]
    exact ⟨c, [], rfl, h, rfl⟩
  · simp only [VRel] at h
    obtain ⟨cs, rfl, hl⟩ := h
    exact hl

/-- cells l lie at (b, o) -/
def CRel (g : G) (w : World) (l : List AV) (b o : Nat) : Prop := ∀ (j : Nat) v, l[j]? = some v → ∃ c, w.cell? ⟨b, o + j, none⟩ = some c ∧ VRel g w v c

theorem MRel.at_ : ∀ {l : List AV} {b o : Nat}, MRel g w l b o → ∀ {j : Nat} {v : AV}, l[j]? = some v → ∃ c, w.cell? ⟨b, o + j, none⟩ = some c ∧ VRel g w v c ∧ ¬ g.own b (o + j)
  | [], _, _, _, j, v, hj => by simp at hj
  | x :: l, b, o, h, j, v, hj => by
    simp only [MRel] at h
    obtain ⟨⟨c, h1, h2, h3⟩, h4⟩ := h
    cases j with
    | zero => simp at hj; subst hj; exact ⟨c, by simpa using h1, h2, by simpa using h3⟩
    | succ j =>
      have := h4.at_ (j := j) (by simpa using hj)
      rwa [show o + 1 + j = o + (j + 1) by omega] at this
theorem MRel.mk : ∀ {l : List AV} {b o : Nat}, (∀ (j : Nat) v, l[j]? = some v → ∃ c, w.cell? ⟨b, o + j, none⟩ = some c ∧ VRel g w v c ∧ ¬ g.own b (o + j)) → MRel g w l b o
  | [], _, _, _ => by simp [MRel]
  | x :: l, b, o, h => by
    simp only [MRel]
    refine ⟨by simpa using h 0 x (by simp), MRel.mk fun j v hj => ?_⟩
    have := h (j + 1) v (by simpa using hj)
    rwa [show o + (j + 1) = o + 1 + j by omega] at this
theorem MRel.crel {l : List AV} {b o : Nat} (h : MRel g w l b o) : CRel g w l b o := fun _ _ hj => by
  obtain ⟨c, h1, h2, -⟩ := h.at_ hj
  exact ⟨c, h1, h2⟩
theorem MRel.drop {l : List AV} {b o : Nat} (h : MRel g w l b o) (n : Nat) : MRel g w (l.drop n) b (o + n) :=
  MRel.mk fun j v hj => by
    rw [List.getElem?_drop] at hj
    have := h.at_ hj
    rwa [show o + n + j = o + (n + j) by omega]
theorem MRel.take {l : List AV} {b o : Nat} (h : MRel g w l b o) (n : Nat) : MRel g w (l.take n) b o :=
  MRel.mk fun j v hj => by
    rw [List.getElem?_take] at hj
    split at hj
    · exact h.at_ hj
    · cases hj
theorem MRel.front {l m : List AV} {b o : Nat} (h : MRel g w (l ++ m) b o) : MRel g w l b o := by
  have := h.take l.length
  simpa using this

theorem crel_box {i o : Nat} {t : TypeId} {l : List AV} (h : BRel g w i (.box t l)) : CRel g w (l.drop o) (g.blk i) o := by
  intro j v hj
  obtain ⟨cs, h1, h2, -⟩ := h
  rw [List.getElem?_drop] at hj
  obtain ⟨c, h3, h4⟩ := h2.get hj
  exact ⟨c, cell_iff.2 ⟨cs, t, _, h1, by simpa using h3⟩, h4⟩

def aggK : TK → Bool
  | .st _ | .arr _ _ => true
  | _ => false
def loadC (ti : TI) (l : List AV) : Option AV := match aggK ti.kind with
  | true => (takeC ti.sz l).map .agg
  | false => lget l 0

theorem tk_agg {P : Program} (d : TypeDesc) : aggK (tkOf P d) = aggD d := by cases d <;> rfl

theorem load_run {P : Program} {t : TypeId} {ti : TI} (ht : tiOf P t = some ti) {l : List AV} {b o : Nat} (hc : CRel g w l b o) {v : AV} (hl : loadC ti l = some v) :
    ∃ c, (loadVar t ⟨b, o, none⟩).run P w = .ok c w ∧ VRel g w v c := by
  obtain ⟨d, i, h1, h2, h3, h4, -⟩ := tiOf_some ht
  unfold loadC at hl
  rw [h3, tk_agg] at hl
  cases hd : aggD d with
  | false =>
    rw [hd] at hl
    simp only [lget_eq] at hl
    obtain ⟨c, h5, h6⟩ := hc 0 v hl
    refine ⟨c, ?_, h6⟩
    have ha := isAgg_run h1 w
    rw [hd] at ha
    simp only [Nat.add_zero] at h5
    simp [loadVar, ha, Go.load, Sem.run, h5]
  | true =>
    rw [hd] at hl
    simp only [Option.map_eq_some_iff] at hl
    obtain ⟨l', h5, rfl⟩ := hl
    obtain ⟨h6, h7⟩ := takeC_eq _ _ _ h5
    have ha := isAgg_run h1 w
    rw [hd] at ha
    -- the cells
    have hex : ∀ j, ∃ c, j < ti.sz → (w.cell? ⟨b, o + j, none⟩ = some c ∧ ∀ v, l'[j]? = some v → VRel g w v c) := by
      intro j
      by_cases hj : j < ti.sz
      · have hj' : j < l'.length := by omega
        have hlj : l[j]? = some l'[j] := by
          have : l'[j]? = some l'[j] := List.getElem?_eq_getElem hj'
          rw [← this, ← h6, List.getElem?_take, if_pos hj]
        obtain ⟨c, h8, h9⟩ := hc j _ hlj
        refine ⟨c, fun _ => ⟨h8, fun v hv => ?_⟩⟩
        rw [List.getElem?_eq_getElem hj'] at hv
        cases hv; exact h9
      · exact ⟨default, fun h => absurd h hj⟩
    obtain ⟨f, hf⟩ := Classical.axiomOfChoice hex
    have hrun := run_loadCells (P := P) w ⟨b, o, none⟩ ti.sz f (fun j hj => by
      rw [Addr.add_lit]; exact (hf j hj).1)
    refine ⟨.agg ((List.range ti.sz).map f).toArray, ?_, ?_⟩
    · simp [loadVar, ha, sizeOf_run h2, ← h4, hrun]
    · simp only [VRel]
      refine ⟨_, rfl, LRel.mk (by simp [h7]) fun j v c hv hc' => ?_⟩
      have hj : j < ti.sz := by rw [← h7]; exact (List.getElem?_eq_some_iff.1 hv).1
      have : c = f j := by
        simp only [List.getElem?_map, List.getElem?_range hj, Option.map_some, Option.some.injEq] at hc'
        exact hc'.symm
      subst this
      exact (hf j hj).2 v hv
end
end Go.Vsi
