/- A text of the proof: E12. -/
import Derived.Test.YtkoomafopmiebaaE11
set_option linter.unusedSimpArgs false
set_option linter.unusedVariables false
namespace Go.Vsi

/-! ### a region that draws its order: one walk of the text serves every order -/
inductive DK where
  | r
  | m
  | a (B : Blk)
  | w (tm : Bool)

structure DOp where
  o : Oper
  k : DK
  v : AV

def looks (all : List Oper) (o : Oper) : List Nat :=
  (o.op.operands.toList.filterMap fun | .tmp t => some t | _ => none) ++
  (match o.guard with
   | some (j, _) => match lget all j with
     | some oj => match oj.dst with
       | some d => [d]
       | none => []
     | none => []
   | none => [])

def Agree (ts : List Nat) (e e' : Env) : Prop := ∀ t, t ∈ ts → get e' t = get e t

section
variable (P : Program) (N : Nat)

/-- whatever looks at this heap at most -/
def XOk (hp : Hp) (env : Env) (o : Oper) (v : AV) : Prop :=
  ∀ (g : G) (w : World) (a : Act), HRel g w hp → ERel N g w env a → ∀ (K : Act → World → Prop) (Qc : Exit → Act → World → Prop),
    (∀ g' w' c, HRel g' w' hp → VRel g' w' v c → Ext g w g' w' → K (a.put o.dst c) w') → o.wp P a w K Qc
def WOk (hp hp' : Hp) (env : Env) (o : Oper) (v : AV) : Prop :=
  ∀ (g : G) (w : World) (a : Act), HRel g w hp → ERel N g w env a → ∀ (K : Act → World → Prop) (Qc : Exit → Act → World → Prop),
    (∀ g' w' c, HRel g' w' hp' → VRel g' w' v c → Ext g w g' w' → K (a.put o.dst c) w') → o.wp P a w K Qc
def AOk (B : Blk) (env : Env) (o : Oper) : Prop :=
  ∀ (g : G) (w : World) (a : Act), ERel N g w env a → ∃ t l cs, B = .box t l ∧ LRel g w l cs.toList ∧
    (execOp a.eval o).run P w = .ok (.value (.pointer (some ⟨w.heap.size, 0, none⟩))) (w.alloc (.cells cs t))

def FOp (hp0 : Hp) (all : List Oper) (d : DOp) (env : Env) (hp hp' : Hp) : Prop :=
  match gd all env d.o with
  | none => False
  | some false => (d.k = .r ∧ d.v = .tup []) ∧ hp' = hp
  | some true => match d.k with
    | .r => (∀ env', Agree (looks all d.o) env env' → ∀ hp, XOk P N hp env' d.o d.v) ∧ hp' = hp
    | .m => (∀ env', Agree (looks all d.o) env env' → ∀ X : Heap, XOk P N ⟨hp0.base, hp0.k + X.length, hp0.loc ++ X⟩ env' d.o d.v) ∧ hp' = hp
    | .a B => d.o.dst.isSome = true ∧ d.v = .ptr (hp.base.length + hp.k) 0 ∧ (∀ env', Agree (looks all d.o) env env' → AOk P N B env' d.o) ∧ hp' = ⟨hp.base, hp.k + 1, hp.loc ++ [B]⟩
    | .w tm => (tm = true → ∃ X : Heap, hp' = ⟨hp0.base, hp0.k + X.length, hp0.loc ++ X⟩) ∧ (∀ env', Agree (looks all d.o) env env' → WOk P N hp hp' env' d.o d.v)

def push (d : DOp) (e : Env) : Env := match d.o.dst with
  | some t => (t, d.v) :: e
  | none => e

def DF (hp0 : Hp) (all : List Oper) : List DOp → Env → Hp → (Env → Hp → Prop) → Prop
  | [], e, hp, K => K e hp
  | d :: ds, e, hp, K => ∃ hp', FOp P N hp0 all d e hp hp' ∧ DF hp0 all ds (push d e) hp' K
end

/-- the last value of slot t, by the operations that s lists -/
def lastv (s : Nat → Bool) (t : Nat) : Nat → List DOp → AV → AV
  | _, [], x => x
  | i, d :: ds, x => lastv s t (i + 1) ds (if s i = true ∧ d.o.dst = some t then d.v else x)

theorem lastv_congr {s s' : Nat → Bool} {t : Nat} : ∀ (ds : List DOp) (i : Nat) (x : AV), (∀ j d, ds[j]? = some d → d.o.dst = some t → s (i + j) = s' (i + j)) → lastv s t i ds x = lastv s' t i ds x
  | [], _, _, _ => rfl
  | d :: ds, i, x, h => by
    simp only [lastv]
    have h0 : (s i = true ∧ d.o.dst = some t) ↔ (s' i = true ∧ d.o.dst = some t) := by
      constructor
      · rintro ⟨h1, h2⟩; exact ⟨by have := h 0 d (by simp) h2; simp only [Nat.add_zero] at this; rw [← this]; exact h1, h2⟩
      · rintro ⟨h1, h2⟩; exact ⟨by have := h 0 d (by simp) h2; simp only [Nat.add_zero] at this; rw [this]; exact h1, h2⟩
    simp only [h0]
    exact lastv_congr ds (i + 1) _ fun j d' hj hd => by
      have := h (j + 1) d' (by simpa using hj) hd
      rwa [show i + 1 + j = i + (j + 1) by omega]

theorem lastv_none {s : Nat → Bool} {t : Nat} : ∀ (ds : List DOp) (i : Nat) (x : AV), (∀ j d, ds[j]? = some d → d.o.dst = some t → s (i + j) = false) → lastv s t i ds x = x
  | [], _, _, _ => rfl
  | d :: ds, i, x, h => by
    simp only [lastv]
    have h0 : ¬ (s i = true ∧ d.o.dst = some t) := by
      rintro ⟨h1, h2⟩
      have := h 0 d (by simp) h2
      simp only [Nat.add_zero] at this
      rw [this] at h1; cases h1
    rw [if_neg h0]
    exact lastv_none ds (i + 1) x fun j d' hj hd => by
      have := h (j + 1) d' (by simpa using hj) hd
      rwa [show i + 1 + j = i + (j + 1) by omega]

theorem lastv_at {s : Nat → Bool} {t : Nat} : ∀ (ds : List DOp) (i k : Nat) (d : DOp) (x : AV), ds[k]? = some d → d.o.dst = some t → s (i + k) = true → (∀ j d', ds[j]? = some d' → d'.o.dst = some t → k < j → s (i + j) = false) → lastv s t i ds x = d.v
  | [], _, k, _, _, h, _, _, _ => by simp at h
  | d0 :: ds, i, 0, d, x, h, hd, hs, hn => by
    simp at h
    subst h
    simp only [lastv]
    rw [if_pos ⟨by simpa using hs, hd⟩]
    exact lastv_none ds (i + 1) _ fun j d' hj hd' => by
      have := hn (j + 1) d' (by simpa using hj) hd' (by omega)
      rwa [show i + 1 + j = i + (j + 1) by omega]
  | d0 :: ds, i, k + 1, d, x, h, hd, hs, hn => by
    simp only [lastv]
    refine lastv_at ds (i + 1) k d _ (by simpa using h) hd (by rwa [show i + 1 + k = i + (k + 1) by omega]) fun j d' hj hd' hlt => ?_
    have := hn (j + 1) d' (by simpa using hj) hd' (by omega)
    rwa [show i + 1 + j = i + (j + 1) by omega]

def envAt : Nat → List DOp → Env → Env
  | 0, _, e => e
  | _ + 1, [], e => e
  | n + 1, d :: ds, e => envAt n ds (push d e)

theorem get_push (d : DOp) (e : Env) (t : Nat) : get (push d e) t = if d.o.dst = some t then d.v else get e t := by
  unfold push
  cases h : d.o.dst with
  | none => simp
  | some u =>
    by_cases hu : u = t
    · subst hu; simp [get_put_same]
    · rw [get_put_ne _ _ hu]; simp [hu]

theorem envAt_get (t : Nat) : ∀ (n i : Nat) (ds : List DOp) (e : Env), get (envAt n ds e) t = lastv (fun j => decide (j < i + n)) t i ds (get e t)
  | 0, i, ds, e => by
    rw [lastv_none]
    · rfl
    · intro j d _ _; simp
  | n + 1, i, [], e => rfl
  | n + 1, i, d :: ds, e => by
    simp only [envAt, lastv]
    rw [envAt_get t n (i + 1) ds (push d e), get_push]
    have h1 : i < i + (n + 1) := by omega
    simp only [h1, decide_true, true_and]
    rw [show i + 1 + n = i + (n + 1) by omega]

theorem DF.at_ {P : Program} {N : Nat} {hp0 : Hp} {all : List Oper} {K : Env → Hp → Prop} : ∀ {ds : List DOp} {e : Env} {hp : Hp}, DF P N hp0 all ds e hp K → ∃ hs : Nat → Hp, hs 0 = hp ∧ (∀ i d, ds[i]? = some d → FOp P N hp0 all d (envAt i ds e) (hs i) (hs (i + 1))) ∧ K (envAt ds.length ds e) (hs ds.length)
  | [], e, hp, h => ⟨fun _ => hp, rfl, fun i d hd => by simp at hd, h⟩
  | d :: ds, e, hp, h => by
    obtain ⟨hp', h1, h2⟩ := h
    obtain ⟨hs, e0, e1, e2⟩ := h2.at_
    refine ⟨fun i => match i with | 0 => hp | i + 1 => hs i, rfl, fun i d' hd => ?_, ?_⟩
    · cases i with
      | zero =>
        simp at hd
        subst hd
        simp only [envAt]
        rw [e0]; exact h1
      | succ i => exact e1 i d' (by simpa using hd)
    · simpa [envAt] using e2

/-! ### the check -/
def kcode : DK → Nat
  | .r => 0
  | .m => 1
  | .a _ => 2
  | .w tm => match tm with
    | false => 3
    | true => 4
/-- an operation whose effect stands in the line -/
def DK.wr (k : DK) : Prop := ∃ tm, k = .w tm

def names (all : List Oper) (o : Oper) : List Nat := looks all o ++ o.dst.toList

def bitOf (cl : List Nat) (i j : Nat) : Bool := (cl.getD j 0).testBit i

/-- operations i < j: are they where the walk wants them? (cl: of each operation those that come before it in every order) -/
def pairOk (all : List Oper) (cl : List Nat) (oi oj : Oper) (ki kj i j : Nat) : Bool :=
  (match oi.dst with
   | some t => !(names all oj).contains t || bitOf cl i j
   | none => true) &&
  (match oj.dst with
   | some t => !(names all oi).contains t || bitOf cl i j
   | none => true) &&
  (if 3 ≤ kj then ki = 0 || bitOf cl i j || (kj = 4 && ki = 1) else true) && (if 3 ≤ ki then kj = 0 || 3 ≤ kj || (ki = 4 && kj = 1) else true)

def drawPairs (all : List Oper) (cl : List Nat) (ks : List Nat) : Bool :=
  (List.range all.length).all fun j => (List.range j).all fun i => match all[i]?, all[j]? with
    | some oi, some oj => pairOk all cl oi oj (ks.getD i 0) (ks.getD j 0) i j
    | _, _ => true
def drawClo (all : List Oper) (cl : List Nat) : Bool :=
  (List.range all.length).all fun j => (List.range all.length).all fun i => !bitOf cl i j ||
    (match all[j]? with
     | some oj => oj.after.toList.any fun e => Region.binds .any e && (e.on == i || bitOf cl i e.on)
     | none => false)
def drawBack (all : List Oper) : Bool :=
  (List.range all.length).all fun j => match all[j]? with
    | some oj => oj.after.toList.all fun e => !Region.binds .any e || decide (e.on < j)
    | none => true
/-- nothing of kind 4 behind one of kind 3 -/
def tameOk : List Nat → Bool
  | [] => true
  | k :: l => match Nat.beq k 3 with
    | true => l.all fun j => !Nat.beq j 4
    | false => tameOk l
theorem tameOk_spec : ∀ {l1 l2 : List Nat}, tameOk (l1 ++ 4 :: l2) = true → 3 ∉ l1
  | [], _, _ => by simp
  | k :: l1, l2, h => by
    simp only [List.cons_append, tameOk] at h
    split at h
    · rw [List.all_eq_true] at h
      have := h 4 (by simp)
      simp at this
    · rename_i hk
      rw [List.mem_cons, not_or]
      exact ⟨fun e => by subst e; simp at hk, tameOk_spec h⟩
def drawOk (all : List Oper) (cl : List Nat) (ks : List Nat) : Bool := drawPairs all cl ks && (drawClo all cl && drawBack all) && tameOk ks
theorem drawOk_tame {all : List Oper} {cl l1 l2 : List Nat} (h : drawOk all cl (l1 ++ 4 :: l2) = true) : 3 ∉ l1 := by
  unfold drawOk at h
  rw [Bool.and_eq_true] at h
  exact tameOk_spec h.2

structure Checked (all : List Oper) (cl : List Nat) (k : Nat → Nat) : Prop where
  pair : ∀ i j oi oj, i < j → all[i]? = some oi → all[j]? = some oj → pairOk all cl oi oj (k i) (k j) i j = true
  clo : ∀ i j oj, i < all.length → all[j]? = some oj → bitOf cl i j = true → ∃ e ∈ oj.after.toList, Region.binds .any e = true ∧ (e.on = i ∨ bitOf cl i e.on = true)
  back : ∀ j oj, all[j]? = some oj → ∀ e ∈ oj.after.toList, Region.binds .any e = true → e.on < j

theorem checked_of {all : List Oper} {cl ks : List Nat} (h : drawOk all cl ks = true) : Checked all cl (fun i => ks.getD i 0) := by
  unfold drawOk drawPairs drawClo drawBack at h
  simp only [Bool.and_eq_true, List.all_eq_true, List.mem_range] at h
  obtain ⟨⟨h1, h2, h3⟩, -⟩ := h
  have hlt : ∀ {j : Nat} {o : Oper}, all[j]? = some o → j < all.length := fun hj => (List.getElem?_eq_some_iff.1 hj).1
  refine ⟨fun i j oi oj hij hi hj => ?_, fun i j oj hi hj hb => ?_, fun j oj hj e he hb => ?_⟩
  · have := h1 j (hlt hj) i hij
    simpa [hi, hj] using this
  · have := h2 j (hlt hj) i hi
    simp only [hb, Bool.not_true, Bool.false_or, hj, List.any_eq_true, Bool.and_eq_true] at this
    obtain ⟨e, he, h4, h5⟩ := this
    refine ⟨e, he, h4, ?_⟩
    simpa [Bool.or_eq_true, beq_iff_eq] using h5
  · have := h3 j (hlt hj)
    simp only [hj, List.all_eq_true] at this
    simpa [hb] using this e he

/-! ### what has been listed -/
def restr (ts : List Nat) (e : Env) : Env := ts.map fun t => (t, get e t)
theorem get_restr (e : Env) (t : Nat) : ∀ ts : List Nat, get (restr ts e) t = if t ∈ ts then get e t else .junk
  | [] => by simp [restr, get]
  | u :: ts => by
    have ih := get_restr e t ts
    unfold restr at ih ⊢
    simp only [List.map_cons]
    by_cases hu : u = t
    · subst hu; rw [get_put_same]; simp
    · rw [get_put_ne _ _ hu, ih]
      simp [Ne.symm hu]
theorem agree_restr (ts : List Nat) (e : Env) : Agree ts e (restr ts e) := fun t ht => by rw [get_restr, if_pos ht]

/-- the boxes that have been made, the others dead -/
def masked (s : Nat → Bool) : Nat → List DOp → Heap
  | _, [] => []
  | i, d :: ds => match d.k with
    | .a B => (if s i = true then B else .dead) :: masked s (i + 1) ds
    | _ => masked s (i + 1) ds
def cntA : List DOp → Nat
  | [] => 0
  | d :: ds => match d.k with
    | .a _ => cntA ds + 1
    | _ => cntA ds
theorem masked_length (s : Nat → Bool) : ∀ (i : Nat) (ds : List DOp), (masked s i ds).length = cntA ds
  | _, [] => rfl
  | i, d :: ds => by
    cases hk : d.k <;> simp [masked, cntA, hk, masked_length s (i + 1) ds]
theorem masked_congr {s s' : Nat → Bool} : ∀ (ds : List DOp) (i : Nat), (∀ j d B, ds[j]? = some d → d.k = .a B → s (i + j) = s' (i + j)) → masked s i ds = masked s' i ds
  | [], _, _ => rfl
  | d :: ds, i, h => by
    have hr : masked s (i + 1) ds = masked s' (i + 1) ds := masked_congr ds (i + 1) fun j d' B hj hk => by
      have := h (j + 1) d' B (by simpa using hj) hk
      rwa [show i + 1 + j = i + (j + 1) by omega]
    cases hk : d.k with
    | a B =>
      have := h 0 d B (by simp) hk
      simp only [Nat.add_zero] at this
      simp [masked, hk, hr, this]
    | r => simp [masked, hk, hr]
    | m => simp [masked, hk, hr]
    | w => simp [masked, hk, hr]
/-- operation k makes box number (cntA of those ahead of it) -/
theorem masked_at {s s' : Nat → Bool} : ∀ (ds : List DOp) (i k : Nat) (d : DOp) (B : Blk), ds[k]? = some d → d.k = .a B → s (i + k) = false → s' (i + k) = true → (∀ j, j ≠ i + k → s' j = s j) →
    (masked s i ds)[cntA (ds.take k)]? = some .dead ∧ masked s' i ds = (masked s i ds).set (cntA (ds.take k)) B
  | [], _, _, _, _, h, _, _, _, _ => by simp at h
  | d0 :: ds, i, 0, d, B, h, hk, h0, h1, hne => by
    simp at h
    subst h
    simp only [Nat.add_zero] at h0 h1 hne
    have hr : masked s' (i + 1) ds = masked s (i + 1) ds := masked_congr ds (i + 1) fun j d' B' _ _ => hne _ (by omega)
    simp [masked, hk, h0, h1, cntA, hr]
  | d0 :: ds, i, k + 1, d, B, h, hk, h0, h1, hne => by
    have ih := masked_at (s := s) (s' := s') ds (i + 1) k d B (by simpa using h) hk (by rwa [show i + 1 + k = i + (k + 1) by omega]) (by rwa [show i + 1 + k = i + (k + 1) by omega]) (fun j hj => hne j (by omega))
    have hi : s' i = s i := hne i (by omega)
    cases hk0 : d0.k with
    | a B0 => simp [masked, hk0, cntA, ih.1, ih.2, hi]
    | r => simp [masked, hk0, cntA, ih.1, ih.2]
    | m => simp [masked, hk0, cntA, ih.1, ih.2]
    | w => simp [masked, hk0, cntA, ih.1, ih.2]
theorem masked_all {s : Nat → Bool} : ∀ (ds : List DOp) (i : Nat), (∀ j d B, ds[j]? = some d → d.k = .a B → s (i + j) = true) → masked s i ds = masked (fun _ => true) i ds :=
  fun ds i h => masked_congr ds i fun j d B hj hk => by rw [h j d B hj hk]

/-- a placeholder becomes a box -/
theorem HRel.revive {g : G} {w : World} {hp hp' : Hp} (h : HRel g w hp) {i : Nat} (ha : At hp i .dead) (hpe : g.pend i) {t : TypeId} {l : List AV} {cs : Array Value} (hl : LRel g w l cs.toList) (hput : Put hp i (.box t l) hp') :
    ∃ g', HRel g' (w.alloc (.cells cs t)) hp' ∧ ExtV g w g' (w.alloc (.cells cs t)) ∧ g'.n = g.n ∧ g'.ok i ∧ g'.blk i = w.heap.size ∧ (∀ j, j ≠ i → (g'.pend j ↔ g.pend j)) ∧
      (∀ b o, b < w.heap.size → g'.own b o → g.own b o) := by
  let g' : G := { n := g.n, blk := fun j => if j = i then w.heap.size else g.blk j, tk := g.tk, own := fun b o => g.own b o ∨ b = w.heap.size, pend := fun j => g.pend j ∧ j ≠ i }
  have hok : ∀ j, g.ok j → g'.ok j := fun j hj => ⟨hj.1, fun q => hj.2 q.1⟩
  have hne : ∀ j, g.ok j → j ≠ i := fun j hj e => hj.2 (e ▸ hpe)
  have hv : ExtV g w g' (w.alloc (.cells cs t)) := by
    refine ⟨hok, fun j hj => ?_, fun _ _ => .inl rfl, fun {b o c} hc ho => ?_, fun {b x} hb0 ho0 => ?_⟩
    · show (if j = i then _ else g.blk j) = _
      rw [if_neg (hne j hj)]
    · have hb := World.block_lt_of_cell? w _ hc
      refine ⟨by rw [World.cell?_alloc_lt w _ _ hb]; exact hc, ?_⟩
      rintro (q | q)
      · exact ho q
      · simp only at hb; omega
    · refine ⟨by rw [heap_alloc_old w _ (lt_size hb0)]; exact hb0, fun o => ?_⟩
      rintro (q | q)
      · exact ho0 o q
      · have := lt_size hb0; omega
  have hold : ∀ b, b < w.heap.size → (w.alloc (.cells cs t)).heap[b]? = w.heap[b]? := fun b hb => heap_alloc_old w _ hb
  have hbi : g'.blk i = w.heap.size := by show (if i = i then _ else _) = _; rw [if_pos rfl]
  have keep : ∀ (j : Nat) (B : Blk), j ≠ i → BRel g w j B → B ≠ .dead → g.ok j → BRel g' (w.alloc (.cells cs t)) j B := by
    intro j B hj hB hd hjk
    have hbj : g'.blk j = g.blk j := hv.blk j hjk
    cases B with
    | box t' l' =>
      obtain ⟨ds, h1, h2, h3⟩ := hB
      exact ⟨ds, by rw [hbj, hold _ (lt_size h1), h1], LRel.extV hv _ _ h2, fun o => by rw [hbj]; exact .inl (h3 o)⟩
    | tok e sz len =>
      obtain ⟨h1, h2, h3⟩ := hB
      refine ⟨h1, h2, ?_⟩
      rcases h3 with h3 | ⟨b, ds, q1, q2, q3, q4, q5, q6⟩
      · exact .inl h3
      · exact .inr ⟨b, ds, q1, by rw [hold _ (lt_size q2), q2], q3, q4, q5, fun o ho => .inl (q6 o ho)⟩
    | mp ks vs =>
      obtain ⟨es, clk, h1, h2, h3, h4⟩ := hB
      exact ⟨es, clk, by rw [hbj, hold _ (lt_size h1), h1], LRel.extV hv _ _ h2, LRel.extV hv _ _ h3, fun o => by rw [hbj]; exact .inl (h4 o)⟩
    | dead => trivial
  refine ⟨g', ⟨by rw [hput.base, hput.k]; exact h.n, by rw [hput.loc, hput.k]; exact h.k, fun j B hj => ?_, fun b o ho => ?_, fun j hj => ?_, fun j1 j2 B C b hj1 hj2 hb1 hb2 => ?_⟩, hv, rfl, ⟨at_lt h ha, fun q => q.2 rfl⟩, hbi, fun j hj => ⟨fun q => q.1, fun q => ⟨q, hj⟩⟩, fun b o hb ho => ?_⟩
  · rcases put_split hput hj with ⟨rfl, rfl⟩ | ⟨hij, hj'⟩
    · exact ⟨cs, by rw [hbi]; exact heap_alloc_new w _, LRel.extV hv _ _ hl, fun o => by rw [hbi]; exact .inr rfl⟩
    · by_cases hd : B = .dead
      · subst hd; trivial
      · exact keep j B (Ne.symm hij) (h.rel j B hj') hd (at_ok h hj' hd)
  · rcases ho with ho | ho
    · have := h.lt b o ho
      simp; omega
    · simp; omega
  · rw [hput.all, List.getElem?_set, if_neg (Ne.symm hj.2)]
    exact h.pend j hj.1
  · have key : ∀ (j : Nat) (B : Blk) (b : Nat), hp'.all[j]? = some B → locs g' j B = some b → (j = i ∧ b = w.heap.size) ∨ (j ≠ i ∧ hp.all[j]? = some B ∧ locs g j B = some b ∧ b < w.heap.size) := by
      intro j B b hj hb
      rcases put_split hput hj with ⟨rfl, rfl⟩ | ⟨hij, hj'⟩
      · simp only [locs, Option.some.injEq] at hb
        exact .inl ⟨rfl, by rw [← hb, hbi]⟩
      · have hloc : locs g' j B = locs g j B := by
          cases B with
          | box t' l' => simp [locs, hv.blk j (at_ok h hj' (by simp))]
          | tok e sz len => rfl
          | mp ks vs => simp [locs, hv.blk j (at_ok h hj' (by simp))]
          | dead => rfl
        rw [hloc] at hb
        exact .inr ⟨Ne.symm hij, hj', hb, (h.rel j B hj').loc_lt hb⟩
    rcases key j1 B b hj1 hb1 with ⟨h1, h2⟩ | ⟨h1, h2, h3, h4⟩ <;> rcases key j2 C b hj2 hb2 with ⟨k1, k2⟩ | ⟨k1, k2, k3, k4⟩
    · omega
    · omega
    · omega
    · exact h.inj j1 j2 B C b h2 k2 h3 k3
  · rcases ho with ho | ho
    · exact ho
    · omega
end Go.Vsi
