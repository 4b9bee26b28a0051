/- A text of the proof: the parts PA38, O38, P38, Q38, R38, S38, U38, V38, TI38, TJ38, TK38, TL38, TM38, TN38, W38, X38, ZA38, ZB38, ZC38. -/
import Derived.Shelf.Spec.SlicesInsertGrow
import Derived.Test.YtgopbbkpcjgihaaK8
set_option linter.unusedSimpArgs false
set_option linter.unusedVariables false
/-! text PA38 -/
namespace Go.Proofs.Ytgopbbkpcjgihaa
open Go.Vsi
set_option maxHeartbeats 1000000

theorem pw_of_adj {α : Type} (R : α → α → Prop) (tr : ∀ a b c, R a b → R b c → R a c) (d : α) : ∀ (l : List α), (∀ i, i + 1 < l.length → R (l.getD i d) (l.getD (i + 1) d)) → l.Pairwise R
  | [], _ => List.Pairwise.nil
  | [x], _ => by simp
  | x :: y :: l, h => by
    have ih := pw_of_adj R tr d (y :: l) fun i hi => h (i + 1) (by simpa using hi)
    refine List.Pairwise.cons (fun z hz => ?_) ih
    have h0 : R x y := h 0 (by simp)
    rcases List.mem_cons.1 hz with rfl | hz
    · exact h0
    · exact tr x y z h0 ((List.pairwise_cons.1 ih).1 z hz)
theorem pw_get {α : Type} {R : α → α → Prop} {d : α} {l : List α} (h : l.Pairwise R) {i j : Nat} (hij : i < j) (hj : j < l.length) : R (l.getD i d) (l.getD j d) := by
  rw [List.pairwise_iff_getElem] at h
  have := h i j (by omega) hj hij
  simpa [List.getD_eq_getElem?_getD, List.getElem?_eq_getElem hj, List.getElem?_eq_getElem (show i < l.length by omega)] using this
theorem all_rng {p : Nat → Bool} {n : Nat} : (List.range n).all p = true ↔ ∀ i, i < n → p i = true := by
  rw [List.all_eq_true]
  exact ⟨fun h i hi => h i (List.mem_range.2 hi), fun h i hi => h i (List.mem_range.1 hi)⟩
theorem mem_getD {α : Type} {l : List α} {x : α} (d : α) (h : x ∈ l) : ∃ i, i < l.length ∧ l.getD i d = x := by
  obtain ⟨i, hi, rfl⟩ := List.getElem_of_mem h
  exact ⟨i, hi, by simp [List.getD_eq_getElem?_getD, List.getElem?_eq_getElem hi]⟩
theorem ltS_trans {a b c : ByteArray} (h1 : ltS a b = true) (h2 : ltS b c = true) : ltS a c = true := by
  rw [ltS_eq, decide_eq_true_eq] at *
  exact List.lt_trans h1 h2
theorem ltS_irr (a : ByteArray) : ltS a a = false := by
  rw [ltS_eq, decide_eq_false_iff_not]
  exact List.lt_irrefl _
theorem ltS_asym {a b : ByteArray} (h1 : ltS a b = true) : ltS b a = false := by
  cases h : ltS b a with
  | false => rfl
  | true =>
    have := ltS_trans h1 h
    rw [ltS_irr] at this
    cases this
theorem ltS_tri {a b : ByteArray} (h1 : ltS a b = false) (h2 : ltS b a = false) : a = b := by
  have h3 : cmpB a b = 0 := by
    unfold cmpB
    rw [ltS_eq, decide_eq_false_iff_not] at *
    rw [if_neg h1, if_neg h2]
  exact cmpB_zero.1 h3
structure VV (l : List Ver) : Prop where
  ne : 1 ≤ l.length
  le : l.length ≤ 20
  day : ∀ v ∈ l, isDay v.at_ = true
  sch : ∀ v ∈ l, validB v.sch = true
  srt : l.Pairwise fun v w => v.at_ < w.at_
theorem versOK_iff {l : List Ver} : versOK l = true ↔ VV l := by
  unfold versOK
  rw [Bool.and_eq_true, Bool.and_eq_true, decide_eq_true_eq, decide_eq_true_eq, all_rng]
  constructor
  · rintro ⟨h1, h2, h3⟩
    refine ⟨h1, h2, fun v hv => ?_, fun v hv => ?_, pw_of_adj (fun v w : Ver => v.at_ < w.at_) (fun a b c => Int.lt_trans) ver0 l fun i hi => ?_⟩
    · obtain ⟨i, hi, rfl⟩ := mem_getD ver0 hv
      have := h3 i hi
      simp only [okV, Bool.and_eq_true] at this
      exact this.1
    · obtain ⟨i, hi, rfl⟩ := mem_getD ver0 hv
      have := h3 i hi
      simp only [okV, Bool.and_eq_true] at this
      exact this.2.2
    · have := h3 (i + 1) hi
      simp only [okV, Bool.and_eq_true, Nat.add_sub_cancel] at this
      have h4 := this.2.1
      simp at h4
      exact h4
  · rintro ⟨h1, h2, h3, h4, h5⟩
    refine ⟨h1, h2, fun i hi => ?_⟩
    simp only [okV, Bool.and_eq_true]
    refine ⟨h3 _ (getD_mem ver0 hi), ?_, h4 _ (getD_mem ver0 hi)⟩
    cases i with
    | zero => simp
    | succ i =>
      have := pw_get (d := ver0) h5 (Nat.lt_succ_self i) hi
      simp
      exact this
structure EV (b : Bk) (e : Ent) : Prop where
  nm : isName e.stu = true
  day : isDay e.day = true
  frc : (forceF b e.exe e.day).isSome = true
  wrk : wvalid e.work = true
structure VB (b : Bk) : Prop where
  ns : b.ser.length ≤ 40
  ne : b.ent.length ≤ 2000
  srt : b.ser.Pairwise fun s t => ltS s.name t.name = true
  nm : ∀ s ∈ b.ser, isName s.name = true
  vs : ∀ s ∈ b.ser, VV s.vers
  esrt : b.ent.Pairwise fun e f => e.day ≤ f.day
  ent : ∀ e ∈ b.ent, EV b e
  att : ∀ i, i < b.ent.length → (b.ent.getD i ent0).work.att = (cntK (b.ent.take (i + 1)) (keyOf (b.ent.getD i ent0)) : Nat)

theorem force_some {b : Bk} {ex : ByteArray} {d : Int} {v : Ver} (h : forceF b ex d = some v) : ∃ s ∈ b.ser, s.name = ex ∧ v ∈ s.vers ∧ v.at_ ≤ d := by
  unfold forceF verF at h
  obtain ⟨h1, h2⟩ := lastF_some h
  cases hs : serF b ex with
  | none =>
    rw [hs] at h1
    cases h1
  | some s =>
    rw [hs] at h1
    obtain ⟨h3, h4⟩ := lastF_some hs
    exact ⟨s, h3, eqS_iff.1 h4, h1, of_decide_eq_true h2⟩
theorem lastF_isSome {α : Type} {p : α → Bool} {l : List α} : (lastF p l).isSome = true ↔ ∃ x ∈ l, p x = true := by
  constructor
  · intro h
    obtain ⟨x, hx⟩ := Option.isSome_iff_exists.1 h
    exact ⟨x, lastF_some hx⟩
  · rintro ⟨x, h1, h2⟩
    cases h : lastF p l with
    | some y => rfl
    | none =>
      exfalso
      have key : ∀ {l : List α}, x ∈ l → lastF p l ≠ none := by
        intro l
        induction l with
        | nil => intro h; cases h
        | cons y l ih =>
          intro hx hn
          unfold lastF at hn
          rcases List.mem_cons.1 hx with rfl | hx
          · split at hn
            · cases hn
            · rw [if_pos h2] at hn
              cases hn
          · split at hn
            · cases hn
            · exact ih hx (by assumption)
      exact key h1 h
theorem force_mono {b : Bk} {ex : ByteArray} {d d' : Int} (h : (forceF b ex d).isSome = true) (hd : d ≤ d') : (forceF b ex d').isSome = true := by
  unfold forceF verF at *
  rw [lastF_isSome] at *
  obtain ⟨v, h1, h2⟩ := h
  exact ⟨v, h1, decide_eq_true (Int.le_trans (of_decide_eq_true h2) hd)⟩
theorem grade_ok {s : Sch} {w : Wrk} : (gradeF s w).2 = 0 ↔ validB s = true ∧ wvalid w = true := by
  unfold gradeF
  split
  · simp_all
  · constructor
    · intro h; cases h
    · intro h; exact absurd h (by assumption)
theorem validF_iff {b : Bk} : validF b = true ↔ VB b := by
  unfold validF
  rw [Bool.and_eq_true, Bool.and_eq_true, Bool.and_eq_true, decide_eq_true_eq, decide_eq_true_eq, all_rng, all_rng]
  constructor
  · rintro ⟨h1, h2, h3, h4⟩
    have hv : ∀ s ∈ b.ser, isName s.name = true ∧ VV s.vers := fun s hs => by
      obtain ⟨i, hi, rfl⟩ := mem_getD ser0 hs
      have := h3 i hi
      simp only [okS, Bool.and_eq_true] at this
      exact ⟨this.1, versOK_iff.1 this.2.2⟩
    refine ⟨h1, h2, pw_of_adj (fun s t : Ser => ltS s.name t.name = true) (fun a b c => ltS_trans) ser0 _ fun i hi => ?_, fun s hs => (hv s hs).1, fun s hs => (hv s hs).2, pw_of_adj (fun e f : Ent => e.day ≤ f.day) (fun a b c => Int.le_trans) ent0 _ fun i hi => ?_, fun e he => ?_, fun i hi => ?_⟩
    · have := h3 (i + 1) hi
      simp only [okS, Bool.and_eq_true, Nat.add_sub_cancel] at this
      have h5 := this.2.1
      simp at h5
      exact h5
    · have := h4 (i + 1) hi
      simp only [okE, Bool.and_eq_true, Nat.add_sub_cancel] at this
      have h5 := this.2.2.1
      simp at h5
      exact h5
    · obtain ⟨i, hi, rfl⟩ := mem_getD ent0 he
      have := h4 i hi
      simp only [okE, Bool.and_eq_true, beq_iff_eq] at this
      exact ⟨this.1, this.2.1, this.2.2.2.1, (grade_ok.1 this.2.2.2.2.1).2⟩
    · have := h4 i hi
      simp only [okE, Bool.and_eq_true, beq_iff_eq] at this
      exact this.2.2.2.2.2
  · rintro ⟨h1, h2, h3, h4, h5, h6, h7, h8⟩
    refine ⟨h1, h2, fun i hi => ?_, fun i hi => ?_⟩
    · simp only [okS, Bool.and_eq_true]
      refine ⟨h4 _ (getD_mem ser0 hi), ?_, versOK_iff.2 (h5 _ (getD_mem ser0 hi))⟩
      cases i with
      | zero => simp
      | succ i =>
        have := pw_get (d := ser0) h3 (Nat.lt_succ_self i) hi
        simp
        exact this
    · have he := h7 _ (getD_mem ent0 hi)
      simp only [okE, Bool.and_eq_true, beq_iff_eq]
      refine ⟨he.nm, he.day, ?_, he.frc, ?_, h8 i hi⟩
      · cases i with
        | zero => simp
        | succ i =>
          have := pw_get (d := ent0) h6 (Nat.lt_succ_self i) hi
          simp
          exact this
      · obtain ⟨v, hv⟩ := Option.isSome_iff_exists.1 he.frc
        rw [hv]
        obtain ⟨s, q1, q2, q3, q4⟩ := force_some hv
        exact grade_ok.2 ⟨(h5 s q1).sch v q3, he.wrk⟩
theorem VB.sm {b : Bk} (h : VB b) : b.Sm := ⟨by have := h.ns; omega, by have := h.ne; omega, fun s hs => by have := (h.vs s hs).le; omega⟩

def wksF (b : Bk) (d : Int) (k : Ky) : List Wrk := (ofK (selF b.ent d) k).map Ent.work
def frcF (b : Bk) (ex : ByteArray) (d : Int) : Sch := ((forceF b ex d).getD ver0).sch
def ptsF (b : Bk) (d : Int) (k : Ky) : Int := (totalF (frcF b k.1 d) (wksF b d k)).1
theorem cntK_100 {b : Bk} (h : VB b) (k : Ky) : ∀ n, n ≤ b.ent.length → cntK (b.ent.take n) k ≤ 100 := by
  intro n
  induction n with
  | zero => intro _; simp [cntK, ofK]
  | succ n ih =>
    intro hn
    have h1 := take_snoc b.ent ent0 n hn
    have h2 := h.att n hn
    have h3 := (wvalid_facts (h.ent _ (getD_mem ent0 hn)).wrk).2.2.1
    rw [h1] at h2 ⊢
    by_cases hk : keyOf (b.ent.getD n ent0) = k
    · rw [hk] at h2
      omega
    · rw [cntK_other _ _ (Ne.symm hk)]
      exact ih (by omega)
theorem cntK_sub (l : List Ent) (d : Int) (k : Ky) : cntK (selF l d) k ≤ cntK l k := by
  unfold cntK ofK selF
  rw [List.filter_filter]
  have : (fun e => eqK (keyOf e) k && decide (e.day ≤ d)) = fun e => decide (e.day ≤ d) && eqK (keyOf e) k := by
    funext e
    rw [Bool.and_comm]
  rw [this, ← List.filter_filter]
  exact List.length_filter_le _ _
theorem frc_valid {b : Bk} (h : VB b) {ex : ByteArray} {d : Int} (hf : (forceF b ex d).isSome = true) : validB (frcF b ex d) = true := by
  obtain ⟨v, hv⟩ := Option.isSome_iff_exists.1 hf
  unfold frcF
  rw [hv]
  obtain ⟨s, q1, q2, q3, q4⟩ := force_some hv
  exact (h.vs s q1).sch v q3
theorem sel_mem {l : List Ent} {d : Int} {e : Ent} : e ∈ selF l d ↔ e ∈ l ∧ e.day ≤ d := by
  unfold selF
  rw [List.mem_filter, decide_eq_true_eq]
theorem wks_valid {b : Bk} (h : VB b) (d : Int) (k : Ky) : ∀ w ∈ wksF b d k, wvalid w = true := by
  intro w hw
  unfold wksF ofK at hw
  obtain ⟨e, he, rfl⟩ := List.mem_map.1 hw
  exact (h.ent e (sel_mem.1 (List.mem_filter.1 he).1).1).wrk
theorem wks_len {b : Bk} (h : VB b) (d : Int) (k : Ky) : (wksF b d k).length ≤ 100 := by
  unfold wksF
  rw [List.length_map]
  have h1 := cntK_sub b.ent d k
  have h2 := cntK_100 h k b.ent.length (Nat.le_refl _)
  rw [List.take_length] at h2
  exact Nat.le_trans h1 h2
theorem key_force {b : Bk} (h : VB b) {d : Int} {k : Ky} (hk : k ∈ keysF (selF b.ent d)) : (forceF b k.1 d).isSome = true := by
  obtain ⟨e, he, rfl⟩ := mem_keysF.1 hk
  obtain ⟨h1, h2⟩ := sel_mem.1 he
  exact force_mono (h.ent e h1).frc h2
theorem total_ok {b : Bk} (h : VB b) {d : Int} {k : Ky} (hk : k ∈ keysF (selF b.ent d)) : (totalF (frcF b k.1 d) (wksF b d k)).2 = 0 := by
  have h1 := frc_valid h (key_force h hk)
  have h2 : (wksF b d k).any (fun w => !wvalid w) = false := by
    rw [List.any_eq_false]
    intro w hw
    simp [wks_valid h d k w hw]
  have h3 := wks_len h d k
  unfold totalF
  rw [if_pos ⟨h1, h2⟩, if_neg (by omega)]
  split <;> rfl
end Go.Proofs.Ytgopbbkpcjgihaa
/-! text O38 -/
namespace Go.Proofs.Ytgopbbkpcjgihaa
open Go.Vsi
set_option maxHeartbeats 4000000
attribute [local irreducible] VW VCall VO bits
theorem rows_below (n : Nat) (pts : Ky → Int) (l : List Ky) : belowL n (l.flatMap (rowC pts)) := belowL_flat _ fun k => by simp [rowC, belowL, below]

def repK (b : Bk) (d : Int) : List Ky := if validF b && isDay d then sortY (keysF (selF b.ent d)) else []
def repE (b : Bk) (d : Int) : Int := if validF b && isDay d then 0 else 2
theorem wfA_below (n : Nat) (l : List Ent) (ks : List Ky) : belowL n (vsA ks (wfA l)) := vsA_below n _ ks fun k _ => ⟨fun _ e => (nomatch e), wrkC_below _ _ _⟩
theorem row_size (pts : Ky → Int) (k : Ky) : (rowC pts k).length = 3 := rfl
theorem nodup_le {α : Type} : ∀ {l m : List α}, l.Nodup → (∀ e ∈ l, e ∈ m) → l.length ≤ m.length
  | [], _, _, _ => Nat.zero_le _
  | x :: l, m, h, hs => by
    obtain ⟨m1, m2, rfl⟩ := List.append_of_mem (hs x List.mem_cons_self)
    have h1 := List.nodup_cons.1 h
    have := nodup_le (l := l) (m := m1 ++ m2) h1.2 fun e he => by
      rcases List.mem_append.1 (hs e (List.mem_cons_of_mem _ he)) with q | q
      · exact List.mem_append_left _ q
      · rcases List.mem_cons.1 q with rfl | q
        · exact absurd he h1.1
        · exact List.mem_append_right _ q
    simp at this ⊢
    omega
theorem nodup_lt {l : List Nat} {n : Nat} (h : l.Nodup) (hl : ∀ e ∈ l, e < n) : l.length ≤ n := by
  have := nodup_le (m := List.range n) h fun e he => List.mem_range.2 (hl e he)
  simpa using this
theorem map_get_range {α : Type} (d : α) (l : List α) : (List.range l.length).map (fun i => l.getD i d) = l := by
  apply List.ext_getElem?
  intro i
  rw [List.getElem?_map]
  by_cases hi : i < l.length
  · rw [List.getElem?_range hi]
    simp [hi]
  · rw [List.getElem?_eq_none (by simpa using hi), List.getElem?_eq_none (by simpa using hi)]
    rfl
theorem seen_perm {α : Type} (d : α) {l : List α} {seen : List Nat} (h : seen.Nodup) (hlt : ∀ e ∈ seen, e < l.length) (hall : ∀ e, e < l.length → e ∈ seen) : (seen.map fun i => l.getD i d).Perm l := by
  have : seen.Perm (List.range l.length) := (List.perm_ext_iff_of_nodup h List.nodup_range).2 fun e => ⟨fun he => List.mem_range.2 (hlt e he), fun he => hall e (List.mem_range.1 he)⟩
  have h2 := this.map fun i => l.getD i d
  rwa [map_get_range] at h2
theorem cKy_le : ∀ x y : Ky, (!(Go.Proofs.ltOf cKy) y x) = decide (cKy x y ≤ 0) := fun x y => by
  have hA := (ordKy x).anti y
  unfold Go.Proofs.ltOf
  rw [hA]
  by_cases h : cKy x y ≤ 0
  · simp [h]
  · simp [h]; omega
theorem sortY_srt (l : List Ky) : (sortY l).Pairwise fun x y => cKy x y ≤ 0 := by
  have hA : ∀ x y, cKy y x = - cKy x y := fun x y => (ordKy x).anti y
  have := List.pairwise_mergeSort (le := fun x y => !(Go.Proofs.ltOf cKy) y x) (fun a b c h1 h2 => by
    rw [cKy_le] at h1 h2 ⊢
    simp only [decide_eq_true_eq] at *
    exact ((ordKy a).tr b c h1 h2).1) (fun a b => by
    rw [cKy_le, cKy_le, hA a b]
    simp
    omega) l
  refine this.imp fun {a b} h => ?_
  rw [cKy_le] at h
  simpa using h
theorem srt_unique {l m : List Ky} (h : l.Perm m) (h1 : l.Pairwise fun x y => cKy x y ≤ 0) (h2 : m.Pairwise fun x y => cKy x y ≤ 0) : l = m :=
  h.eq_of_pairwise (fun a b _ _ h1 h2 => (ordKy a).eq b (by have := (ordKy a).anti b; omega)) h1 h2
theorem sortY_eq {l m : List Ky} (h : l.Perm m) : sortY l = sortY m :=
  srt_unique (((sortY_perm l).trans h).trans (sortY_perm m).symm) (sortY_srt l) (sortY_srt m)
theorem keysF_len (l : List Ent) : (keysF l).length ≤ l.length := by
  induction l using snoc_ind with
  | h0 => exact Nat.le_refl _
  | h1 l x ih =>
    rw [keysF_snoc]
    unfold insK
    split
    · simp; omega
    · simp; omega
theorem totalK_c (b : Bk) (hvb : VB b) (d : Int) (k : Ky) (hk : k ∈ keysF (selF b.ent d)) (H : Heap) : VDet Try.prog 30 [.agg (frcF b k.1 d).cells, .sl none (cntK (selF b.ent d) k) (wrkC (selF b.ent d) k)] H (.tup [.int .i64 (ptsF b d k), .int .i64 0]) := by
  have h := total_c (frcF b k.1 d) (wksF b d k) (by have := wks_len hvb d k; omega) none H
  rw [total_ok hvb hk] at h
  have e1 : (wksF b d k).length = cntK (selF b.ent d) k := by unfold wksF cntK; rw [List.length_map]
  rw [e1] at h
  exact h
theorem report_c (b : Bk) (hb : b.Sm) (d : Int) (H : Heap) : VDet Try.prog 23 [.agg b.cells, .int .i64 d] H (.tup [.sl none (repK b d).length ((repK b d).flatMap (rowC (ptsF b d))), .int .i64 (repE b d)]) := by
  have hva := fun H => validBk_c b hb H
  have hif := fun ex H => inForce_c b hb.ser hb.vers ex d H
  have hcb : b.cells = [.sl none b.ser.length (b.ser.flatMap Ser.cells), .sl none b.ent.length (b.ent.flatMap Ent.cells)] := rfl
  unfold repK repE
  by_cases hV : validF b = true
  · by_cases hD : isDay d = true
    · have hvb := validF_iff.1 hV
      have hwo := fun H => works_c b hb (by have := hvb.ne; omega) d H
      have hkl : (keysF (selF b.ent d)).length ≤ 2000 := by
        have h1 := keysF_len (selF b.ent d)
        have h2 : (selF b.ent d).length ≤ b.ent.length := List.length_filter_le _ _
        have := hvb.ne
        omega
      have hto := fun k hk H => totalK_c b hvb d k hk H
      rw [hV, hD]
      simp only [Bool.and_self, if_true]
      rw [hcb] at hva hif hwo ⊢
      rw [hV] at hva
      have hnd := keysF_nodup (selF b.ent d)
      generalize hks : keysF (selF b.ent d) = ks at *
      refine fn_det Try.E0 Try.mx Try.func23 (by kernel_rfl) rfl (Nat.le_of_ble_eq_true rfl) rfl fun hcl hbl => ?_
      (repeat' ((conv => whnf); (first | (refine IfN.id ?_; first | refine IfN.not ?_ | refine IfN.tt rfl ?_ | refine IfN.tt (by assumption) ?_ | fail) | (refine CallN.id ?_; first | refine CallN.det _ (hva _) ?_ | refine CallN.det _ (isDay_c _ _) ?_ | refine CallN.det _ (hwo _) ?_ | fail) | refine DrawN.mk' [] ?_ | fail))); all_goals (conv => whnf)
      refine LoopN.tok 6 83 3 rfl rfl rfl ?_
      refine LoopN.tokVec 6 2 83 3 rfl rfl rfl ?_
      refine loop_R Try.E0 Try.mx (σ := List Nat) (fun s => s.Nodup ∧ ∀ e ∈ s, e < ks.length) (fun s => ks.length - s.length) (fun s => [(6, .v (.vs (H.length + 2) s.length))]) (fun s => [.box 25 [.sl none b.ser.length (b.ser.flatMap Ser.cells), .sl none b.ent.length (b.ent.flatMap Ent.cells)], .it (.rmp (ksA ks) (vsA ks (wfA (selF b.ent d)))) (ksA ks).length s, .vec 83 3 ((s.map fun i => ks.getD i (.empty, .empty)).flatMap (rowC (ptsF b d)))]) _ [] rfl hcl [1, 2, 24] rfl ⟨List.nodup_nil, fun e h => absurd h List.not_mem_nil⟩ ⟨⟨_, rfl, Wk.refl _⟩, trivial⟩ rfl (fun _ _ => rfl) ?_
      rintro seen ⟨hsn, hlt⟩
      have hle := nodup_lt hsn hlt
      have hrl := rowC_len (ptsF b d) (seen.map fun i => ks.getD i (.empty, .empty))
      rw [List.length_map] at hrl
      (repeat' ((conv => whnf); (first | (refine SideN.mk ?_ ?_; · first | kernel_rfl | omega | exact List.cons_ne_nil _ _ | (simp; done) | (simp; omega) | exact trivial | assumption | fail) | refine DrawN.mk' [] ?_ | fail))); all_goals (conv => whnf)
      rintro B v (⟨rfl, rfl, hall⟩ | ⟨e, kv, x, he, hn, hk, hx, rfl, rfl⟩)
      · have hall : ∀ e, e < ks.length → e ∈ seen := fun e he => hall e (by simpa [ksA] using he)
        have hperm := seen_perm (.empty, .empty) hsn hlt hall
        have hso := sort55_c (H ++ [.box 25 [.sl none b.ser.length (b.ser.flatMap Ser.cells), .sl none b.ent.length (b.ent.flatMap Ent.cells)], .it (.rmp (ksA ks) (vsA ks (wfA (selF b.ent d)))) (ksA ks).length seen, .vec 83 3 ((seen.map fun i => ks.getD i (.empty, .empty)).flatMap (rowC (ptsF b d)))]) (H.length + 2) (ptsF b d) (seen.map fun i => ks.getD i (.empty, .empty)) (by rw [List.length_map]; omega) (at_loc0 rfl)
        rw [set_loc', List.length_map] at hso
        have hso : VCall Try.prog 55 [.vs (H.length + 2) seen.length, .clo (.func 56) [] []] (H ++ [.box 25 [.sl none b.ser.length (b.ser.flatMap Ser.cells), .sl none b.ent.length (b.ent.flatMap Ent.cells)], .it (.rmp (ksA ks) (vsA ks (wfA (selF b.ent d)))) (ksA ks).length seen, .vec 83 3 ((seen.map fun i => ks.getD i (.empty, .empty)).flatMap (rowC (ptsF b d)))]) (fun r H' => r = .tup [] ∧ H' = H ++ [.box 25 [.sl none b.ser.length (b.ser.flatMap Ser.cells), .sl none b.ent.length (b.ent.flatMap Ent.cells)], .it (.rmp (ksA ks) (vsA ks (wfA (selF b.ent d)))) (ksA ks).length seen, .vec 83 3 ((sortY (seen.map fun i => ks.getD i (.empty, .empty))).flatMap (rowC (ptsF b d)))]) := hso
        rw [sortY_eq hperm] at hso
        (repeat' ((conv => whnf); (first | (refine IfN.id ?_; first | refine IfN.ff rfl ?_ | fail) | refine CallN.fix _ _ _ 3 hso rfl rfl ?_ | refine DrawN.mk' [] ?_ | fail))); all_goals (conv => whnf)
        have hsl : seen.length = (sortY ks).length := by
          rw [sortY_len, ← hperm.length_eq, List.length_map]
        refine EndN.detF (u' := .tup [.sl none seen.length ((sortY ks).flatMap (rowC (ptsF b d))), .int .i64 0]) ⟨⟨fun _ e => (nomatch e), rows_below _ _ _⟩, trivial, trivial⟩ (Frz.tup (.cons (Frz.vs rfl (by rw [rowC_len, hsl]) (FrzL.refl _)) (.cons (.refl _) .nil))) ?_
        rw [hsl]
        exact Wk.refl _
      · have he : e < ks.length := by simpa [ksA] using he
        have hke : ks[e]? = some (ks.getD e (.empty, .empty)) := by simp [he]
        have hkm : ks.getD e (.empty, .empty) ∈ ks := List.mem_of_getElem? hke
        have hk2 : kv = .agg (keyC (ks.getD e (.empty, .empty))) := by
          unfold ksA at hk
          rw [List.getElem?_map, hke] at hk
          simpa using hk.symm
        have hx2 : x = .sl none (cntK (selF b.ent d) (ks.getD e (.empty, .empty))) (wrkC (selF b.ent d) (ks.getD e (.empty, .empty))) := by
          unfold vsA at hx
          rw [List.getElem?_map, hke] at hx
          simpa [wfA] using hx.symm
        subst hk2 hx2
        have hlt2 : seen.length + 1 ≤ ks.length := by
          have := nodup_lt (nodup_snoc hsn hn) (n := ks.length) (fun a ha => by
            rcases List.mem_append.1 ha with h | h
            · exact hlt a h
            · simp at h; exact h ▸ he)
          simpa using this
        have hto := hto _ hkm
        have hif := hif (ks.getD e (.empty, .empty)).1
        have hrow : ((seen ++ [e]).map fun i => ks.getD i (.empty, .empty)).flatMap (rowC (ptsF b d)) = (seen.map fun i => ks.getD i (.empty, .empty)).flatMap (rowC (ptsF b d)) ++ rowC (ptsF b d) (ks.getD e (.empty, .empty)) := by
          rw [List.map_append, List.flatMap_append]
          simp
        unfold frcF at hto
        generalize (forceF b (ks.getD e (.empty, .empty)).1 d).isSome = fs at *
        obtain ⟨f1, f2, f3, f4, f5, f6, f7, f8, hv3⟩ := ver_ex ((forceF b (ks.getD e (.empty, .empty)).1 d).getD ver0)
        rw [hv3] at hto hif
        unfold Sch.cells at hto hif
        simp only at hto hif
        unfold keyC at hk ⊢
        unfold rowC at hrow
        generalize cntK (selF b.ent d) (ks.getD e (.empty, .empty)) = c0 at *
        generalize wrkC (selF b.ent d) (ks.getD e (.empty, .empty)) = w0 at *
        generalize ptsF b d (ks.getD e (.empty, .empty)) = p0 at *
        have hbt : (seen.length + 1) * 40 ≤ 140737488355328 := by omega
        have hmx : seen.length + 1 ≤ maxLen := Nat.le_trans (show seen.length + 1 ≤ 1000001 by omega) (by decide)
        (repeat' ((conv => whnf); (first | (refine IfN.id ?_; first | refine IfN.not ?_ | refine IfN.tt rfl ?_ | fail) | (refine CallN.id ?_; first | refine CallN.det _ (hif _) ?_ | refine CallN.det _ (hto _) ?_ | fail) | refine RelN.mk [_, _] [] ⟨rfl, rfl, seen, e, _, _, rfl, hk, hx, rfl⟩ ?_ | refine SideN.mk ⟨hrl, rfl, rfl, hbt, hmx⟩ ?_ | (refine PtrN.id ?_; first | refine PtrN.loc _ rfl ?_ | fail) | refine DrawN.mk' [] ?_ | fail))); all_goals (conv => whnf)
        have hlen1 : (seen ++ [e]).length = seen.length + 1 := by simp
        exact ⟨⟨seen ++ [e], ⟨nodup_snoc hsn hn, fun a ha => by
            rcases List.mem_append.1 ha with h | h
            · exact hlt a h
            · simp at h; exact h ▸ he⟩, by rw [hlen1]; omega, ⟨⟨_, rfl, by rw [hlen1]; exact Wk.refl _⟩, trivial⟩, .inl ⟨rfl, rfl⟩, rfl, _, congrArg (fun V => [_, _, Blk.vec 83 3 V] ++ _) hrow.symm, .inr ⟨by simp [belowRE, below, tr], ⟨by simp [Blk.below, belowL, below, sers_below, ents_below], by simp [Blk.below, below, ksA_below, wfA_below], rows_below _ _ _, trivial⟩⟩⟩⟩
    · have hD' : isDay d = false := by simpa using hD
      rw [hV, hD']
      rw [hcb] at hva ⊢
      rw [hV] at hva
      refine fn_det Try.E0 Try.mx Try.func23 (by kernel_rfl) rfl (Nat.le_of_ble_eq_true rfl) rfl fun hcl hbl => ?_
      (repeat' ((conv => whnf); (first | (refine IfN.id ?_; first | refine IfN.not ?_ | refine IfN.tt rfl ?_ | refine IfN.ff (by assumption) ?_ | fail) | (refine CallN.id ?_; first | refine CallN.det _ (hva _) ?_ | refine CallN.det _ (isDay_c _ _) ?_ | fail) | refine DrawN.mk' [] ?_ | fail))); all_goals (conv => whnf)
      exact EndN.det (by simp [below, belowL]) (by (repeat' (first | exact trivial | refine And.intro ?_ ?_ | exact Wk.refl _ | exact wk_sl _ _ _ | exact wk_sx _ _ | exact wk_nils | refine wk_agg ?_ | refine wk_tup ?_ | fail)); done)
  · have hV' : validF b = false := by simpa using hV
    rw [hV']
    rw [hcb] at hva ⊢
    rw [hV'] at hva
    refine fn_det Try.E0 Try.mx Try.func23 (by kernel_rfl) rfl (Nat.le_of_ble_eq_true rfl) rfl fun hcl hbl => ?_
    (repeat' ((conv => whnf); (first | (refine IfN.id ?_; first | refine IfN.not ?_ | refine IfN.ff rfl ?_ | fail) | (refine CallN.id ?_; first | refine CallN.det _ (hva _) ?_ | fail) | refine DrawN.mk' [] ?_ | fail))); all_goals (conv => whnf)
    exact EndN.det (by simp [below, belowL]) (by (repeat' (first | exact trivial | refine And.intro ?_ ?_ | exact Wk.refl _ | exact wk_sl _ _ _ | exact wk_sx _ _ | exact wk_nils | refine wk_agg ?_ | refine wk_tup ?_ | fail)); done)
end Go.Proofs.Ytgopbbkpcjgihaa
/-! text P38 -/
namespace Go.Proofs.Ytgopbbkpcjgihaa
open Go.Vsi
set_option maxHeartbeats 4000000
attribute [local irreducible] VW VCall VO bits

theorem encP_nil {l : List (Int × Int)} (h : l.flatMap encP = []) : l = [] := by
  cases l with
  | nil => rfl
  | cons x l => simp [encP] at h
theorem encP_len (l : List (Int × Int)) : (l.flatMap encP).length = l.length * 2 := flat_length (sz := 2) (fun _ => rfl) l
theorem clone68_c (l : List (Int × Int)) (hl : l.length ≤ 1000000) (H : Heap) : VDet Try.prog 68 [.sl none l.length (l.flatMap encP)] H (.sl none l.length (l.flatMap encP)) := by
  by_cases h0 : l = []
  · subst h0
    refine fn_det Try.E0 Try.mx Try.func68 (by kernel_rfl) rfl (Nat.le_of_ble_eq_true rfl) rfl fun hcl hbl => ?_
    (repeat' ((conv => whnf); (first | (refine IfN.id ?_; first | refine IfN.tt rfl ?_ | refine IfN.ff rfl ?_ | fail) | refine OrN.r (SideN.mk rfl ?_) | refine AnyVN.nil (fun _ => ?_) ?_ | refine DrawN.mk' [] ?_ | fail))); all_goals (conv => whnf)
    all_goals exact EndN.det (by simp [below, belowL]) (by (repeat' (first | exact trivial | refine And.intro ?_ ?_ | exact Wk.refl _ | exact wk_sl _ _ _ | exact wk_sx _ _ | exact wk_nils | refine wk_agg ?_ | refine wk_tup ?_ | fail)); done)
  · have hpos : 0 < l.length := List.length_pos_iff.2 h0
    have hb : (0 + l.length) * 16 ≤ 140737488355328 := by omega
    have hm : 0 + l.length ≤ maxLen := Nat.le_trans (by omega) (show 1000000 ≤ maxLen by decide)
    have hc := encP_len l
    have hn : l.flatMap encP ≠ [] := fun h => h0 (encP_nil h)
    have hbel := encP_below H.length l
    generalize l.flatMap encP = c at *
    generalize l.length = n at *
    refine fn_det Try.E0 Try.mx Try.func68 (by kernel_rfl) rfl (Nat.le_of_ble_eq_true rfl) rfl fun hcl hbl => ?_
    (repeat' ((conv => whnf); (first | (refine IfN.id ?_; first | refine IfN.ff rfl ?_ | fail) | refine AnyVN.nil (fun h => absurd h hn) ?_ | refine OrN.l ?_ | refine SideN.mk ⟨hpos, rfl, hc, hb, hm⟩ ?_ | refine DrawN.mk' [] ?_ | fail))); all_goals (conv => whnf)
    rw [List.nil_append, Nat.zero_add]
    exact EndN.det ⟨fun _ e => (nomatch e), hbel⟩ (wk_sl _ _ _)
theorem copyS_c (s : Sch) (hl : s.lates.length ≤ 1000000) (H : Heap) : VDet Try.prog 40 [.agg s.cells] H (.agg s.cells) := by
  obtain ⟨pts, part, att, rty, hnt, cnt, lates⟩ := s
  have h := fun H => clone68_c lates hl H
  unfold Sch.cells
  simp only at *
  have hbel := encP_below H.length lates
  generalize lates.flatMap encP = c at *
  refine fn_det Try.E0 Try.mx Try.func40 (by kernel_rfl) rfl (Nat.le_of_ble_eq_true rfl) rfl fun hcl hbl => ?_
  (repeat' ((conv => whnf); (first | (refine CallN.id ?_; first | refine CallN.det _ (h _) ?_ | fail) | refine DrawN.mk' [] ?_ | fail))); all_goals (conv => whnf)
  exact EndN.det (by simpa [below, belowL] using hbel) (Wk.refl _)
def schS (b : Bk) (ex : ByteArray) (d : Int) : Sch := if validF b && isDay d && (forceF b ex d).isSome then frcF b ex d else sch0
def schE (b : Bk) (ex : ByteArray) (d : Int) : Int := if validF b && isDay d then (if (forceF b ex d).isSome then 0 else 6) else 2
theorem scheme_c (b : Bk) (hb : b.Sm) (ex : ByteArray) (d : Int) (H : Heap) : VDet Try.prog 29 [.agg b.cells, .str ex, .int .i64 d] H (.tup [.agg (schS b ex d).cells, .int .i64 (schE b ex d)]) := by
  have hva := fun H => validBk_c b hb H
  have hif := fun H => inForce_c b hb.ser hb.vers ex d H
  have hco : validF b = true → (forceF b ex d).isSome = true → ∀ H, VDet Try.prog 40 [.agg (frcF b ex d).cells] H (.agg (frcF b ex d).cells) := fun hV hF H => copyS_c _ (by
    have := (valid_facts (frc_valid (validF_iff.1 hV) hF)).2.2.2.2.2.2.1
    omega) H
  have hcb : b.cells = [.sl none b.ser.length (b.ser.flatMap Ser.cells), .sl none b.ent.length (b.ent.flatMap Ent.cells)] := rfl
  unfold schS schE
  unfold frcF at *
  cases hV : validF b <;> rw [hV] at hva hco
  · rw [hcb] at hva ⊢
    refine fn_det Try.E0 Try.mx Try.func29 (by kernel_rfl) rfl (Nat.le_of_ble_eq_true rfl) rfl fun hcl hbl => ?_
    (repeat' ((conv => whnf); (first | (refine IfN.id ?_; first | refine IfN.not ?_ | refine IfN.ff rfl ?_ | fail) | (refine CallN.id ?_; first | refine CallN.det _ (hva _) ?_ | fail) | refine DrawN.mk' [] ?_ | fail))); all_goals (conv => whnf)
    exact EndN.det (by simp [below, belowL, sch0, Sch.cells]) (by simp only [sch0, Sch.cells]; (repeat' (first | exact trivial | refine And.intro ?_ ?_ | exact Wk.refl _ | exact wk_sl _ _ _ | exact wk_sx _ _ | exact wk_nils | refine wk_agg ?_ | refine wk_tup ?_ | fail)); done)
  · cases hD : isDay d
    · rw [hcb] at hva ⊢
      refine fn_det Try.E0 Try.mx Try.func29 (by kernel_rfl) rfl (Nat.le_of_ble_eq_true rfl) rfl fun hcl hbl => ?_
      (repeat' ((conv => whnf); (first | (refine IfN.id ?_; first | refine IfN.not ?_ | refine IfN.tt rfl ?_ | refine IfN.ff (by assumption) ?_ | fail) | (refine CallN.id ?_; first | refine CallN.det _ (hva _) ?_ | refine CallN.det _ (isDay_c _ _) ?_ | fail) | refine DrawN.mk' [] ?_ | fail))); all_goals (conv => whnf)
      exact EndN.det (by simp [below, belowL, sch0, Sch.cells]) (by simp only [sch0, Sch.cells]; (repeat' (first | exact trivial | refine And.intro ?_ ?_ | exact Wk.refl _ | exact wk_sl _ _ _ | exact wk_sx _ _ | exact wk_nils | refine wk_agg ?_ | refine wk_tup ?_ | fail)); done)
    · have hco := hco rfl
      cases hF : (forceF b ex d).isSome <;> rw [hF] at hif hco
      · obtain ⟨f1, f2, f3, f4, f5, f6, f7, f8, hv3⟩ := ver_ex ((forceF b ex d).getD ver0)
        rw [hv3] at hif
        unfold Sch.cells at hif
        rw [hcb] at hva hif ⊢
        refine fn_det Try.E0 Try.mx Try.func29 (by kernel_rfl) rfl (Nat.le_of_ble_eq_true rfl) rfl fun hcl hbl => ?_
        (repeat' ((conv => whnf); (first | (refine IfN.id ?_; first | refine IfN.not ?_ | refine IfN.tt rfl ?_ | refine IfN.ff rfl ?_ | refine IfN.tt (by assumption) ?_ | fail) | (refine CallN.id ?_; first | refine CallN.det _ (hva _) ?_ | refine CallN.det _ (isDay_c _ _) ?_ | refine CallN.det _ (hif _) ?_ | fail) | refine DrawN.mk' [] ?_ | fail))); all_goals (conv => whnf)
        exact EndN.det (by simp [below, belowL, sch0, Sch.cells]) (by simp only [sch0, Sch.cells]; (repeat' (first | exact trivial | refine And.intro ?_ ?_ | exact Wk.refl _ | exact wk_sl _ _ _ | exact wk_sx _ _ | exact wk_nils | refine wk_agg ?_ | refine wk_tup ?_ | fail)); done)
      · have hco := hco rfl
        simp only [Bool.and_self, if_true]
        obtain ⟨f1, f2, f3, f4, f5, f6, f7, f8, hv3⟩ := ver_ex ((forceF b ex d).getD ver0)
        rw [hv3] at hif hco ⊢
        unfold Sch.cells at hif hco ⊢
        rw [hcb] at hva hif ⊢
        simp only at hif hco ⊢
        have hbel := encP_below H.length f8
        generalize f8.flatMap encP = fc at *
        refine fn_det Try.E0 Try.mx Try.func29 (by kernel_rfl) rfl (Nat.le_of_ble_eq_true rfl) rfl fun hcl hbl => ?_
        (repeat' ((conv => whnf); (first | (refine IfN.id ?_; first | refine IfN.not ?_ | refine IfN.tt rfl ?_ | refine IfN.tt (by assumption) ?_ | fail) | (refine CallN.id ?_; first | refine CallN.det _ (hva _) ?_ | refine CallN.det _ (isDay_c _ _) ?_ | refine CallN.det _ (hif _) ?_ | refine CallN.det _ (hco _) ?_ | fail) | refine DrawN.mk' [] ?_ | fail))); all_goals (conv => whnf)
        exact EndN.det (by simpa [below, belowL] using hbel) (Wk.refl _)
end Go.Proofs.Ytgopbbkpcjgihaa
/-! text Q38 -/
namespace Go.Proofs.Ytgopbbkpcjgihaa
open Go.Vsi
set_option maxHeartbeats 4000000
attribute [local irreducible] VW VCall VO bits
theorem mrk_below (n : Nat) (m : Mrk) : belowL n m.cells := by simp [Mrk.cells, belowL, below]
theorem mrks_below (n : Nat) (l : List Mrk) : belowL n (l.flatMap Mrk.cells) := belowL_flat _ (mrk_below n)
theorem mrk_size (m : Mrk) : m.cells.length = 5 := rfl

def eqRow (pts : Ky → Int) (a b : ByteArray) (p : Int) (k : Ky) : Bool := a.toList == k.1.toList && (b.toList == k.2.toList && (p == pts k && true))
theorem index83_c (pts : Ky → Int) (l : List Ky) (hl : l.length ≤ 4611686018427387904) (a b : ByteArray) (p : Int) (H : Heap) : VDet Try.prog 83 [.sl none l.length (l.flatMap (rowC pts)), .agg [.str a, .str b, .int .i64 p]] H (.int .i64 (findF (eqRow pts a b p) l 0)) := by
  refine fn_det Try.E0 Try.mx Try.func83 (by kernel_rfl) rfl (Nat.le_of_ble_eq_true rfl) rfl fun hcl hbl => ?_
  (repeat' ((conv => whnf); (first | refine DrawN.mk' [] ?_ | fail))); all_goals (conv => whnf)
  refine loop_R Try.E0 Try.mx (σ := Nat) (fun k => k ≤ l.length ∧ findF (eqRow pts a b p) l 0 = findF (eqRow pts a b p) (l.drop k) k) (fun k => l.length - k) (fun k => [(8, .v (.int .i64 k))]) (fun _ => _) _ 0 rfl hcl [0, 3, 6, 7] rfl ⟨Nat.zero_le _, rfl⟩ ⟨⟨_, rfl, Wk.refl _⟩, trivial⟩ rfl (fun _ _ => rfl) ?_
  rintro k ⟨hk, hinv⟩
  rcases Nat.lt_or_ge k l.length with hlt | hge
  · have hd : l.drop k = l.getD k (.empty, .empty) :: l.drop (k + 1) := by
      rw [List.drop_eq_getElem_cons hlt]
      simp [hlt]
    rw [hd] at hinv
    have hf : findF (eqRow pts a b p) (l.getD k (.empty, .empty) :: l.drop (k + 1)) k = if eqRow pts a b p (l.getD k (.empty, .empty)) then (k : Int) else findF (eqRow pts a b p) (l.drop (k + 1)) (k + 1) := rfl
    rw [hf] at hinv
    have e1 : rowC pts (l.getD k (.empty, .empty)) = [.str (l.getD k (.empty, .empty)).1, .str (l.getD k (.empty, .empty)).2, .int .i64 (pts (l.getD k (.empty, .empty)))] := rfl
    have e2 : eqV Try.kn Try.T 20 83 (.agg [.str a, .str b, .int .i64 p]) (.agg [.str (l.getD k (.empty, .empty)).1, .str (l.getD k (.empty, .empty)).2, .int .i64 (pts (l.getD k (.empty, .empty)))]) = some (eqRow pts a b p (l.getD k (.empty, .empty))) := rfl
    cases hq : eqRow pts a b p (l.getD k (.empty, .empty)) <;> rw [hq] at hinv e2
    · have hq2 : (a.toList == (l.getD k (.empty, .empty)).1.toList && (b.toList == (l.getD k (.empty, .empty)).2.toList && (p == pts (l.getD k (.empty, .empty)) && true))) = false := hq
      (repeat' ((conv => whnf); (first | (refine IfN.id ?_; first | refine IfN.dT (by omega) ?_ | refine IfN.ff (by assumption) ?_ | fail) | (refine EqN.id ?_; first | (refine EqN.addN _ _ (by first | with_reducible rfl | with_reducible exact cst1 | with_reducible exact cst0 | with_reducible exact cst2 | with_reducible exact cst3 | with_reducible exact cst4 | with_reducible exact cst5 | with_reducible exact cst6 | with_reducible exact cst7 | with_reducible exact cst8 | with_reducible exact cst14 | with_reducible exact cst15 | with_reducible exact cst25 | with_reducible exact cst30 | with_reducible exact cst31 | fail) (by first | with_reducible rfl | with_reducible exact cst1 | with_reducible exact cst0 | with_reducible exact cst2 | with_reducible exact cst3 | with_reducible exact cst4 | with_reducible exact cst5 | with_reducible exact cst6 | with_reducible exact cst7 | with_reducible exact cst8 | with_reducible exact cst14 | with_reducible exact cst15 | with_reducible exact cst25 | with_reducible exact cst30 | with_reducible exact cst31 | fail) ?_ ?_; · (repeat' (first | omega | refine And.intro ?_ ?_ | exact bnd_andl (by omega) | exact bnd_andr (by omega) | refine bnd_or ?_ ?_ | refine bnd_or31 ?_ ?_ | refine bnd_xor ?_ ?_ | refine bnd_xor31 ?_ ?_ | refine bnd_shr ?_ | refine bnd_shl ?_ ?_ | refine bnd_mod ?_ | refine bnd_andl ?_ | fail))) | fail) | (refine SideN.mk ?_ ?_; · first | kernel_rfl | omega | exact List.cons_ne_nil _ _ | (simp; done) | (simp; omega) | exact trivial | assumption | fail) | refine SegN.nthE (.empty, .empty) k rfl (by omega) (row_size pts) e1 ?_ | refine DrawN.mk' [] ?_ | fail))); all_goals (conv => whnf)
      (refine ⟨⟨k + 1, ⟨by omega, by rw [hinv]; rfl⟩, by omega, ?_, .inl ⟨rfl, rfl⟩, rfl, _, rfl, ?_⟩⟩; rotate_left 1; (first | exact .inl rfl | exact .inr ⟨by simp [belowRE, below, belowL, tr, sers_below, vers_below, ents_below, ent_below, ser_below, ver_below, encP_below, ksA_below, cntA_below, rows_below, mrks_below], by simp [belowH, Blk.below, belowL, below, sers_below, vers_below, ents_below, ent_below, ser_below, ver_below, encP_below, ksA_below, cntA_below, rows_below, mrks_below]⟩ | fail); (repeat' (first | exact trivial | refine ⟨⟨_, rfl, ?_⟩, ?_⟩ | fail)); all_goals try (first | exact Wk.refl _ | exact Wk.of_eq (congrArg (AV.int _) (by omega)) | fail))
    · have hq2 : (a.toList == (l.getD k (.empty, .empty)).1.toList && (b.toList == (l.getD k (.empty, .empty)).2.toList && (p == pts (l.getD k (.empty, .empty)) && true))) = true := hq
      (repeat' ((conv => whnf); (first | (refine IfN.id ?_; first | refine IfN.dT (by omega) ?_ | refine IfN.tt (by assumption) ?_ | fail) | (refine SideN.mk ?_ ?_; · first | kernel_rfl | omega | exact List.cons_ne_nil _ _ | (simp; done) | (simp; omega) | exact trivial | assumption | fail) | refine SegN.nthE (.empty, .empty) k rfl (by omega) (row_size pts) e1 ?_ | refine DrawN.mk' [] ?_ | fail))); all_goals (conv => whnf)
      refine EndN.det trivial (Wk.of_eq (congrArg (AV.int _) ?_))
      rw [hinv]
      rfl
  · (repeat' ((conv => whnf); (first | (refine IfN.id ?_; first | refine IfN.dF (by omega) ?_ | fail) | refine DrawN.mk' [] ?_ | fail))); all_goals (conv => whnf)
    refine EndN.det trivial (Wk.of_eq (congrArg (AV.int _) ?_))
    rw [hinv, List.drop_of_length_le (by omega), findF]
theorem contains63_c (pts : Ky → Int) (l : List Ky) (hl : l.length ≤ 4611686018427387904) (a b : ByteArray) (p : Int) (H : Heap) : VDet Try.prog 63 [.sl none l.length (l.flatMap (rowC pts)), .agg [.str a, .str b, .int .i64 p]] H (.bool (l.any (eqRow pts a b p))) := by
  refine fn_det Try.E0 Try.mx Try.func63 (by kernel_rfl) rfl (Nat.le_of_ble_eq_true rfl) rfl fun hcl hbl => ?_
  (repeat' ((conv => whnf); (first | (refine CallN.id ?_; first | refine CallN.det _ (index83_c pts l hl a b p _) ?_ | fail) | refine DrawN.mk' [] ?_ | fail))); all_goals (conv => whnf)
  refine EndN.det trivial (Wk.of_eq (congrArg AV.bool ?_))
  rw [← findF_nonneg (eqRow pts a b p) l 0 (by omega)]
def chgK (b : Bk) (d1 d2 : Int) : List Ky := (repK b d2).filter fun k => !(repK b d1).any (eqRow (ptsF b d1) k.1 k.2 (ptsF b d2 k))
def chgE (b : Bk) (d1 d2 : Int) : Int := if isDay d1 && isDay d2 then repE b d1 else 2
theorem repK_len {b : Bk} (d : Int) : (repK b d).length ≤ 2000 := by
  unfold repK
  by_cases hV : validF b = true
  · by_cases hD : isDay d = true
    · rw [hV, hD]
      simp only [Bool.and_self, if_true]
      rw [sortY_len]
      have h1 := keysF_len (selF b.ent d)
      have h2 : (selF b.ent d).length ≤ b.ent.length := List.length_filter_le _ _
      have := (validF_iff.1 hV).ne
      omega
    · simp [hD]
  · simp [hV]
def chgP (b : Bk) (d1 d2 : Int) (k : Ky) : Bool := !(repK b d1).any (eqRow (ptsF b d1) k.1 k.2 (ptsF b d2 k))
theorem changes_c (b : Bk) (hb : b.Sm) (d1 d2 : Int) (H : Heap) : VDet Try.prog 32 [.agg b.cells, .int .i64 d1, .int .i64 d2] H (.tup [.sl none (if chgE b d1 d2 = 0 then chgK b d1 d2 else []).length ((if chgE b d1 d2 = 0 then chgK b d1 d2 else []).flatMap (rowC (ptsF b d2))), .int .i64 (chgE b d1 d2)]) := by
  have hr1 := fun H => report_c b hb d1 H
  have hr2 := fun H => report_c b hb d2 H
  have hct := fun k H => contains63_c (ptsF b d1) (repK b d1) (by have := repK_len (b := b) d1; omega) k.1 k.2 (ptsF b d2 k) H
  have hl2 := repK_len (b := b) d2
  have hcb : b.cells = [.sl none b.ser.length (b.ser.flatMap Ser.cells), .sl none b.ent.length (b.ent.flatMap Ent.cells)] := rfl
  rw [hcb] at hr1 hr2 ⊢
  unfold chgE
  cases hD1 : isDay d1
  · refine fn_det Try.E0 Try.mx Try.func32 (by kernel_rfl) rfl (Nat.le_of_ble_eq_true rfl) rfl fun hcl hbl => ?_
    (repeat' ((conv => whnf); (first | (refine IfN.id ?_; first | refine IfN.not ?_ | refine IfN.ff (by assumption) ?_ | fail) | (refine CallN.id ?_; first | refine CallN.det _ (isDay_c _ _) ?_ | fail) | refine DrawN.mk' [] ?_ | fail))); all_goals (conv => whnf)
    exact EndN.det (by simp [below, belowL]) (by (repeat' (first | exact trivial | refine And.intro ?_ ?_ | exact Wk.refl _ | exact wk_sl _ _ _ | exact wk_sx _ _ | exact wk_nils | refine wk_agg ?_ | refine wk_tup ?_ | fail)); done)
  · cases hD2 : isDay d2
    · refine fn_det Try.E0 Try.mx Try.func32 (by kernel_rfl) rfl (Nat.le_of_ble_eq_true rfl) rfl fun hcl hbl => ?_
      (repeat' ((conv => whnf); (first | (refine IfN.id ?_; first | refine IfN.not ?_ | refine IfN.tt (by assumption) ?_ | refine IfN.ff (by assumption) ?_ | fail) | (refine CallN.id ?_; first | refine CallN.det _ (isDay_c _ _) ?_ | fail) | refine DrawN.mk' [] ?_ | fail))); all_goals (conv => whnf)
      exact EndN.det (by simp [below, belowL]) (by (repeat' (first | exact trivial | refine And.intro ?_ ?_ | exact Wk.refl _ | exact wk_sl _ _ _ | exact wk_sx _ _ | exact wk_nils | refine wk_agg ?_ | refine wk_tup ?_ | fail)); done)
    · simp only [Bool.and_self, if_true]
      by_cases hE : repE b d1 = 0
      · have hE2 : repE b d2 = 0 := by
          unfold repE at hE ⊢
          rw [hD1] at hE
          rw [hD2]
          exact hE
        rw [hE] at hr1 ⊢
        rw [hE2] at hr2
        simp only [if_true]
        have hkk : chgK b d1 d2 = (repK b d2).filter (chgP b d1 d2) := rfl
        rw [hkk]
        have hct : ∀ k H, VDet Try.prog 63 [.sl none (repK b d1).length ((repK b d1).flatMap (rowC (ptsF b d1))), .agg [.str k.1, .str k.2, .int .i64 (ptsF b d2 k)]] H (.bool (!chgP b d1 d2 k)) := fun k H => by
          have := hct k H
          unfold chgP
          rwa [Bool.not_not]
        generalize chgP b d1 d2 = cp at *
        generalize repK b d2 = l at *
        generalize (repK b d1).flatMap (rowC (ptsF b d1)) = c1 at *
        generalize (repK b d1).length = n1 at *
        generalize ptsF b d2 = pts at *
        refine fn_det Try.E0 Try.mx Try.func32 (by kernel_rfl) rfl (Nat.le_of_ble_eq_true rfl) rfl fun hcl hbl => ?_
        (repeat' ((conv => whnf); (first | (refine IfN.id ?_; first | refine IfN.not ?_ | refine IfN.tt rfl ?_ | refine IfN.tt (by assumption) ?_ | fail) | (refine CallN.id ?_; first | refine CallN.det _ (isDay_c _ _) ?_ | refine CallN.det _ (hr1 _) ?_ | refine CallN.det _ (hr2 _) ?_ | fail) | refine DrawN.mk' [] ?_ | fail))); all_goals (conv => whnf)
        refine LoopN.tok 11 83 3 rfl rfl rfl ?_
        refine loop_R Try.E0 Try.mx (σ := Nat) (fun k => k ≤ l.length) (fun k => l.length - k) (fun k => [(11, .v (.sl (some (H.length + 1)) ((l.take k).filter cp).length (((l.take k).filter cp).flatMap (rowC pts)))), (42, .v (.int .i64 k))]) (fun k => [.box 25 [.sl none b.ser.length (b.ser.flatMap Ser.cells), .sl none b.ent.length (b.ent.flatMap Ent.cells)], .tok 83 3 (((l.take k).filter cp).flatMap (rowC pts)).length]) _ 0 rfl hcl [8, 40, 41] rfl (Nat.zero_le _) ⟨⟨_, rfl, Wk.refl _⟩, ⟨_, rfl, Wk.refl _⟩, trivial⟩ rfl (fun _ _ => rfl) ?_
        intro k hk
        rcases Nat.lt_or_ge k l.length with hlt | hge
        · have hts := take_snoc l (.empty, .empty) k hlt
          have e1 : rowC pts (l.getD k (.empty, .empty)) = [.str (l.getD k (.empty, .empty)).1, .str (l.getD k (.empty, .empty)).2, .int .i64 (pts (l.getD k (.empty, .empty)))] := rfl
          have hct := hct (l.getD k (.empty, .empty))
          have hfl : ((l.take k).filter cp).length ≤ k := Nat.le_trans (List.length_filter_le _ _) (by rw [List.length_take]; omega)
          have hfs : (l.take (k + 1)).filter cp = if cp (l.getD k (.empty, .empty)) then (l.take k).filter cp ++ [l.getD k (.empty, .empty)] else (l.take k).filter cp := by
            rw [hts, List.filter_append]
            by_cases h : cp (l.getD k (.empty, .empty)) = true
            · rw [if_pos h]
              simp only [List.filter_cons, h, if_true, List.filter_nil]
            · rw [if_neg h]
              simp only [List.filter_cons, h, List.filter_nil, List.append_nil]
              simp
          cases hq : cp (l.getD k (.empty, .empty)) <;> rw [hq] at hct hfs
          · simp only [Bool.false_eq_true, if_false] at hfs
            (repeat' ((conv => whnf); (first | (refine IfN.id ?_; first | refine IfN.not ?_ | refine IfN.ff rfl ?_ | refine IfN.dT (by omega) ?_ | fail) | (refine EqN.id ?_; first | (refine EqN.addN _ _ (by first | with_reducible rfl | with_reducible exact cst1 | with_reducible exact cst0 | with_reducible exact cst2 | with_reducible exact cst3 | with_reducible exact cst4 | with_reducible exact cst5 | with_reducible exact cst6 | with_reducible exact cst7 | with_reducible exact cst8 | with_reducible exact cst14 | with_reducible exact cst15 | with_reducible exact cst25 | with_reducible exact cst30 | with_reducible exact cst31 | fail) (by first | with_reducible rfl | with_reducible exact cst1 | with_reducible exact cst0 | with_reducible exact cst2 | with_reducible exact cst3 | with_reducible exact cst4 | with_reducible exact cst5 | with_reducible exact cst6 | with_reducible exact cst7 | with_reducible exact cst8 | with_reducible exact cst14 | with_reducible exact cst15 | with_reducible exact cst25 | with_reducible exact cst30 | with_reducible exact cst31 | fail) ?_ ?_; · (repeat' (first | omega | refine And.intro ?_ ?_ | exact bnd_andl (by omega) | exact bnd_andr (by omega) | refine bnd_or ?_ ?_ | refine bnd_or31 ?_ ?_ | refine bnd_xor ?_ ?_ | refine bnd_xor31 ?_ ?_ | refine bnd_shr ?_ | refine bnd_shl ?_ ?_ | refine bnd_mod ?_ | refine bnd_andl ?_ | fail))) | fail) | (refine SideN.mk ?_ ?_; · first | kernel_rfl | omega | exact List.cons_ne_nil _ _ | (simp; done) | (simp; omega) | exact trivial | assumption | fail) | (refine CallN.id ?_; first | refine CallN.det _ (hct _) ?_ | fail) | refine SegN.nthE (.empty, .empty) k rfl (by omega) (row_size pts) e1 ?_ | refine DrawN.mk' [] ?_ | fail))); all_goals (conv => whnf)
            all_goals rw [← hfs]
            all_goals (refine ⟨⟨k + 1, by omega, by omega, ?_, .inl ⟨rfl, rfl⟩, rfl, _, rfl, ?_⟩⟩; rotate_left 1; (first | exact .inl rfl | exact .inr ⟨by simp [belowRE, below, belowL, tr, sers_below, vers_below, ents_below, ent_below, ser_below, ver_below, encP_below, ksA_below, cntA_below, rows_below, mrks_below], by simp [belowH, Blk.below, belowL, below, sers_below, vers_below, ents_below, ent_below, ser_below, ver_below, encP_below, ksA_below, cntA_below, rows_below, mrks_below]⟩ | fail); (repeat' (first | exact trivial | refine ⟨⟨_, rfl, ?_⟩, ?_⟩ | fail)); all_goals try (first | exact Wk.refl _ | exact Wk.of_eq (congrArg (AV.int _) (by omega)) | fail))
          · simp only [if_true] at hfs
            have hns : ((l.take (k + 1)).filter cp).flatMap (rowC pts) = ((l.take k).filter cp).flatMap (rowC pts) ++ [.str (l.getD k (.empty, .empty)).1, .str (l.getD k (.empty, .empty)).2, .int .i64 (pts (l.getD k (.empty, .empty)))] := by
              rw [hfs, List.flatMap_append]
              simp [rowC]
            have hnl : ((l.take (k + 1)).filter cp).length = ((l.take k).filter cp).length + 1 := by
              rw [hfs]
              simp
            have hbt : (((l.take k).filter cp).length + 1) * 40 ≤ 140737488355328 := by omega
            have hmx : ((l.take k).filter cp).length + 1 ≤ maxLen := Nat.le_trans (show ((l.take k).filter cp).length + 1 ≤ 1000001 by omega) (by decide)
            (repeat' ((conv => whnf); (first | (refine IfN.id ?_; first | refine IfN.not ?_ | refine IfN.tt rfl ?_ | refine IfN.dT (by omega) ?_ | fail) | (refine EqN.id ?_; first | (refine EqN.addN _ _ (by first | with_reducible rfl | with_reducible exact cst1 | with_reducible exact cst0 | with_reducible exact cst2 | with_reducible exact cst3 | with_reducible exact cst4 | with_reducible exact cst5 | with_reducible exact cst6 | with_reducible exact cst7 | with_reducible exact cst8 | with_reducible exact cst14 | with_reducible exact cst15 | with_reducible exact cst25 | with_reducible exact cst30 | with_reducible exact cst31 | fail) (by first | with_reducible rfl | with_reducible exact cst1 | with_reducible exact cst0 | with_reducible exact cst2 | with_reducible exact cst3 | with_reducible exact cst4 | with_reducible exact cst5 | with_reducible exact cst6 | with_reducible exact cst7 | with_reducible exact cst8 | with_reducible exact cst14 | with_reducible exact cst15 | with_reducible exact cst25 | with_reducible exact cst30 | with_reducible exact cst31 | fail) ?_ ?_; · (repeat' (first | omega | refine And.intro ?_ ?_ | exact bnd_andl (by omega) | exact bnd_andr (by omega) | refine bnd_or ?_ ?_ | refine bnd_or31 ?_ ?_ | refine bnd_xor ?_ ?_ | refine bnd_xor31 ?_ ?_ | refine bnd_shr ?_ | refine bnd_shl ?_ ?_ | refine bnd_mod ?_ | refine bnd_andl ?_ | fail))) | fail) | (refine SideN.mk ?_ ?_; · first | kernel_rfl | omega | exact List.cons_ne_nil _ _ | (simp; done) | (simp; omega) | exact trivial | assumption | fail) | (refine CallN.id ?_; first | refine CallN.det _ (hct _) ?_ | fail) | refine SegN.nthE (.empty, .empty) k rfl (by omega) (row_size pts) e1 ?_ | refine SideN.mk ⟨rfl, rfl, rfl, hbt, hmx⟩ ?_ | (refine PtrN.id ?_; first | refine PtrN.loc _ rfl ?_ | fail) | refine DrawN.mk' [] ?_ | fail))); all_goals (conv => whnf)
            rw [← hns, ← hnl]
            (refine ⟨⟨k + 1, by omega, by omega, ?_, .inl ⟨rfl, rfl⟩, rfl, _, rfl, ?_⟩⟩; rotate_left 1; (first | exact .inl rfl | exact .inr ⟨by simp [belowRE, below, belowL, tr, sers_below, vers_below, ents_below, ent_below, ser_below, ver_below, encP_below, ksA_below, cntA_below, rows_below, mrks_below], by simp [belowH, Blk.below, belowL, below, sers_below, vers_below, ents_below, ent_below, ser_below, ver_below, encP_below, ksA_below, cntA_below, rows_below, mrks_below]⟩ | fail); (repeat' (first | exact trivial | refine ⟨⟨_, rfl, ?_⟩, ?_⟩ | fail)); all_goals try (first | exact Wk.refl _ | exact Wk.of_eq (congrArg (AV.int _) (by omega)) | fail))
        · have : k = l.length := by omega
          subst this
          rw [List.take_length]
          (repeat' ((conv => whnf); (first | (refine IfN.id ?_; first | refine IfN.dF (by omega) ?_ | fail) | refine DrawN.mk' [] ?_ | fail))); all_goals (conv => whnf)
          exact EndN.det (by simp [below, belowL, rows_below]) (by (repeat' (first | exact trivial | refine And.intro ?_ ?_ | exact Wk.refl _ | exact wk_sl _ _ _ | exact wk_sx _ _ | exact wk_nils | refine wk_agg ?_ | refine wk_tup ?_ | fail)); done)
      · have hE1 : repE b d1 = 2 := by
          unfold repE at hE ⊢
          split
          · rename_i h; rw [if_pos h] at hE; exact absurd rfl hE
          · rfl
        rw [hE1] at hr1 ⊢
        refine fn_det Try.E0 Try.mx Try.func32 (by kernel_rfl) rfl (Nat.le_of_ble_eq_true rfl) rfl fun hcl hbl => ?_
        (repeat' ((conv => whnf); (first | (refine IfN.id ?_; first | refine IfN.not ?_ | refine IfN.ff rfl ?_ | refine IfN.tt (by assumption) ?_ | fail) | (refine CallN.id ?_; first | refine CallN.det _ (isDay_c _ _) ?_ | refine CallN.det _ (hr1 _) ?_ | fail) | refine DrawN.mk' [] ?_ | fail))); all_goals (conv => whnf)
        exact EndN.det (by simp [below, belowL]) (by (repeat' (first | exact trivial | refine And.intro ?_ ?_ | exact Wk.refl _ | exact wk_sl _ _ _ | exact wk_sx _ _ | exact wk_nils | refine wk_agg ?_ | refine wk_tup ?_ | fail)); done)
end Go.Proofs.Ytgopbbkpcjgihaa
/-! text R38 -/
namespace Go.Proofs.Ytgopbbkpcjgihaa
open Go.Vsi
set_option maxHeartbeats 4000000
attribute [local irreducible] VW VCall VO bits

def mksF (b : Bk) (ex st : ByteArray) (d : Int) : List Mrk := if validF b && isDay d then (wksF b d (ex, st)).map (markF (frcF b ex d)) else []
def mksE (b : Bk) (ex st : ByteArray) (d : Int) : Int := if validF b && isDay d then (if (wksF b d (ex, st)).isEmpty then 6 else 0) else 2
theorem marks_c (b : Bk) (hb : b.Sm) (ex st : ByteArray) (d : Int) (H : Heap) : VDet Try.prog 28 [.agg b.cells, .str ex, .str st, .int .i64 d] H (.tup [.sl none (mksF b ex st d).length ((mksF b ex st d).flatMap Mrk.cells), .int .i64 (mksE b ex st d)]) := by
  have hva := fun H => validBk_c b hb H
  have hif := fun H => inForce_c b hb.ser hb.vers ex d H
  have hcb : b.cells = [.sl none b.ser.length (b.ser.flatMap Ser.cells), .sl none b.ent.length (b.ent.flatMap Ent.cells)] := rfl
  unfold mksF mksE
  cases hV : validF b <;> rw [hV] at hva
  · rw [hcb] at hva ⊢
    refine fn_det Try.E0 Try.mx Try.func28 (by kernel_rfl) rfl (Nat.le_of_ble_eq_true rfl) rfl fun hcl hbl => ?_
    (repeat' ((conv => whnf); (first | (refine IfN.id ?_; first | refine IfN.not ?_ | refine IfN.ff rfl ?_ | fail) | (refine CallN.id ?_; first | refine CallN.det _ (hva _) ?_ | fail) | refine DrawN.mk' [] ?_ | fail))); all_goals (conv => whnf)
    exact EndN.det (by simp [below, belowL]) (by (repeat' (first | exact trivial | refine And.intro ?_ ?_ | exact Wk.refl _ | exact wk_sl _ _ _ | exact wk_sx _ _ | exact wk_nils | refine wk_agg ?_ | refine wk_tup ?_ | fail)); done)
  · cases hD : isDay d
    · rw [hcb] at hva ⊢
      refine fn_det Try.E0 Try.mx Try.func28 (by kernel_rfl) rfl (Nat.le_of_ble_eq_true rfl) rfl fun hcl hbl => ?_
      (repeat' ((conv => whnf); (first | (refine IfN.id ?_; first | refine IfN.not ?_ | refine IfN.tt rfl ?_ | refine IfN.ff (by assumption) ?_ | fail) | (refine CallN.id ?_; first | refine CallN.det _ (hva _) ?_ | refine CallN.det _ (isDay_c _ _) ?_ | fail) | refine DrawN.mk' [] ?_ | fail))); all_goals (conv => whnf)
      exact EndN.det (by simp [below, belowL]) (by (repeat' (first | exact trivial | refine And.intro ?_ ?_ | exact Wk.refl _ | exact wk_sl _ _ _ | exact wk_sx _ _ | exact wk_nils | refine wk_agg ?_ | refine wk_tup ?_ | fail)); done)
    · simp only [Bool.and_self, if_true]
      have hvb := validF_iff.1 hV
      have hwo := fun H => works_c b hb (by have := hvb.ne; omega) d H
      have hsk : eqV Try.kn Try.T 20 139 (.agg [.str ex, .str st]) (.agg [.str ex, .str st]) = some true := (eqVK (ex, st) (ex, st)).trans (by simp)
      by_cases hin : (ex, st) ∈ keysF (selF b.ent d)
      · obtain ⟨j, hj, hjk, hmf⟩ := (mfindK (ex, st) (keysF (selF b.ent d))).1 hin
        have hvk : (vsA (keysF (selF b.ent d)) (wfA (selF b.ent d)))[j]? = some (.sl none (cntK (selF b.ent d) (ex, st)) (wrkC (selF b.ent d) (ex, st))) := by
          unfold vsA
          rw [List.getElem?_map, hjk]
          rfl
        have hF := key_force hvb hin
        have hfv := frc_valid hvb hF
        have hwv := wks_valid hvb d (ex, st)
        have hwl := wks_len hvb d (ex, st)
        have e1 : (wksF b d (ex, st)).length = cntK (selF b.ent d) (ex, st) := by unfold wksF cntK; rw [List.length_map]
        have e2 : wrkC (selF b.ent d) (ex, st) = (wksF b d (ex, st)).flatMap Wrk.cells := rfl
        have hpos : 0 < (wksF b d (ex, st)).length := by
          rw [e1]
          obtain ⟨e, he, hk⟩ := mem_keysF.1 hin
          unfold cntK ofK
          exact List.length_pos_iff.2 (List.ne_nil_of_mem (List.mem_filter.2 ⟨he, by rw [hk]; exact eqK_refl _⟩))
        have hne : (wksF b d (ex, st)).isEmpty = false := by
          cases hh : wksF b d (ex, st) with
          | nil => rw [hh] at hpos; cases hpos
          | cons _ _ => rfl
        rw [hne]
        simp only [Bool.false_eq_true, if_false]
        rw [e2, ← e1] at hvk
        have hgr : ∀ w ∈ wksF b d (ex, st), ∀ H, VDet Try.prog 31 [.agg (frcF b ex d).cells, .agg w.cells] H (.tup [.agg (markF (frcF b ex d) w).cells, .int .i64 0]) := fun w hw H => by
          have := grade_c (frcF b ex d) w H
          rwa [show gradeF (frcF b ex d) w = (markF (frcF b ex d) w, 0) from if_pos ⟨hfv, hwv w hw⟩] at this
        unfold ksA at hwo
        generalize wksF b d (ex, st) = l at *
        unfold frcF at *
        generalize (forceF b ex d).isSome = fs at *
        generalize hsc : ((forceF b ex d).getD ver0).sch = sc at *
        obtain ⟨f2, f3, f4, f5, f6, f7, f8⟩ := sc
        unfold Sch.cells at hif hgr
        simp only at hif hgr
        have hif2 := fun H => hif H
        rw [hcb] at hva hif hwo ⊢
        refine fn_det Try.E0 Try.mx Try.func28 (by kernel_rfl) rfl (Nat.le_of_ble_eq_true rfl) rfl fun hcl hbl => ?_
        (repeat' ((conv => whnf); (first | (refine IfN.id ?_; first | refine IfN.not ?_ | refine IfN.tt rfl ?_ | refine IfN.dF (by omega) ?_ | refine IfN.tt (by assumption) ?_ | fail) | (refine CallN.id ?_; first | refine CallN.det _ (hva _) ?_ | refine CallN.det _ (isDay_c _ _) ?_ | refine CallN.det _ (hwo _) ?_ | refine CallN.det _ (hif _) ?_ | fail) | refine RelN.mk [_] [] ⟨⟨_, hsk⟩, j, hmf, hvk⟩ ?_ | refine DrawN.mk' [] ?_ | fail))); all_goals (conv => whnf)
        refine LoopN.tok 13 97 5 rfl rfl rfl ?_
        refine loop_R Try.E0 Try.mx (σ := Nat) (fun k => k ≤ l.length) (fun k => l.length - k) (fun k => [(13, .v (.sl (some (H.length + 2)) k (((l.take k).map (markF ⟨f2, f3, f4, f5, f6, f7, f8⟩)).flatMap Mrk.cells))), (45, .v (.int .i64 k))]) (fun k => [.box 25 [.sl none b.ser.length (b.ser.flatMap Ser.cells), .sl none b.ent.length (b.ent.flatMap Ent.cells)], .box 28 [.int .i64 f2, .int .i64 f3, .sl none f8.length (f8.flatMap encP), .int .i64 f4, .int .i64 f5, .int .i64 f6, .int .u8 f7], .tok 97 5 (((l.take k).map (markF ⟨f2, f3, f4, f5, f6, f7, f8⟩)).flatMap Mrk.cells).length]) _ 0 rfl hcl [11, 43, 44] rfl (Nat.zero_le _) ⟨⟨_, rfl, Wk.refl _⟩, ⟨_, rfl, Wk.refl _⟩, trivial⟩ rfl (fun _ _ => rfl) ?_
        intro k hk
        rcases Nat.lt_or_ge k l.length with hlt | hge
        · have hts := take_snoc l wrk0 k hlt
          have hgr := hgr (l.getD k wrk0) (getD_mem wrk0 hlt)
          have hml : (((l.take k).map (markF ⟨f2, f3, f4, f5, f6, f7, f8⟩)).flatMap Mrk.cells).length = k * 5 := by
            rw [flat_length mrk_size, List.length_map, List.length_take, Nat.min_eq_left hk]
          have hns : ((l.take (k + 1)).map (markF ⟨f2, f3, f4, f5, f6, f7, f8⟩)).flatMap Mrk.cells = ((l.take k).map (markF ⟨f2, f3, f4, f5, f6, f7, f8⟩)).flatMap Mrk.cells ++ (markF ⟨f2, f3, f4, f5, f6, f7, f8⟩ (l.getD k wrk0)).cells := by
            rw [hts, List.map_append, List.flatMap_append]
            simp
          obtain ⟨w1, w2, w3, w4, hw⟩ : ∃ w1 w2 w3 w4, (l.getD k wrk0).cells = [.int .i64 w1, .int .i64 w2, .int .i64 w3, .int .i64 w4] := ⟨_, _, _, _, rfl⟩
          rw [hw] at hgr
          obtain ⟨m1, m2, m3, m4, m5, hm⟩ : ∃ m1 m2 m3 m4 m5, (markF ⟨f2, f3, f4, f5, f6, f7, f8⟩ (l.getD k wrk0)).cells = [.int .i64 m1, .int .i64 m2, .int .i64 m3, .int .i64 m4, .int .i64 m5] := ⟨_, _, _, _, _, rfl⟩
          rw [hm] at hgr hns
          have hbt : (k + 1) * 40 ≤ 140737488355328 := by omega
          have hmx : k + 1 ≤ maxLen := Nat.le_trans (show k + 1 ≤ 1000001 by omega) (by decide)
          (repeat' ((conv => whnf); (first | (refine IfN.id ?_; first | refine IfN.not ?_ | refine IfN.tt rfl ?_ | refine IfN.dT (by omega) ?_ | fail) | (refine EqN.id ?_; first | (refine EqN.addN _ _ (by first | with_reducible rfl | with_reducible exact cst1 | with_reducible exact cst0 | with_reducible exact cst2 | with_reducible exact cst3 | with_reducible exact cst4 | with_reducible exact cst5 | with_reducible exact cst6 | with_reducible exact cst7 | with_reducible exact cst8 | with_reducible exact cst14 | with_reducible exact cst15 | with_reducible exact cst25 | with_reducible exact cst30 | with_reducible exact cst31 | fail) (by first | with_reducible rfl | with_reducible exact cst1 | with_reducible exact cst0 | with_reducible exact cst2 | with_reducible exact cst3 | with_reducible exact cst4 | with_reducible exact cst5 | with_reducible exact cst6 | with_reducible exact cst7 | with_reducible exact cst8 | with_reducible exact cst14 | with_reducible exact cst15 | with_reducible exact cst25 | with_reducible exact cst30 | with_reducible exact cst31 | fail) ?_ ?_; · (repeat' (first | omega | refine And.intro ?_ ?_ | exact bnd_andl (by omega) | exact bnd_andr (by omega) | refine bnd_or ?_ ?_ | refine bnd_or31 ?_ ?_ | refine bnd_xor ?_ ?_ | refine bnd_xor31 ?_ ?_ | refine bnd_shr ?_ | refine bnd_shl ?_ ?_ | refine bnd_mod ?_ | refine bnd_andl ?_ | fail))) | fail) | (refine SideN.mk ?_ ?_; · first | kernel_rfl | omega | exact List.cons_ne_nil _ _ | (simp; done) | (simp; omega) | exact trivial | assumption | fail) | (refine CallN.id ?_; first | refine CallN.det _ (hgr _) ?_ | fail) | refine SegN.nthE wrk0 k rfl (by omega) wrk_size hw ?_ | refine SideN.mk ⟨rfl, rfl, rfl, hbt, hmx⟩ ?_ | (refine PtrN.id ?_; first | refine PtrN.loc _ rfl ?_ | fail) | refine DrawN.mk' [] ?_ | fail))); all_goals (conv => whnf)
          rw [← hns]
          (refine ⟨⟨k + 1, by omega, by omega, ?_, .inl ⟨rfl, rfl⟩, rfl, _, rfl, ?_⟩⟩; rotate_left 1; (first | exact .inl rfl | exact .inr ⟨by simp [belowRE, below, belowL, tr, sers_below, vers_below, ents_below, ent_below, ser_below, ver_below, encP_below, ksA_below, cntA_below, rows_below, mrks_below], by simp [belowH, Blk.below, belowL, below, sers_below, vers_below, ents_below, ent_below, ser_below, ver_below, encP_below, ksA_below, cntA_below, rows_below, mrks_below]⟩ | fail); (repeat' (first | exact trivial | refine ⟨⟨_, rfl, ?_⟩, ?_⟩ | fail)); all_goals try (first | exact Wk.refl _ | exact Wk.of_eq (congrArg (AV.int _) (by omega)) | fail))
        · have : k = l.length := by omega
          subst this
          rw [List.take_length]
          (repeat' ((conv => whnf); (first | (refine IfN.id ?_; first | refine IfN.dF (by omega) ?_ | fail) | refine DrawN.mk' [] ?_ | fail))); all_goals (conv => whnf)
          exact EndN.det (by simp [below, belowL, mrks_below]) (by rw [List.length_map]; (repeat' (first | exact trivial | refine And.intro ?_ ?_ | exact Wk.refl _ | exact wk_sl _ _ _ | exact wk_sx _ _ | exact wk_nils | refine wk_agg ?_ | refine wk_tup ?_ | fail)); done)
      · have hmf := (mfindK (ex, st) (keysF (selF b.ent d))).2 hin
        have hw0 : wksF b d (ex, st) = [] := by unfold wksF; rw [ofK_nil hin]; rfl
        rw [hw0]
        simp only [List.isEmpty_nil, if_true]
        unfold ksA at hwo
        rw [hcb] at hva hif hwo ⊢
        refine fn_det Try.E0 Try.mx Try.func28 (by kernel_rfl) rfl (Nat.le_of_ble_eq_true rfl) rfl fun hcl hbl => ?_
        (repeat' ((conv => whnf); (first | (refine IfN.id ?_; first | refine IfN.not ?_ | refine IfN.tt rfl ?_ | refine IfN.tt (by assumption) ?_ | fail) | (refine CallN.id ?_; first | refine CallN.det _ (hva _) ?_ | refine CallN.det _ (isDay_c _ _) ?_ | refine CallN.det _ (hwo _) ?_ | fail) | refine RelN.mk [] [] ⟨⟨_, hsk⟩, hmf⟩ ?_ | refine DrawN.mk' [] ?_ | fail))); all_goals (conv => whnf)
        exact EndN.det (by simp [below, belowL]) (by (repeat' (first | exact trivial | refine And.intro ?_ ?_ | exact Wk.refl _ | exact wk_sl _ _ _ | exact wk_sx _ _ | exact wk_nils | refine wk_agg ?_ | refine wk_tup ?_ | fail)); done)
end Go.Proofs.Ytgopbbkpcjgihaa
/-! text S38 -/
namespace Go.Proofs.Ytgopbbkpcjgihaa
open Go.Vsi
set_option maxHeartbeats 4000000
attribute [local irreducible] VW VCall VO bits

theorem clo42_c (s : Ser) (ex : ByteArray) (H : Heap) : VDet Try.prog 42 [.agg s.cells, .str ex] H (.int .i64 (cmpS s.name ex)) := by
  obtain ⟨nm, vs⟩ := s
  unfold Ser.cells
  simp only
  refine fn_det Try.E0 Try.mx Try.func42 (by kernel_rfl) rfl (Nat.le_of_ble_eq_true rfl) rfl fun hcl hbl => ?_
  (repeat' ((conv => whnf); (first | (refine CallN.id ?_; first | refine CallN.det _ (cmpS_c _ _ _) ?_ | fail) | refine DrawN.mk' [] ?_ | fail))); all_goals (conv => whnf)
  exact EndN.det trivial (Wk.refl _)
theorem cmpS_lt {a b : ByteArray} : cmpS a b < 0 ↔ ltS a b = true := by
  unfold cmpS
  split
  · simp_all
  · split
    · simp_all
    · simp_all
theorem cmpS_zero {a b : ByteArray} : cmpS a b = 0 ↔ a = b := by
  rw [cmpS_eq]
  exact cmpB_zero
def SrtS (l : List Ser) : Prop := l.Pairwise fun s t => ltS s.name t.name = true
def posF (l : List Ser) (ex : ByteArray) : Nat := (l.takeWhile fun s => ltS s.name ex).length
theorem posF_le (l : List Ser) (ex : ByteArray) : posF l ex ≤ l.length := by
  unfold posF
  exact (List.takeWhile_prefix _).length_le
theorem posF_lt {l : List Ser} {ex : ByteArray} {i : Nat} (h : i < posF l ex) : ltS (l.getD i ser0).name ex = true := by
  unfold posF at h
  induction l generalizing i with
  | nil => simp at h
  | cons s l ih =>
    rw [List.takeWhile_cons] at h
    split at h
    · rename_i hs
      cases i with
      | zero => exact hs
      | succ i => exact ih (by simpa using h)
    · simp at h
theorem posF_ge {l : List Ser} (hs : SrtS l) {ex : ByteArray} {i : Nat} (h : posF l ex ≤ i) (hi : i < l.length) : ltS (l.getD i ser0).name ex = false := by
  unfold posF at h
  induction l generalizing i with
  | nil => simp at hi
  | cons s l ih =>
    have hs' := List.pairwise_cons.1 hs
    rw [List.takeWhile_cons] at h
    split at h
    · cases i with
      | zero => simp at h
      | succ i => exact ih hs'.2 (by simpa using h) (by simpa using hi)
    · rename_i hns
      have hns : ltS s.name ex = false := by simpa using hns
      cases i with
      | zero => exact hns
      | succ i =>
        have h1 := hs'.1 (l.getD i ser0) (getD_mem ser0 (by simpa using hi))
        cases h2 : ltS ((s :: l).getD (i + 1) ser0).name ex with
        | false => rfl
        | true =>
          have := ltS_trans h1 h2
          rw [hns] at this
          cases this
def fndF (l : List Ser) (ex : ByteArray) : Bool := decide (posF l ex < l.length) && eqS (l.getD (posF l ex) ser0).name ex
theorem bsearch_c (l : List Ser) (hl : l.length ≤ 1000000) (hs : SrtS l) (ex : ByteArray) (H : Heap) : VDet Try.prog 41 [.sl none l.length (l.flatMap Ser.cells), .str ex, .clo (.func 42) [] []] H (.tup [.int .i64 (posF l ex : Nat), .bool (fndF l ex)]) := by
  have hp := posF_le l ex
  refine fn_det Try.E0 Try.mx Try.func41 (by kernel_rfl) rfl (Nat.le_of_ble_eq_true rfl) rfl fun hcl hbl => ?_
  (repeat' ((conv => whnf); (first | refine DrawN.mk' [] ?_ | fail))); all_goals (conv => whnf)
  refine loop_R Try.E0 Try.mx (σ := Nat × Nat) (fun p => p.1 ≤ posF l ex ∧ posF l ex ≤ p.2 ∧ p.2 ≤ l.length) (fun p => p.2 - p.1) (fun p => [(9, .v (.int .i64 (p.1 : Nat))), (10, .v (.int .i64 (p.2 : Nat)))]) (fun _ => _) _ (0, l.length) rfl hcl [0, 1, 2, 8] rfl ⟨Nat.zero_le _, hp, Nat.le_refl _⟩ ⟨⟨_, rfl, Wk.refl _⟩, ⟨_, rfl, Wk.refl _⟩, trivial⟩ rfl (fun _ _ => rfl) ?_
  intro p hpv
  obtain ⟨h1, h2, h3⟩ := hpv
  rcases Nat.lt_or_ge p.1 p.2 with hij | hij
  · have hm : (p.1 + p.2) / 2 < l.length := by omega
    have hcm := fun H => clo42_c (l.getD ((p.1 + p.2) / 2) ser0) ex H
    have hq := @posF_lt l ex ((p.1 + p.2) / 2)
    have hq2 := @posF_ge l hs ex ((p.1 + p.2) / 2)
    have hlt := @cmpS_lt (l.getD ((p.1 + p.2) / 2) ser0).name ex
    obtain ⟨nm, vs, hv1⟩ := ser_ex (l.getD ((p.1 + p.2) / 2) ser0)
    have e1 := ser_cells hv1
    rw [e1] at hcm
    rw [hv1] at hcm hq hq2 hlt
    simp only at hcm hq hq2 hlt
    have hw1 : IntKind.u64.wrap ((p.1 : Int) + p.2) = ((p.1 + p.2 : Nat) : Int) := by
      rw [IntKind.wrap_u64]
      omega
    have hw3 : IntKind.i64.wrap (((p.1 + p.2 : Nat) : Int) / 2) = (((p.1 + p.2) / 2 : Nat) : Int) := by
      rw [IntKind.wrap_i64]
      omega
    (repeat' ((conv => whnf); (first | (refine IfN.id ?_; first | refine IfN.dT (by omega) ?_ | refine IfN.dec (fun _ => ?_) (fun _ => ?_) | fail) | (refine EqN.id ?_; first | refine EqN.mk _ hw1 ?_ | refine EqN.mk _ hw3 ?_ | refine EqN.shrL 1 2 rfl rfl rfl ?_ | (refine EqN.addN _ _ (by first | with_reducible rfl | with_reducible exact cst1 | with_reducible exact cst0 | with_reducible exact cst2 | with_reducible exact cst3 | with_reducible exact cst4 | with_reducible exact cst5 | with_reducible exact cst6 | with_reducible exact cst7 | with_reducible exact cst8 | with_reducible exact cst14 | with_reducible exact cst15 | with_reducible exact cst25 | with_reducible exact cst30 | with_reducible exact cst31 | fail) (by first | with_reducible rfl | with_reducible exact cst1 | with_reducible exact cst0 | with_reducible exact cst2 | with_reducible exact cst3 | with_reducible exact cst4 | with_reducible exact cst5 | with_reducible exact cst6 | with_reducible exact cst7 | with_reducible exact cst8 | with_reducible exact cst14 | with_reducible exact cst15 | with_reducible exact cst25 | with_reducible exact cst30 | with_reducible exact cst31 | fail) ?_ ?_; · (repeat' (first | omega | refine And.intro ?_ ?_ | exact bnd_andl (by omega) | exact bnd_andr (by omega) | refine bnd_or ?_ ?_ | refine bnd_or31 ?_ ?_ | refine bnd_xor ?_ ?_ | refine bnd_xor31 ?_ ?_ | refine bnd_shr ?_ | refine bnd_shl ?_ ?_ | refine bnd_mod ?_ | refine bnd_andl ?_ | fail))) | fail) | (refine SideN.mk ?_ ?_; · first | kernel_rfl | omega | exact List.cons_ne_nil _ _ | (simp; done) | (simp; omega) | exact trivial | assumption | fail) | (refine CallN.id ?_; first | refine CallN.det _ (hcm _) ?_ | fail) | refine SegN.nthE ser0 ((p.1 + p.2) / 2) (by omega) hm ser_size e1 ?_ | refine DrawN.mk' [] ?_ | fail))); all_goals (conv => whnf)
    · have h5 : (p.1 + p.2) / 2 < posF l ex := by
        rcases Nat.lt_or_ge ((p.1 + p.2) / 2) (posF l ex) with h | h
        · exact h
        · have := hq2 h hm
          have h6 := hlt.1 (by assumption)
          rw [this] at h6
          cases h6
      (refine ⟨⟨((p.1 + p.2) / 2 + 1, p.2), ⟨by simp only; omega, h2, h3⟩, by omega, ?_, .inl ⟨rfl, rfl⟩, rfl, _, rfl, ?_⟩⟩; rotate_left 1; (first | exact .inl rfl | exact .inr ⟨by simp [belowRE, below, belowL, tr, sers_below, vers_below, ents_below, ent_below, ser_below, ver_below, encP_below, ksA_below, cntA_below, rows_below], by simp [belowH, Blk.below, belowL, below, sers_below, vers_below, ents_below, ent_below, ser_below, ver_below, encP_below, ksA_below, cntA_below, rows_below]⟩ | fail); (repeat' (first | exact trivial | refine ⟨⟨_, rfl, ?_⟩, ?_⟩ | fail)); all_goals try (first | exact Wk.refl _ | exact Wk.of_eq (congrArg (AV.int _) (by omega)) | fail))
    · have h5 : posF l ex ≤ (p.1 + p.2) / 2 := by
        rcases Nat.lt_or_ge ((p.1 + p.2) / 2) (posF l ex) with h | h
        · exact absurd (hlt.2 (hq h)) (by assumption)
        · exact h
      (refine ⟨⟨(p.1, (p.1 + p.2) / 2), ⟨h1, h5, by simp only; omega⟩, by omega, ?_, .inl ⟨rfl, rfl⟩, rfl, _, rfl, ?_⟩⟩; rotate_left 1; (first | exact .inl rfl | exact .inr ⟨by simp [belowRE, below, belowL, tr, sers_below, vers_below, ents_below, ent_below, ser_below, ver_below, encP_below, ksA_below, cntA_below, rows_below], by simp [belowH, Blk.below, belowL, below, sers_below, vers_below, ents_below, ent_below, ser_below, ver_below, encP_below, ksA_below, cntA_below, rows_below]⟩ | fail); (repeat' (first | exact trivial | refine ⟨⟨_, rfl, ?_⟩, ?_⟩ | fail)); all_goals try (first | exact Wk.refl _ | exact Wk.of_eq (congrArg (AV.int _) (by omega)) | fail))
  · have hpp : p.1 = posF l ex := by omega
    unfold fndF
    rw [← hpp]
    rcases Nat.lt_or_ge p.1 l.length with hlt | hge
    · have hcm := fun H => clo42_c (l.getD p.1 ser0) ex H
      have hz := @cmpS_zero (l.getD p.1 ser0).name ex
      obtain ⟨nm, vs, hv1⟩ := ser_ex (l.getD p.1 ser0)
      have e1 := ser_cells hv1
      rw [e1] at hcm
      rw [hv1] at hcm hz ⊢
      simp only at hcm hz ⊢
      (repeat' ((conv => whnf); (first | (refine IfN.id ?_; first | refine IfN.dT (by omega) ?_ | refine IfN.dF (by omega) ?_ | fail) | (refine SideN.mk ?_ ?_; · first | kernel_rfl | omega | exact List.cons_ne_nil _ _ | (simp; done) | (simp; omega) | exact trivial | assumption | fail) | (refine CallN.id ?_; first | refine CallN.det _ (hcm _) ?_ | fail) | refine SegN.nthE ser0 p.1 rfl hlt ser_size e1 ?_ | refine DrawN.mk' [] ?_ | fail))); all_goals (conv => whnf)
      refine EndN.det (by simp [below, belowL]) (Wk.of_eq ?_)
      have hd : decide (p.1 < l.length) = true := decide_eq_true hlt
      simp only [AV.tup.injEq, List.cons.injEq, AV.bool.injEq, and_true, true_and, hd, Bool.true_and]
      rw [Bool.eq_iff_iff, beq_iff_eq, hz, eqS_iff]
    · (repeat' ((conv => whnf); (first | (refine IfN.id ?_; first | refine IfN.dF (by omega) ?_ | fail) | refine DrawN.mk' [] ?_ | fail))); all_goals (conv => whnf)
      refine EndN.det (by simp [below, belowL]) (Wk.of_eq ?_)
      have hd : decide (p.1 < l.length) = false := decide_eq_false (by omega)
      simp only [hd, Bool.false_and]
end Go.Proofs.Ytgopbbkpcjgihaa
/-! text U38 -/
namespace Go.Proofs.Ytgopbbkpcjgihaa
open Go.Vsi
set_option maxHeartbeats 4000000
attribute [local irreducible] VW VCall VO bits

theorem wk_nils_sx : Wk .nils (.sx 0 []) := fun g w c h => by
  simp only [VRel] at h ⊢
  exact ⟨none, h, .inl trivial⟩
theorem clone67_0 (H : Heap) : VDet Try.prog 67 [.sl none 0 []] H (.sx 0 []) := by
  refine fn_det Try.E0 Try.mx Try.func67 (by kernel_rfl) rfl (Nat.le_of_ble_eq_true rfl) rfl fun hcl hbl => ?_
  (repeat' ((conv => whnf); (first | (refine IfN.id ?_; first | refine IfN.tt rfl ?_ | refine IfN.ff rfl ?_ | fail) | refine OrN.r (SideN.mk rfl ?_) | refine AnyVN.nil (fun _ => ?_) ?_ | refine DrawN.mk' [] ?_ | fail))); all_goals (conv => whnf)
  all_goals exact EndN.det (by simp [below, belowL]) (by first | exact wk_nils_sx | (repeat' (first | exact trivial | refine And.intro ?_ ?_ | exact Wk.refl _ | exact wk_sl _ _ _ | exact wk_sx _ _ | exact wk_nils | refine wk_agg ?_ | refine wk_tup ?_ | fail)); done)
theorem clone67_k (l : List Ent) (hl : l.length ≤ 1000000) (h0 : l ≠ []) (H : Heap) : VCall Try.prog 67 [.sl none l.length (l.flatMap Ent.cells)] H fun r H' => r = .sl (some (H.length + 0)) l.length (l.flatMap Ent.cells) ∧ H' = H ++ [.tok 34 7 (l.length * 7)] := by
  have hpos : 0 < l.length := List.length_pos_iff.2 h0
  have hb : (0 + l.length) * 72 ≤ 140737488355328 := by omega
  have hm : 0 + l.length ≤ maxLen := Nat.le_trans (by omega) (show 1000000 ≤ maxLen by decide)
  have hc : (l.flatMap Ent.cells).length = l.length * 7 := flat_length ent_size l
  have hn : l.flatMap Ent.cells ≠ [] := fun h => by rw [h] at hc; simp at hc; omega
  have hbel := ents_below H.length l
  generalize l.flatMap Ent.cells = c at *
  generalize l.length = n at *
  refine fn_gen Try.E0 Try.mx Try.func67 (by kernel_rfl) rfl (Nat.le_of_ble_eq_true rfl) rfl fun hcl hbl => ?_
  (repeat' ((conv => whnf); (first | (refine IfN.id ?_; first | refine IfN.ff rfl ?_ | fail) | refine AnyVN.nil (fun h => absurd h hn) ?_ | refine OrN.l ?_ | refine SideN.mk ⟨hpos, rfl, hc, hb, hm⟩ ?_ | refine DrawN.mk' [] ?_ | fail))); all_goals (conv => whnf)
  rw [List.nil_append, Nat.zero_add]
  exact .keep _ (.refl _) ⟨rfl, by rw [hc]⟩
theorem clone67_c (l : List Ent) (hl : l.length ≤ 1000000) (H : Heap) : VDet Try.prog 67 [.sl none l.length (l.flatMap Ent.cells)] H (.sl none l.length (l.flatMap Ent.cells)) := by
  by_cases h0 : l = []
  · subst h0
    refine fn_det Try.E0 Try.mx Try.func67 (by kernel_rfl) rfl (Nat.le_of_ble_eq_true rfl) rfl fun hcl hbl => ?_
    (repeat' ((conv => whnf); (first | (refine IfN.id ?_; first | refine IfN.tt rfl ?_ | refine IfN.ff rfl ?_ | fail) | refine OrN.r (SideN.mk rfl ?_) | refine AnyVN.nil (fun _ => ?_) ?_ | refine DrawN.mk' [] ?_ | fail))); all_goals (conv => whnf)
    all_goals exact EndN.det (by simp [below, belowL]) (by (repeat' (first | exact trivial | refine And.intro ?_ ?_ | exact Wk.refl _ | exact wk_sl _ _ _ | exact wk_sx _ _ | exact wk_nils | refine wk_agg ?_ | refine wk_tup ?_ | fail)); done)
  · have hpos : 0 < l.length := List.length_pos_iff.2 h0
    have hb : (0 + l.length) * 72 ≤ 140737488355328 := by omega
    have hm : 0 + l.length ≤ maxLen := Nat.le_trans (by omega) (show 1000000 ≤ maxLen by decide)
    have hc : (l.flatMap Ent.cells).length = l.length * 7 := flat_length ent_size l
    have hn : l.flatMap Ent.cells ≠ [] := fun h => by rw [h] at hc; simp at hc; omega
    have hbel := ents_below H.length l
    generalize l.flatMap Ent.cells = c at *
    generalize l.length = n at *
    refine fn_det Try.E0 Try.mx Try.func67 (by kernel_rfl) rfl (Nat.le_of_ble_eq_true rfl) rfl fun hcl hbl => ?_
    (repeat' ((conv => whnf); (first | (refine IfN.id ?_; first | refine IfN.ff rfl ?_ | fail) | refine AnyVN.nil (fun h => absurd h hn) ?_ | refine OrN.l ?_ | refine SideN.mk ⟨hpos, rfl, hc, hb, hm⟩ ?_ | refine DrawN.mk' [] ?_ | fail))); all_goals (conv => whnf)
    rw [List.nil_append, Nat.zero_add]
    exact EndN.det ⟨fun _ e => (nomatch e), hbel⟩ (wk_sl _ _ _)
end Go.Proofs.Ytgopbbkpcjgihaa
/-! text V38 -/
namespace Go.Proofs.Ytgopbbkpcjgihaa
open Go.Vsi
set_option maxHeartbeats 4000000
set_option linter.unusedSimpArgs false
attribute [local irreducible] VW VCall VO bits

def chC (l : List Ser) (q t : Nat) : List AV := [.str (l.getD q ser0).name, .sl (some t) (l.getD q ser0).vers.length ((l.getD q ser0).vers.flatMap Ver.cells)]
def cpyL (l : List Ser) (q t k : Nat) : List AV := if k ≤ q then (l.take k).flatMap Ser.cells else (l.take q).flatMap Ser.cells ++ (chC l q t ++ ((l.take k).drop (q + 1)).flatMap Ser.cells)
def cpyX (l : List Ser) (q n0 k : Nat) : Heap := if k ≤ q then [] else [.box 79 (l.getD q ser0).cells, .box 79 (chC l q (n0 + 6)), .tok 30 8 ((l.getD q ser0).vers.length * 8)]
theorem cpyL_len {l : List Ser} {q t k : Nat} (hk : k ≤ l.length) : (cpyL l q t k).length = k * 2 := by
  unfold cpyL
  split
  · rw [flat_length ser_size, List.length_take, Nat.min_eq_left hk]
  · rw [List.length_append, List.length_append, flat_length ser_size, flat_length ser_size, List.length_drop, List.length_take, List.length_take]
    simp only [chC, List.length_cons, List.length_nil]
    omega
theorem cpyL_lt {l : List Ser} {q t k : Nat} (h : k < q) (hk : k < l.length) : cpyL l q t (k + 1) = cpyL l q t k ++ (l.getD k ser0).cells := by
  unfold cpyL
  rw [if_pos (by omega), if_pos (by omega), take_snoc l ser0 k hk]
  simp
theorem cpyL_eq {l : List Ser} {q t : Nat} : cpyL l q t (q + 1) = cpyL l q t q ++ chC l q t := by
  unfold cpyL
  rw [if_neg (by omega), if_pos (by omega), List.drop_eq_nil_of_le (by rw [List.length_take]; omega)]
  simp
theorem cpyL_gt {l : List Ser} {q t k : Nat} (h : q < k) (hk : k < l.length) : cpyL l q t (k + 1) = cpyL l q t k ++ (l.getD k ser0).cells := by
  unfold cpyL
  rw [if_neg (by omega), if_neg (by omega), take_snoc l ser0 k hk, List.drop_append_of_le_length (by rw [List.length_take]; omega)]
  simp
theorem cpyL_below (n : Nat) (l : List Ser) (q t k : Nat) (h : k ≤ q ∨ t < n) : belowL n (cpyL l q t k) := by
  unfold cpyL
  split
  · exact sers_below _ _
  · have ht : t < n := by omega
    refine (belowL_append _ _).2 ⟨sers_below _ _, (belowL_append _ _).2 ⟨?_, sers_below _ _⟩⟩
    refine ⟨trivial, ⟨fun u e => ?_, vers_below _ _⟩, trivial⟩
    cases e
    exact ht
def cpyK (b : Bk) (q n0 k : Nat) (r : List AV) : Heap := [.box 25 b.cells, .box 25 r, .box 25 [.vs (n0 + 3) k, .sl none b.ent.length (b.ent.flatMap Ent.cells)], .vec 79 2 (cpyL b.ser q (n0 + 6) k)] ++ cpyX b.ser q n0 k
theorem cpyK_below (b : Bk) (q n0 k : Nat) : belowH (n0 + (cpyK b q n0 k [.nils, .nils]).length) (cpyK b q n0 k [.nils, .nils]) := by
  have hl : (cpyK b q n0 k [.nils, .nils]).length = 4 + (cpyX b.ser q n0 k).length := by simp [cpyK]; omega
  rw [hl]
  have ht : k ≤ q ∨ n0 + 6 < n0 + (4 + (cpyX b.ser q n0 k).length) := by
    by_cases h : k ≤ q
    · exact .inl h
    · refine .inr ?_
      unfold cpyX
      rw [if_neg h]
      simp
  refine ⟨?_, ?_, ?_, cpyL_below _ _ _ _ _ ht, ?_⟩
  · simp [Blk.below, belowL, below, Bk.cells, sers_below, ents_below]
  · simp [Blk.below, belowL, below]
  · simp [Blk.below, belowL, below, ents_below]
    omega
  · unfold cpyX at ht ⊢
    by_cases h : k ≤ q
    · rw [if_pos h]; trivial
    · rw [if_neg h] at ht ⊢
      refine ⟨ser_below _ _, ⟨trivial, ⟨fun u e => ?_, vers_below _ _⟩, trivial⟩, trivial, trivial⟩
      cases e
      exact ht.resolve_left h
theorem cpyK_set (H : Heap) (b : Bk) (q k : Nat) (r : List AV) (V B : Blk) : ((H ++ cpyK b q H.length k r).set (H.length + 3) V).set (H.length + (0 + 1 + 1)) B = H ++ ([.box 25 b.cells, .box 25 r, B, V] ++ cpyX b.ser q H.length k) := by
  unfold cpyK
  rw [set_loc', set_loc']
  rfl
theorem copyBook_c (b : Bk) (hb : b.Sm) (hs : b.ser.length ≤ 1000) (he : b.ent.length ≤ 1000000) (hv : ∀ s ∈ b.ser, s.vers.length ≤ 1000000 ∧ ∀ v ∈ s.vers, v.sch.lates.length ≤ 1000000) (q : Nat) (H : Heap) : VCall Try.prog 39 [.agg b.cells] H fun r H' => r = .agg [.vs (H.length + 3) b.ser.length, .sl none b.ent.length (b.ent.flatMap Ent.cells)] ∧ H' = H ++ cpyK b q H.length b.ser.length [.vs (H.length + 3) b.ser.length, .sl none b.ent.length (b.ent.flatMap Ent.cells)] := by
  have hcl67 := fun H => clone67_c b.ent he H
  have hcb : b.cells = [.sl none b.ser.length (b.ser.flatMap Ser.cells), .sl none b.ent.length (b.ent.flatMap Ent.cells)] := rfl
  have hL0 : ([.box 25 [.sl none b.ser.length (b.ser.flatMap Ser.cells), .sl none b.ent.length (b.ent.flatMap Ent.cells)], .box 25 [.nils, .nils], .box 25 [.vs (H.length + 3) 0, .sl none b.ent.length (b.ent.flatMap Ent.cells)], .vec 79 2 []] : Heap) = cpyK b q H.length 0 [.nils, .nils] := rfl
  refine fn_gen Try.E0 Try.mx Try.func39 (by kernel_rfl) rfl (Nat.le_of_ble_eq_true rfl) rfl fun hcl hbl => ?_
  rw [hcb]
  (repeat' ((conv => whnf); (first | (refine CallN.id ?_; first | refine CallN.det _ (hcl67 _) ?_ | fail) | refine DrawN.mk' [] ?_ | fail))); all_goals (conv => whnf)
  refine LoopN.vecB 2 0 79 2 rfl rfl rfl rfl rfl rfl ?_
  refine loop_X Try.E0 Try.mx (σ := Nat) (fun k => k ≤ b.ser.length) (fun k => b.ser.length - k) (fun k => [(16, .v (.int .i64 k))]) (fun k => cpyK b q H.length k [.nils, .nils]) _ 0 rfl hcl [2, 3, 14, 15] rfl (Nat.zero_le _) ⟨⟨_, rfl, Wk.refl _⟩, trivial⟩ hL0 (fun s _ => by simp [cpyK, cpyX]) ?_
  intro k hk
  rcases Nat.lt_or_ge k b.ser.length with hlt | hge
  · obtain ⟨nm, vs, hv1⟩ := ser_ex (b.ser.getD k ser0)
    have e1 := ser_cells hv1
    have hvb := hv _ (getD_mem ser0 hlt)
    rw [hv1] at hvb
    simp only at hvb
    obtain ⟨hvl, hlat⟩ := hvb
    have hn1 : (cpyK b q H.length k [.nils, .nils]).length = (cpyK b q H.length k [.nils, .nils]).length := rfl
    generalize hNL : (cpyK b q H.length k [.nils, .nils]).length = NL at hn1
    have hm3 : (H ++ cpyK b q H.length k [.nils, .nils])[H.length + 3]? = some (.vec 79 2 (cpyL b.ser q (H.length + 6) k)) := at_loc0 rfl
    have hm2 : (H ++ cpyK b q H.length k [.nils, .nils])[H.length + 2]? = some (.box 25 [.vs (H.length + 3) k, .sl none b.ent.length (b.ent.flatMap Ent.cells)]) := at_loc0 rfl
    have hm2b : ∀ M, ((H ++ cpyK b q H.length k [.nils, .nils]).set (H.length + 3) M)[H.length + 2]? = some (.box 25 [.vs (H.length + 3) k, .sl none b.ent.length (b.ent.flatMap Ent.cells)]) := fun M => by
      rw [List.getElem?_set_ne (by omega), hm2]
    have hbt : (k + 1) * 40 ≤ 140737488355328 := by omega
    have hmx : k + 1 ≤ maxLen := Nat.le_trans (show k + 1 ≤ 1000001 by omega) (by decide)
    (repeat' ((conv => whnf); (first | (refine IfN.id ?_; first | refine IfN.dT (by omega) ?_ | fail) | (refine SideN.mk ?_ ?_; · first | kernel_rfl | omega | exact List.cons_ne_nil _ _ | (simp; done) | (simp; omega) | exact trivial | assumption | fail) | refine SegN.nthE ser0 k rfl (by omega) ser_size e1 ?_ | refine DrawN.mk' [] ?_ | fail))); all_goals (conv => whnf)
    refine LoopN.tokB 1 1 30 8 (by rw [List.length_append, hNL]) rfl rfl rfl rfl rfl ?_
    have hw0 : Wk (.sl (some (H.length + NL + 2)) 0 []) (.sl (some (H.length + NL + 2)) 0 []) := .refl _
    refine loop_R Try.E0 Try.mx (σ := Nat) (fun i => i ≤ vs.length) (fun i => vs.length - i) (fun i => [(26, .v (.int .i64 i))]) (fun i => [.box 79 [.str nm, .sl none vs.length (vs.flatMap Ver.cells)], .box 79 [.str nm, .sl (some (H.length + NL + 2)) i ((vs.take i).flatMap Ver.cells)], .tok 30 8 ((vs.take i).flatMap Ver.cells).length]) _ 0 (by rw [List.length_append, hNL]) (closed_loc hcl fun B hB => by
      rw [List.length_append]
      exact mem_belowH (cpyK_below b q H.length k) B hB) [2, 3, 5, 6, 14, 15, 16, 24, 25] rfl (Nat.zero_le _) ⟨⟨_, rfl, Wk.refl _⟩, trivial⟩ rfl (fun _ _ => rfl) ?_
    intro i hi
    rcases Nat.lt_or_ge i vs.length with hil | hige
    · have hvt := take_snoc vs ver0 i hil
      obtain ⟨at_, pts, part, att, rty, hnt, cnt, lates, hv2⟩ := ver_ex (vs.getD i ver0)
      have e2 := ver_cells hv2
      have hns : (vs.take (i + 1)).flatMap Ver.cells = (vs.take i).flatMap Ver.cells ++ (vs.getD i ver0).cells := by
        rw [hvt, List.flatMap_append]
        simp
      rw [e2] at hns
      have hco := fun H => copyS_c ⟨pts, part, att, rty, hnt, cnt, lates⟩ (by
        have := hlat _ (getD_mem ver0 hil)
        rw [hv2] at this
        exact this) H
      unfold Sch.cells at hco
      simp only at hco
      have hbt : (i + 1) * 80 ≤ 140737488355328 := by omega
      have hmx : i + 1 ≤ maxLen := Nat.le_trans (show i + 1 ≤ 1000001 by omega) (by decide)
      have hml : ((vs.take i).flatMap Ver.cells).length = i * 8 := by rw [flat_length ver_size, List.length_take, Nat.min_eq_left hi]
      (repeat' ((conv => whnf); (first | (refine IfN.id ?_; first | refine IfN.dT (by omega) ?_ | fail) | (refine EqN.id ?_; first | (refine EqN.addN _ _ (by first | with_reducible rfl | with_reducible exact cst1 | with_reducible exact cst0 | with_reducible exact cst2 | with_reducible exact cst3 | with_reducible exact cst4 | with_reducible exact cst5 | with_reducible exact cst6 | with_reducible exact cst7 | with_reducible exact cst8 | with_reducible exact cst14 | with_reducible exact cst15 | with_reducible exact cst25 | with_reducible exact cst30 | with_reducible exact cst31 | fail) (by first | with_reducible rfl | with_reducible exact cst1 | with_reducible exact cst0 | with_reducible exact cst2 | with_reducible exact cst3 | with_reducible exact cst4 | with_reducible exact cst5 | with_reducible exact cst6 | with_reducible exact cst7 | with_reducible exact cst8 | with_reducible exact cst14 | with_reducible exact cst15 | with_reducible exact cst25 | with_reducible exact cst30 | with_reducible exact cst31 | fail) ?_ ?_; · (repeat' (first | omega | refine And.intro ?_ ?_ | exact bnd_andl (by omega) | exact bnd_andr (by omega) | refine bnd_or ?_ ?_ | refine bnd_or31 ?_ ?_ | refine bnd_xor ?_ ?_ | refine bnd_xor31 ?_ ?_ | refine bnd_shr ?_ | refine bnd_shl ?_ ?_ | refine bnd_mod ?_ | refine bnd_andl ?_ | fail))) | fail) | (refine SideN.mk ?_ ?_; · first | kernel_rfl | omega | exact List.cons_ne_nil _ _ | (simp; done) | (simp; omega) | exact trivial | assumption | fail) | (refine CallD.id ?_; first | refine CallD.det _ (fun _ hq X => hco _) ?_ | fail) | refine SegN.nthE ver0 i rfl (by omega) ver_size e2 ?_ | refine SideN.mk ⟨rfl, rfl, rfl, hbt, hmx⟩ ?_ | (refine PtrN.id ?_; first | refine PtrN.loc _ rfl ?_ | fail) | refine DrawN.mk' [] ?_ | fail))); all_goals (conv => whnf)
      rw [← hns]
      (refine ⟨⟨i + 1, by show i + 1 ≤ _; omega, by omega, ?_, .inl ⟨rfl, rfl⟩, rfl, _, rfl, ?_⟩⟩; rotate_left 1; (first | exact .inl rfl | exact .inr ⟨by simp [belowRE, below, belowL, tr, sers_below, vers_below, ents_below, ent_below, ser_below, ver_below, encP_below, ksA_below, cntA_below, rows_below], by simp [belowH, Blk.below, belowL, below, sers_below, vers_below, ents_below, ent_below, ser_below, ver_below, encP_below, ksA_below, cntA_below, rows_below]⟩ | fail); (repeat' (first | exact trivial | refine ⟨⟨_, rfl, ?_⟩, ?_⟩ | fail)); all_goals try (first | exact Wk.refl _ | exact Wk.of_eq (congrArg (AV.int _) (by omega)) | fail))
    · have hie : i = vs.length := by omega
      subst hie
      rw [List.take_length]
      have hvk : ((k : Int) + ((1 : Nat) : Int)) = ((k + 1 : Nat) : Int) := rfl
      (repeat' ((conv => whnf); (first | (refine IfN.id ?_; first | refine IfN.dF (by omega) ?_ | fail) | (refine EqN.id ?_; first | (refine EqN.addN _ _ (by first | with_reducible rfl | with_reducible exact cst1 | with_reducible exact cst0 | with_reducible exact cst2 | with_reducible exact cst3 | with_reducible exact cst4 | with_reducible exact cst5 | with_reducible exact cst6 | with_reducible exact cst7 | with_reducible exact cst8 | with_reducible exact cst14 | with_reducible exact cst15 | with_reducible exact cst25 | with_reducible exact cst30 | with_reducible exact cst31 | fail) (by first | with_reducible rfl | with_reducible exact cst1 | with_reducible exact cst0 | with_reducible exact cst2 | with_reducible exact cst3 | with_reducible exact cst4 | with_reducible exact cst5 | with_reducible exact cst6 | with_reducible exact cst7 | with_reducible exact cst8 | with_reducible exact cst14 | with_reducible exact cst15 | with_reducible exact cst25 | with_reducible exact cst30 | with_reducible exact cst31 | fail) ?_ ?_; · (repeat' (first | omega | refine And.intro ?_ ?_ | exact bnd_andl (by omega) | exact bnd_andr (by omega) | refine bnd_or ?_ ?_ | refine bnd_or31 ?_ ?_ | refine bnd_xor ?_ ?_ | refine bnd_xor31 ?_ ?_ | refine bnd_shr ?_ | refine bnd_shl ?_ ?_ | refine bnd_mod ?_ | refine bnd_andl ?_ | fail))) | fail) | refine SetN.mk _ rfl ?_ | refine PtrN.base _ hm2 ?_ | refine PtrN.base _ hm3 ?_ | refine PtrN.base _ (hm2b _) ?_ | refine SideN.mk ⟨cpyL_len hk, rfl, rfl, hbt, hmx⟩ ?_ | refine DrawN.mk' [] ?_ | fail))); all_goals (conv => whnf)
      rw [show (cpyL b.ser q (H.length + 6) k ++ [AV.str nm, AV.sl (some (H.length + NL + 2)) vs.length (vs.flatMap Ver.cells)]) = cpyL b.ser q (H.length + 6) k ++ [AV.str nm, AV.sl (some (H.length + NL + 2)) vs.length (vs.flatMap Ver.cells)] from rfl, cpyK_set]
      by_cases hkq : k = q
      · subst hkq
        have hN4 : NL = 4 := by rw [← hNL]; simp [cpyK, cpyX]
        subst hN4
        refine ⟨⟨k + 1, by show k + 1 ≤ _; omega, by show b.ser.length - (k + 1) < b.ser.length - k; omega, ⟨⟨_, rfl, Wk.refl _⟩, trivial⟩, .inr ⟨⟨_, rfl, Wk.refl _⟩, ⟨_, rfl, Wk.refl _⟩, ⟨_, rfl, Wk.refl _⟩, ⟨_, rfl, Wk.refl _⟩, trivial⟩, [], .of_eq ?_, .inl rfl⟩⟩
        have hch : chC b.ser k (H.length + 6) = [.str nm, .sl (some (H.length + 4 + 2)) vs.length (vs.flatMap Ver.cells)] := by unfold chC; rw [hv1]
        have hx1 : cpyX b.ser k H.length k = [] := by unfold cpyX; rw [if_pos (Nat.le_refl _)]
        have hx2 : cpyX b.ser k H.length (k + 1) = [.box 79 [.str nm, .sl none vs.length (vs.flatMap Ver.cells)], .box 79 [.str nm, .sl (some (H.length + 4 + 2)) vs.length (vs.flatMap Ver.cells)], .tok 30 8 (vs.flatMap Ver.cells).length] := by
          unfold cpyX
          rw [if_neg (by omega), hch, hv1, flat_length ver_size]
          rfl
        unfold cpyK
        rw [hx1, hx2, cpyL_eq, hch]
        simp
      · have hx : cpyX b.ser q H.length (k + 1) = cpyX b.ser q H.length k := by
          unfold cpyX
          by_cases h : k ≤ q
          · rw [if_pos h, if_pos (by omega)]
          · rw [if_neg h, if_neg (by omega)]
        have hcl : cpyL b.ser q (H.length + 6) (k + 1) = cpyL b.ser q (H.length + 6) k ++ [.str nm, .sl none vs.length (vs.flatMap Ver.cells)] := by
          rw [← e1]
          by_cases h : k ≤ q
          · exact cpyL_lt (by omega) hlt
          · exact cpyL_gt (by omega) hlt
        refine ⟨⟨k + 1, by show k + 1 ≤ _; omega, by show b.ser.length - (k + 1) < b.ser.length - k; omega, ⟨⟨_, rfl, Wk.refl _⟩, trivial⟩, .inr ⟨⟨_, rfl, Wk.refl _⟩, ⟨_, rfl, Wk.refl _⟩, ⟨_, rfl, Wk.refl _⟩, ⟨_, rfl, Wk.refl _⟩, trivial⟩, _, .app (.app (.refl H) ?_) (.refl _), .inr ⟨by simp [belowRE, below, tr], cpyK_below b q H.length (k + 1)⟩⟩⟩
        simp only [cpyK]
        rw [hx, hcl]
        exact .app (.cons (.refl _) (.cons (.refl _) (.cons (.refl _) (.cons (.vec (.app (.id _) ⟨Wk.refl _, wk_sl _ _ _, trivial⟩)) .nil)))) (.refl _)
  · have hkn : k = b.ser.length := by omega
    subst hkn
    (repeat' ((conv => whnf); (first | (refine IfN.id ?_; first | refine IfN.dF (by omega) ?_ | fail) | refine DrawN.mk' [] ?_ | fail))); all_goals (conv => whnf)
    refine LeftX.ofB _ [(2, .lp 1 0), (3, .lp 2 0), (14, .v (.sl none b.ser.length (b.ser.flatMap Ser.cells))), (15, .v (.int .i64 b.ser.length))] rfl rfl rfl ?_
    (repeat' ((conv => whnf); (first | refine DrawN.mk' [] ?_ | fail))); all_goals (conv => whnf)
    refine .keep _ (.refl _) ⟨rfl, ?_⟩
    simp [cpyK, List.set]
end Go.Proofs.Ytgopbbkpcjgihaa
/-! text TI38 -/
namespace Go.Proofs.Ytgopbbkpcjgihaa
open Go.Shelf Go.RowKit Go.Lib
set_option linter.unusedVariables false
set_option linter.unusedSimpArgs false

theorem run_copy_k {P : Program} (w : World) (dT sT ty elem : TypeId) (k b o dLen dCap : Nat) (a : Addr) (sLen sCap : Nat) (cs : List Value)
    (hu : P.underlying dT = some (.slice elem)) (hs : (P.info? elem).map (·.size) = some k) (hn : cs.length = Nat.min sLen dLen * k)
    (hsrc : ∀ j v, cs[j]? = some v → w.cell? (a.add j) = some v) (hc : ∀ j, j < cs.length → (w.cell? ⟨b, o + j, none⟩).isSome = true) (hf : ∀ j, j < cs.length → w.frozen? ⟨b, o + j, none⟩ = false) (h1 : ∀ v ∈ cs, v.oneCell' = true) :
    (Builtin.copy_ #[dT, sT] ty #[.slice (some ⟨b, o, none⟩) dLen dCap, .slice (some a) sLen sCap]).run P w = .ok (goInt (Nat.min sLen dLen)) (w.setCells b o cs) := by
  have hl := run_loadCells_list (P := P) w a cs hsrc
  have hst := run_storeCells_cells (P := P) b o cs 0 w (by simpa using hc) (by simpa using hf) h1
  cases hq : P.info? elem with
  | none => simp [hq] at hs
  | some i =>
    have hi : i.size = k := by simpa [hq] using hs
    simp [Builtin.copy_, run_underlying hu, Builtin.lenOf, Builtin.firstCells, sizeOf, typeInfo, hq, hi, ← hn, hl, hst]
theorem run_overlaps_2 {P : Program} (w : World) (tS tR e : TypeId) (ht : P.underlying tS = some (.slice e)) (size : Nat) (hz : ∀ w, (Go.sizeOf e).run P w = .ok size w)
    (a b : Addr) (la ca lb cb : Nat) (hne : a.block ≠ b.block) {csA csB : Array Value} {tA tB : TypeId} {fa : Nat × Nat} (hA : w.heap[a.block]? = some (.cells csA tA fa)) (hB : w.heap[b.block]? = some (.cells csB tB (0, 0))) (hkA : csA.size ≠ 0) (hkB : csB.size ≠ 0) :
    (Extern.SlicesOverlaps.overlaps #[tS, tS] #[tR] #[.slice (some a) la ca, .slice (some b) lb cb]).run P w = .ok (.bool false) w := by
  have hnb : (a.block != b.block) = true := by simpa using hne
  have hnb' : (a.block == b.block) = false := by simpa using hne
  change Sem.run P (α := Value) (do
    let some t := (#[tS, tS] : Array TypeId)[0]? | stuck "slices.overlaps: no parameter types"
    let .slice elem ← underlying t | stuck "slices.overlaps: slice type expected"
    let size ← sizeOf elem
    match (some a : Option Addr), (some b : Option Addr) with
    | some a, some b =>
      if la = 0 ∨ lb = 0 ∨ size = 0 then pure (Value.bool false)
      else if a.block != b.block && (← frozen a) && (← frozen b) then unsupported .addressObserved
      else do
        if a.block != b.block then do
          noView a; noView b
          if ← mayBeOne a b then return Value.bool ((← choose (.extern "sameAddr.stringBytes" 2)) == 1)
        pure (Value.bool (a.block == b.block && a.off < b.off + lb * size && b.off < a.off + la * size))
    | _, _ => pure (Value.bool false)) w = _
  by_cases h0 : la = 0 ∨ lb = 0 ∨ size = 0
  · simp [run_underlying ht, hz, h0]
  · obtain ⟨kA, hkA⟩ : ∃ kA, csA.size = kA + 1 := ⟨csA.size - 1, by omega⟩
    obtain ⟨kB, hkB⟩ : ∃ kB, csB.size = kB + 1 := ⟨csB.size - 1, by omega⟩
    have hsa : w.shape? a.block = some (tA, kA + 1) := by simp [World.shape?, hA, hkA]
    have hsb : w.shape? b.block = some (tB, kB + 1) := by simp [World.shape?, hB, hkB]
    have hfb : ∀ o, w.frozen? ⟨b.block, o, none⟩ = false := fun o => by simp [World.frozen?, hB]
    have hfb2 : w.frozen? b = false := by simp [World.frozen?, hB]
    obtain ⟨pa, hpa⟩ : ∃ pa, w.frozen? a = pa := ⟨_, rfl⟩
    obtain ⟨pb, hpb⟩ : ∃ pb, w.frozen? ⟨a.block, kA + 1, none⟩ = pb := ⟨_, rfl⟩
    cases pa <;> cases pb <;> simp [run_underlying ht, hz, h0, hnb, hnb', frozen, noView, viewAt, mayBeOne, stringish, shape, Sem.run, hsa, hsb, hpa, hpb, hfb, hfb2]
end Go.Proofs.Ytgopbbkpcjgihaa
/-! text TJ38 -/
namespace Go.Proofs.Ytgopbbkpcjgihaa
open Go.Shelf Go.RowKit Go.Lib
set_option linter.unusedVariables false
set_option linter.unusedSimpArgs false

set_option maxHeartbeats 4000000 in
set_option maxRecDepth 100000 in
theorem ins_shift (b n c p vb vo vc : Nat) (cs vs : List Value) (w : World) (hp : p < n) (hroom : n + 1 ≤ c) (hc63 : c ≤ 9223372036854775807) (hvb : vb ≠ b) (hn1 : n ≤ 1000)
    (hcl : cs.length = n * 2) (hvl : vs.length = 2)
    (hcs : ∀ j v, cs[j]? = some v → w.cell? ⟨b, j, none⟩ = some v) (hsp : ∀ j, j < (n + 1) * 2 → (w.cell? ⟨b, j, none⟩).isSome = true) (hfz : ∀ j, w.frozen? ⟨b, j, none⟩ = false)
    (hvs : ∀ j v, vs[j]? = some v → w.cell? ⟨vb, vo + j, none⟩ = some v) (h1c : ∀ v ∈ cs, v.oneCell' = true) (h1v : ∀ v ∈ vs, v.oneCell' = true)
    {csA csB : Array Value} {tA tB : TypeId} {fa : Nat × Nat} (hA : w.heap[vb]? = some (.cells csA tA fa)) (hB : w.heap[b]? = some (.cells csB tB (0, 0))) (hkA : csA.size ≠ 0) (hkB : csB.size ≠ 0) :
    Calls Try.prog 44 #[.slice (some ⟨b, 0, none⟩) n c, .int .i64 p, .slice (some ⟨vb, vo, none⟩) 1 vc] w fun e w' =>
      e = .returned (.slice (some ⟨b, 0, none⟩) (n + 1) c) ∧ w' = (w.drew.setCells b ((p + 1) * 2) (cs.drop (p * 2))).setCells b (p * 2) vs := by
  have hz1 : ¬ ((1 : Int) = 0) := by omega
  have hz2 : ¬ ((p : Int) = (n : Int)) := by omega
  have hz3 : ¬ ((c : Int) < (n : Int) + 1) := by omega
  have hsz : (Try.prog.info? 79).map (·.size) = some 2 := by kernel_rfl
  have hu22 : Try.prog.underlying 22 = some (.slice 79) := Try.underlying22
  have hov : ∀ lb cb, (callFunc 70 #[.slice (some ⟨vb, vo, none⟩) 1 vc, .slice (some ⟨b, (p + 1) * 2, none⟩) lb cb]).run Try.prog w = .ok (.value (.bool false)) w := fun lb cb => by
    rw [run_callFunc_extern Try.func70 (by kernel_rfl) (by kernel_rfl) (by kernel_rfl) (e := Extern.SlicesOverlaps.overlaps #[22, 22] #[4]) (by kernel_rfl),
      run_overlaps_2 w 22 4 79 hu22 2 Try.sizeOf79 ⟨vb, vo, none⟩ ⟨b, (p + 1) * 2, none⟩ 1 vc lb cb hvb hA hB hkA hkB]
    rfl
  have hdl : (cs.drop (p * 2)).length = (n - p) * 2 := by rw [List.length_drop, hcl]; omega
  have hcp1 : ∀ ty dl dc sl sc, dl = n - p → n - p ≤ sl → (Builtin.copy_ #[22, 22] ty #[.slice (some ⟨b, (p + 1) * 2, none⟩) dl dc, .slice (some ⟨b, p * 2, none⟩) sl sc]).run Try.prog w.drew = .ok (goInt (n - p : Nat)) (w.drew.setCells b ((p + 1) * 2) (cs.drop (p * 2))) := fun ty dl dc sl sc h1 h2 => by
    have hmin : Nat.min sl dl = n - p := by simp only [Nat.min_def]; split <;> omega
    have := run_copy_k (P := Try.prog) w.drew 22 22 ty 79 2 b ((p + 1) * 2) dl dc ⟨b, p * 2, none⟩ sl sc (cs.drop (p * 2)) hu22 hsz (by rw [hdl, hmin])
      (fun j v hj => by rw [Addr.add_lit]; exact hcs (p * 2 + j) v (by rwa [List.getElem?_drop] at hj))
      (fun j hj => hsp ((p + 1) * 2 + j) (by rw [hdl] at hj; omega)) (fun j hj => hfz _) (fun v hv => h1c v (List.mem_of_mem_drop hv))
    rwa [hmin] at this
  obtain ⟨W1, hW1⟩ : ∃ W1, W1 = w.drew.setCells b ((p + 1) * 2) (cs.drop (p * 2)) := ⟨_, rfl⟩
  have hsp1 : ∀ k, k < (n + 1) * 2 → (W1.cell? ⟨b, k, none⟩).isSome = true := fun k hk => by
    rw [hW1]
    exact isSome_setCells b _ _ w.drew (fun j hj => hsp ((p + 1) * 2 + j) (by rw [hdl] at hj; omega)) _ (hsp k hk)
  have hcp2 : ∀ (W : World), (∀ x, W.cell? x = W1.cell? x) → (∀ x, W.frozen? x = W1.frozen? x) → ∀ ty dl dc, 1 ≤ dl → (Builtin.copy_ #[22, 22] ty #[.slice (some ⟨b, p * 2, none⟩) dl dc, .slice (some ⟨vb, vo, none⟩) 1 vc]).run Try.prog W = .ok (goInt (1 : Nat)) (W.setCells b (p * 2) vs) := fun W hWc hWf ty dl dc h1 => by
    have hmin : Nat.min 1 dl = 1 := by simp only [Nat.min_def]; split <;> omega
    have := run_copy_k (P := Try.prog) W 22 22 ty 79 2 b (p * 2) dl dc ⟨vb, vo, none⟩ 1 vc vs hu22 hsz (by rw [hvl, hmin])
      (fun j v hj => by
        rw [Addr.add_lit, hWc, hW1, World.cell?_setCells_out b _ _ _ _ (fun h _ => absurd h hvb)]
        exact hvs j v hj)
      (fun j hj => by rw [hWc]; exact hsp1 _ (by rw [hvl] at hj; omega)) (fun j hj => by rw [hWf, hW1, World.frozen?_setCells]; exact hfz _) h1v
    rwa [hmin] at this
  rw [← hW1] at hcp1
  have hw1 : IntKind.i64.wrap ((p : Int) + 1) = (p : Int) + 1 := by rw [IntKind.wrap_i64]; omega
  have hw2 : IntKind.i64.wrap ((n : Int) + 1) = (n : Int) + 1 := by rw [IntKind.wrap_i64]; omega
  have mixed : Try.prog.follows .mixedOrders = true := Try.mx
  have hb1 : (0 : Int) ≤ (p : Int) + 1 := by omega
  have hin : p ≤ n := by omega
  have htn : ((p : Int) + 1).toNat = p + 1 := by omega
  have hb2 : ¬ (c = p + 1) := by omega
  have hb3 : (p : Int) ≤ (n : Int) + 1 := by omega
  have hb4 : ¬ (c = p) := by omega
  go_enter Try.func44, Try.ntmps44
  go_wp2_with (simp only [hov])
  go_region_law_o (refine step_copy_runI rfl _ _ 22 22 rfl (.slice (some ⟨b, (p + 1) * 2, none⟩) (n - p) (c - (p + 1))) (.slice (some ⟨b, p * 2, none⟩) (n + 1 - p) (c - p)) (by simp [Act.eval, Act.put]) (by simp [Act.eval, Act.put]) (hcp1 3 (n - p) (c - (p + 1)) (n + 1 - p) (c - p) rfl (by omega)) ?_)
  have hcp3 := hcp2 (w.drew.setCells b ((p + 1) * 2) (cs.drop (p * 2))) (fun _ => by rw [hW1]) (fun _ => by rw [hW1]) 3 (n + 1 - p) (c - p) (by omega)
  go_wp2_with (simp only [hcp3])

  go_ret
  first | exact ⟨rfl, rfl⟩ | exact ⟨rfl, by rw [hW1]⟩
end Go.Proofs.Ytgopbbkpcjgihaa
/-! text TK38 -/
namespace Go.Proofs.Ytgopbbkpcjgihaa
open Go.Shelf Go.RowKit Go.Lib
set_option linter.unusedVariables false
set_option linter.unusedSimpArgs false

def zSer : List Value := [.string ⟨#[]⟩, .slice none 0 0]
set_option maxHeartbeats 4000000 in
set_option maxRecDepth 100000 in
theorem ins_grow (b n c p vb vo vc : Nat) (cs vs : List Value) (w : World) (hp : p < n) (hnc : n ≤ c) (hroom : c < n + 1) (hvb : vb < w.heap.size) (hbw : b < w.heap.size) (hn1 : n ≤ 1000)
    (hcl : cs.length = n * 2) (hvl : vs.length = 2)
    (hcs : ∀ j v, cs[j]? = some v → w.cell? ⟨b, j, none⟩ = some v)
    (hvs : ∀ j v, vs[j]? = some v → w.cell? ⟨vb, vo + j, none⟩ = some v) (h1c : ∀ v ∈ cs, v.oneCell' = true) (h1v : ∀ v ∈ vs, v.oneCell' = true) :
    Calls Try.prog 44 #[.slice (some ⟨b, 0, none⟩) n c, .int .i64 p, .slice (some ⟨vb, vo, none⟩) 1 vc] w fun e w' =>
      e = .returned (.slice (some ⟨w.heap.size, 0, none⟩) (n + 1) (grownCap w (n + 1) c 79)) ∧
      w' = (((w.alloc (.cells ((cs.take (p * 2)).toArray ++ Builtin.zeroCells (Value.agg #[.string ⟨#[]⟩, .slice none 0 0]).cells (n + 1 - p) ++ Builtin.zeroCells (Value.agg #[.string ⟨#[]⟩, .slice none 0 0]).cells (grownCap w (n + 1) c 79 - (n + 1))) 79)).drew.setCells w.heap.size (p * 2) vs).drew).setCells w.heap.size ((p + 1) * 2) (cs.drop (p * 2)) := by
  obtain ⟨i0, hi0, hz0, hzs, hzb⟩ : ∃ i0 : TypeInfo, Try.prog.info? 79 = some i0 ∧ i0.zero = some (Value.agg #[.string ⟨#[]⟩, .slice none 0 0]) ∧ i0.size = 2 ∧ i0.bytes = 40 := ⟨Try.t79, by kernel_rfl, by kernel_rfl, by kernel_rfl, by kernel_rfl⟩
  have hz1 : ¬ ((1 : Int) = 0) := by omega
  have hz2 : ¬ ((p : Int) = (n : Int)) := by omega
  have hz3 : (c : Int) < (n : Int) + 1 := by omega
  have hsz : (Try.prog.info? 79).map (·.size) = some 2 := by kernel_rfl
  have hu22 : Try.prog.underlying 22 = some (.slice 79) := Try.underlying22
  have hu3 : Try.prog.underlying 3 = some (.int .i64) := Try.underlying3
  have hkk : (n : Int) + 1 - (p : Int) = ((n + 1 - p : Nat) : Int) := by omega
  have hik : p + (n + 1 - p) = n + 1 := by omega
  have hold : (Builtin.firstCells i0.size p (.slice (some ⟨b, 0, none⟩) p c)).run Try.prog w.drew = .ok (cs.take (p * 2)).toArray w.drew := by
    rw [hzs]
    exact run_firstCells_some w.drew 2 p ⟨b, 0, none⟩ p c (cs.take (p * 2)) (by rw [List.length_take]; omega) (fun j v hj => by
      rw [Addr.add_lit, Nat.zero_add]
      rw [List.getElem?_take] at hj
      split at hj
      · exact hcs j v hj
      · cases hj)
  have hrz : ∀ ty, (Builtin.append_ #[22, 3] ty #[.slice (some ⟨b, 0, none⟩) p c, .int .i64 ((n : Int) + 1 - (p : Int))]).run Try.prog w =
      .ok (.slice (some ⟨w.heap.size, 0, none⟩) (n + 1) (grownCap w (n + 1) c 79)) (w.drew.alloc (.cells ((cs.take (p * 2)).toArray ++ Builtin.zeroCells (Value.agg #[.string ⟨#[]⟩, .slice none 0 0]).cells (n + 1 - p) ++ Builtin.zeroCells (Value.agg #[.string ⟨#[]⟩, .slice none 0 0]).cells (grownCap w (n + 1) c 79 - (n + 1))) 79)) := fun ty => by
    have h := Lib.run_append_grow_zeros w 22 3 ty 79 i0 _ .i64 .i64 hu22 hu3 hi0 hz0 (some ⟨b, 0, none⟩) p c (cs.take (p * 2)) hold (n + 1 - p) (by omega) (by omega) (by omega) (by omega) (by rw [hzb]; omega) (by rw [hzb, hik]; exact growslice_fits hroom (by omega))
    rw [hik] at h
    rw [hkk]
    exact h
  obtain ⟨G, hG⟩ : ∃ G, G = grownCap w (n + 1) c 79 := ⟨_, rfl⟩
  obtain ⟨ROW, hROW⟩ : ∃ ROW : Array Value, ROW = (cs.take (p * 2)).toArray ++ Builtin.zeroCells (Value.agg #[.string ⟨#[]⟩, .slice none 0 0]).cells (n + 1 - p) ++ Builtin.zeroCells (Value.agg #[.string ⟨#[]⟩, .slice none 0 0]).cells (G - (n + 1)) := ⟨_, rfl⟩
  rw [← hG] at hrz ⊢
  rw [← hROW] at hrz ⊢
  have hRl : (n + 1) * 2 ≤ ROW.size := by
    rw [hROW]
    simp [Builtin.zeroCells, Value.cells]
    omega
  obtain ⟨W1, hW1⟩ : ∃ W1, W1 = w.drew.alloc (.cells ROW 79) := ⟨_, rfl⟩
  rw [← hW1] at hrz
  have hN : ∀ j, j < (n + 1) * 2 → (W1.cell? ⟨w.heap.size, j, none⟩).isSome = true := fun j hj => by
    rw [hW1, World.cell?_alloc_at (w := w.drew) ROW _ w.heap.size j rfl, Array.getElem?_eq_getElem (by omega)]; rfl
  have hNf : ∀ j, W1.frozen? ⟨w.heap.size, j, none⟩ = false := fun j => by rw [hW1]; exact World.frozen?_alloc_at (w := w.drew) ROW _ w.heap.size j rfl
  have hOb : ∀ j v, w.cell? ⟨b, j, none⟩ = some v → W1.cell? ⟨b, j, none⟩ = some v := fun j v h => by rw [hW1, World.cell?_alloc_past (w := w.drew) _ b j hbw]; exact h
  have hOv : ∀ j v, w.cell? ⟨vb, j, none⟩ = some v → W1.cell? ⟨vb, j, none⟩ = some v := fun j v h => by rw [hW1, World.cell?_alloc_past (w := w.drew) _ vb j hvb]; exact h
  have hdl : (cs.drop (p * 2)).length = (n - p) * 2 := by rw [List.length_drop, hcl]; omega
  have hbN : b ≠ w.heap.size := by omega
  have hcpA : ∀ (W : World), (∀ x, W.cell? x = W1.cell? x) → (∀ x, W.frozen? x = W1.frozen? x) → ∀ ty dl dc, 1 ≤ dl → (Builtin.copy_ #[22, 22] ty #[.slice (some ⟨w.heap.size, p * 2, none⟩) dl dc, .slice (some ⟨vb, vo, none⟩) 1 vc]).run Try.prog W = .ok (goInt (1 : Nat)) (W.setCells w.heap.size (p * 2) vs) := fun W hWc hWf ty dl dc h1 => by
    have hmin : Nat.min 1 dl = 1 := by simp only [Nat.min_def]; split <;> omega
    have := run_copy_k (P := Try.prog) W 22 22 ty 79 2 w.heap.size (p * 2) dl dc ⟨vb, vo, none⟩ 1 vc vs hu22 hsz (by rw [hvl, hmin])
      (fun j v hj => by rw [Addr.add_lit, hWc]; exact hOv _ v (hvs j v hj))
      (fun j hj => by rw [hWc]; exact hN _ (by rw [hvl] at hj; omega)) (fun j hj => by rw [hWf]; exact hNf _) h1v
    rwa [hmin] at this
  have hcpB : ∀ (W : World), (∀ x, W.cell? x = (W1.setCells w.heap.size (p * 2) vs).cell? x) → (∀ x, W.frozen? x = (W1.setCells w.heap.size (p * 2) vs).frozen? x) → ∀ ty dl dc sl sc, dl = n - p → n - p ≤ sl → (Builtin.copy_ #[22, 22] ty #[.slice (some ⟨w.heap.size, (p + 1) * 2, none⟩) dl dc, .slice (some ⟨b, p * 2, none⟩) sl sc]).run Try.prog W = .ok (goInt (n - p : Nat)) (W.setCells w.heap.size ((p + 1) * 2) (cs.drop (p * 2))) := fun W hWc hWf ty dl dc sl sc h1 h2 => by
    have hmin : Nat.min sl dl = n - p := by simp only [Nat.min_def]; split <;> omega
    have := run_copy_k (P := Try.prog) W 22 22 ty 79 2 w.heap.size ((p + 1) * 2) dl dc ⟨b, p * 2, none⟩ sl sc (cs.drop (p * 2)) hu22 hsz (by rw [hdl, hmin])
      (fun j v hj => by
        rw [Addr.add_lit, hWc, World.cell?_setCells_out _ _ _ _ _ (fun h _ => absurd h hbN)]
        exact hOb _ v (hcs (p * 2 + j) v (by rwa [List.getElem?_drop] at hj)))
      (fun j hj => by rw [hWc]; exact isSome_setCells _ _ _ _ (fun t ht => hN _ (by rw [hvl] at ht; omega)) _ (hN _ (by rw [hdl] at hj; omega)))
      (fun j hj => by rw [hWf, World.frozen?_setCells]; exact hNf _) (fun v hv => h1c v (List.mem_of_mem_drop hv))
    rwa [hmin] at this
  have hGn : n + 1 ≤ G := by rw [hG]; exact grownCap_ge w _ _ _
  have hG63 : G ≤ 9223372036854775807 := by
    have := grownCap_le_maxLen w (n + 1) c 79 (by unfold maxLen; omega)
    rw [← hG] at this
    unfold maxLen at this
    omega
  have hGi : ¬ (G = p) := by omega
  have hGim : ¬ (G = p + 1) := by omega
  have hci : ¬ (c = p) := by omega
  have hw1 : IntKind.i64.wrap ((p : Int) + 1) = (p : Int) + 1 := by rw [IntKind.wrap_i64]; omega
  have hw2 : IntKind.i64.wrap ((n : Int) + 1) = (n : Int) + 1 := by rw [IntKind.wrap_i64]; omega
  have hw3 : IntKind.i64.wrap ((n : Int) + 1 - (p : Int)) = (n : Int) + 1 - (p : Int) := by rw [IntKind.wrap_i64]; omega
  have hb1 : (0 : Int) ≤ (p : Int) + 1 := by omega
  have hin : p ≤ n := by omega
  have htn : ((p : Int) + 1).toNat = p + 1 := by omega
  have hb3 : (p : Int) ≤ (n : Int) := by omega
  have mixed : Try.prog.follows .mixedOrders = true := Try.mx
  have hE1 : ∀ x, ((w.alloc (.cells ROW 79)).drew).cell? x = W1.cell? x := fun x => by rw [hW1]; rfl
  have hE2 : ∀ x, ((w.alloc (.cells ROW 79)).drew).frozen? x = W1.frozen? x := fun x => by rw [hW1]; rfl
  have hcA3 := hcpA (w.alloc (.cells ROW 79)).drew hE1 hE2 3 (n + 1 - p) (G - p) (by omega)
  have hcB3 := hcpB ((w.alloc (.cells ROW 79)).drew.setCells w.heap.size (p * 2) vs).drew (fun x => by rw [hW1]; rfl) (fun x => by rw [hW1]; rfl) 3 (n - p) (G - (p + 1)) (n - p) (c - p) rfl (by omega)
  clear hkk hik hold hROW hG hRl
  rw [hW1] at hrz
  go_enter Try.func44, Try.ntmps44
  go_wp2_with (first
    | (at_builtin; refine Lib.wpList_append_run _ rfl _ _ _ _ rfl _ _ rfl rfl _ _ (hrz _) ?_)
    | (at_builtin; refine wpList_copy_runI _ rfl _ _ 22 22 rfl _ _ rfl rfl hcA3 ?_))
  go_region_law_o (refine step_copy_runI rfl _ _ 22 22 rfl (.slice (some ⟨w.heap.size, (p + 1) * 2, none⟩) (n - p) (G - (p + 1))) (.slice (some ⟨b, p * 2, none⟩) (n - p) (c - p)) (by simp [Act.eval, Act.put]) (by simp [Act.eval, Act.put]) hcB3 ?_)
  go_wp2
  go_ret
  exact ⟨rfl, rfl⟩
end Go.Proofs.Ytgopbbkpcjgihaa
/-! text TL38 -/
namespace Go.Proofs.Ytgopbbkpcjgihaa
open Go.Shelf Go.RowKit Go.Lib
set_option linter.unusedVariables false
set_option linter.unusedSimpArgs false

set_option maxHeartbeats 4000000 in
set_option maxRecDepth 100000 in
theorem ins_end (A : Option Addr) (n c vb vo : Nat) (w w' : World) (r : Value) (hA : (A = none ∧ n = 0 ∧ c = 0) ∨ ∃ b, A = some ⟨b, 0, none⟩) (hnc : n ≤ c)
    (hrun : (Builtin.append_ #[22, 22] 22 #[.slice A n c, .slice (some ⟨vb, vo, none⟩) 1 1]).run Try.prog w = .ok r w') :
    Calls Try.prog 44 #[.slice A n c, .int .i64 n, .slice (some ⟨vb, vo, none⟩) 1 1] w fun e w2 => e = .returned r ∧ w2 = w' := by
  have hz1 : ¬ ((1 : Int) = 0) := by omega
  rcases hA with ⟨rfl, rfl, rfl⟩ | ⟨b, rfl⟩
  · go_enter Try.func44, Try.ntmps44
    go_wp2_with (at_builtin; refine Lib.wpList_append_run _ rfl _ _ _ _ rfl _ _ rfl rfl _ _ hrun ?_)
    go_ret
    exact ⟨rfl, rfl⟩
  · go_enter Try.func44, Try.ntmps44
    go_wp2_with (at_builtin; refine Lib.wpList_append_run _ rfl _ _ _ _ rfl _ _ rfl rfl _ _ hrun ?_)
    all_goals (go_ret; exact ⟨rfl, rfl⟩)
end Go.Proofs.Ytgopbbkpcjgihaa
/-! text TM38 -/
namespace Go.Proofs.Ytgopbbkpcjgihaa
open Go.Shelf Go.RowKit Go.Lib Go.Vsi
set_option linter.unusedVariables false
set_option linter.unusedSimpArgs false

theorem setCells_hole (w : World) (b o : Nat) (t : TypeId) (cur : Array Value) (vs : List Value) (h : w.heap[b]? = some (.cells cur t (0, 0))) (hl : o + vs.length ≤ cur.size) (h1 : ∀ v ∈ vs, v.oneCell' = true) :
    w.setCells b o vs = w.setRow b (hole cur o vs) := by
  have e1 := run_storeCells_at Try.prog b o t vs 0 cur w h (by omega) h1
  have e2 := run_storeCells_cells (P := Try.prog) b o vs 0 w (fun j hj => by
    have : (w.cell? ⟨b, o + 0 + j, none⟩) = some (cur[o + j]'(by omega)) := cell_iff.2 ⟨cur, t, _, h, by simp⟩
    rw [this]; rfl) (fun j hj => by simp [World.frozen?, h]) h1
  rw [e1] at e2
  simp only [Nat.add_zero] at e2
  injection e2 with _ e3
  exact e3.symm
theorem setRow_at (w : World) (b : Nat) (t : TypeId) (cur d : Array Value) (h : w.heap[b]? = some (.cells cur t (0, 0))) : (w.setRow b d).heap[b]? = some (.cells d t (0, 0)) := setRow_heap w b cur d t (0, 0) h
theorem hole_get (cur : Array Value) (o : Nat) (cv : List Value) (h : o + cv.length ≤ cur.size) (j : Nat) :
    (hole cur o cv)[j]? = if j < o then cur[j]? else if j < o + cv.length then cv[j - o]? else cur[j]? := by
  unfold hole
  simp only [List.getElem?_toArray, List.getElem?_append, List.getElem?_take, List.getElem?_drop, List.length_append, List.length_take, Array.length_toList, Array.getElem?_toList]
  have hm : min o cur.size = o := by omega
  rw [hm]
  by_cases h1 : j < o
  · rw [if_pos (by omega), if_pos h1, if_pos h1, if_pos h1]
  · rw [if_neg h1, if_neg h1]
    by_cases h2 : j < o + cv.length
    · rw [if_pos h2, if_pos h2]
    · rw [if_neg h2, if_neg h2]
      congr 1
      omega
theorem shift_take (cs : Array Value) (n p : Nat) (vs : List Value) (hv : vs.length = 2) (hp : p ≤ n) (hs : (n + 1) * 2 ≤ cs.size) :
    (hole (hole cs ((p + 1) * 2) ((cs.toList.take (n * 2)).drop (p * 2))) (p * 2) vs).toList.take ((n + 1) * 2) = (cs.toList.take (n * 2)).take (p * 2) ++ vs ++ (cs.toList.take (n * 2)).drop (p * 2) := by
  have hl1 : ((cs.toList.take (n * 2)).drop (p * 2)).length = (n - p) * 2 := by simp; omega
  have hs1 : (p + 1) * 2 + ((cs.toList.take (n * 2)).drop (p * 2)).length ≤ cs.size := by rw [hl1]; omega
  apply List.ext_getElem?
  intro j
  rw [List.getElem?_take, Array.getElem?_toList, hole_get _ _ _ (by rw [hole_size hs1]; omega), hole_get _ _ _ hs1]
  rw [hl1, hv]
  simp only [List.getElem?_append, List.getElem?_take, List.getElem?_drop, List.length_append, List.length_take, Array.length_toList, Array.getElem?_toList, hv]
  have hm : min (p * 2) (min (n * 2) cs.size) = p * 2 := by omega
  rw [hm]
  by_cases h1 : j < p * 2
  · rw [if_pos (by omega), if_pos (by omega), if_pos (by omega), if_pos (by omega), if_pos (by omega), if_pos (by omega)]
    rw [if_pos (by omega)]
  · by_cases h2 : j < p * 2 + 2
    · rw [if_pos (by omega), if_neg (by omega), if_pos (by omega), if_pos (by omega), if_neg (by omega)]
    · by_cases h3 : j < (n + 1) * 2
      · rw [if_pos (by omega), if_neg (by omega), if_neg (by omega), if_neg (by omega), if_pos (by omega), if_pos (by omega)]
        rw [if_neg (by omega), if_pos (by omega)]
        congr 1
        omega
      · rw [if_neg (by omega), if_neg (by omega), if_neg (by omega)]
theorem grow_take (xs : List Value) (row : Array Value) (n p : Nat) (vs : List Value) (hv : vs.length = 2) (hx : xs.length = n * 2) (hp : p ≤ n) (hs : (n + 1) * 2 ≤ row.size) (hr : ∀ j, j < p * 2 → row[j]? = xs[j]?) :
    (hole (hole row (p * 2) vs) ((p + 1) * 2) (xs.drop (p * 2))).toList.take ((n + 1) * 2) = xs.take (p * 2) ++ vs ++ xs.drop (p * 2) := by
  have hl1 : (xs.drop (p * 2)).length = (n - p) * 2 := by simp; omega
  have hs1 : (p * 2) + vs.length ≤ row.size := by omega
  apply List.ext_getElem?
  intro j
  rw [List.getElem?_take, Array.getElem?_toList, hole_get _ _ _ (by rw [hole_size hs1, hl1]; omega), hole_get _ _ _ hs1]
  rw [hl1, hv]
  simp only [List.getElem?_append, List.getElem?_take, List.getElem?_drop, List.length_append, List.length_take, hv]
  have hm : min (p * 2) xs.length = p * 2 := by omega
  rw [hm]
  by_cases h1 : j < p * 2
  · rw [if_pos (by omega), if_pos (by omega), if_pos (by omega), if_pos (by omega), if_pos (by omega), if_pos (by omega)]
    exact hr j h1
  · by_cases h2 : j < p * 2 + 2
    · rw [if_pos (by omega), if_pos (by omega), if_neg (by omega), if_pos (by omega), if_pos (by omega), if_neg (by omega)]
    · by_cases h3 : j < (n + 1) * 2
      · rw [if_pos (by omega), if_neg (by omega), if_pos (by omega), if_neg (by omega)]
        congr 1
        omega
      · rw [if_neg (by omega), if_neg (by omega)]
        rw [List.getElem?_eq_none (by omega)]
end Go.Proofs.Ytgopbbkpcjgihaa
/-! text TN38 -/
namespace Go.Proofs.Ytgopbbkpcjgihaa
open Go.Shelf Go.RowKit Go.Lib Go.Vsi
set_option linter.unusedVariables false
set_option linter.unusedSimpArgs false
set_option maxHeartbeats 4000000

theorem call44 : CallOk Try.prog 44 := ⟨_, Try.func44, by kernel_rfl, by kernel_rfl⟩
theorem ext_drew (g : G) (w : World) : Ext g w g w.drew := ⟨Nat.le_refl _, fun _ _ h => h, fun _ h => h, fun _ _ => rfl, fun _ _ => .inl rfl, fun _ _ _ h => h, rfl, rfl, rfl, (by first | exact Nat.le_refl _ | exact Nat.le_succ _ | (simp; done)), Nat.le_refl _, fun _ _ _ => rfl, fun _ ds _ _ hb => ⟨ds, hb, rfl, fun _ _ => rfl⟩⟩
theorem drew_setCells (b : Nat) : ∀ (vs : List Value) (o : Nat) (w : World), (w.setCells b o vs).drew = w.drew.setCells b o vs
  | [], _, _ => rfl
  | v :: r, o, w => by
    rw [World.setCells, World.setCells, drew_setCells b r (o + 1)]
    rfl
def insL (l : List AV) (p : Nat) (nm : ByteArray) : List AV := l.take (p * 2) ++ [.str nm, .nils] ++ l.drop (p * 2)
theorem insert_c (nm : ByteArray) (i n p : Nat) (l : List AV) (H : Heap) (hi : H[i]? = some (.vec 79 2 l)) (hl : l.length = n * 2) (hp : p ≤ n) (hn : n ≤ 1000) (h1 : allOne l = true) :
    VCall Try.prog 44 [.vs i n, .int .i64 p, .sx 1 [.str nm, .nils]] H fun r H' => r = .vs i (n + 1) ∧ H' = H.set i (.vec 79 2 (insL l p nm)) := by
  have hat : At (Hp.of H) i (.vec 79 2 l) := by simpa [At, Hp.of, Hp.all] using hi
  have hput : Put (Hp.of H) i (.vec 79 2 (insL l p nm)) (Hp.of (H.set i (.vec 79 2 (insL l p nm)))) := ⟨by simp [Hp.of, Hp.all], by simp [Hp.of], rfl, rfl⟩
  refine ⟨call44, fun g w vv hH hL => ?_⟩
  have has : ∃ a b c, vv = #[a, b, c] ∧ VRel g w (.vs i n) a ∧ VRel g w (.int .i64 p) b ∧ VRel g w (.sx 1 [.str nm, .nils]) c := by
    obtain ⟨vv⟩ := vv
    simp only [LRel] at hL
    obtain ⟨a, r, e1, h2, b, r2, e2, h3, c, r3, e3, h4, e4⟩ := hL
    subst e4 e3 e2
    exact ⟨a, b, c, by rw [e1], h2, h3, h4⟩
  obtain ⟨a, b, c, rfl, hva, hvb, hvc⟩ := has
  have hva0 := hva
  have hvc0 := hvc
  simp only [VRel] at hva hvb hvc
  subst hvb
  obtain ⟨hok, hlen, A, cap, rfl, hncap, hA⟩ := hva
  obtain ⟨A2, rfl, hmO⟩ := hvc
  obtain ⟨vb, vo, rfl, hm⟩ := hmO.resolve_left (by simp)
  obtain ⟨vs, hvs, hvc1⟩ := hm.list
  have hvl : vs.length = 2 := hvs.length
  have h1v := hvs.one (allOne_mem _ (by rfl))
  obtain ⟨cv, hcv, -, hnown⟩ := hm.at_ (j := 0) rfl
  simp only [Nat.add_zero] at hcv hnown
  obtain ⟨csA, tA, fa, hheapA, hcsA⟩ := cell_iff.1 hcv
  have hkA : csA.size ≠ 0 := by intro h; rw [Array.getElem?_eq_none (by omega)] at hcsA; cases hcsA
  obtain ⟨b1, b2, b3⟩ := hH.rel i _ hat
  obtain ⟨hAe, hcap⟩ := hA (by rw [b1, b2]; exact hl)
  rcases Nat.lt_or_ge p n with hpn | hpn
  · have hlne : l ≠ [] := by intro h; rw [h] at hl; simp at hl; omega
    rcases b3 with ⟨-, h, -⟩ | ⟨b, cs, hbase, hheap, hsize, hcm, hle, hxs, hown⟩
    · exact absurd h hlne
    rw [hbase] at hAe
    simp only [Option.map_some] at hAe
    subst hAe
    have hbne : vb ≠ b := fun h => hnown (by rw [h]; exact hown vo)
    rw [← hcap] at hsize hcm
    obtain ⟨xs, hxsd⟩ : ∃ xs, xs = cs.toList.take (n * 2) := ⟨_, rfl⟩
    rw [hl, ← hxsd] at hxs
    have hxl : xs.length = n * 2 := by rw [hxs.length, hl]
    have hxc : ∀ (j : Nat) u, xs[j]? = some u → w.cell? ⟨b, j, none⟩ = some u := fun j u hu => by
      rw [hxsd, List.getElem?_take] at hu
      split at hu
      · exact cell_iff.2 ⟨cs, 79, _, hheap, by simpa using hu⟩
      · cases hu
    have h1c := hxs.one (allOne_mem _ h1)
    have hrel : ∀ (w' : World), Ext g w g w' → LRel g w' (insL l p nm) (xs.take (p * 2) ++ vs ++ xs.drop (p * 2)) := fun w' hx =>
      (((hxs.take (p * 2)).append hvs).append (hxs.drop (p * 2))).ext hx
    have hl' : (insL l p nm).length = (n + 1) * 2 := by simp [insL]; omega
    have hHd : HRel g w.drew (Hp.of H) := hH.keepAll (ext_drew g w) fun _ _ => rfl
    rcases Nat.lt_or_ge cap (n + 1) with hroom | hroom
    · refine Calls.mono (ins_grow b n cap p vb vo 1 xs vs w hpn hncap hroom (lt_size hheapA) (lt_size hheap) hn hxl hvl hxc hvc1 h1c h1v) fun e w2 hw2 => ?_
      obtain ⟨rfl, rfl⟩ := hw2
      obtain ⟨G, hG⟩ : ∃ G, G = grownCap w (n + 1) cap 79 := ⟨_, rfl⟩
      have hGn : n + 1 ≤ G := by rw [hG]; exact grownCap_ge w _ _ _
      have hGm : G ≤ maxLen := by
        have := grownCap_le_maxLen w (n + 1) cap 79 (by unfold maxLen; omega)
        rwa [← hG] at this
      rw [← hG]
      obtain ⟨ROW, hROW⟩ : ∃ ROW : Array Value, ROW = (xs.take (p * 2)).toArray ++ Builtin.zeroCells (Value.agg #[.string ⟨#[]⟩, .slice none 0 0]).cells (n + 1 - p) ++ Builtin.zeroCells (Value.agg #[.string ⟨#[]⟩, .slice none 0 0]).cells (G - (n + 1)) := ⟨_, rfl⟩
      have hRs : ROW.size = G * 2 := by
        rw [hROW]
        simp [Builtin.zeroCells, Value.cells]
        omega
      have hRp : ∀ j, j < p * 2 → ROW[j]? = xs[j]? := fun j hj => by
        rw [hROW, Array.getElem?_append, if_pos (by simp; omega), Array.getElem?_append, if_pos (by simp; omega)]
        simp [List.getElem?_take, hj]
      rw [← hROW]
      have hdl : (xs.drop (p * 2)).length = (n - p) * 2 := by simp; omega
      obtain ⟨R1, hR1⟩ : ∃ R1, R1 = hole ROW (p * 2) vs := ⟨_, rfl⟩
      have hs1 : p * 2 + vs.length ≤ ROW.size := by omega
      have hR1s : R1.size = G * 2 := by rw [hR1, hole_size hs1, hRs]
      have e1 : (w.alloc (.cells ROW 79)).drew.setCells w.heap.size (p * 2) vs = w.drew.alloc (.cells R1 79) := by
        have := setCells_hole (w.drew.alloc (.cells ROW 79)) w.heap.size (p * 2) 79 ROW vs (heap_alloc_new w.drew _) hs1 h1v
        rw [hR1]
        exact this.trans (setRow_alloc w.drew 79 _ _)
      have e2 : (w.drew.alloc (.cells R1 79)).drew.setCells w.heap.size ((p + 1) * 2) (xs.drop (p * 2)) = w.drew.drew.alloc (.cells (hole R1 ((p + 1) * 2) (xs.drop (p * 2))) 79) := by
        have := setCells_hole (w.drew.drew.alloc (.cells R1 79)) w.heap.size ((p + 1) * 2) 79 R1 (xs.drop (p * 2)) (heap_alloc_new w.drew.drew _) (by omega) (fun v hv => h1c v (List.mem_of_mem_drop hv))
        exact this.trans (setRow_alloc w.drew.drew 79 _ _)
      rw [e1, e2]
      have htk := grow_take xs ROW n p vs hvl hxl hp (by omega) hRp
      rw [← hR1] at htk
      obtain ⟨g', q1, q2, q3⟩ := vec_new (w := w.drew) (sz := 1) (n := n + 1) (cap' := G) (cur' := hole R1 ((p + 1) * 2) (xs.drop (p * 2))) hHd hat hl (len' := (n + 1) * 2) (by omega) hl' rfl hGn hGm (by rw [hole_size (by omega), hR1s]) (by rw [htk]; exact hrel _ (ext_drew g w)) hput
      exact ⟨_, _, g', _, rfl, ⟨rfl, rfl⟩, q1, q2, (ext_drew g w).trans q3⟩
    · have hmx : cap ≤ 9223372036854775807 := by unfold maxLen at hcm; omega
      refine Calls.mono (ins_shift b n cap p vb vo 1 xs vs w hpn hroom hmx hbne hn hxl hvl hxc (fun j hj => by
          have : w.cell? ⟨b, j, none⟩ = some (cs[j]'(by omega)) := cell_iff.2 ⟨cs, 79, _, hheap, by simp⟩
          rw [this]; rfl) (fun j => by simp [World.frozen?, hheap]) hvc1 h1c h1v hheapA hheap hkA (by omega)) fun e w2 hw2 => ?_
      obtain ⟨rfl, rfl⟩ := hw2
      have hdl : (xs.drop (p * 2)).length = (n - p) * 2 := by simp; omega
      have hs1 : (p + 1) * 2 + (xs.drop (p * 2)).length ≤ cs.size := by omega
      have e1 : w.drew.setCells b ((p + 1) * 2) (xs.drop (p * 2)) = w.drew.setRow b (hole cs ((p + 1) * 2) (xs.drop (p * 2))) :=
        setCells_hole _ _ _ 79 cs _ hheap hs1 (fun v hv => h1c v (List.mem_of_mem_drop hv))
      rw [e1, setCells_hole _ _ _ 79 _ vs (setRow_at w.drew b 79 cs _ hheap) (by rw [hole_size hs1]; omega) h1v, setRow_setRow]
      have htk := shift_take cs n p vs hvl hp (by omega)
      rw [← hxsd] at htk
      obtain ⟨g', q1, q2, q3⟩ := vec_room (w := w.drew) (sz := 1) (n := n + 1) (cap := cap) (b := b) (cs := cs) (cur' := hole (hole cs ((p + 1) * 2) (xs.drop (p * 2))) (p * 2) vs) hHd hat (len' := (n + 1) * 2) (by omega) hl hl' rfl hroom hbase hcap.symm hheap
        (by rw [hole_size (by rw [hole_size hs1]; omega), hole_size hs1]) (by rw [htk]; exact hrel _ (ext_drew g w)) hput
      exact ⟨_, _, g', _, rfl, ⟨rfl, rfl⟩, q1, q2, (ext_drew g w).trans q3⟩
  · have hpn' : p = n := by omega
    subst hpn'
    have hc2 := wk_sx 1 [.str nm, .nils] g w _ hvc0
    have hins : insL l p nm = l ++ [.str nm, .nils] := by simp [insL, List.take_of_length_le (Nat.le_of_eq hl), List.drop_of_length_le (Nat.le_of_eq hl)]
    rw [hins] at hput ⊢
    have hTm : (Try.T 79).map (fun e => (e.zero, e.sz, e.bytes)) = some (some [.str ⟨#[]⟩, .nils], 2, 40) := by kernel_rfl
    obtain ⟨ei, hei, hem⟩ := Option.map_eq_some_iff.1 hTm
    simp only [Prod.mk.injEq] at hem
    obtain ⟨m1, m2, m3⟩ := hem
    have hT2 : (Try.T 22).map (fun e => e.kind) = some (.sl 79) := by kernel_rfl
    obtain ⟨ti, hti, htk⟩ := Option.map_eq_some_iff.1 hT2
    obtain ⟨c', g', w', hrun, q1, q2, q3⟩ := vec_core (t := 22) (ty := 22) Try.T_ok hH hti htk hei m1 m2 m2.symm hat hl hva0 hc2 rfl rfl (by rw [m3]; omega) (by unfold maxLen; omega) hput
    have hAA : (A = none ∧ p = 0 ∧ cap = 0) ∨ ∃ b, A = some ⟨b, 0, none⟩ := by
      rcases b3 with ⟨h, h0, h2⟩ | ⟨b, cs, hbase, _⟩
      · rw [h] at hAe
        subst h0
        simp at hl
        exact .inl ⟨hAe, by omega, by omega⟩
      · rw [hbase] at hAe
        exact .inr ⟨b, hAe⟩
    refine Calls.mono (ins_end A p cap vb vo w w' c' hAA hncap hrun) fun e w2 hw2 => ?_
    obtain ⟨rfl, rfl⟩ := hw2
    exact ⟨_, _, g', _, rfl, ⟨rfl, rfl⟩, q1, q2, q3⟩
end Go.Proofs.Ytgopbbkpcjgihaa
/-! text W38 -/
namespace Go.Proofs.Ytgopbbkpcjgihaa
open Go.Vsi
set_option maxHeartbeats 4000000
set_option linter.unusedSimpArgs false
attribute [local irreducible] VW VCall VO bits

theorem take_drop_q {l : List Ser} {q k : Nat} (h : q < k) (hk : k ≤ l.length) : l.take k = l.take q ++ (l.getD q ser0 :: (l.take k).drop (q + 1)) := by
  have h1 : (l.take k).take q = l.take q := by rw [List.take_take, Nat.min_eq_left (by omega)]
  have h2 : (l.take k).drop q = l.getD q ser0 :: (l.take k).drop (q + 1) := by
    rw [List.drop_eq_getElem_cons (by rw [List.length_take]; omega), List.getElem_take]
    congr 1
    simp [List.getElem?_eq_getElem (show q < l.length by omega)]
  rw [← h2, ← h1, List.take_append_drop]
theorem cpyL_wk (l : List Ser) (q t k : Nat) (hk : k ≤ l.length) : WkL (cpyL l q t k) ((l.take k).flatMap Ser.cells) := by
  unfold cpyL
  split
  · exact .id _
  · rename_i h
    refine Eq.mpr (congrArg (fun m => WkL _ (m.flatMap Ser.cells)) (take_drop_q (q := q) (by omega) hk)) ?_
    rw [List.flatMap_append, List.flatMap_cons]
    exact .app (.id _) (.app ⟨Wk.refl _, wk_sl _ _ _, trivial⟩ (.id _))
theorem bsearchW (l : List Ser) (hl : l.length ≤ 1000000) (hs : SrtS l) (ex : ByteArray) (q t i : Nat) (H : Heap) (hi : H[i]? = some (.vec 79 2 (cpyL l q t l.length))) :
    VDet Try.prog 41 [.vs i l.length, .str ex, .clo (.func 42) [] []] H (.tup [.int .i64 (posF l ex : Nat), .bool (fndF l ex)]) := by
  refine VDet.lend (as' := [.sl none l.length (cpyL l q t l.length), .str ex, .clo (.func 42) [] []]) (fun H => VDet.wk (bsearch_c l hl hs ex H) ⟨wk_slL (by
    have := cpyL_wk l q t l.length (Nat.le_refl _)
    rwa [List.take_length] at this), Wk.refl _, Wk.refl _, trivial⟩) (.cons (.vs hi (cpyL_len (Nat.le_refl _)) (.refl _)) (.cons (.refl _) (.cons (.refl _) .nil))) rfl
def insS (l : List Ser) (ex : ByteArray) (v : Ver) : List Ser := if fndF l ex then l.set (posF l ex) ⟨(l.getD (posF l ex) ser0).name, (l.getD (posF l ex) ser0).vers ++ [v]⟩ else l.take (posF l ex) ++ (⟨ex, [v]⟩ :: l.drop (posF l ex))
theorem setL_at (A B : List AV) (x y z : AV) (n : Nat) (h : A.length = n * 2) : setL (A ++ (x :: y :: B)) (n * 2 + 1) [z] = A ++ (x :: z :: B) := by
  unfold setL
  rw [← h]
  have e1 : (A ++ (x :: y :: B)).take (A.length + 1) = A ++ [x] := by
    rw [List.take_append, List.take_of_length_le (Nat.le_succ _)]
    simp
  have e2 : (A ++ (x :: y :: B)).drop (A.length + 1 + [z].length) = B := by
    rw [List.drop_append, List.drop_eq_nil_of_le (by simp only [List.length_cons, List.length_nil]; omega), show A.length + 1 + [z].length - A.length = 2 by simp only [List.length_cons, List.length_nil]; omega]
    rfl
  rw [e1, e2]
  simp
theorem cpyL_q {l : List Ser} {q t : Nat} (h : q < l.length) : cpyL l q t l.length = (l.take q).flatMap Ser.cells ++ (.str (l.getD q ser0).name :: .sl (some t) (l.getD q ser0).vers.length ((l.getD q ser0).vers.flatMap Ver.cells) :: (l.drop (q + 1)).flatMap Ser.cells) := by
  unfold cpyL
  rw [if_neg (by omega), List.take_length]
  rfl
theorem cpyL_n {l : List Ser} {t : Nat} : cpyL l l.length t l.length = l.flatMap Ser.cells := by
  unfold cpyL
  rw [if_pos (Nat.le_refl _), List.take_length]
theorem flat_takeS (l : List Ser) (p : Nat) (hp : p ≤ l.length) : (l.flatMap Ser.cells).take (p * 2) = (l.take p).flatMap Ser.cells ∧ (l.flatMap Ser.cells).drop (p * 2) = (l.drop p).flatMap Ser.cells := by
  have hl : ((l.take p).flatMap Ser.cells).length = p * 2 := by rw [flat_length ser_size, List.length_take, Nat.min_eq_left hp]
  have e : l.flatMap Ser.cells = (l.take p).flatMap Ser.cells ++ (l.drop p).flatMap Ser.cells := by rw [← List.flatMap_append, List.take_append_drop]
  rw [e, ← hl]
  exact ⟨by rw [List.take_left'  rfl], by rw [List.drop_left' rfl]⟩
theorem put_found (l : List Ser) (ex : ByteArray) (v : Ver) (t : Nat) (hf : fndF l ex = true) : WkL (setL (cpyL l (posF l ex) t l.length) (posF l ex * 2 + 1) [.sl (some t) ((l.getD (posF l ex) ser0).vers.length + 1) ((l.getD (posF l ex) ser0).vers.flatMap Ver.cells ++ v.cells)]) ((insS l ex v).flatMap Ser.cells) := by
  have hp : posF l ex < l.length := by
    unfold fndF at hf
    simp only [Bool.and_eq_true, decide_eq_true_eq] at hf
    exact hf.1
  rw [cpyL_q hp, setL_at _ _ _ _ _ _ (by rw [flat_length ser_size, List.length_take, Nat.min_eq_left (by omega)])]
  unfold insS
  rw [if_pos hf, List.set_eq_take_append_cons_drop, if_pos hp, List.flatMap_append, List.flatMap_cons]
  refine .app (.id _) (.app (a := [_, _]) ⟨Wk.refl _, ?_, trivial⟩ (.id _))
  have : (Ser.mk (l.getD (posF l ex) ser0).name ((l.getD (posF l ex) ser0).vers ++ [v])).vers.length = (l.getD (posF l ex) ser0).vers.length + 1 := by simp
  simp only [List.length_append, List.length_cons, List.length_nil, List.flatMap_append, List.flatMap_cons, List.flatMap_nil, List.append_nil]
  exact wk_sl _ _ _
theorem put_new (l : List Ser) (ex : ByteArray) (v : Ver) (t : Option Nat) (hf : fndF l ex = false) : WkL (setL (insL (l.flatMap Ser.cells) (posF l ex) ex) (posF l ex * 2 + 1) [.sl t 1 v.cells]) ((insS l ex v).flatMap Ser.cells) := by
  have hp := posF_le l ex
  obtain ⟨e1, e2⟩ := flat_takeS l _ hp
  unfold insL
  rw [e1, e2, List.append_assoc]
  rw [show ([AV.str ex, AV.nils] ++ (l.drop (posF l ex)).flatMap Ser.cells) = AV.str ex :: AV.nils :: (l.drop (posF l ex)).flatMap Ser.cells from rfl, setL_at _ _ _ _ _ _ (by rw [flat_length ser_size, List.length_take, Nat.min_eq_left hp])]
  unfold insS
  rw [hf]
  simp only [Bool.false_eq_true, if_false]
  rw [List.flatMap_append, List.flatMap_cons]
  refine .app (.id _) (.app (a := [_, _]) ⟨Wk.refl _, ?_, trivial⟩ (.id _))
  simp only [List.length_cons, List.length_nil, List.flatMap_cons, List.flatMap_nil, List.append_nil]
  exact wk_sl _ _ _
theorem insS_len (l : List Ser) (ex : ByteArray) (v : Ver) : (insS l ex v).length = if fndF l ex then l.length else l.length + 1 := by
  have hp := posF_le l ex
  unfold insS
  split
  · simp
  · simp
    omega
end Go.Proofs.Ytgopbbkpcjgihaa
/-! text X38 -/
namespace Go.Proofs.Ytgopbbkpcjgihaa
open Go.Vsi
set_option maxHeartbeats 4000000
set_option linter.unusedSimpArgs false
attribute [local irreducible] VW VCall VO bits

def bk0 : Bk := ⟨[], []⟩
def pubIn (b : Bk) (ex : ByteArray) (v : Ver) : Bool := validF b && (isName ex && (isDay v.at_ && validB v.sch))
def pubLate (b : Bk) (ex : ByteArray) (v : Ver) : Bool := (serF b ex).isSome && decide (v.at_ ≤ (((serF b ex).getD ser0).vers.getD (((serF b ex).getD ser0).vers.length - 1) ver0).at_)
def pubPast (b : Bk) (v : Ver) : Bool := decide (0 < b.ent.length) && decide (v.at_ ≤ (b.ent.getD (b.ent.length - 1) ent0).day)
def pubFull (b : Bk) (ex : ByteArray) : Bool := decide (20 ≤ ((serF b ex).getD ser0).vers.length) || (!(serF b ex).isSome && decide (40 ≤ b.ser.length))
def pubE (b : Bk) (ex : ByteArray) (v : Ver) : Int := if pubIn b ex v then (if pubLate b ex v then 380 else if pubPast b v then 380 else if pubFull b ex then 5 else 0) else 2
def pubF (b : Bk) (ex : ByteArray) (v : Ver) : Bk := if pubE b ex v = 0 then ⟨insS b.ser ex v, b.ent⟩ else bk0
theorem serF_mem {b : Bk} {ex : ByteArray} {s : Ser} (h : serF b ex = some s) : s ∈ b.ser ∧ s.name = ex := by
  have := lastF_some h
  exact ⟨this.1, eqS_iff.1 this.2⟩
theorem publish_in (b : Bk) (hb : b.Sm) (ex : ByteArray) (v : Ver) (hi : pubIn b ex v = false) (H : Heap) : VDet Try.prog 13 [.agg b.cells, .str ex, .agg v.cells] H (.tup [.agg bk0.cells, .int .i64 2]) := by
  have hva := fun H => validBk_c b hb H
  have hsc := fun H => valid_c v.sch H
  have hcb : b.cells = [.sl none b.ser.length (b.ser.flatMap Ser.cells), .sl none b.ent.length (b.ent.flatMap Ent.cells)] := rfl
  unfold pubIn at hi
  obtain ⟨at_, pts, part, att, rty, hnt, cnt, lates, hv1⟩ := ver_ex v
  rw [hv1] at hi hsc
  rw [ver_cells hv1]
  unfold Sch.cells at hsc
  simp only at hi hsc
  rw [hcb] at hva ⊢
  cases hV : validF b <;> rw [hV] at hva hi
  · refine fn_det Try.E0 Try.mx Try.func13 (by kernel_rfl) rfl (Nat.le_of_ble_eq_true rfl) rfl fun hcl hbl => ?_
    (repeat' ((conv => whnf); (first | (refine IfN.id ?_; first | refine IfN.not ?_ | refine IfN.ff rfl ?_ | fail) | (refine CallN.id ?_; first | refine CallN.det _ (hva _) ?_ | fail) | refine DrawN.mk' [] ?_ | fail))); all_goals (conv => whnf)
    exact EndN.det (by simp [below, belowL, bk0, Bk.cells]) (by simp only [bk0, Bk.cells]; (repeat' (first | exact trivial | refine And.intro ?_ ?_ | exact Wk.refl _ | exact wk_sl _ _ _ | exact wk_sx _ _ | exact wk_nils | refine wk_agg ?_ | refine wk_tup ?_ | fail)); done)
  · cases hN : isName ex <;> rw [hN] at hi
    · refine fn_det Try.E0 Try.mx Try.func13 (by kernel_rfl) rfl (Nat.le_of_ble_eq_true rfl) rfl fun hcl hbl => ?_
      (repeat' ((conv => whnf); (first | (refine IfN.id ?_; first | refine IfN.not ?_ | refine IfN.tt rfl ?_ | refine IfN.ff (by assumption) ?_ | fail) | (refine CallN.id ?_; first | refine CallN.det _ (hva _) ?_ | refine CallN.det _ (isName_c _ _) ?_ | fail) | refine DrawN.mk' [] ?_ | fail))); all_goals (conv => whnf)
      exact EndN.det (by simp [below, belowL, bk0, Bk.cells]) (by simp only [bk0, Bk.cells]; (repeat' (first | exact trivial | refine And.intro ?_ ?_ | exact Wk.refl _ | exact wk_sl _ _ _ | exact wk_sx _ _ | exact wk_nils | refine wk_agg ?_ | refine wk_tup ?_ | fail)); done)
    · cases hD : isDay at_ <;> rw [hD] at hi
      · refine fn_det Try.E0 Try.mx Try.func13 (by kernel_rfl) rfl (Nat.le_of_ble_eq_true rfl) rfl fun hcl hbl => ?_
        (repeat' ((conv => whnf); (first | (refine IfN.id ?_; first | refine IfN.not ?_ | refine IfN.tt rfl ?_ | refine IfN.tt (by assumption) ?_ | refine IfN.ff (by assumption) ?_ | fail) | (refine CallN.id ?_; first | refine CallN.det _ (hva _) ?_ | refine CallN.det _ (isName_c _ _) ?_ | refine CallN.det _ (isDay_c _ _) ?_ | fail) | refine DrawN.mk' [] ?_ | fail))); all_goals (conv => whnf)
        exact EndN.det (by simp [below, belowL, bk0, Bk.cells]) (by simp only [bk0, Bk.cells]; (repeat' (first | exact trivial | refine And.intro ?_ ?_ | exact Wk.refl _ | exact wk_sl _ _ _ | exact wk_sx _ _ | exact wk_nils | refine wk_agg ?_ | refine wk_tup ?_ | fail)); done)
      · have hS : validB ⟨pts, part, att, rty, hnt, cnt, lates⟩ = false := by simpa using hi
        rw [hS] at hsc
        refine fn_det Try.E0 Try.mx Try.func13 (by kernel_rfl) rfl (Nat.le_of_ble_eq_true rfl) rfl fun hcl hbl => ?_
        (repeat' ((conv => whnf); (first | (refine IfN.id ?_; first | refine IfN.not ?_ | refine IfN.tt rfl ?_ | refine IfN.ff rfl ?_ | refine IfN.tt (by assumption) ?_ | fail) | (refine CallN.id ?_; first | refine CallN.det _ (hva _) ?_ | refine CallN.det _ (isName_c _ _) ?_ | refine CallN.det _ (isDay_c _ _) ?_ | refine CallN.det _ (hsc _) ?_ | fail) | refine DrawN.mk' [] ?_ | fail))); all_goals (conv => whnf)
        exact EndN.det (by simp [below, belowL, bk0, Bk.cells]) (by simp only [bk0, Bk.cells]; (repeat' (first | exact trivial | refine And.intro ?_ ?_ | exact Wk.refl _ | exact wk_sl _ _ _ | exact wk_sx _ _ | exact wk_nils | refine wk_agg ?_ | refine wk_tup ?_ | fail)); done)
theorem bk0_below (n : Nat) (e : Int) : below n (.tup [.agg bk0.cells, .int .i64 e]) := by simp [below, belowL, bk0, Bk.cells]
theorem bk0_wk (e : Int) : Wk (.tup [.agg [.nils, .nils], .int .i64 e]) (.tup [.agg bk0.cells, .int .i64 e]) := by
  simp only [bk0, Bk.cells]
  (repeat' (first | exact trivial | refine And.intro ?_ ?_ | exact Wk.refl _ | exact wk_sl _ _ _ | exact wk_sx _ _ | exact wk_nils | refine wk_agg ?_ | refine wk_tup ?_ | fail)); done
theorem publish_no (b : Bk) (hb : b.Sm) (ex : ByteArray) (v : Ver) (hi : pubIn b ex v = true) (e : Int) (he : e = 380 ∨ e = 5) (hE : pubE b ex v = e) (H : Heap) : VDet Try.prog 13 [.agg b.cells, .str ex, .agg v.cells] H (.tup [.agg bk0.cells, .int .i64 e]) := by
  have hva := fun H => validBk_c b hb H
  have hsc := fun H => valid_c v.sch H
  have hse := fun H => series_c b hb.ser ex H
  have hcb : b.cells = [.sl none b.ser.length (b.ser.flatMap Ser.cells), .sl none b.ent.length (b.ent.flatMap Ent.cells)] := rfl
  unfold pubE at hE
  rw [hi] at hE
  simp only [if_true] at hE
  unfold pubIn at hi
  simp only [Bool.and_eq_true] at hi
  obtain ⟨hV, hN, hD, hS⟩ := hi
  have hvb := validF_iff.1 hV
  rw [hV] at hva
  rw [hS] at hsc
  have hns := hvb.ns
  have hv20 : ((serF b ex).getD ser0).vers.length ≤ 20 := by
    cases hs : serF b ex with
    | none => exact Nat.zero_le _
    | some s => exact (hvb.vs s (serF_mem hs).1).le
  have hser : (serF b ex).isSome = true → 1 ≤ ((serF b ex).getD ser0).vers.length := fun h => by
    obtain ⟨s, hs⟩ := Option.isSome_iff_exists.1 h
    rw [hs]
    exact (hvb.vs s (serF_mem hs).1).ne
  have hnn := hvb.ne
  unfold pubLate at hE
  unfold pubPast at hE
  unfold pubFull at hE
  obtain ⟨nm, vs, hs1⟩ := ser_ex ((serF b ex).getD ser0)
  have es := ser_cells hs1
  rw [hs1] at hser hE hv20
  rw [es] at hse
  simp only at hser hE hv20
  obtain ⟨at2, pts2, part2, att2, rty2, hnt2, cnt2, lates2, hv2⟩ := ver_ex (vs.getD (vs.length - 1) ver0)
  have e2 := ver_cells hv2
  rw [hv2] at hE
  obtain ⟨stu, exe, day, a1, a2, a3, a4, hv3⟩ := ent_ex (b.ent.getD (b.ent.length - 1) ent0)
  have e3 := ent_cells hv3
  rw [hv3] at hE
  obtain ⟨at_, pts, part, att, rty, hnt, cnt, lates, hv1⟩ := ver_ex v
  rw [hv1] at hsc hE hD
  rw [ver_cells hv1]
  unfold Sch.cells at hsc
  simp only at hsc hE hD
  rw [hcb] at hva ⊢
  cases hF : (serF b ex).isSome <;> rw [hF] at hse hE hser
  · have hv0 : vs = [] := by
      have : serF b ex = none := by simpa using hF
      rw [this] at hs1
      cases hs1
      rfl
    subst hv0
    by_cases hP : 0 < b.ent.length
    · by_cases hQ : at_ ≤ day
      · have : e = 380 := by simpa [hP, hQ] using hE.symm
        subst this
        refine fn_det Try.E0 Try.mx Try.func13 (by kernel_rfl) rfl (Nat.le_of_ble_eq_true rfl) rfl fun hcl hbl => ?_
        (repeat' ((conv => whnf); (first | (refine IfN.id ?_; first | refine IfN.not ?_ | refine IfN.tt rfl ?_ | refine IfN.ff rfl ?_ | refine IfN.dT (by omega) ?_ | refine IfN.tt (by assumption) ?_ | fail) | (refine EqN.id ?_; first | (refine EqN.subN _ _ (by first | with_reducible rfl | with_reducible exact cst1 | with_reducible exact cst0 | with_reducible exact cst2 | with_reducible exact cst3 | with_reducible exact cst4 | with_reducible exact cst5 | with_reducible exact cst6 | with_reducible exact cst7 | with_reducible exact cst8 | with_reducible exact cst14 | with_reducible exact cst15 | with_reducible exact cst25 | with_reducible exact cst30 | with_reducible exact cst31 | fail) (by first | with_reducible rfl | with_reducible exact cst1 | with_reducible exact cst0 | with_reducible exact cst2 | with_reducible exact cst3 | with_reducible exact cst4 | with_reducible exact cst5 | with_reducible exact cst6 | with_reducible exact cst7 | with_reducible exact cst8 | with_reducible exact cst14 | with_reducible exact cst15 | with_reducible exact cst25 | with_reducible exact cst30 | with_reducible exact cst31 | fail) ?_ ?_; · (repeat' (first | omega | refine And.intro ?_ ?_ | exact bnd_andl (by omega) | exact bnd_andr (by omega) | refine bnd_or ?_ ?_ | refine bnd_or31 ?_ ?_ | refine bnd_xor ?_ ?_ | refine bnd_xor31 ?_ ?_ | refine bnd_shr ?_ | refine bnd_shl ?_ ?_ | refine bnd_mod ?_ | refine bnd_andl ?_ | fail))) | fail) | (refine SideN.mk ?_ ?_; · first | kernel_rfl | omega | exact List.cons_ne_nil _ _ | (simp; done) | (simp; omega) | exact trivial | assumption | fail) | (refine CallN.id ?_; first | refine CallN.det _ (hva _) ?_ | refine CallN.det _ (isName_c _ _) ?_ | refine CallN.det _ (isDay_c _ _) ?_ | refine CallN.det _ (hsc _) ?_ | refine CallN.det _ (hse _) ?_ | fail) | refine SegN.nthE ent0 (b.ent.length - 1) (by omega) (by omega) ent_size e3 ?_ | refine DrawN.mk' [] ?_ | fail))); all_goals (conv => whnf)
        exact EndN.det (bk0_below _ _) (bk0_wk _)
      · have h5 : 40 ≤ b.ser.length ∧ e = 5 := by
          by_cases h : 40 ≤ b.ser.length <;> simp [hP, hQ, h] at hE <;> omega
        obtain ⟨h5, rfl⟩ := h5
        refine fn_det Try.E0 Try.mx Try.func13 (by kernel_rfl) rfl (Nat.le_of_ble_eq_true rfl) rfl fun hcl hbl => ?_
        (repeat' ((conv => whnf); (first | (refine IfN.id ?_; first | refine IfN.not ?_ | refine IfN.tt rfl ?_ | refine IfN.ff rfl ?_ | refine IfN.dT (by omega) ?_ | refine IfN.dF (by omega) ?_ | refine IfN.tt (by assumption) ?_ | fail) | (refine EqN.id ?_; first | (refine EqN.subN _ _ (by first | with_reducible rfl | with_reducible exact cst1 | with_reducible exact cst0 | with_reducible exact cst2 | with_reducible exact cst3 | with_reducible exact cst4 | with_reducible exact cst5 | with_reducible exact cst6 | with_reducible exact cst7 | with_reducible exact cst8 | with_reducible exact cst14 | with_reducible exact cst15 | with_reducible exact cst25 | with_reducible exact cst30 | with_reducible exact cst31 | fail) (by first | with_reducible rfl | with_reducible exact cst1 | with_reducible exact cst0 | with_reducible exact cst2 | with_reducible exact cst3 | with_reducible exact cst4 | with_reducible exact cst5 | with_reducible exact cst6 | with_reducible exact cst7 | with_reducible exact cst8 | with_reducible exact cst14 | with_reducible exact cst15 | with_reducible exact cst25 | with_reducible exact cst30 | with_reducible exact cst31 | fail) ?_ ?_; · (repeat' (first | omega | refine And.intro ?_ ?_ | exact bnd_andl (by omega) | exact bnd_andr (by omega) | refine bnd_or ?_ ?_ | refine bnd_or31 ?_ ?_ | refine bnd_xor ?_ ?_ | refine bnd_xor31 ?_ ?_ | refine bnd_shr ?_ | refine bnd_shl ?_ ?_ | refine bnd_mod ?_ | refine bnd_andl ?_ | fail))) | fail) | (refine SideN.mk ?_ ?_; · first | kernel_rfl | omega | exact List.cons_ne_nil _ _ | (simp; done) | (simp; omega) | exact trivial | assumption | fail) | (refine CallN.id ?_; first | refine CallN.det _ (hva _) ?_ | refine CallN.det _ (isName_c _ _) ?_ | refine CallN.det _ (isDay_c _ _) ?_ | refine CallN.det _ (hsc _) ?_ | refine CallN.det _ (hse _) ?_ | fail) | refine SegN.nthE ent0 (b.ent.length - 1) (by omega) (by omega) ent_size e3 ?_ | refine DrawN.mk' [] ?_ | fail))); all_goals (conv => whnf)
        exact EndN.det (bk0_below _ _) (bk0_wk _)
    · have h5 : 40 ≤ b.ser.length ∧ e = 5 := by
        by_cases h : 40 ≤ b.ser.length <;> simp [hP, h] at hE <;> omega
      obtain ⟨h5, rfl⟩ := h5
      refine fn_det Try.E0 Try.mx Try.func13 (by kernel_rfl) rfl (Nat.le_of_ble_eq_true rfl) rfl fun hcl hbl => ?_
      (repeat' ((conv => whnf); (first | (refine IfN.id ?_; first | refine IfN.not ?_ | refine IfN.tt rfl ?_ | refine IfN.ff rfl ?_ | refine IfN.dT (by omega) ?_ | refine IfN.dF (by omega) ?_ | refine IfN.tt (by assumption) ?_ | fail) | (refine SideN.mk ?_ ?_; · first | kernel_rfl | omega | exact List.cons_ne_nil _ _ | (simp; done) | (simp; omega) | exact trivial | assumption | fail) | (refine CallN.id ?_; first | refine CallN.det _ (hva _) ?_ | refine CallN.det _ (isName_c _ _) ?_ | refine CallN.det _ (isDay_c _ _) ?_ | refine CallN.det _ (hsc _) ?_ | refine CallN.det _ (hse _) ?_ | fail) | refine DrawN.mk' [] ?_ | fail))); all_goals (conv => whnf)
      exact EndN.det (bk0_below _ _) (bk0_wk _)
  · have hpos := hser rfl
    by_cases hL : at_ ≤ at2
    · have : e = 380 := by simpa [hL] using hE.symm
      subst this
      refine fn_det Try.E0 Try.mx Try.func13 (by kernel_rfl) rfl (Nat.le_of_ble_eq_true rfl) rfl fun hcl hbl => ?_
      (repeat' ((conv => whnf); (first | (refine IfN.id ?_; first | refine IfN.not ?_ | refine IfN.tt rfl ?_ | refine IfN.dT (by omega) ?_ | refine IfN.tt (by assumption) ?_ | fail) | (refine EqN.id ?_; first | (refine EqN.subN _ _ (by first | with_reducible rfl | with_reducible exact cst1 | with_reducible exact cst0 | with_reducible exact cst2 | with_reducible exact cst3 | with_reducible exact cst4 | with_reducible exact cst5 | with_reducible exact cst6 | with_reducible exact cst7 | with_reducible exact cst8 | with_reducible exact cst14 | with_reducible exact cst15 | with_reducible exact cst25 | with_reducible exact cst30 | with_reducible exact cst31 | fail) (by first | with_reducible rfl | with_reducible exact cst1 | with_reducible exact cst0 | with_reducible exact cst2 | with_reducible exact cst3 | with_reducible exact cst4 | with_reducible exact cst5 | with_reducible exact cst6 | with_reducible exact cst7 | with_reducible exact cst8 | with_reducible exact cst14 | with_reducible exact cst15 | with_reducible exact cst25 | with_reducible exact cst30 | with_reducible exact cst31 | fail) ?_ ?_; · (repeat' (first | omega | refine And.intro ?_ ?_ | exact bnd_andl (by omega) | exact bnd_andr (by omega) | refine bnd_or ?_ ?_ | refine bnd_or31 ?_ ?_ | refine bnd_xor ?_ ?_ | refine bnd_xor31 ?_ ?_ | refine bnd_shr ?_ | refine bnd_shl ?_ ?_ | refine bnd_mod ?_ | refine bnd_andl ?_ | fail))) | fail) | (refine SideN.mk ?_ ?_; · first | kernel_rfl | omega | exact List.cons_ne_nil _ _ | (simp; done) | (simp; omega) | exact trivial | assumption | fail) | (refine CallN.id ?_; first | refine CallN.det _ (hva _) ?_ | refine CallN.det _ (isName_c _ _) ?_ | refine CallN.det _ (isDay_c _ _) ?_ | refine CallN.det _ (hsc _) ?_ | refine CallN.det _ (hse _) ?_ | fail) | refine SegN.nthE ver0 (vs.length - 1) (by omega) (by omega) ver_size e2 ?_ | refine DrawN.mk' [] ?_ | fail))); all_goals (conv => whnf)
      exact EndN.det (bk0_below _ _) (bk0_wk _)
    · by_cases hP : 0 < b.ent.length
      · by_cases hQ : at_ ≤ day
        · have : e = 380 := by simpa [hL, hP, hQ] using hE.symm
          subst this
          refine fn_det Try.E0 Try.mx Try.func13 (by kernel_rfl) rfl (Nat.le_of_ble_eq_true rfl) rfl fun hcl hbl => ?_
          (repeat' ((conv => whnf); (first | (refine IfN.id ?_; first | refine IfN.not ?_ | refine IfN.tt rfl ?_ | refine IfN.dT (by omega) ?_ | refine IfN.dF (by omega) ?_ | refine IfN.tt (by assumption) ?_ | fail) | (refine EqN.id ?_; first | (refine EqN.subN _ _ (by first | with_reducible rfl | with_reducible exact cst1 | with_reducible exact cst0 | with_reducible exact cst2 | with_reducible exact cst3 | with_reducible exact cst4 | with_reducible exact cst5 | with_reducible exact cst6 | with_reducible exact cst7 | with_reducible exact cst8 | with_reducible exact cst14 | with_reducible exact cst15 | with_reducible exact cst25 | with_reducible exact cst30 | with_reducible exact cst31 | fail) (by first | with_reducible rfl | with_reducible exact cst1 | with_reducible exact cst0 | with_reducible exact cst2 | with_reducible exact cst3 | with_reducible exact cst4 | with_reducible exact cst5 | with_reducible exact cst6 | with_reducible exact cst7 | with_reducible exact cst8 | with_reducible exact cst14 | with_reducible exact cst15 | with_reducible exact cst25 | with_reducible exact cst30 | with_reducible exact cst31 | fail) ?_ ?_; · (repeat' (first | omega | refine And.intro ?_ ?_ | exact bnd_andl (by omega) | exact bnd_andr (by omega) | refine bnd_or ?_ ?_ | refine bnd_or31 ?_ ?_ | refine bnd_xor ?_ ?_ | refine bnd_xor31 ?_ ?_ | refine bnd_shr ?_ | refine bnd_shl ?_ ?_ | refine bnd_mod ?_ | refine bnd_andl ?_ | fail))) | fail) | (refine SideN.mk ?_ ?_; · first | kernel_rfl | omega | exact List.cons_ne_nil _ _ | (simp; done) | (simp; omega) | exact trivial | assumption | fail) | (refine CallN.id ?_; first | refine CallN.det _ (hva _) ?_ | refine CallN.det _ (isName_c _ _) ?_ | refine CallN.det _ (isDay_c _ _) ?_ | refine CallN.det _ (hsc _) ?_ | refine CallN.det _ (hse _) ?_ | fail) | refine SegN.nthE ver0 (vs.length - 1) (by omega) (by omega) ver_size e2 ?_ | refine SegN.nthE ent0 (b.ent.length - 1) (by omega) (by omega) ent_size e3 ?_ | refine DrawN.mk' [] ?_ | fail))); all_goals (conv => whnf)
          exact EndN.det (bk0_below _ _) (bk0_wk _)
        · have h5 : 20 ≤ vs.length ∧ e = 5 := by
            by_cases h : 20 ≤ vs.length <;> simp [hL, hP, hQ, h] at hE <;> omega
          obtain ⟨h5, rfl⟩ := h5
          refine fn_det Try.E0 Try.mx Try.func13 (by kernel_rfl) rfl (Nat.le_of_ble_eq_true rfl) rfl fun hcl hbl => ?_
          (repeat' ((conv => whnf); (first | (refine IfN.id ?_; first | refine IfN.not ?_ | refine IfN.tt rfl ?_ | refine IfN.dT (by omega) ?_ | refine IfN.dF (by omega) ?_ | refine IfN.tt (by assumption) ?_ | fail) | (refine EqN.id ?_; first | (refine EqN.subN _ _ (by first | with_reducible rfl | with_reducible exact cst1 | with_reducible exact cst0 | with_reducible exact cst2 | with_reducible exact cst3 | with_reducible exact cst4 | with_reducible exact cst5 | with_reducible exact cst6 | with_reducible exact cst7 | with_reducible exact cst8 | with_reducible exact cst14 | with_reducible exact cst15 | with_reducible exact cst25 | with_reducible exact cst30 | with_reducible exact cst31 | fail) (by first | with_reducible rfl | with_reducible exact cst1 | with_reducible exact cst0 | with_reducible exact cst2 | with_reducible exact cst3 | with_reducible exact cst4 | with_reducible exact cst5 | with_reducible exact cst6 | with_reducible exact cst7 | with_reducible exact cst8 | with_reducible exact cst14 | with_reducible exact cst15 | with_reducible exact cst25 | with_reducible exact cst30 | with_reducible exact cst31 | fail) ?_ ?_; · (repeat' (first | omega | refine And.intro ?_ ?_ | exact bnd_andl (by omega) | exact bnd_andr (by omega) | refine bnd_or ?_ ?_ | refine bnd_or31 ?_ ?_ | refine bnd_xor ?_ ?_ | refine bnd_xor31 ?_ ?_ | refine bnd_shr ?_ | refine bnd_shl ?_ ?_ | refine bnd_mod ?_ | refine bnd_andl ?_ | fail))) | fail) | (refine SideN.mk ?_ ?_; · first | kernel_rfl | omega | exact List.cons_ne_nil _ _ | (simp; done) | (simp; omega) | exact trivial | assumption | fail) | (refine CallN.id ?_; first | refine CallN.det _ (hva _) ?_ | refine CallN.det _ (isName_c _ _) ?_ | refine CallN.det _ (isDay_c _ _) ?_ | refine CallN.det _ (hsc _) ?_ | refine CallN.det _ (hse _) ?_ | fail) | refine SegN.nthE ver0 (vs.length - 1) (by omega) (by omega) ver_size e2 ?_ | refine SegN.nthE ent0 (b.ent.length - 1) (by omega) (by omega) ent_size e3 ?_ | refine DrawN.mk' [] ?_ | fail))); all_goals (conv => whnf)
          exact EndN.det (bk0_below _ _) (bk0_wk _)
      · have h5 : 20 ≤ vs.length ∧ e = 5 := by
          by_cases h : 20 ≤ vs.length <;> simp [hL, hP, h] at hE <;> omega
        obtain ⟨h5, rfl⟩ := h5
        refine fn_det Try.E0 Try.mx Try.func13 (by kernel_rfl) rfl (Nat.le_of_ble_eq_true rfl) rfl fun hcl hbl => ?_
        (repeat' ((conv => whnf); (first | (refine IfN.id ?_; first | refine IfN.not ?_ | refine IfN.tt rfl ?_ | refine IfN.dT (by omega) ?_ | refine IfN.dF (by omega) ?_ | refine IfN.tt (by assumption) ?_ | fail) | (refine EqN.id ?_; first | (refine EqN.subN _ _ (by first | with_reducible rfl | with_reducible exact cst1 | with_reducible exact cst0 | with_reducible exact cst2 | with_reducible exact cst3 | with_reducible exact cst4 | with_reducible exact cst5 | with_reducible exact cst6 | with_reducible exact cst7 | with_reducible exact cst8 | with_reducible exact cst14 | with_reducible exact cst15 | with_reducible exact cst25 | with_reducible exact cst30 | with_reducible exact cst31 | fail) (by first | with_reducible rfl | with_reducible exact cst1 | with_reducible exact cst0 | with_reducible exact cst2 | with_reducible exact cst3 | with_reducible exact cst4 | with_reducible exact cst5 | with_reducible exact cst6 | with_reducible exact cst7 | with_reducible exact cst8 | with_reducible exact cst14 | with_reducible exact cst15 | with_reducible exact cst25 | with_reducible exact cst30 | with_reducible exact cst31 | fail) ?_ ?_; · (repeat' (first | omega | refine And.intro ?_ ?_ | exact bnd_andl (by omega) | exact bnd_andr (by omega) | refine bnd_or ?_ ?_ | refine bnd_or31 ?_ ?_ | refine bnd_xor ?_ ?_ | refine bnd_xor31 ?_ ?_ | refine bnd_shr ?_ | refine bnd_shl ?_ ?_ | refine bnd_mod ?_ | refine bnd_andl ?_ | fail))) | fail) | (refine SideN.mk ?_ ?_; · first | kernel_rfl | omega | exact List.cons_ne_nil _ _ | (simp; done) | (simp; omega) | exact trivial | assumption | fail) | (refine CallN.id ?_; first | refine CallN.det _ (hva _) ?_ | refine CallN.det _ (isName_c _ _) ?_ | refine CallN.det _ (isDay_c _ _) ?_ | refine CallN.det _ (hsc _) ?_ | refine CallN.det _ (hse _) ?_ | fail) | refine SegN.nthE ver0 (vs.length - 1) (by omega) (by omega) ver_size e2 ?_ | refine DrawN.mk' [] ?_ | fail))); all_goals (conv => whnf)
        exact EndN.det (bk0_below _ _) (bk0_wk _)
end Go.Proofs.Ytgopbbkpcjgihaa
/-! text ZA38 -/
namespace Go.Proofs.Ytgopbbkpcjgihaa
open Go.Vsi
set_option maxHeartbeats 4000000
set_option linter.unusedSimpArgs false
attribute [local irreducible] VW VCall VO bits

theorem fnd_iff (b : Bk) (hs : SrtS b.ser) (ex : ByteArray) : fndF b.ser ex = (serF b ex).isSome := by
  rw [Bool.eq_iff_iff]
  unfold fndF serF
  rw [lastF_isSome, Bool.and_eq_true, decide_eq_true_eq]
  constructor
  · rintro ⟨h1, h2⟩
    exact ⟨_, getD_mem ser0 h1, h2⟩
  · rintro ⟨s, hm, he⟩
    obtain ⟨i, hi, rfl⟩ := mem_getD ser0 hm
    have hle : posF b.ser ex ≤ i := by
      rcases Nat.lt_or_ge i (posF b.ser ex) with h | h
      · have := posF_lt h
        rw [eqS_iff.1 he, ltS_irr] at this
        cases this
      · exact h
    rcases Nat.lt_or_ge (posF b.ser ex) i with h | h
    · have h1 := pw_get (d := ser0) hs h hi
      rw [eqS_iff.1 he, posF_ge hs (Nat.le_refl _) (by omega)] at h1
      cases h1
    · have : i = posF b.ser ex := by omega
      subst this
      exact ⟨hi, he⟩
theorem ver_bounds {b : Bk} (h : VB b) : ∀ s ∈ b.ser, s.vers.length ≤ 1000000 ∧ ∀ v ∈ s.vers, v.sch.lates.length ≤ 1000000 := fun s hs => by
  have h1 := (h.vs s hs).le
  refine ⟨by omega, fun v hv => ?_⟩
  have := (valid_facts ((h.vs s hs).sch v hv)).2.2.2.2.2.2.1
  omega
theorem ones_ser : ∀ l : List Ser, allOne (l.flatMap Ser.cells) = true
  | [] => rfl
  | s :: l => by
    have := ones_ser l
    simpa [Ser.cells, allOne, AV.one] using this
theorem publish_new (b : Bk) (hb : b.Sm) (ex : ByteArray) (v : Ver) (hi : pubIn b ex v = true) (hE : pubE b ex v = 0) (hF : (serF b ex).isSome = false) (H : Heap) : VDet Try.prog 13 [.agg b.cells, .str ex, .agg v.cells] H (.tup [.agg (pubF b ex v).cells, .int .i64 0]) := by
  have hpf : pubF b ex v = ⟨insS b.ser ex v, b.ent⟩ := if_pos hE
  rw [hpf]
  have hva := fun H => validBk_c b hb H
  have hsc := fun H => valid_c v.sch H
  have hse := fun H => series_c b hb.ser ex H
  have hcb : b.cells = [.sl none b.ser.length (b.ser.flatMap Ser.cells), .sl none b.ent.length (b.ent.flatMap Ent.cells)] := rfl
  unfold pubE at hE
  rw [hi] at hE
  simp only [if_true] at hE
  unfold pubIn at hi
  simp only [Bool.and_eq_true] at hi
  obtain ⟨hV, hN, hD, hS⟩ := hi
  have hvb := validF_iff.1 hV
  rw [hV] at hva
  rw [hS] at hsc
  have hns := hvb.ns
  have hv20 : ((serF b ex).getD ser0).vers.length ≤ 20 := by
    cases hs : serF b ex with
    | none => exact Nat.zero_le _
    | some s => exact (hvb.vs s (serF_mem hs).1).le
  have hser : (serF b ex).isSome = true → 1 ≤ ((serF b ex).getD ser0).vers.length := fun h => by
    obtain ⟨s, hs⟩ := Option.isSome_iff_exists.1 h
    rw [hs]
    exact (hvb.vs s (serF_mem hs).1).ne
  have hnn := hvb.ne
  unfold pubLate at hE
  unfold pubPast at hE
  unfold pubFull at hE
  obtain ⟨nm, vs, hs1⟩ := ser_ex ((serF b ex).getD ser0)
  have es := ser_cells hs1
  rw [hs1] at hser hE hv20
  rw [es] at hse
  simp only at hser hE hv20
  obtain ⟨at2, pts2, part2, att2, rty2, hnt2, cnt2, lates2, hv2⟩ := ver_ex (vs.getD (vs.length - 1) ver0)
  have e2 := ver_cells hv2
  rw [hv2] at hE
  obtain ⟨stu, exe, day, a1, a2, a3, a4, hv3⟩ := ent_ex (b.ent.getD (b.ent.length - 1) ent0)
  have e3 := ent_cells hv3
  rw [hv3] at hE
  obtain ⟨at_, pts, part, att, rty, hnt, cnt, lates, hv1⟩ := ver_ex v
  rw [hv1] at hsc hE hD
  rw [ver_cells hv1]
  unfold Sch.cells at hsc
  simp only at hsc hE hD
  rw [hcb] at hva ⊢
  rw [hF] at hse hE hser
  have hfn : fndF b.ser ex = false := by rw [fnd_iff b hvb.srt, hF]
  have hv0 : vs = [] := by
    have : serF b ex = none := by simpa using hF
    rw [this] at hs1
    cases hs1
    rfl
  subst hv0
  have hq : (0 < b.ent.length → ¬ at_ ≤ day) ∧ b.ser.length < 40 := by
    by_cases hP : 0 < b.ent.length <;> by_cases hQ : at_ ≤ day <;> by_cases h : 40 ≤ b.ser.length <;> simp [hP, hQ, h] at hE ⊢ <;> omega
  obtain ⟨hq, hlt⟩ := hq
  have hcp := fun H => copyBook_c b hb (by omega) (by omega) (ver_bounds hvb) b.ser.length H
  have hbs := fun i H (hi : H[i]? = some (.vec 79 2 (b.ser.flatMap Ser.cells))) => bsearchW b.ser (by omega) hvb.srt ex b.ser.length 0 i H (by rw [cpyL_n]; exact hi)
  rw [hfn] at hbs
  have hcp2 : ∀ B1 B2 B3 B4 : Blk, VCall Try.prog 39 [.agg b.cells] (H ++ [B1, B2, B3, B4]) fun r H' => r = .agg [.vs (H.length + 7) b.ser.length, .sl none b.ent.length (b.ent.flatMap Ent.cells)] ∧
      H' = (H ++ [B1, B2, B3, B4]) ++ [.box 25 b.cells, .box 25 [.vs (H.length + 7) b.ser.length, .sl none b.ent.length (b.ent.flatMap Ent.cells)], .box 25 [.vs (H.length + 7) b.ser.length, .sl none b.ent.length (b.ent.flatMap Ent.cells)], .vec 79 2 (b.ser.flatMap Ser.cells)] := fun B1 B2 B3 B4 =>
    VCall.mono (hcp _) fun r H' ⟨hr, hH⟩ => by
      have e : (H ++ [B1, B2, B3, B4]).length = H.length + 4 := by simp
      rw [e] at hr hH
      refine ⟨hr, hH.trans ?_⟩
      unfold cpyK cpyX
      rw [cpyL_n, if_pos (Nat.le_refl _)]
      rfl
  have hco := fun H => copyS_c ⟨pts, part, att, rty, hnt, cnt, lates⟩ (by
    have := (valid_facts hS).2.2.2.2.2.2.1
    rw [hv1] at this
    simp only at this ⊢
    omega) H
  have hins := fun i H hi => insert_c ex i b.ser.length (posF b.ser ex) (b.ser.flatMap Ser.cells) H hi (flat_length ser_size _) (posF_le _ _) (by omega) (ones_ser _)
  have hpl := posF_le b.ser ex
  have hil : (insL (b.ser.flatMap Ser.cells) (posF b.ser ex) ex).length = (b.ser.length + 1) * 2 := by
    have := flat_length ser_size b.ser
    unfold insL
    rw [List.length_append, List.length_append, List.length_take, List.length_drop, this]
    simp only [List.length_cons, List.length_nil]
    omega
  have hin : insL (b.ser.flatMap Ser.cells) (posF b.ser ex) ex ≠ [] := fun h => by rw [h] at hil; simp at hil
  have hseg : Seg (insL (b.ser.flatMap Ser.cells) (posF b.ser ex) ex) (posF b.ser ex * 2 + 1) (.nils :: (b.ser.flatMap Ser.cells).drop (posF b.ser ex * 2)) := ⟨[], by
    have h1 := flat_length ser_size b.ser
    have h2 : ((b.ser.flatMap Ser.cells).take (posF b.ser ex * 2)).length = posF b.ser ex * 2 := by rw [List.length_take]; omega
    unfold insL
    rw [List.append_assoc, List.drop_append, List.drop_eq_nil_of_le (by omega), h2, show posF b.ser ex * 2 + 1 - posF b.ser ex * 2 = 1 by omega]
    simp⟩
  unfold Sch.cells at hco
  simp only at hco
  rw [hcb] at hcp2
  by_cases hP : 0 < b.ent.length
  · have hQ := hq hP
    refine fn_det Try.E0 Try.mx Try.func13 (by kernel_rfl) rfl (Nat.le_of_ble_eq_true rfl) rfl fun hcl hbl => ?_
    (repeat' ((conv => whnf); (first | refine SideN.mk ⟨⟨hil, hin⟩, by omega, by omega⟩ ?_ | refine SideN.mk hil ?_ | (refine IfN.id ?_; first | refine IfN.not ?_ | refine IfN.tt rfl ?_ | refine IfN.ff rfl ?_ | refine IfN.dT (by omega) ?_ | refine IfN.dF (by omega) ?_ | refine IfN.tt (by assumption) ?_ | fail) | (refine EqN.id ?_; first | (refine EqN.subN _ _ (by first | with_reducible rfl | with_reducible exact cst1 | with_reducible exact cst0 | with_reducible exact cst2 | with_reducible exact cst3 | with_reducible exact cst4 | with_reducible exact cst5 | with_reducible exact cst6 | with_reducible exact cst7 | with_reducible exact cst8 | with_reducible exact cst14 | with_reducible exact cst15 | with_reducible exact cst25 | with_reducible exact cst30 | with_reducible exact cst31 | fail) (by first | with_reducible rfl | with_reducible exact cst1 | with_reducible exact cst0 | with_reducible exact cst2 | with_reducible exact cst3 | with_reducible exact cst4 | with_reducible exact cst5 | with_reducible exact cst6 | with_reducible exact cst7 | with_reducible exact cst8 | with_reducible exact cst14 | with_reducible exact cst15 | with_reducible exact cst25 | with_reducible exact cst30 | with_reducible exact cst31 | fail) ?_ ?_; · (repeat' (first | omega | refine And.intro ?_ ?_ | exact bnd_andl (by omega) | exact bnd_andr (by omega) | refine bnd_or ?_ ?_ | refine bnd_or31 ?_ ?_ | refine bnd_xor ?_ ?_ | refine bnd_xor31 ?_ ?_ | refine bnd_shr ?_ | refine bnd_shl ?_ ?_ | refine bnd_mod ?_ | refine bnd_andl ?_ | fail))) | fail) | (refine SideN.mk ?_ ?_; · first | kernel_rfl | omega | exact List.cons_ne_nil _ _ | (simp; done) | (simp; omega) | exact trivial | assumption | fail) | (refine CallN.id ?_; first | refine CallN.det _ (hva _) ?_ | refine CallN.det _ (isName_c _ _) ?_ | refine CallN.det _ (isDay_c _ _) ?_ | refine CallN.det _ (hsc _) ?_ | refine CallN.det _ (hse _) ?_ | refine CallN.det _ (hco _) ?_ | refine CallN.det _ (hbs _ _ (at_loc0 rfl)) ?_ | fail) | refine SegN.nthE ent0 (b.ent.length - 1) (by omega) (by omega) ent_size e3 ?_ | refine CallN.grow _ _ _ 8 (hcp2 _ _ _ _) rfl rfl rfl ?_ | refine CallN.setL 7 _ _ _ rfl rfl (VCall.mono (hins (H.length + 7) _ (at_loc0 rfl)) fun r H' h => ⟨h.2, h.1⟩) rfl ?_ | refine SegN.mk _ hseg ?_ | refine OrN.l ?_ | refine SideN.mk ⟨by decide, rfl, rfl, by decide, by decide⟩ ?_ | refine RelN.mk _ [] rfl ?_ | (refine PtrN.id ?_; first | refine PtrN.loc _ rfl ?_ | fail) | refine DrawN.mk' [] ?_ | fail))); all_goals (conv => whnf)
    have hsl : (setL (insL (b.ser.flatMap Ser.cells) (posF b.ser ex) ex) (posF b.ser ex * 2 + 1) [.sl (some (H.length + 9)) 1 (Ver.mk at_ ⟨pts, part, att, rty, hnt, cnt, lates⟩).cells]).length = (b.ser.length + 1) * 2 := by
      unfold setL
      rw [List.length_append, List.length_append, List.length_take, List.length_drop, hil]
      simp only [List.length_cons, List.length_nil]
      omega
    have hpn := put_new b.ser ex v (some (H.length + 9)) hfn
    rw [ver_cells hv1] at hpn
    have hln := insS_len b.ser ex v
    rw [hfn] at hln
    simp only [Bool.false_eq_true, if_false] at hln
    refine EndN.detF ?_ (Frz.tup (.cons (Frz.agg (.cons (Frz.vs (j := 7) (sz := 2) rfl hsl (FrzL.refl _)) (.cons (.refl _) .nil))) (.cons (.refl _) .nil))) ?_
    · simp [below, belowL, Bk.cells, sers_below, ents_below]
    · unfold Bk.cells
      simp only
      rw [hln]
      exact wk_tup ⟨wk_agg ⟨wk_slL hpn, Wk.refl _, trivial⟩, Wk.refl _, trivial⟩
  · refine fn_det Try.E0 Try.mx Try.func13 (by kernel_rfl) rfl (Nat.le_of_ble_eq_true rfl) rfl fun hcl hbl => ?_
    (repeat' ((conv => whnf); (first | refine SideN.mk ⟨⟨hil, hin⟩, by omega, by omega⟩ ?_ | refine SideN.mk hil ?_ | (refine IfN.id ?_; first | refine IfN.not ?_ | refine IfN.tt rfl ?_ | refine IfN.ff rfl ?_ | refine IfN.dF (by omega) ?_ | refine IfN.tt (by assumption) ?_ | fail) | (refine SideN.mk ?_ ?_; · first | kernel_rfl | omega | exact List.cons_ne_nil _ _ | (simp; done) | (simp; omega) | exact trivial | assumption | fail) | (refine CallN.id ?_; first | refine CallN.det _ (hva _) ?_ | refine CallN.det _ (isName_c _ _) ?_ | refine CallN.det _ (isDay_c _ _) ?_ | refine CallN.det _ (hsc _) ?_ | refine CallN.det _ (hse _) ?_ | refine CallN.det _ (hco _) ?_ | refine CallN.det _ (hbs _ _ (at_loc0 rfl)) ?_ | fail) | refine CallN.grow _ _ _ 8 (hcp2 _ _ _ _) rfl rfl rfl ?_ | refine CallN.setL 7 _ _ _ rfl rfl (VCall.mono (hins (H.length + 7) _ (at_loc0 rfl)) fun r H' h => ⟨h.2, h.1⟩) rfl ?_ | refine SegN.mk _ hseg ?_ | refine OrN.l ?_ | refine SideN.mk ⟨by decide, rfl, rfl, by decide, by decide⟩ ?_ | refine RelN.mk _ [] rfl ?_ | (refine PtrN.id ?_; first | refine PtrN.loc _ rfl ?_ | fail) | refine DrawN.mk' [] ?_ | fail))); all_goals (conv => whnf)
    have hsl : (setL (insL (b.ser.flatMap Ser.cells) (posF b.ser ex) ex) (posF b.ser ex * 2 + 1) [.sl (some (H.length + 9)) 1 (Ver.mk at_ ⟨pts, part, att, rty, hnt, cnt, lates⟩).cells]).length = (b.ser.length + 1) * 2 := by
      unfold setL
      rw [List.length_append, List.length_append, List.length_take, List.length_drop, hil]
      simp only [List.length_cons, List.length_nil]
      omega
    have hpn := put_new b.ser ex v (some (H.length + 9)) hfn
    rw [ver_cells hv1] at hpn
    have hln := insS_len b.ser ex v
    rw [hfn] at hln
    simp only [Bool.false_eq_true, if_false] at hln
    refine EndN.detF ?_ (Frz.tup (.cons (Frz.agg (.cons (Frz.vs (j := 7) (sz := 2) rfl hsl (FrzL.refl _)) (.cons (.refl _) .nil))) (.cons (.refl _) .nil))) ?_
    · simp [below, belowL, Bk.cells, sers_below, ents_below]
    · unfold Bk.cells
      simp only
      rw [hln]
      exact wk_tup ⟨wk_agg ⟨wk_slL hpn, Wk.refl _, trivial⟩, Wk.refl _, trivial⟩
end Go.Proofs.Ytgopbbkpcjgihaa
/-! text ZB38 -/
namespace Go.Proofs.Ytgopbbkpcjgihaa
open Go.Vsi
set_option maxHeartbeats 4000000
set_option linter.unusedSimpArgs false
attribute [local irreducible] VW VCall VO bits

theorem publish_old (b : Bk) (hb : b.Sm) (ex : ByteArray) (v : Ver) (hi : pubIn b ex v = true) (hE : pubE b ex v = 0) (hF : (serF b ex).isSome = true) (H : Heap) : VDet Try.prog 13 [.agg b.cells, .str ex, .agg v.cells] H (.tup [.agg (pubF b ex v).cells, .int .i64 0]) := by
  have hpf : pubF b ex v = ⟨insS b.ser ex v, b.ent⟩ := if_pos hE
  rw [hpf]
  have hva := fun H => validBk_c b hb H
  have hsc := fun H => valid_c v.sch H
  have hse := fun H => series_c b hb.ser ex H
  have hcb : b.cells = [.sl none b.ser.length (b.ser.flatMap Ser.cells), .sl none b.ent.length (b.ent.flatMap Ent.cells)] := rfl
  unfold pubE at hE
  rw [hi] at hE
  simp only [if_true] at hE
  unfold pubIn at hi
  simp only [Bool.and_eq_true] at hi
  obtain ⟨hV, hN, hD, hS⟩ := hi
  have hvb := validF_iff.1 hV
  rw [hV] at hva
  rw [hS] at hsc
  have hns := hvb.ns
  have hv20 : ((serF b ex).getD ser0).vers.length ≤ 20 := by
    cases hs : serF b ex with
    | none => exact Nat.zero_le _
    | some s => exact (hvb.vs s (serF_mem hs).1).le
  have hser : (serF b ex).isSome = true → 1 ≤ ((serF b ex).getD ser0).vers.length := fun h => by
    obtain ⟨s, hs⟩ := Option.isSome_iff_exists.1 h
    rw [hs]
    exact (hvb.vs s (serF_mem hs).1).ne
  have hnn := hvb.ne
  unfold pubLate at hE
  unfold pubPast at hE
  unfold pubFull at hE
  obtain ⟨nm, vs, hs1⟩ := ser_ex ((serF b ex).getD ser0)
  have es := ser_cells hs1
  rw [hs1] at hser hE hv20
  rw [es] at hse
  simp only at hser hE hv20
  obtain ⟨at2, pts2, part2, att2, rty2, hnt2, cnt2, lates2, hv2⟩ := ver_ex (vs.getD (vs.length - 1) ver0)
  have e2 := ver_cells hv2
  rw [hv2] at hE
  obtain ⟨stu, exe, day, a1, a2, a3, a4, hv3⟩ := ent_ex (b.ent.getD (b.ent.length - 1) ent0)
  have e3 := ent_cells hv3
  rw [hv3] at hE
  obtain ⟨at_, pts, part, att, rty, hnt, cnt, lates, hv1⟩ := ver_ex v
  rw [hv1] at hsc hE hD
  rw [ver_cells hv1]
  unfold Sch.cells at hsc
  simp only at hsc hE hD
  rw [hcb] at hva ⊢
  rw [hF] at hse hE hser
  have hpos := hser rfl
  have hfn : fndF b.ser ex = true := by rw [fnd_iff b hvb.srt, hF]
  have hpq : posF b.ser ex < b.ser.length := by
    unfold fndF at hfn
    simp only [Bool.and_eq_true, decide_eq_true_eq] at hfn
    exact hfn.1
  have hq : (0 < b.ent.length → ¬ at_ ≤ day) ∧ vs.length < 20 ∧ ¬ at_ ≤ at2 := by
    by_cases hL : at_ ≤ at2 <;> by_cases hP : 0 < b.ent.length <;> by_cases hQ : at_ ≤ day <;> by_cases h : 20 ≤ vs.length <;> simp [hL, hP, hQ, h] at hE ⊢ <;> omega
  obtain ⟨hq, hlt, hL⟩ := hq
  have hcp := fun H => copyBook_c b hb (by omega) (by omega) (ver_bounds hvb) (posF b.ser ex) H
  have hbs := fun t i H (hi : H[i]? = some (.vec 79 2 (cpyL b.ser (posF b.ser ex) t b.ser.length))) => bsearchW b.ser (by omega) hvb.srt ex (posF b.ser ex) t i H hi
  rw [hfn] at hbs
  have hpf2 := fun t => put_found b.ser ex v t hfn
  rw [ver_cells hv1] at hpf2
  have hb20 := (hvb.vs _ (getD_mem ser0 hpq)).le
  have hcyl := fun t => cpyL_len (l := b.ser) (q := posF b.ser ex) (t := t) (Nat.le_refl _)
  have hcne : ∀ t, cpyL b.ser (posF b.ser ex) t b.ser.length ≠ [] := fun t h => by
    have := hcyl t
    rw [h] at this
    simp at this
    omega
  have hseg : ∀ t, Seg (cpyL b.ser (posF b.ser ex) t b.ser.length) (posF b.ser ex * 2 + 1) (.sl (some t) (b.ser.getD (posF b.ser ex) ser0).vers.length ((b.ser.getD (posF b.ser ex) ser0).vers.flatMap Ver.cells) :: (b.ser.drop (posF b.ser ex + 1)).flatMap Ser.cells) := fun t => ⟨[], by
    have h2 : ((b.ser.take (posF b.ser ex)).flatMap Ser.cells).length = posF b.ser ex * 2 := by rw [flat_length ser_size, List.length_take]; omega
    rw [cpyL_q hpq, List.drop_append, List.drop_eq_nil_of_le (by omega), h2, show posF b.ser ex * 2 + 1 - posF b.ser ex * 2 = 1 by omega]
    simp⟩
  have hcp2 : ∀ B1 B2 B3 B4 : Blk, VCall Try.prog 39 [.agg b.cells] (H ++ [B1, B2, B3, B4]) fun r H' => r = .agg [.vs (H.length + 7) b.ser.length, .sl none b.ent.length (b.ent.flatMap Ent.cells)] ∧
      H' = (H ++ [B1, B2, B3, B4]) ++ [.box 25 b.cells, .box 25 [.vs (H.length + 7) b.ser.length, .sl none b.ent.length (b.ent.flatMap Ent.cells)], .box 25 [.vs (H.length + 7) b.ser.length, .sl none b.ent.length (b.ent.flatMap Ent.cells)], .vec 79 2 (cpyL b.ser (posF b.ser ex) (H.length + 10) b.ser.length),
        .box 79 (b.ser.getD (posF b.ser ex) ser0).cells, .box 79 (chC b.ser (posF b.ser ex) (H.length + 10)), .tok 30 8 ((b.ser.getD (posF b.ser ex) ser0).vers.length * 8)] := fun B1 B2 B3 B4 =>
    VCall.mono (hcp _) fun r H' ⟨hr, hH⟩ => by
      have e : (H ++ [B1, B2, B3, B4]).length = H.length + 4 := by simp
      rw [e] at hr hH
      refine ⟨hr, hH.trans ?_⟩
      unfold cpyK cpyX
      rw [if_neg (by omega)]
      rfl
  have hco := fun H => copyS_c ⟨pts, part, att, rty, hnt, cnt, lates⟩ (by
    have := (valid_facts hS).2.2.2.2.2.2.1
    rw [hv1] at this
    simp only at this ⊢
    omega) H
  unfold Sch.cells at hco
  simp only at hco
  have hch : ∀ t, chC b.ser (posF b.ser ex) t = [.str (b.ser.getD (posF b.ser ex) ser0).name, .sl (some t) (b.ser.getD (posF b.ser ex) ser0).vers.length ((b.ser.getD (posF b.ser ex) ser0).vers.flatMap Ver.cells)] := fun t => rfl
  have hsc2 : (b.ser.getD (posF b.ser ex) ser0).cells = [.str (b.ser.getD (posF b.ser ex) ser0).name, .sl none (b.ser.getD (posF b.ser ex) ser0).vers.length ((b.ser.getD (posF b.ser ex) ser0).vers.flatMap Ver.cells)] := rfl
  simp only [hch, hsc2] at hcp2
  rw [hcb] at hcp2
  have hvl := flat_length ver_size (b.ser.getD (posF b.ser ex) ser0).vers
  generalize (b.ser.getD (posF b.ser ex) ser0).name = onm at *
  generalize (b.ser.getD (posF b.ser ex) ser0).vers.length = m at *
  generalize (b.ser.getD (posF b.ser ex) ser0).vers.flatMap Ver.cells = vc at *
  have hcy10 := hcyl (H.length + 10)
  have hbt : (m + 1) * 80 ≤ 140737488355328 := by omega
  have hmx : m + 1 ≤ maxLen := Nat.le_trans (show m + 1 ≤ 1000001 by omega) (by decide)
  by_cases hP : 0 < b.ent.length
  · have hQ := hq hP
    refine fn_det Try.E0 Try.mx Try.func13 (by kernel_rfl) rfl (Nat.le_of_ble_eq_true rfl) rfl fun hcl hbl => ?_
    (repeat' ((conv => whnf); (first | refine SideN.mk ⟨⟨hcyl _, hcne _⟩, by omega, by omega⟩ ?_ | refine SideN.mk (hcyl _) ?_ | refine SideN.mk ⟨hvl.symm, rfl, rfl, hbt, hmx⟩ ?_ | (refine IfN.id ?_; first | refine IfN.not ?_ | refine IfN.tt rfl ?_ | refine IfN.dT (by omega) ?_ | refine IfN.dF (by omega) ?_ | refine IfN.tt (by assumption) ?_ | fail) | (refine EqN.id ?_; first | (refine EqN.subN _ _ (by first | with_reducible rfl | with_reducible exact cst1 | with_reducible exact cst0 | with_reducible exact cst2 | with_reducible exact cst3 | with_reducible exact cst4 | with_reducible exact cst5 | with_reducible exact cst6 | with_reducible exact cst7 | with_reducible exact cst8 | with_reducible exact cst14 | with_reducible exact cst15 | with_reducible exact cst25 | with_reducible exact cst30 | with_reducible exact cst31 | fail) (by first | with_reducible rfl | with_reducible exact cst1 | with_reducible exact cst0 | with_reducible exact cst2 | with_reducible exact cst3 | with_reducible exact cst4 | with_reducible exact cst5 | with_reducible exact cst6 | with_reducible exact cst7 | with_reducible exact cst8 | with_reducible exact cst14 | with_reducible exact cst15 | with_reducible exact cst25 | with_reducible exact cst30 | with_reducible exact cst31 | fail) ?_ ?_; · (repeat' (first | omega | refine And.intro ?_ ?_ | exact bnd_andl (by omega) | exact bnd_andr (by omega) | refine bnd_or ?_ ?_ | refine bnd_or31 ?_ ?_ | refine bnd_xor ?_ ?_ | refine bnd_xor31 ?_ ?_ | refine bnd_shr ?_ | refine bnd_shl ?_ ?_ | refine bnd_mod ?_ | refine bnd_andl ?_ | fail))) | fail) | (refine SideN.mk ?_ ?_; · first | kernel_rfl | omega | exact List.cons_ne_nil _ _ | (simp; done) | (simp; omega) | exact trivial | assumption | fail) | (refine CallN.id ?_; first | refine CallN.det _ (hva _) ?_ | refine CallN.det _ (isName_c _ _) ?_ | refine CallN.det _ (isDay_c _ _) ?_ | refine CallN.det _ (hsc _) ?_ | refine CallN.det _ (hse _) ?_ | refine CallN.det _ (hco _) ?_ | refine CallN.det _ (hbs _ _ _ (at_loc0 rfl)) ?_ | fail) | refine SegN.nthE ver0 (vs.length - 1) (by omega) (by omega) ver_size e2 ?_ | refine SegN.nthE ent0 (b.ent.length - 1) (by omega) (by omega) ent_size e3 ?_ | refine CallN.grow _ _ _ 11 (hcp2 _ _ _ _) rfl rfl rfl ?_ | refine SegN.mk _ (hseg _) ?_ | refine RelN.mk _ [] rfl ?_ | (refine PtrN.id ?_; first | refine PtrN.loc _ rfl ?_ | fail) | refine DrawN.mk' [] ?_ | fail))); all_goals (conv => whnf)
    have hsl : (setL (cpyL b.ser (posF b.ser ex) (H.length + 10) b.ser.length) (posF b.ser ex * 2 + 1) [.sl (some (H.length + 10)) (m + 1) (vc ++ (Ver.mk at_ ⟨pts, part, att, rty, hnt, cnt, lates⟩).cells)]).length = b.ser.length * 2 := by
      unfold setL
      rw [List.length_append, List.length_append, List.length_take, List.length_drop, hcyl]
      simp only [List.length_cons, List.length_nil]
      omega
    have hln := insS_len b.ser ex v
    rw [hfn] at hln
    simp only [if_true] at hln
    refine EndN.detF ?_ (Frz.tup (.cons (Frz.agg (.cons (Frz.vs (j := 7) (sz := 2) rfl hsl (FrzL.refl _)) (.cons (.refl _) .nil))) (.cons (.refl _) .nil))) ?_
    · simp [below, belowL, Bk.cells, sers_below, ents_below]
    · unfold Bk.cells
      simp only
      rw [hln]
      exact wk_tup ⟨wk_agg ⟨wk_slL (hpf2 _), Wk.refl _, trivial⟩, Wk.refl _, trivial⟩
  · refine fn_det Try.E0 Try.mx Try.func13 (by kernel_rfl) rfl (Nat.le_of_ble_eq_true rfl) rfl fun hcl hbl => ?_
    (repeat' ((conv => whnf); (first | refine SideN.mk ⟨⟨hcyl _, hcne _⟩, by omega, by omega⟩ ?_ | refine SideN.mk (hcyl _) ?_ | refine SideN.mk ⟨hvl.symm, rfl, rfl, hbt, hmx⟩ ?_ | (refine IfN.id ?_; first | refine IfN.not ?_ | refine IfN.tt rfl ?_ | refine IfN.dF (by omega) ?_ | refine IfN.tt (by assumption) ?_ | fail) | (refine EqN.id ?_; first | (refine EqN.subN _ _ (by first | with_reducible rfl | with_reducible exact cst1 | with_reducible exact cst0 | with_reducible exact cst2 | with_reducible exact cst3 | with_reducible exact cst4 | with_reducible exact cst5 | with_reducible exact cst6 | with_reducible exact cst7 | with_reducible exact cst8 | with_reducible exact cst14 | with_reducible exact cst15 | with_reducible exact cst25 | with_reducible exact cst30 | with_reducible exact cst31 | fail) (by first | with_reducible rfl | with_reducible exact cst1 | with_reducible exact cst0 | with_reducible exact cst2 | with_reducible exact cst3 | with_reducible exact cst4 | with_reducible exact cst5 | with_reducible exact cst6 | with_reducible exact cst7 | with_reducible exact cst8 | with_reducible exact cst14 | with_reducible exact cst15 | with_reducible exact cst25 | with_reducible exact cst30 | with_reducible exact cst31 | fail) ?_ ?_; · (repeat' (first | omega | refine And.intro ?_ ?_ | exact bnd_andl (by omega) | exact bnd_andr (by omega) | refine bnd_or ?_ ?_ | refine bnd_or31 ?_ ?_ | refine bnd_xor ?_ ?_ | refine bnd_xor31 ?_ ?_ | refine bnd_shr ?_ | refine bnd_shl ?_ ?_ | refine bnd_mod ?_ | refine bnd_andl ?_ | fail))) | fail) | (refine SideN.mk ?_ ?_; · first | kernel_rfl | omega | exact List.cons_ne_nil _ _ | (simp; done) | (simp; omega) | exact trivial | assumption | fail) | (refine CallN.id ?_; first | refine CallN.det _ (hva _) ?_ | refine CallN.det _ (isName_c _ _) ?_ | refine CallN.det _ (isDay_c _ _) ?_ | refine CallN.det _ (hsc _) ?_ | refine CallN.det _ (hse _) ?_ | refine CallN.det _ (hco _) ?_ | refine CallN.det _ (hbs _ _ _ (at_loc0 rfl)) ?_ | fail) | refine SegN.nthE ver0 (vs.length - 1) (by omega) (by omega) ver_size e2 ?_ | refine CallN.grow _ _ _ 11 (hcp2 _ _ _ _) rfl rfl rfl ?_ | refine SegN.mk _ (hseg _) ?_ | refine RelN.mk _ [] rfl ?_ | (refine PtrN.id ?_; first | refine PtrN.loc _ rfl ?_ | fail) | refine DrawN.mk' [] ?_ | fail))); all_goals (conv => whnf)
    have hsl : (setL (cpyL b.ser (posF b.ser ex) (H.length + 10) b.ser.length) (posF b.ser ex * 2 + 1) [.sl (some (H.length + 10)) (m + 1) (vc ++ (Ver.mk at_ ⟨pts, part, att, rty, hnt, cnt, lates⟩).cells)]).length = b.ser.length * 2 := by
      unfold setL
      rw [List.length_append, List.length_append, List.length_take, List.length_drop, hcyl]
      simp only [List.length_cons, List.length_nil]
      omega
    have hln := insS_len b.ser ex v
    rw [hfn] at hln
    simp only [if_true] at hln
    refine EndN.detF ?_ (Frz.tup (.cons (Frz.agg (.cons (Frz.vs (j := 7) (sz := 2) rfl hsl (FrzL.refl _)) (.cons (.refl _) .nil))) (.cons (.refl _) .nil))) ?_
    · simp [below, belowL, Bk.cells, sers_below, ents_below]
    · unfold Bk.cells
      simp only
      rw [hln]
      exact wk_tup ⟨wk_agg ⟨wk_slL (hpf2 _), Wk.refl _, trivial⟩, Wk.refl _, trivial⟩
end Go.Proofs.Ytgopbbkpcjgihaa
/-! text ZC38 -/
namespace Go.Proofs.Ytgopbbkpcjgihaa
open Go.Vsi
attribute [local irreducible] VW VCall VO bits

theorem publish_c (b : Bk) (hb : b.Sm) (ex : ByteArray) (v : Ver) (H : Heap) : VDet Try.prog 13 [.agg b.cells, .str ex, .agg v.cells] H (.tup [.agg (pubF b ex v).cells, .int .i64 (pubE b ex v)]) := by
  cases hi : pubIn b ex v with
  | false =>
    have hE : pubE b ex v = 2 := by unfold pubE; rw [hi]; rfl
    unfold pubF
    rw [hE]
    exact publish_in b hb ex v hi H
  | true =>
    by_cases h0 : pubE b ex v = 0
    · rw [h0]
      cases hF : (serF b ex).isSome with
      | false => exact publish_new b hb ex v hi h0 hF H
      | true => exact publish_old b hb ex v hi h0 hF H
    · have he : pubE b ex v = 380 ∨ pubE b ex v = 5 := by
        unfold pubE at h0 ⊢
        rw [hi] at h0 ⊢
        simp only [if_true] at h0 ⊢
        cases h1 : pubLate b ex v <;> cases h2 : pubPast b v <;> cases h3 : pubFull b ex <;> simp [h1, h2, h3] at h0 ⊢
      unfold pubF
      rw [if_neg h0]
      exact publish_no b hb ex v hi _ he rfl H
end Go.Proofs.Ytgopbbkpcjgihaa
