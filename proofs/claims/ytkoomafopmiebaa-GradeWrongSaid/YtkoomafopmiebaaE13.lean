/- A text of the proof: E13. -/
import Derived.Test.YtkoomafopmiebaaE12
set_option linter.unusedSimpArgs false
set_option linter.unusedVariables false
namespace Go.Vsi

def cntN (s : Nat → Bool) : Nat → Nat
  | 0 => 0
  | n + 1 => cntN s n + if s n = true then 0 else 1
theorem cntN_same {s s' : Nat → Bool} : ∀ n, (∀ j, j < n → s' j = s j) → cntN s' n = cntN s n
  | 0, _ => rfl
  | n + 1, h => by simp only [cntN]; rw [cntN_same n fun j hj => h j (by omega), h n (by omega)]
theorem cntN_less {s s' : Nat → Bool} {i : Nat} (h0 : s i = false) (h1 : s' i = true) (hne : ∀ j, j ≠ i → s' j = s j) : ∀ n, i < n → cntN s' n + 1 = cntN s n
  | 0, h => by omega
  | n + 1, h => by
    simp only [cntN]
    by_cases hin : i = n
    · subst hin
      rw [cntN_same i fun j hj => hne j (by omega), h0, h1]
      simp
    · have := cntN_less h0 h1 hne n (by omega)
      rw [hne n (Ne.symm hin)]
      omega
theorem cntN_zero {s : Nat → Bool} : ∀ n, cntN s n = 0 → ∀ i, i < n → s i = true
  | 0, _, i, hi => by omega
  | n + 1, h, i, hi => by
    simp only [cntN] at h
    by_cases hin : i = n
    · subst hin
      cases hs : s i
      · simp [hs] at h
      · rfl
    · exact cntN_zero n (by omega) i (by omega)

theorem take_cntA_le (ds : List DOp) : ∀ i, cntA (ds.take i) ≤ cntA ds := by
  induction ds with
  | nil => intro i; simp [cntA]
  | cons d ds ih =>
    intro i
    cases i with
    | zero => simp [cntA]
    | succ i =>
      have := ih i
      cases hk : d.k <;> simp [cntA, hk] <;> omega

/-- no box is made from operation i on -/
theorem masked_take {s : Nat → Bool} : ∀ (ds : List DOp) (j i : Nat), (∀ q d B, ds[q]? = some d → i ≤ q → d.k ≠ .a B) → masked s j (ds.take i) = masked s j ds ∧ cntA (ds.take i) = cntA ds
  | [], j, i, _ => by simp [masked, cntA]
  | d :: ds, j, 0, h => by
    have ih := masked_take (s := s) ds (j + 1) 0 fun q d' B hq _ => h (q + 1) d' B (by simpa using hq) (by omega)
    have h0 := fun B => h 0 d B (by simp) (by omega)
    simp only [List.take_zero, masked, cntA] at ih ⊢
    cases hk : d.k with
    | a B => exact absurd hk (h0 B)
    | r => simp [← ih.1, ← ih.2]
    | m => simp [← ih.1, ← ih.2]
    | w => simp [← ih.1, ← ih.2]
  | d :: ds, j, i + 1, h => by
    have ih := masked_take (s := s) ds (j + 1) i fun q d' B hq hle => h (q + 1) d' B (by simpa using hq) (by omega)
    cases hk : d.k <;> simp [masked, cntA, hk, ih.1, ih.2]

theorem take_snoc {α : Type} {l : List α} {i : Nat} {x : α} (h : l[i]? = some x) : l.take (i + 1) = l.take i ++ [x] := by
  have hl := (List.getElem?_eq_some_iff.1 h)
  rw [List.take_succ_eq_append_getElem hl.1, hl.2]
theorem masked_append {s : Nat → Bool} (d : DOp) : ∀ (ds : List DOp) (j : Nat), masked s j (ds ++ [d]) = masked s j ds ++ masked s (j + ds.length) [d]
  | [], j => by simp [masked]
  | e :: ds, j => by
    have ih := masked_append (s := s) d ds (j + 1)
    rw [show j + 1 + ds.length = j + (ds.length + 1) by omega] at ih
    cases hk : e.k <;> simp [masked, hk, ih]
theorem cntA_append (d : DOp) : ∀ (ds : List DOp), cntA (ds ++ [d]) = cntA ds + cntA [d]
  | [] => by simp [cntA]
  | e :: ds => by
    have ih := cntA_append d ds
    cases hk : e.k <;> simp [cntA, hk] at ih ⊢ <;> omega

section
variable {P : Program} {N : Nat}

theorem fop_same {hp0 : Hp} {all : List Oper} {d : DOp} {e : Env} {hp hp' : Hp} (h : FOp P N hp0 all d e hp hp') (hk : d.k = .r ∨ d.k = .m) : hp' = hp := by
  unfold FOp at h
  cases hg : gd all e d.o with
  | none => simp [hg] at h
  | some b =>
    cases b with
    | false => simp only [hg] at h; exact h.2
    | true =>
      simp only [hg] at h
      rcases hk with hk | hk <;> rw [hk] at h <;> exact h.2
theorem fop_box {hp0 : Hp} {all : List Oper} {d : DOp} {e : Env} {hp hp' : Hp} {B : Blk} (h : FOp P N hp0 all d e hp hp') (hk : d.k = .a B) : hp' = ⟨hp.base, hp.k + 1, hp.loc ++ [B]⟩ := by
  unfold FOp at h
  cases hg : gd all e d.o with
  | none => simp [hg] at h
  | some b =>
    cases b with
    | false => simp only [hg] at h; rw [hk] at h; cases h.1.1
    | true => simp only [hg] at h; rw [hk] at h; exact h.2.2.2

/-- ahead of the first store the heap is that of the boxes -/
theorem hs_boxes {base : Heap} {k0 : Nat} {loc0 : Heap} {all : List Oper} {ds : List DOp} {env : Env} {hs : Nat → Hp} (h0 : hs 0 = ⟨base, k0, loc0⟩) (hf : ∀ i d, ds[i]? = some d → FOp P N ⟨base, k0, loc0⟩ all d (envAt i ds env) (hs i) (hs (i + 1))) :
    ∀ i, i ≤ ds.length → (∀ q d, ds[q]? = some d → q < i → ¬ d.k.wr) → hs i = ⟨base, k0 + cntA (ds.take i), loc0 ++ masked (fun _ => true) 0 (ds.take i)⟩
  | 0, _, _ => by simp [h0, cntA, masked]
  | i + 1, hi, hw => by
    have ih := hs_boxes h0 hf i (by omega) fun q d hq hlt => hw q d hq (by omega)
    have hd : ds[i]? = some ds[i] := List.getElem?_eq_getElem (by omega)
    have hF := hf i _ hd
    rw [take_snoc hd, cntA_append, masked_append]
    cases hk : ds[i].k with
    | r => rw [fop_same hF (.inl hk), ih]; simp [cntA, masked, hk]
    | m => rw [fop_same hF (.inr hk), ih]; simp [cntA, masked, hk]
    | a B => rw [fop_box hF hk, ih]; simp [cntA, masked, hk, Nat.add_assoc]
    | w tm => exact absurd ⟨tm, hk⟩ (hw i _ hd (by omega))
theorem hs_calm {hp0 : Hp} {all : List Oper} {ds : List DOp} {env : Env} {hs : Nat → Hp} (hf : ∀ i d, ds[i]? = some d → FOp P N hp0 all d (envAt i ds env) (hs i) (hs (i + 1))) (p : Nat) :
    ∀ i, p ≤ i → i ≤ ds.length → (∀ q d, ds[q]? = some d → p ≤ q → q < i → d.k = .r ∨ d.k = .m) → hs i = hs p := by
  intro i
  induction i with
  | zero => intro hp _ _; have : p = 0 := by omega
            rw [this]
  | succ i ih =>
    intro hpi hi hw
    by_cases hpe : p = i + 1
    · rw [hpe]
    · have hd : ds[i]? = some ds[i] := List.getElem?_eq_getElem (by omega)
      rw [fop_same (hf i _ hd) (hw i _ hd (by omega) (by omega))]
      exact ih (by omega) (by omega) fun q d hq h1 h2 => hw q d hq h1 (by omega)

theorem mem_ready' {ops : Array Oper} {listed : Array Bool} {i : Nat} : i ∈ Region.ready .any ops listed ↔ i < ops.size ∧ listed.getD i true = false ∧ ∃ o, ops[i]? = some o ∧ ∀ e ∈ o.after.toList, Region.binds .any e = true → listed.getD e.on false = true := by
  unfold Region.ready
  simp only [List.mem_filter, List.mem_range, Bool.and_eq_true, Bool.not_eq_true']
  constructor
  · rintro ⟨h1, h2, h3⟩
    refine ⟨h1, h2, ?_⟩
    rw [Array.getElem?_eq_getElem h1] at h3
    refine ⟨_, Array.getElem?_eq_getElem h1, fun e he hb => ?_⟩
    simp only [Option.map_some, Option.getD_some, Array.all_eq_true'] at h3
    have := h3 e (by simpa using he)
    simpa [hb] using this
  · rintro ⟨h1, h2, o, h3, h4⟩
    refine ⟨h1, h2, ?_⟩
    rw [h3]
    simp only [Option.map_some, Option.getD_some, Array.all_eq_true']
    intro e he
    cases hb : Region.binds .any e with
    | false => simp
    | true => simp [h4 e (by simpa using he) hb]
end
end Go.Vsi
