/- A text of the proof: I32. -/
import Derived.Test.YtkoomafopmiebaaG32
import Derived.Test.YtkoomafopmiebaaR9
set_option linter.unusedSimpArgs false
set_option linter.unusedVariables false
namespace Go.Proofs.Ytkoomafopmiebaa
open Go.Vsi
attribute [local irreducible] VW VCall VO

/-! ### the marks of a class -/
def mnN (pt : Nat → Int) : Nat → Int
  | 0 => 10000
  | k + 1 => min (mnN pt k) (pt k)
def mxN (pt : Nat → Int) : Nat → Int
  | 0 => 0
  | k + 1 => max (mxN pt k) (pt k)
def lsN (pt : Nat → Int) : Nat → Int
  | 0 => 0
  | k + 1 => pt k
def PL (pt : Nat → Int) : Nat → List Int
  | 0 => []
  | k + 1 => PL pt k ++ [pt k]
def WL (wk : Nat → Wrk) : Nat → List Wrk
  | 0 => []
  | k + 1 => WL wk k ++ [wk k]
theorem PL_len (pt : Nat → Int) : ∀ n, (PL pt n).length = n
  | 0 => rfl
  | n + 1 => by simp [PL, PL_len pt n]
theorem WL_len (wk : Nat → Wrk) : ∀ n, (WL wk n).length = n
  | 0 => rfl
  | n + 1 => by simp [WL, WL_len wk n]
theorem WL_map (s : Sch) (wk : Nat → Wrk) : ∀ n, (WL wk n).map (fun w => (markF s w).points) = PL (fun k => (markF s (wk k)).points) n
  | 0 => rfl
  | n + 1 => by simp [WL, PL, WL_map s wk n]
theorem PL_mem {pt : Nat → Int} {x : Int} : ∀ {n}, x ∈ PL pt n → ∃ k, k < n ∧ x = pt k
  | 0, h => by simp [PL] at h
  | n + 1, h => by
    simp only [PL, List.mem_append, List.mem_singleton] at h
    rcases h with h | h
    · obtain ⟨k, h1, h2⟩ := PL_mem h
      exact ⟨k, by omega, h2⟩
    · exact ⟨n, by omega, h⟩
theorem WL_mem {wk : Nat → Wrk} {x : Wrk} : ∀ {n}, x ∈ WL wk n → ∃ k, k < n ∧ x = wk k
  | 0, h => by simp [WL] at h
  | n + 1, h => by
    simp only [WL, List.mem_append, List.mem_singleton] at h
    rcases h with h | h
    · obtain ⟨k, h1, h2⟩ := WL_mem h
      exact ⟨k, by omega, h2⟩
    · exact ⟨n, by omega, h⟩
theorem foldl_max_ge : ∀ (l : List Int) (a : Int), a ≤ l.foldl max a ∧ ∀ x ∈ l, x ≤ l.foldl max a
  | [], a => by simp
  | y :: l, a => by
    obtain ⟨h1, h2⟩ := foldl_max_ge l (max a y)
    simp only [List.foldl_cons]
    refine ⟨by omega, fun x hx => ?_⟩
    rcases List.mem_cons.1 hx with rfl | hx
    · omega
    · exact h2 x hx
theorem foldl_max_mem : ∀ (l : List Int) (a : Int), l.foldl max a = a ∨ l.foldl max a ∈ l
  | [], a => by simp
  | y :: l, a => by
    simp only [List.foldl_cons]
    rcases foldl_max_mem l (max a y) with h | h
    · rw [h]
      rcases Int.le_total a y with q | q
      · rw [Int.max_eq_right q]; simp
      · rw [Int.max_eq_left q]; simp
    · exact .inr (List.mem_cons_of_mem _ h)
theorem maxL_spec {l : List Int} (h : 0 < l.length) : maxL l ∈ l ∧ ∀ x ∈ l, x ≤ maxL l := by
  cases l with
  | nil => simp at h
  | cons y l =>
    simp only [maxL, List.tail_cons, List.getD_cons_zero]
    obtain ⟨h1, h2⟩ := foldl_max_ge l y
    refine ⟨?_, fun x hx => ?_⟩
    · rcases foldl_max_mem l y with h | h
      · rw [h]; simp
      · exact List.mem_cons_of_mem _ h
    · rcases List.mem_cons.1 hx with rfl | hx
      · exact h1
      · exact h2 x hx
theorem maxL_same {l l' : List Int} (h : 0 < l.length) (h' : ∀ x, x ∈ l ↔ x ∈ l') : maxL l = maxL l' := by
  have hl : 0 < l'.length := by
    have := (h' _).1 (maxL_spec h).1
    exact List.length_pos_of_mem this
  obtain ⟨a1, a2⟩ := maxL_spec h
  obtain ⟨b1, b2⟩ := maxL_spec hl
  have := b2 _ ((h' _).1 a1)
  have := a2 _ ((h' _).2 b1)
  omega
theorem mxN_spec {pt : Nat → Int} (n : Nat) (hp : ∀ k, k < n → 0 ≤ pt k) (hn : 0 < n) : mxN pt n = maxL (PL pt n) := by
  have key : ∀ m, m ≤ n → 0 ≤ mxN pt m ∧ (mxN pt m = 0 ∨ mxN pt m ∈ PL pt m) ∧ ∀ k, k < m → pt k ≤ mxN pt m := by
    intro m
    induction m with
    | zero => simp [mxN]
    | succ n ih =>
      intro hm
      obtain ⟨i1, i2, i3⟩ := ih (by omega)
      have := hp n (by omega)
      simp only [mxN, PL, List.mem_append, List.mem_singleton]
      refine ⟨by omega, ?_, fun k hk => ?_⟩
      · rcases Int.le_total (mxN pt n) (pt n) with q | q
        · rw [Int.max_eq_right q]; exact .inr (.inr rfl)
        · rw [Int.max_eq_left q]
          rcases i2 with h | h
          · exact .inl h
          · exact .inr (.inl h)
      · by_cases hkn : k = n
        · subst hkn; omega
        · have := i3 k (by omega)
          omega
  obtain ⟨k1, k2, k3⟩ := key n (Nat.le_refl _)
  obtain ⟨a1, a2⟩ := maxL_spec (l := PL pt n) (by rw [PL_len]; exact hn)
  obtain ⟨j, hj, e⟩ := PL_mem a1
  have h1 := k3 j hj
  rw [← e] at h1
  rcases k2 with h2 | h2
  · have := hp j hj
    rw [← e] at this
    omega
  · have := a2 _ h2
    omega
theorem sumL_app (l m : List Int) : sumL (l ++ m) = sumL l + sumL m := by
  have key : ∀ (m : List Int) (a : Int), m.foldl (· + ·) a = a + m.foldl (· + ·) 0 := by
    intro m
    induction m with
    | nil => simp
    | cons x m ih =>
      intro a
      simp only [List.foldl_cons]
      rw [ih, ih (0 + x)]
      omega
  unfold sumL
  rw [List.foldl_append, key]
theorem sum_between {pt : Nat → Int} : ∀ n : Nat, (n : Int) * mnN pt n ≤ sumL (PL pt n) ∧ sumL (PL pt n) ≤ (n : Int) * mxN pt n
  | 0 => by simp [PL, sumL]
  | n + 1 => by
    obtain ⟨h1, h2⟩ := sum_between (pt := pt) n
    have e : sumL (PL pt (n + 1)) = sumL (PL pt n) + pt n := by
      rw [PL, sumL_app]
      simp [sumL]
    rw [e]
    have q1 : (n : Int) * mnN pt (n + 1) ≤ (n : Int) * mnN pt n := Int.mul_le_mul_of_nonneg_left (by simp only [mnN]; omega) (by omega)
    have q2 : (n : Int) * mxN pt n ≤ (n : Int) * mxN pt (n + 1) := Int.mul_le_mul_of_nonneg_left (by simp only [mxN]; omega) (by omega)
    have e1 : ((n + 1 : Nat) : Int) * mnN pt (n + 1) = (n : Int) * mnN pt (n + 1) + mnN pt (n + 1) := by
      rw [show ((n + 1 : Nat) : Int) = (n : Int) + 1 by omega, Int.add_mul, Int.one_mul]
    have e2 : ((n + 1 : Nat) : Int) * mxN pt (n + 1) = (n : Int) * mxN pt (n + 1) + mxN pt (n + 1) := by
      rw [show ((n + 1 : Nat) : Int) = (n : Int) + 1 by omega, Int.add_mul, Int.one_mul]
    rw [e1, e2]
    have : mnN pt (n + 1) ≤ pt n := by simp only [mnN]; omega
    have : pt n ≤ mxN pt (n + 1) := by simp only [mxN]; omega
    omega
theorem mean_between {pt : Nat → Int} (n : Nat) (hn : 0 < n) : mnN pt n ≤ sumL (PL pt n) / n ∧ sumL (PL pt n) / n ≤ mxN pt n := by
  obtain ⟨h1, h2⟩ := sum_between (pt := pt) n
  have hn' : (0 : Int) < n := by omega
  refine ⟨(Int.le_ediv_iff_mul_le hn').2 (by rw [Int.mul_comm]; exact h1), ?_⟩
  have := Int.ediv_le_ediv hn' h2
  rwa [Int.mul_ediv_cancel_left _ (by omega)] at this
theorem lsN_spec (pt : Nat → Int) (n : Nat) (hn : 0 < n) : lsN pt n = (PL pt n).getD ((PL pt n).length - 1) 0 := by
  cases n with
  | zero => omega
  | succ n =>
    rw [PL_len]
    simp [lsN, PL, PL_len]
end Go.Proofs.Ytkoomafopmiebaa
