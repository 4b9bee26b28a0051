/- A text of the proof: R9. -/
import Derived.Test.YtkoomafopmiebaaR8
set_option linter.unusedSimpArgs false
set_option linter.unusedVariables false
namespace Go.Vsi
theorem SubN.flat {α : Type} {f : α → List AV} {sz : Nat} {l : List α} {lo n : Nat} {k : List AV → Prop} (hsz : ∀ x, (f x).length = sz) (h : lo + n ≤ l.length) (a : k (((l.drop lo).take n).flatMap f)) : SubN (l.flatMap f) (lo * sz) (n * sz) k := by
  have key : ∀ (l : List α) (m : Nat), (l.flatMap f).drop (m * sz) = (l.drop m).flatMap f := by
    intro l
    induction l with
    | nil => intro m; simp
    | cons x l ih =>
      intro m
      cases m with
      | zero => simp
      | succ m =>
        rw [List.flatMap_cons, show (m + 1) * sz = (f x).length + m * sz by rw [hsz, Nat.add_mul]; omega, ← List.drop_drop, List.drop_left, ih]
        rfl
  refine ⟨_, ⟨⟨((l.drop lo).drop n).flatMap f, ?_⟩, ?_⟩, a⟩
  · rw [key, ← List.flatMap_append, List.take_append_drop]
  · rw [flat_length hsz, List.length_take, List.length_drop, Nat.min_eq_left (by omega)]
theorem allOne_append : ∀ {l m : List AV}, allOne l = true → allOne m = true → allOne (l ++ m) = true
  | [], _, _, h => h
  | v :: l, m, h1, h2 => by
    simp only [List.cons_append, allOne] at h1 ⊢
    split at h1
    · exact allOne_append h1 h2
    · cases h1
theorem allOne_flat {α : Type} {f : α → List AV} (h : ∀ x, allOne (f x) = true) : ∀ l : List α, allOne (l.flatMap f) = true
  | [] => rfl
  | x :: l => by rw [List.flatMap_cons]; exact allOne_append (h x) (allOne_flat h l)
end Go.Vsi
