/- A text of the proof: E32. -/
import Derived.Test.YtkoomafopmiebaaD32
import Derived.Test.YtkoomafopmiebaaB2
set_option linter.unusedSimpArgs false
set_option linter.unusedVariables false
namespace Go.Proofs.Ytkoomafopmiebaa
open Go.Vsi

/-! ### what the law builds is valid -/
theorem latesN_get (r : Raw) : ∀ n i, i < n → (latesN r n).2.getD i (0, 0) = (latesN r (i + 1)).1
  | 0, i, h => absurd h (Nat.not_lt_zero i)
  | n + 1, i, h => by
    have hl := latesN_len r n
    rcases Nat.lt_or_ge i n with hi | hi
    · have := latesN_get r n i hi
      rw [List.getD_eq_getElem?_getD] at this ⊢
      rw [show (latesN r (n + 1)).2 = (latesN r n).2 ++ [lateStep (latesN r n).1 (r.xs.getD n 0) (r.ys.getD n 0)] from rfl, List.getElem?_append_left (by omega)]
      exact this
    · have : i = n := by omega
      subst this
      rw [List.getD_eq_getElem?_getD, show (latesN r (i + 1)).2 = (latesN r i).2 ++ [lateStep (latesN r i).1 (r.xs.getD i 0) (r.ys.getD i 0)] from rfl, List.getElem?_append_right (by omega)]
      simp [hl, latesN]
theorem btw_mk {n l h : Int} (h1 : l ≤ n) (h2 : n ≤ h) : btw n l h = true := by simp [btw, h1, h2]
theorem built_valid (r : Raw) (hr : r.Ok) : validB (builtF r) = true := by
  have bd := latesN_bd r hr
  have ln := latesN_len r (rawLen r)
  have hL : rawLen r ≤ 8 := by unfold rawLen; omega
  have hx : ∀ n, n < rawLen r → 0 ≤ r.xs.getD n 0 ∧ r.xs.getD n 0 ≤ 255 := fun n hn => by
    unfold rawLen at hn
    exact hr.xs _ (by simp [List.getElem?_eq_getElem (show n < r.xs.length by omega)])
  have hy : ∀ n, n < rawLen r → 0 ≤ r.ys.getD n 0 ∧ r.ys.getD n 0 ≤ 255 := fun n hn => by
    unfold rawLen at hn
    exact hr.ys _ (by simp [List.getElem?_eq_getElem (show n < r.ys.length by omega)])
  have hg := latesN_get r (rawLen r)
  obtain ⟨h1, h2, h3, h4, h5, h6, -⟩ := hr
  have hrows : rowsOK (latesN r (rawLen r)).2 = true := by
    refine rows_yes fun i hi => ?_
    rw [ln] at hi
    have e1 := hg i hi
    have b0 := bd i (by omega)
    have b1 := bd (i + 1) (by omega)
    have x0 := hx i hi
    have y0 := hy i hi
    unfold okAt
    rw [e1, btw_mk (by simp only [latesN, lateStep]; omega) (by omega), btw_mk (by omega) (by omega)]
    simp only [Bool.true_and, Bool.or_eq_true, beq_iff_eq]
    by_cases h0 : i = 0
    · exact .inl h0
    · right
      rw [hg (i - 1) (by omega), show i - 1 + 1 = i by omega]
      simp [latesN, lateStep]
      omega
  unfold validB builtF
  simp only
  rw [btw_mk (by omega) (by omega), btw_mk (by omega) (by omega), btw_mk (by omega) (by omega), btw_mk (by omega) (by omega), btw_mk (by omega) (by omega), hrows, ln]
  simp only [Bool.true_and, Bool.and_true, Bool.and_eq_true, Bool.not_eq_true', decide_eq_false_iff_not]
  omega
theorem work_ex (n a b c : Int) (hn : 0 ≤ n ∧ n ≤ 18446744073709551615) (ha : 0 ≤ a ∧ a ≤ 255) (hb : 0 ≤ b ∧ b ≤ 255) (hc : 0 ≤ c ∧ c ≤ 255) : ∃ w : Wrk, wvalid w = true ∧ ∀ H, VDet Try.prog 18 [.int .u64 n, .int .u8 a, .int .u8 b, .int .u8 c] H (.agg w.cells) := by
  refine ⟨⟨n % 1152921504606846977, a * 3, 1 + b % 100, c % 30⟩, ?_, work_c n a b c hn ha hb hc⟩
  unfold wvalid
  simp only
  rw [btw_mk (by omega) (by omega), btw_mk (by omega) (by omega), btw_mk (by omega) (by omega), btw_mk (by omega) (by omega)]
  rfl
theorem wvalid_mk {w : Wrk} (h1 : 0 ≤ w.prog ∧ w.prog ≤ 1152921504606846976) (h2 : 0 ≤ w.days ∧ w.days ≤ 1000) (h3 : 1 ≤ w.att ∧ w.att ≤ 100) (h4 : 0 ≤ w.hints ∧ w.hints ≤ 100) : wvalid w = true := by
  unfold wvalid
  rw [btw_mk h1.1 h1.2, btw_mk h2.1 h2.2, btw_mk h3.1 h3.2, btw_mk h4.1 h4.2]
  rfl
theorem grade_ex (s : Sch) (w : Wrk) (hs : validB s = true) (hw : wvalid w = true) : ∃ m : Mrk, m = markF s w ∧ ∀ H, VDet Try.prog 13 [.agg s.cells, .agg w.cells] H (.tup [.agg m.cells, .int .i64 0]) :=
  ⟨_, rfl, grade_is s w _ 0 (if_pos ⟨hs, hw⟩)⟩

/-! ### more progress, less lateness, fewer tries and hints: never fewer points -/
theorem base_mono {s : Sch} {w w' : Wrk} (h1 : 0 ≤ s.pts ∧ s.pts ≤ 10000) (h2 : 0 ≤ s.part ∧ s.part ≤ 100) (h3 : 0 ≤ w.prog) (h4 : w.prog ≤ w'.prog) (h5 : w'.prog ≤ 1152921504606846976) : baseF s w ≤ baseF s w' := by
  by_cases hw : w'.prog = 1152921504606846976
  · rw [show baseF s w' = s.pts from if_pos hw]
    exact (base_bd h1 h2 ⟨h3, by omega⟩).2
  · rw [show baseF s w' = s.pts * s.part * w'.prog / 1152921504606846976 / 100 from if_neg hw, show baseF s w = s.pts * s.part * w.prog / 1152921504606846976 / 100 from if_neg (by omega)]
    have hp : 0 ≤ s.pts * s.part := Int.mul_nonneg h1.1 h2.1
    have hq : s.pts * s.part * w.prog ≤ s.pts * s.part * w'.prog := Int.mul_le_mul_of_nonneg_left h4 hp
    omega
theorem late_mono {s : Sch} {w w' : Wrk} (h : rowsOK s.lates = true) (h4 : w.days ≤ w'.days) : lateF s w ≤ lateF s w' := by
  have key : ∀ k, k ≤ s.lates.length → (k < s.lates.length → (s.lates.take k).foldl (fun p l => if 0 < w.days ∧ l.1 ≤ w.days then l.2 else p) 0 ≤ (s.lates.getD k (0, 0)).2) ∧ (s.lates.take k).foldl (fun p l => if 0 < w.days ∧ l.1 ≤ w.days then l.2 else p) 0 ≤ (s.lates.take k).foldl (fun p l => if 0 < w'.days ∧ l.1 ≤ w'.days then l.2 else p) 0 := by
    intro k
    induction k with
    | zero =>
      intro _
      refine ⟨fun hk => ?_, by simp⟩
      have h1 := okAt_bd h hk
      simp only [okAt, Bool.and_eq_true] at h1
      have h2 := btw_true h1.2.1
      simpa using h2.1
    | succ k ih =>
      intro hk
      obtain ⟨i1, i2⟩ := ih (by omega)
      have i1 := i1 (by omega)
      rw [foldl_take _ _ _ (0, 0) _ (by omega), foldl_take _ _ _ (0, 0) _ (by omega)]
      refine ⟨fun hk' => ?_, ?_⟩
      · have h1 := okAt_bd h hk'
        simp only [okAt, Bool.and_eq_true, Nat.add_sub_cancel] at h1
        have h2 := h1.2.2
        simp at h2
        simp only [List.getD_eq_getElem?_getD] at i1 ⊢
        split <;> omega
      · split
        · rw [if_pos (by omega)]
          exact Int.le_refl _
        · split
          · exact i1
          · exact i2
  have := (key s.lates.length (Nat.le_refl _)).2
  rwa [List.take_length] at this
theorem retry_mono {s : Sch} {w w' : Wrk} (h1 : 0 ≤ s.rty) (h4 : w.att ≤ w'.att) : retryF s w ≤ retryF s w' := by
  have hq : s.rty * (w.att - 1) ≤ s.rty * (w'.att - 1) := Int.mul_le_mul_of_nonneg_left (by omega) h1
  unfold retryF
  split
  · rw [if_pos (by omega)]
    exact Int.le_refl _
  · split <;> omega
theorem hints_mono {s : Sch} {w w' : Wrk} (h1 : 0 ≤ s.hnt) (h4 : w.hints ≤ w'.hints) : hintsF s w ≤ hintsF s w' := by
  have hq : s.hnt * w.hints ≤ s.hnt * w'.hints := Int.mul_le_mul_of_nonneg_left h4 h1
  unfold hintsF
  omega
/-- `w` is no better than `w'` -/
structure Worse (w w' : Wrk) : Prop where
  prog : w.prog ≤ w'.prog
  days : w'.days ≤ w.days
  att : w'.att ≤ w.att
  hints : w'.hints ≤ w.hints
theorem mul2 {a a' b b' : Int} (h1 : 0 ≤ a) (h2 : a ≤ a') (h3 : 0 ≤ b) (h4 : b ≤ b') : 0 ≤ a * b ∧ a * b ≤ a' * b' :=
  ⟨Int.mul_nonneg h1 h3, Int.mul_le_mul h2 h4 h3 (by omega)⟩
theorem points_mono {s : Sch} {w w' : Wrk} (hs : validB s = true) (hw : wvalid w = true) (hw' : wvalid w' = true) (h : Worse w w') : 0 ≤ (markF s w).points ∧ (markF s w).points ≤ (markF s w').points ∧ (markF s w').points ≤ s.pts := by
  obtain ⟨s1, s2, s3, s4, s5, s6, s7, s8⟩ := valid_facts hs
  obtain ⟨w1, w2, w3, w4⟩ := wvalid_facts hw
  obtain ⟨v1, v2, v3, v4⟩ := wvalid_facts hw'
  have b1 := base_bd s1 s3 w1
  have b2 := late_bd (w := w) s8
  have b3 := retry_bd s4.1 w3.1
  have b4 := hints_bd s5.1 w4.1
  have c1 := base_bd s1 s3 v1
  have c2 := late_bd (w := w') s8
  have c3 := retry_bd s4.1 v3.1
  have c4 := hints_bd s5.1 v4.1
  have m1 := base_mono s1 s3 w1.1 h.prog v1.2
  have m2 := late_mono s8 h.days
  have m3 := retry_mono s4.1 h.att
  have m4 := hints_mono s5.1 h.hints
  have e1 := mul2 b1.1 m1 (show 0 ≤ 100 - lateF s w by omega) (show 100 - lateF s w ≤ 100 - lateF s w' by omega)
  have e2 := mul2 e1.1 e1.2 (show 0 ≤ 100 - retryF s w by omega) (show 100 - retryF s w ≤ 100 - retryF s w' by omega)
  have e3 := mul2 e2.1 e2.2 (show 0 ≤ 100 - hintsF s w by omega) (show 100 - hintsF s w ≤ 100 - hintsF s w' by omega)
  have f1 := mul2 c1.1 c1.2 (show 0 ≤ 100 - lateF s w' by omega) (show 100 - lateF s w' ≤ 100 by omega)
  have f2 := mul2 f1.1 f1.2 (show 0 ≤ 100 - retryF s w' by omega) (show 100 - retryF s w' ≤ 100 by omega)
  have f3 := mul2 f2.1 f2.2 (show 0 ≤ 100 - hintsF s w' by omega) (show 100 - hintsF s w' ≤ 100 by omega)
  simp only [markF]
  omega
theorem late_zero (s : Sch) {w : Wrk} (h : w.days = 0) : lateF s w = 0 := by
  have : ∀ l : List (Int × Int), l.foldl (fun p l => if (0 : Int) < 0 ∧ l.1 ≤ 0 then l.2 else p) 0 = 0 := fun l => by
    induction l with
    | nil => rfl
    | cons x l ih => simpa using ih
  unfold lateF
  rw [h]
  exact this _
theorem retry_one {s : Sch} {w : Wrk} (hs : 0 ≤ s.att) (h : w.att = 1) : retryF s w = 0 := by
  unfold retryF
  rw [h, if_neg (by omega), Int.sub_self, Int.mul_zero]
  omega
theorem hints_zero (s : Sch) {w : Wrk} (h : w.hints = 0) : hintsF s w = 0 := by
  unfold hintsF
  rw [h, Int.mul_zero]
  omega
theorem points_full {s : Sch} (hs : validB s = true) : (markF s ⟨1152921504606846976, 0, 1, 0⟩).points = s.pts := by
  simp only [markF]
  rw [late_zero s rfl, retry_one (valid_facts hs).2.1.1 rfl, hints_zero s rfl, show baseF s ⟨1152921504606846976, 0, 1, 0⟩ = s.pts from if_pos rfl]
  omega
/-- what the law is given, as the row reads it -/
abbrev RawI : Type := Int × Int × Int × Int × Int × Int × List Int × List Int × Unit
def rawOf (x : RawI) : Raw := ⟨x.1, x.2.1, x.2.2.1, x.2.2.2.1, x.2.2.2.2.1, x.2.2.2.2.2.1, x.2.2.2.2.2.2.1, x.2.2.2.2.2.2.2.1⟩
def rawTy : Ty := .pair (.int .u16) (.pair (.int .u8) (.pair (.int .u8) (.pair (.int .u8) (.pair (.int .u8) (.pair (.int .u8) (.pair (.sl (.int .u8)) (.pair (.sl (.int .u8)) .unit)))))))
theorem rawOf_ok {x : RawI} (h : rawTy.good x) : (rawOf x).Ok := by
  obtain ⟨h0, h1, h2, h3, h4, h5, h6, h7, -⟩ := h
  exact ⟨wf_u16 h0, wf_u8 h1, wf_u8 h2, wf_u8 h3, wf_u8 h4, wf_u8 h5, maxLen_le h6.1, maxLen_le h7.1, fun x hx => wf_u8 (h6.2 x hx), fun x hx => wf_u8 (h7.2 x hx)⟩
end Go.Proofs.Ytkoomafopmiebaa
