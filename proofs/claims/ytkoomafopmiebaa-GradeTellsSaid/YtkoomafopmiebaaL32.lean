/- A text of the proof: L32. -/
import Derived.Test.YtkoomafopmiebaaK32
set_option linter.unusedSimpArgs false
set_option linter.unusedVariables false
namespace Go.Proofs.Ytkoomafopmiebaa
open Go.Vsi
attribute [local irreducible] VW VCall VO

def lateK (s : Sch) (w : Wrk) (k : Nat) : Int := (s.lates.take k).foldl (fun p l => if 0 < w.days ∧ l.1 ≤ w.days then l.2 else p) 0
theorem lateK_all (s : Sch) (w : Wrk) : lateK s w s.lates.length = lateF s w := by
  unfold lateK lateF
  rw [List.take_length]
theorem lateK_next (s : Sch) (w : Wrk) (k : Nat) (hk : k < s.lates.length) : lateK s w (k + 1) = if 0 < w.days ∧ (s.lates.getD k (0, 0)).1 ≤ w.days then (s.lates.getD k (0, 0)).2 else lateK s w k := by
  unfold lateK
  rw [foldl_take _ _ _ (0, 0) _ hk]
set_option maxHeartbeats 1000000 in
theorem rgrade_c (s : Sch) (w : Wrk) (hlen : s.lates.length ≤ 9223372036854775807) (H : Heap) : VDet Try.prog 14 [.agg s.cells, .agg w.cells] H (.tup [.agg (gradeF s w).1.cells, .int .i64 (gradeF s w).2]) := by
  by_cases h1 : validB s = true
  case neg =>
    rw [show gradeF s w = (⟨0, 0, 0, 0, 0⟩, 2) from if_neg (fun h => h1 h.1)]
    have h1' : validB s = false := by simpa using h1
    refine fn_det Try.E0 Try.mx Try.func14 (by kernel_rfl) rfl (Nat.le_of_ble_eq_true rfl) rfl fun hcl hbl => ?_
    (repeat' ((conv => whnf); (first | refine IfN.not ?_ | refine IfN.tt rfl ?_ | refine IfN.ff rfl ?_ | refine IfN.dT (by omega) ?_ | refine IfN.dF (by omega) ?_ | refine IfN.dec (fun _ => ?_) (fun _ => ?_) | refine IfN.eqT (by omega) ?_ | refine IfN.eqF (by omega) ?_ | refine IfN.eq (fun _ => ?_) (fun _ => ?_) | refine IfN.neT (by omega) ?_ | refine IfN.neF (by omega) ?_ | refine IfN.ne (fun _ => ?_) (fun _ => ?_) | refine IfN.tt (by assumption) ?_ | refine IfN.ff (by assumption) ?_ | (refine IfN.mk ?_ ?_ <;> intro _) | refine EqN.i64 (by omega) ?_ | refine EqN.quo (by omega) ?_ | refine EqN.rem (by omega) ?_ | refine EqN.u8 (by omega) ?_ | refine EqN.u64 (by omega) ?_ | refine EqN.quo8 (by omega) ?_ | refine EqN.i32 (by omega) ?_ | refine EqN.u32 (by omega) ?_ | refine EqN.u16 (by omega) ?_ | refine EqN.quou (by omega) ?_ | refine EqN.shr _ rfl (by omega) ?_ | refine EqN.mk _ rfl ?_ | (refine SideN.mk ?_ ?_; · first | kernel_rfl | omega | exact List.cons_ne_nil _ _ | (simp; done) | (simp; omega) | fail) | refine NatN.mk _ rfl ?_ | refine NatN.at_ (by omega) ?_ | refine CallN.det _ (rvalid_c s _) ?_ | refine CallD.det _ (fun _ => rvalid_c s _) ?_ | refine CallN.det _ (right_c w _) ?_ | refine CallD.det _ (fun _ => right_c w _) ?_ | refine PtrN.loc _ rfl ?_ | refine SegN.mk _ (seg_rfl rfl) ?_ | refine OfsN.at_ (by omega) ?_ | fail))); all_goals (conv => whnf)
    exact EndN.det (by simp [below, belowL, Mrk.cells]) (Wk.refl _)
  by_cases h2 : wvalid w = true
  case neg =>
    rw [show gradeF s w = (⟨0, 0, 0, 0, 0⟩, 2) from if_neg (fun h => h2 h.2)]
    have h2' : wvalid w = false := by simpa using h2
    refine fn_det Try.E0 Try.mx Try.func14 (by kernel_rfl) rfl (Nat.le_of_ble_eq_true rfl) rfl fun hcl hbl => ?_
    (repeat' ((conv => whnf); (first | refine IfN.not ?_ | refine IfN.tt rfl ?_ | refine IfN.ff rfl ?_ | refine IfN.dT (by omega) ?_ | refine IfN.dF (by omega) ?_ | refine IfN.dec (fun _ => ?_) (fun _ => ?_) | refine IfN.eqT (by omega) ?_ | refine IfN.eqF (by omega) ?_ | refine IfN.eq (fun _ => ?_) (fun _ => ?_) | refine IfN.neT (by omega) ?_ | refine IfN.neF (by omega) ?_ | refine IfN.ne (fun _ => ?_) (fun _ => ?_) | refine IfN.tt (by assumption) ?_ | refine IfN.ff (by assumption) ?_ | (refine IfN.mk ?_ ?_ <;> intro _) | refine EqN.i64 (by omega) ?_ | refine EqN.quo (by omega) ?_ | refine EqN.rem (by omega) ?_ | refine EqN.u8 (by omega) ?_ | refine EqN.u64 (by omega) ?_ | refine EqN.quo8 (by omega) ?_ | refine EqN.i32 (by omega) ?_ | refine EqN.u32 (by omega) ?_ | refine EqN.u16 (by omega) ?_ | refine EqN.quou (by omega) ?_ | refine EqN.shr _ rfl (by omega) ?_ | refine EqN.mk _ rfl ?_ | (refine SideN.mk ?_ ?_; · first | kernel_rfl | omega | exact List.cons_ne_nil _ _ | (simp; done) | (simp; omega) | fail) | refine NatN.mk _ rfl ?_ | refine NatN.at_ (by omega) ?_ | refine CallN.det _ (rvalid_c s _) ?_ | refine CallD.det _ (fun _ => rvalid_c s _) ?_ | refine CallN.det _ (right_c w _) ?_ | refine CallD.det _ (fun _ => right_c w _) ?_ | refine PtrN.loc _ rfl ?_ | refine SegN.mk _ (seg_rfl rfl) ?_ | refine OfsN.at_ (by omega) ?_ | fail))); all_goals (conv => whnf)
    exact EndN.det (by simp [below, belowL, Mrk.cells]) (Wk.refl _)
  rw [show gradeF s w = (markF s w, 0) from if_pos ⟨h1, h2⟩]
  obtain ⟨s1, s2, s3, s4, s5, s6, s7, s8⟩ := valid_facts h1
  obtain ⟨w1, w2, w3, w4⟩ := wvalid_facts h2
  have b1 := base_bd s1 s3 w1
  have b2 := late_bd (w := w) s8
  have b3 := retry_bd s4.1 w3.1
  have b4 := hints_bd s5.1 w4.1
  have q1 := mul_bd (M := 10000) (b := 100 - lateF s w) (a := baseF s w) (by omega) (by omega)
  have q2 := mul_bd (b := 100 - retryF s w) q1 (by omega)
  have q3 := mul_bd (b := 100 - hintsF s w) q2 (by omega)
  have u1 : 0 ≤ s.rty * (w.att - 1) ∧ s.rty * (w.att - 1) ≤ 10000 := ⟨Int.mul_nonneg s4.1 (by omega), Int.le_trans (Int.mul_le_mul s4.2 (by omega : w.att - 1 ≤ 100) (by omega) (by omega)) (by decide)⟩
  have u2 : 0 ≤ s.hnt * w.hints ∧ s.hnt * w.hints ≤ 10000 := ⟨Int.mul_nonneg s5.1 (by omega), Int.le_trans (Int.mul_le_mul s5.2 w4.2 (by omega) (by omega)) (by decide)⟩
  have y1 : retryF s w = if s.att ≠ 0 ∧ s.att < w.att then 100 else min (s.rty * (w.att - 1)) 100 := rfl
  have y2 : hintsF s w = min (s.hnt * w.hints) 100 := rfl
  have hmk : markF s w = ⟨baseF s w * (100 - lateF s w) * (100 - retryF s w) * (100 - hintsF s w) / 1000000, baseF s w, lateF s w, retryF s w, hintsF s w⟩ := rfl
  refine fn_det Try.E0 Try.mx Try.func14 (by kernel_rfl) rfl (Nat.le_of_ble_eq_true rfl) rfl fun hcl hbl => ?_
  (repeat' ((conv => whnf); (first | refine IfN.not ?_ | refine IfN.tt rfl ?_ | refine IfN.ff rfl ?_ | refine IfN.dT (by omega) ?_ | refine IfN.dF (by omega) ?_ | refine IfN.dec (fun _ => ?_) (fun _ => ?_) | refine IfN.eqT (by omega) ?_ | refine IfN.eqF (by omega) ?_ | refine IfN.eq (fun _ => ?_) (fun _ => ?_) | refine IfN.neT (by omega) ?_ | refine IfN.neF (by omega) ?_ | refine IfN.ne (fun _ => ?_) (fun _ => ?_) | refine IfN.tt (by assumption) ?_ | refine IfN.ff (by assumption) ?_ | (refine IfN.mk ?_ ?_ <;> intro _) | refine EqN.i64 (by omega) ?_ | refine EqN.quo (by omega) ?_ | refine EqN.rem (by omega) ?_ | refine EqN.u8 (by omega) ?_ | refine EqN.u64 (by omega) ?_ | refine EqN.quo8 (by omega) ?_ | refine EqN.i32 (by omega) ?_ | refine EqN.u32 (by omega) ?_ | refine EqN.u16 (by omega) ?_ | refine EqN.quou (by omega) ?_ | refine EqN.shr _ rfl (by omega) ?_ | refine EqN.mk _ rfl ?_ | (refine SideN.mk ?_ ?_; · first | kernel_rfl | omega | exact List.cons_ne_nil _ _ | (simp; done) | (simp; omega) | fail) | refine NatN.mk _ rfl ?_ | refine NatN.at_ (by omega) ?_ | refine CallN.det _ (rvalid_c s _) ?_ | refine CallD.det _ (fun _ => rvalid_c s _) ?_ | refine CallN.det _ (right_c w _) ?_ | refine CallD.det _ (fun _ => right_c w _) ?_ | refine CallN.det _ (base24_c s w s1 s3 w1 _) ?_ | refine CallD.det _ (fun _ => base24_c s w s1 s3 w1 _) ?_ | refine PtrN.loc _ rfl ?_ | refine SegN.mk _ (seg_rfl rfl) ?_ | refine OfsN.at_ (by omega) ?_ | fail))); all_goals (conv => whnf)
  refine loop_R Try.E0 Try.mx (σ := Nat) (fun k => k ≤ s.lates.length) (fun k => s.lates.length - k) (fun k => [(7, .v (.int .i64 k))]) (fun k => [.box 29 s.cells, .box 44 w.cells, .box 41 [.int .i64 0, .int .i64 0, .int .i64 0, .int .i64 0, .int .i64 0], .box 41 [.int .i64 0, .int .i64 (baseF s w), .int .i64 (lateK s w k), .int .i64 0, .int .i64 0]]) _ 0 rfl hcl [2, 3, 4, 6] rfl (Nat.zero_le _) ⟨⟨_, rfl, Wk.refl _⟩, trivial⟩ rfl (fun _ _ => rfl) ?_
  rintro k hk
  by_cases hlt : k < s.lates.length
  · have hnx := lateK_next s w k hlt
    by_cases hc : 0 < w.days ∧ (s.lates.getD k (0, 0)).1 ≤ w.days
    · rw [if_pos hc] at hnx
      (repeat' ((conv => whnf); (first | refine IfN.not ?_ | refine IfN.tt rfl ?_ | refine IfN.ff rfl ?_ | refine IfN.dT (by omega) ?_ | refine IfN.dF (by omega) ?_ | refine IfN.dec (fun _ => ?_) (fun _ => ?_) | refine IfN.eqT (by omega) ?_ | refine IfN.eqF (by omega) ?_ | refine IfN.eq (fun _ => ?_) (fun _ => ?_) | refine IfN.neT (by omega) ?_ | refine IfN.neF (by omega) ?_ | refine IfN.ne (fun _ => ?_) (fun _ => ?_) | refine IfN.tt (by assumption) ?_ | refine IfN.ff (by assumption) ?_ | (refine IfN.mk ?_ ?_ <;> intro _) | refine EqN.i64 (by omega) ?_ | refine EqN.quo (by omega) ?_ | refine EqN.rem (by omega) ?_ | refine EqN.u8 (by omega) ?_ | refine EqN.u64 (by omega) ?_ | refine EqN.quo8 (by omega) ?_ | refine EqN.i32 (by omega) ?_ | refine EqN.u32 (by omega) ?_ | refine EqN.u16 (by omega) ?_ | refine EqN.quou (by omega) ?_ | refine EqN.shr _ rfl (by omega) ?_ | refine EqN.mk _ rfl ?_ | (refine SideN.mk ?_ ?_; · first | kernel_rfl | omega | exact List.cons_ne_nil _ _ | (simp; done) | (simp; omega) | fail) | refine NatN.mk _ rfl ?_ | refine NatN.at_ (by omega) ?_ | refine SegN.nth (0, 0) k rfl (by omega) (fun _ => rfl) ?_ | refine PtrN.loc _ rfl ?_ | refine SegN.mk _ (seg_rfl rfl) ?_ | refine OfsN.at_ (by omega) ?_ | fail))); all_goals (conv => whnf)
      all_goals rw [← hnx]
      all_goals ((refine ⟨⟨k + 1, by omega, by omega, ?_, .inl ⟨rfl, rfl⟩, rfl, _, rfl, ?_⟩⟩; rotate_left 1; (first | exact .inl rfl | exact .inr ⟨by simp [belowRE, below, belowL, tr, encP_below, raw_below, sch_below, wrk_below, mrk_below], by simp [belowH, Blk.below, belowL, below, encP_below, raw_below, sch_below, wrk_below, mrk_below]⟩ | fail); (repeat' (first | exact trivial | refine ⟨⟨_, rfl, ?_⟩, ?_⟩ | fail)); all_goals try (first | exact Wk.refl _ | exact Wk.of_eq (congrArg (AV.int _) (by omega)) | fail)))
    · rw [if_neg hc] at hnx
      (repeat' ((conv => whnf); (first | refine IfN.not ?_ | refine IfN.tt rfl ?_ | refine IfN.ff rfl ?_ | refine IfN.dT (by omega) ?_ | refine IfN.dF (by omega) ?_ | refine IfN.dec (fun _ => ?_) (fun _ => ?_) | refine IfN.eqT (by omega) ?_ | refine IfN.eqF (by omega) ?_ | refine IfN.eq (fun _ => ?_) (fun _ => ?_) | refine IfN.neT (by omega) ?_ | refine IfN.neF (by omega) ?_ | refine IfN.ne (fun _ => ?_) (fun _ => ?_) | refine IfN.tt (by assumption) ?_ | refine IfN.ff (by assumption) ?_ | (refine IfN.mk ?_ ?_ <;> intro _) | refine EqN.i64 (by omega) ?_ | refine EqN.quo (by omega) ?_ | refine EqN.rem (by omega) ?_ | refine EqN.u8 (by omega) ?_ | refine EqN.u64 (by omega) ?_ | refine EqN.quo8 (by omega) ?_ | refine EqN.i32 (by omega) ?_ | refine EqN.u32 (by omega) ?_ | refine EqN.u16 (by omega) ?_ | refine EqN.quou (by omega) ?_ | refine EqN.shr _ rfl (by omega) ?_ | refine EqN.mk _ rfl ?_ | (refine SideN.mk ?_ ?_; · first | kernel_rfl | omega | exact List.cons_ne_nil _ _ | (simp; done) | (simp; omega) | fail) | refine NatN.mk _ rfl ?_ | refine NatN.at_ (by omega) ?_ | refine SegN.nth (0, 0) k rfl (by omega) (fun _ => rfl) ?_ | refine PtrN.loc _ rfl ?_ | refine SegN.mk _ (seg_rfl rfl) ?_ | refine OfsN.at_ (by omega) ?_ | fail))); all_goals (conv => whnf)
      all_goals rw [← hnx]
      all_goals ((refine ⟨⟨k + 1, by omega, by omega, ?_, .inl ⟨rfl, rfl⟩, rfl, _, rfl, ?_⟩⟩; rotate_left 1; (first | exact .inl rfl | exact .inr ⟨by simp [belowRE, below, belowL, tr, encP_below, raw_below, sch_below, wrk_below, mrk_below], by simp [belowH, Blk.below, belowL, below, encP_below, raw_below, sch_below, wrk_below, mrk_below]⟩ | fail); (repeat' (first | exact trivial | refine ⟨⟨_, rfl, ?_⟩, ?_⟩ | fail)); all_goals try (first | exact Wk.refl _ | exact Wk.of_eq (congrArg (AV.int _) (by omega)) | fail)))
  · have hk' : k = s.lates.length := by omega
    subst hk'
    rw [lateK_all]
    have hrc : (retryF s w = 100 ∧ (100 < s.rty * (w.att - 1) ∨ (s.att ≠ 0 ∧ s.att < w.att))) ∨ (retryF s w = s.rty * (w.att - 1) ∧ ¬ 100 < s.rty * (w.att - 1) ∧ (s.att = 0 ∨ ¬ s.att < w.att)) := by
      by_cases hx : s.att ≠ 0 ∧ s.att < w.att
      · rw [if_pos hx] at y1
        exact .inl ⟨y1, .inr hx⟩
      · rw [if_neg hx] at y1
        omega
    have hhc : (hintsF s w = 100 ∧ 100 < s.hnt * w.hints) ∨ (hintsF s w = s.hnt * w.hints ∧ ¬ 100 < s.hnt * w.hints) := by omega
    clear y1 y2
    rcases hrc with ⟨er, hr⟩ | ⟨er, hr⟩
    all_goals rcases hhc with ⟨eh, hh⟩ | ⟨eh, hh⟩
    all_goals rw [hmk, er, eh]
    all_goals rw [er] at q2 q3
    all_goals rw [eh] at q3
    all_goals ((repeat' ((conv => whnf); (first | refine IfN.not ?_ | refine IfN.tt rfl ?_ | refine IfN.ff rfl ?_ | refine IfN.dT (by omega) ?_ | refine IfN.dF (by omega) ?_ | refine IfN.dec (fun _ => ?_) (fun _ => ?_) | refine IfN.eqT (by omega) ?_ | refine IfN.eqF (by omega) ?_ | refine IfN.eq (fun _ => ?_) (fun _ => ?_) | refine IfN.neT (by omega) ?_ | refine IfN.neF (by omega) ?_ | refine IfN.ne (fun _ => ?_) (fun _ => ?_) | refine IfN.tt (by assumption) ?_ | refine IfN.ff (by assumption) ?_ | (refine IfN.mk ?_ ?_ <;> intro _) | refine EqN.i64 (by omega) ?_ | refine EqN.quo (by omega) ?_ | refine EqN.rem (by omega) ?_ | refine EqN.u8 (by omega) ?_ | refine EqN.u64 (by omega) ?_ | refine EqN.quo8 (by omega) ?_ | refine EqN.i32 (by omega) ?_ | refine EqN.u32 (by omega) ?_ | refine EqN.u16 (by omega) ?_ | refine EqN.quou (by omega) ?_ | refine EqN.shr _ rfl (by omega) ?_ | refine EqN.mk _ rfl ?_ | (refine SideN.mk ?_ ?_; · first | kernel_rfl | omega | exact List.cons_ne_nil _ _ | (simp; done) | (simp; omega) | fail) | refine NatN.mk _ rfl ?_ | refine NatN.at_ (by omega) ?_ | refine PtrN.loc _ rfl ?_ | refine SegN.mk _ (seg_rfl rfl) ?_ | refine OfsN.at_ (by omega) ?_ | fail))); all_goals (conv => whnf))
    all_goals refine EndN.det (by simp [below, belowL, Mrk.cells]) (Wk.refl _)
end Go.Proofs.Ytkoomafopmiebaa
