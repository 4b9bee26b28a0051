/- A text of the proof: M32. -/
import Derived.Test.YtkoomafopmiebaaL32
import Derived.Test.YtkoomafopmiebaaJ32
set_option linter.unusedSimpArgs false
set_option linter.unusedVariables false
namespace Go.Proofs.Ytkoomafopmiebaa
open Go.Vsi
attribute [local irreducible] VW VCall VO

abbrev w0 : Wrk := ⟨0, 0, 0, 0⟩
theorem PL_take (f : Wrk → Int) (l : List Wrk) : ∀ k, k ≤ l.length → PL (fun k => f (l.getD k w0)) k = (l.take k).map f
  | 0, _ => rfl
  | k + 1, h => by
    rw [PL, PL_take f l k (by omega), ← map_take_succ _ _ w0 _ (by omega)]
theorem mxN_bd {pt : Nat → Int} : ∀ n, (∀ k, k < n → 0 ≤ pt k ∧ pt k ≤ 10000) → 0 ≤ mxN pt n ∧ mxN pt n ≤ 10000
  | 0, _ => by simp [mxN]
  | n + 1, h => by
    have := mxN_bd n fun k hk => h k (by omega)
    have := h n (by omega)
    simp only [mxN]
    omega
theorem PL_bd {pt : Nat → Int} : ∀ n : Nat, (∀ k, k < n → 0 ≤ pt k ∧ pt k ≤ 10000) → 0 ≤ sumL (PL pt n) ∧ sumL (PL pt n) ≤ 10000 * n
  | 0, _ => by simp [PL, sumL]
  | n + 1, h => by
    have := PL_bd n fun k hk => h k (by omega)
    have := h n (by omega)
    have e : sumL (PL pt (n + 1)) = sumL (PL pt n) + pt n := by
      rw [PL, sumL_app]
      simp [sumL]
    rw [e]
    omega
theorem PL_sum (pt : Nat → Int) (n : Nat) : sumL (PL pt (n + 1)) = sumL (PL pt n) + pt n := by
  rw [PL, sumL_app]
  simp [sumL]
set_option maxHeartbeats 1000000 in
theorem rtotal_c (s : Sch) (l : List Wrk) (hlen : s.lates.length ≤ 9223372036854775807) (hl : l.length ≤ 1000000) (tok : Option Nat) (H : Heap) : VDet Try.prog 16 [.agg s.cells, .sl tok l.length (l.flatMap Wrk.cells)] H (.tup [.int .i64 (totalF s l).1, .int .i64 (totalF s l).2]) := by
  by_cases h1 : validB s = true
  case neg =>
    rw [show totalF s l = (0, 2) from if_neg (fun h => h1 h.1)]
    have h1' : validB s = false := by simpa using h1
    refine fn_det Try.E0 Try.mx Try.func16 (by kernel_rfl) rfl (Nat.le_of_ble_eq_true rfl) rfl fun hcl hbl => ?_
    (repeat' ((conv => whnf); (first | refine IfN.not ?_ | refine IfN.tt rfl ?_ | refine IfN.ff rfl ?_ | refine IfN.dT (by omega) ?_ | refine IfN.dF (by omega) ?_ | refine IfN.dec (fun _ => ?_) (fun _ => ?_) | refine IfN.eqT (by omega) ?_ | refine IfN.eqF (by omega) ?_ | refine IfN.eq (fun _ => ?_) (fun _ => ?_) | refine IfN.neT (by omega) ?_ | refine IfN.neF (by omega) ?_ | refine IfN.ne (fun _ => ?_) (fun _ => ?_) | refine IfN.tt (by assumption) ?_ | refine IfN.ff (by assumption) ?_ | (refine IfN.mk ?_ ?_ <;> intro _) | refine EqN.i64 (by omega) ?_ | refine EqN.quo (by omega) ?_ | refine EqN.rem (by omega) ?_ | refine EqN.u8 (by omega) ?_ | refine EqN.u64 (by omega) ?_ | refine EqN.quo8 (by omega) ?_ | refine EqN.i32 (by omega) ?_ | refine EqN.u32 (by omega) ?_ | refine EqN.u16 (by omega) ?_ | refine EqN.quou (by omega) ?_ | refine EqN.shr _ rfl (by omega) ?_ | refine EqN.mk _ rfl ?_ | (refine SideN.mk ?_ ?_; · first | kernel_rfl | omega | exact List.cons_ne_nil _ _ | (simp; done) | (simp; omega) | fail) | refine NatN.mk _ rfl ?_ | refine NatN.at_ (by omega) ?_ | refine CallN.det _ (rvalid_c s _) ?_ | refine CallD.det _ (fun _ => rvalid_c s _) ?_ | refine PtrN.loc _ rfl ?_ | refine SegN.mk _ (seg_rfl rfl) ?_ | refine OfsN.at_ (by omega) ?_ | fail))); all_goals (conv => whnf)
    exact EndN.det (by simp [below, belowL]) (Wk.refl _)
  obtain ⟨s1, s2, s3, s4, s5, s6, s7, s8⟩ := valid_facts h1
  have hpt : ∀ k, wvalid (l.getD k w0) = true → 0 ≤ (markF s (l.getD k w0)).points ∧ (markF s (l.getD k w0)).points ≤ 10000 := fun k hk => points_bd h1 hk
  obtain ⟨pt, hpd⟩ : ∃ pt : Nat → Int, pt = fun k => (markF s (l.getD k w0)).points := ⟨_, rfl⟩
  refine fn_det Try.E0 Try.mx Try.func16 (by kernel_rfl) rfl (Nat.le_of_ble_eq_true rfl) rfl fun hcl hbl => ?_
  (repeat' ((conv => whnf); (first | refine IfN.not ?_ | refine IfN.tt rfl ?_ | refine IfN.ff rfl ?_ | refine IfN.dT (by omega) ?_ | refine IfN.dF (by omega) ?_ | refine IfN.dec (fun _ => ?_) (fun _ => ?_) | refine IfN.eqT (by omega) ?_ | refine IfN.eqF (by omega) ?_ | refine IfN.eq (fun _ => ?_) (fun _ => ?_) | refine IfN.neT (by omega) ?_ | refine IfN.neF (by omega) ?_ | refine IfN.ne (fun _ => ?_) (fun _ => ?_) | refine IfN.tt (by assumption) ?_ | refine IfN.ff (by assumption) ?_ | (refine IfN.mk ?_ ?_ <;> intro _) | refine EqN.i64 (by omega) ?_ | refine EqN.quo (by omega) ?_ | refine EqN.rem (by omega) ?_ | refine EqN.u8 (by omega) ?_ | refine EqN.u64 (by omega) ?_ | refine EqN.quo8 (by omega) ?_ | refine EqN.i32 (by omega) ?_ | refine EqN.u32 (by omega) ?_ | refine EqN.u16 (by omega) ?_ | refine EqN.quou (by omega) ?_ | refine EqN.shr _ rfl (by omega) ?_ | refine EqN.mk _ rfl ?_ | (refine SideN.mk ?_ ?_; · first | kernel_rfl | omega | exact List.cons_ne_nil _ _ | (simp; done) | (simp; omega) | fail) | refine NatN.mk _ rfl ?_ | refine NatN.at_ (by omega) ?_ | refine CallN.det _ (rvalid_c s _) ?_ | refine CallD.det _ (fun _ => rvalid_c s _) ?_ | refine PtrN.loc _ rfl ?_ | refine SegN.mk _ (seg_rfl rfl) ?_ | refine OfsN.at_ (by omega) ?_ | fail))); all_goals (conv => whnf)
  refine loop_R Try.E0 Try.mx (σ := Nat) (fun k => k ≤ l.length ∧ ∀ i, i < k → wvalid (l.getD i w0) = true) (fun k => l.length - k) (fun k => [(6, .v (.int .i64 (mxN pt k))), (7, .v (.int .i64 (lsN pt k))), (8, .v (.int .i64 (sumL (PL pt k)))), (9, .v (.int .i64 k))]) (fun k => _) _ 0 rfl hcl [1, 2] rfl ⟨Nat.zero_le _, fun i hi => absurd hi (Nat.not_lt_zero i)⟩ ⟨⟨_, rfl, Wk.refl _⟩, ⟨_, rfl, Wk.refl _⟩, ⟨_, rfl, Wk.refl _⟩, ⟨_, rfl, Wk.refl _⟩, trivial⟩ rfl (fun _ _ => rfl) ?_
  rintro k ⟨hk, hok⟩
  by_cases hlt : k < l.length
  · by_cases hv : wvalid (l.getD k w0) = true
    · obtain ⟨m, hm, hg⟩ : ∃ m : Mrk, m = markF s (l.getD k w0) ∧ ∀ H, VDet Try.prog 14 [.agg s.cells, .agg (l.getD k w0).cells] H (.tup [.agg m.cells, .int .i64 0]) := ⟨_, rfl, fun H => by
        have := rgrade_c s (l.getD k w0) hlen H
        rwa [show gradeF s (l.getD k w0) = (markF s (l.getD k w0), 0) from if_pos ⟨h1, hv⟩] at this⟩
      have hmp := hpt k hv
      rw [← hm] at hmp
      have hpk : pt k = m.points := by rw [hpd, hm]
      have hb1 := mxN_bd (pt := pt) k fun i hi => by rw [hpd]; exact hpt i (hok i hi)
      have hb2 := PL_bd (pt := pt) k fun i hi => by rw [hpd]; exact hpt i (hok i hi)
      have hs2 := PL_sum pt k
      (repeat' ((conv => whnf); (first | refine IfN.not ?_ | refine IfN.tt rfl ?_ | refine IfN.ff rfl ?_ | refine IfN.dT (by omega) ?_ | refine IfN.dF (by omega) ?_ | refine IfN.dec (fun _ => ?_) (fun _ => ?_) | refine IfN.eqT (by omega) ?_ | refine IfN.eqF (by omega) ?_ | refine IfN.eq (fun _ => ?_) (fun _ => ?_) | refine IfN.neT (by omega) ?_ | refine IfN.neF (by omega) ?_ | refine IfN.ne (fun _ => ?_) (fun _ => ?_) | refine IfN.tt (by assumption) ?_ | refine IfN.ff (by assumption) ?_ | (refine IfN.mk ?_ ?_ <;> intro _) | refine EqN.i64 (by omega) ?_ | refine EqN.quo (by omega) ?_ | refine EqN.rem (by omega) ?_ | refine EqN.u8 (by omega) ?_ | refine EqN.u64 (by omega) ?_ | refine EqN.quo8 (by omega) ?_ | refine EqN.i32 (by omega) ?_ | refine EqN.u32 (by omega) ?_ | refine EqN.u16 (by omega) ?_ | refine EqN.quou (by omega) ?_ | refine EqN.shr _ rfl (by omega) ?_ | refine EqN.mk _ rfl ?_ | (refine SideN.mk ?_ ?_; · first | kernel_rfl | omega | exact List.cons_ne_nil _ _ | (simp; done) | (simp; omega) | fail) | refine NatN.mk _ rfl ?_ | refine NatN.at_ (by omega) ?_ | refine CallN.det _ (hg _) ?_ | refine CallD.det _ (fun _ => hg _) ?_ | refine SegN.nth w0 k rfl (by omega) (fun _ => rfl) ?_ | refine PtrN.loc _ rfl ?_ | refine SegN.mk _ (seg_rfl rfl) ?_ | refine OfsN.at_ (by omega) ?_ | fail))); all_goals (conv => whnf)
      all_goals ((refine ⟨⟨k + 1, ⟨by omega, fun i hi => by
        rcases Nat.lt_or_ge i k with h | h
        · exact hok i h
        · have : i = k := by omega
          exact this ▸ hv⟩, by omega, ?_, .inl ⟨rfl, rfl⟩, rfl, _, rfl, ?_⟩⟩; rotate_left 1; (first | exact .inl rfl | exact .inr ⟨by simp [belowRE, below, belowL, tr, encP_below, raw_below, sch_below, wrk_below, mrk_below], by simp [belowH, Blk.below, belowL, below, encP_below, raw_below, sch_below, wrk_below, mrk_below]⟩ | fail); (repeat' (first | exact trivial | refine ⟨⟨_, rfl, ?_⟩, ?_⟩ | fail)); all_goals try (first | exact Wk.refl _ | exact Wk.of_eq (congrArg (AV.int _) (by omega)) | fail)))
      all_goals refine Wk.of_eq (congrArg (AV.int _) ?_)
      all_goals simp only [mxN, lsN]
      all_goals omega
    · have hv' : wvalid (l.getD k w0) = false := by simpa using hv
      have hany : l.any (fun w => !wvalid w) = true := by
        rw [List.any_eq_true]
        exact ⟨l.getD k w0, by simp [List.getElem?_eq_getElem hlt], by simp only [hv', Bool.not_false]⟩
      rw [show totalF s l = (0, 2) from if_neg (fun h => by rw [hany] at h; cases h.2)]
      have hg : ∀ H, VDet Try.prog 14 [.agg s.cells, .agg (l.getD k w0).cells] H (.tup [.agg (Mrk.cells ⟨0, 0, 0, 0, 0⟩), .int .i64 2]) := fun H => by
        have := rgrade_c s (l.getD k w0) hlen H
        rwa [show gradeF s (l.getD k w0) = (⟨0, 0, 0, 0, 0⟩, 2) from if_neg (fun h => hv h.2)] at this
      (repeat' ((conv => whnf); (first | refine IfN.not ?_ | refine IfN.tt rfl ?_ | refine IfN.ff rfl ?_ | refine IfN.dT (by omega) ?_ | refine IfN.dF (by omega) ?_ | refine IfN.dec (fun _ => ?_) (fun _ => ?_) | refine IfN.eqT (by omega) ?_ | refine IfN.eqF (by omega) ?_ | refine IfN.eq (fun _ => ?_) (fun _ => ?_) | refine IfN.neT (by omega) ?_ | refine IfN.neF (by omega) ?_ | refine IfN.ne (fun _ => ?_) (fun _ => ?_) | refine IfN.tt (by assumption) ?_ | refine IfN.ff (by assumption) ?_ | (refine IfN.mk ?_ ?_ <;> intro _) | refine EqN.i64 (by omega) ?_ | refine EqN.quo (by omega) ?_ | refine EqN.rem (by omega) ?_ | refine EqN.u8 (by omega) ?_ | refine EqN.u64 (by omega) ?_ | refine EqN.quo8 (by omega) ?_ | refine EqN.i32 (by omega) ?_ | refine EqN.u32 (by omega) ?_ | refine EqN.u16 (by omega) ?_ | refine EqN.quou (by omega) ?_ | refine EqN.shr _ rfl (by omega) ?_ | refine EqN.mk _ rfl ?_ | (refine SideN.mk ?_ ?_; · first | kernel_rfl | omega | exact List.cons_ne_nil _ _ | (simp; done) | (simp; omega) | fail) | refine NatN.mk _ rfl ?_ | refine NatN.at_ (by omega) ?_ | refine CallN.det _ (hg _) ?_ | refine CallD.det _ (fun _ => hg _) ?_ | refine SegN.nth w0 k rfl (by omega) (fun _ => rfl) ?_ | refine PtrN.loc _ rfl ?_ | refine SegN.mk _ (seg_rfl rfl) ?_ | refine OfsN.at_ (by omega) ?_ | fail))); all_goals (conv => whnf)
      exact EndN.det (by simp [below, belowL]) (Wk.refl _)
  · have hk' : k = l.length := by omega
    subst hk'
    have hwv : ∀ w ∈ l, wvalid w = true := fun w hw => by
      obtain ⟨i, hi, rfl⟩ := List.getElem_of_mem hw
      have := hok i hi
      simpa [List.getElem?_eq_getElem hi] using this
    by_cases h100 : 100 < l.length
    · rw [show totalF s l = (0, 5) by
        unfold totalF
        rw [if_pos ⟨h1, by rw [List.any_eq_false]; intro w hw; simp [hwv w hw]⟩, if_pos h100]]
      (repeat' ((conv => whnf); (first | refine IfN.not ?_ | refine IfN.tt rfl ?_ | refine IfN.ff rfl ?_ | refine IfN.dT (by omega) ?_ | refine IfN.dF (by omega) ?_ | refine IfN.dec (fun _ => ?_) (fun _ => ?_) | refine IfN.eqT (by omega) ?_ | refine IfN.eqF (by omega) ?_ | refine IfN.eq (fun _ => ?_) (fun _ => ?_) | refine IfN.neT (by omega) ?_ | refine IfN.neF (by omega) ?_ | refine IfN.ne (fun _ => ?_) (fun _ => ?_) | refine IfN.tt (by assumption) ?_ | refine IfN.ff (by assumption) ?_ | (refine IfN.mk ?_ ?_ <;> intro _) | refine EqN.i64 (by omega) ?_ | refine EqN.quo (by omega) ?_ | refine EqN.rem (by omega) ?_ | refine EqN.u8 (by omega) ?_ | refine EqN.u64 (by omega) ?_ | refine EqN.quo8 (by omega) ?_ | refine EqN.i32 (by omega) ?_ | refine EqN.u32 (by omega) ?_ | refine EqN.u16 (by omega) ?_ | refine EqN.quou (by omega) ?_ | refine EqN.shr _ rfl (by omega) ?_ | refine EqN.mk _ rfl ?_ | (refine SideN.mk ?_ ?_; · first | kernel_rfl | omega | exact List.cons_ne_nil _ _ | (simp; done) | (simp; omega) | fail) | refine NatN.mk _ rfl ?_ | refine NatN.at_ (by omega) ?_ | refine PtrN.loc _ rfl ?_ | refine SegN.mk _ (seg_rfl rfl) ?_ | refine OfsN.at_ (by omega) ?_ | fail))); all_goals (conv => whnf)
      exact EndN.det (by simp [below, belowL]) (Wk.refl _)
    · rw [total_all h1 hwv (by omega)]
      by_cases h0 : l.length = 0
      · rw [if_pos h0]
        (repeat' ((conv => whnf); (first | refine IfN.not ?_ | refine IfN.tt rfl ?_ | refine IfN.ff rfl ?_ | refine IfN.dT (by omega) ?_ | refine IfN.dF (by omega) ?_ | refine IfN.dec (fun _ => ?_) (fun _ => ?_) | refine IfN.eqT (by omega) ?_ | refine IfN.eqF (by omega) ?_ | refine IfN.eq (fun _ => ?_) (fun _ => ?_) | refine IfN.neT (by omega) ?_ | refine IfN.neF (by omega) ?_ | refine IfN.ne (fun _ => ?_) (fun _ => ?_) | refine IfN.tt (by assumption) ?_ | refine IfN.ff (by assumption) ?_ | (refine IfN.mk ?_ ?_ <;> intro _) | refine EqN.i64 (by omega) ?_ | refine EqN.quo (by omega) ?_ | refine EqN.rem (by omega) ?_ | refine EqN.u8 (by omega) ?_ | refine EqN.u64 (by omega) ?_ | refine EqN.quo8 (by omega) ?_ | refine EqN.i32 (by omega) ?_ | refine EqN.u32 (by omega) ?_ | refine EqN.u16 (by omega) ?_ | refine EqN.quou (by omega) ?_ | refine EqN.shr _ rfl (by omega) ?_ | refine EqN.mk _ rfl ?_ | (refine SideN.mk ?_ ?_; · first | kernel_rfl | omega | exact List.cons_ne_nil _ _ | (simp; done) | (simp; omega) | fail) | refine NatN.mk _ rfl ?_ | refine NatN.at_ (by omega) ?_ | refine PtrN.loc _ rfl ?_ | refine SegN.mk _ (seg_rfl rfl) ?_ | refine OfsN.at_ (by omega) ?_ | fail))); all_goals (conv => whnf)
        exact EndN.det (by simp [below, belowL]) (Wk.refl _)
      · rw [if_neg h0]
        have hb2 := PL_bd (pt := pt) l.length fun i hi => by rw [hpd]; exact hpt i (hok i hi)
        have hP := PL_take (fun w => (markF s w).points) l l.length (Nat.le_refl _)
        rw [← hpd, List.take_length] at hP
        have f1 := mxN_spec (pt := pt) l.length (fun i hi => by rw [hpd]; exact (hpt i (hok i hi)).1) (by omega)
        have f2 := lsN_spec pt l.length (by omega)
        (repeat' ((conv => whnf); (first | refine IfN.not ?_ | refine IfN.tt rfl ?_ | refine IfN.ff rfl ?_ | refine IfN.dT (by omega) ?_ | refine IfN.dF (by omega) ?_ | refine IfN.dec (fun _ => ?_) (fun _ => ?_) | refine IfN.eqT (by omega) ?_ | refine IfN.eqF (by omega) ?_ | refine IfN.eq (fun _ => ?_) (fun _ => ?_) | refine IfN.neT (by omega) ?_ | refine IfN.neF (by omega) ?_ | refine IfN.ne (fun _ => ?_) (fun _ => ?_) | refine IfN.tt (by assumption) ?_ | refine IfN.ff (by assumption) ?_ | (refine IfN.mk ?_ ?_ <;> intro _) | refine EqN.i64 (by omega) ?_ | refine EqN.quo (by omega) ?_ | refine EqN.rem (by omega) ?_ | refine EqN.u8 (by omega) ?_ | refine EqN.u64 (by omega) ?_ | refine EqN.quo8 (by omega) ?_ | refine EqN.i32 (by omega) ?_ | refine EqN.u32 (by omega) ?_ | refine EqN.u16 (by omega) ?_ | refine EqN.quou (by omega) ?_ | refine EqN.shr _ rfl (by omega) ?_ | refine EqN.mk _ rfl ?_ | (refine SideN.mk ?_ ?_; · first | kernel_rfl | omega | exact List.cons_ne_nil _ _ | (simp; done) | (simp; omega) | fail) | refine NatN.mk _ rfl ?_ | refine NatN.at_ (by omega) ?_ | refine SegN.nth (f := encI) (l := [_, _, _, _]) 0 s.cnt.toNat (by omega) (by simp; omega) (fun _ => rfl) ?_ | refine PtrN.loc _ rfl ?_ | refine SegN.mk _ (seg_rfl rfl) ?_ | refine OfsN.at_ (by omega) ?_ | fail))); all_goals (conv => whnf)
        refine EndN.det (by simp [below, belowL]) (Wk.of_eq ?_)
        simp only [AV.tup.injEq, List.cons.injEq, AV.int.injEq, true_and, and_true]
        rw [← hP]
        unfold wayF
        rcases (show s.cnt = 1 ∨ s.cnt = 2 ∨ s.cnt = 3 by omega) with e | e | e
        · rw [if_pos e, e, ← f1]; rfl
        · rw [if_neg (by omega), if_pos e, e, ← f2]; rfl
        · rw [if_neg (by omega), if_neg (by omega), e, PL_len]; rfl
end Go.Proofs.Ytkoomafopmiebaa
