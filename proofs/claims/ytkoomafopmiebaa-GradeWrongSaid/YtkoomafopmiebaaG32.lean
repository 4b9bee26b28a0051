/- A text of the proof: G32. -/
import Derived.Test.YtkoomafopmiebaaE32
set_option linter.unusedSimpArgs false
set_option linter.unusedVariables false
namespace Go.Proofs.Ytkoomafopmiebaa
open Go.Vsi
attribute [local irreducible] VW VCall VO

theorem raw_below (n : Nat) (r : Raw) : belowL n r.cells := by simp [Raw.cells, belowL, below, enc8_below]
theorem sch_below (n : Nat) (s : Sch) : belowL n s.cells := by simp [Sch.cells, belowL, below, encP_below]
theorem wrk_below (n : Nat) (w : Wrk) : belowL n w.cells := by simp [Wrk.cells, belowL, below]
theorem mrk_below (n : Nat) (m : Mrk) : belowL n m.cells := by simp [Mrk.cells, belowL, below]
theorem points_base {s : Sch} {w : Wrk} (h1 : 0 ≤ s.att) (hd : w.days = 0) (ha : w.att = 1) (hh : w.hints = 0) : markF s w = ⟨baseF s w, baseF s w, 0, 0, 0⟩ := by
  simp only [markF]
  rw [late_zero s hd, retry_one h1 ha, hints_zero s hh]
  congr 1
  omega
theorem says_c (r : Raw) (hr : r.Ok) (n a b c : Int) (hn : 0 ≤ n ∧ n ≤ 18446744073709551615) (ha : 0 ≤ a ∧ a ≤ 255) (hb : 0 ≤ b ∧ b ≤ 255) (hc : 0 ≤ c ∧ c ≤ 255) (H : Heap) :
    VDet Try.prog 5 [.agg r.cells, .int .u64 n, .agg [.int .u8 a, .int .u8 b, .int .u8 c]] H (.bool true) := by
  have hB := built_c r hr
  have hs := built_valid r hr
  generalize builtF r = s at hB hs
  obtain ⟨w, hw, hW⟩ := work_ex n a b c hn ha hb hc
  obtain ⟨w1, w2, w3, w4⟩ := wvalid_facts hw
  obtain ⟨s1, s2, s3, s4, s5, s6, s7, s8⟩ := valid_facts hs
  have b1 := base_bd s1 s3 w1
  have b2 := late_bd (w := w) s8
  have b3 := retry_bd s4.1 w3.1
  have b4 := hints_bd s5.1 w4.1
  have q1 := mul_bd (M := 10000) (b := 100 - lateF s w) (a := baseF s w) (by omega) (by omega)
  have q2 := mul_bd (b := 100 - retryF s w) q1 (by omega)
  have q3 := mul_bd (b := 100 - hintsF s w) q2 (by omega)
  have f1 := points_base (s := s) (w := ⟨w.prog, 0, 1, 0⟩) s2.1 rfl rfl rfl
  have k1 : wvalid ⟨w.prog, 0, 1, 0⟩ = true := wvalid_mk w1 (by simp only; omega) (by simp only; omega) (by simp only; omega)
  have k2 : wvalid ⟨w.prog, w.days, 1, 0⟩ = true := wvalid_mk w1 w2 (by simp only; omega) (by simp only; omega)
  have k3 : wvalid ⟨w.prog, 0, w.att, 0⟩ = true := wvalid_mk w1 (by simp only; omega) w3 (by simp only; omega)
  have k4 : wvalid ⟨w.prog, 0, 1, w.hints⟩ = true := wvalid_mk w1 (by simp only; omega) (by simp only; omega) w4
  obtain ⟨m0, e0, h0⟩ := grade_ex s _ hs hw
  obtain ⟨m1, e1, h1⟩ := grade_ex s _ hs k1
  obtain ⟨m2, e2, h2⟩ := grade_ex s _ hs k2
  obtain ⟨m3, e3, h3⟩ := grade_ex s _ hs k3
  obtain ⟨m4, e4, h4⟩ := grade_ex s _ hs k4
  have g1 : m1.late = 0 ∧ m1.retry = 0 ∧ m1.hints = 0 ∧ m1.points = m1.base ∧ m1.base = baseF s w := by
    rw [e1, f1]; exact ⟨rfl, rfl, rfl, rfl, rfl⟩
  have g0 : m0.base = baseF s w ∧ m0.late = lateF s w ∧ m0.retry = retryF s w ∧ m0.hints = hintsF s w ∧ m0.points = m0.base * (100 - m0.late) * (100 - m0.retry) * (100 - m0.hints) / 1000000 := by
    rw [e0]; exact ⟨rfl, rfl, rfl, rfl, rfl⟩
  have g2 : m2.late = lateF s w := by rw [e2]; rfl
  have g3 : m3.retry = retryF s w := by rw [e3]; rfl
  have g4 : m4.hints = hintsF s w := by rw [e4]; rfl
  obtain ⟨z1, z2, z3, z4, z5⟩ := g0
  rw [← z1, ← z2, ← z3, ← z4] at q3
  rw [← z1, ← z2, ← z3] at q2
  rw [← z1, ← z2] at q1
  have u1 : 0 ≤ s.rty * (w.att - 1) ∧ s.rty * (w.att - 1) ≤ 10000 := ⟨Int.mul_nonneg s4.1 (by omega), Int.le_trans (Int.mul_le_mul s4.2 (by omega : w.att - 1 ≤ 100) (by omega) (by omega)) (by decide)⟩
  have u2 : 0 ≤ s.hnt * w.hints ∧ s.hnt * w.hints ≤ 10000 := ⟨Int.mul_nonneg s5.1 (by omega), Int.le_trans (Int.mul_le_mul s5.2 w4.2 (by omega) (by omega)) (by decide)⟩
  have y1 : retryF s w = if s.att ≠ 0 ∧ s.att < w.att then 100 else min (s.rty * (w.att - 1)) 100 := rfl
  have y2 : hintsF s w = min (s.hnt * w.hints) 100 := rfl
  have y3 : lateF s w = (s.lates.take s.lates.length).foldl (fun p l => if 0 < w.days ∧ l.1 ≤ w.days then l.2 else p) 0 := by rw [List.take_length]; rfl
  clear e0 e1 e2 e3 e4 f1
  refine fn_det Try.E0 Try.mx Try.func5 (by kernel_rfl) rfl (Nat.le_of_ble_eq_true rfl) rfl fun hcl hbl => ?_
  (repeat' ((conv => whnf); (first | refine IfN.not ?_ | refine IfN.tt rfl ?_ | refine IfN.ff rfl ?_ | refine IfN.dT (by omega) ?_ | refine IfN.dF (by omega) ?_ | refine IfN.dec (fun _ => ?_) (fun _ => ?_) | refine IfN.eqT (by omega) ?_ | refine IfN.eqF (by omega) ?_ | refine IfN.eq (fun _ => ?_) (fun _ => ?_) | refine IfN.neT (by omega) ?_ | refine IfN.neF (by omega) ?_ | refine IfN.ne (fun _ => ?_) (fun _ => ?_) | refine IfN.tt (by assumption) ?_ | refine IfN.ff (by assumption) ?_ | (refine IfN.mk ?_ ?_ <;> intro _) | refine EqN.i64 (by omega) ?_ | refine EqN.quo (by omega) ?_ | refine EqN.rem (by omega) ?_ | refine EqN.u8 (by omega) ?_ | refine EqN.u64 (by omega) ?_ | refine EqN.quo8 (by omega) ?_ | refine EqN.i32 (by omega) ?_ | refine EqN.u32 (by omega) ?_ | refine EqN.u16 (by omega) ?_ | refine EqN.quou (by omega) ?_ | refine EqN.shr _ rfl (by omega) ?_ | refine EqN.mk _ rfl ?_ | (refine SideN.mk ?_ ?_; · first | kernel_rfl | omega | exact List.cons_ne_nil _ _ | (simp; done) | (simp; omega) | fail) | refine NatN.mk _ rfl ?_ | refine NatN.at_ (by omega) ?_ | refine CallN.det _ (hB _) ?_ | refine CallD.det _ (fun _ => hB _) ?_ | refine CallN.det _ (hW _) ?_ | refine CallD.det _ (fun _ => hW _) ?_ | refine CallN.det _ (h0 _) ?_ | refine CallD.det _ (fun _ => h0 _) ?_ | refine CallN.det _ (h1 _) ?_ | refine CallD.det _ (fun _ => h1 _) ?_ | refine CallN.det _ (h2 _) ?_ | refine CallD.det _ (fun _ => h2 _) ?_ | refine CallN.det _ (h3 _) ?_ | refine CallD.det _ (fun _ => h3 _) ?_ | refine CallN.det _ (h4 _) ?_ | refine CallD.det _ (fun _ => h4 _) ?_ | refine CallN.det _ (awake_c _) ?_ | refine CallD.det _ (fun _ => awake_c _) ?_ | refine PtrN.loc _ rfl ?_ | refine SegN.mk _ (seg_rfl rfl) ?_ | refine OfsN.at_ (by omega) ?_ | fail))); all_goals (conv => whnf)
  refine loop_R Try.E0 Try.mx (σ := Nat) (fun k => k ≤ s.lates.length) (fun k => s.lates.length - k) (fun k => [(19, .v (.int .i64 ((s.lates.take k).foldl (fun p l => if 0 < w.days ∧ l.1 ≤ w.days then l.2 else p) 0))), (143, .v (.int .i64 k))]) (fun _ => _) _ 0 rfl hcl [7, 8, 9, 141, 142] rfl (Nat.zero_le _) ⟨⟨_, rfl, Wk.refl _⟩, ⟨_, rfl, Wk.refl _⟩, trivial⟩ rfl (fun _ _ => rfl) ?_
  rintro k hk
  by_cases hlt : k < s.lates.length
  · (repeat' ((conv => whnf); (first | refine IfN.not ?_ | refine IfN.tt rfl ?_ | refine IfN.ff rfl ?_ | refine IfN.dT (by omega) ?_ | refine IfN.dF (by omega) ?_ | refine IfN.dec (fun _ => ?_) (fun _ => ?_) | refine IfN.eqT (by omega) ?_ | refine IfN.eqF (by omega) ?_ | refine IfN.eq (fun _ => ?_) (fun _ => ?_) | refine IfN.neT (by omega) ?_ | refine IfN.neF (by omega) ?_ | refine IfN.ne (fun _ => ?_) (fun _ => ?_) | refine IfN.tt (by assumption) ?_ | refine IfN.ff (by assumption) ?_ | (refine IfN.mk ?_ ?_ <;> intro _) | refine EqN.i64 (by omega) ?_ | refine EqN.quo (by omega) ?_ | refine EqN.rem (by omega) ?_ | refine EqN.u8 (by omega) ?_ | refine EqN.u64 (by omega) ?_ | refine EqN.quo8 (by omega) ?_ | refine EqN.i32 (by omega) ?_ | refine EqN.u32 (by omega) ?_ | refine EqN.u16 (by omega) ?_ | refine EqN.quou (by omega) ?_ | refine EqN.shr _ rfl (by omega) ?_ | refine EqN.mk _ rfl ?_ | (refine SideN.mk ?_ ?_; · first | kernel_rfl | omega | exact List.cons_ne_nil _ _ | (simp; done) | (simp; omega) | fail) | refine NatN.mk _ rfl ?_ | refine NatN.at_ (by omega) ?_ | refine SegN.nth (0, 0) k rfl (by omega) (fun _ => rfl) ?_ | refine PtrN.loc _ rfl ?_ | refine SegN.mk _ (seg_rfl rfl) ?_ | refine OfsN.at_ (by omega) ?_ | fail))); all_goals (conv => whnf)
    all_goals ((refine ⟨⟨k + 1, by omega, by omega, ?_, .inl ⟨rfl, rfl⟩, rfl, _, rfl, ?_⟩⟩; rotate_left 1; (first | exact .inl rfl | exact .inr ⟨by simp [belowRE, below, belowL, tr, encP_below, raw_below, sch_below, wrk_below, mrk_below], by simp [belowH, Blk.below, belowL, below, encP_below, raw_below, sch_below, wrk_below, mrk_below]⟩ | fail); (repeat' (first | exact trivial | refine ⟨⟨_, rfl, ?_⟩, ?_⟩ | fail)); all_goals try (first | exact Wk.refl _ | exact Wk.of_eq (congrArg (AV.int _) (by omega)) | fail)))
    all_goals refine Wk.of_eq (congrArg (AV.int _) ?_)
    all_goals rw [foldl_take _ _ _ (0, 0) _ (by omega)]
    · rw [if_pos ⟨by assumption, by assumption⟩]
    · rw [if_neg (by omega)]
    · rw [if_neg (by omega)]
  · have hk' : k = s.lates.length := by omega
    subst hk'
    rw [← y3]
    (repeat' ((conv => whnf); (first | refine IfN.not ?_ | refine IfN.tt rfl ?_ | refine IfN.ff rfl ?_ | refine IfN.dT (by omega) ?_ | refine IfN.dF (by omega) ?_ | refine IfN.dec (fun _ => ?_) (fun _ => ?_) | refine IfN.eqT (by omega) ?_ | refine IfN.eqF (by omega) ?_ | refine IfN.eq (fun _ => ?_) (fun _ => ?_) | refine IfN.neT (by omega) ?_ | refine IfN.neF (by omega) ?_ | refine IfN.ne (fun _ => ?_) (fun _ => ?_) | refine IfN.tt (by assumption) ?_ | refine IfN.ff (by assumption) ?_ | (refine IfN.mk ?_ ?_ <;> intro _) | refine EqN.i64 (by omega) ?_ | refine EqN.quo (by omega) ?_ | refine EqN.rem (by omega) ?_ | refine EqN.u8 (by omega) ?_ | refine EqN.u64 (by omega) ?_ | refine EqN.quo8 (by omega) ?_ | refine EqN.i32 (by omega) ?_ | refine EqN.u32 (by omega) ?_ | refine EqN.u16 (by omega) ?_ | refine EqN.quou (by omega) ?_ | refine EqN.shr _ rfl (by omega) ?_ | refine EqN.mk _ rfl ?_ | (refine SideN.mk ?_ ?_; · first | kernel_rfl | omega | exact List.cons_ne_nil _ _ | (simp; done) | (simp; omega) | fail) | refine NatN.mk _ rfl ?_ | refine NatN.at_ (by omega) ?_ | refine CallN.det _ (awake_c _) ?_ | refine CallD.det _ (fun _ => awake_c _) ?_ | refine PtrN.loc _ rfl ?_ | refine SegN.mk _ (seg_rfl rfl) ?_ | refine OfsN.at_ (by omega) ?_ | fail))); all_goals (conv => whnf)
    all_goals exact EndN.det trivial (Wk.refl _)
end Go.Proofs.Ytkoomafopmiebaa
