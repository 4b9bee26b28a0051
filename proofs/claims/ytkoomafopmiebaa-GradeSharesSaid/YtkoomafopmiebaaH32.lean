/- A text of the proof: H32. -/
import Derived.Test.YtkoomafopmiebaaG32
set_option linter.unusedSimpArgs false
set_option linter.unusedVariables false
namespace Go.Proofs.Ytkoomafopmiebaa
open Go.Vsi
attribute [local irreducible] VW VCall VO

set_option maxHeartbeats 2000000 in
theorem shares_c (r : Raw) (hr : r.Ok) (n b : Int) (hn : 0 ≤ n ∧ n ≤ 18446744073709551615) (hb : 0 ≤ b ∧ b ≤ 255) (H : Heap) :
    VDet Try.prog 6 [.agg r.cells, .int .u64 n, .int .u8 b] H (.bool true) := by
  have hB := built_c r hr
  have hs := built_valid r hr
  generalize builtF r = s at hB hs
  obtain ⟨s1, s2, s3, s4, s5, s6, s7, s8⟩ := valid_facts hs
  have w1 : 0 ≤ n % 1152921504606846976 ∧ n % 1152921504606846976 < 1152921504606846976 := by omega
  have w2 : 0 ≤ b % 64 ∧ b % 64 < 64 := by omega
  have k0 : wvalid ⟨n % 1152921504606846976, 0, 1, 0⟩ = true := wvalid_mk (by simp only; omega) (by simp only; omega) (by simp only; omega) (by simp only; omega)
  have k1 : wvalid ⟨b % 64 * 18014398509481984, 0, 1, 0⟩ = true := wvalid_mk (by simp only; omega) (by simp only; omega) (by simp only; omega) (by simp only; omega)
  have k2 : wvalid ⟨n % 1152921504606846976 / 18014398509481984 * 18014398509481984, 0, 1, 0⟩ = true := wvalid_mk (by simp only; omega) (by simp only; omega) (by simp only; omega) (by simp only; omega)
  have p0 : 0 ≤ s.pts * s.part ∧ s.pts * s.part ≤ 1000000 := ⟨Int.mul_nonneg s1.1 s3.1, Int.le_trans (Int.mul_le_mul s1.2 s3.2 s3.1 (by omega)) (by decide)⟩
  have f0 : baseF s ⟨n % 1152921504606846976, 0, 1, 0⟩ = s.pts * s.part * (n % 1152921504606846976) / 1152921504606846976 / 100 := if_neg (by simp only; omega)
  have f1 : baseF s ⟨b % 64 * 18014398509481984, 0, 1, 0⟩ = s.pts * s.part * (b % 64) / 6400 := by
    rw [show baseF s ⟨b % 64 * 18014398509481984, 0, 1, 0⟩ = s.pts * s.part * (b % 64 * 18014398509481984) / 1152921504606846976 / 100 from if_neg (by simp only; omega), ← Int.mul_assoc]
    omega
  have f2 : baseF s ⟨n % 1152921504606846976 / 18014398509481984 * 18014398509481984, 0, 1, 0⟩ = s.pts * s.part * (n % 1152921504606846976 / 18014398509481984) / 6400 := by
    rw [show baseF s ⟨n % 1152921504606846976 / 18014398509481984 * 18014398509481984, 0, 1, 0⟩ = s.pts * s.part * (n % 1152921504606846976 / 18014398509481984 * 18014398509481984) / 1152921504606846976 / 100 from if_neg (by simp only; omega), ← Int.mul_assoc]
    omega
  have g0 := points_base (s := s) (w := ⟨n % 1152921504606846976, 0, 1, 0⟩) s2.1 rfl rfl rfl
  have g1 := points_base (s := s) (w := ⟨b % 64 * 18014398509481984, 0, 1, 0⟩) s2.1 rfl rfl rfl
  have g2 := points_base (s := s) (w := ⟨n % 1152921504606846976 / 18014398509481984 * 18014398509481984, 0, 1, 0⟩) s2.1 rfl rfl rfl
  obtain ⟨m0, e0, h0⟩ := grade_ex s _ hs k0
  obtain ⟨m1, e1, h1⟩ := grade_ex s _ hs k1
  obtain ⟨m2, e2, h2⟩ := grade_ex s _ hs k2
  have z0 : m0.base = s.pts * s.part * (n % 1152921504606846976) / 1152921504606846976 / 100 := by rw [e0, g0, ← f0]
  have z1 : m1.base = s.pts * s.part * (b % 64) / 6400 := by rw [e1, g1, ← f1]
  have z2 : m2.base = s.pts * s.part * (n % 1152921504606846976 / 18014398509481984) / 6400 := by rw [e2, g2, ← f2]
  clear e0 e1 e2 g0 g1 g2 f0 f1 f2
  have q1 : 0 ≤ s.pts * s.part * (b % 64) ∧ s.pts * s.part * (b % 64) ≤ 1000000 * 64 := ⟨Int.mul_nonneg p0.1 w2.1, Int.mul_le_mul p0.2 (by omega) w2.1 (by omega)⟩
  have q2 : 0 ≤ s.pts * s.part * (n % 1152921504606846976 / 18014398509481984) ∧ s.pts * s.part * (n % 1152921504606846976 / 18014398509481984) ≤ 1000000 * 64 := ⟨Int.mul_nonneg p0.1 (by omega), Int.mul_le_mul p0.2 (by omega) (by omega) (by omega)⟩
  have q3 : s.pts * s.part * (n % 1152921504606846976 / 18014398509481984 + 1) = s.pts * s.part * (n % 1152921504606846976 / 18014398509481984) + s.pts * s.part := by rw [Int.mul_add, Int.mul_one]
  have q4 : s.pts * s.part * (n % 1152921504606846976 / 18014398509481984) * 18014398509481984 ≤ s.pts * s.part * (n % 1152921504606846976) := by
    rw [Int.mul_assoc]
    exact Int.mul_le_mul_of_nonneg_left (by omega) p0.1
  have q5 : s.pts * s.part * (n % 1152921504606846976) ≤ s.pts * s.part * (n % 1152921504606846976 / 18014398509481984 + 1) * 18014398509481984 := by
    have := Int.mul_le_mul_of_nonneg_left (show n % 1152921504606846976 ≤ (n % 1152921504606846976 / 18014398509481984 + 1) * 18014398509481984 by omega) p0.1
    rwa [← Int.mul_assoc] at this
  have q6 : s.pts * s.part * (n % 1152921504606846976) ≤ s.pts * s.part * 1152921504606846976 := Int.mul_le_mul_of_nonneg_left (by omega) p0.1
  refine fn_det Try.E0 Try.mx Try.func6 (by kernel_rfl) rfl (Nat.le_of_ble_eq_true rfl) rfl fun hcl hbl => ?_
  (repeat' ((conv => whnf); (first | refine EqN.shlI 54 18014398509481984 rfl rfl rfl (by omega) ?_ | refine EqN.shrL 54 18014398509481984 rfl rfl rfl ?_ | refine IfN.not ?_ | refine IfN.tt rfl ?_ | refine IfN.ff rfl ?_ | refine IfN.dT (by omega) ?_ | refine IfN.dF (by omega) ?_ | refine IfN.dec (fun _ => ?_) (fun _ => ?_) | refine IfN.eqT (by omega) ?_ | refine IfN.eqF (by omega) ?_ | refine IfN.eq (fun _ => ?_) (fun _ => ?_) | refine IfN.neT (by omega) ?_ | refine IfN.neF (by omega) ?_ | refine IfN.ne (fun _ => ?_) (fun _ => ?_) | refine IfN.tt (by assumption) ?_ | refine IfN.ff (by assumption) ?_ | (refine IfN.mk ?_ ?_ <;> intro _) | refine EqN.i64 (by omega) ?_ | refine EqN.quo (by omega) ?_ | refine EqN.rem (by omega) ?_ | refine EqN.u8 (by omega) ?_ | refine EqN.u64 (by omega) ?_ | refine EqN.quo8 (by omega) ?_ | refine EqN.i32 (by omega) ?_ | refine EqN.u32 (by omega) ?_ | refine EqN.u16 (by omega) ?_ | refine EqN.quou (by omega) ?_ | refine EqN.shr _ rfl (by omega) ?_ | refine EqN.mk _ rfl ?_ | (refine SideN.mk ?_ ?_; · first | kernel_rfl | omega | exact List.cons_ne_nil _ _ | (simp; done) | (simp; omega) | fail) | refine NatN.mk _ rfl ?_ | refine NatN.at_ (by omega) ?_ | refine CallN.det _ (hB _) ?_ | refine CallD.det _ (fun _ => hB _) ?_ | refine CallN.det _ (h0 _) ?_ | refine CallD.det _ (fun _ => h0 _) ?_ | refine CallN.det _ (h1 _) ?_ | refine CallD.det _ (fun _ => h1 _) ?_ | refine CallN.det _ (h2 _) ?_ | refine CallD.det _ (fun _ => h2 _) ?_ | refine CallN.det _ (awake_c _) ?_ | refine CallD.det _ (fun _ => awake_c _) ?_ | refine PtrN.loc _ rfl ?_ | refine SegN.mk _ (seg_rfl rfl) ?_ | refine OfsN.at_ (by omega) ?_ | fail))); all_goals (conv => whnf)
  exact EndN.det trivial (Wk.refl _)
end Go.Proofs.Ytkoomafopmiebaa
