/- A text of the proof: F32. -/
import Derived.Test.YtkoomafopmiebaaE32
set_option linter.unusedSimpArgs false
set_option linter.unusedVariables false
namespace Go.Proofs.Ytkoomafopmiebaa
open Go.Vsi
attribute [local irreducible] VW VCall VO

theorem valid_t {s : Sch} (h : validB s = true) (H : Heap) : VDet Try.prog 11 [.agg s.cells] H (.bool true) := by
  have := valid_c s H
  rwa [h] at this
theorem fair_c (r : Raw) (hr : r.Ok) (n n' a b c a' b' c' : Int) (hn : 0 ≤ n ∧ n ≤ 18446744073709551615) (hn' : 0 ≤ n' ∧ n' ≤ 18446744073709551615) (ha : 0 ≤ a ∧ a ≤ 255) (hb : 0 ≤ b ∧ b ≤ 255) (hc : 0 ≤ c ∧ c ≤ 255) (ha' : 0 ≤ a' ∧ a' ≤ 255) (hb' : 0 ≤ b' ∧ b' ≤ 255) (hc' : 0 ≤ c' ∧ c' ≤ 255) (H : Heap) :
    VDet Try.prog 4 [.agg r.cells, .int .u64 n, .int .u64 n', .agg [.int .u8 a, .int .u8 b, .int .u8 c], .agg [.int .u8 a', .int .u8 b', .int .u8 c']] H (.bool true) := by
  have hB := built_c r hr
  have hs := built_valid r hr
  generalize builtF r = s at hB hs
  obtain ⟨w, hw, hW⟩ := work_ex n a b c hn ha hb hc
  obtain ⟨v, hv, hV⟩ := work_ex n' a' b' c' hn' ha' hb' hc'
  obtain ⟨w1, w2, w3, w4⟩ := wvalid_facts hw
  obtain ⟨v1, v2, v3, v4⟩ := wvalid_facts hv
  have k0 : wvalid ⟨max w.prog v.prog, min w.days v.days, min w.att v.att, min w.hints v.hints⟩ = true := wvalid_mk (by simp only; omega) (by simp only; omega) (by simp only; omega) (by simp only; omega)
  have k1 : wvalid ⟨min w.prog v.prog, max w.days v.days, max w.att v.att, max w.hints v.hints⟩ = true := wvalid_mk (by simp only; omega) (by simp only; omega) (by simp only; omega) (by simp only; omega)
  have k2 : wvalid ⟨1152921504606846976, 0, 1, 0⟩ = true := by decide
  have p1 := points_mono hs k1 hw ⟨by simp only; omega, by simp only; omega, by simp only; omega, by simp only; omega⟩
  have p2 := points_mono hs hw k0 ⟨by simp only; omega, by simp only; omega, by simp only; omega, by simp only; omega⟩
  have p3 := points_full hs
  obtain ⟨m0, e0, h0⟩ := grade_ex s _ hs k0
  obtain ⟨m1, e1, h1⟩ := grade_ex s _ hs k1
  obtain ⟨m2, e2, h2⟩ := grade_ex s _ hs k2
  obtain ⟨m3, e3, h3⟩ := grade_ex s _ hs hw
  rw [← e1, ← e3] at p1
  rw [← e0, ← e3] at p2
  rw [← e2] at p3
  refine fn_det Try.E0 Try.mx Try.func4 (by kernel_rfl) rfl (Nat.le_of_ble_eq_true rfl) rfl fun hcl hbl => ?_
  (repeat' ((conv => whnf); (first | refine IfN.not ?_ | refine IfN.tt rfl ?_ | refine IfN.ff rfl ?_ | refine IfN.dT (by omega) ?_ | refine IfN.dF (by omega) ?_ | refine IfN.dec (fun _ => ?_) (fun _ => ?_) | refine IfN.eqT (by omega) ?_ | refine IfN.eqF (by omega) ?_ | refine IfN.eq (fun _ => ?_) (fun _ => ?_) | refine IfN.neT (by omega) ?_ | refine IfN.neF (by omega) ?_ | refine IfN.ne (fun _ => ?_) (fun _ => ?_) | refine IfN.tt (by assumption) ?_ | refine IfN.ff (by assumption) ?_ | (refine IfN.mk ?_ ?_ <;> intro _) | refine EqN.i64 (by omega) ?_ | refine EqN.quo (by omega) ?_ | refine EqN.rem (by omega) ?_ | refine EqN.u8 (by omega) ?_ | refine EqN.u64 (by omega) ?_ | refine EqN.quo8 (by omega) ?_ | refine EqN.i32 (by omega) ?_ | refine EqN.u32 (by omega) ?_ | refine EqN.u16 (by omega) ?_ | refine EqN.quou (by omega) ?_ | refine EqN.shr _ rfl (by omega) ?_ | refine EqN.mk _ rfl ?_ | (refine SideN.mk ?_ ?_; · first | kernel_rfl | omega | exact List.cons_ne_nil _ _ | (simp; done) | (simp; omega) | fail) | refine NatN.mk _ rfl ?_ | refine NatN.at_ (by omega) ?_ | refine CallN.det _ (hB _) ?_ | refine CallD.det _ (fun _ => hB _) ?_ | refine CallN.det _ (hW _) ?_ | refine CallD.det _ (fun _ => hW _) ?_ | refine CallN.det _ (hV _) ?_ | refine CallD.det _ (fun _ => hV _) ?_ | refine CallN.det _ (valid_t hs _) ?_ | refine CallD.det _ (fun _ => valid_t hs _) ?_ | refine CallN.det _ (h0 _) ?_ | refine CallD.det _ (fun _ => h0 _) ?_ | refine CallN.det _ (h1 _) ?_ | refine CallD.det _ (fun _ => h1 _) ?_ | refine CallN.det _ (h2 _) ?_ | refine CallD.det _ (fun _ => h2 _) ?_ | refine CallN.det _ (h3 _) ?_ | refine CallD.det _ (fun _ => h3 _) ?_ | refine CallN.det _ (awake_c _) ?_ | refine CallD.det _ (fun _ => awake_c _) ?_ | refine PtrN.loc _ rfl ?_ | refine SegN.mk _ (seg_rfl rfl) ?_ | refine OfsN.at_ (by omega) ?_ | fail))); all_goals (conv => whnf)
  exact EndN.det trivial (Wk.refl _)
end Go.Proofs.Ytkoomafopmiebaa
