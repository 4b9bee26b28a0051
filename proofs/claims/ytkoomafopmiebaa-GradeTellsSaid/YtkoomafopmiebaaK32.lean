/- A text of the proof: K32. -/
import Derived.Test.YtkoomafopmiebaaG32
import Derived.Test.YtkoomafopmiebaaR9
set_option linter.unusedSimpArgs false
set_option linter.unusedVariables false
namespace Go.Proofs.Ytkoomafopmiebaa
open Go.Vsi
attribute [local irreducible] VW VCall VO

/-! ### the other telling of the same rules -/
def bitY (pp prog : Int) (j : Nat) : Int := pp * (prog / (2 : Int) ^ (60 - j))
theorem two_pow (m : Nat) : (2 : Int) ^ m = ((2 ^ m : Nat) : Int) := by simp
theorem div_half {p : Int} (hp : 0 ≤ p) (m : Nat) : p / (2 : Int) ^ m / 2 = p / (2 : Int) ^ (m + 1) := by
  obtain ⟨n, rfl⟩ := Int.eq_ofNat_of_zero_le hp
  rw [two_pow, two_pow, Nat.pow_succ]
  have := Nat.div_div_eq_div_mul n (2 ^ m) 2
  rw [← Int.natCast_ediv, ← Int.natCast_ediv, ← this]
  omega
theorem bitY_next {pp prog : Int} (hp : 0 ≤ prog) {j : Nat} (hj : j < 60) : ∃ M : Int, (2 : Int) ^ (59 - j) = M ∧ (1 ≤ M ∧ M ≤ 576460752303423488) ∧ bitY pp prog (j + 1) = pp * (prog / M) ∧ bitY pp prog j = pp * (prog / M / 2) := by
  refine ⟨_, rfl, ⟨?_, ?_⟩, ?_, ?_⟩
  · have := Nat.pow_pos (a := 2) (n := 59 - j) (by omega)
    rw [two_pow]
    omega
  · have : (2 : Nat) ^ (59 - j) ≤ 2 ^ 59 := Nat.pow_le_pow_right (by omega) (by omega)
    rw [two_pow]
    omega
  · unfold bitY
    rw [show 60 - (j + 1) = 59 - j by omega]
  · unfold bitY
    rw [div_half hp, show 59 - j + 1 = 60 - j by omega]
set_option maxHeartbeats 1000000 in
theorem base24_c (s : Sch) (w : Wrk) (h1 : 0 ≤ s.pts ∧ s.pts ≤ 10000) (h2 : 0 ≤ s.part ∧ s.part ≤ 100) (h3 : 0 ≤ w.prog ∧ w.prog ≤ 1152921504606846976) (H : Heap) : VDet Try.prog 24 [.int .i64 s.pts, .int .i64 s.part, .int .i64 w.prog] H (.int .i64 (baseF s w)) := by
  have hp : 0 ≤ s.pts * s.part ∧ s.pts * s.part ≤ 1000000 := ⟨Int.mul_nonneg h1.1 h2.1, Int.le_trans (Int.mul_le_mul h1.2 h2.2 h2.1 (by omega)) (by decide)⟩
  by_cases hw : w.prog = 1152921504606846976
  · rw [show baseF s w = s.pts from if_pos hw]
    refine fn_det Try.E0 Try.mx Try.func24 (by kernel_rfl) rfl (Nat.le_of_ble_eq_true rfl) rfl fun hcl hbl => ?_
    (repeat' ((conv => whnf); (first | refine IfN.not ?_ | refine IfN.tt rfl ?_ | refine IfN.ff rfl ?_ | refine IfN.dT (by omega) ?_ | refine IfN.dF (by omega) ?_ | refine IfN.dec (fun _ => ?_) (fun _ => ?_) | refine IfN.eqT (by omega) ?_ | refine IfN.eqF (by omega) ?_ | refine IfN.eq (fun _ => ?_) (fun _ => ?_) | refine IfN.neT (by omega) ?_ | refine IfN.neF (by omega) ?_ | refine IfN.ne (fun _ => ?_) (fun _ => ?_) | refine IfN.tt (by assumption) ?_ | refine IfN.ff (by assumption) ?_ | (refine IfN.mk ?_ ?_ <;> intro _) | refine EqN.i64 (by omega) ?_ | refine EqN.quo (by omega) ?_ | refine EqN.rem (by omega) ?_ | refine EqN.u8 (by omega) ?_ | refine EqN.u64 (by omega) ?_ | refine EqN.quo8 (by omega) ?_ | refine EqN.i32 (by omega) ?_ | refine EqN.u32 (by omega) ?_ | refine EqN.u16 (by omega) ?_ | refine EqN.quou (by omega) ?_ | refine EqN.shr _ rfl (by omega) ?_ | refine EqN.mk _ rfl ?_ | (refine SideN.mk ?_ ?_; · first | kernel_rfl | omega | exact List.cons_ne_nil _ _ | (simp; done) | (simp; omega) | fail) | refine NatN.mk _ rfl ?_ | refine NatN.at_ (by omega) ?_ | refine PtrN.loc _ rfl ?_ | refine SegN.mk _ (seg_rfl rfl) ?_ | refine OfsN.at_ (by omega) ?_ | fail))); all_goals (conv => whnf)
    exact EndN.det trivial (Wk.refl _)
  rw [show baseF s w = s.pts * s.part * w.prog / 1152921504606846976 / 100 from if_neg hw]
  obtain ⟨pp, hpp⟩ : ∃ pp, pp = s.pts * s.part := ⟨_, rfl⟩
  rw [← hpp]
  rw [← hpp] at hp
  have y0 : bitY pp w.prog 0 = 0 := by
    unfold bitY
    rw [Int.ediv_eq_zero_of_lt h3.1 (by simp; omega), Int.mul_zero]
  have y60 : bitY pp w.prog 60 = pp * w.prog := by simp [bitY]
  refine fn_det Try.E0 Try.mx Try.func24 (by kernel_rfl) rfl (Nat.le_of_ble_eq_true rfl) rfl fun hcl hbl => ?_
  (repeat' ((conv => whnf); (first | refine EqN.mk pp (by rw [← hpp]; exact IntWalk.i64_in _ (by omega)) ?_ | refine IfN.not ?_ | refine IfN.tt rfl ?_ | refine IfN.ff rfl ?_ | refine IfN.dT (by omega) ?_ | refine IfN.dF (by omega) ?_ | refine IfN.dec (fun _ => ?_) (fun _ => ?_) | refine IfN.eqT (by omega) ?_ | refine IfN.eqF (by omega) ?_ | refine IfN.eq (fun _ => ?_) (fun _ => ?_) | refine IfN.neT (by omega) ?_ | refine IfN.neF (by omega) ?_ | refine IfN.ne (fun _ => ?_) (fun _ => ?_) | refine IfN.tt (by assumption) ?_ | refine IfN.ff (by assumption) ?_ | (refine IfN.mk ?_ ?_ <;> intro _) | refine EqN.i64 (by omega) ?_ | refine EqN.quo (by omega) ?_ | refine EqN.rem (by omega) ?_ | refine EqN.u8 (by omega) ?_ | refine EqN.u64 (by omega) ?_ | refine EqN.quo8 (by omega) ?_ | refine EqN.i32 (by omega) ?_ | refine EqN.u32 (by omega) ?_ | refine EqN.u16 (by omega) ?_ | refine EqN.quou (by omega) ?_ | refine EqN.shr _ rfl (by omega) ?_ | refine EqN.mk _ rfl ?_ | (refine SideN.mk ?_ ?_; · first | kernel_rfl | omega | exact List.cons_ne_nil _ _ | (simp; done) | (simp; omega) | fail) | refine NatN.mk _ rfl ?_ | refine NatN.at_ (by omega) ?_ | refine PtrN.loc _ rfl ?_ | refine SegN.mk _ (seg_rfl rfl) ?_ | refine OfsN.at_ (by omega) ?_ | fail))); all_goals (conv => whnf)
  refine loop_R Try.E0 Try.mx (σ := Nat) (fun k => k ≤ 60) (fun k => 60 - k) (fun k => [(8, .v (.int .i64 (bitY pp w.prog k / 1152921504606846976))), (9, .v (.int .i64 (bitY pp w.prog k % 1152921504606846976))), (10, .v (.int .i64 (59 - k)))]) (fun _ => []) _ 0 rfl hcl [2, 7] rfl (Nat.zero_le _) ⟨⟨_, rfl, Wk.of_eq ?_⟩, ⟨_, rfl, Wk.of_eq ?_⟩, ⟨_, rfl, Wk.refl _⟩, trivial⟩ rfl (fun _ _ => rfl) ?_
  · rw [y0]; rfl
  · rw [y0]; rfl
  rintro k hk
  by_cases hlt : k < 60
  · obtain ⟨M, hM, hMb, e1, e2⟩ := bitY_next (pp := pp) h3.1 hlt
    have hd : 0 ≤ w.prog / M ∧ w.prog / M ≤ 1152921504606846976 := ⟨Int.ediv_nonneg h3.1 (by omega), Int.le_trans (Int.ediv_le_self _ h3.1) h3.2⟩
    have hY : 0 ≤ bitY pp w.prog k ∧ bitY pp w.prog k ≤ 1000000 * 1152921504606846976 := by
      rw [e2]
      exact ⟨Int.mul_nonneg hp.1 (by omega), Int.mul_le_mul hp.2 (by omega) (by omega) (by omega)⟩
    have e3 : bitY pp w.prog (k + 1) = 2 * bitY pp w.prog k + pp * (w.prog / M % 2) := by
      rw [e1, e2]
      conv => lhs; rw [← Int.mul_ediv_add_emod (w.prog / M) 2, Int.mul_add]
      congr 1
      rw [Int.mul_left_comm]
    clear e1 e2
    have hsh : IntKind.i64.wrap (1 * 2 ^ min (59 - (k : Int)).toNat IntKind.i64.bits) = M := by
      rw [show min (59 - (k : Int)).toNat IntKind.i64.bits = 59 - k by
        rw [Nat.min_eq_left (Nat.le_trans (show (59 - (k : Int)).toNat ≤ 59 by omega) (by decide))]
        omega, hM, Int.one_mul]
      exact w64 (by omega)
    by_cases hbit : w.prog / M % 2 = 1
    · rw [hbit, Int.mul_one] at e3
      (repeat' ((conv => whnf); (first | refine EqN.mk M hsh ?_ | refine IfN.not ?_ | refine IfN.tt rfl ?_ | refine IfN.ff rfl ?_ | refine IfN.dT (by omega) ?_ | refine IfN.dF (by omega) ?_ | refine IfN.dec (fun _ => ?_) (fun _ => ?_) | refine IfN.eqT (by omega) ?_ | refine IfN.eqF (by omega) ?_ | refine IfN.eq (fun _ => ?_) (fun _ => ?_) | refine IfN.neT (by omega) ?_ | refine IfN.neF (by omega) ?_ | refine IfN.ne (fun _ => ?_) (fun _ => ?_) | refine IfN.tt (by assumption) ?_ | refine IfN.ff (by assumption) ?_ | (refine IfN.mk ?_ ?_ <;> intro _) | refine EqN.i64 (by omega) ?_ | refine EqN.quo (by omega) ?_ | refine EqN.rem (by omega) ?_ | refine EqN.u8 (by omega) ?_ | refine EqN.u64 (by omega) ?_ | refine EqN.quo8 (by omega) ?_ | refine EqN.i32 (by omega) ?_ | refine EqN.u32 (by omega) ?_ | refine EqN.u16 (by omega) ?_ | refine EqN.quou (by omega) ?_ | refine EqN.shr _ rfl (by omega) ?_ | refine EqN.mk _ rfl ?_ | (refine SideN.mk ?_ ?_; · first | kernel_rfl | omega | exact List.cons_ne_nil _ _ | (simp; done) | (simp; omega) | fail) | refine NatN.mk _ rfl ?_ | refine NatN.at_ (by omega) ?_ | refine PtrN.loc _ rfl ?_ | refine SegN.mk _ (seg_rfl rfl) ?_ | refine OfsN.at_ (by omega) ?_ | fail))); all_goals (conv => whnf)
      all_goals refine LoopN.rounds Try.E0 Try.mx 2 rfl ?_
      all_goals ((repeat' ((conv => whnf); (first | refine IfN.not ?_ | refine IfN.tt rfl ?_ | refine IfN.ff rfl ?_ | refine IfN.dT (by omega) ?_ | refine IfN.dF (by omega) ?_ | refine IfN.dec (fun _ => ?_) (fun _ => ?_) | refine IfN.eqT (by omega) ?_ | refine IfN.eqF (by omega) ?_ | refine IfN.eq (fun _ => ?_) (fun _ => ?_) | refine IfN.neT (by omega) ?_ | refine IfN.neF (by omega) ?_ | refine IfN.ne (fun _ => ?_) (fun _ => ?_) | refine IfN.tt (by assumption) ?_ | refine IfN.ff (by assumption) ?_ | (refine IfN.mk ?_ ?_ <;> intro _) | refine EqN.i64 (by omega) ?_ | refine EqN.quo (by omega) ?_ | refine EqN.rem (by omega) ?_ | refine EqN.u8 (by omega) ?_ | refine EqN.u64 (by omega) ?_ | refine EqN.quo8 (by omega) ?_ | refine EqN.i32 (by omega) ?_ | refine EqN.u32 (by omega) ?_ | refine EqN.u16 (by omega) ?_ | refine EqN.quou (by omega) ?_ | refine EqN.shr _ rfl (by omega) ?_ | refine EqN.mk _ rfl ?_ | (refine SideN.mk ?_ ?_; · first | kernel_rfl | omega | exact List.cons_ne_nil _ _ | (simp; done) | (simp; omega) | fail) | refine NatN.mk _ rfl ?_ | refine NatN.at_ (by omega) ?_ | refine PtrN.loc _ rfl ?_ | refine SegN.mk _ (seg_rfl rfl) ?_ | refine OfsN.at_ (by omega) ?_ | fail))); all_goals (conv => whnf))
      all_goals ((refine ⟨⟨k + 1, by omega, by omega, ?_, .inl ⟨rfl, rfl⟩, rfl, _, rfl, ?_⟩⟩; rotate_left 1; (first | exact .inl rfl | exact .inr ⟨by simp [belowRE, below, belowL, tr, encP_below, raw_below, sch_below, wrk_below, mrk_below], by simp [belowH, Blk.below, belowL, below, encP_below, raw_below, sch_below, wrk_below, mrk_below]⟩ | fail); (repeat' (first | exact trivial | refine ⟨⟨_, rfl, ?_⟩, ?_⟩ | fail)); all_goals try (first | exact Wk.refl _ | exact Wk.of_eq (congrArg (AV.int _) (by omega)) | fail)))
    · have hbit : w.prog / M % 2 = 0 := by omega
      rw [hbit, Int.mul_zero] at e3
      (repeat' ((conv => whnf); (first | refine EqN.mk M hsh ?_ | refine IfN.not ?_ | refine IfN.tt rfl ?_ | refine IfN.ff rfl ?_ | refine IfN.dT (by omega) ?_ | refine IfN.dF (by omega) ?_ | refine IfN.dec (fun _ => ?_) (fun _ => ?_) | refine IfN.eqT (by omega) ?_ | refine IfN.eqF (by omega) ?_ | refine IfN.eq (fun _ => ?_) (fun _ => ?_) | refine IfN.neT (by omega) ?_ | refine IfN.neF (by omega) ?_ | refine IfN.ne (fun _ => ?_) (fun _ => ?_) | refine IfN.tt (by assumption) ?_ | refine IfN.ff (by assumption) ?_ | (refine IfN.mk ?_ ?_ <;> intro _) | refine EqN.i64 (by omega) ?_ | refine EqN.quo (by omega) ?_ | refine EqN.rem (by omega) ?_ | refine EqN.u8 (by omega) ?_ | refine EqN.u64 (by omega) ?_ | refine EqN.quo8 (by omega) ?_ | refine EqN.i32 (by omega) ?_ | refine EqN.u32 (by omega) ?_ | refine EqN.u16 (by omega) ?_ | refine EqN.quou (by omega) ?_ | refine EqN.shr _ rfl (by omega) ?_ | refine EqN.mk _ rfl ?_ | (refine SideN.mk ?_ ?_; · first | kernel_rfl | omega | exact List.cons_ne_nil _ _ | (simp; done) | (simp; omega) | fail) | refine NatN.mk _ rfl ?_ | refine NatN.at_ (by omega) ?_ | refine PtrN.loc _ rfl ?_ | refine SegN.mk _ (seg_rfl rfl) ?_ | refine OfsN.at_ (by omega) ?_ | fail))); all_goals (conv => whnf)
      all_goals ((refine ⟨⟨k + 1, by omega, by omega, ?_, .inl ⟨rfl, rfl⟩, rfl, _, rfl, ?_⟩⟩; rotate_left 1; (first | exact .inl rfl | exact .inr ⟨by simp [belowRE, below, belowL, tr, encP_below, raw_below, sch_below, wrk_below, mrk_below], by simp [belowH, Blk.below, belowL, below, encP_below, raw_below, sch_below, wrk_below, mrk_below]⟩ | fail); (repeat' (first | exact trivial | refine ⟨⟨_, rfl, ?_⟩, ?_⟩ | fail)); all_goals try (first | exact Wk.refl _ | exact Wk.of_eq (congrArg (AV.int _) (by omega)) | fail)))
  · have hk' : k = 60 := by omega
    subst hk'
    have hX : 0 ≤ pp * w.prog ∧ pp * w.prog ≤ 1000000 * 1152921504606846976 := ⟨Int.mul_nonneg hp.1 h3.1, Int.mul_le_mul hp.2 h3.2 h3.1 (by omega)⟩
    rw [y60]
    (repeat' ((conv => whnf); (first | refine IfN.not ?_ | refine IfN.tt rfl ?_ | refine IfN.ff rfl ?_ | refine IfN.dT (by omega) ?_ | refine IfN.dF (by omega) ?_ | refine IfN.dec (fun _ => ?_) (fun _ => ?_) | refine IfN.eqT (by omega) ?_ | refine IfN.eqF (by omega) ?_ | refine IfN.eq (fun _ => ?_) (fun _ => ?_) | refine IfN.neT (by omega) ?_ | refine IfN.neF (by omega) ?_ | refine IfN.ne (fun _ => ?_) (fun _ => ?_) | refine IfN.tt (by assumption) ?_ | refine IfN.ff (by assumption) ?_ | (refine IfN.mk ?_ ?_ <;> intro _) | refine EqN.i64 (by omega) ?_ | refine EqN.quo (by omega) ?_ | refine EqN.rem (by omega) ?_ | refine EqN.u8 (by omega) ?_ | refine EqN.u64 (by omega) ?_ | refine EqN.quo8 (by omega) ?_ | refine EqN.i32 (by omega) ?_ | refine EqN.u32 (by omega) ?_ | refine EqN.u16 (by omega) ?_ | refine EqN.quou (by omega) ?_ | refine EqN.shr _ rfl (by omega) ?_ | refine EqN.mk _ rfl ?_ | (refine SideN.mk ?_ ?_; · first | kernel_rfl | omega | exact List.cons_ne_nil _ _ | (simp; done) | (simp; omega) | fail) | refine NatN.mk _ rfl ?_ | refine NatN.at_ (by omega) ?_ | refine PtrN.loc _ rfl ?_ | refine SegN.mk _ (seg_rfl rfl) ?_ | refine OfsN.at_ (by omega) ?_ | fail))); all_goals (conv => whnf)
    exact EndN.det trivial (Wk.refl _)
theorem right_c (w : Wrk) (H : Heap) : VDet Try.prog 23 [.agg w.cells] H (.bool (wvalid w)) := by
  obtain ⟨prog, days, att, hints⟩ := w
  unfold Wrk.cells
  simp only
  refine fn_det Try.E0 Try.mx Try.func23 (by kernel_rfl) rfl (Nat.le_of_ble_eq_true rfl) rfl fun hcl hbl => ?_
  (repeat' ((conv => whnf); (first | refine IfN.not ?_ | refine IfN.tt rfl ?_ | refine IfN.ff rfl ?_ | refine IfN.dT (by omega) ?_ | refine IfN.dF (by omega) ?_ | refine IfN.dec (fun _ => ?_) (fun _ => ?_) | refine IfN.eqT (by omega) ?_ | refine IfN.eqF (by omega) ?_ | refine IfN.eq (fun _ => ?_) (fun _ => ?_) | refine IfN.neT (by omega) ?_ | refine IfN.neF (by omega) ?_ | refine IfN.ne (fun _ => ?_) (fun _ => ?_) | refine IfN.tt (by assumption) ?_ | refine IfN.ff (by assumption) ?_ | (refine IfN.mk ?_ ?_ <;> intro _) | refine EqN.i64 (by omega) ?_ | refine EqN.quo (by omega) ?_ | refine EqN.rem (by omega) ?_ | refine EqN.u8 (by omega) ?_ | refine EqN.u64 (by omega) ?_ | refine EqN.quo8 (by omega) ?_ | refine EqN.i32 (by omega) ?_ | refine EqN.u32 (by omega) ?_ | refine EqN.u16 (by omega) ?_ | refine EqN.quou (by omega) ?_ | refine EqN.shr _ rfl (by omega) ?_ | refine EqN.mk _ rfl ?_ | (refine SideN.mk ?_ ?_; · first | kernel_rfl | omega | exact List.cons_ne_nil _ _ | (simp; done) | (simp; omega) | fail) | refine NatN.mk _ rfl ?_ | refine NatN.at_ (by omega) ?_ | refine PtrN.loc _ rfl ?_ | refine SegN.mk _ (seg_rfl rfl) ?_ | refine OfsN.at_ (by omega) ?_ | fail))); all_goals (conv => whnf)
  all_goals refine EndN.det trivial (Wk.of_eq (congrArg AV.bool ?_))
  all_goals rw [Bool.eq_iff_iff]
  all_goals simp [wvalid, btw]
  all_goals omega
theorem rvalid_c (s : Sch) (H : Heap) : VDet Try.prog 12 [.agg s.cells] H (.bool (validB s)) := by
  obtain ⟨pts, part, att, rty, hnt, cnt, lates⟩ := s
  unfold Sch.cells
  simp only
  refine fn_det Try.E0 Try.mx Try.func12 (by kernel_rfl) rfl (Nat.le_of_ble_eq_true rfl) rfl fun hcl hbl => ?_
  (repeat' ((conv => whnf); (first | refine IfN.not ?_ | refine IfN.tt rfl ?_ | refine IfN.ff rfl ?_ | refine IfN.dT (by omega) ?_ | refine IfN.dF (by omega) ?_ | refine IfN.dec (fun _ => ?_) (fun _ => ?_) | refine IfN.eqT (by omega) ?_ | refine IfN.eqF (by omega) ?_ | refine IfN.eq (fun _ => ?_) (fun _ => ?_) | refine IfN.neT (by omega) ?_ | refine IfN.neF (by omega) ?_ | refine IfN.ne (fun _ => ?_) (fun _ => ?_) | refine IfN.tt (by assumption) ?_ | refine IfN.ff (by assumption) ?_ | (refine IfN.mk ?_ ?_ <;> intro _) | refine EqN.i64 (by omega) ?_ | refine EqN.quo (by omega) ?_ | refine EqN.rem (by omega) ?_ | refine EqN.u8 (by omega) ?_ | refine EqN.u64 (by omega) ?_ | refine EqN.quo8 (by omega) ?_ | refine EqN.i32 (by omega) ?_ | refine EqN.u32 (by omega) ?_ | refine EqN.u16 (by omega) ?_ | refine EqN.quou (by omega) ?_ | refine EqN.shr _ rfl (by omega) ?_ | refine EqN.mk _ rfl ?_ | (refine SideN.mk ?_ ?_; · first | kernel_rfl | omega | exact List.cons_ne_nil _ _ | (simp; done) | (simp; omega) | fail) | refine NatN.mk _ rfl ?_ | refine NatN.at_ (by omega) ?_ | refine PtrN.loc _ rfl ?_ | refine SegN.mk _ (seg_rfl rfl) ?_ | refine OfsN.at_ (by omega) ?_ | fail))); all_goals (conv => whnf)
  all_goals try (refine EndN.det trivial (Wk.of_eq (congrArg AV.bool ?_)); simp [validB, btw]; omega; done)
  refine loop_R Try.E0 Try.mx (σ := Nat) (fun k => k ≤ lates.length ∧ ∀ i, i < k → okAt lates i = true) (fun k => lates.length - k) (fun k => [(3, .v (.int .i64 k))]) (fun _ => _) _ 0 rfl hcl [1] rfl ⟨Nat.zero_le _, fun i hi => absurd hi (Nat.not_lt_zero i)⟩ ⟨⟨_, rfl, Wk.refl _⟩, trivial⟩ rfl (fun _ _ => rfl) ?_
  rintro k ⟨hk, hok⟩
  (repeat' ((conv => whnf); (first | refine IfN.not ?_ | refine IfN.tt rfl ?_ | refine IfN.ff rfl ?_ | refine IfN.dT (by omega) ?_ | refine IfN.dF (by omega) ?_ | refine IfN.dec (fun _ => ?_) (fun _ => ?_) | refine IfN.eqT (by omega) ?_ | refine IfN.eqF (by omega) ?_ | refine IfN.eq (fun _ => ?_) (fun _ => ?_) | refine IfN.neT (by omega) ?_ | refine IfN.neF (by omega) ?_ | refine IfN.ne (fun _ => ?_) (fun _ => ?_) | refine IfN.tt (by assumption) ?_ | refine IfN.ff (by assumption) ?_ | (refine IfN.mk ?_ ?_ <;> intro _) | refine EqN.i64 (by omega) ?_ | refine EqN.quo (by omega) ?_ | refine EqN.rem (by omega) ?_ | refine EqN.u8 (by omega) ?_ | refine EqN.u64 (by omega) ?_ | refine EqN.quo8 (by omega) ?_ | refine EqN.i32 (by omega) ?_ | refine EqN.u32 (by omega) ?_ | refine EqN.u16 (by omega) ?_ | refine EqN.quou (by omega) ?_ | refine EqN.shr _ rfl (by omega) ?_ | refine EqN.mk _ rfl ?_ | (refine SideN.mk ?_ ?_; · first | kernel_rfl | omega | exact List.cons_ne_nil _ _ | (simp; done) | (simp; omega) | fail) | refine NatN.mk _ rfl ?_ | refine NatN.at_ (by omega) ?_ | refine SegN.nth (0, 0) k rfl (by omega) (fun _ => rfl) ?_ | refine SegN.nth (0, 0) (k - 1) (by omega) (by omega) (fun _ => rfl) ?_ | refine PtrN.loc _ rfl ?_ | refine SegN.mk _ (seg_rfl rfl) ?_ | refine OfsN.at_ (by omega) ?_ | fail))); all_goals (conv => whnf)
  all_goals first
    | (refine EndN.det trivial (Wk.of_eq (congrArg AV.bool ?_))
       have hno : okAt lates k = false := by
         unfold okAt
         generalize lates.getD k (0, 0) = x at *
         generalize lates.getD (k - 1) (0, 0) = y at *
         simp [btw]
         omega
       have := rows_no (by omega) hno
       simp [validB, this]; done)
    | (refine EndN.det trivial (Wk.of_eq (congrArg AV.bool ?_))
       have := rows_yes (l := lates) (fun i hi => hok i (by omega))
       rw [Bool.eq_iff_iff]; simp [validB, btw, this]; omega; done)
    | (have hyes : okAt lates k = true := by
         unfold okAt
         generalize lates.getD k (0, 0) = x at *
         generalize lates.getD (k - 1) (0, 0) = y at *
         simp [btw]
         omega
       (refine ⟨⟨k + 1, ⟨by omega, fun i hi => by
        rcases Nat.lt_or_ge i k with h | h
        · exact hok i h
        · have : i = k := by omega
          exact this ▸ hyes⟩, by omega, ?_, .inl ⟨rfl, rfl⟩, rfl, _, rfl, ?_⟩⟩; rotate_left 1; (first | exact .inl rfl | exact .inr ⟨by simp [belowRE, below, belowL, tr, encP_below, raw_below, sch_below, wrk_below, mrk_below], by simp [belowH, Blk.below, belowL, below, encP_below, raw_below, sch_below, wrk_below, mrk_below]⟩ | fail); (repeat' (first | exact trivial | refine ⟨⟨_, rfl, ?_⟩, ?_⟩ | fail)); all_goals try (first | exact Wk.refl _ | exact Wk.of_eq (congrArg (AV.int _) (by omega)) | fail)))
    | fail
end Go.Proofs.Ytkoomafopmiebaa
