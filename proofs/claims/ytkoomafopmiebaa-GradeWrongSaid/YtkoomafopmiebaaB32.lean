/- A text of the proof: B32. -/
import Derived.Test.YtkoomafopmiebaaA32
set_option linter.unusedSimpArgs false
set_option linter.unusedVariables false
namespace Go.Proofs.Ytkoomafopmiebaa
open Go.Vsi
attribute [local irreducible] VW VCall VO
theorem or_add (h l : Int) (h1 : 0 ≤ h ∧ h < 1152921504606846976) (h2 : 0 ≤ l ∧ l < 16) : bits .or .u64 (h * 16) l = h * 16 + l := by
  rw [u64_or (h * 16) l (by omega) (by omega) (by omega) (by omega)]
  obtain ⟨a, rfl⟩ := Int.eq_ofNat_of_zero_le h1.1
  obtain ⟨b, rfl⟩ := Int.eq_ofNat_of_zero_le h2.1
  have e : ((a : Int) * 16).toNat = a <<< 4 := by
    rw [Nat.shiftLeft_eq]
    omega
  rw [e, Int.toNat_natCast, ← Nat.shiftLeft_add_eq_or_of_lt (by omega), Nat.shiftLeft_eq]
  omega

def baseF (s : Sch) (w : Wrk) : Int := if w.prog = 1152921504606846976 then s.pts else s.pts * s.part * w.prog / 1152921504606846976 / 100
theorem base_c (s : Sch) (w : Wrk) (h1 : 0 ≤ s.pts ∧ s.pts ≤ 10000) (h2 : 0 ≤ s.part ∧ s.part ≤ 100) (h3 : 0 ≤ w.prog ∧ w.prog ≤ 1152921504606846976) (H : Heap) : VDet Try.prog 28 [.agg s.cells, .agg w.cells] H (.int .i64 (baseF s w)) := by
  obtain ⟨pts, part, att, rty, hnt, cnt, lates⟩ := s
  obtain ⟨prog, days, wat, hints⟩ := w
  simp only at h1 h2 h3
  have hp : 0 ≤ pts * part ∧ pts * part ≤ 1000000 := ⟨Int.mul_nonneg h1.1 h2.1, Int.le_trans (Int.mul_le_mul h1.2 h2.2 h2.1 (by omega)) (by decide)⟩
  have hq : 0 ≤ pts * part * prog ∧ pts * part * prog ≤ 1152921504606846976000000 := ⟨Int.mul_nonneg hp.1 h3.1, Int.le_trans (Int.mul_le_mul hp.2 h3.2 h3.1 (by omega)) (by decide)⟩
  unfold Sch.cells Wrk.cells
  simp only
  refine fn_det Try.E0 Try.mx Try.func28 (by kernel_rfl) rfl (Nat.le_of_ble_eq_true rfl) rfl fun hcl hbl => ?_
  (repeat' ((conv => whnf); (first | refine EqN.shrL 60 1152921504606846976 rfl rfl rfl ?_ | refine EqN.shlU 4 16 rfl rfl rfl (by omega) ?_ | refine EqN.mk _ (or_add _ _ (by omega) (by omega)) ?_ | refine IfN.not ?_ | refine IfN.tt rfl ?_ | refine IfN.ff rfl ?_ | refine IfN.dT (by omega) ?_ | refine IfN.dF (by omega) ?_ | refine IfN.dec (fun _ => ?_) (fun _ => ?_) | refine IfN.eqT (by omega) ?_ | refine IfN.eqF (by omega) ?_ | refine IfN.eq (fun _ => ?_) (fun _ => ?_) | refine IfN.neT (by omega) ?_ | refine IfN.neF (by omega) ?_ | refine IfN.ne (fun _ => ?_) (fun _ => ?_) | refine IfN.tt (by assumption) ?_ | refine IfN.ff (by assumption) ?_ | (refine IfN.mk ?_ ?_ <;> intro _) | refine EqN.i64 (by omega) ?_ | refine EqN.quo (by omega) ?_ | refine EqN.rem (by omega) ?_ | refine EqN.u8 (by omega) ?_ | refine EqN.u64 (by omega) ?_ | refine EqN.quo8 (by omega) ?_ | refine EqN.i32 (by omega) ?_ | refine EqN.u32 (by omega) ?_ | refine EqN.u16 (by omega) ?_ | refine EqN.quou (by omega) ?_ | refine EqN.shr _ rfl (by omega) ?_ | refine EqN.mk _ rfl ?_ | (refine SideN.mk ?_ ?_; · first | kernel_rfl | omega | exact List.cons_ne_nil _ _ | (simp; done) | (simp; omega) | fail) | refine NatN.mk _ rfl ?_ | refine NatN.at_ (by omega) ?_ | refine CallN.det _ (mul64_c _ _ (by omega) (by omega) _) ?_ | refine CallD.det _ (fun _ => mul64_c _ _ (by omega) (by omega) _) ?_ | refine PtrN.loc _ rfl ?_ | refine SegN.mk _ (seg_rfl rfl) ?_ | refine OfsN.at_ (by omega) ?_ | fail))); all_goals (conv => whnf)
  · refine EndN.det trivial (Wk.of_eq (congrArg (AV.int _) ?_))
    simp [baseF, *]
  · refine EndN.det trivial (Wk.of_eq (congrArg (AV.int _) ?_))
    simp only [baseF]
    rw [if_neg (by assumption)]
    omega

def minI (a b : Int) : Int := min a b
/-- what being late takes -/
def lateF (s : Sch) (w : Wrk) : Int := s.lates.foldl (fun p l => if 0 < w.days ∧ l.1 ≤ w.days then l.2 else p) 0
def retryF (s : Sch) (w : Wrk) : Int := if s.att ≠ 0 ∧ s.att < w.att then 100 else min (s.rty * (w.att - 1)) 100
def hintsF (s : Sch) (w : Wrk) : Int := min (s.hnt * w.hints) 100
theorem late_c (s : Sch) (w : Wrk) (hl : s.lates.length ≤ 8) (H : Heap) : VDet Try.prog 36 [.rptr s.cells, .rptr w.cells] H (.int .i64 (lateF s w)) := by
  obtain ⟨pts, part, att, rty, hnt, cnt, lates⟩ := s
  obtain ⟨prog, days, wat, hints⟩ := w
  simp only at hl
  unfold Sch.cells Wrk.cells
  simp only
  refine fn_det Try.E0 Try.mx Try.func36 (by kernel_rfl) rfl (Nat.le_of_ble_eq_true rfl) rfl fun hcl hbl => ?_
  (repeat' ((conv => whnf); (first | refine IfN.not ?_ | refine IfN.tt rfl ?_ | refine IfN.ff rfl ?_ | refine IfN.dT (by omega) ?_ | refine IfN.dF (by omega) ?_ | refine IfN.dec (fun _ => ?_) (fun _ => ?_) | refine IfN.eqT (by omega) ?_ | refine IfN.eqF (by omega) ?_ | refine IfN.eq (fun _ => ?_) (fun _ => ?_) | refine IfN.neT (by omega) ?_ | refine IfN.neF (by omega) ?_ | refine IfN.ne (fun _ => ?_) (fun _ => ?_) | refine IfN.tt (by assumption) ?_ | refine IfN.ff (by assumption) ?_ | (refine IfN.mk ?_ ?_ <;> intro _) | refine EqN.i64 (by omega) ?_ | refine EqN.quo (by omega) ?_ | refine EqN.rem (by omega) ?_ | refine EqN.u8 (by omega) ?_ | refine EqN.u64 (by omega) ?_ | refine EqN.quo8 (by omega) ?_ | refine EqN.i32 (by omega) ?_ | refine EqN.u32 (by omega) ?_ | refine EqN.u16 (by omega) ?_ | refine EqN.quou (by omega) ?_ | refine EqN.shr _ rfl (by omega) ?_ | refine EqN.mk _ rfl ?_ | (refine SideN.mk ?_ ?_; · first | kernel_rfl | omega | exact List.cons_ne_nil _ _ | (simp; done) | (simp; omega) | fail) | refine NatN.mk _ rfl ?_ | refine NatN.at_ (by omega) ?_ | refine PtrN.loc _ rfl ?_ | refine SegN.mk _ (seg_rfl rfl) ?_ | refine OfsN.at_ (by omega) ?_ | fail))); all_goals (conv => whnf)
  refine loop_R Try.E0 Try.mx (σ := Nat) (fun k => k ≤ lates.length) (fun k => lates.length - k) (fun k => [(3, .v (.int .i64 ((lates.take k).foldl (fun p l => if 0 < days ∧ l.1 ≤ days then l.2 else p) 0))), (9, .v (.int .i64 k))]) (fun _ => []) _ 0 rfl hcl [1, 7, 8] rfl (Nat.zero_le _) ⟨⟨_, rfl, Wk.refl _⟩, ⟨_, rfl, Wk.refl _⟩, trivial⟩ rfl (fun _ _ => rfl) ?_
  rintro k hk
  (repeat' ((conv => whnf); (first | refine IfN.not ?_ | refine IfN.tt rfl ?_ | refine IfN.ff rfl ?_ | refine IfN.dT (by omega) ?_ | refine IfN.dF (by omega) ?_ | refine IfN.dec (fun _ => ?_) (fun _ => ?_) | refine IfN.eqT (by omega) ?_ | refine IfN.eqF (by omega) ?_ | refine IfN.eq (fun _ => ?_) (fun _ => ?_) | refine IfN.neT (by omega) ?_ | refine IfN.neF (by omega) ?_ | refine IfN.ne (fun _ => ?_) (fun _ => ?_) | refine IfN.tt (by assumption) ?_ | refine IfN.ff (by assumption) ?_ | (refine IfN.mk ?_ ?_ <;> intro _) | refine EqN.i64 (by omega) ?_ | refine EqN.quo (by omega) ?_ | refine EqN.rem (by omega) ?_ | refine EqN.u8 (by omega) ?_ | refine EqN.u64 (by omega) ?_ | refine EqN.quo8 (by omega) ?_ | refine EqN.i32 (by omega) ?_ | refine EqN.u32 (by omega) ?_ | refine EqN.u16 (by omega) ?_ | refine EqN.quou (by omega) ?_ | refine EqN.shr _ rfl (by omega) ?_ | refine EqN.mk _ rfl ?_ | (refine SideN.mk ?_ ?_; · first | kernel_rfl | omega | exact List.cons_ne_nil _ _ | (simp; done) | (simp; omega) | fail) | refine NatN.mk _ rfl ?_ | refine NatN.at_ (by omega) ?_ | refine SegN.nth (0, 0) k rfl (by omega) (fun _ => rfl) ?_ | refine PtrN.loc _ rfl ?_ | refine SegN.mk _ (seg_rfl rfl) ?_ | refine OfsN.at_ (by omega) ?_ | fail))); all_goals (conv => whnf)
  · (refine ⟨⟨k + 1, by omega, by omega, ?_, .inl ⟨rfl, rfl⟩, rfl, _, rfl, ?_⟩⟩; rotate_left 1; (first | exact .inl rfl | exact .inr ⟨by simp [belowRE, below, belowL, tr, encP_below], by simp [belowH, Blk.below, belowL, below, encP_below]⟩ | fail); (repeat' (first | exact trivial | refine ⟨⟨_, rfl, ?_⟩, ?_⟩ | fail)); all_goals try (first | exact Wk.refl _ | exact Wk.of_eq (congrArg (AV.int _) (by omega)) | fail))
    refine Wk.of_eq (congrArg (AV.int _) ?_)
    rw [foldl_take _ _ _ (0, 0) _ (by omega), if_pos ⟨by assumption, by assumption⟩]
  · (refine ⟨⟨k + 1, by omega, by omega, ?_, .inl ⟨rfl, rfl⟩, rfl, _, rfl, ?_⟩⟩; rotate_left 1; (first | exact .inl rfl | exact .inr ⟨by simp [belowRE, below, belowL, tr, encP_below], by simp [belowH, Blk.below, belowL, below, encP_below]⟩ | fail); (repeat' (first | exact trivial | refine ⟨⟨_, rfl, ?_⟩, ?_⟩ | fail)); all_goals try (first | exact Wk.refl _ | exact Wk.of_eq (congrArg (AV.int _) (by omega)) | fail))
    refine Wk.of_eq (congrArg (AV.int _) ?_)
    rw [foldl_take _ _ _ (0, 0) _ (by omega), if_neg (fun h => absurd h.2 (by assumption))]
  · (refine ⟨⟨k + 1, by omega, by omega, ?_, .inl ⟨rfl, rfl⟩, rfl, _, rfl, ?_⟩⟩; rotate_left 1; (first | exact .inl rfl | exact .inr ⟨by simp [belowRE, below, belowL, tr, encP_below], by simp [belowH, Blk.below, belowL, below, encP_below]⟩ | fail); (repeat' (first | exact trivial | refine ⟨⟨_, rfl, ?_⟩, ?_⟩ | fail)); all_goals try (first | exact Wk.refl _ | exact Wk.of_eq (congrArg (AV.int _) (by omega)) | fail))
    refine Wk.of_eq (congrArg (AV.int _) ?_)
    rw [foldl_take _ _ _ (0, 0) _ (by omega), if_neg (fun h => absurd h.1 (by assumption))]
  · refine EndN.det trivial (Wk.of_eq (congrArg (AV.int _) ?_))
    rw [lateF, List.take_of_length_le (by omega)]
theorem retry_c (s : Sch) (w : Wrk) (h1 : 0 ≤ s.rty ∧ s.rty ≤ 100) (h2 : 1 ≤ w.att ∧ w.att ≤ 100) (H : Heap) : VDet Try.prog 37 [.rptr s.cells, .rptr w.cells] H (.int .i64 (retryF s w)) := by
  obtain ⟨pts, part, att, rty, hnt, cnt, lates⟩ := s
  obtain ⟨prog, days, wat, hints⟩ := w
  simp only at h1 h2
  have hq : 0 ≤ rty * (wat - 1) ∧ rty * (wat - 1) ≤ 10000 := ⟨Int.mul_nonneg h1.1 (by omega), Int.le_trans (Int.mul_le_mul h1.2 (by omega : wat - 1 ≤ 100) (by omega) (by omega)) (by decide)⟩
  unfold Sch.cells Wrk.cells
  simp only
  refine fn_det Try.E0 Try.mx Try.func37 (by kernel_rfl) rfl (Nat.le_of_ble_eq_true rfl) rfl fun hcl hbl => ?_
  (repeat' ((conv => whnf); (first | refine IfN.not ?_ | refine IfN.tt rfl ?_ | refine IfN.ff rfl ?_ | refine IfN.dT (by omega) ?_ | refine IfN.dF (by omega) ?_ | refine IfN.dec (fun _ => ?_) (fun _ => ?_) | refine IfN.eqT (by omega) ?_ | refine IfN.eqF (by omega) ?_ | refine IfN.eq (fun _ => ?_) (fun _ => ?_) | refine IfN.neT (by omega) ?_ | refine IfN.neF (by omega) ?_ | refine IfN.ne (fun _ => ?_) (fun _ => ?_) | refine IfN.tt (by assumption) ?_ | refine IfN.ff (by assumption) ?_ | (refine IfN.mk ?_ ?_ <;> intro _) | refine EqN.i64 (by omega) ?_ | refine EqN.quo (by omega) ?_ | refine EqN.rem (by omega) ?_ | refine EqN.u8 (by omega) ?_ | refine EqN.u64 (by omega) ?_ | refine EqN.quo8 (by omega) ?_ | refine EqN.i32 (by omega) ?_ | refine EqN.u32 (by omega) ?_ | refine EqN.u16 (by omega) ?_ | refine EqN.quou (by omega) ?_ | refine EqN.shr _ rfl (by omega) ?_ | refine EqN.mk _ rfl ?_ | (refine SideN.mk ?_ ?_; · first | kernel_rfl | omega | exact List.cons_ne_nil _ _ | (simp; done) | (simp; omega) | fail) | refine NatN.mk _ rfl ?_ | refine NatN.at_ (by omega) ?_ | refine PtrN.loc _ rfl ?_ | refine SegN.mk _ (seg_rfl rfl) ?_ | refine OfsN.at_ (by omega) ?_ | fail))); all_goals (conv => whnf)
  all_goals refine EndN.det trivial (Wk.of_eq (congrArg (AV.int _) ?_))
  all_goals simp [retryF, *]
theorem hints_c (s : Sch) (w : Wrk) (h1 : 0 ≤ s.hnt ∧ s.hnt ≤ 100) (h2 : 0 ≤ w.hints ∧ w.hints ≤ 100) (H : Heap) : VDet Try.prog 38 [.rptr s.cells, .rptr w.cells] H (.int .i64 (hintsF s w)) := by
  obtain ⟨pts, part, att, rty, hnt, cnt, lates⟩ := s
  obtain ⟨prog, days, wat, hints⟩ := w
  simp only at h1 h2
  have hq : 0 ≤ hnt * hints ∧ hnt * hints ≤ 10000 := ⟨Int.mul_nonneg h1.1 (by omega), Int.le_trans (Int.mul_le_mul h1.2 h2.2 (by omega) (by omega)) (by decide)⟩
  unfold Sch.cells Wrk.cells
  simp only
  refine fn_det Try.E0 Try.mx Try.func38 (by kernel_rfl) rfl (Nat.le_of_ble_eq_true rfl) rfl fun hcl hbl => ?_
  (repeat' ((conv => whnf); (first | refine IfN.not ?_ | refine IfN.tt rfl ?_ | refine IfN.ff rfl ?_ | refine IfN.dT (by omega) ?_ | refine IfN.dF (by omega) ?_ | refine IfN.dec (fun _ => ?_) (fun _ => ?_) | refine IfN.eqT (by omega) ?_ | refine IfN.eqF (by omega) ?_ | refine IfN.eq (fun _ => ?_) (fun _ => ?_) | refine IfN.neT (by omega) ?_ | refine IfN.neF (by omega) ?_ | refine IfN.ne (fun _ => ?_) (fun _ => ?_) | refine IfN.tt (by assumption) ?_ | refine IfN.ff (by assumption) ?_ | (refine IfN.mk ?_ ?_ <;> intro _) | refine EqN.i64 (by omega) ?_ | refine EqN.quo (by omega) ?_ | refine EqN.rem (by omega) ?_ | refine EqN.u8 (by omega) ?_ | refine EqN.u64 (by omega) ?_ | refine EqN.quo8 (by omega) ?_ | refine EqN.i32 (by omega) ?_ | refine EqN.u32 (by omega) ?_ | refine EqN.u16 (by omega) ?_ | refine EqN.quou (by omega) ?_ | refine EqN.shr _ rfl (by omega) ?_ | refine EqN.mk _ rfl ?_ | (refine SideN.mk ?_ ?_; · first | kernel_rfl | omega | exact List.cons_ne_nil _ _ | (simp; done) | (simp; omega) | fail) | refine NatN.mk _ rfl ?_ | refine NatN.at_ (by omega) ?_ | refine PtrN.loc _ rfl ?_ | refine SegN.mk _ (seg_rfl rfl) ?_ | refine OfsN.at_ (by omega) ?_ | fail))); all_goals (conv => whnf)
  all_goals refine EndN.det trivial (Wk.of_eq (congrArg (AV.int _) ?_))
  all_goals simp [hintsF, *]
theorem losses_c (s : Sch) (w : Wrk) (H : Heap) : VDet Try.prog 29 [.agg s.cells, .agg w.cells] H (.sl none 3 [.clo (.func 36) [] [.rptr s.cells, .rptr w.cells], .clo (.func 37) [] [.rptr s.cells, .rptr w.cells], .clo (.func 38) [] [.rptr s.cells, .rptr w.cells]]) := by
  refine fn_det Try.E0 Try.mx Try.func29 (by kernel_rfl) rfl (Nat.le_of_ble_eq_true rfl) rfl fun hcl hbl => ?_
  (repeat' ((conv => whnf); (first | refine IfN.not ?_ | refine IfN.tt rfl ?_ | refine IfN.ff rfl ?_ | refine IfN.dT (by omega) ?_ | refine IfN.dF (by omega) ?_ | refine IfN.dec (fun _ => ?_) (fun _ => ?_) | refine IfN.eqT (by omega) ?_ | refine IfN.eqF (by omega) ?_ | refine IfN.eq (fun _ => ?_) (fun _ => ?_) | refine IfN.neT (by omega) ?_ | refine IfN.neF (by omega) ?_ | refine IfN.ne (fun _ => ?_) (fun _ => ?_) | refine IfN.tt (by assumption) ?_ | refine IfN.ff (by assumption) ?_ | (refine IfN.mk ?_ ?_ <;> intro _) | refine EqN.i64 (by omega) ?_ | refine EqN.quo (by omega) ?_ | refine EqN.rem (by omega) ?_ | refine EqN.u8 (by omega) ?_ | refine EqN.u64 (by omega) ?_ | refine EqN.quo8 (by omega) ?_ | refine EqN.i32 (by omega) ?_ | refine EqN.u32 (by omega) ?_ | refine EqN.u16 (by omega) ?_ | refine EqN.quou (by omega) ?_ | refine EqN.shr _ rfl (by omega) ?_ | refine EqN.mk _ rfl ?_ | (refine SideN.mk ?_ ?_; · first | kernel_rfl | omega | exact List.cons_ne_nil _ _ | (simp; done) | (simp; omega) | fail) | refine NatN.mk _ rfl ?_ | refine NatN.at_ (by omega) ?_ | refine PtrN.loc _ rfl ?_ | refine SegN.mk _ (seg_rfl rfl) ?_ | refine OfsN.at_ (by omega) ?_ | fail))); all_goals (conv => whnf)
  refine EndN.detF (by simp [below, belowL, Sch.cells, Wrk.cells, encP_below]) ?_ (wk_sx _ _)
  repeat' (first | exact FrzL.nil | refine FrzL.cons ?_ ?_ | refine Frz.sx ?_ | refine Frz.clo ?_ ?_ | refine Frz.agg ?_ | refine Frz.tup ?_ | refine Frz.ptr rfl rfl (FrzL.refl _) | exact Frz.refl _ | fail)

structure Mrk where
  points : Int
  base : Int
  late : Int
  retry : Int
  hints : Int
def Mrk.cells (m : Mrk) : List AV := [.int .i64 m.points, .int .i64 m.base, .int .i64 m.late, .int .i64 m.retry, .int .i64 m.hints]
def markF (s : Sch) (w : Wrk) : Mrk :=
  ⟨baseF s w * (100 - lateF s w) * (100 - retryF s w) * (100 - hintsF s w) / 1000000, baseF s w, lateF s w, retryF s w, hintsF s w⟩
theorem valid_facts {s : Sch} (h : validB s = true) : (0 ≤ s.pts ∧ s.pts ≤ 10000) ∧ (0 ≤ s.att ∧ s.att ≤ 100) ∧ (0 ≤ s.part ∧ s.part ≤ 100) ∧ (0 ≤ s.rty ∧ s.rty ≤ 100) ∧ (0 ≤ s.hnt ∧ s.hnt ≤ 100) ∧ (1 ≤ s.cnt ∧ s.cnt ≤ 3) ∧ s.lates.length ≤ 8 ∧ rowsOK s.lates = true := by
  simp only [validB, Bool.and_eq_true, Bool.not_eq_true', decide_eq_false_iff_not] at h
  obtain ⟨h1, h2, h3, h4, h5, h6, h7, h8, h9⟩ := h
  exact ⟨btw_true h1, btw_true h2, btw_true h3, btw_true h4, btw_true h5, by omega, by omega, h9⟩
theorem wvalid_facts {w : Wrk} (h : wvalid w = true) : (0 ≤ w.prog ∧ w.prog ≤ 1152921504606846976) ∧ (0 ≤ w.days ∧ w.days ≤ 1000) ∧ (1 ≤ w.att ∧ w.att ≤ 100) ∧ (0 ≤ w.hints ∧ w.hints ≤ 100) := by
  simp only [wvalid, Bool.and_eq_true] at h
  obtain ⟨h1, h2, h3, h4⟩ := h
  exact ⟨btw_true h1, btw_true h2, btw_true h3, btw_true h4⟩
theorem base_bd {s : Sch} {w : Wrk} (h1 : 0 ≤ s.pts ∧ s.pts ≤ 10000) (h2 : 0 ≤ s.part ∧ s.part ≤ 100) (h3 : 0 ≤ w.prog ∧ w.prog ≤ 1152921504606846976) : 0 ≤ baseF s w ∧ baseF s w ≤ s.pts := by
  unfold baseF
  split
  · omega
  · have hp : 0 ≤ s.pts * s.part ∧ s.pts * s.part ≤ s.pts * 100 := ⟨Int.mul_nonneg h1.1 h2.1, Int.mul_le_mul_of_nonneg_left h2.2 h1.1⟩
    have hq : 0 ≤ s.pts * s.part * w.prog ∧ s.pts * s.part * w.prog ≤ s.pts * 100 * 1152921504606846976 := ⟨Int.mul_nonneg hp.1 h3.1, Int.mul_le_mul hp.2 h3.2 h3.1 (by omega)⟩
    omega
theorem okAt_bd {l : List (Int × Int)} (h : rowsOK l = true) {i : Nat} (hi : i < l.length) : okAt l i = true := by
  unfold rowsOK at h
  rw [List.all_eq_true] at h
  exact h i (List.mem_range.2 hi)
theorem late_bd {s : Sch} {w : Wrk} (h : rowsOK s.lates = true) : 0 ≤ lateF s w ∧ lateF s w ≤ 100 := by
  have key : ∀ k, k ≤ s.lates.length → 0 ≤ (s.lates.take k).foldl (fun p l => if 0 < w.days ∧ l.1 ≤ w.days then l.2 else p) 0 ∧ (s.lates.take k).foldl (fun p l => if 0 < w.days ∧ l.1 ≤ w.days then l.2 else p) 0 ≤ 100 := by
    intro k
    induction k with
    | zero => intro _; simp
    | succ k ih =>
      intro hk
      rw [foldl_take _ _ _ (0, 0) _ (by omega)]
      have h1 := okAt_bd h (i := k) (by omega)
      simp only [okAt, Bool.and_eq_true] at h1
      have h2 := btw_true h1.2.1
      split
      · exact h2
      · exact ih (by omega)
  have := key s.lates.length (Nat.le_refl _)
  rwa [List.take_length] at this
theorem retry_bd {s : Sch} {w : Wrk} (h1 : 0 ≤ s.rty) (h2 : 1 ≤ w.att) : 0 ≤ retryF s w ∧ retryF s w ≤ 100 := by
  unfold retryF
  have := Int.mul_nonneg h1 (show 0 ≤ w.att - 1 by omega)
  split <;> omega
theorem hints_bd {s : Sch} {w : Wrk} (h1 : 0 ≤ s.hnt) (h2 : 0 ≤ w.hints) : 0 ≤ hintsF s w ∧ hintsF s w ≤ 100 := by
  unfold hintsF
  have := Int.mul_nonneg h1 h2
  omega
theorem mul_bd {a b M : Int} (h1 : 0 ≤ a ∧ a ≤ M) (h2 : 0 ≤ b ∧ b ≤ 100) : 0 ≤ a * b ∧ a * b ≤ M * 100 :=
  ⟨Int.mul_nonneg h1.1 h2.1, Int.mul_le_mul h1.2 h2.2 h2.1 (by omega)⟩

theorem mark_c (s : Sch) (w : Wrk) (hs : validB s = true) (hw : wvalid w = true) (H : Heap) : VDet Try.prog 22 [.agg s.cells, .agg w.cells] H (.agg (markF s w).cells) := by
  obtain ⟨s1, s2, s3, s4, s5, s6, s7, s8⟩ := valid_facts hs
  obtain ⟨w1, w2, w3, w4⟩ := wvalid_facts hw
  have b1 := base_bd s1 s3 w1
  have b2 := late_bd (w := w) s8
  have b3 := retry_bd s4.1 w3.1
  have b4 := hints_bd s5.1 w4.1
  have m1 := mul_bd (M := 10000) (b := 100 - lateF s w) (a := baseF s w) (by omega) (by omega)
  have m2 := mul_bd (b := 100 - retryF s w) m1 (by omega)
  have m3 := mul_bd (b := 100 - hintsF s w) m2 (by omega)
  refine fn_det Try.E0 Try.mx Try.func22 (by kernel_rfl) rfl (Nat.le_of_ble_eq_true rfl) rfl fun hcl hbl => ?_
  (repeat' ((conv => whnf); (first | refine IfN.not ?_ | refine IfN.tt rfl ?_ | refine IfN.ff rfl ?_ | refine IfN.dT (by omega) ?_ | refine IfN.dF (by omega) ?_ | refine IfN.dec (fun _ => ?_) (fun _ => ?_) | refine IfN.eqT (by omega) ?_ | refine IfN.eqF (by omega) ?_ | refine IfN.eq (fun _ => ?_) (fun _ => ?_) | refine IfN.neT (by omega) ?_ | refine IfN.neF (by omega) ?_ | refine IfN.ne (fun _ => ?_) (fun _ => ?_) | refine IfN.tt (by assumption) ?_ | refine IfN.ff (by assumption) ?_ | (refine IfN.mk ?_ ?_ <;> intro _) | refine EqN.i64 (by omega) ?_ | refine EqN.quo (by omega) ?_ | refine EqN.rem (by omega) ?_ | refine EqN.u8 (by omega) ?_ | refine EqN.u64 (by omega) ?_ | refine EqN.quo8 (by omega) ?_ | refine EqN.i32 (by omega) ?_ | refine EqN.u32 (by omega) ?_ | refine EqN.u16 (by omega) ?_ | refine EqN.quou (by omega) ?_ | refine EqN.shr _ rfl (by omega) ?_ | refine EqN.mk _ rfl ?_ | (refine SideN.mk ?_ ?_; · first | kernel_rfl | omega | exact List.cons_ne_nil _ _ | (simp; done) | (simp; omega) | fail) | refine NatN.mk _ rfl ?_ | refine NatN.at_ (by omega) ?_ | refine CallN.det _ (base_c s w s1 s3 w1 _) ?_ | refine CallD.det _ (fun _ => base_c s w s1 s3 w1 _) ?_ | refine CallN.det _ (losses_c s w _) ?_ | refine CallD.det _ (fun _ => losses_c s w _) ?_ | refine PtrN.loc _ rfl ?_ | refine SegN.mk _ (seg_rfl rfl) ?_ | refine OfsN.at_ (by omega) ?_ | fail))); all_goals (conv => whnf)
  refine LoopN.rounds Try.E0 Try.mx 4 rfl ?_
  (repeat' ((conv => whnf); (first | refine IfN.not ?_ | refine IfN.tt rfl ?_ | refine IfN.ff rfl ?_ | refine IfN.dT (by omega) ?_ | refine IfN.dF (by omega) ?_ | refine IfN.dec (fun _ => ?_) (fun _ => ?_) | refine IfN.eqT (by omega) ?_ | refine IfN.eqF (by omega) ?_ | refine IfN.eq (fun _ => ?_) (fun _ => ?_) | refine IfN.neT (by omega) ?_ | refine IfN.neF (by omega) ?_ | refine IfN.ne (fun _ => ?_) (fun _ => ?_) | refine IfN.tt (by assumption) ?_ | refine IfN.ff (by assumption) ?_ | (refine IfN.mk ?_ ?_ <;> intro _) | refine EqN.i64 (by omega) ?_ | refine EqN.quo (by omega) ?_ | refine EqN.rem (by omega) ?_ | refine EqN.u8 (by omega) ?_ | refine EqN.u64 (by omega) ?_ | refine EqN.quo8 (by omega) ?_ | refine EqN.i32 (by omega) ?_ | refine EqN.u32 (by omega) ?_ | refine EqN.u16 (by omega) ?_ | refine EqN.quou (by omega) ?_ | refine EqN.shr _ rfl (by omega) ?_ | refine EqN.mk _ rfl ?_ | (refine SideN.mk ?_ ?_; · first | kernel_rfl | omega | exact List.cons_ne_nil _ _ | (simp; done) | (simp; omega) | fail) | refine NatN.mk _ rfl ?_ | refine NatN.at_ (by omega) ?_ | refine CallN.det _ (late_c s w s7 _) ?_ | refine CallD.det _ (fun _ => late_c s w s7 _) ?_ | refine CallN.det _ (retry_c s w s4 w3 _) ?_ | refine CallD.det _ (fun _ => retry_c s w s4 w3 _) ?_ | refine CallN.det _ (hints_c s w s5 w4 _) ?_ | refine CallD.det _ (fun _ => hints_c s w s5 w4 _) ?_ | refine PtrN.loc _ rfl ?_ | refine SegN.mk _ (seg_rfl rfl) ?_ | refine OfsN.at_ (by omega) ?_ | fail))); all_goals (conv => whnf)
  exact EndN.det (by simp [below, belowL, Mrk.cells]) (Wk.of_eq (by simp [markF, Mrk.cells]))
end Go.Proofs.Ytkoomafopmiebaa
