/- A text of the proof: A32. -/
import Derived.Test.YtkoomafopmiebaaT32
import Derived.Laws.BitsAllLaws
set_option linter.unusedSimpArgs false
set_option linter.unusedVariables false
namespace Go.Proofs.Ytkoomafopmiebaa
open Go.Vsi
attribute [local irreducible] VW VCall VO

/-! ### the package grade: what its functions compute -/
def btw (n l h : Int) : Bool := decide (l ≤ n) && decide (n ≤ h)
theorem btw_true {n l h : Int} (H : btw n l h = true) : l ≤ n ∧ n ≤ h := by simpa [btw] using H
theorem btw_false {n l h : Int} (H : btw n l h = false) : n < l ∨ h < n := by
  simp [btw] at H
  omega
theorem between_c (n l h : Int) (H : Heap) : VDet Try.prog 20 [.int .i64 n, .int .i64 l, .int .i64 h] H (.bool (btw n l h)) := by
  refine fn_det Try.E0 Try.mx Try.func20 (by kernel_rfl) rfl (Nat.le_of_ble_eq_true rfl) rfl fun hcl hbl => ?_
  (repeat' ((conv => whnf); (first | refine IfN.not ?_ | refine IfN.tt rfl ?_ | refine IfN.ff rfl ?_ | refine IfN.dT (by omega) ?_ | refine IfN.dF (by omega) ?_ | refine IfN.dec (fun _ => ?_) (fun _ => ?_) | refine IfN.eqT (by omega) ?_ | refine IfN.eqF (by omega) ?_ | refine IfN.eq (fun _ => ?_) (fun _ => ?_) | refine IfN.neT (by omega) ?_ | refine IfN.neF (by omega) ?_ | refine IfN.ne (fun _ => ?_) (fun _ => ?_) | refine IfN.tt (by assumption) ?_ | refine IfN.ff (by assumption) ?_ | (refine IfN.mk ?_ ?_ <;> intro _) | refine EqN.i64 (by omega) ?_ | refine EqN.quo (by omega) ?_ | refine EqN.rem (by omega) ?_ | refine EqN.u8 (by omega) ?_ | refine EqN.u64 (by omega) ?_ | refine EqN.quo8 (by omega) ?_ | refine EqN.i32 (by omega) ?_ | refine EqN.u32 (by omega) ?_ | refine EqN.u16 (by omega) ?_ | refine EqN.quou (by omega) ?_ | refine EqN.shr _ rfl (by omega) ?_ | refine EqN.mk _ rfl ?_ | (refine SideN.mk ?_ ?_; · first | kernel_rfl | omega | exact List.cons_ne_nil _ _ | (simp; done) | (simp; omega) | fail) | refine NatN.mk _ rfl ?_ | refine NatN.at_ (by omega) ?_ | refine PtrN.loc _ rfl ?_ | refine SegN.mk _ (seg_rfl rfl) ?_ | refine OfsN.at_ (by omega) ?_ | fail))); all_goals (conv => whnf)
  all_goals refine EndN.det trivial (Wk.of_eq (congrArg AV.bool ?_))
  all_goals simp [btw]
  all_goals omega

structure Sch where
  pts : Int
  part : Int
  att : Int
  rty : Int
  hnt : Int
  cnt : Int
  lates : List (Int × Int)
def encP (p : Int × Int) : List AV := [.int .i64 p.1, .int .i64 p.2]
theorem encP_below (n : Nat) (l : List (Int × Int)) : belowL n (l.flatMap encP) := belowL_flat _ fun x => by simp [encP, belowL, below]
def Sch.cells (s : Sch) : List AV := [.int .i64 s.pts, .int .i64 s.part, .sl none s.lates.length (s.lates.flatMap encP), .int .i64 s.att, .int .i64 s.rty, .int .i64 s.hnt, .int .u8 s.cnt]
def okAt (l : List (Int × Int)) (i : Nat) : Bool :=
  btw (l.getD i (0, 0)).1 0 1000 && (btw (l.getD i (0, 0)).2 0 100 && (i == 0 || !(decide ((l.getD i (0, 0)).1 ≤ (l.getD (i - 1) (0, 0)).1) || decide ((l.getD i (0, 0)).2 < (l.getD (i - 1) (0, 0)).2))))
def rowsOK (l : List (Int × Int)) : Bool := (List.range l.length).all (okAt l)
theorem rows_no {l : List (Int × Int)} {k : Nat} (hk : k < l.length) (h : okAt l k = false) : rowsOK l = false := by
  unfold rowsOK
  rw [List.all_eq_false]
  exact ⟨k, List.mem_range.2 hk, by simp [h]⟩
theorem rows_yes {l : List (Int × Int)} (h : ∀ i, i < l.length → okAt l i = true) : rowsOK l = true := by
  unfold rowsOK
  rw [List.all_eq_true]
  exact fun x hx => h x (List.mem_range.1 hx)
def validB (s : Sch) : Bool :=
  btw s.pts 0 10000 && (btw s.att 0 100 && (btw s.part 0 100 && (btw s.rty 0 100 && (btw s.hnt 0 100 && (!decide (s.cnt < 1) && (!decide (3 < s.cnt) && (!decide ((8 : Int) < s.lates.length) && rowsOK s.lates)))))))

theorem valid_c (s : Sch) (H : Heap) : VDet Try.prog 11 [.agg s.cells] H (.bool (validB s)) := by
  obtain ⟨pts, part, att, rty, hnt, cnt, lates⟩ := s
  unfold Sch.cells
  simp only
  refine fn_det Try.E0 Try.mx Try.func11 (by kernel_rfl) rfl (Nat.le_of_ble_eq_true rfl) rfl fun hcl hbl => ?_
  (repeat' ((conv => whnf); (first | refine IfN.not ?_ | refine IfN.tt rfl ?_ | refine IfN.ff rfl ?_ | refine IfN.dT (by omega) ?_ | refine IfN.dF (by omega) ?_ | refine IfN.dec (fun _ => ?_) (fun _ => ?_) | refine IfN.eqT (by omega) ?_ | refine IfN.eqF (by omega) ?_ | refine IfN.eq (fun _ => ?_) (fun _ => ?_) | refine IfN.neT (by omega) ?_ | refine IfN.neF (by omega) ?_ | refine IfN.ne (fun _ => ?_) (fun _ => ?_) | refine IfN.tt (by assumption) ?_ | refine IfN.ff (by assumption) ?_ | (refine IfN.mk ?_ ?_ <;> intro _) | refine EqN.i64 (by omega) ?_ | refine EqN.quo (by omega) ?_ | refine EqN.rem (by omega) ?_ | refine EqN.u8 (by omega) ?_ | refine EqN.u64 (by omega) ?_ | refine EqN.quo8 (by omega) ?_ | refine EqN.i32 (by omega) ?_ | refine EqN.u32 (by omega) ?_ | refine EqN.u16 (by omega) ?_ | refine EqN.quou (by omega) ?_ | refine EqN.shr _ rfl (by omega) ?_ | refine EqN.mk _ rfl ?_ | (refine SideN.mk ?_ ?_; · first | kernel_rfl | omega | exact List.cons_ne_nil _ _ | (simp; done) | (simp; omega) | fail) | refine NatN.mk _ rfl ?_ | refine NatN.at_ (by omega) ?_ | refine CallN.det _ (between_c _ _ _ _) ?_ | refine CallD.det _ (fun _ => between_c _ _ _ _) ?_ | refine PtrN.loc _ rfl ?_ | refine SegN.mk _ (seg_rfl rfl) ?_ | refine OfsN.at_ (by omega) ?_ | fail))); all_goals (conv => whnf)
  all_goals try (refine EndN.det trivial (Wk.of_eq (congrArg AV.bool ?_)); simp_all [validB]; done)
  refine loop_R Try.E0 Try.mx (σ := Nat) (fun k => k ≤ lates.length ∧ ∀ i, i < k → okAt lates i = true) (fun k => lates.length - k) (fun k => [(48, .v (.int .i64 k))]) (fun _ => _) _ 0 rfl hcl [1, 46, 47] rfl ⟨Nat.zero_le _, fun i hi => absurd hi (Nat.not_lt_zero i)⟩ ⟨⟨_, rfl, Wk.refl _⟩, trivial⟩ rfl (fun _ _ => rfl) ?_
  rintro k ⟨hk, hok⟩
  (repeat' ((conv => whnf); (first | refine IfN.not ?_ | refine IfN.tt rfl ?_ | refine IfN.ff rfl ?_ | refine IfN.dT (by omega) ?_ | refine IfN.dF (by omega) ?_ | refine IfN.dec (fun _ => ?_) (fun _ => ?_) | refine IfN.eqT (by omega) ?_ | refine IfN.eqF (by omega) ?_ | refine IfN.eq (fun _ => ?_) (fun _ => ?_) | refine IfN.neT (by omega) ?_ | refine IfN.neF (by omega) ?_ | refine IfN.ne (fun _ => ?_) (fun _ => ?_) | refine IfN.tt (by assumption) ?_ | refine IfN.ff (by assumption) ?_ | (refine IfN.mk ?_ ?_ <;> intro _) | refine EqN.i64 (by omega) ?_ | refine EqN.quo (by omega) ?_ | refine EqN.rem (by omega) ?_ | refine EqN.u8 (by omega) ?_ | refine EqN.u64 (by omega) ?_ | refine EqN.quo8 (by omega) ?_ | refine EqN.i32 (by omega) ?_ | refine EqN.u32 (by omega) ?_ | refine EqN.u16 (by omega) ?_ | refine EqN.quou (by omega) ?_ | refine EqN.shr _ rfl (by omega) ?_ | refine EqN.mk _ rfl ?_ | (refine SideN.mk ?_ ?_; · first | kernel_rfl | omega | exact List.cons_ne_nil _ _ | (simp; done) | (simp; omega) | fail) | refine NatN.mk _ rfl ?_ | refine NatN.at_ (by omega) ?_ | refine CallN.det _ (between_c _ _ _ _) ?_ | refine CallD.det _ (fun _ => between_c _ _ _ _) ?_ | refine SegN.nth (0, 0) k rfl (by omega) (fun _ => rfl) ?_ | refine SegN.nth (0, 0) (k - 1) (by omega) (by omega) (fun _ => rfl) ?_ | refine PtrN.loc _ rfl ?_ | refine SegN.mk _ (seg_rfl rfl) ?_ | refine OfsN.at_ (by omega) ?_ | fail))); all_goals (conv => whnf)
  all_goals first
    | (refine EndN.det trivial (Wk.of_eq (congrArg AV.bool ?_))
       have hno : okAt lates k = false := by simp_all [okAt]; try omega
       have := rows_no (by omega) hno
       simp_all [validB]; done)
    | (refine EndN.det trivial (Wk.of_eq (congrArg AV.bool ?_))
       have := rows_yes (l := lates) (fun i hi => hok i (by omega))
       simp_all [validB]; done)
    | (have hyes : okAt lates k = true := by simp_all [okAt]; try omega
       (refine ⟨⟨k + 1, ⟨by omega, fun i hi => by
        rcases Nat.lt_or_ge i k with h | h
        · exact hok i h
        · have : i = k := by omega
          exact this ▸ hyes⟩, by omega, ?_, .inl ⟨rfl, rfl⟩, rfl, _, rfl, ?_⟩⟩; rotate_left 1; (first | exact .inl rfl | exact .inr ⟨by simp [belowRE, below, belowL, tr, encP_below], by simp [belowH, Blk.below, belowL, below, encP_below]⟩ | fail); (repeat' (first | exact trivial | refine ⟨⟨_, rfl, ?_⟩, ?_⟩ | fail)); all_goals try (first | exact Wk.refl _ | exact Wk.of_eq (congrArg (AV.int _) (by omega)) | fail)))

structure Wrk where
  prog : Int
  days : Int
  att : Int
  hints : Int
def Wrk.cells (w : Wrk) : List AV := [.int .i64 w.prog, .int .i64 w.days, .int .i64 w.att, .int .i64 w.hints]
def whole : Int := 1152921504606846976
def wvalid (w : Wrk) : Bool := btw w.prog 0 1152921504606846976 && (btw w.days 0 1000 && (btw w.att 1 100 && btw w.hints 0 100))
theorem wvalid_c (w : Wrk) (H : Heap) : VDet Try.prog 21 [.agg w.cells] H (.bool (wvalid w)) := by
  obtain ⟨prog, days, att, hints⟩ := w
  unfold Wrk.cells
  simp only
  refine fn_det Try.E0 Try.mx Try.func21 (by kernel_rfl) rfl (Nat.le_of_ble_eq_true rfl) rfl fun hcl hbl => ?_
  (repeat' ((conv => whnf); (first | refine IfN.not ?_ | refine IfN.tt rfl ?_ | refine IfN.ff rfl ?_ | refine IfN.dT (by omega) ?_ | refine IfN.dF (by omega) ?_ | refine IfN.dec (fun _ => ?_) (fun _ => ?_) | refine IfN.eqT (by omega) ?_ | refine IfN.eqF (by omega) ?_ | refine IfN.eq (fun _ => ?_) (fun _ => ?_) | refine IfN.neT (by omega) ?_ | refine IfN.neF (by omega) ?_ | refine IfN.ne (fun _ => ?_) (fun _ => ?_) | refine IfN.tt (by assumption) ?_ | refine IfN.ff (by assumption) ?_ | (refine IfN.mk ?_ ?_ <;> intro _) | refine EqN.i64 (by omega) ?_ | refine EqN.quo (by omega) ?_ | refine EqN.rem (by omega) ?_ | refine EqN.u8 (by omega) ?_ | refine EqN.u64 (by omega) ?_ | refine EqN.quo8 (by omega) ?_ | refine EqN.i32 (by omega) ?_ | refine EqN.u32 (by omega) ?_ | refine EqN.u16 (by omega) ?_ | refine EqN.quou (by omega) ?_ | refine EqN.shr _ rfl (by omega) ?_ | refine EqN.mk _ rfl ?_ | (refine SideN.mk ?_ ?_; · first | kernel_rfl | omega | exact List.cons_ne_nil _ _ | (simp; done) | (simp; omega) | fail) | refine NatN.mk _ rfl ?_ | refine NatN.at_ (by omega) ?_ | refine CallN.det _ (between_c _ _ _ _) ?_ | refine CallD.det _ (fun _ => between_c _ _ _ _) ?_ | refine PtrN.loc _ rfl ?_ | refine SegN.mk _ (seg_rfl rfl) ?_ | refine OfsN.at_ (by omega) ?_ | fail))); all_goals (conv => whnf)
  all_goals refine EndN.det trivial (Wk.of_eq (congrArg AV.bool ?_))
  all_goals simp_all [wvalid]

/-! ### a product of 128 bits -/
theorem mask32 (x : Int) (h : 0 ≤ x ∧ x < 18446744073709551616) : bits .and .u64 x 4294967295 = x % 4294967296 := by
  rw [u64_and x 4294967295 h.1 h.2 (by omega) (by omega)]
  have : (4294967295 : Int).toNat = 2 ^ 32 - 1 := by decide
  rw [this, Nat.and_two_pow_sub_one_eq_mod]
  omega
theorem mul_le32 {a b : Int} (ha : 0 ≤ a ∧ a ≤ 4294967295) (hb : 0 ≤ b ∧ b ≤ 4294967295) : 0 ≤ a * b ∧ a * b ≤ 18446744065119617025 :=
  ⟨Int.mul_nonneg ha.1 hb.1, Int.le_trans (Int.mul_le_mul ha.2 hb.2 hb.1 (by omega)) (by decide)⟩
theorem mul64_c (x y : Int) (hx : 0 ≤ x ∧ x < 18446744073709551616) (hy : 0 ≤ y ∧ y < 18446744073709551616) (H : Heap) :
    VDet Try.prog 35 [.int .u64 x, .int .u64 y] H (.tup [.int .u64 (x * y / 18446744073709551616), .int .u64 (x * y % 18446744073709551616)]) := by
  have h00 := mul_le32 (a := x % 4294967296) (b := y % 4294967296) (by omega) (by omega)
  have h10 := mul_le32 (a := x / 4294967296) (b := y % 4294967296) (by omega) (by omega)
  have h01 := mul_le32 (a := x % 4294967296) (b := y / 4294967296) (by omega) (by omega)
  have h11 := mul_le32 (a := x / 4294967296) (b := y / 4294967296) (by omega) (by omega)
  have key : x * y = x / 4294967296 * (y / 4294967296) * 18446744073709551616 + (x / 4294967296 * (y % 4294967296) + x % 4294967296 * (y / 4294967296)) * 4294967296 + x % 4294967296 * (y % 4294967296) := by
    have e1 : x = x / 4294967296 * 4294967296 + x % 4294967296 := by omega
    have e2 : y = y / 4294967296 * 4294967296 + y % 4294967296 := by omega
    generalize x / 4294967296 = x1 at *
    generalize x % 4294967296 = x0 at *
    generalize y / 4294967296 = y1 at *
    generalize y % 4294967296 = y0 at *
    subst e1 e2
    simp only [Int.add_mul, Int.mul_add]
    have e3 : x1 * 4294967296 * (y1 * 4294967296) = x1 * y1 * 18446744073709551616 := by
      rw [Int.mul_assoc x1, Int.mul_left_comm 4294967296 y1, ← Int.mul_assoc x1 y1]; rfl
    have e4 : x1 * 4294967296 * y0 = x1 * y0 * 4294967296 := by rw [Int.mul_right_comm]
    have e5 : x0 * (y1 * 4294967296) = x0 * y1 * 4294967296 := by rw [Int.mul_assoc]
    rw [e3, e4, e5]
    omega
  rw [key]
  refine fn_det Try.E0 Try.mx Try.func35 (by kernel_rfl) rfl (Nat.le_of_ble_eq_true rfl) rfl fun hcl hbl => ?_
  (repeat' ((conv => whnf); (first | refine EqN.mk _ (mask32 _ (by omega)) ?_ | refine EqN.shrL 32 4294967296 rfl rfl rfl ?_ | refine IfN.not ?_ | refine IfN.tt rfl ?_ | refine IfN.ff rfl ?_ | refine IfN.dT (by omega) ?_ | refine IfN.dF (by omega) ?_ | refine IfN.dec (fun _ => ?_) (fun _ => ?_) | refine IfN.eqT (by omega) ?_ | refine IfN.eqF (by omega) ?_ | refine IfN.eq (fun _ => ?_) (fun _ => ?_) | refine IfN.neT (by omega) ?_ | refine IfN.neF (by omega) ?_ | refine IfN.ne (fun _ => ?_) (fun _ => ?_) | refine IfN.tt (by assumption) ?_ | refine IfN.ff (by assumption) ?_ | (refine IfN.mk ?_ ?_ <;> intro _) | refine EqN.i64 (by omega) ?_ | refine EqN.quo (by omega) ?_ | refine EqN.rem (by omega) ?_ | refine EqN.u8 (by omega) ?_ | refine EqN.u64 (by omega) ?_ | refine EqN.quo8 (by omega) ?_ | refine EqN.i32 (by omega) ?_ | refine EqN.u32 (by omega) ?_ | refine EqN.u16 (by omega) ?_ | refine EqN.quou (by omega) ?_ | refine EqN.shr _ rfl (by omega) ?_ | refine EqN.mk _ rfl ?_ | (refine SideN.mk ?_ ?_; · first | kernel_rfl | omega | exact List.cons_ne_nil _ _ | (simp; done) | (simp; omega) | fail) | refine NatN.mk _ rfl ?_ | refine NatN.at_ (by omega) ?_ | refine PtrN.loc _ rfl ?_ | refine SegN.mk _ (seg_rfl rfl) ?_ | refine OfsN.at_ (by omega) ?_ | fail))); all_goals (conv => whnf)
  refine EndN.det (by simp [below, belowL]) (Wk.of_eq ?_)
  simp only [AV.tup.injEq, List.cons.injEq, AV.int.injEq, true_and, and_true]
  refine ⟨by omega, ?_⟩
  rw [key, IntKind.wrap_u64]
end Go.Proofs.Ytkoomafopmiebaa
