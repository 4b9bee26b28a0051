/- A text of the proof: D32. -/
import Derived.Test.YtkoomafopmiebaaC32
set_option linter.unusedSimpArgs false
set_option linter.unusedVariables false
namespace Go.Proofs.Ytkoomafopmiebaa
open Go.Vsi
attribute [local irreducible] VW VCall VO

/-! ### what the law builds out of what it is given -/
structure Raw where
  f0 : Int
  a : Int
  b : Int
  c : Int
  d : Int
  e : Int
  xs : List Int
  ys : List Int
def enc8 (n : Int) : List AV := [.int .u8 n]
theorem enc8_below (n : Nat) (l : List Int) : belowL n (l.flatMap enc8) := belowL_flat _ fun x => by simp [enc8, belowL, below]
def Raw.cells (r : Raw) : List AV := [.int .u16 r.f0, .int .u8 r.a, .int .u8 r.b, .int .u8 r.c, .int .u8 r.d, .int .u8 r.e, .sl none r.xs.length (r.xs.flatMap enc8), .sl none r.ys.length (r.ys.flatMap enc8)]
structure Raw.Ok (r : Raw) : Prop where
  f0 : 0 ≤ r.f0 ∧ r.f0 ≤ 65535
  a : 0 ≤ r.a ∧ r.a ≤ 255
  b : 0 ≤ r.b ∧ r.b ≤ 255
  c : 0 ≤ r.c ∧ r.c ≤ 255
  d : 0 ≤ r.d ∧ r.d ≤ 255
  e : 0 ≤ r.e ∧ r.e ≤ 255
  xl : r.xs.length ≤ 9223372036854775807
  yl : r.ys.length ≤ 9223372036854775807
  xs : ∀ x ∈ r.xs, 0 ≤ x ∧ x ≤ 255
  ys : ∀ x ∈ r.ys, 0 ≤ x ∧ x ≤ 255
def lateStep (p : Int × Int) (x y : Int) : Int × Int := (p.1 + 1 + x % 100, min (p.2 + y % 30) 100)
/-- the late rows, as far as `n` -/
def latesN (r : Raw) : Nat → (Int × Int) × List (Int × Int)
  | 0 => ((-1, 0), [])
  | n + 1 => (lateStep (latesN r n).1 (r.xs.getD n 0) (r.ys.getD n 0), (latesN r n).2 ++ [lateStep (latesN r n).1 (r.xs.getD n 0) (r.ys.getD n 0)])
def rawLen (r : Raw) : Nat := min (min r.xs.length r.ys.length) 8
def builtF (r : Raw) : Sch := ⟨r.f0 % 10001, r.a % 101, r.d % 20, r.b % 101, r.c % 101, 1 + r.e % 3, (latesN r (rawLen r)).2⟩
theorem latesN_len (r : Raw) : ∀ n, (latesN r n).2.length = n
  | 0 => rfl
  | n + 1 => by simp [latesN, latesN_len r n]
theorem latesN_bd (r : Raw) (h : r.Ok) : ∀ n, n ≤ rawLen r → -1 ≤ (latesN r n).1.1 ∧ (latesN r n).1.1 ≤ n * 100 ∧ 0 ≤ (latesN r n).1.2 ∧ (latesN r n).1.2 ≤ 100
  | 0, _ => by simp [latesN]
  | n + 1, hn => by
    have ih := latesN_bd r h n (by omega)
    unfold rawLen at hn
    have hx := h.xs (r.xs.getD n 0) (by simp [List.getElem?_eq_getElem (show n < r.xs.length by omega)])
    have hy := h.ys (r.ys.getD n 0) (by simp [List.getElem?_eq_getElem (show n < r.ys.length by omega)])
    simp only [latesN, lateStep]
    omega
theorem built_c (r : Raw) (hr : r.Ok) (H : Heap) : VDet Try.prog 17 [.agg r.cells] H (.agg (builtF r).cells) := by
  have bd := latesN_bd r hr
  have ln := latesN_len r
  obtain ⟨h1, h2, h3, h4, h5, h6, h7, h8, h9, h10⟩ := hr
  refine fn_det Try.E0 Try.mx Try.func17 (by kernel_rfl) rfl (Nat.le_of_ble_eq_true rfl) rfl fun hcl hbl => ?_
  (repeat' ((conv => whnf); (first | refine IfN.not ?_ | refine IfN.tt rfl ?_ | refine IfN.ff rfl ?_ | refine IfN.dT (by omega) ?_ | refine IfN.dF (by omega) ?_ | refine IfN.dec (fun _ => ?_) (fun _ => ?_) | refine IfN.eqT (by omega) ?_ | refine IfN.eqF (by omega) ?_ | refine IfN.eq (fun _ => ?_) (fun _ => ?_) | refine IfN.neT (by omega) ?_ | refine IfN.neF (by omega) ?_ | refine IfN.ne (fun _ => ?_) (fun _ => ?_) | refine IfN.tt (by assumption) ?_ | refine IfN.ff (by assumption) ?_ | (refine IfN.mk ?_ ?_ <;> intro _) | refine EqN.i64 (by omega) ?_ | refine EqN.quo (by omega) ?_ | refine EqN.rem (by omega) ?_ | refine EqN.u8 (by omega) ?_ | refine EqN.u64 (by omega) ?_ | refine EqN.quo8 (by omega) ?_ | refine EqN.i32 (by omega) ?_ | refine EqN.u32 (by omega) ?_ | refine EqN.u16 (by omega) ?_ | refine EqN.quou (by omega) ?_ | refine EqN.shr _ rfl (by omega) ?_ | refine EqN.mk _ rfl ?_ | (refine SideN.mk ?_ ?_; · first | kernel_rfl | omega | exact List.cons_ne_nil _ _ | (simp; done) | (simp; omega) | fail) | refine NatN.mk _ rfl ?_ | refine NatN.at_ (by omega) ?_ | refine PtrN.loc _ rfl ?_ | refine SegN.mk _ (seg_rfl rfl) ?_ | refine OfsN.at_ (by omega) ?_ | fail))); all_goals (conv => whnf)
  refine LoopN.tokB 2 2 50 2 rfl rfl rfl rfl rfl rfl ?_
  refine loop_R Try.E0 Try.mx (σ := Nat × List AV) (fun k => k.1 ≤ rawLen r ∧ k.2 = (latesN r k.1).2.flatMap encP) (fun k => rawLen r - k.1) (fun k => [(5, .v (.int .i64 k.1))]) (fun k => [.box 56 r.cells, .box 24 [.int .i64 0, .int .i64 0, .nils, .int .i64 0, .int .i64 0, .int .i64 0, .int .u8 0], .box 24 [.int .i64 (r.f0 % 10001), .int .i64 (r.a % 101), .sl (some (H.length + 4)) k.1 k.2, .int .i64 (r.d % 20), .int .i64 (r.b % 101), .int .i64 (r.c % 101), .int .u8 (1 + r.e % 3)], .box 50 [.int .i64 (latesN r k.1).1.1, .int .i64 (latesN r k.1).1.2], .tok 50 2 k.2.length]) _ (0, []) rfl hcl [1, 2, 3, 4] rfl ⟨Nat.zero_le _, rfl⟩ ⟨⟨_, rfl, Wk.refl _⟩, trivial⟩ rfl (fun _ _ => rfl) ?_
  rintro p ⟨hk, hpl⟩
  have hb := bd p.1 hk
  by_cases hlt : p.1 < rawLen r
  · have hlt' := hlt
    unfold rawLen at hlt
    have hx := h9 (r.xs.getD p.1 0) (by simp [List.getElem?_eq_getElem (show p.1 < r.xs.length by omega)])
    have hy := h10 (r.ys.getD p.1 0) (by simp [List.getElem?_eq_getElem (show p.1 < r.ys.length by omega)])
    (repeat' ((conv => whnf); (first | refine IfN.not ?_ | refine IfN.tt rfl ?_ | refine IfN.ff rfl ?_ | refine IfN.dT (by omega) ?_ | refine IfN.dF (by omega) ?_ | refine IfN.dec (fun _ => ?_) (fun _ => ?_) | refine IfN.eqT (by omega) ?_ | refine IfN.eqF (by omega) ?_ | refine IfN.eq (fun _ => ?_) (fun _ => ?_) | refine IfN.neT (by omega) ?_ | refine IfN.neF (by omega) ?_ | refine IfN.ne (fun _ => ?_) (fun _ => ?_) | refine IfN.tt (by assumption) ?_ | refine IfN.ff (by assumption) ?_ | (refine IfN.mk ?_ ?_ <;> intro _) | refine EqN.i64 (by omega) ?_ | refine EqN.quo (by omega) ?_ | refine EqN.rem (by omega) ?_ | refine EqN.u8 (by omega) ?_ | refine EqN.u64 (by omega) ?_ | refine EqN.quo8 (by omega) ?_ | refine EqN.i32 (by omega) ?_ | refine EqN.u32 (by omega) ?_ | refine EqN.u16 (by omega) ?_ | refine EqN.quou (by omega) ?_ | refine EqN.shr _ rfl (by omega) ?_ | refine EqN.mk _ rfl ?_ | (refine SideN.mk ?_ ?_; · first | kernel_rfl | omega | exact List.cons_ne_nil _ _ | (simp; done) | (simp; omega) | fail) | refine NatN.mk _ rfl ?_ | refine NatN.at_ (by omega) ?_ | refine SegN.nth 0 p.1 rfl (by omega) (fun _ => rfl) ?_ | refine SideN.mk ⟨rfl, rfl, rfl, by dsimp only; omega, by simp only [maxLen]; omega⟩ ?_ | refine PtrN.loc _ rfl ?_ | refine SegN.mk _ (seg_rfl rfl) ?_ | refine OfsN.at_ (by omega) ?_ | fail))); all_goals (conv => whnf)
    refine ⟨⟨(p.1 + 1, p.2 ++ encP (lateStep (latesN r p.1).1 (r.xs.getD p.1 0) (r.ys.getD p.1 0))), ⟨by simp only; omega, ?_⟩, by simp only; omega, ⟨⟨_, rfl, Wk.refl _⟩, trivial⟩, .inl ⟨rfl, rfl⟩, rfl, _, rfl, ?_⟩⟩
    · simp only [latesN, List.flatMap_append, ← hpl]
      simp
    · exact .inl rfl
  · have hk' : p.1 = rawLen r := by omega
    have hlt' := hlt
    unfold rawLen at hlt
    have e1 : (builtF r).lates.length = p.1 := by rw [hk']; exact ln _
    have e2 : (builtF r).lates.flatMap encP = p.2 := by rw [hpl, hk']; rfl
    (repeat' ((conv => whnf); (first | refine IfN.not ?_ | refine IfN.tt rfl ?_ | refine IfN.ff rfl ?_ | refine IfN.dT (by omega) ?_ | refine IfN.dF (by omega) ?_ | refine IfN.dec (fun _ => ?_) (fun _ => ?_) | refine IfN.eqT (by omega) ?_ | refine IfN.eqF (by omega) ?_ | refine IfN.eq (fun _ => ?_) (fun _ => ?_) | refine IfN.neT (by omega) ?_ | refine IfN.neF (by omega) ?_ | refine IfN.ne (fun _ => ?_) (fun _ => ?_) | refine IfN.tt (by assumption) ?_ | refine IfN.ff (by assumption) ?_ | (refine IfN.mk ?_ ?_ <;> intro _) | refine EqN.i64 (by omega) ?_ | refine EqN.quo (by omega) ?_ | refine EqN.rem (by omega) ?_ | refine EqN.u8 (by omega) ?_ | refine EqN.u64 (by omega) ?_ | refine EqN.quo8 (by omega) ?_ | refine EqN.i32 (by omega) ?_ | refine EqN.u32 (by omega) ?_ | refine EqN.u16 (by omega) ?_ | refine EqN.quou (by omega) ?_ | refine EqN.shr _ rfl (by omega) ?_ | refine EqN.mk _ rfl ?_ | (refine SideN.mk ?_ ?_; · first | kernel_rfl | omega | exact List.cons_ne_nil _ _ | (simp; done) | (simp; omega) | fail) | refine NatN.mk _ rfl ?_ | refine NatN.at_ (by omega) ?_ | refine PtrN.loc _ rfl ?_ | refine SegN.mk _ (seg_rfl rfl) ?_ | refine OfsN.at_ (by omega) ?_ | fail))); all_goals (conv => whnf)
    all_goals refine EndN.det (by simp [below, belowL, Sch.cells, encP_below]) ?_
    all_goals unfold Sch.cells; rw [e1, e2]
    all_goals exact wk_agg ⟨Wk.refl _, Wk.refl _, wk_sl _ _ _, Wk.refl _, Wk.refl _, Wk.refl _, Wk.refl _, trivial⟩
theorem work_c (n a b c : Int) (hn : 0 ≤ n ∧ n ≤ 18446744073709551615) (ha : 0 ≤ a ∧ a ≤ 255) (hb : 0 ≤ b ∧ b ≤ 255) (hc : 0 ≤ c ∧ c ≤ 255) (H : Heap) : VDet Try.prog 18 [.int .u64 n, .int .u8 a, .int .u8 b, .int .u8 c] H (.agg (Wrk.cells ⟨n % 1152921504606846977, a * 3, 1 + b % 100, c % 30⟩)) := by
  refine fn_det Try.E0 Try.mx Try.func18 (by kernel_rfl) rfl (Nat.le_of_ble_eq_true rfl) rfl fun hcl hbl => ?_
  (repeat' ((conv => whnf); (first | refine IfN.not ?_ | refine IfN.tt rfl ?_ | refine IfN.ff rfl ?_ | refine IfN.dT (by omega) ?_ | refine IfN.dF (by omega) ?_ | refine IfN.dec (fun _ => ?_) (fun _ => ?_) | refine IfN.eqT (by omega) ?_ | refine IfN.eqF (by omega) ?_ | refine IfN.eq (fun _ => ?_) (fun _ => ?_) | refine IfN.neT (by omega) ?_ | refine IfN.neF (by omega) ?_ | refine IfN.ne (fun _ => ?_) (fun _ => ?_) | refine IfN.tt (by assumption) ?_ | refine IfN.ff (by assumption) ?_ | (refine IfN.mk ?_ ?_ <;> intro _) | refine EqN.i64 (by omega) ?_ | refine EqN.quo (by omega) ?_ | refine EqN.rem (by omega) ?_ | refine EqN.u8 (by omega) ?_ | refine EqN.u64 (by omega) ?_ | refine EqN.quo8 (by omega) ?_ | refine EqN.i32 (by omega) ?_ | refine EqN.u32 (by omega) ?_ | refine EqN.u16 (by omega) ?_ | refine EqN.quou (by omega) ?_ | refine EqN.shr _ rfl (by omega) ?_ | refine EqN.mk _ rfl ?_ | (refine SideN.mk ?_ ?_; · first | kernel_rfl | omega | exact List.cons_ne_nil _ _ | (simp; done) | (simp; omega) | fail) | refine NatN.mk _ rfl ?_ | refine NatN.at_ (by omega) ?_ | refine PtrN.loc _ rfl ?_ | refine SegN.mk _ (seg_rfl rfl) ?_ | refine OfsN.at_ (by omega) ?_ | fail))); all_goals (conv => whnf)
  exact EndN.det (by simp [below, belowL, Wrk.cells]) (Wk.refl _)
def exS : Sch := ⟨100, 40, 3, 20, 5, 1, [(1, 10), (7, 50)]⟩
theorem example_c (H : Heap) : VDet Try.prog 19 [] H (.agg exS.cells) := by
  refine fn_det Try.E0 Try.mx Try.func19 (by kernel_rfl) rfl (Nat.le_of_ble_eq_true rfl) rfl fun hcl hbl => ?_
  (repeat' ((conv => whnf); (first | refine IfN.not ?_ | refine IfN.tt rfl ?_ | refine IfN.ff rfl ?_ | refine IfN.dT (by omega) ?_ | refine IfN.dF (by omega) ?_ | refine IfN.dec (fun _ => ?_) (fun _ => ?_) | refine IfN.eqT (by omega) ?_ | refine IfN.eqF (by omega) ?_ | refine IfN.eq (fun _ => ?_) (fun _ => ?_) | refine IfN.neT (by omega) ?_ | refine IfN.neF (by omega) ?_ | refine IfN.ne (fun _ => ?_) (fun _ => ?_) | refine IfN.tt (by assumption) ?_ | refine IfN.ff (by assumption) ?_ | (refine IfN.mk ?_ ?_ <;> intro _) | refine EqN.i64 (by omega) ?_ | refine EqN.quo (by omega) ?_ | refine EqN.rem (by omega) ?_ | refine EqN.u8 (by omega) ?_ | refine EqN.u64 (by omega) ?_ | refine EqN.quo8 (by omega) ?_ | refine EqN.i32 (by omega) ?_ | refine EqN.u32 (by omega) ?_ | refine EqN.u16 (by omega) ?_ | refine EqN.quou (by omega) ?_ | refine EqN.shr _ rfl (by omega) ?_ | refine EqN.mk _ rfl ?_ | (refine SideN.mk ?_ ?_; · first | kernel_rfl | omega | exact List.cons_ne_nil _ _ | (simp; done) | (simp; omega) | fail) | refine NatN.mk _ rfl ?_ | refine NatN.at_ (by omega) ?_ | refine PtrN.loc _ rfl ?_ | refine SegN.mk _ (seg_rfl rfl) ?_ | refine OfsN.at_ (by omega) ?_ | fail))); all_goals (conv => whnf)
  exact EndN.det (by simp [below, belowL, Sch.cells, encP_below]) (wk_agg ⟨Wk.refl _, Wk.refl _, wk_sx _ _, Wk.refl _, Wk.refl _, Wk.refl _, Wk.refl _, trivial⟩)
theorem grade_is (s : Sch) (w : Wrk) (m : Mrk) (e : Int) (h : gradeF s w = (m, e)) (H : Heap) : VDet Try.prog 13 [.agg s.cells, .agg w.cells] H (.tup [.agg m.cells, .int .i64 e]) := by
  have := grade_c s w H
  rwa [h] at this
theorem total_is (s : Sch) (l : List Wrk) (a b : Int) (h : totalF s l = (a, b)) (hl : l.length ≤ 4611686018427387904) (H : Heap) : VDet Try.prog 15 [.agg s.cells, .sx l.length (l.flatMap Wrk.cells)] H (.tup [.int .i64 a, .int .i64 b]) := by
  have q : VDet Try.prog 15 [.agg s.cells, .sx l.length (l.flatMap Wrk.cells)] H (.tup [.int .i64 (totalF s l).1, .int .i64 (totalF s l).2]) := (total_c s l hl none H).wk ⟨Wk.refl _, wk_sx _ _, trivial⟩
  rwa [h] at q
theorem awake_c (H : Heap) : VDet Try.prog 9 [] H (.bool true) := by
  refine fn_det Try.E0 Try.mx Try.func9 (by kernel_rfl) rfl (Nat.le_of_ble_eq_true rfl) rfl fun hcl hbl => ?_
  (repeat' ((conv => whnf); (first | refine IfN.not ?_ | refine IfN.tt rfl ?_ | refine IfN.ff rfl ?_ | refine IfN.dT (by omega) ?_ | refine IfN.dF (by omega) ?_ | refine IfN.dec (fun _ => ?_) (fun _ => ?_) | refine IfN.eqT (by omega) ?_ | refine IfN.eqF (by omega) ?_ | refine IfN.eq (fun _ => ?_) (fun _ => ?_) | refine IfN.neT (by omega) ?_ | refine IfN.neF (by omega) ?_ | refine IfN.ne (fun _ => ?_) (fun _ => ?_) | refine IfN.tt (by assumption) ?_ | refine IfN.ff (by assumption) ?_ | (refine IfN.mk ?_ ?_ <;> intro _) | refine EqN.i64 (by omega) ?_ | refine EqN.quo (by omega) ?_ | refine EqN.rem (by omega) ?_ | refine EqN.u8 (by omega) ?_ | refine EqN.u64 (by omega) ?_ | refine EqN.quo8 (by omega) ?_ | refine EqN.i32 (by omega) ?_ | refine EqN.u32 (by omega) ?_ | refine EqN.u16 (by omega) ?_ | refine EqN.quou (by omega) ?_ | refine EqN.shr _ rfl (by omega) ?_ | refine EqN.mk _ rfl ?_ | (refine SideN.mk ?_ ?_; · first | kernel_rfl | omega | exact List.cons_ne_nil _ _ | (simp; done) | (simp; omega) | fail) | refine NatN.mk _ rfl ?_ | refine NatN.at_ (by omega) ?_ | refine CallN.det _ (example_c _) ?_ | refine CallD.det _ (fun _ => example_c _) ?_ | refine CallN.det _ (grade_is exS ⟨1152921504606846976, 2, 2, 1⟩ ⟨68, 100, 10, 20, 5⟩ 0 (by kernel_rfl) _) ?_ | refine CallD.det _ (fun _ => grade_is exS ⟨1152921504606846976, 2, 2, 1⟩ ⟨68, 100, 10, 20, 5⟩ 0 (by kernel_rfl) _) ?_ | refine CallN.det _ (grade_is exS ⟨576460752303423488, 0, 1, 0⟩ ⟨20, 20, 0, 0, 0⟩ 0 (by kernel_rfl) _) ?_ | refine CallD.det _ (fun _ => grade_is exS ⟨576460752303423488, 0, 1, 0⟩ ⟨20, 20, 0, 0, 0⟩ 0 (by kernel_rfl) _) ?_ | refine CallN.det _ (grade_is exS ⟨1152921504606846976, 0, 4, 0⟩ ⟨0, 100, 0, 100, 0⟩ 0 (by kernel_rfl) _) ?_ | refine CallD.det _ (fun _ => grade_is exS ⟨1152921504606846976, 0, 4, 0⟩ ⟨0, 100, 0, 100, 0⟩ 0 (by kernel_rfl) _) ?_ | refine CallN.det _ (total_is exS [⟨576460752303423488, 0, 1, 0⟩, ⟨1152921504606846976, 2, 2, 1⟩] 68 0 (by kernel_rfl) (by decide) _) ?_ | refine CallD.det _ (fun _ => total_is exS [⟨576460752303423488, 0, 1, 0⟩, ⟨1152921504606846976, 2, 2, 1⟩] 68 0 (by kernel_rfl) (by decide) _) ?_ | refine PtrN.loc _ rfl ?_ | refine SegN.mk _ (seg_rfl rfl) ?_ | refine OfsN.at_ (by omega) ?_ | fail))); all_goals (conv => whnf)
  exact EndN.det trivial (Wk.refl _)
end Go.Proofs.Ytkoomafopmiebaa
