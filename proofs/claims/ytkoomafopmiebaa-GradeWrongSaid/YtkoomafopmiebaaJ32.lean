/- A text of the proof: J32. -/
import Derived.Test.YtkoomafopmiebaaI32
set_option linter.unusedSimpArgs false
set_option linter.unusedVariables false
namespace Go.Proofs.Ytkoomafopmiebaa
open Go.Vsi
attribute [local irreducible] VW VCall VO

def enc64 (n : Int) : List AV := [.int .u64 n]
def enc3 (p : Int × Int × Int × Unit) : List AV := [.int .u8 p.1, .int .u8 p.2.1, .int .u8 p.2.2.1]
def wkOf (ns : List Int) (bs : List (Int × Int × Int × Unit)) (k : Nat) : Wrk := ⟨ns.getD k 0 % 1152921504606846977, (bs.getD k (0, 0, 0, ())).1 * 3, 1 + (bs.getD k (0, 0, 0, ())).2.1 % 100, (bs.getD k (0, 0, 0, ())).2.2.1 % 30⟩
theorem total_all {s : Sch} {l : List Wrk} (hs : validB s = true) (hl : ∀ w ∈ l, wvalid w = true) (h1 : l.length ≤ 100) : totalF s l = (if l.length = 0 then (0, 0) else (wayF s.cnt (l.map fun w => (markF s w).points), 0)) := by
  unfold totalF
  rw [if_pos ⟨hs, by rw [List.any_eq_false]; intro w hw; simp [hl w hw]⟩, if_neg (by omega)]
theorem total_one {s : Sch} {w : Wrk} (hs : validB s = true) (hw : wvalid w = true) : totalF s [w] = ((markF s w).points, 0) := by
  rw [total_all hs (by simpa using hw) (by simp)]
  have := (valid_facts hs).2.2.2.2.2.1
  rw [if_neg (by simp)]
  congr 1
  unfold wayF
  split
  · simp [maxL]
  · split
    · simp
    · simp [sumL]
theorem wrk_belowL (n : Nat) (l : List Wrk) : belowL n (l.flatMap Wrk.cells) := belowL_flat _ fun x => wrk_below n x
theorem modes {pt : Nat → Int} (c : Int) (k q : Nat) (hp : ∀ j, j < k → 0 ≤ pt j) (hk : 0 < k) (hq : q < k) : ∃ T1 T2 : Int, wayF c (PL pt k) = T1 ∧ wayF c ((PL pt k).drop q ++ (PL pt k).take q) = T2 ∧ (c = 1 → T1 = mxN pt k ∧ T2 = mxN pt k) ∧ (c = 2 → T1 = lsN pt k) ∧ (c ≠ 1 → c ≠ 2 → T1 = T2 ∧ mnN pt k ≤ T1 ∧ T1 ≤ mxN pt k) := by
  have hl : ((PL pt k).drop q ++ (PL pt k).take q).length = k := by
    rw [List.length_append, List.length_drop, List.length_take, PL_len]
    omega
  refine ⟨_, _, rfl, rfl, fun hc => ?_, fun hc => ?_, fun h1 h2 => ?_⟩
  · unfold wayF
    rw [if_pos hc, if_pos hc, mxN_spec k hp hk]
    refine ⟨rfl, maxL_same (by rw [hl]; exact hk) fun x => ?_⟩
    rw [List.mem_append, or_comm, ← List.mem_append, List.take_append_drop]
  · unfold wayF
    rw [if_neg (by omega), if_pos hc, lsN_spec pt k hk]
  · unfold wayF
    rw [if_neg h1, if_neg h2, if_neg h1, if_neg h2, hl, PL_len, sumL_app, Int.add_comm, ← sumL_app, List.take_append_drop]
    exact ⟨rfl, mean_between k hk⟩
set_option maxHeartbeats 2000000 in
theorem totals_c (r : Raw) (hr : r.Ok) (ns : List Int) (bs : List (Int × Int × Int × Unit)) (b : Int) (hns : ∀ x ∈ ns, 0 ≤ x ∧ x ≤ 18446744073709551615) (hbs : ∀ x ∈ bs, (0 ≤ x.1 ∧ x.1 ≤ 255) ∧ (0 ≤ x.2.1 ∧ x.2.1 ≤ 255) ∧ 0 ≤ x.2.2.1 ∧ x.2.2.1 ≤ 255) (hl1 : ns.length ≤ 9223372036854775807) (hl2 : bs.length ≤ 9223372036854775807) (hb : 0 ≤ b ∧ b ≤ 255) (H : Heap) :
    VDet Try.prog 7 [.agg r.cells, .sl none ns.length (ns.flatMap enc64), .sl none bs.length (bs.flatMap enc3), .int .u8 b] H (.bool true) := by
  have hB := built_c r hr
  have hs := built_valid r hr
  generalize builtF r = s at hB hs
  obtain ⟨s1, s2, s3, s4, s5, s6, s7, s8⟩ := valid_facts hs
  have hM : ∃ M : Nat, M = min (min ns.length bs.length) 40 := ⟨_, rfl⟩
  obtain ⟨M, hM⟩ := hM
  have hW : ∀ k, k < M → wvalid (wkOf ns bs k) = true ∧ ∀ H, VDet Try.prog 18 [.int .u64 (ns.getD k 0), .int .u8 (bs.getD k (0, 0, 0, ())).1, .int .u8 (bs.getD k (0, 0, 0, ())).2.1, .int .u8 (bs.getD k (0, 0, 0, ())).2.2.1] H (.agg (wkOf ns bs k).cells) := by
    intro k hk
    have h1 := hns (ns.getD k 0) (by simp [List.getElem?_eq_getElem (show k < ns.length by omega)])
    have h2 := hbs (bs.getD k (0, 0, 0, ())) (by simp [List.getElem?_eq_getElem (show k < bs.length by omega)])
    refine ⟨?_, work_c _ _ _ _ h1 h2.1 h2.2.1 h2.2.2⟩
    exact wvalid_mk (by simp only [wkOf]; omega) (by simp only [wkOf]; omega) (by simp only [wkOf]; omega) (by simp only [wkOf]; omega)
  generalize wkOf ns bs = wk at hW
  have hpt : ∀ k, k < M → 0 ≤ (markF s (wk k)).points ∧ (markF s (wk k)).points ≤ 10000 := fun k hk => points_bd hs (hW k hk).1
  refine fn_det Try.E0 Try.mx Try.func7 (by kernel_rfl) rfl (Nat.le_of_ble_eq_true rfl) rfl fun hcl hbl => ?_
  (repeat' ((conv => whnf); (first | refine IfN.not ?_ | refine IfN.tt rfl ?_ | refine IfN.ff rfl ?_ | refine IfN.dT (by omega) ?_ | refine IfN.dF (by omega) ?_ | refine IfN.dec (fun _ => ?_) (fun _ => ?_) | refine IfN.eqT (by omega) ?_ | refine IfN.eqF (by omega) ?_ | refine IfN.eq (fun _ => ?_) (fun _ => ?_) | refine IfN.neT (by omega) ?_ | refine IfN.neF (by omega) ?_ | refine IfN.ne (fun _ => ?_) (fun _ => ?_) | refine IfN.tt (by assumption) ?_ | refine IfN.ff (by assumption) ?_ | (refine IfN.mk ?_ ?_ <;> intro _) | refine EqN.i64 (by omega) ?_ | refine EqN.quo (by omega) ?_ | refine EqN.rem (by omega) ?_ | refine EqN.u8 (by omega) ?_ | refine EqN.u64 (by omega) ?_ | refine EqN.quo8 (by omega) ?_ | refine EqN.i32 (by omega) ?_ | refine EqN.u32 (by omega) ?_ | refine EqN.u16 (by omega) ?_ | refine EqN.quou (by omega) ?_ | refine EqN.shr _ rfl (by omega) ?_ | refine EqN.mk _ rfl ?_ | (refine SideN.mk ?_ ?_; · first | kernel_rfl | omega | exact List.cons_ne_nil _ _ | (simp; done) | (simp; omega) | fail) | refine NatN.mk _ rfl ?_ | refine NatN.at_ (by omega) ?_ | refine CallN.det _ (hB _) ?_ | refine CallD.det _ (fun _ => hB _) ?_ | refine PtrN.loc _ rfl ?_ | refine SegN.mk _ (seg_rfl rfl) ?_ | refine OfsN.at_ (by omega) ?_ | fail))); all_goals (conv => whnf)
  refine LoopN.tok 10 35 4 rfl rfl rfl ?_
  refine loop_R Try.E0 Try.mx (σ := Nat × List AV) (fun k => k.1 ≤ M ∧ k.2 = (WL wk k.1).flatMap Wrk.cells) (fun k => M - k.1) (fun k => [(10, .v (.sl (some (H.length + 2)) k.1 k.2)), (11, .v (.int .i64 (mnN (fun k => (markF s (wk k)).points) k.1))), (12, .v (.int .i64 (mxN (fun k => (markF s (wk k)).points) k.1))), (13, .v (.int .i64 (lsN (fun k => (markF s (wk k)).points) k.1))), (14, .v (.int .i64 k.1))]) (fun k => [.box 56 r.cells, .box 24 s.cells, .tok 35 4 k.2.length]) _ (0, []) rfl hcl [1, 2, 3, 9] rfl ⟨Nat.zero_le _, rfl⟩ ⟨⟨_, rfl, Wk.refl _⟩, ⟨_, rfl, Wk.refl _⟩, ⟨_, rfl, Wk.refl _⟩, ⟨_, rfl, Wk.refl _⟩, ⟨_, rfl, Wk.refl _⟩, trivial⟩ rfl (fun _ _ => rfl) ?_
  rintro p ⟨hk, hpl⟩
  by_cases hlt : p.1 < M
  · obtain ⟨w1, w2⟩ := hW p.1 hlt
    have h1 := hns (ns.getD p.1 0) (by simp [List.getElem?_eq_getElem (show p.1 < ns.length by omega)])
    have h2 := hbs (bs.getD p.1 (0, 0, 0, ())) (by simp [List.getElem?_eq_getElem (show p.1 < bs.length by omega)])
    have hone := total_one hs w1
    obtain ⟨m, hm, hg⟩ := grade_ex s _ hs w1
    have hpm : (markF s (wk p.1)).points = m.points := by rw [hm]
    (repeat' ((conv => whnf); (first | refine IfN.not ?_ | refine IfN.tt rfl ?_ | refine IfN.ff rfl ?_ | refine IfN.dT (by omega) ?_ | refine IfN.dF (by omega) ?_ | refine IfN.dec (fun _ => ?_) (fun _ => ?_) | refine IfN.eqT (by omega) ?_ | refine IfN.eqF (by omega) ?_ | refine IfN.eq (fun _ => ?_) (fun _ => ?_) | refine IfN.neT (by omega) ?_ | refine IfN.neF (by omega) ?_ | refine IfN.ne (fun _ => ?_) (fun _ => ?_) | refine IfN.tt (by assumption) ?_ | refine IfN.ff (by assumption) ?_ | (refine IfN.mk ?_ ?_ <;> intro _) | refine EqN.i64 (by omega) ?_ | refine EqN.quo (by omega) ?_ | refine EqN.rem (by omega) ?_ | refine EqN.u8 (by omega) ?_ | refine EqN.u64 (by omega) ?_ | refine EqN.quo8 (by omega) ?_ | refine EqN.i32 (by omega) ?_ | refine EqN.u32 (by omega) ?_ | refine EqN.u16 (by omega) ?_ | refine EqN.quou (by omega) ?_ | refine EqN.shr _ rfl (by omega) ?_ | refine EqN.mk _ rfl ?_ | (refine SideN.mk ?_ ?_; · first | kernel_rfl | omega | exact List.cons_ne_nil _ _ | (simp; done) | (simp; omega) | fail) | refine NatN.mk _ rfl ?_ | refine NatN.at_ (by omega) ?_ | refine CallN.det _ (w2 _) ?_ | refine CallD.det _ (fun _ => w2 _) ?_ | refine CallN.det _ (hg _) ?_ | refine CallD.det _ (fun _ => hg _) ?_ | refine CallN.det _ (total_is s [wk p.1] _ 0 hone (by simp) _) ?_ | refine CallD.det _ (fun _ => total_is s [wk p.1] _ 0 hone (by simp) _) ?_ | refine SegN.nth 0 p.1 rfl (by omega) (fun _ => rfl) ?_ | refine SegN.nth (0, 0, 0, ()) p.1 rfl (by omega) (fun _ => rfl) ?_ | refine SideN.mk ⟨rfl, rfl, rfl, by dsimp only; omega, by simp only [maxLen]; omega⟩ ?_ | refine PtrN.loc _ rfl ?_ | refine SegN.mk _ (seg_rfl rfl) ?_ | refine OfsN.at_ (by omega) ?_ | fail))); all_goals (conv => whnf)
    have hbl' : ∀ n, belowL n (p.2 ++ (wk p.1).cells) := fun n => by
      rw [hpl, belowL_append]
      exact ⟨wrk_belowL _ _, wrk_below _ _⟩
    refine ⟨⟨(p.1 + 1, p.2 ++ (wk p.1).cells), ⟨by simp only; omega, ?_⟩, by simp only; omega, ⟨⟨_, rfl, Wk.refl _⟩, ⟨_, rfl, Wk.of_eq (congrArg (AV.int _) ?_)⟩, ⟨_, rfl, Wk.of_eq (congrArg (AV.int _) ?_)⟩, ⟨_, rfl, Wk.of_eq (congrArg (AV.int _) ?_)⟩, ⟨_, rfl, Wk.refl _⟩, trivial⟩, .inl ⟨rfl, rfl⟩, rfl, _, rfl, .inr ⟨⟨⟨fun t h => ?_, hbl' _⟩, trivial, trivial, trivial, trivial, trivial⟩, ?_⟩⟩⟩
    · simp only [WL, List.flatMap_append, ← hpl]
      simp
    · simp only [mnN]; rw [hpm]
    · simp only [mxN]; rw [hpm]
    · simp only [lsN]; rw [hpm]
    · cases h; omega
    · simp [belowH, Blk.below, raw_below, sch_below]
  · have hk' : p.1 = M := by omega
    obtain ⟨k, pl⟩ := p
    dsimp only at hk hpl hlt hk' ⊢
    subst hpl hk'
    have hT := total_all (l := WL wk k) hs (fun w hw => by obtain ⟨j, hj, rfl⟩ := WL_mem hw; exact (hW j hj).1) (by rw [WL_len]; omega)
    rw [WL_len, WL_map] at hT
    have hc := fun tok H => total_c s (WL wk k) (by rw [WL_len]; omega) tok H
    rw [WL_len, hT] at hc
    by_cases h0 : k = 0
    · simp only [h0, if_true] at hc
      subst h0
      (repeat' ((conv => whnf); (first | refine IfN.not ?_ | refine IfN.tt rfl ?_ | refine IfN.ff rfl ?_ | refine IfN.dT (by omega) ?_ | refine IfN.dF (by omega) ?_ | refine IfN.dec (fun _ => ?_) (fun _ => ?_) | refine IfN.eqT (by omega) ?_ | refine IfN.eqF (by omega) ?_ | refine IfN.eq (fun _ => ?_) (fun _ => ?_) | refine IfN.neT (by omega) ?_ | refine IfN.neF (by omega) ?_ | refine IfN.ne (fun _ => ?_) (fun _ => ?_) | refine IfN.tt (by assumption) ?_ | refine IfN.ff (by assumption) ?_ | (refine IfN.mk ?_ ?_ <;> intro _) | refine EqN.i64 (by omega) ?_ | refine EqN.quo (by omega) ?_ | refine EqN.rem (by omega) ?_ | refine EqN.u8 (by omega) ?_ | refine EqN.u64 (by omega) ?_ | refine EqN.quo8 (by omega) ?_ | refine EqN.i32 (by omega) ?_ | refine EqN.u32 (by omega) ?_ | refine EqN.u16 (by omega) ?_ | refine EqN.quou (by omega) ?_ | refine EqN.shr _ rfl (by omega) ?_ | refine EqN.mk _ rfl ?_ | (refine SideN.mk ?_ ?_; · first | kernel_rfl | omega | exact List.cons_ne_nil _ _ | (simp; done) | (simp; omega) | fail) | refine NatN.mk _ rfl ?_ | refine NatN.at_ (by omega) ?_ | refine CallN.det _ (hc _ _) ?_ | refine CallD.det _ (fun _ => hc _ _) ?_ | refine CallN.det _ (awake_c _) ?_ | refine CallD.det _ (fun _ => awake_c _) ?_ | refine PtrN.loc _ rfl ?_ | refine SegN.mk _ (seg_rfl rfl) ?_ | refine OfsN.at_ (by omega) ?_ | fail))); all_goals (conv => whnf)
      all_goals exact EndN.det trivial (Wk.refl _)
    rw [if_neg h0] at hc
    generalize hpt' : (fun k => (markF s (wk k)).points) = pt at *
    have hp : ∀ j, j < k → 0 ≤ pt j := fun j hj => by rw [← hpt']; exact (hpt j hj).1
    obtain ⟨q, hq, hqk⟩ : ∃ q : Nat, b % (k : Int) = q ∧ q < k := ⟨(b % (k : Int)).toNat, by have := Int.emod_nonneg b (show (k : Int) ≠ 0 by omega); omega, by have := Int.emod_nonneg b (show (k : Int) ≠ 0 by omega); have := Int.emod_lt_of_pos b (show 0 < (k : Int) by omega); omega⟩
    have hwl := WL_len wk k
    have hL1 : ((((WL wk k).drop q).take (k - q)).flatMap Wrk.cells).length = (k - q) * 4 := by
      rw [flat_length (sz := 4) (fun _ => rfl), List.length_take, List.length_drop, hwl, Nat.min_self]
    have hL2 : ((((WL wk k).drop 0).take (q - 0)).flatMap Wrk.cells).length = (q - 0) * 4 := by
      rw [flat_length (sz := 4) (fun _ => rfl), List.length_take, List.length_drop, hwl, Nat.min_eq_left (by omega)]
    have hA2 : allOne ((((WL wk k).drop 0).take (q - 0)).flatMap Wrk.cells) = true := allOne_flat (fun _ => rfl) _
    have hq0 : (WL wk k).drop q ++ (WL wk k).take q = ((WL wk k).drop q).take (k - q) ++ ((WL wk k).drop 0).take (q - 0) := by
      rw [List.take_of_length_le (l := (WL wk k).drop q) (i := k - q) (by rw [List.length_drop, hwl]; omega)]
      simp
    have hc2 : ∀ tok H, VDet Try.prog 15 [.agg s.cells, .sl tok (0 + (k - q) + (q - 0)) ([] ++ (((WL wk k).drop q).take (k - q)).flatMap Wrk.cells ++ (((WL wk k).drop 0).take (q - 0)).flatMap Wrk.cells)] H (.tup [.int .i64 (wayF s.cnt ((PL pt k).drop q ++ (PL pt k).take q)), .int .i64 0]) := by
      intro tok H
      have hlen : ((WL wk k).drop q ++ (WL wk k).take q).length = 0 + (k - q) + (q - 0) := by
        rw [List.length_append, List.length_drop, List.length_take, hwl]
        omega
      have hR := total_c s ((WL wk k).drop q ++ (WL wk k).take q) (by rw [hlen]; omega) tok H
      rw [total_all hs (fun w hw => by
        obtain ⟨j, hj, rfl⟩ := WL_mem (show w ∈ WL wk k by
          rw [List.mem_append] at hw
          exact hw.elim (fun h => List.mem_of_mem_drop h) (fun h => List.mem_of_mem_take h))
        exact (hW j hj).1) (by rw [hlen]; omega), hlen, if_neg (by omega), List.map_append, List.map_drop, List.map_take, WL_map, hpt', hq0, List.flatMap_append] at hR
      exact hR
    obtain ⟨T1, T2, e1, e2, g1, g2, g3⟩ := modes (pt := pt) s.cnt k q hp (by omega) hqk
    rw [e1] at hc
    rw [e2] at hc2
    clear e1 e2 hT hq0
    (repeat' ((conv => whnf); (first | refine NatN.mk q hq ?_ | refine IfN.not ?_ | refine IfN.tt rfl ?_ | refine IfN.ff rfl ?_ | refine IfN.dT (by omega) ?_ | refine IfN.dF (by omega) ?_ | refine IfN.dec (fun _ => ?_) (fun _ => ?_) | refine IfN.eqT (by omega) ?_ | refine IfN.eqF (by omega) ?_ | refine IfN.eq (fun _ => ?_) (fun _ => ?_) | refine IfN.neT (by omega) ?_ | refine IfN.neF (by omega) ?_ | refine IfN.ne (fun _ => ?_) (fun _ => ?_) | refine IfN.tt (by assumption) ?_ | refine IfN.ff (by assumption) ?_ | (refine IfN.mk ?_ ?_ <;> intro _) | refine EqN.i64 (by omega) ?_ | refine EqN.quo (by omega) ?_ | refine EqN.rem (by omega) ?_ | refine EqN.u8 (by omega) ?_ | refine EqN.u64 (by omega) ?_ | refine EqN.quo8 (by omega) ?_ | refine EqN.i32 (by omega) ?_ | refine EqN.u32 (by omega) ?_ | refine EqN.u16 (by omega) ?_ | refine EqN.quou (by omega) ?_ | refine EqN.shr _ rfl (by omega) ?_ | refine EqN.mk _ rfl ?_ | (refine SideN.mk ?_ ?_; · first | kernel_rfl | omega | exact List.cons_ne_nil _ _ | (simp; done) | (simp; omega) | fail) | refine NatN.mk _ rfl ?_ | refine NatN.at_ (by omega) ?_ | refine CallN.det _ (hc _ _) ?_ | refine CallD.det _ (fun _ => hc _ _) ?_ | refine CallN.det _ (hc2 _ _) ?_ | refine CallD.det _ (fun _ => hc2 _ _) ?_ | refine CallN.det _ (awake_c _) ?_ | refine CallD.det _ (fun _ => awake_c _) ?_ | refine SubN.flat (fun _ => rfl) (by omega) ?_ | refine OrN.l ?_ | refine SideN.mk ⟨by omega, rfl, hL1, by dsimp only; omega, by simp only [maxLen]; omega⟩ ?_ | refine SideN.mk ⟨rfl, hA2, hL2, by dsimp only; omega, by simp only [maxLen]; omega⟩ ?_ | refine PtrN.loc _ rfl ?_ | refine SegN.mk _ (seg_rfl rfl) ?_ | refine OfsN.at_ (by omega) ?_ | fail))); all_goals (conv => whnf)
    all_goals exact EndN.det trivial (Wk.refl _)
end Go.Proofs.Ytkoomafopmiebaa
