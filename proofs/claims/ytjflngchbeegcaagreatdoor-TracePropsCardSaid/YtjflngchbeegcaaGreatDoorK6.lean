/- A text of the proof: the parts N13z, O13z, P13z, Q13z, S13z, U13z, V13z, W13z, X13z, F14z, Y13z, Z13z, A14z, G14z, B14z, I14z. -/
import Derived.Test.YtjflngchbeegcaaGreatDoorK5
set_option linter.unusedSimpArgs false
set_option linter.unusedVariables false
/-! text N13z -/
namespace Go.Proofs.YtjflngchbeegcaaGreatDoor
open Go.Vsi
set_option maxHeartbeats 1000000
attribute [local irreducible] VW VCall VO bits

theorem at_f1_3 (t : Tr) (ht : t.Ok) (a : Fm) (ih : AtIH t a) (H : Heap) (im i1 i2 i3 i4 : Nat) (m0 : Bool) (e : AtEnv t H im i1 i2 i3 i4 m0) :
    VCall Tryz.prog 80 [.agg (Fm.f1 3 a).cells, .ptr i1 0, .ptr i2 0, .ptr i3 0, .ptr i4 0] H (setR H i2 (.box 4 [.bool (m0 || miss t a)]) (.int .i64 (nt (every t.n) (evT t a) : Nat))) := by
  have q1 := fun X => ih (H ++ X) im i1 i2 i3 i4 m0 (e.app X)
  obtain ⟨rm, r1, r2, r3, r4, -⟩ := e.set (m0 || miss t a)
  obtain ⟨hm, h1, h2, h3, h4, hne⟩ := e
  have ha := evT_lt ht a
  have ha32 := p2_32 ha ht.n5
  have he := every_lt ht.n5
  rw [show (Fm.f1 3 a).cells = [.int .u8 (3 : Nat), .str .empty, .sl none 0 [], .sl none 1 [.int .u8 a.op, .str a.nmB, .sl none 0 [], .sl none a.sn a.sc]] from rfl]
  unfold Fm.cells at q1
  unfold opV at h4 r4
  generalize a.op = ao at q1 ⊢
  generalize a.nmB = an at q1 ⊢
  generalize a.sn = asn at q1 ⊢
  generalize a.sc = asc at q1 ⊢
  refine fn_gen Tryz.E0 Tryz.mx Tryz.func80 (by kernel_rfl) rfl (Nat.le_of_ble_eq_true rfl) rfl fun hcl hbl => ?_
  (repeat' ((conv => whnf); (first | (refine IfN.id ?_; first | refine IfN.tt rfl ?_ | refine IfN.ff rfl ?_ | fail) | (refine SideN.mk ?_ ?_; · first | kernel_rfl | omega | exact List.cons_ne_nil _ _ | (simp; done) | (simp; omega) | exact trivial | assumption | fail) | (refine CallN.id ?_; first | refine CallN.det _ (op2_c (every t.n) (evT t a) 0 he ha32 _) ?_ | fail) | refine CallD.setB i2 _ _ _ _ h2 rfl rfl (q1 _) rfl ?_ | refine RelN.mk [_] [] ⟨⟨_, rfl⟩, 1, by kernel_rfl, rfl⟩ ?_ | (refine PtrN.id ?_; first | refine PtrN.base _ (by (repeat' (first | assumption | exact at_loc' _ rfl | exact at_loc0 rfl | refine at_set (B' := ?_) ?_ | refine at_base' ?_ | fail))) ?_ | fail) | refine SegN.mk _ (seg_rfl rfl) ?_ | refine DrawN.mk' [] ?_ | fail))); all_goals (conv => whnf)
  exact EndN.setB (by simp [Blk.below, belowL, below]) trivial (Wk.refl _)
theorem at_f1_12 (t : Tr) (ht : t.Ok) (a : Fm) (ih : AtIH t a) (H : Heap) (im i1 i2 i3 i4 : Nat) (m0 : Bool) (e : AtEnv t H im i1 i2 i3 i4 m0) :
    VCall Tryz.prog 80 [.agg (Fm.f1 12 a).cells, .ptr i1 0, .ptr i2 0, .ptr i3 0, .ptr i4 0] H (setR H i2 (.box 4 [.bool (m0 || miss t a)]) (.int .i64 (befN t.n t.lp (evT t a) : Nat))) := by
  have q1 := fun X => ih (H ++ X) im i1 i2 i3 i4 m0 (e.app X)
  obtain ⟨rm, r1, r2, r3, r4, -⟩ := e.set (m0 || miss t a)
  obtain ⟨hm, h1, h2, h3, h4, hne⟩ := e
  have ha := evT_lt ht a
  have ha32 := p2_32 ha ht.n5
  have he := every_lt ht.n5
  rw [show (Fm.f1 12 a).cells = [.int .u8 (12 : Nat), .str .empty, .sl none 0 [], .sl none 1 [.int .u8 a.op, .str a.nmB, .sl none 0 [], .sl none a.sn a.sc]] from rfl]
  unfold Fm.cells at q1
  unfold opV at h4 r4
  generalize a.op = ao at q1 ⊢
  generalize a.nmB = an at q1 ⊢
  generalize a.sn = asn at q1 ⊢
  generalize a.sc = asc at q1 ⊢
  refine fn_gen Tryz.E0 Tryz.mx Tryz.func80 (by kernel_rfl) rfl (Nat.le_of_ble_eq_true rfl) rfl fun hcl hbl => ?_
  (repeat' ((conv => whnf); (first | (refine IfN.id ?_; first | refine IfN.tt rfl ?_ | refine IfN.ff rfl ?_ | fail) | (refine SideN.mk ?_ ?_; · first | kernel_rfl | omega | exact List.cons_ne_nil _ _ | (simp; done) | (simp; omega) | exact trivial | assumption | fail) | (refine CallN.id ?_; first | refine CallN.det _ (op7_c t ht (evT t a) 0 ha32 _) ?_ | fail) | refine CallD.setB i2 _ _ _ _ h2 rfl rfl (q1 _) rfl ?_ | refine RelN.mk [_] [] ⟨⟨_, rfl⟩, 6, by kernel_rfl, rfl⟩ ?_ | (refine PtrN.id ?_; first | refine PtrN.base _ (by (repeat' (first | assumption | exact at_loc' _ rfl | exact at_loc0 rfl | refine at_set (B' := ?_) ?_ | refine at_base' ?_ | fail))) ?_ | fail) | refine SegN.mk _ (seg_rfl rfl) ?_ | refine DrawN.mk' [] ?_ | fail))); all_goals (conv => whnf)
  exact EndN.setB (by simp [Blk.below, belowL, below]) trivial (Wk.refl _)
theorem at_f1_13 (t : Tr) (ht : t.Ok) (a : Fm) (ih : AtIH t a) (H : Heap) (im i1 i2 i3 i4 : Nat) (m0 : Bool) (e : AtEnv t H im i1 i2 i3 i4 m0) :
    VCall Tryz.prog 80 [.agg (Fm.f1 13 a).cells, .ptr i1 0, .ptr i2 0, .ptr i3 0, .ptr i4 0] H (setR H i2 (.box 4 [.bool (m0 || miss t a)]) (.int .i64 (alN t.n t.lp (evT t a) : Nat))) := by
  have q1 := fun X => ih (H ++ X) im i1 i2 i3 i4 m0 (e.app X)
  obtain ⟨rm, r1, r2, r3, r4, -⟩ := e.set (m0 || miss t a)
  obtain ⟨hm, h1, h2, h3, h4, hne⟩ := e
  have ha := evT_lt ht a
  have ha32 := p2_32 ha ht.n5
  have he := every_lt ht.n5
  rw [show (Fm.f1 13 a).cells = [.int .u8 (13 : Nat), .str .empty, .sl none 0 [], .sl none 1 [.int .u8 a.op, .str a.nmB, .sl none 0 [], .sl none a.sn a.sc]] from rfl]
  unfold Fm.cells at q1
  unfold opV at h4 r4
  generalize a.op = ao at q1 ⊢
  generalize a.nmB = an at q1 ⊢
  generalize a.sn = asn at q1 ⊢
  generalize a.sc = asc at q1 ⊢
  refine fn_gen Tryz.E0 Tryz.mx Tryz.func80 (by kernel_rfl) rfl (Nat.le_of_ble_eq_true rfl) rfl fun hcl hbl => ?_
  (repeat' ((conv => whnf); (first | (refine IfN.id ?_; first | refine IfN.tt rfl ?_ | refine IfN.ff rfl ?_ | fail) | (refine SideN.mk ?_ ?_; · first | kernel_rfl | omega | exact List.cons_ne_nil _ _ | (simp; done) | (simp; omega) | exact trivial | assumption | fail) | (refine CallN.id ?_; first | refine CallN.det _ (op8_c t ht (evT t a) 0 ha _) ?_ | fail) | refine CallD.setB i2 _ _ _ _ h2 rfl rfl (q1 _) rfl ?_ | refine RelN.mk [_] [] ⟨⟨_, rfl⟩, 7, by kernel_rfl, rfl⟩ ?_ | (refine PtrN.id ?_; first | refine PtrN.base _ (by (repeat' (first | assumption | exact at_loc' _ rfl | exact at_loc0 rfl | refine at_set (B' := ?_) ?_ | refine at_base' ?_ | fail))) ?_ | fail) | refine SegN.mk _ (seg_rfl rfl) ?_ | refine DrawN.mk' [] ?_ | fail))); all_goals (conv => whnf)
  exact EndN.setB (by simp [Blk.below, belowL, below]) trivial (Wk.refl _)
theorem at_f2_4 (t : Tr) (ht : t.Ok) (a b : Fm) (iha : AtIH t a) (ihb : AtIH t b) (H : Heap) (im i1 i2 i3 i4 : Nat) (m0 : Bool) (e : AtEnv t H im i1 i2 i3 i4 m0) :
    VCall Tryz.prog 80 [.agg (Fm.f2 4 a b).cells, .ptr i1 0, .ptr i2 0, .ptr i3 0, .ptr i4 0] H (setR H i2 (.box 4 [.bool (m0 || miss t a || miss t b)]) (.int .i64 (evT t a &&& evT t b : Nat))) := by
  have q1 := fun X => iha (H ++ X) im i1 i2 i3 i4 m0 (e.app X)
  have q2 := fun X => ihb (H.set i2 (.box 4 [.bool (m0 || miss t a)]) ++ X) im i1 i2 i3 i4 _ ((e.set (m0 || miss t a)).app X)
  obtain ⟨rm, r1, r2, r3, r4, -⟩ := e.set (m0 || miss t a)
  obtain ⟨sm, s1, s2, s3, s4, -⟩ := e.set (m0 || miss t a || miss t b)
  obtain ⟨hm, h1, h2, h3, h4, hne⟩ := e
  have ha := evT_lt ht a
  have ha32 := p2_32 ha ht.n5
  have hb := evT_lt ht b
  have hb32 := p2_32 hb ht.n5
  have he := every_lt ht.n5
  rw [show (Fm.f2 4 a b).cells = [.int .u8 (4 : Nat), .str .empty, .sl none 0 [], .sl none 2 [.int .u8 a.op, .str a.nmB, .sl none 0 [], .sl none a.sn a.sc, .int .u8 b.op, .str b.nmB, .sl none 0 [], .sl none b.sn b.sc]] from rfl]
  unfold Fm.cells at q1 q2
  unfold opV at h4 r4 s4
  generalize a.op = ao at q1 ⊢
  generalize a.nmB = an at q1 ⊢
  generalize a.sn = asn at q1 ⊢
  generalize a.sc = asc at q1 ⊢
  generalize b.op = bo at q2 ⊢
  generalize b.nmB = bn at q2 ⊢
  generalize b.sn = bsn at q2 ⊢
  generalize b.sc = bsc at q2 ⊢
  refine fn_gen Tryz.E0 Tryz.mx Tryz.func80 (by kernel_rfl) rfl (Nat.le_of_ble_eq_true rfl) rfl fun hcl hbl => ?_
  (repeat' ((conv => whnf); (first | (refine IfN.id ?_; first | refine IfN.tt rfl ?_ | refine IfN.ff rfl ?_ | fail) | (refine SideN.mk ?_ ?_; · first | kernel_rfl | omega | exact List.cons_ne_nil _ _ | (simp; done) | (simp; omega) | exact trivial | assumption | fail) | (refine CallN.id ?_; first | refine CallN.det _ (op3_c (evT t a) (evT t b) ha32 hb32 _) ?_ | fail) | refine CallD.setB i2 _ _ _ _ h2 rfl rfl (q1 _) rfl ?_ | refine CallD.setB i2 _ _ _ _ r2 (by simp) rfl (q2 _) (List.set_set ..) ?_ | refine RelN.mk [_] [] ⟨⟨_, rfl⟩, 2, by kernel_rfl, rfl⟩ ?_ | (refine PtrN.id ?_; first | refine PtrN.base _ (by (repeat' (first | assumption | exact at_loc' _ rfl | exact at_loc0 rfl | refine at_set (B' := ?_) ?_ | refine at_base' ?_ | fail))) ?_ | fail) | refine SegN.mk _ (seg_rfl rfl) ?_ | refine DrawN.mk' [] ?_ | fail))); all_goals (conv => whnf)
  exact EndN.setB (by simp [Blk.below, belowL, below]) trivial (Wk.refl _)
theorem at_f2_5 (t : Tr) (ht : t.Ok) (a b : Fm) (iha : AtIH t a) (ihb : AtIH t b) (H : Heap) (im i1 i2 i3 i4 : Nat) (m0 : Bool) (e : AtEnv t H im i1 i2 i3 i4 m0) :
    VCall Tryz.prog 80 [.agg (Fm.f2 5 a b).cells, .ptr i1 0, .ptr i2 0, .ptr i3 0, .ptr i4 0] H (setR H i2 (.box 4 [.bool (m0 || miss t a || miss t b)]) (.int .i64 (evT t a ||| evT t b : Nat))) := by
  have q1 := fun X => iha (H ++ X) im i1 i2 i3 i4 m0 (e.app X)
  have q2 := fun X => ihb (H.set i2 (.box 4 [.bool (m0 || miss t a)]) ++ X) im i1 i2 i3 i4 _ ((e.set (m0 || miss t a)).app X)
  obtain ⟨rm, r1, r2, r3, r4, -⟩ := e.set (m0 || miss t a)
  obtain ⟨sm, s1, s2, s3, s4, -⟩ := e.set (m0 || miss t a || miss t b)
  obtain ⟨hm, h1, h2, h3, h4, hne⟩ := e
  have ha := evT_lt ht a
  have ha32 := p2_32 ha ht.n5
  have hb := evT_lt ht b
  have hb32 := p2_32 hb ht.n5
  have he := every_lt ht.n5
  rw [show (Fm.f2 5 a b).cells = [.int .u8 (5 : Nat), .str .empty, .sl none 0 [], .sl none 2 [.int .u8 a.op, .str a.nmB, .sl none 0 [], .sl none a.sn a.sc, .int .u8 b.op, .str b.nmB, .sl none 0 [], .sl none b.sn b.sc]] from rfl]
  unfold Fm.cells at q1 q2
  unfold opV at h4 r4 s4
  generalize a.op = ao at q1 ⊢
  generalize a.nmB = an at q1 ⊢
  generalize a.sn = asn at q1 ⊢
  generalize a.sc = asc at q1 ⊢
  generalize b.op = bo at q2 ⊢
  generalize b.nmB = bn at q2 ⊢
  generalize b.sn = bsn at q2 ⊢
  generalize b.sc = bsc at q2 ⊢
  refine fn_gen Tryz.E0 Tryz.mx Tryz.func80 (by kernel_rfl) rfl (Nat.le_of_ble_eq_true rfl) rfl fun hcl hbl => ?_
  (repeat' ((conv => whnf); (first | (refine IfN.id ?_; first | refine IfN.tt rfl ?_ | refine IfN.ff rfl ?_ | fail) | (refine SideN.mk ?_ ?_; · first | kernel_rfl | omega | exact List.cons_ne_nil _ _ | (simp; done) | (simp; omega) | exact trivial | assumption | fail) | (refine CallN.id ?_; first | refine CallN.det _ (op4_c (evT t a) (evT t b) ha32 hb32 _) ?_ | fail) | refine CallD.setB i2 _ _ _ _ h2 rfl rfl (q1 _) rfl ?_ | refine CallD.setB i2 _ _ _ _ r2 (by simp) rfl (q2 _) (List.set_set ..) ?_ | refine RelN.mk [_] [] ⟨⟨_, rfl⟩, 3, by kernel_rfl, rfl⟩ ?_ | (refine PtrN.id ?_; first | refine PtrN.base _ (by (repeat' (first | assumption | exact at_loc' _ rfl | exact at_loc0 rfl | refine at_set (B' := ?_) ?_ | refine at_base' ?_ | fail))) ?_ | fail) | refine SegN.mk _ (seg_rfl rfl) ?_ | refine DrawN.mk' [] ?_ | fail))); all_goals (conv => whnf)
  exact EndN.setB (by simp [Blk.below, belowL, below]) trivial (Wk.refl _)
theorem at_f2_6 (t : Tr) (ht : t.Ok) (a b : Fm) (iha : AtIH t a) (ihb : AtIH t b) (H : Heap) (im i1 i2 i3 i4 : Nat) (m0 : Bool) (e : AtEnv t H im i1 i2 i3 i4 m0) :
    VCall Tryz.prog 80 [.agg (Fm.f2 6 a b).cells, .ptr i1 0, .ptr i2 0, .ptr i3 0, .ptr i4 0] H (setR H i2 (.box 4 [.bool (m0 || miss t a || miss t b)]) (.int .i64 (nt (every t.n) (evT t a) ||| evT t b : Nat))) := by
  have q1 := fun X => iha (H ++ X) im i1 i2 i3 i4 m0 (e.app X)
  have q2 := fun X => ihb (H.set i2 (.box 4 [.bool (m0 || miss t a)]) ++ X) im i1 i2 i3 i4 _ ((e.set (m0 || miss t a)).app X)
  obtain ⟨rm, r1, r2, r3, r4, -⟩ := e.set (m0 || miss t a)
  obtain ⟨sm, s1, s2, s3, s4, -⟩ := e.set (m0 || miss t a || miss t b)
  obtain ⟨hm, h1, h2, h3, h4, hne⟩ := e
  have ha := evT_lt ht a
  have ha32 := p2_32 ha ht.n5
  have hb := evT_lt ht b
  have hb32 := p2_32 hb ht.n5
  have he := every_lt ht.n5
  rw [show (Fm.f2 6 a b).cells = [.int .u8 (6 : Nat), .str .empty, .sl none 0 [], .sl none 2 [.int .u8 a.op, .str a.nmB, .sl none 0 [], .sl none a.sn a.sc, .int .u8 b.op, .str b.nmB, .sl none 0 [], .sl none b.sn b.sc]] from rfl]
  unfold Fm.cells at q1 q2
  unfold opV at h4 r4 s4
  generalize a.op = ao at q1 ⊢
  generalize a.nmB = an at q1 ⊢
  generalize a.sn = asn at q1 ⊢
  generalize a.sc = asc at q1 ⊢
  generalize b.op = bo at q2 ⊢
  generalize b.nmB = bn at q2 ⊢
  generalize b.sn = bsn at q2 ⊢
  generalize b.sc = bsc at q2 ⊢
  refine fn_gen Tryz.E0 Tryz.mx Tryz.func80 (by kernel_rfl) rfl (Nat.le_of_ble_eq_true rfl) rfl fun hcl hbl => ?_
  (repeat' ((conv => whnf); (first | (refine IfN.id ?_; first | refine IfN.tt rfl ?_ | refine IfN.ff rfl ?_ | fail) | (refine SideN.mk ?_ ?_; · first | kernel_rfl | omega | exact List.cons_ne_nil _ _ | (simp; done) | (simp; omega) | exact trivial | assumption | fail) | (refine CallN.id ?_; first | refine CallN.det _ (op5_c (every t.n) (evT t a) (evT t b) he ha32 hb32 _) ?_ | fail) | refine CallD.setB i2 _ _ _ _ h2 rfl rfl (q1 _) rfl ?_ | refine CallD.setB i2 _ _ _ _ r2 (by simp) rfl (q2 _) (List.set_set ..) ?_ | refine RelN.mk [_] [] ⟨⟨_, rfl⟩, 4, by kernel_rfl, rfl⟩ ?_ | (refine PtrN.id ?_; first | refine PtrN.base _ (by (repeat' (first | assumption | exact at_loc' _ rfl | exact at_loc0 rfl | refine at_set (B' := ?_) ?_ | refine at_base' ?_ | fail))) ?_ | fail) | refine SegN.mk _ (seg_rfl rfl) ?_ | refine DrawN.mk' [] ?_ | fail))); all_goals (conv => whnf)
  exact EndN.setB (by simp [Blk.below, belowL, below]) trivial (Wk.refl _)
theorem at_f2_7 (t : Tr) (ht : t.Ok) (a b : Fm) (iha : AtIH t a) (ihb : AtIH t b) (H : Heap) (im i1 i2 i3 i4 : Nat) (m0 : Bool) (e : AtEnv t H im i1 i2 i3 i4 m0) :
    VCall Tryz.prog 80 [.agg (Fm.f2 7 a b).cells, .ptr i1 0, .ptr i2 0, .ptr i3 0, .ptr i4 0] H (setR H i2 (.box 4 [.bool (m0 || miss t a || miss t b)]) (.int .i64 (nt (every t.n) (evT t a ^^^ evT t b) : Nat))) := by
  have q1 := fun X => iha (H ++ X) im i1 i2 i3 i4 m0 (e.app X)
  have q2 := fun X => ihb (H.set i2 (.box 4 [.bool (m0 || miss t a)]) ++ X) im i1 i2 i3 i4 _ ((e.set (m0 || miss t a)).app X)
  obtain ⟨rm, r1, r2, r3, r4, -⟩ := e.set (m0 || miss t a)
  obtain ⟨sm, s1, s2, s3, s4, -⟩ := e.set (m0 || miss t a || miss t b)
  obtain ⟨hm, h1, h2, h3, h4, hne⟩ := e
  have ha := evT_lt ht a
  have ha32 := p2_32 ha ht.n5
  have hb := evT_lt ht b
  have hb32 := p2_32 hb ht.n5
  have he := every_lt ht.n5
  rw [show (Fm.f2 7 a b).cells = [.int .u8 (7 : Nat), .str .empty, .sl none 0 [], .sl none 2 [.int .u8 a.op, .str a.nmB, .sl none 0 [], .sl none a.sn a.sc, .int .u8 b.op, .str b.nmB, .sl none 0 [], .sl none b.sn b.sc]] from rfl]
  unfold Fm.cells at q1 q2
  unfold opV at h4 r4 s4
  generalize a.op = ao at q1 ⊢
  generalize a.nmB = an at q1 ⊢
  generalize a.sn = asn at q1 ⊢
  generalize a.sc = asc at q1 ⊢
  generalize b.op = bo at q2 ⊢
  generalize b.nmB = bn at q2 ⊢
  generalize b.sn = bsn at q2 ⊢
  generalize b.sc = bsc at q2 ⊢
  refine fn_gen Tryz.E0 Tryz.mx Tryz.func80 (by kernel_rfl) rfl (Nat.le_of_ble_eq_true rfl) rfl fun hcl hbl => ?_
  (repeat' ((conv => whnf); (first | (refine IfN.id ?_; first | refine IfN.tt rfl ?_ | refine IfN.ff rfl ?_ | fail) | (refine SideN.mk ?_ ?_; · first | kernel_rfl | omega | exact List.cons_ne_nil _ _ | (simp; done) | (simp; omega) | exact trivial | assumption | fail) | (refine CallN.id ?_; first | refine CallN.det _ (op6_c (every t.n) (evT t a) (evT t b) he ha32 hb32 _) ?_ | fail) | refine CallD.setB i2 _ _ _ _ h2 rfl rfl (q1 _) rfl ?_ | refine CallD.setB i2 _ _ _ _ r2 (by simp) rfl (q2 _) (List.set_set ..) ?_ | refine RelN.mk [_] [] ⟨⟨_, rfl⟩, 5, by kernel_rfl, rfl⟩ ?_ | (refine PtrN.id ?_; first | refine PtrN.base _ (by (repeat' (first | assumption | exact at_loc' _ rfl | exact at_loc0 rfl | refine at_set (B' := ?_) ?_ | refine at_base' ?_ | fail))) ?_ | fail) | refine SegN.mk _ (seg_rfl rfl) ?_ | refine DrawN.mk' [] ?_ | fail))); all_goals (conv => whnf)
  exact EndN.setB (by simp [Blk.below, belowL, below]) trivial (Wk.refl _)
theorem at_f2_14 (t : Tr) (ht : t.Ok) (a b : Fm) (iha : AtIH t a) (ihb : AtIH t b) (H : Heap) (im i1 i2 i3 i4 : Nat) (m0 : Bool) (e : AtEnv t H im i1 i2 i3 i4 m0) :
    VCall Tryz.prog 80 [.agg (Fm.f2 14 a b).cells, .ptr i1 0, .ptr i2 0, .ptr i3 0, .ptr i4 0] H (setR H i2 (.box 4 [.bool (m0 || miss t a || miss t b)]) (.int .i64 (unN t.n t.lp (evT t a) (evT t b) : Nat))) := by
  have q1 := fun X => iha (H ++ X) im i1 i2 i3 i4 m0 (e.app X)
  have q2 := fun X => ihb (H.set i2 (.box 4 [.bool (m0 || miss t a)]) ++ X) im i1 i2 i3 i4 _ ((e.set (m0 || miss t a)).app X)
  obtain ⟨rm, r1, r2, r3, r4, -⟩ := e.set (m0 || miss t a)
  obtain ⟨sm, s1, s2, s3, s4, -⟩ := e.set (m0 || miss t a || miss t b)
  obtain ⟨hm, h1, h2, h3, h4, hne⟩ := e
  have ha := evT_lt ht a
  have ha32 := p2_32 ha ht.n5
  have hb := evT_lt ht b
  have hb32 := p2_32 hb ht.n5
  have he := every_lt ht.n5
  rw [show (Fm.f2 14 a b).cells = [.int .u8 (14 : Nat), .str .empty, .sl none 0 [], .sl none 2 [.int .u8 a.op, .str a.nmB, .sl none 0 [], .sl none a.sn a.sc, .int .u8 b.op, .str b.nmB, .sl none 0 [], .sl none b.sn b.sc]] from rfl]
  unfold Fm.cells at q1 q2
  unfold opV at h4 r4 s4
  generalize a.op = ao at q1 ⊢
  generalize a.nmB = an at q1 ⊢
  generalize a.sn = asn at q1 ⊢
  generalize a.sc = asc at q1 ⊢
  generalize b.op = bo at q2 ⊢
  generalize b.nmB = bn at q2 ⊢
  generalize b.sn = bsn at q2 ⊢
  generalize b.sc = bsc at q2 ⊢
  refine fn_gen Tryz.E0 Tryz.mx Tryz.func80 (by kernel_rfl) rfl (Nat.le_of_ble_eq_true rfl) rfl fun hcl hbl => ?_
  (repeat' ((conv => whnf); (first | (refine IfN.id ?_; first | refine IfN.tt rfl ?_ | refine IfN.ff rfl ?_ | fail) | (refine SideN.mk ?_ ?_; · first | kernel_rfl | omega | exact List.cons_ne_nil _ _ | (simp; done) | (simp; omega) | exact trivial | assumption | fail) | (refine CallN.id ?_; first | refine CallN.det _ (op9_c t ht (evT t a) (evT t b) ha hb _) ?_ | fail) | refine CallD.setB i2 _ _ _ _ h2 rfl rfl (q1 _) rfl ?_ | refine CallD.setB i2 _ _ _ _ r2 (by simp) rfl (q2 _) (List.set_set ..) ?_ | refine RelN.mk [_] [] ⟨⟨_, rfl⟩, 8, by kernel_rfl, rfl⟩ ?_ | (refine PtrN.id ?_; first | refine PtrN.base _ (by (repeat' (first | assumption | exact at_loc' _ rfl | exact at_loc0 rfl | refine at_set (B' := ?_) ?_ | refine at_base' ?_ | fail))) ?_ | fail) | refine SegN.mk _ (seg_rfl rfl) ?_ | refine DrawN.mk' [] ?_ | fail))); all_goals (conv => whnf)
  exact EndN.setB (by simp [Blk.below, belowL, below]) trivial (Wk.refl _)
theorem at_c (t : Tr) (ht : t.Ok) : ∀ f : Fm, f.Temp → AtIH t f
  | .at c, _ => at_at t c
  | .fa, _ => at_fa t
  | .f1 k a, h => by
    have ih := at_c t ht a h.2
    intro H im i1 i2 i3 i4 m0 e
    rcases h.1 with rfl | rfl | rfl
    · exact at_f1_3 t ht a ih H im i1 i2 i3 i4 m0 e
    · exact at_f1_12 t ht a ih H im i1 i2 i3 i4 m0 e
    · exact at_f1_13 t ht a ih H im i1 i2 i3 i4 m0 e
  | .f2 k a b, h => by
    have iha := at_c t ht a h.2.1
    have ihb := at_c t ht b h.2.2
    intro H im i1 i2 i3 i4 m0 e
    rw [show (m0 || miss t (.f2 k a b)) = (m0 || miss t a || miss t b) from (Bool.or_assoc ..).symm]
    rcases h.1 with rfl | rfl | rfl | rfl | rfl
    · exact at_f2_4 t ht a b iha ihb H im i1 i2 i3 i4 m0 e
    · exact at_f2_5 t ht a b iha ihb H im i1 i2 i3 i4 m0 e
    · exact at_f2_6 t ht a b iha ihb H im i1 i2 i3 i4 m0 e
    · exact at_f2_7 t ht a b iha ihb H im i1 i2 i3 i4 m0 e
    · exact at_f2_14 t ht a b iha ihb H im i1 i2 i3 i4 m0 e
end Go.Proofs.YtjflngchbeegcaaGreatDoor
/-! text O13z -/
namespace Go.Proofs.YtjflngchbeegcaaGreatDoor
open Go.Vsi
set_option maxHeartbeats 1000000
attribute [local irreducible] VW VCall VO bits
theorem fnd_none {c : UInt8} : ∀ {l : List (UInt8 × Nat)}, (∀ p ∈ l, c ≠ p.1) → fnd c l = none
  | [], _ => rfl
  | p :: l, h => by
    have h1 : (c == p.1) = false := by simpa using h p (List.mem_cons_self ..)
    simp only [fnd, h1]
    exact fnd_none fun q hq => h q (List.mem_cons_of_mem _ hq)
theorem Tr.Ok.mono {t : Tr} (h : t.Ok) (i : Nat) : ∀ d, i + d + 1 < t.fs.length → (ft t.fs i).1.toNat < (ft t.fs (i + d + 1)).1.toNat
  | 0, hl => h.inc i hl
  | d + 1, hl => Nat.lt_trans (h.mono i d (by omega)) (h.inc (i + d + 1) hl)
theorem Tr.Ok.new {t : Tr} (h : t.Ok) {k : Nat} (hk : k < t.fs.length) : fnd (ft t.fs k).1 (t.fs.take k) = none := by
  refine fnd_none fun p hp => ?_
  obtain ⟨i, hi, rfl⟩ := List.getElem_of_mem hp
  rw [List.length_take] at hi
  have hik : i < k := by omega
  have := h.mono i (k - i - 1) (by omega)
  rw [show i + (k - i - 1) + 1 = k by omega] at this
  intro e
  rw [e] at this
  have h2 : (t.fs.take k)[i] = ft t.fs i := by simp [ft, List.getD, show i < t.fs.length by omega]
  rw [h2] at this
  exact Nat.lt_irrefl _ this
theorem fk_succ {l : List (UInt8 × Nat)} {k : Nat} (hk : k < l.length) : fk (l.take k) ++ [.str (nm (ft l k).1)] = fk (l.take (k + 1)) := map_take_succ (fun p : UInt8 × Nat => AV.str (nm p.1)) l (0, 0) k hk
theorem fv_succ {l : List (UInt8 × Nat)} {k : Nat} (hk : k < l.length) : fv (l.take k) ++ [.int .i64 (ft l k).2] = fv (l.take (k + 1)) := map_take_succ (fun p : UInt8 × Nat => AV.int .i64 p.2) l (0, 0) k hk
theorem fk_below (n : Nat) : ∀ l, belowL n (fk l)
  | [] => trivial
  | _ :: l => ⟨trivial, fk_below n l⟩
theorem fv_below (n : Nat) : ∀ l, belowL n (fv l)
  | [] => trivial
  | _ :: l => ⟨trivial, fv_below n l⟩

theorem At_d (t : Tr) (ht : t.Ok) (f : Fm) (hf : f.Ok) (htf : f.Temp) (hn : f.Small) (H : Heap) :
    VDet Tryz.prog 34 [.agg t.cells, .agg f.cells] H (.tup [.int .i64 ((if miss t f = true then 0 else evT t f : Nat) : Int), .int .i64 (if miss t f = true then 6 else 0)]) := by
  have hv := fun H => valid_t ht H
  have hr := fun H => right_c f hf htf hn H
  have ho := fun H => operators_c t ht H
  have hq := at_c t ht f htf (H ++ [.box 27 t.cells, .box 50 f.cells, .mp (fk t.fs) (fv t.fs), .box 104 [.mp (H.length + 2)], .box 105 [.rmp opK (opV t)], .box 4 [.bool false], .box 107 [.clo (.func 80) [] [.ptr (H.length + 3) 0, .ptr (H.length + 5) 0, .ptr (H.length + 6) 0, .ptr (H.length + 4) 0]]]) (H.length + 2) (H.length + 3) (H.length + 5) (H.length + 6) (H.length + 4) false
    ⟨at_loc0 rfl, at_loc0 rfl, at_loc0 rfl, at_loc0 rfl, at_loc0 rfl, by omega⟩
  have hnew := fun k hk => (mfind_nm _ _).1 (ht.new (k := k) hk)
  have hl := ht.len
  obtain ⟨n, lp, fs⟩ := t
  generalize opV ⟨n, lp, fs⟩ = ov at ho hq
  unfold Tr.cells at hv ho hq ⊢
  unfold Fm.cells at hr hq ⊢
  simp only at hv hr ho hq hl hnew ⊢
  refine fn_det Tryz.E0 Tryz.mx Tryz.func34 (by kernel_rfl) rfl (Nat.le_of_ble_eq_true rfl) rfl fun hcl hbl => ?_
  (repeat' ((conv => whnf); (first | (refine IfN.id ?_; first | refine IfN.not ?_ | refine IfN.tt rfl ?_ | fail) | (refine CallN.id ?_; first | refine CallN.det _ (hv _) ?_ | refine CallN.det _ (hr _) ?_ | fail) | refine DrawN.mk' [] ?_ | fail))); all_goals (conv => whnf)
  refine loop_R Tryz.E0 Tryz.mx (σ := Nat) (fun k => k ≤ fs.length) (fun k => fs.length - k) (fun k => [(25, .v (.int .i64 k))]) (fun k => [.box 27 [.int .u8 5, .int .i64 n, .sl none 0 [], .int .i64 lp, .sl none fs.length (fs.flatMap encT), .sl none 0 [], .sl none 0 []], .box 50 [.int .u8 f.op, .str f.nmB, .sl none 0 [], .sl none f.sn f.sc], .mp (fk (fs.take k)) (fv (fs.take k)), .box 104 [.mp (H.length + 2)]]) _ 0 rfl hcl [2, 3, 6, 23, 24] rfl (Nat.zero_le _) ⟨⟨_, rfl, Wk.refl _⟩, trivial⟩ rfl (fun _ _ => rfl) ?_
  intro k hk
  clear hbl
  (repeat' ((conv => whnf); (first | (refine IfN.id ?_; first | refine IfN.dec (fun _ => ?_) (fun _ => ?_) | fail) | (refine EqN.id ?_; first | (refine EqN.addN _ _ (by first | with_reducible rfl | with_reducible exact cst1 | with_reducible exact cst0 | with_reducible exact cst2 | with_reducible exact cst3 | with_reducible exact cst4 | with_reducible exact cst5 | with_reducible exact cst6 | with_reducible exact cst7 | with_reducible exact cst8 | with_reducible exact cst14 | with_reducible exact cst15 | with_reducible exact cst25 | with_reducible exact cst30 | with_reducible exact cst31 | fail) (by first | with_reducible rfl | with_reducible exact cst1 | with_reducible exact cst0 | with_reducible exact cst2 | with_reducible exact cst3 | with_reducible exact cst4 | with_reducible exact cst5 | with_reducible exact cst6 | with_reducible exact cst7 | with_reducible exact cst8 | with_reducible exact cst14 | with_reducible exact cst15 | with_reducible exact cst25 | with_reducible exact cst30 | with_reducible exact cst31 | fail) ?_ ?_; · (repeat' (first | omega | refine And.intro ?_ ?_ | exact bnd_andl (by omega) | exact bnd_andr (by omega) | refine bnd_or ?_ ?_ | refine bnd_or31 ?_ ?_ | refine bnd_xor ?_ ?_ | refine bnd_xor31 ?_ ?_ | refine bnd_shr ?_ | refine bnd_shl ?_ ?_ | refine bnd_mod ?_ | refine bnd_andl ?_ | fail))) | fail) | (refine SideN.mk ?_ ?_; · first | kernel_rfl | omega | exact List.cons_ne_nil _ _ | (simp; done) | (simp; omega) | exact trivial | assumption | fail) | refine SegN.nth (0, 0) k rfl (by omega) (fun _ => rfl) ?_ | refine RelN.mk _ _ ⟨⟨_, rfl⟩, .new (hnew k (by omega))⟩ ?_ | (refine PtrN.id ?_; first | refine PtrN.loc _ rfl ?_ | fail) | refine DrawN.mk' [] ?_ | fail))); all_goals (conv => whnf)
  · rw [show fk (fs.take k) ++ [.str (nm (fs.getD k (0, 0)).1)] = fk (fs.take (k + 1)) from fk_succ (by omega), show fv (fs.take k) ++ [.int .i64 (fs.getD k (0, 0)).2] = fv (fs.take (k + 1)) from fv_succ (by omega)]
    (refine ⟨⟨k + 1, by omega, by omega, ?_, .inl ⟨rfl, rfl⟩, rfl, _, rfl, ?_⟩⟩; rotate_left 1; (first | exact .inl rfl | exact .inr ⟨by simp [belowRE, below, belowL, tr, encT_below, Fm.sc_below, fk_below, fv_below], by simp [belowH, Blk.below, belowL, below, encT_below, Fm.sc_below, fk_below, fv_below]⟩ | fail); (repeat' (first | exact trivial | refine ⟨⟨_, rfl, ?_⟩, ?_⟩ | fail)); all_goals try (first | exact Wk.refl _ | exact Wk.of_eq (congrArg (AV.int _) (by omega)) | fail))
  · have : k = fs.length := by omega
    subst this
    rw [List.take_length]
    (repeat' ((conv => whnf); (first | (refine IfN.id ?_; first | (refine IfN.mk ?_ ?_ <;> intro _) | fail) | (refine CallN.id ?_; first | refine CallN.det _ (ho _) ?_ | fail) | refine CallN.setL 5 _ _ _ rfl rfl hq rfl ?_ | refine DrawN.mk' [] ?_ | fail))); all_goals (conv => whnf)
    all_goals
      rename_i hm
      simp only [Bool.false_or] at hm
      exact EndN.det (by simp [below, belowL]) (Wk.of_eq (by rw [hm]; rfl))
theorem At_c (t : Tr) (ht : t.Ok) (f : Fm) (hf : f.Ok) (htf : f.Temp) (hn : f.nodes ≤ 40) (H : Heap) :
    VDet Tryz.prog 34 [.agg t.cells, .agg f.cells] H (.tup [.int .i64 ((if miss t f = true then 0 else evT t f : Nat) : Int), .int .i64 (if miss t f = true then 6 else 0)]) := At_d t ht f hf htf (Fm.small_of hn) H
end Go.Proofs.YtjflngchbeegcaaGreatDoor
/-! text P13z -/
namespace Go.Proofs.YtjflngchbeegcaaGreatDoor
open Go.Vsi
set_option maxHeartbeats 1000000
attribute [local irreducible] VW VCall VO bits
def encN (p : Nat) : List AV := [.int .i64 p]
theorem encN_below (n : Nat) (l : List Nat) : belowL n (l.flatMap encN) := belowL_flat _ fun x => by simp [encN, belowL, below]
def tkK (old : List Nat) (mask : Nat) : Nat → Nat
  | 0 => 0
  | k + 1 => tkK old mask k ||| ((mask >>> old.getD k 0) &&& 1) <<< k
theorem tkK_lt (old : List Nat) (mask : Nat) : ∀ k, tkK old mask k < 2 ^ k
  | 0 => by simp [tkK]
  | k + 1 => Nat.or_lt_two_pow (Nat.lt_trans (tkK_lt old mask k) (Nat.pow_lt_pow_right (by decide) (by omega))) bit_lt
def tkF (old : List Nat) (p : UInt8 × Nat) : UInt8 × Nat := (p.1, tkK old p.2 old.length)
def takenT (t : Tr) (old : List Nat) (lp : Nat) : Tr := ⟨old.length, lp, t.fs.map (tkF old)⟩
theorem taken_c (t : Tr) (ht : t.Ok) (old : List Nat) (lp : Nat) (h5 : old.length ≤ 5) (ho : ∀ i, i < old.length → old.getD i 0 < 5) (H : Heap) :
    VDet Tryz.prog 46 [.agg t.cells, .sl none old.length (old.flatMap encN), .int .i64 lp] H (.agg (takenT t old lp).cells) := by
  have hl := ht.len
  have hs := fun i hi => ht.small i hi
  have e1 : (takenT t old lp).cells = [.int .u8 5, .int .i64 old.length, .sl none 0 [], .int .i64 lp, .sl none t.fs.length ((t.fs.map (tkF old)).flatMap encT), .sl none 0 [], .sl none 0 []] := by
    simp [takenT, Tr.cells]
  rw [e1]
  obtain ⟨n, lp0, fs⟩ := t
  unfold Tr.cells
  simp only at hl hs ⊢
  refine fn_det Tryz.E0 Tryz.mx Tryz.func46 (by kernel_rfl) rfl (Nat.le_of_ble_eq_true rfl) rfl fun hcl hbl => ?_
  (repeat' ((conv => whnf); (first | refine DrawN.mk' [] ?_ | fail))); all_goals (conv => whnf)
  refine LoopN.tokB 2 4 60 3 rfl rfl rfl rfl rfl rfl ?_
  refine loop_R Tryz.E0 Tryz.mx (σ := Nat × List AV) (fun k => k.1 ≤ fs.length ∧ k.2 = ((fs.take k.1).map (tkF old)).flatMap encT) (fun k => fs.length - k.1) (fun k => [(20, .v (.int .i64 k.1))]) (fun k => [.box 27 [.int .u8 5, .int .i64 n, .sl none 0 [], .int .i64 lp0, .sl none fs.length (fs.flatMap encT), .sl none 0 [], .sl none 0 []], .box 27 [.int .u8 0, .int .i64 0, .nils, .int .i64 0, .nils, .nils, .nils], .box 27 [.int .u8 5, .int .i64 old.length, .nils, .int .i64 lp, .sl (some (H.length + 3)) k.1 k.2, .nils, .nils], .tok 60 3 k.2.length]) _ (0, []) rfl hcl [1, 6, 7, 18, 19] rfl ⟨Nat.zero_le _, rfl⟩ ⟨⟨_, rfl, Wk.refl _⟩, trivial⟩ rfl (fun _ _ => rfl) ?_
  rintro ⟨k, cs⟩ ⟨hk, hcs⟩
  simp only at hk hcs ⊢
  clear hbl
  have hs' : k < fs.length → (fs.getD k (0, 0)).2 < 32 := hs k
  (repeat' ((conv => whnf); (first | (refine IfN.id ?_; first | refine IfN.dec (fun _ => ?_) (fun _ => ?_) | fail) | (refine SideN.mk ?_ ?_; · first | kernel_rfl | omega | exact List.cons_ne_nil _ _ | (simp; done) | (simp; omega) | exact trivial | assumption | fail) | refine SegN.nth (0, 0) k rfl (by omega) (fun _ => rfl) ?_ | refine DrawN.mk' [] ?_ | fail))); all_goals (conv => whnf)
  · refine loop_R Tryz.E0 Tryz.mx (σ := Nat) (fun j => j ≤ old.length) (fun j => old.length - j) (fun j => [(10, .v (.int .i64 (tkK old (fs.getD k (0, 0)).2 j : Nat))), (26, .v (.int .i64 j))]) (fun _ => _) _ 0 rfl hcl [1, 6, 7, 9, 18, 19, 20, 24, 25] rfl (Nat.zero_le _) ⟨⟨_, rfl, Wk.refl _⟩, ⟨_, rfl, Wk.refl _⟩, trivial⟩ rfl (fun _ _ => rfl) ?_
    intro j hj
    have h32 := hs' (by omega)
    have ho' := ho j
    have hb : tkK old (fs.getD k (0, 0)).2 j < 32 := p2_32 (tkK_lt _ _ j) (by omega)
    have hcl3 : cs.length = k * 3 := by
      rw [hcs, flat_length (sz := 3) (fun _ => rfl)]
      simp [Nat.min_eq_left hk]
    (repeat' ((conv => whnf); (first | (refine IfN.id ?_; first | refine IfN.dec (fun _ => ?_) (fun _ => ?_) | fail) | (refine EqN.id ?_; first | (refine EqN.and _ _ (by first | with_reducible rfl | with_reducible exact cst1 | with_reducible exact cst0 | with_reducible exact cst2 | with_reducible exact cst3 | with_reducible exact cst4 | with_reducible exact cst5 | with_reducible exact cst6 | with_reducible exact cst7 | with_reducible exact cst8 | with_reducible exact cst14 | with_reducible exact cst15 | with_reducible exact cst25 | with_reducible exact cst30 | with_reducible exact cst31 | fail) (by first | with_reducible rfl | with_reducible exact cst1 | with_reducible exact cst0 | with_reducible exact cst2 | with_reducible exact cst3 | with_reducible exact cst4 | with_reducible exact cst5 | with_reducible exact cst6 | with_reducible exact cst7 | with_reducible exact cst8 | with_reducible exact cst14 | with_reducible exact cst15 | with_reducible exact cst25 | with_reducible exact cst30 | with_reducible exact cst31 | fail) ?_ ?_; · (repeat' (first | omega | refine And.intro ?_ ?_ | exact bnd_andl (by omega) | exact bnd_andr (by omega) | refine bnd_or ?_ ?_ | refine bnd_or31 ?_ ?_ | refine bnd_xor ?_ ?_ | refine bnd_xor31 ?_ ?_ | refine bnd_shr ?_ | refine bnd_shl ?_ ?_ | refine bnd_mod ?_ | refine bnd_andl ?_ | fail))) | (refine EqN.or _ _ (by first | with_reducible rfl | with_reducible exact cst1 | with_reducible exact cst0 | with_reducible exact cst2 | with_reducible exact cst3 | with_reducible exact cst4 | with_reducible exact cst5 | with_reducible exact cst6 | with_reducible exact cst7 | with_reducible exact cst8 | with_reducible exact cst14 | with_reducible exact cst15 | with_reducible exact cst25 | with_reducible exact cst30 | with_reducible exact cst31 | fail) (by first | with_reducible rfl | with_reducible exact cst1 | with_reducible exact cst0 | with_reducible exact cst2 | with_reducible exact cst3 | with_reducible exact cst4 | with_reducible exact cst5 | with_reducible exact cst6 | with_reducible exact cst7 | with_reducible exact cst8 | with_reducible exact cst14 | with_reducible exact cst15 | with_reducible exact cst25 | with_reducible exact cst30 | with_reducible exact cst31 | fail) ?_ ?_; · (repeat' (first | omega | refine And.intro ?_ ?_ | exact bnd_andl (by omega) | exact bnd_andr (by omega) | refine bnd_or ?_ ?_ | refine bnd_or31 ?_ ?_ | refine bnd_xor ?_ ?_ | refine bnd_xor31 ?_ ?_ | refine bnd_shr ?_ | refine bnd_shl ?_ ?_ | refine bnd_mod ?_ | refine bnd_andl ?_ | fail))) | (refine EqN.shrN _ _ (by first | with_reducible rfl | with_reducible exact cst1 | with_reducible exact cst0 | with_reducible exact cst2 | with_reducible exact cst3 | with_reducible exact cst4 | with_reducible exact cst5 | with_reducible exact cst6 | with_reducible exact cst7 | with_reducible exact cst8 | with_reducible exact cst14 | with_reducible exact cst15 | with_reducible exact cst25 | with_reducible exact cst30 | with_reducible exact cst31 | fail) (by first | with_reducible rfl | with_reducible exact cst1 | with_reducible exact cst0 | with_reducible exact cst2 | with_reducible exact cst3 | with_reducible exact cst4 | with_reducible exact cst5 | with_reducible exact cst6 | with_reducible exact cst7 | with_reducible exact cst8 | with_reducible exact cst14 | with_reducible exact cst15 | with_reducible exact cst25 | with_reducible exact cst30 | with_reducible exact cst31 | fail) rfl ?_ ?_; · (repeat' (first | omega | refine And.intro ?_ ?_ | exact bnd_andl (by omega) | exact bnd_andr (by omega) | refine bnd_or ?_ ?_ | refine bnd_or31 ?_ ?_ | refine bnd_xor ?_ ?_ | refine bnd_xor31 ?_ ?_ | refine bnd_shr ?_ | refine bnd_shl ?_ ?_ | refine bnd_mod ?_ | refine bnd_andl ?_ | fail))) | (refine EqN.shlN _ _ (by first | with_reducible rfl | with_reducible exact cst1 | with_reducible exact cst0 | with_reducible exact cst2 | with_reducible exact cst3 | with_reducible exact cst4 | with_reducible exact cst5 | with_reducible exact cst6 | with_reducible exact cst7 | with_reducible exact cst8 | with_reducible exact cst14 | with_reducible exact cst15 | with_reducible exact cst25 | with_reducible exact cst30 | with_reducible exact cst31 | fail) (by first | with_reducible rfl | with_reducible exact cst1 | with_reducible exact cst0 | with_reducible exact cst2 | with_reducible exact cst3 | with_reducible exact cst4 | with_reducible exact cst5 | with_reducible exact cst6 | with_reducible exact cst7 | with_reducible exact cst8 | with_reducible exact cst14 | with_reducible exact cst15 | with_reducible exact cst25 | with_reducible exact cst30 | with_reducible exact cst31 | fail) rfl ?_ ?_ ?_; (· (repeat' (first | omega | refine And.intro ?_ ?_ | exact bnd_andl (by omega) | exact bnd_andr (by omega) | refine bnd_or ?_ ?_ | refine bnd_or31 ?_ ?_ | refine bnd_xor ?_ ?_ | refine bnd_xor31 ?_ ?_ | refine bnd_shr ?_ | refine bnd_shl ?_ ?_ | refine bnd_mod ?_ | refine bnd_andl ?_ | fail))); (· (repeat' (first | omega | refine And.intro ?_ ?_ | exact bnd_andl (by omega) | exact bnd_andr (by omega) | refine bnd_or ?_ ?_ | refine bnd_or31 ?_ ?_ | refine bnd_xor ?_ ?_ | refine bnd_xor31 ?_ ?_ | refine bnd_shr ?_ | refine bnd_shl ?_ ?_ | refine bnd_mod ?_ | refine bnd_andl ?_ | fail)))) | (refine EqN.addN _ _ (by first | with_reducible rfl | with_reducible exact cst1 | with_reducible exact cst0 | with_reducible exact cst2 | with_reducible exact cst3 | with_reducible exact cst4 | with_reducible exact cst5 | with_reducible exact cst6 | with_reducible exact cst7 | with_reducible exact cst8 | with_reducible exact cst14 | with_reducible exact cst15 | with_reducible exact cst25 | with_reducible exact cst30 | with_reducible exact cst31 | fail) (by first | with_reducible rfl | with_reducible exact cst1 | with_reducible exact cst0 | with_reducible exact cst2 | with_reducible exact cst3 | with_reducible exact cst4 | with_reducible exact cst5 | with_reducible exact cst6 | with_reducible exact cst7 | with_reducible exact cst8 | with_reducible exact cst14 | with_reducible exact cst15 | with_reducible exact cst25 | with_reducible exact cst30 | with_reducible exact cst31 | fail) ?_ ?_; · (repeat' (first | omega | refine And.intro ?_ ?_ | exact bnd_andl (by omega) | exact bnd_andr (by omega) | refine bnd_or ?_ ?_ | refine bnd_or31 ?_ ?_ | refine bnd_xor ?_ ?_ | refine bnd_xor31 ?_ ?_ | refine bnd_shr ?_ | refine bnd_shl ?_ ?_ | refine bnd_mod ?_ | refine bnd_andl ?_ | fail))) | fail) | (refine SideN.mk ?_ ?_; · first | kernel_rfl | omega | exact List.cons_ne_nil _ _ | (simp; done) | (simp; omega) | exact trivial | assumption | fail) | refine SegN.nth 0 j rfl (by omega) (fun _ => rfl) ?_ | refine SideN.mk ⟨rfl, rfl, rfl, by dsimp only; omega, by simp only [maxLen]; omega⟩ ?_ | (refine PtrN.id ?_; first | refine PtrN.loc _ rfl ?_ | fail) | refine DrawN.mk' [] ?_ | fail))); all_goals (conv => whnf)
    · (refine ⟨⟨j + 1, by omega, by omega, ?_, .inl ⟨rfl, rfl⟩, rfl, _, rfl, ?_⟩⟩; rotate_left 1; (first | exact .inl rfl | exact .inr ⟨by simp [belowRE, below, belowL, tr, encT_below, encN_below, hbc, belowL_append], by simp [belowH, Blk.below, belowL, below, encT_below, encN_below, hbc, belowL_append]⟩ | fail); (repeat' (first | exact trivial | refine ⟨⟨_, rfl, ?_⟩, ?_⟩ | fail)); all_goals try (first | exact Wk.refl _ | exact Wk.of_eq (congrArg (AV.int _) (by omega)) | fail))
    · have hje : j = old.length := by omega
      subst hje
      refine ⟨⟨(k + 1, cs ++ encT (tkF old (fs.getD k (0, 0)))), ⟨by simp only; omega, ?_⟩, by simp only; omega, ⟨⟨_, rfl, Wk.refl _⟩, trivial⟩, .inr ⟨⟨_, rfl, Wk.refl _⟩, ⟨_, rfl, Wk.refl _⟩, ⟨_, rfl, Wk.refl _⟩, ⟨_, rfl, Wk.refl _⟩, ⟨_, rfl, Wk.refl _⟩, trivial⟩, rfl, _, rfl, ?_⟩⟩
      · simp only [hcs]
        rw [← map_take_succ (tkF old) fs (0, 0) k (by omega), List.flatMap_append]
        simp
      · have hbc : ∀ m, belowL m cs := fun m => by rw [hcs]; exact encT_below m _
        exact .inr ⟨by simp [belowRE, below, belowL, tr, encN_below, encT_below], by simp [belowH, Blk.below, belowL, below, encT_below, hbc, belowL_append, encT, tkF]⟩
  · have hke : k = fs.length := by omega
    subst hke
    rw [List.take_length] at hcs
    subst hcs
    refine EndN.det (by simp [below, belowL, encT_below]) ?_
    exact wk_agg ⟨Wk.refl _, Wk.refl _, wk_nils, Wk.refl _, wk_sl _ _ _, wk_nils, wk_nils, trivial⟩
theorem Holds_c (t : Tr) (ht : t.Ok) (f : Fm) (hf : f.Ok) (htf : f.Temp) (hn : f.nodes ≤ 40) (hm : miss t f = false) (H : Heap) :
    VDet Tryz.prog 36 [.agg t.cells, .agg f.cells] H (.tup [.bool (((evT t f &&& 1 : Nat) : Int) == 1), .int .i64 0]) := by
  have hA := fun H => At_c t ht f hf htf hn H
  have h32 := p2_32 (evT_lt ht f) ht.n5
  rw [hm] at hA
  simp only [Bool.false_eq_true, if_false] at hA
  generalize evT t f = e at hA h32 ⊢
  obtain ⟨n, lp, fs⟩ := t
  unfold Tr.cells at hA ⊢
  unfold Fm.cells at hA ⊢
  simp only at hA ⊢
  refine fn_det Tryz.E0 Tryz.mx Tryz.func36 (by kernel_rfl) rfl (Nat.le_of_ble_eq_true rfl) rfl fun hcl hbl => ?_
  (repeat' ((conv => whnf); (first | (refine IfN.id ?_; first | refine IfN.tt rfl ?_ | fail) | (refine EqN.id ?_; first | (refine EqN.and _ _ (by first | with_reducible rfl | with_reducible exact cst1 | with_reducible exact cst0 | with_reducible exact cst2 | with_reducible exact cst3 | with_reducible exact cst4 | with_reducible exact cst5 | with_reducible exact cst6 | with_reducible exact cst7 | with_reducible exact cst8 | with_reducible exact cst14 | with_reducible exact cst15 | with_reducible exact cst25 | with_reducible exact cst30 | with_reducible exact cst31 | fail) (by first | with_reducible rfl | with_reducible exact cst1 | with_reducible exact cst0 | with_reducible exact cst2 | with_reducible exact cst3 | with_reducible exact cst4 | with_reducible exact cst5 | with_reducible exact cst6 | with_reducible exact cst7 | with_reducible exact cst8 | with_reducible exact cst14 | with_reducible exact cst15 | with_reducible exact cst25 | with_reducible exact cst30 | with_reducible exact cst31 | fail) ?_ ?_; · (repeat' (first | omega | refine And.intro ?_ ?_ | exact bnd_andl (by omega) | exact bnd_andr (by omega) | refine bnd_or ?_ ?_ | refine bnd_or31 ?_ ?_ | refine bnd_xor ?_ ?_ | refine bnd_xor31 ?_ ?_ | refine bnd_shr ?_ | refine bnd_shl ?_ ?_ | refine bnd_mod ?_ | refine bnd_andl ?_ | fail))) | fail) | (refine CallN.id ?_; first | refine CallN.det _ (hA _) ?_ | fail) | refine DrawN.mk' [] ?_ | fail))); all_goals (conv => whnf)
  all_goals exact EndN.det (by simp [below, belowL]) (Wk.refl _)
end Go.Proofs.YtjflngchbeegcaaGreatDoor
/-! text Q13z -/
namespace Go.Proofs.YtjflngchbeegcaaGreatDoor
open Go.Vsi
set_option maxHeartbeats 1000000
attribute [local irreducible] VW VCall VO bits
def bitAt (t : Tr) (i x : Nat) : Nat := ((ft t.fs i).2 >>> posN t.n t.lp x) &&& 1
def rowS (a b : Tr) (i : Nat) : Bool := ((ft a.fs i).1 == (ft b.fs i).1) && (List.range 25).all fun x => bitAt a i x == bitAt b i x
def sameB (a b : Tr) : Bool := (a.fs.length == b.fs.length) && (List.range a.fs.length).all (rowS a b)
theorem all_no {p : Nat → Bool} {n k : Nat} (hk : k < n) (h : p k = false) : (List.range n).all p = false := by
  rw [List.all_eq_false]
  exact ⟨k, List.mem_range.2 hk, by simp [h]⟩
theorem all_yes {p : Nat → Bool} {n : Nat} (h : ∀ i, i < n → p i = true) : (List.range n).all p = true := by
  rw [List.all_eq_true]
  exact fun x hx => h x (List.mem_range.1 hx)
theorem same_no {a b : Tr} {k : Nat} (hk : k < a.fs.length) (h : rowS a b k = false) : sameB a b = false := by
  unfold sameB
  rw [all_no hk h, Bool.and_false]
theorem same_c (a b : Tr) (ha : a.Ok) (hb : b.Ok) (H : Heap) : VDet Tryz.prog 44 [.agg a.cells, .agg b.cells] H (.bool (sameB a b)) := by
  have hpa := fun x hx H => position_c a ha x hx H
  have hpb := fun x hx H => position_c b hb x hx H
  have hla := ha.len
  have hlb := hb.len
  have hsa := fun i hi => ha.small i hi
  have hsb := fun i hi => hb.small i hi
  have hqa := fun x => Nat.lt_of_lt_of_le (posN_lt (x := x) ha.lp) ha.n5
  have hqb := fun x => Nat.lt_of_lt_of_le (posN_lt (x := x) hb.lp) hb.n5
  have hno := fun k => @same_no a b k
  have hyes : ∀ (e : a.fs.length = b.fs.length), (∀ i, i < a.fs.length → rowS a b i = true) → sameB a b = true := fun e h => by
    unfold sameB; rw [all_yes h, e]; simp
  have hne : a.fs.length ≠ b.fs.length → sameB a b = false := fun e => by unfold sameB; simp [e]
  have hrn : ∀ k, ((ft a.fs k).1 == (ft b.fs k).1) = false → rowS a b k = false := fun k h => by unfold rowS; rw [h]; rfl
  have hrb : ∀ k x, x < 25 → bitAt a k x ≠ bitAt b k x → rowS a b k = false := fun k x hx h => by
    unfold rowS; rw [all_no hx (by simpa using h), Bool.and_false]
  have hry : ∀ k, ((ft a.fs k).1 == (ft b.fs k).1) = true → (∀ x, x < 25 → bitAt a k x = bitAt b k x) → rowS a b k = true := fun k h h2 => by
    unfold rowS; rw [h, all_yes fun x hx => by simpa using h2 x hx]; rfl
  have eba : ∀ k x, bitAt a k x = ((ft a.fs k).2 >>> posN a.n a.lp x) &&& 1 := fun _ _ => rfl
  have ebb : ∀ k x, bitAt b k x = ((ft b.fs k).2 >>> posN b.n b.lp x) &&& 1 := fun _ _ => rfl
  generalize sameB a b = R at hno hyes hne ⊢
  generalize rowS a b = rS at hno hyes hrn hrb hry
  generalize bitAt a = ba at hrb hry eba
  generalize bitAt b = bb at hrb hry ebb
  obtain ⟨na, lpa, fa⟩ := a
  obtain ⟨nb, lpb, fb⟩ := b
  unfold Tr.cells at hpa hpb ⊢
  simp only at hpa hpb hla hlb hsa hsb hqa hqb hno hyes hne hrn hrb hry eba ebb ⊢
  refine fn_det Tryz.E0 Tryz.mx Tryz.func44 (by kernel_rfl) rfl (Nat.le_of_ble_eq_true rfl) rfl fun hcl hbl => ?_
  (repeat' ((conv => whnf); (first | (refine IfN.id ?_; first | refine IfN.not ?_ | refine IfN.dec (fun _ => ?_) (fun _ => ?_) | fail) | refine DrawN.mk' [] ?_ | fail))); all_goals (conv => whnf)
  all_goals try (refine EndN.det trivial (Wk.of_eq ?_); rw [hne (by omega)])
  refine loop_R Tryz.E0 Tryz.mx (σ := Nat) (fun k => k ≤ fa.length ∧ ∀ i, i < k → rS i = true) (fun k => fa.length - k) (fun k => [(18, .v (.int .i64 k))]) (fun _ => _) _ 0 rfl hcl [2, 3, 16, 17] rfl ⟨Nat.zero_le _, fun i hi => absurd hi (Nat.not_lt_zero i)⟩ ⟨⟨_, rfl, Wk.refl _⟩, trivial⟩ rfl (fun _ _ => rfl) ?_
  rintro k ⟨hk, hok⟩
  clear hbl
  (repeat' ((conv => whnf); (first | (refine IfN.id ?_; first | refine IfN.not ?_ | refine IfN.dec (fun _ => ?_) (fun _ => ?_) | (refine IfN.mk ?_ ?_ <;> intro _) | fail) | (refine SideN.mk ?_ ?_; · first | kernel_rfl | omega | exact List.cons_ne_nil _ _ | (simp; done) | (simp; omega) | exact trivial | assumption | fail) | refine SegN.nth (0, 0) k rfl (by omega) (fun _ => rfl) ?_ | refine DrawN.mk' [] ?_ | fail))); all_goals (conv => whnf)
  · rename_i hn
    rw [nm_eq] at hn
    refine loop_R Tryz.E0 Tryz.mx (σ := Nat) (fun x => x ≤ 25 ∧ ∀ y, y < x → ba k y = bb k y) (fun x => 25 - x) (fun x => [(32, .v (.int .i64 x))]) (fun _ => _) _ 0 rfl hcl [2, 3, 5, 6, 16, 17, 18] rfl ⟨Nat.zero_le _, fun i hi => absurd hi (Nat.not_lt_zero i)⟩ ⟨⟨_, rfl, Wk.refl _⟩, trivial⟩ rfl (fun _ _ => rfl) ?_
    rintro x ⟨hx, hsame⟩
    have h1 := hsa k (by omega)
    have h2 := hsb k (by omega)
    unfold ft at h1 h2 eba ebb
    have h3 := hqa x
    have h4 := hqb x
    (repeat' ((conv => whnf); (first | (refine IfN.id ?_; first | refine IfN.not ?_ | refine IfN.dec (fun _ => ?_) (fun _ => ?_) | fail) | (refine EqN.id ?_; first | (refine EqN.and _ _ (by first | with_reducible rfl | with_reducible exact cst1 | with_reducible exact cst0 | with_reducible exact cst2 | with_reducible exact cst3 | with_reducible exact cst4 | with_reducible exact cst5 | with_reducible exact cst6 | with_reducible exact cst7 | with_reducible exact cst8 | with_reducible exact cst14 | with_reducible exact cst15 | with_reducible exact cst25 | with_reducible exact cst30 | with_reducible exact cst31 | fail) (by first | with_reducible rfl | with_reducible exact cst1 | with_reducible exact cst0 | with_reducible exact cst2 | with_reducible exact cst3 | with_reducible exact cst4 | with_reducible exact cst5 | with_reducible exact cst6 | with_reducible exact cst7 | with_reducible exact cst8 | with_reducible exact cst14 | with_reducible exact cst15 | with_reducible exact cst25 | with_reducible exact cst30 | with_reducible exact cst31 | fail) ?_ ?_; · (repeat' (first | omega | refine And.intro ?_ ?_ | exact bnd_andl (by omega) | exact bnd_andr (by omega) | refine bnd_or ?_ ?_ | refine bnd_or31 ?_ ?_ | refine bnd_xor ?_ ?_ | refine bnd_xor31 ?_ ?_ | refine bnd_shr ?_ | refine bnd_shl ?_ ?_ | refine bnd_mod ?_ | refine bnd_andl ?_ | fail))) | (refine EqN.shrN _ _ (by first | with_reducible rfl | with_reducible exact cst1 | with_reducible exact cst0 | with_reducible exact cst2 | with_reducible exact cst3 | with_reducible exact cst4 | with_reducible exact cst5 | with_reducible exact cst6 | with_reducible exact cst7 | with_reducible exact cst8 | with_reducible exact cst14 | with_reducible exact cst15 | with_reducible exact cst25 | with_reducible exact cst30 | with_reducible exact cst31 | fail) (by first | with_reducible rfl | with_reducible exact cst1 | with_reducible exact cst0 | with_reducible exact cst2 | with_reducible exact cst3 | with_reducible exact cst4 | with_reducible exact cst5 | with_reducible exact cst6 | with_reducible exact cst7 | with_reducible exact cst8 | with_reducible exact cst14 | with_reducible exact cst15 | with_reducible exact cst25 | with_reducible exact cst30 | with_reducible exact cst31 | fail) rfl ?_ ?_; · (repeat' (first | omega | refine And.intro ?_ ?_ | exact bnd_andl (by omega) | exact bnd_andr (by omega) | refine bnd_or ?_ ?_ | refine bnd_or31 ?_ ?_ | refine bnd_xor ?_ ?_ | refine bnd_xor31 ?_ ?_ | refine bnd_shr ?_ | refine bnd_shl ?_ ?_ | refine bnd_mod ?_ | refine bnd_andl ?_ | fail))) | (refine EqN.addN _ _ (by first | with_reducible rfl | with_reducible exact cst1 | with_reducible exact cst0 | with_reducible exact cst2 | with_reducible exact cst3 | with_reducible exact cst4 | with_reducible exact cst5 | with_reducible exact cst6 | with_reducible exact cst7 | with_reducible exact cst8 | with_reducible exact cst14 | with_reducible exact cst15 | with_reducible exact cst25 | with_reducible exact cst30 | with_reducible exact cst31 | fail) (by first | with_reducible rfl | with_reducible exact cst1 | with_reducible exact cst0 | with_reducible exact cst2 | with_reducible exact cst3 | with_reducible exact cst4 | with_reducible exact cst5 | with_reducible exact cst6 | with_reducible exact cst7 | with_reducible exact cst8 | with_reducible exact cst14 | with_reducible exact cst15 | with_reducible exact cst25 | with_reducible exact cst30 | with_reducible exact cst31 | fail) ?_ ?_; · (repeat' (first | omega | refine And.intro ?_ ?_ | exact bnd_andl (by omega) | exact bnd_andr (by omega) | refine bnd_or ?_ ?_ | refine bnd_or31 ?_ ?_ | refine bnd_xor ?_ ?_ | refine bnd_xor31 ?_ ?_ | refine bnd_shr ?_ | refine bnd_shl ?_ ?_ | refine bnd_mod ?_ | refine bnd_andl ?_ | fail))) | fail) | (refine SideN.mk ?_ ?_; · first | kernel_rfl | omega | exact List.cons_ne_nil _ _ | (simp; done) | (simp; omega) | exact trivial | assumption | fail) | (refine CallD.id ?_; first | refine CallD.det _ (fun _ hq X => hpa x (by omega) _) ?_ | refine CallD.det _ (fun _ hq X => hpb x (by omega) _) ?_ | fail) | refine SegN.nth (0, 0) k rfl (by omega) (fun _ => rfl) ?_ | refine DrawN.mk' [] ?_ | fail))); all_goals (conv => whnf)
    · rename_i he
      have hxy : ba k x = bb k x := by rw [eba, ebb]; exact Int.natCast_inj.1 he
      (refine ⟨⟨x + 1, ⟨by omega, fun y hy => by
        rcases Nat.lt_or_ge y x with h | h
        · exact hsame y h
        · have : y = x := by omega
          exact this ▸ hxy⟩, by omega, ?_, .inl ⟨rfl, rfl⟩, rfl, _, rfl, ?_⟩⟩; rotate_left 1; (first | exact .inl rfl | exact .inr ⟨by simp [belowRE, below, belowL, tr, encT_below, encN_below], by simp [belowH, Blk.below, belowL, below, encT_below, encN_below]⟩ | fail); (repeat' (first | exact trivial | refine ⟨⟨_, rfl, ?_⟩, ?_⟩ | fail)); all_goals try (first | exact Wk.refl _ | exact Wk.of_eq (congrArg (AV.int _) (by omega)) | fail))
    · rename_i he
      refine EndN.det trivial (Wk.of_eq ?_)
      rw [hno k (by omega) (hrb k x (by omega) fun h => he (by rw [eba, ebb] at h; rw [h]))]
    · have hk1 := hry k hn fun y hy => hsame y (by omega)
      refine ⟨⟨k + 1, ⟨by omega, fun i hi => ?_⟩, by omega, ⟨⟨_, rfl, Wk.refl _⟩, trivial⟩, .inr ⟨⟨_, rfl, Wk.refl _⟩, ⟨_, rfl, Wk.refl _⟩, ⟨_, rfl, Wk.refl _⟩, ⟨_, rfl, Wk.refl _⟩, trivial⟩, rfl, _, rfl, .inr ⟨by simp [belowRE, below, belowL, tr, encT_below], by simp [belowH, Blk.below, belowL, below, encT_below]⟩⟩⟩
      rcases Nat.lt_or_ge i k with h | h
      · exact hok i h
      · have : i = k := by omega
        exact this ▸ hk1
  · rename_i hn
    rw [nm_eq] at hn
    refine EndN.det trivial (Wk.of_eq ?_)
    rw [hno k (by omega) (hrn k hn)]
  · refine EndN.det trivial (Wk.of_eq ?_)
    rw [hyes (by omega) (fun i hi => hok i (by omega))]
theorem Same_c (a b : Tr) (ha : a.Ok) (hb : b.Ok) (H : Heap) : VDet Tryz.prog 10 [.agg a.cells, .agg b.cells] H (.tup [.bool (sameB a b), .int .i64 0]) := by
  have hva := fun H => valid_t ha H
  have hvb := fun H => valid_t hb H
  have hs := fun H => same_c a b ha hb H
  generalize sameB a b = R at hs ⊢
  unfold Tr.cells at hva hvb hs ⊢
  refine fn_det Tryz.E0 Tryz.mx Tryz.func10 (by kernel_rfl) rfl (Nat.le_of_ble_eq_true rfl) rfl fun hcl hbl => ?_
  (repeat' ((conv => whnf); (first | (refine IfN.id ?_; first | refine IfN.not ?_ | refine IfN.tt rfl ?_ | fail) | (refine CallN.id ?_; first | refine CallN.det _ (hva _) ?_ | refine CallN.det _ (hvb _) ?_ | refine CallN.det _ (hs _) ?_ | fail) | refine DrawN.mk' [] ?_ | fail))); all_goals (conv => whnf)
  exact EndN.det (by simp [below, belowL]) (Wk.refl _)
/-! ### slices.Index -/
end Go.Proofs.YtjflngchbeegcaaGreatDoor
/-! text S13z -/
namespace Go.Proofs.YtjflngchbeegcaaGreatDoor
open Go.Vsi
set_option maxHeartbeats 1000000
attribute [local irreducible] VW VCall VO bits
/-! ### the steps of a trace -/
theorem steps_c (t : Tr) (p : Nat) (H : Heap) : VCall Tryz.prog 45 [.agg t.cells, .int .i64 p] H (fun r H' => r = .clo (.func 89) [] [.ptr (H.length + 1) 0, .ptr (H.length + 0) 0] ∧ H' = H ++ [.box 27 t.cells, .box 3 [.int .i64 p]]) := by
  unfold Tr.cells
  refine fn_gen Tryz.E0 Tryz.mx Tryz.func45 (by kernel_rfl) rfl (Nat.le_of_ble_eq_true rfl) rfl fun hcl hbl => ?_
  (repeat' ((conv => whnf); (first | refine DrawN.mk' [] ?_ | fail))); all_goals (conv => whnf)
  exact EndN.keep _ (Wk.refl _) ⟨rfl, rfl⟩

/-- a walk along the steps: its states ahead of each round, and behind it -/
structure ItS (t : Tr) (K N : Nat) (p : Nat → Nat) (Hs Hm : Nat → Heap) (ip im : Nat) : Prop where
  hp : ∀ j, j ≤ K → (Hs j)[ip]? = some (.box 3 [.int .i64 (p j)])
  hm : ∀ j, j < K → (Hm j)[im]? = some (.box 27 t.cells)
  hmp : ∀ j, j < K → (Hm j)[ip]? = some (.box 3 [.int .i64 (p j)])
  hset : ∀ j, j < K → (Hm j).set ip (.box 3 [.int .i64 (p (j + 1))]) = Hs (j + 1)
  step : ∀ j, j < K → p (j + 1) = posN t.n t.lp (p j + 1)
  cl : ∀ j, j ≤ K → Closed (Hs j)
  len : ∀ j, j ≤ K → (Hs j).length = N
  lenm : ∀ j, j < K → (Hm j).length = N
  small : ∀ j, p j < 5
theorem iter_c (t : Tr) (ht : t.Ok) (K N : Nat) (p : Nat → Nat) (Hs Hm : Nat → Heap) (ip im i : Nat) (s : ItS t K N p Hs Hm ip im) (He : Heap)
    (hlen : He.length = N) (hlow : ∀ (j : Nat) B, He[j]? = some B → (Hs 0)[j]? = some B ∨ B.below (Hs 0).length)
    (hyt : ∀ j, j < K → VYield Tryz.prog i [.int .i64 (p j)] (Hs j ++ []) (fun r H' => r = .bool true ∧ H' = Hm j ++ []))
    (hyf : VYield Tryz.prog i [.int .i64 (p K)] (Hs K ++ []) (fun r H' => r = .bool false ∧ H' = He ++ [])) :
    VCall Tryz.prog 89 [.clo (.yield i) [] [], .ptr ip 0, .ptr im 0] (Hs 0) (fun _ H' => H' = He) := by
  have hpos := fun j (hj : p j + 1 < 9223372036854775808) H => position_c t ht (p j + 1) hj H
  obtain ⟨hp, hm, hmp, hset, step, cl, len, lenm, small⟩ := s
  obtain ⟨n, lp, fs⟩ := t
  unfold Tr.cells at hm hpos
  simp only at hm hpos step
  refine fn_gen Tryz.E0 Tryz.mx Tryz.func89 (by kernel_rfl) rfl (Nat.le_of_ble_eq_true rfl) rfl fun hcl hbl => ?_
  refine loop_B Tryz.E0 Tryz.mx (σ := Nat) (fun j => j ≤ K) (fun j => K - j) (fun _ => []) Hs (fun _ => []) _ 0 (fun j hj => (len j hj).trans (len 0 (Nat.zero_le _)).symm) cl [0, 1, 2] rfl (Nat.zero_le _) trivial rfl rfl (fun _ _ => rfl) ?_
  intro j hj
  have h1 := hp j hj
  have hN := (len 0 (Nat.zero_le _)).symm
  rcases Nat.lt_or_ge j K with hjK | hjK
  · have h2 := hm j hjK
    have h3 := hmp j hjK
    have h4 := small j
    (repeat' ((conv => whnf); (first | (refine IfN.id ?_; first | refine IfN.tt rfl ?_ | fail) | (refine EqN.id ?_; first | (refine EqN.addN _ _ (by first | with_reducible rfl | with_reducible exact cst1 | with_reducible exact cst0 | with_reducible exact cst2 | with_reducible exact cst3 | with_reducible exact cst4 | with_reducible exact cst5 | with_reducible exact cst6 | with_reducible exact cst7 | with_reducible exact cst8 | with_reducible exact cst14 | with_reducible exact cst15 | with_reducible exact cst25 | with_reducible exact cst30 | with_reducible exact cst31 | fail) (by first | with_reducible rfl | with_reducible exact cst1 | with_reducible exact cst0 | with_reducible exact cst2 | with_reducible exact cst3 | with_reducible exact cst4 | with_reducible exact cst5 | with_reducible exact cst6 | with_reducible exact cst7 | with_reducible exact cst8 | with_reducible exact cst14 | with_reducible exact cst15 | with_reducible exact cst25 | with_reducible exact cst30 | with_reducible exact cst31 | fail) ?_ ?_; · (repeat' (first | omega | refine And.intro ?_ ?_ | exact bnd_andl (by omega) | exact bnd_andr (by omega) | refine bnd_or ?_ ?_ | refine bnd_or31 ?_ ?_ | refine bnd_xor ?_ ?_ | refine bnd_xor31 ?_ ?_ | refine bnd_shr ?_ | refine bnd_shl ?_ ?_ | refine bnd_mod ?_ | refine bnd_andl ?_ | fail))) | fail) | refine SetN.mk _ rfl ?_ | (refine CallN.id ?_; first | refine CallN.det _ (hpos j (by omega) _) ?_ | fail) | refine CallN.fix _ _ _ _ (hyt j hjK) ((lenm j hjK).trans hN) rfl ?_ | (refine PtrN.id ?_; first | refine PtrN.base _ (by (repeat' (first | assumption | exact at_loc' _ rfl | exact at_loc0 rfl | refine at_set (B' := ?_) ?_ | refine at_base' ?_ | fail))) ?_ | fail) | refine DrawN.mk' [] ?_ | fail))); all_goals (conv => whnf)
    refine ⟨⟨j + 1, hjK, by omega, trivial, .inl ⟨rfl, rfl⟩, ?_, [], rfl, .inl rfl⟩⟩
    rw [← step j hjK]
    exact hset j hjK
  · have : j = K := by omega
    subst this
    (repeat' ((conv => whnf); (first | (refine IfN.id ?_; first | refine IfN.ff rfl ?_ | fail) | refine CallN.fix _ _ _ _ hyf (hlen.trans hN) rfl ?_ | (refine PtrN.id ?_; first | refine PtrN.base _ (by (repeat' (first | assumption | exact at_loc' _ rfl | exact at_loc0 rfl | refine at_set (B' := ?_) ?_ | refine at_base' ?_ | fail))) ?_ | fail) | refine DrawN.mk' [] ?_ | fail))); all_goals (conv => whnf)
    exact .cut (hlen.trans hN) hlow ⟨_, _, .refl _, Wk.refl _, by simp [below, belowL], rfl⟩
end Go.Proofs.YtjflngchbeegcaaGreatDoor
/-! text U13z -/
namespace Go.Proofs.YtjflngchbeegcaaGreatDoor
open Go.Vsi
set_option maxHeartbeats 1000000
attribute [local irreducible] VW VCall VO bits
/-! ### slices.Index -/
def ixF (v : Nat) : List Nat → Nat → Int
  | [], _ => -1
  | p :: l, k => if p = v then (k : Int) else ixF v l (k + 1)
theorem index_c (l : List Nat) (v : Nat) (hl : l.length ≤ 1000) (H : Heap) : VDet Tryz.prog 83 [.sl none l.length (l.flatMap encN), .int .i64 v] H (.int .i64 (ixF v l 0)) := by
  refine fn_det Tryz.E0 Tryz.mx Tryz.func83 (by kernel_rfl) rfl (Nat.le_of_ble_eq_true rfl) rfl fun hcl hbl => ?_
  (repeat' ((conv => whnf); (first | refine DrawN.mk' [] ?_ | fail))); all_goals (conv => whnf)
  refine loop_R Tryz.E0 Tryz.mx (σ := Nat) (fun k => k ≤ l.length ∧ ixF v l 0 = ixF v (l.drop k) k) (fun k => l.length - k) (fun k => [(8, .v (.int .i64 k))]) (fun _ => []) _ 0 rfl hcl [0, 1, 7] rfl ⟨Nat.zero_le _, rfl⟩ ⟨⟨_, rfl, Wk.refl _⟩, trivial⟩ rfl (fun _ _ => rfl) ?_
  rintro k ⟨hk, hix⟩
  clear hbl
  have hd : k < l.length → ixF v (l.drop k) k = if l.getD k 0 = v then (k : Int) else ixF v (l.drop (k + 1)) (k + 1) := fun h => by
    rw [List.drop_eq_getElem_cons h]
    simp [ixF, List.getD, h]
  (repeat' ((conv => whnf); (first | (refine IfN.id ?_; first | refine IfN.dec (fun _ => ?_) (fun _ => ?_) | fail) | (refine EqN.id ?_; first | (refine EqN.addN _ _ (by first | with_reducible rfl | with_reducible exact cst1 | with_reducible exact cst0 | with_reducible exact cst2 | with_reducible exact cst3 | with_reducible exact cst4 | with_reducible exact cst5 | with_reducible exact cst6 | with_reducible exact cst7 | with_reducible exact cst8 | with_reducible exact cst14 | with_reducible exact cst15 | with_reducible exact cst25 | with_reducible exact cst30 | with_reducible exact cst31 | fail) (by first | with_reducible rfl | with_reducible exact cst1 | with_reducible exact cst0 | with_reducible exact cst2 | with_reducible exact cst3 | with_reducible exact cst4 | with_reducible exact cst5 | with_reducible exact cst6 | with_reducible exact cst7 | with_reducible exact cst8 | with_reducible exact cst14 | with_reducible exact cst15 | with_reducible exact cst25 | with_reducible exact cst30 | with_reducible exact cst31 | fail) ?_ ?_; · (repeat' (first | omega | refine And.intro ?_ ?_ | exact bnd_andl (by omega) | exact bnd_andr (by omega) | refine bnd_or ?_ ?_ | refine bnd_or31 ?_ ?_ | refine bnd_xor ?_ ?_ | refine bnd_xor31 ?_ ?_ | refine bnd_shr ?_ | refine bnd_shl ?_ ?_ | refine bnd_mod ?_ | refine bnd_andl ?_ | fail))) | fail) | (refine SideN.mk ?_ ?_; · first | kernel_rfl | omega | exact List.cons_ne_nil _ _ | (simp; done) | (simp; omega) | exact trivial | assumption | fail) | refine SegN.nth 0 k rfl (by omega) (fun _ => rfl) ?_ | refine DrawN.mk' [] ?_ | fail))); all_goals (conv => whnf)
  · rename_i he
    have hlt : k < l.length := by omega
    refine EndN.det trivial (Wk.of_eq ?_)
    rw [hix, hd hlt, if_pos (by omega)]
  · rename_i he
    have hlt : k < l.length := by omega
    (refine ⟨⟨k + 1, ⟨hlt, by rw [hix, hd hlt, if_neg (by omega)]⟩, by omega, ?_, .inl ⟨rfl, rfl⟩, rfl, _, rfl, ?_⟩⟩; rotate_left 1; (first | exact .inl rfl | exact .inr ⟨by simp [belowRE, below, belowL, tr, encT_below, encN_below], by simp [belowH, Blk.below, belowL, below, encT_below, encN_below]⟩ | fail); (repeat' (first | exact trivial | refine ⟨⟨_, rfl, ?_⟩, ?_⟩ | fail)); all_goals try (first | exact Wk.refl _ | exact Wk.of_eq (congrArg (AV.int _) (by omega)) | fail))
  · have : k = l.length := by omega
    subst this
    rw [List.drop_length] at hix
    refine EndN.det trivial (Wk.of_eq ?_)
    rw [hix]
    rfl
end Go.Proofs.YtjflngchbeegcaaGreatDoor
/-! text V13z -/
namespace Go.Proofs.YtjflngchbeegcaaGreatDoor
open Go.Vsi
set_option maxHeartbeats 1000000
attribute [local irreducible] VW VCall VO bits

/-! ### a loop over the steps of a trace -/
abbrev rdy (n0 : Nat) (bk : RE) (N : FN) (ps : Array Tmp) (assign body : Code) : Blk := .loop .ready none (trE n0 bk) ⟨N.n, ps, assign, body⟩
abbrev dne (n0 : Nat) (bk : RE) (N : FN) (ps : Array Tmp) (assign body : Code) (jp : Option Code) : Blk := .loop .done jp (trE n0 bk) ⟨N.n, ps, assign, body⟩
abbrev rndW (n0 k : Nat) (bk : RE) (N : FN) (ps : Array Tmp) (assign body : Code) (H : Heap) (x : Nat) (R : AV → Heap → Prop) : Prop :=
  wpC Tryz.prog Tryz.kn Tryz.T ⟨N.n, some (n0 + k)⟩ H.length assign (fun e top bot base k' loc => match e with
      | .normal => RndB Tryz.prog Tryz.kn Tryz.T H (n0 + k) (trE n0 bk) ⟨N.n, ps, assign, body⟩ R top bot base k' loc
      | _ => False) (parRE ps.toList [.int .i64 x] (reB n0 bk)) [] H 0 []

theorem range_steps (t : Tr) (ht : t.Ok) {N : FN} {n0 : Nat} {ps : Array Tmp} {assign body : Code} {Q : QR} {top bot : RE} {base : Heap} {k : Nat} {loc : Heap}
    (hbase : base.length = n0) (hcl : Closed base) (hN : N.r = none) (ts : List Nat) (bk : RE) (hbk : pickO ts top bot = some bk)
    (hps : ∀ p ∈ ps.toList, p < N.n) (hps1 : ps.size = 1)
    (K : Nat) (p : Nat → Nat) (step : ∀ j, j < K → p (j + 1) = posN t.n t.lp (p j + 1)) (small : ∀ j, p j < 5) (im ip : Nat)
    (ls lm : Nat → Heap) (le : Heap) (jp : Code) (h0 : loc = ls 0)
    (lens : ∀ j, j ≤ K → (ls j).length = k) (lenm : ∀ j, j < K → (lm j).length = k) (lene : le.length = k)
    (him : ∀ j, j < K → lget (lm j) im = some (.box 27 t.cells)) (hip : ∀ j, j < K → lget (lm j) ip = some (.box 3 [.int .i64 (p j)])) (his : ∀ j, j ≤ K → lget (ls j) ip = some (.box 3 [.int .i64 (p j)]))
    (hset : ∀ j, j < K → (lm j).set ip (.box 3 [.int .i64 (p (j + 1))]) = ls (j + 1))
    (bls : ∀ j, j ≤ K → ∀ B ∈ ls j, B.below (n0 + (k + 1))) (ble : ∀ B ∈ le, B.below (n0 + (k + 1))) (bbk : belowRE n0 (n0 + (k + 1)) bk)
    (hyt : ∀ j, j < K → rndW n0 k bk N ps assign body (base ++ (ls j ++ [rdy n0 bk N ps assign body])) (p j) (fun r H' => r = .bool true ∧ H' = base ++ (lm j ++ [rdy n0 bk N ps assign body])))
    (hyf : rndW n0 k bk N ps assign body (base ++ (ls K ++ [rdy n0 bk N ps assign body])) (p K) (fun r H' => r = .bool false ∧ H' = base ++ (le ++ [dne n0 bk N ps assign body (some jp)])))
    (hQ : jumpN Q top bot base (k + 1) (le ++ [.dead]) (some jp)) :
    RangeN Tryz.prog N n0 89 [] [.ptr (n0 + ip) 0, .ptr (n0 + im) 0] ps assign body Q top bot base k loc := by
  subst hbase h0
  have hloopb : ∀ st jp, (Blk.loop st jp (trE base.length bk) ⟨N.n, ps, assign, body⟩).below (base.length + (k + 1)) := fun _ _ => get_below bbk
  have hk0 : (ls 0).length = k := lens 0 (Nat.zero_le _)
  have hlen : ∀ j B, j ≤ K → (base ++ (ls j ++ [B])).length = base.length + (k + 1) := fun j B hj => by simp [lens j hj]
  have hiK : ∀ j, j ≤ K → (base ++ (ls j ++ [rdy base.length bk N ps assign body]))[base.length + k]? = some (rdy base.length bk N ps assign body) := fun j hj => by
    rw [List.getElem?_append_right (by omega), Nat.add_sub_cancel_left, List.getElem?_append_right (by rw [lens j hj]; exact Nat.le_refl _), lens j hj, Nat.sub_self]
    rfl
  have hyY : ∀ j R, j ≤ K → rndW base.length k bk N ps assign body (base ++ (ls j ++ [rdy base.length bk N ps assign body])) (p j) R → VYield Tryz.prog (base.length + k) [.int .i64 (p j)] (base ++ (ls j ++ [rdy base.length bk N ps assign body])) R := fun j R hj h =>
    round_R Tryz.E0 Tryz.mx (hiK j hj) hps (by simp [hps1]) h
  have hit := iter_c t ht K (base.length + (k + 1)) p (fun j => base ++ (ls j ++ [rdy base.length bk N ps assign body])) (fun j => base ++ (lm j ++ [rdy base.length bk N ps assign body])) (base.length + ip) (base.length + im) (base.length + k)
    { hp := fun j hj => at_loc0 (by rw [lget_eq] at *; rw [List.getElem?_append_left (List.getElem?_eq_some_iff.1 (lget_eq .. ▸ his j hj)).1]; exact lget_eq .. ▸ his j hj)
      hm := fun j hj => at_loc0 (by rw [lget_eq]; rw [List.getElem?_append_left (List.getElem?_eq_some_iff.1 (lget_eq .. ▸ him j hj)).1]; exact lget_eq .. ▸ him j hj)
      hmp := fun j hj => at_loc0 (by rw [lget_eq]; rw [List.getElem?_append_left (List.getElem?_eq_some_iff.1 (lget_eq .. ▸ hip j hj)).1]; exact lget_eq .. ▸ hip j hj)
      hset := fun j hj => by
        rw [set_loc', List.set_append_left _ _ (List.getElem?_eq_some_iff.1 (lget_eq .. ▸ hip j hj)).1, hset j hj]
      step := step
      cl := fun j hj => closed_loc hcl fun B hB => by
        rw [hlen j _ hj]
        rcases List.mem_append.1 hB with h | h
        · exact bls j hj B h
        · simp only [List.mem_singleton] at h; subst h; exact hloopb _ _
      len := fun j hj => hlen j _ hj
      lenm := fun j hj => by simp [lenm j hj]
      small := small }
    (base ++ (le ++ [dne base.length bk N ps assign body (some jp)])) (by simp [lene])
    (low_loc fun B hB => by
      rw [hlen 0 _ (Nat.zero_le _)]
      rcases List.mem_append.1 hB with h | h
      · exact ble B h
      · simp only [List.mem_singleton] at h; subst h; exact hloopb _ _)
    (fun j hj => by simp only [List.append_nil]; exact hyY j _ (by omega) (hyt j hj))
    (by simp only [List.append_nil]; exact hyY K _ (Nat.le_refl _) hyf)
  refine .mk ⟨(fun i hi => by rw [hN] at hi; cases hi), ts, bk, (fun _ H' => H' = base ++ (le ++ [dne base.length bk N ps assign body (some jp)])), hbk, ?_, ?_⟩
  · rw [List.append_assoc]
    exact hit
  · rintro r H' rfl
    refine ⟨base, k + 1, le ++ [dne base.length bk N ps assign body (some jp)], .done, some jp, le ++ [.dead], rfl, by simp [lene], rfl, ?_, by simp, ?_, hQ⟩
    · rw [lget_eq, List.getElem?_append_right (by omega), lene, Nat.sub_self]; rfl
    · rw [lset_some (by simp [lene])]
      rw [List.set_append_right _ _ (by omega), lene, Nat.sub_self]
      rfl
end Go.Proofs.YtjflngchbeegcaaGreatDoor
/-! text W13z -/
namespace Go.Proofs.YtjflngchbeegcaaGreatDoor
open Go.Vsi
set_option maxHeartbeats 1000000
attribute [local irreducible] VW VCall VO bits
/-! ### trace.Suffix -/
def pth (n lp p0 : Nat) : Nat → Nat
  | 0 => p0
  | j + 1 => posN n lp (pth n lp p0 j + 1)
def olds (n lp p0 : Nat) : Nat → List Nat
  | 0 => []
  | j + 1 => olds n lp p0 j ++ [pth n lp p0 j]
theorem olds_len (n lp p0 : Nat) : ∀ j, (olds n lp p0 j).length = j
  | 0 => rfl
  | j + 1 => by simp [olds, olds_len n lp p0 j]
theorem olds_get (n lp p0 : Nat) : ∀ {j i : Nat}, i < j → (olds n lp p0 j).getD i 0 = pth n lp p0 i
  | j + 1, i, h => by
    simp only [olds]
    rcases Nat.lt_or_ge i j with h2 | h2
    · have := olds_get n lp p0 h2
      simp only [List.getD_eq_getElem?_getD] at this ⊢
      rw [List.getElem?_append_left (by rw [olds_len]; exact h2)]
      exact this
    · have : i = j := by omega
      subst this
      simp only [List.getD_eq_getElem?_getD]
      rw [List.getElem?_append_right (by rw [olds_len]; exact Nat.le_refl _), olds_len, Nat.sub_self]
      rfl
def cel (n lp p0 j : Nat) : List AV := (olds n lp p0 j).flatMap encN
theorem cel_succ (n lp p0 j : Nat) : cel n lp p0 j ++ [.int .i64 (pth n lp p0 j : Nat)] = cel n lp p0 (j + 1) := by
  simp [cel, olds, encN]
def sufK (n lp p0 : Nat) : Nat := n - min p0 lp
def sufI (lp p0 : Nat) : Nat := lp - p0
theorem suf_chk : ((List.range 6).all fun n => (List.range n).all fun lp => (List.range n).all fun p0 => (List.range (sufK n lp p0)).all (fun j => decide (ixF (pth n lp p0 j) (olds n lp p0 j) 0 = -1)) && decide (ixF (pth n lp p0 (sufK n lp p0)) (olds n lp p0 (sufK n lp p0)) 0 = sufI lp p0)) = true := by kernel_rfl
theorem suf_get {n lp p0 : Nat} (hn : n ≤ 5) (hl : lp < n) (hp : p0 < n) : (∀ j, j < sufK n lp p0 → ixF (pth n lp p0 j) (olds n lp p0 j) 0 = -1) ∧ ixF (pth n lp p0 (sufK n lp p0)) (olds n lp p0 (sufK n lp p0)) 0 = sufI lp p0 := by
  have h := suf_chk
  rw [List.all_eq_true] at h
  have h1 := h n (List.mem_range.2 (by omega))
  rw [List.all_eq_true] at h1
  have h2 := h1 lp (List.mem_range.2 hl)
  rw [List.all_eq_true] at h2
  have h3 := h2 p0 (List.mem_range.2 hp)
  simp only [Bool.and_eq_true, decide_eq_true_eq] at h3
  refine ⟨fun j hj => ?_, h3.2⟩
  have h4 := h3.1
  rw [List.all_eq_true] at h4
  simpa using h4 j (List.mem_range.2 hj)
theorem pth_lt {n lp p0 : Nat} (hl : lp < n) (hp : p0 < n) : ∀ j, pth n lp p0 j < n
  | 0 => hp
  | _ + 1 => posN_lt hl
def blk7 (tc a : List AV) (n0 : Nat) (cl : List AV) (j p : Nat) : Heap := [.box 27 tc, .box 27 a, .box 33 [.int .i64 0], .box 22 [.sl (some (n0 + 6)) j cl], .box 27 tc, .box 3 [.int .i64 p], .tok 3 1 cl.length]
theorem blk7_below {tc a : List AV} {n0 : Nat} {cl : List AV} {j p : Nat} (h1 : ∀ m, belowL m tc) (h2 : ∀ m, belowL m a) (h3 : ∀ m, belowL m cl) : ∀ B ∈ blk7 tc a n0 cl j p, B.below (n0 + (7 + 1)) := by
  intro B hB
  simp only [blk7, List.mem_cons, List.not_mem_nil, or_false] at hB
  rcases hB with rfl | rfl | rfl | rfl | rfl | rfl | rfl
  · exact h1 _
  · exact h2 _
  · exact ⟨trivial, trivial⟩
  · exact ⟨⟨fun t ht => by cases ht; omega, h3 _⟩, trivial⟩
  · exact h1 _
  · exact ⟨trivial, trivial⟩
  · trivial
def zm : List AV := [.int .u8 0, .int .i64 0, .nils, .int .i64 0, .nils, .nils, .nils]
theorem cel_below (n lp p0 j m : Nat) : belowL m (cel n lp p0 j) := encN_below m _
def sufT (t : Tr) (x : Nat) : Tr := takenT t (olds t.n t.lp (posN t.n t.lp x) (sufK t.n t.lp (posN t.n t.lp x))) (sufI t.lp (posN t.n t.lp x))
theorem Suffix_c (t : Tr) (ht : t.Ok) (x : Nat) (hx : x < 9223372036854775808) (H : Heap) : VDet Tryz.prog 37 [.agg t.cells, .int .i64 x] H (.tup [.agg (sufT t x).cells, .int .i64 0]) := by
  have hv := fun H => valid_t ht H
  have hp := fun H => position_c t ht x hx H
  have hq0 := posN_lt (x := x) ht.lp
  unfold sufT
  generalize posN t.n t.lp x = p0 at hp hq0 ⊢
  have hst := fun H => steps_c t p0 H
  obtain ⟨hno, hyes⟩ := suf_get ht.n5 ht.lp hq0
  have hk5 : sufK t.n t.lp p0 ≤ 5 := by unfold sufK; have := ht.n5; omega
  have hsm : ∀ j, pth t.n t.lp p0 j < 5 := fun j => Nat.lt_of_lt_of_le (pth_lt ht.lp hq0 j) ht.n5
  have hix : ∀ j H, j ≤ 5 → VDet Tryz.prog 83 [.sl none j (cel t.n t.lp p0 j), .int .i64 (pth t.n t.lp p0 j : Nat)] H (.int .i64 (ixF (pth t.n t.lp p0 j) (olds t.n t.lp p0 j) 0)) := fun j H hj => by
    have := index_c (olds t.n t.lp p0 j) (pth t.n t.lp p0 j) (by rw [olds_len]; omega) H
    rwa [olds_len] at this
  have htk : ∀ H, VDet Tryz.prog 46 [.agg t.cells, .sl none (sufK t.n t.lp p0) (cel t.n t.lp p0 (sufK t.n t.lp p0)), .int .i64 (sufI t.lp p0 : Nat)] H (.agg (takenT t (olds t.n t.lp p0 (sufK t.n t.lp p0)) (sufI t.lp p0)).cells) := fun H => by
    have := taken_c t ht (olds t.n t.lp p0 (sufK t.n t.lp p0)) (sufI t.lp p0) (by rw [olds_len]; exact hk5) (fun i hi => by
      rw [olds_len] at hi
      rw [olds_get _ _ _ hi]
      exact hsm i) H
    rwa [olds_len] at this
  have hix2 := fun H => hix (sufK t.n t.lp p0) H hk5
  have hst5 : VCall Tryz.prog 45 [.agg t.cells, .int .i64 p0] (H ++ [.box 27 t.cells, .box 27 [.int .u8 0, .int .i64 0, .nils, .int .i64 0, .nils, .nils, .nils], .box 33 [.int .i64 0], .box 22 [.nils]]) (fun r H' => r = .clo (.func 89) [] [.ptr (H.length + 5) 0, .ptr (H.length + 4) 0] ∧ H' = (H ++ [.box 27 t.cells, .box 27 [.int .u8 0, .int .i64 0, .nils, .int .i64 0, .nils, .nils, .nils], .box 33 [.int .i64 0], .box 22 [.nils]]) ++ [.box 27 t.cells, .box 3 [.int .i64 p0]]) := by
    have := steps_c t p0 (H ++ [.box 27 t.cells, .box 27 [.int .u8 0, .int .i64 0, .nils, .int .i64 0, .nils, .nils, .nils], .box 33 [.int .i64 0], .box 22 [.nils]])
    rw [List.length_append] at this
    exact this
  generalize hcs : t.cells = tc at hv hp hst5 htk ⊢
  have hbt : ∀ m, belowL m tc := fun m => by rw [← hcs]; simp [Tr.cells, below, belowL, encT_below]
  have hl7 : tc = [.int .u8 5, .int .i64 t.n, .sl none 0 [], .int .i64 t.lp, .sl none t.fs.length (t.fs.flatMap encT), .sl none 0 [], .sl none 0 []] := hcs.symm
  generalize takenT t (olds t.n t.lp p0 (sufK t.n t.lp p0)) (sufI t.lp p0) = R at htk ⊢
  have hbr : ∀ m, belowL m R.cells := fun m => by simp [Tr.cells, below, belowL, encT_below]
  rw [show R.cells = [.int .u8 5, .int .i64 R.n, .sl none 0 [], .int .i64 R.lp, .sl none R.fs.length (R.fs.flatMap encT), .sl none 0 [], .sl none 0 []] from rfl] at htk ⊢
  subst hl7
  refine fn_det Tryz.E0 Tryz.mx Tryz.func37 (by kernel_rfl) rfl (Nat.le_of_ble_eq_true rfl) rfl fun hcl hbl => ?_
  (repeat' ((conv => whnf); (first | (refine IfN.id ?_; first | refine IfN.not ?_ | refine IfN.tt rfl ?_ | refine IfN.ff rfl ?_ | fail) | (refine SideN.mk ?_ ?_; · first | kernel_rfl | omega | exact List.cons_ne_nil _ _ | (simp; done) | (simp; omega) | exact trivial | assumption | fail) | (refine CallN.id ?_; first | refine CallN.det _ (hv _) ?_ | fail) | (refine CallD.id ?_; first | refine CallD.det _ (fun _ hq X => hp _) ?_ | fail) | refine CallD.grow _ _ _ 6 hst5 rfl rfl rfl ?_ | refine DrawN.mk' [] ?_ | fail))); all_goals (conv => whnf)
  refine RangeN.tokB 3 0 3 1 rfl rfl rfl rfl rfl ?_
  refine range_steps t ht rfl hcl rfl [2, 4, 5, 6] _ rfl (by simp) rfl (sufK t.n t.lp p0) (pth t.n t.lp p0) (fun _ _ => rfl) hsm 4 5
    (fun j => blk7 _ zm H.length (cel t.n t.lp p0 j) j (pth t.n t.lp p0 j)) (fun j => blk7 _ zm H.length (cel t.n t.lp p0 (j + 1)) (j + 1) (pth t.n t.lp p0 j)) (blk7 _ R.cells H.length (cel t.n t.lp p0 (sufK t.n t.lp p0)) (sufK t.n t.lp p0) (pth t.n t.lp p0 (sufK t.n t.lp p0))) .ret rfl
    (fun _ _ => rfl) (fun _ _ => rfl) rfl (fun _ _ => rfl) (fun _ _ => rfl) (fun _ _ => rfl) (fun _ _ => rfl)
    (fun _ _ => blk7_below hbt (fun m => by simp [zm, belowL, below]) (cel_below _ _ _ _)) (blk7_below hbt hbr (cel_below _ _ _ _)) (by simp [belowRE, below, tr]) ?_ ?_ ?_
  · intro j hj
    have hj5 : j ≤ 5 := by omega
    have hixj := hix j
    rw [hno j hj] at hixj
    (repeat' ((conv => whnf); (first | refine DrawN.mk' [] ?_ | fail))); all_goals (conv => whnf)
    refine ⟨none, _, at_loc0 rfl, set_loc', ?_⟩
    (repeat' ((conv => whnf); (first | refine SetN.mk _ set_loc' ?_ | (refine IfN.id ?_; first | refine IfN.ff rfl ?_ | fail) | (refine CallN.id ?_; first | refine CallN.det _ (VDet.wk (hixj _ hj5) (by (repeat' (first | exact trivial | refine And.intro ?_ ?_ | exact Wk.refl _ | exact wk_sl _ _ _ | exact wk_sx _ _ | exact wk_nils | refine wk_agg ?_ | refine wk_tup ?_ | fail)); done)) ?_ | fail) | refine SideN.mk ⟨rfl, rfl, rfl, by dsimp only; omega, by simp only [maxLen]; omega⟩ ?_ | (refine PtrN.id ?_; first | refine PtrN.base _ (by (repeat' (first | assumption | exact at_loc' _ rfl | exact at_loc0 rfl | refine at_set (B' := ?_) ?_ | refine at_base' ?_ | fail))) ?_ | fail) | refine DrawN.mk' [] ?_ | fail))); all_goals (conv => whnf)
    refine ⟨none, none, true, .ready, _, .normal, at_loc0 rfl, ?_, ?_, low_loc (fun B hB => ?_), rfl, rfl⟩
    · rw [set_loc', ← cel_succ]
      rfl
    · simp only [List.length_append, List.length_set]
    · rcases List.mem_append.1 hB with h | h
      · exact Blk.below_mono (Nat.le_of_eq (by simp [blk7])) (blk7_below hbt (fun m => by simp [zm, belowL, below]) (cel_below _ _ _ _) B h)
      · simp only [List.mem_singleton] at h
        subst h
        exact get_below (by simp [belowRE, below, tr, blk7])
  · rw [hyes] at hix2
    (repeat' ((conv => whnf); (first | refine DrawN.mk' [] ?_ | fail))); all_goals (conv => whnf)
    refine ⟨none, _, at_loc0 rfl, set_loc', ?_⟩
    (repeat' ((conv => whnf); (first | refine SetN.mk _ set_loc' ?_ | (refine IfN.id ?_; first | refine IfN.tt rfl ?_ | fail) | (refine CallN.id ?_; first | refine CallN.det _ (VDet.wk (hix2 _) (by (repeat' (first | exact trivial | refine And.intro ?_ ?_ | exact Wk.refl _ | exact wk_sl _ _ _ | exact wk_sx _ _ | exact wk_nils | refine wk_agg ?_ | refine wk_tup ?_ | fail)); done)) ?_ | refine CallN.det _ (VDet.wk (htk _) (by (repeat' (first | exact trivial | refine And.intro ?_ ?_ | exact Wk.refl _ | exact wk_sl _ _ _ | exact wk_sx _ _ | exact wk_nils | refine wk_agg ?_ | refine wk_tup ?_ | fail)); done)) ?_ | fail) | (refine PtrN.id ?_; first | refine PtrN.base _ (by (repeat' (first | assumption | exact at_loc' _ rfl | exact at_loc0 rfl | refine at_set (B' := ?_) ?_ | refine at_base' ?_ | fail))) ?_ | fail) | refine DrawN.mk' [] ?_ | fail))); all_goals (conv => whnf)
    refine ⟨none, some .ret, false, .done, _, .ret, at_loc0 rfl, ?_, ?_, low_loc (fun B hB => ?_), rfl, rfl⟩
    · rw [set_loc']
      rfl
    · simp only [List.length_append, List.length_set]
    · rcases List.mem_append.1 hB with h | h
      · exact Blk.below_mono (Nat.le_of_eq (by simp [blk7])) (blk7_below hbt hbr (cel_below _ _ _ _) B h)
      · simp only [List.mem_singleton] at h
        subst h
        exact get_below (by simp [belowRE, below, tr, blk7])
  · (repeat' ((conv => whnf); (first | refine DrawN.mk' [] ?_ | fail))); all_goals (conv => whnf)
    exact EndN.det (by simp [below, belowL, encT_below]) (Wk.refl _)
end Go.Proofs.YtjflngchbeegcaaGreatDoor
/-! text X13z -/
namespace Go.Proofs.YtjflngchbeegcaaGreatDoor
open Go.Vsi
set_option maxHeartbeats 1000000
attribute [local irreducible] VW VCall VO bits
/-! ### trace.Short -/
theorem taken_ok {t : Tr} (ht : t.Ok) (old : List Nat) (lp : Nat) (h1 : 1 ≤ old.length) (h5 : old.length ≤ 5) (hl : lp < old.length) : (takenT t old lp).Ok := by
  have hg : ∀ i, ft (t.fs.map (tkF old)) i = if i < t.fs.length then tkF old (ft t.fs i) else (0, 0) := fun i => by
    unfold ft
    by_cases hi : i < t.fs.length
    · simp [hi]
    · simp [hi]
  refine ⟨h1, h5, hl, by simpa [takenT] using ht.len, fun i hi => ?_, fun i hi => ?_, fun i hi => ?_⟩
  · have hi' : i < t.fs.length := by simpa [takenT] using hi
    simp only [takenT]
    rw [hg, if_pos hi']
    exact ht.cap i hi'
  · have hi' : i + 1 < t.fs.length := by simpa [takenT] using hi
    simp only [takenT]
    rw [hg, if_pos (by omega), hg, if_pos hi']
    exact ht.inc i hi'
  · have hi' : i < t.fs.length := by simpa [takenT] using hi
    simp only [takenT]
    rw [hg, if_pos hi']
    exact tkK_lt _ _ _
def shT (t : Tr) (j x : Nat) : Tr := takenT t (olds t.n t.lp 0 (j + 1)) x
def shB (t : Tr) (j x : Nat) : Bool := sameB (shT t j x) t
theorem Short_c (t : Tr) (ht : t.Ok) (K L : Nat) (hK : K < t.n) (hL : L ≤ K) (hno : ∀ j, j < K → ∀ x, x ≤ j → shB t j x = false) (hno2 : ∀ x, x < L → shB t K x = false) (hyes : shB t K L = true) (H : Heap) :
    VDet Tryz.prog 11 [.agg t.cells] H (.tup [.agg (shT t K L).cells, .int .i64 0]) := by
  have hv := fun H => valid_t ht H
  have h5 := ht.n5
  have hq0 : 0 < t.n := by have := ht.n1; omega
  have hsm : ∀ j, pth t.n t.lp 0 j < 5 := fun j => Nat.lt_of_lt_of_le (pth_lt ht.lp hq0 j) ht.n5
  have htk : ∀ (j x : Nat) H, j ≤ 4 → VDet Tryz.prog 46 [.agg t.cells, .sl none (j + 1) (cel t.n t.lp 0 (j + 1)), .int .i64 x] H (.agg (shT t j x).cells) := fun j x H hj => by
    have := taken_c t ht (olds t.n t.lp 0 (j + 1)) x (by rw [olds_len]; omega) (fun i hi => by
      rw [olds_len] at hi
      rw [olds_get _ _ _ hi]
      exact hsm i) H
    rwa [olds_len] at this
  have hsa : ∀ (j x : Nat) H, j ≤ 4 → x ≤ j → VDet Tryz.prog 44 [.agg (shT t j x).cells, .agg t.cells] H (.bool (shB t j x)) := fun j x H hj hx =>
    same_c _ _ (taken_ok ht _ _ (by rw [olds_len]; omega) (by rw [olds_len]; omega) (by rw [olds_len]; omega)) ht H
  have hst5 : VCall Tryz.prog 45 [.agg t.cells, .int .i64 (0 : Nat)] (H ++ [.box 27 t.cells, .box 27 [.int .u8 0, .int .i64 0, .nils, .int .i64 0, .nils, .nils, .nils], .box 33 [.int .i64 0], .box 22 [.nils]]) (fun r H' => r = .clo (.func 89) [] [.ptr (H.length + 5) 0, .ptr (H.length + 4) 0] ∧ H' = (H ++ [.box 27 t.cells, .box 27 [.int .u8 0, .int .i64 0, .nils, .int .i64 0, .nils, .nils, .nils], .box 33 [.int .i64 0], .box 22 [.nils]]) ++ [.box 27 t.cells, .box 3 [.int .i64 (0 : Nat)]]) := by
    have := steps_c t 0 (H ++ [.box 27 t.cells, .box 27 [.int .u8 0, .int .i64 0, .nils, .int .i64 0, .nils, .nils, .nils], .box 33 [.int .i64 0], .box 22 [.nils]])
    rw [List.length_append] at this
    exact this
  generalize hcs : t.cells = tc at hv hst5 htk hsa ⊢
  have hbt : ∀ m, belowL m tc := fun m => by rw [← hcs]; simp [Tr.cells, below, belowL, encT_below]
  have hl7 : tc = [.int .u8 5, .int .i64 t.n, .sl none 0 [], .int .i64 t.lp, .sl none t.fs.length (t.fs.flatMap encT), .sl none 0 [], .sl none 0 []] := hcs.symm
  generalize shB t = B at hno hno2 hyes hsa
  generalize shT t = R at htk hsa ⊢
  have hbr : ∀ m, belowL m (R K L).cells := fun m => by simp [Tr.cells, below, belowL, encT_below]
  have hrc : ∀ j x, (R j x).cells = [.int .u8 5, .int .i64 (R j x).n, .sl none 0 [], .int .i64 (R j x).lp, .sl none (R j x).fs.length ((R j x).fs.flatMap encT), .sl none 0 [], .sl none 0 []] := fun _ _ => rfl
  simp only [hrc] at htk hsa ⊢
  subst hl7
  refine fn_det Tryz.E0 Tryz.mx Tryz.func11 (by kernel_rfl) rfl (Nat.le_of_ble_eq_true rfl) rfl fun hcl hbl => ?_
  (repeat' ((conv => whnf); (first | (refine IfN.id ?_; first | refine IfN.not ?_ | refine IfN.tt rfl ?_ | fail) | (refine CallN.id ?_; first | refine CallN.det _ (hv _) ?_ | fail) | refine CallN.grow _ _ _ 6 hst5 rfl rfl rfl ?_ | refine DrawN.mk' [] ?_ | fail))); all_goals (conv => whnf)
  refine RangeN.tokB 3 0 3 1 rfl rfl rfl rfl rfl ?_
  refine range_steps t ht rfl hcl rfl [1, 2, 3, 4] _ rfl (by simp) rfl K (pth t.n t.lp 0) (fun _ _ => rfl) hsm 4 5
    (fun j => blk7 _ zm H.length (cel t.n t.lp 0 j) j (pth t.n t.lp 0 j)) (fun j => blk7 _ zm H.length (cel t.n t.lp 0 (j + 1)) (j + 1) (pth t.n t.lp 0 j)) (blk7 _ (R K L).cells H.length (cel t.n t.lp 0 (K + 1)) (K + 1) (pth t.n t.lp 0 K)) .ret rfl
    (fun _ _ => rfl) (fun _ _ => rfl) rfl (fun _ _ => rfl) (fun _ _ => rfl) (fun _ _ => rfl) (fun _ _ => rfl)
    (fun _ _ => blk7_below hbt (fun m => by simp [zm, belowL, below]) (cel_below _ _ _ _)) (blk7_below hbt hbr (cel_below _ _ _ _)) (by simp [belowRE, below, tr]) ?_ ?_ ?_
  · intro j hj
    (repeat' ((conv => whnf); (first | refine DrawN.mk' [] ?_ | fail))); all_goals (conv => whnf)
    refine ⟨none, _, at_loc0 rfl, set_loc', ?_⟩
    (repeat' ((conv => whnf); (first | refine SetN.mk _ set_loc' ?_ | refine SideN.mk ⟨rfl, rfl, rfl, by dsimp only; omega, by simp only [maxLen]; omega⟩ ?_ | (refine PtrN.id ?_; first | refine PtrN.base _ (by (repeat' (first | assumption | exact at_loc' _ rfl | exact at_loc0 rfl | refine at_set (B' := ?_) ?_ | refine at_base' ?_ | fail))) ?_ | fail) | refine DrawN.mk' [] ?_ | fail))); all_goals (conv => whnf)
    refine LoopN.base_eq (H ++ (blk7 _ zm H.length (cel t.n t.lp 0 (j + 1)) (j + 1) (pth t.n t.lp 0 j) ++ [_])) (by rw [← cel_succ]; rfl) ?_
    refine loop_R Tryz.E0 Tryz.mx (σ := Nat) (fun x => x ≤ j + 1) (fun x => j + 1 - x) (fun x => [(21, .v (.int .i64 x))]) (fun _ => []) _ 0 (by simp [blk7]) (closed_loc hcl fun C hC => ?_) [1, 2, 3, 4, 20] rfl (Nat.zero_le _) ⟨⟨_, rfl, Wk.refl _⟩, trivial⟩ rfl (fun _ _ => rfl) ?_
    · rcases List.mem_append.1 hC with h | h
      · exact Blk.below_mono (Nat.le_of_eq (by simp [blk7])) (blk7_below hbt (fun m => by simp [zm, belowL, below]) (cel_below _ _ _ _) C h)
      · simp only [List.mem_singleton] at h
        subst h
        exact get_below (by simp [belowRE, below, tr, blk7])
    · intro x hx
      have hB : x ≤ j → B j x = false := hno j hj x
      have h1 := htk j x
      have h2 : ∀ H, x ≤ j → VDet Tryz.prog 44 _ H (.bool (B j x)) := fun H h => hsa j x H (by omega) h
      (repeat' ((conv => whnf); (first | (refine IfN.id ?_; first | refine IfN.ff (hB (by omega)) ?_ | refine IfN.dF (by omega) ?_ | refine IfN.dec (fun _ => ?_) (fun _ => ?_) | fail) | (refine EqN.id ?_; first | (refine EqN.addN _ _ (by first | with_reducible rfl | with_reducible exact cst1 | with_reducible exact cst0 | with_reducible exact cst2 | with_reducible exact cst3 | with_reducible exact cst4 | with_reducible exact cst5 | with_reducible exact cst6 | with_reducible exact cst7 | with_reducible exact cst8 | with_reducible exact cst14 | with_reducible exact cst15 | with_reducible exact cst25 | with_reducible exact cst30 | with_reducible exact cst31 | fail) (by first | with_reducible rfl | with_reducible exact cst1 | with_reducible exact cst0 | with_reducible exact cst2 | with_reducible exact cst3 | with_reducible exact cst4 | with_reducible exact cst5 | with_reducible exact cst6 | with_reducible exact cst7 | with_reducible exact cst8 | with_reducible exact cst14 | with_reducible exact cst15 | with_reducible exact cst25 | with_reducible exact cst30 | with_reducible exact cst31 | fail) ?_ ?_; · (repeat' (first | omega | refine And.intro ?_ ?_ | exact bnd_andl (by omega) | exact bnd_andr (by omega) | refine bnd_or ?_ ?_ | refine bnd_or31 ?_ ?_ | refine bnd_xor ?_ ?_ | refine bnd_xor31 ?_ ?_ | refine bnd_shr ?_ | refine bnd_shl ?_ ?_ | refine bnd_mod ?_ | refine bnd_andl ?_ | fail))) | fail) | (refine CallN.id ?_; first | refine CallN.det _ (VDet.wk (h1 _ (by omega)) (by (repeat' (first | exact trivial | refine And.intro ?_ ?_ | exact Wk.refl _ | exact wk_sl _ _ _ | exact wk_sx _ _ | exact wk_nils | refine wk_agg ?_ | refine wk_tup ?_ | fail)); done)) ?_ | refine CallN.det _ (hsa j x _ (by omega) (by omega)) ?_ | fail) | (refine PtrN.id ?_; first | refine PtrN.base _ (by (repeat' (first | assumption | exact at_loc' _ rfl | exact at_loc0 rfl | refine at_set (B' := ?_) ?_ | refine at_base' ?_ | fail))) ?_ | fail) | refine DrawN.mk' [] ?_ | fail))); all_goals (conv => whnf)
      · (refine ⟨⟨x + 1, by omega, by omega, ?_, .inl ⟨rfl, rfl⟩, rfl, _, rfl, ?_⟩⟩; rotate_left 1; (first | exact .inl rfl | exact .inr ⟨by simp [belowRE, below, belowL, tr, encT_below, encN_below], by simp [belowH, Blk.below, belowL, below, encT_below, encN_below]⟩ | fail); (repeat' (first | exact trivial | refine ⟨⟨_, rfl, ?_⟩, ?_⟩ | fail)); all_goals try (first | exact Wk.refl _ | exact Wk.of_eq (congrArg (AV.int _) (by omega)) | fail))
      · refine ⟨none, none, true, .ready, _, .normal, at_loc0 rfl, ?_, ?_, low_loc (fun C hC => ?_), rfl, rfl⟩
        · rw [set_loc']
          rfl
        · simp [blk7]
        · rcases List.mem_append.1 hC with h | h
          · exact Blk.below_mono (Nat.le_of_eq (by simp [blk7])) (blk7_below hbt (fun m => by simp [zm, belowL, below]) (cel_below _ _ _ _) C h)
          · simp only [List.mem_singleton] at h
            subst h
            exact get_below (by simp [belowRE, below, tr, blk7])
  · (repeat' ((conv => whnf); (first | refine DrawN.mk' [] ?_ | fail))); all_goals (conv => whnf)
    refine ⟨none, _, at_loc0 rfl, set_loc', ?_⟩
    (repeat' ((conv => whnf); (first | refine SetN.mk _ set_loc' ?_ | refine SideN.mk ⟨rfl, rfl, rfl, by dsimp only; omega, by simp only [maxLen]; omega⟩ ?_ | (refine PtrN.id ?_; first | refine PtrN.base _ (by (repeat' (first | assumption | exact at_loc' _ rfl | exact at_loc0 rfl | refine at_set (B' := ?_) ?_ | refine at_base' ?_ | fail))) ?_ | fail) | refine DrawN.mk' [] ?_ | fail))); all_goals (conv => whnf)
    refine LoopN.base_eq (H ++ (blk7 _ zm H.length (cel t.n t.lp 0 (K + 1)) (K + 1) (pth t.n t.lp 0 K) ++ [_])) (by rw [← cel_succ]; rfl) ?_
    refine loop_R Tryz.E0 Tryz.mx (σ := Nat) (fun x => x ≤ L) (fun x => L - x) (fun x => [(21, .v (.int .i64 x))]) (fun _ => []) _ 0 (by simp [blk7]) (closed_loc hcl fun C hC => ?_) [1, 2, 3, 4, 20] rfl (Nat.zero_le _) ⟨⟨_, rfl, Wk.refl _⟩, trivial⟩ rfl (fun _ _ => rfl) ?_
    · rcases List.mem_append.1 hC with h | h
      · exact Blk.below_mono (Nat.le_of_eq (by simp [blk7])) (blk7_below hbt (fun m => by simp [zm, belowL, below]) (cel_below _ _ _ _) C h)
      · simp only [List.mem_singleton] at h
        subst h
        exact get_below (by simp [belowRE, below, tr, blk7])
    · intro x hx
      have h1 := htk K x
      rcases Nat.lt_or_ge x L with hxL | hxL
      · have hB : B K x = false := hno2 x hxL
        (repeat' ((conv => whnf); (first | (refine IfN.id ?_; first | refine IfN.ff hB ?_ | refine IfN.dT (by omega) ?_ | fail) | (refine EqN.id ?_; first | (refine EqN.addN _ _ (by first | with_reducible rfl | with_reducible exact cst1 | with_reducible exact cst0 | with_reducible exact cst2 | with_reducible exact cst3 | with_reducible exact cst4 | with_reducible exact cst5 | with_reducible exact cst6 | with_reducible exact cst7 | with_reducible exact cst8 | with_reducible exact cst14 | with_reducible exact cst15 | with_reducible exact cst25 | with_reducible exact cst30 | with_reducible exact cst31 | fail) (by first | with_reducible rfl | with_reducible exact cst1 | with_reducible exact cst0 | with_reducible exact cst2 | with_reducible exact cst3 | with_reducible exact cst4 | with_reducible exact cst5 | with_reducible exact cst6 | with_reducible exact cst7 | with_reducible exact cst8 | with_reducible exact cst14 | with_reducible exact cst15 | with_reducible exact cst25 | with_reducible exact cst30 | with_reducible exact cst31 | fail) ?_ ?_; · (repeat' (first | omega | refine And.intro ?_ ?_ | exact bnd_andl (by omega) | exact bnd_andr (by omega) | refine bnd_or ?_ ?_ | refine bnd_or31 ?_ ?_ | refine bnd_xor ?_ ?_ | refine bnd_xor31 ?_ ?_ | refine bnd_shr ?_ | refine bnd_shl ?_ ?_ | refine bnd_mod ?_ | refine bnd_andl ?_ | fail))) | fail) | (refine CallN.id ?_; first | refine CallN.det _ (VDet.wk (h1 _ (by omega)) (by (repeat' (first | exact trivial | refine And.intro ?_ ?_ | exact Wk.refl _ | exact wk_sl _ _ _ | exact wk_sx _ _ | exact wk_nils | refine wk_agg ?_ | refine wk_tup ?_ | fail)); done)) ?_ | refine CallN.det _ (hsa K x _ (by omega) (by omega)) ?_ | fail) | (refine PtrN.id ?_; first | refine PtrN.base _ (by (repeat' (first | assumption | exact at_loc' _ rfl | exact at_loc0 rfl | refine at_set (B' := ?_) ?_ | refine at_base' ?_ | fail))) ?_ | fail) | refine DrawN.mk' [] ?_ | fail))); all_goals (conv => whnf)
        (refine ⟨⟨x + 1, by omega, by omega, ?_, .inl ⟨rfl, rfl⟩, rfl, _, rfl, ?_⟩⟩; rotate_left 1; (first | exact .inl rfl | exact .inr ⟨by simp [belowRE, below, belowL, tr, encT_below, encN_below], by simp [belowH, Blk.below, belowL, below, encT_below, encN_below]⟩ | fail); (repeat' (first | exact trivial | refine ⟨⟨_, rfl, ?_⟩, ?_⟩ | fail)); all_goals try (first | exact Wk.refl _ | exact Wk.of_eq (congrArg (AV.int _) (by omega)) | fail))
      · have hxe : x = L := by omega
        subst hxe
        (repeat' ((conv => whnf); (first | refine SetN.mk _ set_loc' ?_ | (refine IfN.id ?_; first | refine IfN.tt hyes ?_ | refine IfN.dT (by omega) ?_ | fail) | (refine CallN.id ?_; first | refine CallN.det _ (VDet.wk (h1 _ (by omega)) (by (repeat' (first | exact trivial | refine And.intro ?_ ?_ | exact Wk.refl _ | exact wk_sl _ _ _ | exact wk_sx _ _ | exact wk_nils | refine wk_agg ?_ | refine wk_tup ?_ | fail)); done)) ?_ | refine CallN.det _ (hsa K x _ (by omega) (by omega)) ?_ | fail) | (refine PtrN.id ?_; first | refine PtrN.base _ (by (repeat' (first | assumption | exact at_loc' _ rfl | exact at_loc0 rfl | refine at_set (B' := ?_) ?_ | refine at_base' ?_ | fail))) ?_ | fail) | refine DrawN.mk' [] ?_ | fail))); all_goals (conv => whnf)
        refine ⟨none, some .ret, false, .done, _, .ret, at_loc0 rfl, ?_, ?_, low_loc (fun C hC => ?_), rfl, rfl⟩
        · rw [set_loc']
          rfl
        · simp [blk7]
        · rcases List.mem_append.1 hC with h | h
          · exact Blk.below_mono (Nat.le_of_eq (by simp [blk7])) (blk7_below hbt hbr (cel_below _ _ _ _) C h)
          · simp only [List.mem_singleton] at h
            subst h
            exact get_below (by simp [belowRE, below, tr, blk7])
  · (repeat' ((conv => whnf); (first | refine DrawN.mk' [] ?_ | fail))); all_goals (conv => whnf)
    exact EndN.det (by simp [below, belowL, encT_below]) (Wk.refl _)
end Go.Proofs.YtjflngchbeegcaaGreatDoor
/-! text F14z -/
namespace Go.Proofs.YtjflngchbeegcaaGreatDoor
open Go.Vsi

/-! ### positions of times -/
theorem posN_cases (d lp x : Nat) : (posN (lp + d) lp x = x ∧ x < lp + d) ∨ (posN (lp + d) lp x = lp + (x - lp) % d ∧ lp + d ≤ x) := by
  unfold posN
  split
  · exact .inl ⟨rfl, by assumption⟩
  · exact .inr ⟨by rw [Nat.add_sub_cancel_left], by omega⟩
theorem posN_self {n lp x : Nat} (h : x < n) : posN n lp x = x := if_pos h
theorem posN_add {n lp : Nat} (hn : n ≤ 5) (hl : lp < n) (x u : Nat) : posN n lp (posN n lp x + u) = posN n lp (x + u) := by
  obtain ⟨d, hd, rfl⟩ : ∃ d, 1 ≤ d ∧ n = lp + d := ⟨n - lp, by omega, by omega⟩
  have h1 := posN_cases d lp x
  have h2 := posN_cases d lp (x + u)
  have h3 := posN_cases d lp (posN (lp + d) lp x + u)
  have : d = 1 ∨ d = 2 ∨ d = 3 ∨ d = 4 ∨ d = 5 := by omega
  rcases this with rfl | rfl | rfl | rfl | rfl <;> omega
/-! ### bits -/
theorem bit1 (m p : Nat) : (m >>> p) &&& 1 = (m.testBit p).toNat := by
  rw [Nat.and_one_is_mod, Nat.shiftRight_eq_div_pow, Nat.toNat_testBit]
theorem bitTo (b : Bool) (k i : Nat) : (b.toNat <<< k).testBit i = (b && decide (k = i)) := by
  cases b
  · simp
  · simp only [Bool.toNat_true, Nat.shiftLeft_eq, Nat.one_mul, Nat.testBit_two_pow, Bool.true_and]
theorem befK_bit (n lp m i : Nat) : ∀ k, (befK n lp m k).testBit i = (decide (i < k) && m.testBit (posN n lp (i + 1)))
  | 0 => by simp [befK]
  | k + 1 => by
    simp only [befK, Nat.testBit_or, befK_bit n lp m i k, bit1, bitTo]
    rcases Nat.lt_trichotomy i k with h | h | h
    · rw [decide_eq_true h, decide_eq_true (show i < k + 1 by omega), decide_eq_false (show ¬ k = i by omega)]
      simp
    · subst h
      rw [decide_eq_false (show ¬ i < i by omega), decide_eq_true (show i < i + 1 by omega)]
      simp
    · rw [decide_eq_false (show ¬ i < k by omega), decide_eq_false (show ¬ i < k + 1 by omega), decide_eq_false (show ¬ k = i by omega)]
      simp
theorem every_bit (n i : Nat) : (every n).testBit i = decide (i < n) := by
  unfold every
  rw [Nat.shiftLeft_eq, Nat.one_mul, Nat.testBit_two_pow_sub_one]
theorem nt_bit (e a i : Nat) : (nt e a).testBit i = (e.testBit i && !a.testBit i) := by
  unfold nt
  rw [Nat.testBit_xor, Nat.testBit_and]
  cases e.testBit i <;> cases a.testBit i <;> rfl

/-! ### what is true at a time -/
def tm (n lp m x : Nat) : Bool := m.testBit (posN n lp x)
theorem tm_bef {n lp : Nat} (hn : n ≤ 5) (hl : lp < n) (m x : Nat) : tm n lp (befN n lp m) x = tm n lp m (x + 1) := by
  unfold tm befN
  rw [befK_bit, decide_eq_true (posN_lt hl), posN_add hn hl]
  rfl
theorem tm_every {n lp : Nat} (hl : lp < n) (x : Nat) : tm n lp (every n) x = true := by
  unfold tm
  rw [every_bit, decide_eq_true (posN_lt hl)]
theorem tm_nt {n lp : Nat} (hl : lp < n) (a x : Nat) : tm n lp (nt (every n) a) x = !tm n lp a x := by
  have := tm_every hl x
  unfold tm at *
  rw [nt_bit, this]
  rfl
theorem tm_and {n lp : Nat} (a b x : Nat) : tm n lp (a &&& b) x = (tm n lp a x && tm n lp b x) := Nat.testBit_and ..
theorem tm_or {n lp : Nat} (a b x : Nat) : tm n lp (a ||| b) x = (tm n lp a x || tm n lp b x) := Nat.testBit_or ..
theorem tm_xor {n lp : Nat} (a b x : Nat) : tm n lp (a ^^^ b) x = (tm n lp a x ^^ tm n lp b x) := Nat.testBit_xor ..
theorem tm_0 {n lp : Nat} (x : Nat) : tm n lp 0 x = false := Nat.zero_testBit _
theorem eq_of_tm {n lp : Nat} {a b : Nat} (ha : a < 2 ^ n) (hb : b < 2 ^ n) (h : ∀ x, tm n lp a x = tm n lp b x) : a = b := by
  apply Nat.eq_of_testBit_eq
  intro i
  by_cases hi : i < n
  · have := h i
    unfold tm at this
    rwa [posN_self hi] at this
  · have h2 : 2 ^ n ≤ 2 ^ i := Nat.pow_le_pow_right (by decide) (by omega)
    rw [Nat.testBit_lt_two_pow (by omega), Nat.testBit_lt_two_pow (by omega)]
theorem tm_itA {n lp : Nat} (hn : n ≤ 5) (hl : lp < n) (a : Nat) : ∀ k x, tm n lp (itN (alF n lp a) k (every n)) x = true ↔ ∀ j, j < k → tm n lp a (x + j) = true
  | 0, x => by simp [itN, tm_every hl]
  | k + 1, x => by
    show tm n lp (a &&& befN n lp (itN (alF n lp a) k (every n))) x = true ↔ _
    rw [tm_and, tm_bef hn hl, Bool.and_eq_true, tm_itA hn hl a k (x + 1)]
    constructor
    · rintro ⟨h1, h2⟩ j hj
      rcases j with _ | j
      · exact h1
      · have := h2 j (by omega)
        rwa [show x + 1 + j = x + (j + 1) by omega] at this
    · intro h
      refine ⟨h 0 (by omega), fun j hj => ?_⟩
      rw [show x + 1 + j = x + (j + 1) by omega]
      exact h (j + 1) (by omega)
theorem tm_itU {n lp : Nat} (hn : n ≤ 5) (hl : lp < n) (a b : Nat) : ∀ k x, tm n lp (itN (unF n lp a b) k 0) x = true ↔ ∃ j, j < k ∧ tm n lp b (x + j) = true ∧ ∀ i, i < j → tm n lp a (x + i) = true
  | 0, x => by simp [itN, tm_0]
  | k + 1, x => by
    show tm n lp (b ||| (a &&& befN n lp (itN (unF n lp a b) k 0))) x = true ↔ _
    rw [tm_or, tm_and, tm_bef hn hl, Bool.or_eq_true, Bool.and_eq_true, tm_itU hn hl a b k (x + 1)]
    constructor
    · rintro (h | ⟨h1, j, hj, h2, h3⟩)
      · exact ⟨0, by omega, h, fun i hi => absurd hi (Nat.not_lt_zero i)⟩
      · refine ⟨j + 1, by omega, by rw [show x + (j + 1) = x + 1 + j by omega]; exact h2, fun i hi => ?_⟩
        rcases i with _ | i
        · exact h1
        · have := h3 i (by omega)
          rwa [show x + 1 + i = x + (i + 1) by omega] at this
    · rintro ⟨j, hj, h2, h3⟩
      rcases j with _ | j
      · exact .inl h2
      · refine .inr ⟨h3 0 (by omega), j, by omega, by rw [show x + 1 + j = x + (j + 1) by omega]; exact h2, fun i hi => ?_⟩
        have := h3 (i + 1) (by omega)
        rwa [show x + 1 + i = x + (i + 1) by omega]
theorem tm_al {n lp : Nat} (hn : n ≤ 5) (hl : lp < n) {a : Nat} (ha : a < 2 ^ n) (x : Nat) : tm n lp (alN n lp a) x = true ↔ ∀ j, tm n lp a (x + j) = true := by
  constructor
  · have hf := al_fix hn hl ha
    have hs : ∀ y, tm n lp (alN n lp a) y = true → tm n lp a y = true ∧ tm n lp (alN n lp a) (y + 1) = true := fun y h => by
      rw [← hf] at h
      unfold alF at h
      rwa [tm_and, tm_bef hn hl, Bool.and_eq_true] at h
    have hall : ∀ (h : tm n lp (alN n lp a) x = true) j, tm n lp (alN n lp a) (x + j) = true := fun h j => by
      induction j with
      | zero => exact h
      | succ j ih => exact (hs _ ih).2
    exact fun h j => (hs _ (hall h j)).1
  · intro h
    exact (tm_itA hn hl a 5 x).2 fun j _ => h j
theorem tm_un {n lp : Nat} (hn : n ≤ 5) (hl : lp < n) {a b : Nat} (ha : a < 2 ^ n) (hb : b < 2 ^ n) (x : Nat) : tm n lp (unN n lp a b) x = true ↔ ∃ j, tm n lp b (x + j) = true ∧ ∀ i, i < j → tm n lp a (x + i) = true := by
  constructor
  · intro h
    obtain ⟨j, _, h1, h2⟩ := (tm_itU hn hl a b 5 x).1 h
    exact ⟨j, h1, h2⟩
  · have hf := un_fix hn hl ha hb
    have hs : ∀ y, (tm n lp b y = true ∨ tm n lp a y = true ∧ tm n lp (unN n lp a b) (y + 1) = true) → tm n lp (unN n lp a b) y = true := fun y h => by
      rw [← hf]
      unfold unF
      rw [tm_or, tm_and, tm_bef hn hl, Bool.or_eq_true, Bool.and_eq_true]
      exact h
    rintro ⟨j, h1, h2⟩
    induction j generalizing x with
    | zero => exact hs x (.inl h1)
    | succ j ih =>
      refine hs x (.inr ⟨h2 0 (by omega), ih (x + 1) ?_ fun i hi => ?_⟩)
      · rwa [show x + 1 + j = x + (j + 1) by omega]
      · have := h2 (i + 1) (by omega)
        rwa [show x + 1 + i = x + (i + 1) by omega]

end Go.Proofs.YtjflngchbeegcaaGreatDoor
/-! text Y13z -/
namespace Go.Proofs.YtjflngchbeegcaaGreatDoor
open Go.Vsi
set_option maxHeartbeats 1000000
attribute [local irreducible] VW VCall VO bits
/-! ### counting -/
def cntN (k n : Nat) : Nat := if 14 < n * k then 0 else if 16384 < n <<< (n * k) then 0 else n <<< (n * k)
theorem count_c (k n : Nat) (hk : k ≤ 26) (hn : n ≤ 5) (H : Heap) : VDet Tryz.prog 47 [.int .i64 k, .int .i64 n] H (.int .i64 (cntN k n : Nat)) := by
  have hm : n * k ≤ 5 * 26 := Nat.mul_le_mul hn hk
  refine fn_det Tryz.E0 Tryz.mx Tryz.func47 (by kernel_rfl) rfl (Nat.le_of_ble_eq_true rfl) rfl fun hcl hbl => ?_
  (repeat' ((conv => whnf); (first | (refine IfN.id ?_; first | refine IfN.dec (fun _ => ?_) (fun _ => ?_) | fail) | (refine EqN.id ?_; first | (refine EqN.shlN _ _ (by first | with_reducible rfl | with_reducible exact cst1 | with_reducible exact cst0 | with_reducible exact cst2 | with_reducible exact cst3 | with_reducible exact cst4 | with_reducible exact cst5 | with_reducible exact cst6 | with_reducible exact cst7 | with_reducible exact cst8 | with_reducible exact cst14 | with_reducible exact cst15 | with_reducible exact cst25 | with_reducible exact cst30 | with_reducible exact cst31 | fail) (by first | with_reducible rfl | with_reducible exact cst1 | with_reducible exact cst0 | with_reducible exact cst2 | with_reducible exact cst3 | with_reducible exact cst4 | with_reducible exact cst5 | with_reducible exact cst6 | with_reducible exact cst7 | with_reducible exact cst8 | with_reducible exact cst14 | with_reducible exact cst15 | with_reducible exact cst25 | with_reducible exact cst30 | with_reducible exact cst31 | fail) rfl ?_ ?_ ?_; (· (repeat' (first | omega | refine And.intro ?_ ?_ | exact bnd_andl (by omega) | exact bnd_andr (by omega) | refine bnd_or ?_ ?_ | refine bnd_or31 ?_ ?_ | refine bnd_xor ?_ ?_ | refine bnd_xor31 ?_ ?_ | refine bnd_shr ?_ | refine bnd_shl ?_ ?_ | refine bnd_mod ?_ | refine bnd_andl ?_ | fail))); (· (repeat' (first | omega | refine And.intro ?_ ?_ | exact bnd_andl (by omega) | exact bnd_andr (by omega) | refine bnd_or ?_ ?_ | refine bnd_or31 ?_ ?_ | refine bnd_xor ?_ ?_ | refine bnd_xor31 ?_ ?_ | refine bnd_shr ?_ | refine bnd_shl ?_ ?_ | refine bnd_mod ?_ | refine bnd_andl ?_ | fail)))) | (refine EqN.mulN _ _ (by first | with_reducible rfl | with_reducible exact cst1 | with_reducible exact cst0 | with_reducible exact cst2 | with_reducible exact cst3 | with_reducible exact cst4 | with_reducible exact cst5 | with_reducible exact cst6 | with_reducible exact cst7 | with_reducible exact cst8 | with_reducible exact cst14 | with_reducible exact cst15 | with_reducible exact cst25 | with_reducible exact cst30 | with_reducible exact cst31 | fail) (by first | with_reducible rfl | with_reducible exact cst1 | with_reducible exact cst0 | with_reducible exact cst2 | with_reducible exact cst3 | with_reducible exact cst4 | with_reducible exact cst5 | with_reducible exact cst6 | with_reducible exact cst7 | with_reducible exact cst8 | with_reducible exact cst14 | with_reducible exact cst15 | with_reducible exact cst25 | with_reducible exact cst30 | with_reducible exact cst31 | fail) ?_ ?_; · (repeat' (first | omega | refine And.intro ?_ ?_ | exact bnd_andl (by omega) | exact bnd_andr (by omega) | refine bnd_or ?_ ?_ | refine bnd_or31 ?_ ?_ | refine bnd_xor ?_ ?_ | refine bnd_xor31 ?_ ?_ | refine bnd_shr ?_ | refine bnd_shl ?_ ?_ | refine bnd_mod ?_ | refine bnd_andl ?_ | fail))) | fail) | (refine SideN.mk ?_ ?_; · first | kernel_rfl | omega | exact List.cons_ne_nil _ _ | (simp; done) | (simp; omega) | exact trivial | assumption | fail) | refine DrawN.mk' [] ?_ | fail))); all_goals (conv => whnf)
  all_goals refine EndN.det trivial (Wk.of_eq (congrArg (AV.int _) ?_))
  all_goals unfold cntN
  · rw [if_pos (by omega)]; rfl
  · rw [if_neg (by omega), if_pos (by omega)]; rfl
  · rw [if_neg (by omega), if_neg (by omega)]
def encS (c : UInt8) : List AV := [.str (nm c)]
theorem encS_below (n : Nat) (l : List UInt8) : belowL n (l.flatMap encS) := belowL_flat _ fun x => by simp [encS, belowL, below]
structure NmOk (l : List UInt8) : Prop where
  len : l.length ≤ 26
  cap : ∀ i, i < l.length → cap (l.getD i 0)
  inc : ∀ i, 0 < i → i < l.length → (l.getD (i - 1) 0).toNat < (l.getD i 0).toNat
theorem Count_c (l : List UInt8) (hl : NmOk l) (n : Nat) (h1 : 1 ≤ n) (hn : n ≤ 5) (H : Heap) :
    VDet Tryz.prog 13 [.sl none l.length (l.flatMap encS), .int .i64 n] H (.tup [.int .i64 (cntN l.length n : Nat), .int .i64 (if cntN l.length n = 0 then 5 else 0)]) := by
  have hcn := fun H => count_c l.length n hl.len hn H
  obtain ⟨hlen, hcap, hinc⟩ := hl
  refine fn_det Tryz.E0 Tryz.mx Tryz.func13 (by kernel_rfl) rfl (Nat.le_of_ble_eq_true rfl) rfl fun hcl hbl => ?_
  (repeat' ((conv => whnf); (first | (refine IfN.id ?_; first | refine IfN.dF (by omega) ?_ | fail) | refine DrawN.mk' [] ?_ | fail))); all_goals (conv => whnf)
  refine loop_R Tryz.E0 Tryz.mx (σ := Nat) (fun k => k ≤ l.length) (fun k => l.length - k) (fun k => [(17, .v (.int .i64 k))]) (fun _ => []) _ 0 rfl hcl [0, 1, 15, 16] rfl (Nat.zero_le _) ⟨⟨_, rfl, Wk.refl _⟩, trivial⟩ rfl (fun _ _ => rfl) ?_
  intro k hk
  have hc := hcap k
  have hlt : 0 < k → k < l.length → Op.bytesLess (nm (l.getD (k - 1) 0)).toList (nm (l.getD k 0)).toList = true := fun h0 h => by
    rw [nm_lt]; exact decide_eq_true (hinc k h0 h)
  clear hbl
  (repeat' ((conv => whnf); (first | (refine IfN.id ?_; first | refine IfN.tt (hlt (by omega) (by omega)) ?_ | refine IfN.not ?_ | refine IfN.tt rfl ?_ | refine IfN.dec (fun _ => ?_) (fun _ => ?_) | fail) | (refine EqN.id ?_; first | (refine EqN.addN _ _ (by first | with_reducible rfl | with_reducible exact cst1 | with_reducible exact cst0 | with_reducible exact cst2 | with_reducible exact cst3 | with_reducible exact cst4 | with_reducible exact cst5 | with_reducible exact cst6 | with_reducible exact cst7 | with_reducible exact cst8 | with_reducible exact cst14 | with_reducible exact cst15 | with_reducible exact cst25 | with_reducible exact cst30 | with_reducible exact cst31 | fail) (by first | with_reducible rfl | with_reducible exact cst1 | with_reducible exact cst0 | with_reducible exact cst2 | with_reducible exact cst3 | with_reducible exact cst4 | with_reducible exact cst5 | with_reducible exact cst6 | with_reducible exact cst7 | with_reducible exact cst8 | with_reducible exact cst14 | with_reducible exact cst15 | with_reducible exact cst25 | with_reducible exact cst30 | with_reducible exact cst31 | fail) ?_ ?_; · (repeat' (first | omega | refine And.intro ?_ ?_ | exact bnd_andl (by omega) | exact bnd_andr (by omega) | refine bnd_or ?_ ?_ | refine bnd_or31 ?_ ?_ | refine bnd_xor ?_ ?_ | refine bnd_xor31 ?_ ?_ | refine bnd_shr ?_ | refine bnd_shl ?_ ?_ | refine bnd_mod ?_ | refine bnd_andl ?_ | fail))) | (refine EqN.subN _ _ (by first | with_reducible rfl | with_reducible exact cst1 | with_reducible exact cst0 | with_reducible exact cst2 | with_reducible exact cst3 | with_reducible exact cst4 | with_reducible exact cst5 | with_reducible exact cst6 | with_reducible exact cst7 | with_reducible exact cst8 | with_reducible exact cst14 | with_reducible exact cst15 | with_reducible exact cst25 | with_reducible exact cst30 | with_reducible exact cst31 | fail) (by first | with_reducible rfl | with_reducible exact cst1 | with_reducible exact cst0 | with_reducible exact cst2 | with_reducible exact cst3 | with_reducible exact cst4 | with_reducible exact cst5 | with_reducible exact cst6 | with_reducible exact cst7 | with_reducible exact cst8 | with_reducible exact cst14 | with_reducible exact cst15 | with_reducible exact cst25 | with_reducible exact cst30 | with_reducible exact cst31 | fail) ?_ ?_; · (repeat' (first | omega | refine And.intro ?_ ?_ | exact bnd_andl (by omega) | exact bnd_andr (by omega) | refine bnd_or ?_ ?_ | refine bnd_or31 ?_ ?_ | refine bnd_xor ?_ ?_ | refine bnd_xor31 ?_ ?_ | refine bnd_shr ?_ | refine bnd_shl ?_ ?_ | refine bnd_mod ?_ | refine bnd_andl ?_ | fail))) | fail) | (refine SideN.mk ?_ ?_; · first | kernel_rfl | omega | exact List.cons_ne_nil _ _ | (simp; done) | (simp; omega) | exact trivial | assumption | fail) | (refine CallN.id ?_; first | refine CallN.det _ (predicate_c _ (hc (by omega)) _) ?_ | refine CallN.det _ (hcn _) ?_ | fail) | refine SegN.nth 0 k rfl (by omega) (fun _ => rfl) ?_ | refine SegN.nth 0 (k - 1) (by omega) (by omega) (fun _ => rfl) ?_ | refine DrawN.mk' [] ?_ | fail))); all_goals (conv => whnf)
  all_goals try ((refine ⟨⟨k + 1, by omega, by omega, ?_, .inl ⟨rfl, rfl⟩, rfl, _, rfl, ?_⟩⟩; rotate_left 1; (first | exact .inl rfl | exact .inr ⟨by simp [belowRE, below, belowL, tr, encT_below, encN_below, encS_below], by simp [belowH, Blk.below, belowL, below, encT_below, encN_below, encS_below]⟩ | fail); (repeat' (first | exact trivial | refine ⟨⟨_, rfl, ?_⟩, ?_⟩ | fail)); all_goals try (first | exact Wk.refl _ | exact Wk.of_eq (congrArg (AV.int _) (by omega)) | fail)))
  all_goals refine EndN.det (by simp [below, belowL]) (Wk.of_eq ?_)
  · rename_i h0
    rw [if_pos (by omega), show cntN l.length n = 0 by omega]
    rfl
  · rename_i h0
    rw [if_neg (by omega)]
end Go.Proofs.YtjflngchbeegcaaGreatDoor
/-! text Z13z -/
namespace Go.Proofs.YtjflngchbeegcaaGreatDoor
open Go.Vsi
set_option maxHeartbeats 1000000
attribute [local irreducible] VW VCall VO bits

/-! ### trace.Nth -/
def nthA (n : Nat) : List UInt8 → Nat → List (UInt8 × Nat) × Nat
  | [], N => ([], N)
  | c :: l, N => ((c, (nthA n l N).2 &&& (1 <<< n - 1)) :: (nthA n l N).1, (nthA n l N).2 >>> n)
def nthT (l : List UInt8) (n N : Nat) : Tr := ⟨n, (nthA n l N).2, (nthA n l N).1⟩
theorem cntN_le (k n : Nat) : cntN k n ≤ 16384 := by
  unfold cntN
  repeat' split
  all_goals omega
theorem Nth_1 (c0 : UInt8) (hl : NmOk [c0]) (n N : Nat) (h1 : 1 ≤ n) (h5 : n ≤ 5) (hc : cntN 1 n ≠ 0) (hN : N < cntN 1 n) (H : Heap) :
    VDet Tryz.prog 14 [.sl none 1 [.str (nm c0)], .int .i64 n, .int .i64 N] H (.tup [.agg (nthT [c0] n N).cells, .int .i64 0]) := by
  have hC := fun H => Count_c [c0] hl n h1 h5 H
  rw [show ([c0] : List UInt8).length = 1 from rfl, if_neg hc] at hC
  simp only [List.flatMap_cons, List.flatMap_nil, encS, List.append_nil, List.nil_append, List.cons_append] at hC
  have hm := cntN_le 1 n
  have he := every_lt h5
  have h4 : 1 ≤ 1 <<< n := by rw [Nat.shiftLeft_eq]; have := Nat.two_pow_pos n; omega
  have h6 : 1 <<< n < 64 := by unfold every at he; omega
  refine fn_det Tryz.E0 Tryz.mx Tryz.func14 (by kernel_rfl) rfl (Nat.le_of_ble_eq_true rfl) rfl fun hcl hbl => ?_
  (repeat' ((conv => whnf); (first | (refine IfN.id ?_; first | refine IfN.not ?_ | refine IfN.tt rfl ?_ | refine IfN.ff rfl ?_ | refine IfN.dF (by omega) ?_ | fail) | (refine EqN.id ?_; first | (refine EqN.subN _ _ (by first | with_reducible rfl | with_reducible exact cst1 | with_reducible exact cst0 | with_reducible exact cst2 | with_reducible exact cst3 | with_reducible exact cst4 | with_reducible exact cst5 | with_reducible exact cst6 | with_reducible exact cst7 | with_reducible exact cst8 | with_reducible exact cst14 | with_reducible exact cst15 | with_reducible exact cst25 | with_reducible exact cst30 | with_reducible exact cst31 | fail) (by first | with_reducible rfl | with_reducible exact cst1 | with_reducible exact cst0 | with_reducible exact cst2 | with_reducible exact cst3 | with_reducible exact cst4 | with_reducible exact cst5 | with_reducible exact cst6 | with_reducible exact cst7 | with_reducible exact cst8 | with_reducible exact cst14 | with_reducible exact cst15 | with_reducible exact cst25 | with_reducible exact cst30 | with_reducible exact cst31 | fail) ?_ ?_; · (repeat' (first | omega | refine And.intro ?_ ?_ | exact bnd_andl (by omega) | exact bnd_andr (by omega) | refine bnd_or ?_ ?_ | refine bnd_or31 ?_ ?_ | refine bnd_xor ?_ ?_ | refine bnd_xor31 ?_ ?_ | refine bnd_shr ?_ | refine bnd_shl ?_ ?_ | refine bnd_mod ?_ | refine bnd_andl ?_ | fail))) | fail) | (refine SideN.mk ?_ ?_; · first | kernel_rfl | omega | exact List.cons_ne_nil _ _ | (simp; done) | (simp; omega) | exact trivial | assumption | fail) | refine NatN.mk _ rfl ?_ | (refine CallN.id ?_; first | refine CallN.det _ (hC _) ?_ | fail) | refine OrN.r ?_ | refine DrawN.mk' [] ?_ | fail))); all_goals (conv => whnf)
  refine LoopN.rounds Tryz.E0 Tryz.mx 2 rfl ?_
  (repeat' ((conv => whnf); (first | (refine IfN.id ?_; first | refine IfN.tt rfl ?_ | refine IfN.ff rfl ?_ | fail) | (refine EqN.id ?_; first | (refine EqN.and _ _ (by first | with_reducible rfl | with_reducible exact cst1 | with_reducible exact cst0 | with_reducible exact cst2 | with_reducible exact cst3 | with_reducible exact cst4 | with_reducible exact cst5 | with_reducible exact cst6 | with_reducible exact cst7 | with_reducible exact cst8 | with_reducible exact cst14 | with_reducible exact cst15 | with_reducible exact cst25 | with_reducible exact cst30 | with_reducible exact cst31 | fail) (by first | with_reducible rfl | with_reducible exact cst1 | with_reducible exact cst0 | with_reducible exact cst2 | with_reducible exact cst3 | with_reducible exact cst4 | with_reducible exact cst5 | with_reducible exact cst6 | with_reducible exact cst7 | with_reducible exact cst8 | with_reducible exact cst14 | with_reducible exact cst15 | with_reducible exact cst25 | with_reducible exact cst30 | with_reducible exact cst31 | fail) ?_ ?_; · (repeat' (first | omega | refine And.intro ?_ ?_ | exact bnd_andl (by omega) | exact bnd_andr (by omega) | refine bnd_or ?_ ?_ | refine bnd_or31 ?_ ?_ | refine bnd_xor ?_ ?_ | refine bnd_xor31 ?_ ?_ | refine bnd_shr ?_ | refine bnd_shl ?_ ?_ | refine bnd_mod ?_ | refine bnd_andl ?_ | fail))) | (refine EqN.shrN _ _ (by first | with_reducible rfl | with_reducible exact cst1 | with_reducible exact cst0 | with_reducible exact cst2 | with_reducible exact cst3 | with_reducible exact cst4 | with_reducible exact cst5 | with_reducible exact cst6 | with_reducible exact cst7 | with_reducible exact cst8 | with_reducible exact cst14 | with_reducible exact cst15 | with_reducible exact cst25 | with_reducible exact cst30 | with_reducible exact cst31 | fail) (by first | with_reducible rfl | with_reducible exact cst1 | with_reducible exact cst0 | with_reducible exact cst2 | with_reducible exact cst3 | with_reducible exact cst4 | with_reducible exact cst5 | with_reducible exact cst6 | with_reducible exact cst7 | with_reducible exact cst8 | with_reducible exact cst14 | with_reducible exact cst15 | with_reducible exact cst25 | with_reducible exact cst30 | with_reducible exact cst31 | fail) rfl ?_ ?_; · (repeat' (first | omega | refine And.intro ?_ ?_ | exact bnd_andl (by omega) | exact bnd_andr (by omega) | refine bnd_or ?_ ?_ | refine bnd_or31 ?_ ?_ | refine bnd_xor ?_ ?_ | refine bnd_xor31 ?_ ?_ | refine bnd_shr ?_ | refine bnd_shl ?_ ?_ | refine bnd_mod ?_ | refine bnd_andl ?_ | fail))) | (refine EqN.shlN _ _ (by first | with_reducible rfl | with_reducible exact cst1 | with_reducible exact cst0 | with_reducible exact cst2 | with_reducible exact cst3 | with_reducible exact cst4 | with_reducible exact cst5 | with_reducible exact cst6 | with_reducible exact cst7 | with_reducible exact cst8 | with_reducible exact cst14 | with_reducible exact cst15 | with_reducible exact cst25 | with_reducible exact cst30 | with_reducible exact cst31 | fail) (by first | with_reducible rfl | with_reducible exact cst1 | with_reducible exact cst0 | with_reducible exact cst2 | with_reducible exact cst3 | with_reducible exact cst4 | with_reducible exact cst5 | with_reducible exact cst6 | with_reducible exact cst7 | with_reducible exact cst8 | with_reducible exact cst14 | with_reducible exact cst15 | with_reducible exact cst25 | with_reducible exact cst30 | with_reducible exact cst31 | fail) rfl ?_ ?_ ?_; (· (repeat' (first | omega | refine And.intro ?_ ?_ | exact bnd_andl (by omega) | exact bnd_andr (by omega) | refine bnd_or ?_ ?_ | refine bnd_or31 ?_ ?_ | refine bnd_xor ?_ ?_ | refine bnd_xor31 ?_ ?_ | refine bnd_shr ?_ | refine bnd_shl ?_ ?_ | refine bnd_mod ?_ | refine bnd_andl ?_ | fail))); (· (repeat' (first | omega | refine And.intro ?_ ?_ | exact bnd_andl (by omega) | exact bnd_andr (by omega) | refine bnd_or ?_ ?_ | refine bnd_or31 ?_ ?_ | refine bnd_xor ?_ ?_ | refine bnd_xor31 ?_ ?_ | refine bnd_shr ?_ | refine bnd_shl ?_ ?_ | refine bnd_mod ?_ | refine bnd_andl ?_ | fail)))) | (refine EqN.subN _ _ (by first | with_reducible rfl | with_reducible exact cst1 | with_reducible exact cst0 | with_reducible exact cst2 | with_reducible exact cst3 | with_reducible exact cst4 | with_reducible exact cst5 | with_reducible exact cst6 | with_reducible exact cst7 | with_reducible exact cst8 | with_reducible exact cst14 | with_reducible exact cst15 | with_reducible exact cst25 | with_reducible exact cst30 | with_reducible exact cst31 | fail) (by first | with_reducible rfl | with_reducible exact cst1 | with_reducible exact cst0 | with_reducible exact cst2 | with_reducible exact cst3 | with_reducible exact cst4 | with_reducible exact cst5 | with_reducible exact cst6 | with_reducible exact cst7 | with_reducible exact cst8 | with_reducible exact cst14 | with_reducible exact cst15 | with_reducible exact cst25 | with_reducible exact cst30 | with_reducible exact cst31 | fail) ?_ ?_; · (repeat' (first | omega | refine And.intro ?_ ?_ | exact bnd_andl (by omega) | exact bnd_andr (by omega) | refine bnd_or ?_ ?_ | refine bnd_or31 ?_ ?_ | refine bnd_xor ?_ ?_ | refine bnd_xor31 ?_ ?_ | refine bnd_shr ?_ | refine bnd_shl ?_ ?_ | refine bnd_mod ?_ | refine bnd_andl ?_ | fail))) | refine EqN.i64 (by omega) ?_ | fail) | (refine SideN.mk ?_ ?_; · first | kernel_rfl | omega | exact List.cons_ne_nil _ _ | (simp; done) | (simp; omega) | exact trivial | assumption | fail) | (refine PtrN.id ?_; first | refine PtrN.loc _ rfl ?_ | fail) | refine SegN.mk _ (seg_rfl rfl) ?_ | refine OfsN.at_ (by omega) ?_ | refine DrawN.mk' [] ?_ | fail))); all_goals (conv => whnf)
  refine EndN.detF (u' := .tup [.agg [.int .u8 5, .int .i64 n, .nils, .int .i64 (nthT [c0] n N).lp, .sl none 1 ((nthT [c0] n N).fs.flatMap encT), .nils, .nils], .int .i64 0]) ?gb ?gf ?gw
  case gf => repeat' (first | exact FrzL.nil | refine FrzL.cons ?_ ?_ | refine Frz.sx ?_ | refine Frz.clo ?_ ?_ | refine Frz.agg ?_ | refine Frz.tup ?_ | refine Frz.ptr rfl rfl (FrzL.refl _) | refine Frz.ms (by exact rfl) (by exact rfl) (FrzL.refl _) | exact Frz.refl _ | fail)
  case gb => simp [below, belowL, Tr.cells, encT_below]
  case gw => exact wk_tup ⟨wk_agg ⟨Wk.refl _, Wk.refl _, wk_nils, Wk.refl _, Wk.refl _, wk_nils, wk_nils, trivial⟩, Wk.refl _, trivial⟩
end Go.Proofs.YtjflngchbeegcaaGreatDoor
/-! text A14z -/
namespace Go.Proofs.YtjflngchbeegcaaGreatDoor
open Go.Vsi
set_option maxHeartbeats 1000000
attribute [local irreducible] VW VCall VO bits
/-! ### lyceumkit.SameModel -/
theorem sameInts_c (H : Heap) : VDet Tryz.prog 62 [.sl none 0 [], .sl none 0 []] H (.bool true) := by
  refine fn_det Tryz.E0 Tryz.mx Tryz.func62 (by kernel_rfl) rfl (Nat.le_of_ble_eq_true rfl) rfl fun hcl hbl => ?_
  (repeat' ((conv => whnf); (first | (refine IfN.id ?_; first | refine IfN.not ?_ | refine IfN.tt rfl ?_ | fail) | refine DrawN.mk' [] ?_ | fail))); all_goals (conv => whnf)
  refine LoopN.rounds Tryz.E0 Tryz.mx 1 rfl ?_
  (repeat' ((conv => whnf); (first | (refine IfN.id ?_; first | refine IfN.ff rfl ?_ | fail) | refine DrawN.mk' [] ?_ | fail))); all_goals (conv => whnf)
  exact EndN.det trivial (Wk.refl _)
theorem sameFuncs_c (H : Heap) : VDet Tryz.prog 64 [.sl none 0 [], .sl none 0 []] H (.bool true) := by
  refine fn_det Tryz.E0 Tryz.mx Tryz.func64 (by kernel_rfl) rfl (Nat.le_of_ble_eq_true rfl) rfl fun hcl hbl => ?_
  (repeat' ((conv => whnf); (first | (refine IfN.id ?_; first | refine IfN.not ?_ | refine IfN.tt rfl ?_ | fail) | refine DrawN.mk' [] ?_ | fail))); all_goals (conv => whnf)
  refine LoopN.rounds Tryz.E0 Tryz.mx 1 rfl ?_
  (repeat' ((conv => whnf); (first | (refine IfN.id ?_; first | refine IfN.ff rfl ?_ | fail) | refine DrawN.mk' [] ?_ | fail))); all_goals (conv => whnf)
  exact EndN.det trivial (Wk.refl _)
theorem sameBinds_c (H : Heap) : VDet Tryz.prog 65 [.sl none 0 [], .sl none 0 []] H (.bool true) := by
  refine fn_det Tryz.E0 Tryz.mx Tryz.func65 (by kernel_rfl) rfl (Nat.le_of_ble_eq_true rfl) rfl fun hcl hbl => ?_
  (repeat' ((conv => whnf); (first | (refine IfN.id ?_; first | refine IfN.not ?_ | refine IfN.tt rfl ?_ | fail) | refine DrawN.mk' [] ?_ | fail))); all_goals (conv => whnf)
  refine LoopN.rounds Tryz.E0 Tryz.mx 1 rfl ?_
  (repeat' ((conv => whnf); (first | (refine IfN.id ?_; first | refine IfN.ff rfl ?_ | fail) | refine DrawN.mk' [] ?_ | fail))); all_goals (conv => whnf)
  exact EndN.det trivial (Wk.refl _)
theorem wk_trans {a b c : AV} (h1 : Wk a b) (h2 : Wk b c) : Wk a c := fun g w v h => h2 g w v (h1 g w v h)
theorem eq_row (p q : UInt8 × Nat) : ((nm p.1).toList == (nm q.1).toList && ((0 : Int) == 0 && ((p.2 : Int) == q.2 && true))) = (p == q) := by
  rw [nm_eq]
  obtain ⟨a, m⟩ := p
  obtain ⟨b, n⟩ := q
  have h1 : ((m : Int) == n) = (m == n) := by
    rw [Bool.eq_iff_iff]
    simp only [beq_iff_eq]
    omega
  have h2 : (((a, m) : UInt8 × Nat) == (b, n)) = (a == b && m == n) := rfl
  simp only [h1, h2, BEq.rfl, Bool.and_true, Bool.true_and]
def eqF (a b : List (UInt8 × Nat)) : Bool := (a.length == b.length) && (List.range a.length).all fun i => ft a i == ft b i
theorem sameFacts_c (a b : List (UInt8 × Nat)) (ha : a.length ≤ 26) (hb : b.length ≤ 26) (H : Heap) : VDet Tryz.prog 63 [.sl none a.length (a.flatMap encT), .sl none b.length (b.flatMap encT)] H (.bool (eqF a b)) := by
  have hne : a.length ≠ b.length → eqF a b = false := fun h => by unfold eqF; simp [h]
  have hno : ∀ k, k < a.length → (ft a k == ft b k) = false → eqF a b = false := fun k hk h => by unfold eqF; rw [all_no hk h, Bool.and_false]
  have hyes : a.length = b.length → (∀ i, i < a.length → (ft a i == ft b i) = true) → eqF a b = true := fun e h => by unfold eqF; rw [all_yes h, e]; simp
  generalize eqF a b = R at *
  refine fn_det Tryz.E0 Tryz.mx Tryz.func63 (by kernel_rfl) rfl (Nat.le_of_ble_eq_true rfl) rfl fun hcl hbl => ?_
  (repeat' ((conv => whnf); (first | (refine IfN.id ?_; first | refine IfN.not ?_ | refine IfN.dec (fun _ => ?_) (fun _ => ?_) | fail) | refine DrawN.mk' [] ?_ | fail))); all_goals (conv => whnf)
  all_goals try (refine EndN.det trivial (Wk.of_eq ?_); rw [hne (by omega)])
  refine loop_R Tryz.E0 Tryz.mx (σ := Nat) (fun k => k ≤ a.length ∧ ∀ i, i < k → (ft a i == ft b i) = true) (fun k => a.length - k) (fun k => [(5, .v (.int .i64 k))]) (fun _ => []) _ 0 rfl hcl [0, 1] rfl ⟨Nat.zero_le _, fun i hi => absurd hi (Nat.not_lt_zero i)⟩ ⟨⟨_, rfl, Wk.refl _⟩, trivial⟩ rfl (fun _ _ => rfl) ?_
  rintro k ⟨hk, hok⟩
  clear hbl
  (repeat' ((conv => whnf); (first | (refine IfN.id ?_; first | refine IfN.not ?_ | refine IfN.dec (fun _ => ?_) (fun _ => ?_) | (refine IfN.mk ?_ ?_ <;> intro _) | fail) | (refine EqN.id ?_; first | (refine EqN.addN _ _ (by first | with_reducible rfl | with_reducible exact cst1 | with_reducible exact cst0 | with_reducible exact cst2 | with_reducible exact cst3 | with_reducible exact cst4 | with_reducible exact cst5 | with_reducible exact cst6 | with_reducible exact cst7 | with_reducible exact cst8 | with_reducible exact cst14 | with_reducible exact cst15 | with_reducible exact cst25 | with_reducible exact cst30 | with_reducible exact cst31 | fail) (by first | with_reducible rfl | with_reducible exact cst1 | with_reducible exact cst0 | with_reducible exact cst2 | with_reducible exact cst3 | with_reducible exact cst4 | with_reducible exact cst5 | with_reducible exact cst6 | with_reducible exact cst7 | with_reducible exact cst8 | with_reducible exact cst14 | with_reducible exact cst15 | with_reducible exact cst25 | with_reducible exact cst30 | with_reducible exact cst31 | fail) ?_ ?_; · (repeat' (first | omega | refine And.intro ?_ ?_ | exact bnd_andl (by omega) | exact bnd_andr (by omega) | refine bnd_or ?_ ?_ | refine bnd_or31 ?_ ?_ | refine bnd_xor ?_ ?_ | refine bnd_xor31 ?_ ?_ | refine bnd_shr ?_ | refine bnd_shl ?_ ?_ | refine bnd_mod ?_ | refine bnd_andl ?_ | fail))) | fail) | (refine SideN.mk ?_ ?_; · first | kernel_rfl | omega | exact List.cons_ne_nil _ _ | (simp; done) | (simp; omega) | exact trivial | assumption | fail) | refine SegN.nth (0, 0) k rfl (by omega) (fun _ => rfl) ?_ | refine DrawN.mk' [] ?_ | fail))); all_goals (conv => whnf)
  · rename_i he
    rw [eq_row] at he
    (refine ⟨⟨k + 1, ⟨by omega, fun i hi => by
      rcases Nat.lt_or_ge i k with h | h
      · exact hok i h
      · have : i = k := by omega
        exact this ▸ he⟩, by omega, ?_, .inl ⟨rfl, rfl⟩, rfl, _, rfl, ?_⟩⟩; rotate_left 1; (first | exact .inl rfl | exact .inr ⟨by simp [belowRE, below, belowL, tr, encT_below], by simp [belowH, Blk.below, belowL, below, encT_below]⟩ | fail); (repeat' (first | exact trivial | refine ⟨⟨_, rfl, ?_⟩, ?_⟩ | fail)); all_goals try (first | exact Wk.refl _ | exact Wk.of_eq (congrArg (AV.int _) (by omega)) | fail))
  · rename_i he
    rw [eq_row] at he
    refine EndN.det trivial (Wk.of_eq ?_)
    rw [hno k (by omega) he]
  · refine EndN.det trivial (Wk.of_eq ?_)
    rw [hyes (by omega) (fun i hi => hok i (by omega))]
def eqT (a b : Tr) : Bool := (a.n == b.n) && ((a.lp == b.lp) && eqF a.fs b.fs)
theorem sameModel_c (a b : Tr) (ha : a.fs.length ≤ 26) (hb : b.fs.length ≤ 26) (H : Heap) : VDet Tryz.prog 24 [.agg a.cells, .agg b.cells] H (.bool (eqT a b)) := by
  have hf := fun H => sameFacts_c a.fs b.fs ha hb H
  unfold eqT
  generalize eqF a.fs b.fs = R at hf ⊢
  unfold Tr.cells
  refine fn_det Tryz.E0 Tryz.mx Tryz.func24 (by kernel_rfl) rfl (Nat.le_of_ble_eq_true rfl) rfl fun hcl hbl => ?_
  (repeat' ((conv => whnf); (first | (refine IfN.id ?_; first | refine IfN.tt rfl ?_ | refine IfN.dec (fun _ => ?_) (fun _ => ?_) | (refine IfN.mk ?_ ?_ <;> intro _) | fail) | (refine CallN.id ?_; first | refine CallN.det _ (hf _) ?_ | refine CallN.det _ (sameInts_c _) ?_ | refine CallN.det _ (sameFuncs_c _) ?_ | refine CallN.det _ (sameBinds_c _) ?_ | fail) | refine DrawN.mk' [] ?_ | fail))); all_goals (conv => whnf)
  all_goals refine EndN.det trivial (Wk.of_eq (congrArg AV.bool ?_))
  all_goals simp_all
  all_goals omega

/-! ### formulas and models of the laws -/
theorem atom_c (c : UInt8) (H : Heap) : VDet Tryz.prog 25 [.str (nm c)] H (.agg (Fm.at c).cells) := by
  unfold Fm.cells
  simp only [Fm.op, Fm.nmB, Fm.sn, Fm.sc]
  refine fn_det Tryz.E0 Tryz.mx Tryz.func25 (by kernel_rfl) rfl (Nat.le_of_ble_eq_true rfl) rfl fun hcl hbl => ?_
  (repeat' ((conv => whnf); (first | refine DrawN.mk' [] ?_ | fail))); all_goals (conv => whnf)
  exact EndN.det (by simp [below, belowL]) (wk_agg ⟨Wk.refl _, Wk.refl _, wk_nils, wk_nils, trivial⟩)
theorem join0_c (H : Heap) : VDet Tryz.prog 26 [.int .u8 2, .sl none 0 []] H (.agg Fm.fa.cells) := by
  unfold Fm.cells
  simp only [Fm.op, Fm.nmB, Fm.sn, Fm.sc]
  refine fn_det Tryz.E0 Tryz.mx Tryz.func26 (by kernel_rfl) rfl (Nat.le_of_ble_eq_true rfl) rfl fun hcl hbl => ?_
  (repeat' ((conv => whnf); (first | refine DrawN.mk' [] ?_ | fail))); all_goals (conv => whnf)
  exact EndN.det (by simp [below, belowL]) (wk_agg ⟨Wk.refl _, Wk.refl _, wk_nils, Wk.refl _, trivial⟩)
theorem join1_c (k : Nat) (a : Fm) (H : Heap) : VDet Tryz.prog 26 [.int .u8 k, .sl none 1 a.cells] H (.agg (Fm.f1 k a).cells) := by
  rw [show (Fm.f1 k a).cells = [.int .u8 (k : Nat), .str .empty, .sl none 0 [], .sl none 1 a.cells] from rfl]
  have hb : ∀ m, belowL m a.cells := fun m => by simp [Fm.cells, below, belowL, Fm.sc_below]
  generalize a.cells = ac at hb ⊢
  refine fn_det Tryz.E0 Tryz.mx Tryz.func26 (by kernel_rfl) rfl (Nat.le_of_ble_eq_true rfl) rfl fun hcl hbl => ?_
  (repeat' ((conv => whnf); (first | refine DrawN.mk' [] ?_ | fail))); all_goals (conv => whnf)
  exact EndN.det (by simp [below, belowL, hb]) (wk_agg ⟨Wk.refl _, Wk.refl _, wk_nils, Wk.refl _, trivial⟩)
theorem join2_c (k : Nat) (a b : Fm) (H : Heap) : VDet Tryz.prog 26 [.int .u8 k, .sl none 2 (a.cells ++ b.cells)] H (.agg (Fm.f2 k a b).cells) := by
  rw [show (Fm.f2 k a b).cells = [.int .u8 (k : Nat), .str .empty, .sl none 0 [], .sl none 2 (a.cells ++ b.cells)] from rfl]
  have hb : ∀ m, belowL m (a.cells ++ b.cells) := fun m => by simp [Fm.cells, below, belowL, Fm.sc_below]
  generalize a.cells ++ b.cells = ac at hb ⊢
  refine fn_det Tryz.E0 Tryz.mx Tryz.func26 (by kernel_rfl) rfl (Nat.le_of_ble_eq_true rfl) rfl fun hcl hbl => ?_
  (repeat' ((conv => whnf); (first | refine DrawN.mk' [] ?_ | fail))); all_goals (conv => whnf)
  exact EndN.det (by simp [below, belowL, hb]) (wk_agg ⟨Wk.refl _, Wk.refl _, wk_nils, Wk.refl _, trivial⟩)
theorem facts2_c (a b : Nat) (H : Heap) : VDet Tryz.prog 28 [.sl none 2 [.int .i64 a, .int .i64 b]] H (.sl none 2 ([(80, a), (81, b)].flatMap encT)) := by
  refine fn_det Tryz.E0 Tryz.mx Tryz.func28 (by kernel_rfl) rfl (Nat.le_of_ble_eq_true rfl) rfl fun hcl hbl => ?_
  (repeat' ((conv => whnf); (first | refine DrawN.mk' [] ?_ | fail))); all_goals (conv => whnf)
  refine LoopN.tok 3 60 3 rfl rfl rfl ?_
  refine LoopN.rounds Tryz.E0 Tryz.mx 3 rfl ?_
  (repeat' ((conv => whnf); (first | (refine IfN.id ?_; first | refine IfN.tt rfl ?_ | refine IfN.ff rfl ?_ | fail) | (refine EqN.id ?_; first | (refine EqN.addN _ _ (by first | with_reducible rfl | with_reducible exact cst1 | with_reducible exact cst0 | with_reducible exact cst2 | with_reducible exact cst3 | with_reducible exact cst4 | with_reducible exact cst5 | with_reducible exact cst6 | with_reducible exact cst7 | with_reducible exact cst8 | with_reducible exact cst14 | with_reducible exact cst15 | with_reducible exact cst25 | with_reducible exact cst30 | with_reducible exact cst31 | fail) (by first | with_reducible rfl | with_reducible exact cst1 | with_reducible exact cst0 | with_reducible exact cst2 | with_reducible exact cst3 | with_reducible exact cst4 | with_reducible exact cst5 | with_reducible exact cst6 | with_reducible exact cst7 | with_reducible exact cst8 | with_reducible exact cst14 | with_reducible exact cst15 | with_reducible exact cst25 | with_reducible exact cst30 | with_reducible exact cst31 | fail) ?_ ?_; · (repeat' (first | omega | refine And.intro ?_ ?_ | exact bnd_andl (by omega) | exact bnd_andr (by omega) | refine bnd_or ?_ ?_ | refine bnd_or31 ?_ ?_ | refine bnd_xor ?_ ?_ | refine bnd_xor31 ?_ ?_ | refine bnd_shr ?_ | refine bnd_shl ?_ ?_ | refine bnd_mod ?_ | refine bnd_andl ?_ | fail))) | refine EqN.remN _ _ (by first | with_reducible rfl | with_reducible exact cst1 | with_reducible exact cst0 | with_reducible exact cst2 | with_reducible exact cst3 | with_reducible exact cst4 | with_reducible exact cst5 | with_reducible exact cst6 | with_reducible exact cst7 | with_reducible exact cst8 | with_reducible exact cst14 | with_reducible exact cst15 | with_reducible exact cst25 | with_reducible exact cst30 | with_reducible exact cst31 | fail) (by first | with_reducible rfl | with_reducible exact cst1 | with_reducible exact cst0 | with_reducible exact cst2 | with_reducible exact cst3 | with_reducible exact cst4 | with_reducible exact cst5 | with_reducible exact cst6 | with_reducible exact cst7 | with_reducible exact cst8 | with_reducible exact cst14 | with_reducible exact cst15 | with_reducible exact cst25 | with_reducible exact cst30 | with_reducible exact cst31 | fail) ?_ | fail) | (refine SideN.mk ?_ ?_; · first | kernel_rfl | omega | exact List.cons_ne_nil _ _ | (simp; done) | (simp; omega) | exact trivial | assumption | fail) | refine SideN.mk ⟨rfl, rfl, rfl, by simp, by simp [maxLen]⟩ ?_ | (refine PtrN.id ?_; first | refine PtrN.loc _ rfl ?_ | fail) | refine SegN.mk _ (seg_rfl rfl) ?_ | refine DrawN.mk' [] ?_ | fail))); all_goals (conv => whnf)
  exact EndN.det ⟨(fun _ h => by cases h), encT_below _ _⟩ (wk_trans (wk_sl _ _ _) (Wk.of_eq (by kernel_rfl)))
theorem facts3_c (a b c : Nat) (H : Heap) : VDet Tryz.prog 28 [.sl none 3 [.int .i64 a, .int .i64 b, .int .i64 c]] H (.sl none 3 ([(80, a), (81, b), (82, c)].flatMap encT)) := by
  refine fn_det Tryz.E0 Tryz.mx Tryz.func28 (by kernel_rfl) rfl (Nat.le_of_ble_eq_true rfl) rfl fun hcl hbl => ?_
  (repeat' ((conv => whnf); (first | refine DrawN.mk' [] ?_ | fail))); all_goals (conv => whnf)
  refine LoopN.tok 3 60 3 rfl rfl rfl ?_
  refine LoopN.rounds Tryz.E0 Tryz.mx 4 rfl ?_
  (repeat' ((conv => whnf); (first | (refine IfN.id ?_; first | refine IfN.tt rfl ?_ | refine IfN.ff rfl ?_ | fail) | (refine EqN.id ?_; first | (refine EqN.addN _ _ (by first | with_reducible rfl | with_reducible exact cst1 | with_reducible exact cst0 | with_reducible exact cst2 | with_reducible exact cst3 | with_reducible exact cst4 | with_reducible exact cst5 | with_reducible exact cst6 | with_reducible exact cst7 | with_reducible exact cst8 | with_reducible exact cst14 | with_reducible exact cst15 | with_reducible exact cst25 | with_reducible exact cst30 | with_reducible exact cst31 | fail) (by first | with_reducible rfl | with_reducible exact cst1 | with_reducible exact cst0 | with_reducible exact cst2 | with_reducible exact cst3 | with_reducible exact cst4 | with_reducible exact cst5 | with_reducible exact cst6 | with_reducible exact cst7 | with_reducible exact cst8 | with_reducible exact cst14 | with_reducible exact cst15 | with_reducible exact cst25 | with_reducible exact cst30 | with_reducible exact cst31 | fail) ?_ ?_; · (repeat' (first | omega | refine And.intro ?_ ?_ | exact bnd_andl (by omega) | exact bnd_andr (by omega) | refine bnd_or ?_ ?_ | refine bnd_or31 ?_ ?_ | refine bnd_xor ?_ ?_ | refine bnd_xor31 ?_ ?_ | refine bnd_shr ?_ | refine bnd_shl ?_ ?_ | refine bnd_mod ?_ | refine bnd_andl ?_ | fail))) | refine EqN.remN _ _ (by first | with_reducible rfl | with_reducible exact cst1 | with_reducible exact cst0 | with_reducible exact cst2 | with_reducible exact cst3 | with_reducible exact cst4 | with_reducible exact cst5 | with_reducible exact cst6 | with_reducible exact cst7 | with_reducible exact cst8 | with_reducible exact cst14 | with_reducible exact cst15 | with_reducible exact cst25 | with_reducible exact cst30 | with_reducible exact cst31 | fail) (by first | with_reducible rfl | with_reducible exact cst1 | with_reducible exact cst0 | with_reducible exact cst2 | with_reducible exact cst3 | with_reducible exact cst4 | with_reducible exact cst5 | with_reducible exact cst6 | with_reducible exact cst7 | with_reducible exact cst8 | with_reducible exact cst14 | with_reducible exact cst15 | with_reducible exact cst25 | with_reducible exact cst30 | with_reducible exact cst31 | fail) ?_ | fail) | (refine SideN.mk ?_ ?_; · first | kernel_rfl | omega | exact List.cons_ne_nil _ _ | (simp; done) | (simp; omega) | exact trivial | assumption | fail) | refine SideN.mk ⟨rfl, rfl, rfl, by simp, by simp [maxLen]⟩ ?_ | (refine PtrN.id ?_; first | refine PtrN.loc _ rfl ?_ | fail) | refine SegN.mk _ (seg_rfl rfl) ?_ | refine DrawN.mk' [] ?_ | fail))); all_goals (conv => whnf)
  exact EndN.det ⟨(fun _ h => by cases h), encT_below _ _⟩ (wk_trans (wk_sl _ _ _) (Wk.of_eq (by kernel_rfl)))
def mdT (sz lp x y z : Nat) : Tr := ⟨1 + sz % 5, lp % (1 + sz % 5), [(80, x % 1 <<< (1 + sz % 5)), (81, y % 1 <<< (1 + sz % 5)), (82, z % 1 <<< (1 + sz % 5))]⟩
theorem Made_c (sz lp x y z : Nat) (hs : sz ≤ 255) (hl : lp ≤ 255) (hx : x ≤ 255) (hy : y ≤ 255) (hz : z ≤ 255) (H : Heap) : VDet Tryz.prog 30 [.int .u8 sz, .int .u8 lp, .agg [.int .u8 x, .int .u8 y, .int .u8 z]] H (.agg (mdT sz lp x y z).cells) := by
  have hf := fun a b c H => facts3_c a b c H
  refine fn_det Tryz.E0 Tryz.mx Tryz.func30 (by kernel_rfl) rfl (Nat.le_of_ble_eq_true rfl) rfl fun hcl hbl => ?_
  (repeat' ((conv => whnf); (first | (refine EqN.id ?_; first | (refine EqN.shlN _ _ (by first | with_reducible rfl | with_reducible exact cst1 | with_reducible exact cst0 | with_reducible exact cst2 | with_reducible exact cst3 | with_reducible exact cst4 | with_reducible exact cst5 | with_reducible exact cst6 | with_reducible exact cst7 | with_reducible exact cst8 | with_reducible exact cst14 | with_reducible exact cst15 | with_reducible exact cst25 | with_reducible exact cst30 | with_reducible exact cst31 | fail) (by first | with_reducible rfl | with_reducible exact cst1 | with_reducible exact cst0 | with_reducible exact cst2 | with_reducible exact cst3 | with_reducible exact cst4 | with_reducible exact cst5 | with_reducible exact cst6 | with_reducible exact cst7 | with_reducible exact cst8 | with_reducible exact cst14 | with_reducible exact cst15 | with_reducible exact cst25 | with_reducible exact cst30 | with_reducible exact cst31 | fail) rfl ?_ ?_ ?_; (· (repeat' (first | omega | refine And.intro ?_ ?_ | exact bnd_andl (by omega) | exact bnd_andr (by omega) | refine bnd_or ?_ ?_ | refine bnd_or31 ?_ ?_ | refine bnd_xor ?_ ?_ | refine bnd_xor31 ?_ ?_ | refine bnd_shr ?_ | refine bnd_shl ?_ ?_ | refine bnd_mod ?_ | refine bnd_andl ?_ | fail))); (· (repeat' (first | omega | refine And.intro ?_ ?_ | exact bnd_andl (by omega) | exact bnd_andr (by omega) | refine bnd_or ?_ ?_ | refine bnd_or31 ?_ ?_ | refine bnd_xor ?_ ?_ | refine bnd_xor31 ?_ ?_ | refine bnd_shr ?_ | refine bnd_shl ?_ ?_ | refine bnd_mod ?_ | refine bnd_andl ?_ | fail)))) | (refine EqN.addN _ _ (by first | with_reducible rfl | with_reducible exact cst1 | with_reducible exact cst0 | with_reducible exact cst2 | with_reducible exact cst3 | with_reducible exact cst4 | with_reducible exact cst5 | with_reducible exact cst6 | with_reducible exact cst7 | with_reducible exact cst8 | with_reducible exact cst14 | with_reducible exact cst15 | with_reducible exact cst25 | with_reducible exact cst30 | with_reducible exact cst31 | fail) (by first | with_reducible rfl | with_reducible exact cst1 | with_reducible exact cst0 | with_reducible exact cst2 | with_reducible exact cst3 | with_reducible exact cst4 | with_reducible exact cst5 | with_reducible exact cst6 | with_reducible exact cst7 | with_reducible exact cst8 | with_reducible exact cst14 | with_reducible exact cst15 | with_reducible exact cst25 | with_reducible exact cst30 | with_reducible exact cst31 | fail) ?_ ?_; · (repeat' (first | omega | refine And.intro ?_ ?_ | exact bnd_andl (by omega) | exact bnd_andr (by omega) | refine bnd_or ?_ ?_ | refine bnd_or31 ?_ ?_ | refine bnd_xor ?_ ?_ | refine bnd_xor31 ?_ ?_ | refine bnd_shr ?_ | refine bnd_shl ?_ ?_ | refine bnd_mod ?_ | refine bnd_andl ?_ | fail))) | refine EqN.remN _ _ (by first | with_reducible rfl | with_reducible exact cst1 | with_reducible exact cst0 | with_reducible exact cst2 | with_reducible exact cst3 | with_reducible exact cst4 | with_reducible exact cst5 | with_reducible exact cst6 | with_reducible exact cst7 | with_reducible exact cst8 | with_reducible exact cst14 | with_reducible exact cst15 | with_reducible exact cst25 | with_reducible exact cst30 | with_reducible exact cst31 | fail) (by first | with_reducible rfl | with_reducible exact cst1 | with_reducible exact cst0 | with_reducible exact cst2 | with_reducible exact cst3 | with_reducible exact cst4 | with_reducible exact cst5 | with_reducible exact cst6 | with_reducible exact cst7 | with_reducible exact cst8 | with_reducible exact cst14 | with_reducible exact cst15 | with_reducible exact cst25 | with_reducible exact cst30 | with_reducible exact cst31 | fail) ?_ | refine EqN.i64 (by omega) ?_ | fail) | (refine SideN.mk ?_ ?_; · first | kernel_rfl | omega | exact List.cons_ne_nil _ _ | (simp; done) | (simp; omega) | exact trivial | assumption | fail) | (refine CallD.id ?_; first | refine CallD.det _ (fun _ hq X => VDet.wk (hf _ _ _ _) (by (repeat' (first | exact trivial | refine And.intro ?_ ?_ | exact Wk.refl _ | exact wk_sl _ _ _ | exact wk_sx _ _ | exact wk_nils | refine wk_agg ?_ | refine wk_tup ?_ | fail)); done)) ?_ | fail) | refine OfsN.at_ (by omega) ?_ | refine DrawN.mk' [] ?_ | fail))); all_goals (conv => whnf)
  exact EndN.det (by simp [below, belowL, Tr.cells, encT_below]) (wk_agg ⟨Wk.refl _, Wk.refl _, wk_nils, Wk.refl _, Wk.refl _, wk_nils, wk_nils, trivial⟩)
end Go.Proofs.YtjflngchbeegcaaGreatDoor
/-! text G14z -/
namespace Go.Proofs.YtjflngchbeegcaaGreatDoor
open Go.Vsi

/-! ### parts of traces -/
/-! ### traces that tell the same -/
structure Eqv (a b : Tr) : Prop where
  len : a.fs.length = b.fs.length
  nm : ∀ i, i < a.fs.length → (ft a.fs i).1 = (ft b.fs i).1
  bit : ∀ i, i < a.fs.length → ∀ x, tm a.n a.lp (ft a.fs i).2 x = tm b.n b.lp (ft b.fs i).2 x
theorem Eqv.refl (a : Tr) : Eqv a a := ⟨rfl, fun _ _ => rfl, fun _ _ _ => rfl⟩
theorem Eqv.symm {a b : Tr} (h : Eqv a b) : Eqv b a := ⟨h.len.symm, fun i hi => (h.nm i (by rw [h.len]; exact hi)).symm, fun i hi x => (h.bit i (by rw [h.len]; exact hi) x).symm⟩
theorem Eqv.trans {a b c : Tr} (h : Eqv a b) (h2 : Eqv b c) : Eqv a c := ⟨h.len.trans h2.len, fun i hi => (h.nm i hi).trans (h2.nm i (by rw [← h.len]; exact hi)), fun i hi x => (h.bit i hi x).trans (h2.bit i (by rw [← h.len]; exact hi) x)⟩
theorem bitAt_tm (t : Tr) (i x : Nat) : bitAt t i x = (tm t.n t.lp (ft t.fs i).2 x).toNat := bit1 _ _
theorem posN_per {la da : Nat} (h5 : la + da ≤ 5) (r m : Nat) : posN (la + da) la (5 + r + da * m) = posN (la + da) la (5 + r) := by
  unfold posN
  rw [if_neg (by omega), if_neg (by omega), Nat.add_sub_cancel_left, show 5 + r + da * m - la = 5 + r - la + da * m by omega, Nat.add_mul_mod_self_left]
theorem common {na la nb lb : Nat} (ha : la < na) (hb : lb < nb) (ha5 : na ≤ 5) (hb5 : nb ≤ 5) (x : Nat) : ∃ y, y < 25 ∧ posN na la y = posN na la x ∧ posN nb lb y = posN nb lb x := by
  obtain ⟨da, hda, rfl⟩ : ∃ d, 1 ≤ d ∧ na = la + d := ⟨na - la, by omega, by omega⟩
  obtain ⟨db, hdb, rfl⟩ : ∃ d, 1 ≤ d ∧ nb = lb + d := ⟨nb - lb, by omega, by omega⟩
  by_cases hx : x < 25
  · exact ⟨x, hx, rfl, rfl⟩
  obtain ⟨L, h1, h20, ⟨k, hk⟩, ⟨k', hk'⟩⟩ : ∃ L, 1 ≤ L ∧ L ≤ 20 ∧ (∃ k, L = da * k) ∧ (∃ k, L = db * k) := by
    by_cases e : da = db
    · exact ⟨da, hda, by omega, ⟨1, by omega⟩, ⟨1, by omega⟩⟩
    · refine ⟨da * db, Nat.mul_pos hda hdb, ?_, ⟨db, rfl⟩, ⟨da, Nat.mul_comm ..⟩⟩
      have : da = 1 ∨ da = 2 ∨ da = 3 ∨ da = 4 ∨ da = 5 := by omega
      rcases this with rfl | rfl | rfl | rfl | rfl <;> omega
  have hr := Nat.mod_lt (x - 5) h1
  have hd := Nat.div_add_mod (x - 5) L
  have hxe : x = 5 + (x - 5) % L + L * ((x - 5) / L) := by omega
  refine ⟨5 + (x - 5) % L, by omega, ?_, ?_⟩
  · conv => rhs; rw [hxe, hk, Nat.mul_assoc, ← hk, posN_per ha5]
  · conv => rhs; rw [hxe, hk', Nat.mul_assoc, ← hk', posN_per hb5]
theorem sameB_iff {a b : Tr} (ha : a.Ok) (hb : b.Ok) : sameB a b = true ↔ Eqv a b := by
  unfold sameB
  rw [Bool.and_eq_true, beq_iff_eq, List.all_eq_true]
  unfold rowS
  simp only [List.mem_range, Bool.and_eq_true, beq_iff_eq, List.all_eq_true]
  have hb1 : ∀ x y : Bool, x.toNat = y.toNat → x = y := by decide
  constructor
  · rintro ⟨h1, h2⟩
    refine ⟨h1, fun i hi => (h2 i hi).1, fun i hi x => ?_⟩
    obtain ⟨y, hy, e1, e2⟩ := common ha.lp hb.lp ha.n5 hb.n5 x
    have := (h2 i hi).2 y hy
    rw [bitAt_tm, bitAt_tm] at this
    have := hb1 _ _ this
    unfold tm at this ⊢
    rwa [e1, e2] at this
  · intro h
    refine ⟨h.len, fun i hi => ⟨h.nm i hi, fun x _ => ?_⟩⟩
    rw [bitAt_tm, bitAt_tm, h.bit i hi x]

/-! ### the shortest trace -/
theorem shT_ok {t : Tr} (ht : t.Ok) {j x : Nat} (hj : j ≤ 4) (hx : x ≤ j) : (shT t j x).Ok := taken_ok ht _ _ (by rw [olds_len]; omega) (by rw [olds_len]; omega) (by rw [olds_len]; omega)
structure First (t : Tr) (K L : Nat) : Prop where
  hK : K < t.n
  hL : L ≤ K
  no : ∀ j, j < K → ∀ x, x ≤ j → shB t j x = false
  no2 : ∀ x, x < L → shB t K x = false
  yes : shB t K L = true
theorem First.ok {t : Tr} {K L : Nat} (ht : t.Ok) (f : First t K L) : (shT t K L).Ok := shT_ok ht (by have := ht.n5; have := f.hK; omega) f.hL
theorem First.same {t : Tr} {K L : Nat} (ht : t.Ok) (f : First t K L) : Eqv (shT t K L) t := (sameB_iff (f.ok ht) ht).1 f.yes
end Go.Proofs.YtjflngchbeegcaaGreatDoor
/-! text B14z -/
namespace Go.Proofs.YtjflngchbeegcaaGreatDoor
open Go.Vsi
set_option maxHeartbeats 4000000
attribute [local irreducible] VW VCall VO bits
theorem ok2 (n lp a b : Nat) (h1 : 1 ≤ n) (h5 : n ≤ 5) (hl : lp < n) (ha : a < 2 ^ n) (hb : b < 2 ^ n) : Tr.Ok ⟨n, lp, [(80, a), (81, b)]⟩ := by
  refine ⟨h1, h5, hl, by simp, fun i hi => ?_, fun i hi => ?_, fun i hi => ?_⟩
  · have : i = 0 ∨ i = 1 := by simp at hi; omega
    rcases this with rfl | rfl
    · exact (⟨by decide, by decide⟩ : cap 80)
    · exact (⟨by decide, by decide⟩ : cap 81)
  · have : i = 0 := by simp at hi; omega
    subst this
    show (80 : UInt8).toNat < (81 : UInt8).toNat
    decide
  · have : i = 0 ∨ i = 1 := by simp at hi; omega
    rcases this with rfl | rfl
    · exact ha
    · exact hb
def m3 : Tr := ⟨3, 1, [(80, 5), (81, 2)]⟩
def m2 : Tr := ⟨2, 0, [(80, 1), (81, 2)]⟩
theorem m3_ok : m3.Ok := ok2 3 1 5 2 (by decide) (by decide) (by decide) (by decide) (by decide)
theorem m2_ok : m2.Ok := ok2 2 0 1 2 (by decide) (by decide) (by decide) (by decide) (by decide)
theorem at3 (f : Fm) (v : Nat) (hf : f.Ok) (ht : f.Temp) (hn : f.nodes ≤ 40) (hm : miss m3 f = false) (hv : evT m3 f = v) (H : Heap) : VDet Tryz.prog 34 [.agg m3.cells, .agg f.cells] H (.tup [.int .i64 (v : Nat), .int .i64 0]) := by
  have := At_c m3 m3_ok f hf ht hn H
  rw [hm, hv] at this
  exact this
def fP : Fm := .at 80
def fQ : Fm := .at 81
theorem capP : cap 80 := ⟨by decide, by decide⟩
theorem capQ : cap 81 := ⟨by decide, by decide⟩
theorem nm1_ok : NmOk [80] := ⟨by decide, fun i hi => by
  have : i = 0 := by simp at hi; exact hi
  subst this; exact capP, fun i h0 hi => by simp at hi; omega⟩
theorem awake_c (H : Heap) : VDet Tryz.prog 7 [] H (.bool true) := by
  have a1 := at3 (.f1 12 fP) 2 ⟨by simp [is1], capP⟩ ⟨by simp, trivial⟩ (by decide) (by kernel_rfl) (by kernel_rfl)
  have a2 := at3 (.f1 13 fP) 0 ⟨by simp [is1], capP⟩ ⟨by simp, trivial⟩ (by decide) (by kernel_rfl) (by kernel_rfl)
  have a3 := at3 (.f1 13 (.f2 5 fP fQ)) 7 ⟨by simp [is1], by simp [is2], capP, capQ⟩ ⟨by simp, by simp [is2], trivial, trivial⟩ (by decide) (by kernel_rfl) (by kernel_rfl)
  have a4 := at3 (.f2 14 fP fQ) 7 ⟨by simp [is2], capP, capQ⟩ ⟨by simp [is2], trivial, trivial⟩ (by decide) (by kernel_rfl) (by kernel_rfl)
  have a5 := at3 (.f2 14 fQ (.f1 12 fQ)) 7 ⟨by simp [is2], capQ, by simp [is1], capQ⟩ ⟨by simp [is2], trivial, by simp, trivial⟩ (by decide) (by kernel_rfl) (by kernel_rfl)
  have p0 := Position_c m3 m3_ok 0 (by decide)
  have p1 := Position_c m3 m3_ok 1 (by decide)
  have p2 := Position_c m3 m3_ok 2 (by decide)
  have p3 := Position_c m3 m3_ok 3 (by decide)
  have p4 := Position_c m3 m3_ok 4 (by decide)
  have s1 := Suffix_c m3 m3_ok 2 (by decide)
  have s2 := Short_c m3 m3_ok 1 0 (by decide) (by decide) (fun j hj x hx => by
    have : j = 0 := by omega
    subst this
    have : x = 0 := by omega
    subst this
    exact (by kernel_rfl : shB m3 0 0 = false)) (fun x hx => absurd hx (Nat.not_lt_zero x)) (by kernel_rfl)
  have s3 := Same_c m3 m2 m3_ok m2_ok
  have c1 := Count_c [80] nm1_ok 2 (by decide) (by decide)
  have c2 := Nth_1 80 nm1_ok 2 5 (by decide) (by decide) (by decide) (by decide)
  have e1 := sameModel_c (sufT m3 2) m2 (by decide) (by decide)
  have e2 := sameModel_c (shT m3 1 0) m2 (by decide) (by decide)
  rw [show eqT (sufT m3 2) m2 = true by kernel_rfl] at e1
  rw [show eqT (shT m3 1 0) m2 = true by kernel_rfl] at e2
  rw [show sameB m3 m2 = true by kernel_rfl] at s3
  rw [show cntN ([80] : List UInt8).length 2 = 8 by kernel_rfl] at c1
  rw [show posN m3.n m3.lp 0 = 0 by kernel_rfl] at p0
  rw [show posN m3.n m3.lp 1 = 1 by kernel_rfl] at p1
  rw [show posN m3.n m3.lp 2 = 2 by kernel_rfl] at p2
  rw [show posN m3.n m3.lp 3 = 1 by kernel_rfl] at p3
  rw [show posN m3.n m3.lp 4 = 2 by kernel_rfl] at p4
  rw [show sufT m3 2 = m2 by kernel_rfl] at s1 e1
  rw [show shT m3 1 0 = m2 by kernel_rfl] at s2 e2
  rw [show nthT [80] 2 5 = ⟨2, 1, [(80, 1)]⟩ by kernel_rfl] at c2
  refine fn_det Tryz.E0 Tryz.mx Tryz.func7 (by kernel_rfl) rfl (Nat.le_of_ble_eq_true rfl) rfl fun hcl hbl => ?_
  (repeat' ((conv => whnf); (first | (refine SideN.mk ?_ ?_; · first | kernel_rfl | omega | exact List.cons_ne_nil _ _ | (simp; done) | (simp; omega) | exact trivial | assumption | fail) | (refine CallN.id ?_; first | refine CallN.det _ (atom_c 80 _) ?_ | refine CallN.det _ (atom_c 81 _) ?_ | refine CallN.det _ (VDet.wk (facts2_c 5 2 _) ⟨wk_sx _ _, trivial⟩) ?_ | fail) | (refine CallD.id ?_; first | refine CallD.det _ (fun _ hq X => VDet.wk (join1_c 12 fP _) ⟨Wk.refl _, wk_sx _ _, trivial⟩) ?_ | refine CallD.det _ (fun _ hq X => VDet.wk (join1_c 13 fP _) ⟨Wk.refl _, wk_sx _ _, trivial⟩) ?_ | refine CallD.det _ (fun _ hq X => VDet.wk (join2_c 5 fP fQ _) ⟨Wk.refl _, wk_sx _ _, trivial⟩) ?_ | refine CallD.det _ (fun _ hq X => VDet.wk (join1_c 13 (.f2 5 fP fQ) _) ⟨Wk.refl _, wk_sx _ _, trivial⟩) ?_ | refine CallD.det _ (fun _ hq X => VDet.wk (join2_c 14 fP fQ _) ⟨Wk.refl _, wk_sx _ _, trivial⟩) ?_ | refine CallD.det _ (fun _ hq X => VDet.wk (join1_c 12 fQ _) ⟨Wk.refl _, wk_sx _ _, trivial⟩) ?_ | refine CallD.det _ (fun _ hq X => VDet.wk (join2_c 14 fQ (.f1 12 fQ) _) ⟨Wk.refl _, wk_sx _ _, trivial⟩) ?_ | fail) | refine DrawN.mk' [] ?_ | fail))); all_goals (conv => whnf)
  refine LoopN.rounds Tryz.E0 Tryz.mx 6 rfl ?_
  (repeat' ((conv => whnf); (first | (refine IfN.id ?_; first | refine IfN.not ?_ | refine IfN.tt rfl ?_ | refine IfN.ff rfl ?_ | fail) | (refine EqN.id ?_; first | (refine EqN.addN _ _ (by first | with_reducible rfl | with_reducible exact cst1 | with_reducible exact cst0 | with_reducible exact cst2 | with_reducible exact cst3 | with_reducible exact cst4 | with_reducible exact cst5 | with_reducible exact cst6 | with_reducible exact cst7 | with_reducible exact cst8 | with_reducible exact cst14 | with_reducible exact cst15 | with_reducible exact cst25 | with_reducible exact cst30 | with_reducible exact cst31 | fail) (by first | with_reducible rfl | with_reducible exact cst1 | with_reducible exact cst0 | with_reducible exact cst2 | with_reducible exact cst3 | with_reducible exact cst4 | with_reducible exact cst5 | with_reducible exact cst6 | with_reducible exact cst7 | with_reducible exact cst8 | with_reducible exact cst14 | with_reducible exact cst15 | with_reducible exact cst25 | with_reducible exact cst30 | with_reducible exact cst31 | fail) ?_ ?_; · (repeat' (first | omega | refine And.intro ?_ ?_ | exact bnd_andl (by omega) | exact bnd_andr (by omega) | refine bnd_or ?_ ?_ | refine bnd_or31 ?_ ?_ | refine bnd_xor ?_ ?_ | refine bnd_xor31 ?_ ?_ | refine bnd_shr ?_ | refine bnd_shl ?_ ?_ | refine bnd_mod ?_ | refine bnd_andl ?_ | fail))) | refine EqN.remN _ _ (by first | with_reducible rfl | with_reducible exact cst1 | with_reducible exact cst0 | with_reducible exact cst2 | with_reducible exact cst3 | with_reducible exact cst4 | with_reducible exact cst5 | with_reducible exact cst6 | with_reducible exact cst7 | with_reducible exact cst8 | with_reducible exact cst14 | with_reducible exact cst15 | with_reducible exact cst25 | with_reducible exact cst30 | with_reducible exact cst31 | fail) (by first | with_reducible rfl | with_reducible exact cst1 | with_reducible exact cst0 | with_reducible exact cst2 | with_reducible exact cst3 | with_reducible exact cst4 | with_reducible exact cst5 | with_reducible exact cst6 | with_reducible exact cst7 | with_reducible exact cst8 | with_reducible exact cst14 | with_reducible exact cst15 | with_reducible exact cst25 | with_reducible exact cst30 | with_reducible exact cst31 | fail) ?_ | fail) | (refine SideN.mk ?_ ?_; · first | kernel_rfl | omega | exact List.cons_ne_nil _ _ | (simp; done) | (simp; omega) | exact trivial | assumption | fail) | (refine CallN.id ?_; first | refine CallN.det _ (VDet.wk (facts2_c 1 2 _) ⟨wk_sx _ _, trivial⟩) ?_ | refine CallN.det _ (VDet.wk (a1 _) ⟨wk_agg ⟨Wk.refl _, Wk.refl _, wk_nils, Wk.refl _, Wk.refl _, wk_nils, wk_nils, trivial⟩, Wk.refl _, trivial⟩) ?_ | refine CallN.det _ (VDet.wk (a2 _) ⟨wk_agg ⟨Wk.refl _, Wk.refl _, wk_nils, Wk.refl _, Wk.refl _, wk_nils, wk_nils, trivial⟩, Wk.refl _, trivial⟩) ?_ | refine CallN.det _ (VDet.wk (a3 _) ⟨wk_agg ⟨Wk.refl _, Wk.refl _, wk_nils, Wk.refl _, Wk.refl _, wk_nils, wk_nils, trivial⟩, Wk.refl _, trivial⟩) ?_ | refine CallN.det _ (VDet.wk (a4 _) ⟨wk_agg ⟨Wk.refl _, Wk.refl _, wk_nils, Wk.refl _, Wk.refl _, wk_nils, wk_nils, trivial⟩, Wk.refl _, trivial⟩) ?_ | refine CallN.det _ (VDet.wk (a5 _) ⟨wk_agg ⟨Wk.refl _, Wk.refl _, wk_nils, Wk.refl _, Wk.refl _, wk_nils, wk_nils, trivial⟩, Wk.refl _, trivial⟩) ?_ | refine CallN.det _ (VDet.wk (p0 _) ⟨wk_agg ⟨Wk.refl _, Wk.refl _, wk_nils, Wk.refl _, Wk.refl _, wk_nils, wk_nils, trivial⟩, Wk.refl _, trivial⟩) ?_ | refine CallN.det _ (VDet.wk (p1 _) ⟨wk_agg ⟨Wk.refl _, Wk.refl _, wk_nils, Wk.refl _, Wk.refl _, wk_nils, wk_nils, trivial⟩, Wk.refl _, trivial⟩) ?_ | refine CallN.det _ (VDet.wk (p2 _) ⟨wk_agg ⟨Wk.refl _, Wk.refl _, wk_nils, Wk.refl _, Wk.refl _, wk_nils, wk_nils, trivial⟩, Wk.refl _, trivial⟩) ?_ | refine CallN.det _ (VDet.wk (p3 _) ⟨wk_agg ⟨Wk.refl _, Wk.refl _, wk_nils, Wk.refl _, Wk.refl _, wk_nils, wk_nils, trivial⟩, Wk.refl _, trivial⟩) ?_ | refine CallN.det _ (VDet.wk (p4 _) ⟨wk_agg ⟨Wk.refl _, Wk.refl _, wk_nils, Wk.refl _, Wk.refl _, wk_nils, wk_nils, trivial⟩, Wk.refl _, trivial⟩) ?_ | refine CallN.det _ (VDet.wk (s1 _) ⟨wk_agg ⟨Wk.refl _, Wk.refl _, wk_nils, Wk.refl _, Wk.refl _, wk_nils, wk_nils, trivial⟩, Wk.refl _, trivial⟩) ?_ | refine CallN.det _ (VDet.wk (s2 _) ⟨wk_agg ⟨Wk.refl _, Wk.refl _, wk_nils, Wk.refl _, Wk.refl _, wk_nils, wk_nils, trivial⟩, trivial⟩) ?_ | refine CallN.det _ (VDet.wk (s3 _) ⟨wk_agg ⟨Wk.refl _, Wk.refl _, wk_nils, Wk.refl _, Wk.refl _, wk_nils, wk_nils, trivial⟩, wk_agg ⟨Wk.refl _, Wk.refl _, wk_nils, Wk.refl _, Wk.refl _, wk_nils, wk_nils, trivial⟩, trivial⟩) ?_ | refine CallN.det _ (VDet.wk (c1 _) ⟨wk_sx _ _, Wk.refl _, trivial⟩) ?_ | refine CallN.det _ (VDet.wk (c2 _) ⟨wk_sx _ _, Wk.refl _, Wk.refl _, trivial⟩) ?_ | refine CallN.det _ (VDet.wk (e1 _) ⟨Wk.refl _, wk_agg ⟨Wk.refl _, Wk.refl _, wk_nils, Wk.refl _, Wk.refl _, wk_nils, wk_nils, trivial⟩, trivial⟩) ?_ | fail) | refine SegN.mk _ (seg_rfl rfl) ?_ | refine DrawN.mk' [] ?_ | fail))); all_goals (conv => whnf)
  exact EndN.det trivial (Wk.of_eq (by kernel_rfl))
end Go.Proofs.YtjflngchbeegcaaGreatDoor
/-! text I14z -/
namespace Go.Proofs.YtjflngchbeegcaaGreatDoor
open Go.Vsi
set_option maxHeartbeats 4000000
attribute [local irreducible] VW VCall VO bits
/-! ### the traces by their numbers are traces -/
/-! ### the traces of Made -/
theorem one_shl (n : Nat) : 1 <<< n = 2 ^ n := by rw [Nat.shiftLeft_eq, Nat.one_mul]
theorem ok3 (n lp a b c : Nat) (h1 : 1 ≤ n) (h5 : n ≤ 5) (hl : lp < n) (ha : a < 2 ^ n) (hb : b < 2 ^ n) (hc : c < 2 ^ n) : Tr.Ok ⟨n, lp, [(80, a), (81, b), (82, c)]⟩ := by
  refine ⟨h1, h5, hl, by simp, fun i hi => ?_, fun i hi => ?_, fun i hi => ?_⟩
  · have : i = 0 ∨ i = 1 ∨ i = 2 := by simp at hi; omega
    rcases this with rfl | rfl | rfl
    · exact (⟨by decide, by decide⟩ : cap 80)
    · exact (⟨by decide, by decide⟩ : cap 81)
    · exact (⟨by decide, by decide⟩ : cap 82)
  · have : i = 0 ∨ i = 1 := by simp at hi; omega
    rcases this with rfl | rfl
    · show (80 : UInt8).toNat < (81 : UInt8).toNat
      decide
    · show (81 : UInt8).toNat < (82 : UInt8).toNat
      decide
  · have : i = 0 ∨ i = 1 ∨ i = 2 := by simp at hi; omega
    rcases this with rfl | rfl | rfl
    · exact ha
    · exact hb
    · exact hc
theorem made_ex (sz lp x y z : Nat) : ∃ n l a b c, mdT sz lp x y z = ⟨n, l, [(80, a), (81, b), (82, c)]⟩ ∧ 1 ≤ n ∧ n ≤ 5 ∧ l < n ∧ a < 2 ^ n ∧ b < 2 ^ n ∧ c < 2 ^ n := by
  have h2 := Nat.two_pow_pos (1 + sz % 5)
  refine ⟨1 + sz % 5, lp % (1 + sz % 5), _, _, _, rfl, by omega, by omega, Nat.mod_lt _ (by omega), ?_, ?_, ?_⟩
  all_goals rw [one_shl]; exact Nat.mod_lt _ h2

/-! ### TraceLeast -/
end Go.Proofs.YtjflngchbeegcaaGreatDoor
