/- A text of the proof: the parts K13, L13, M13, N13, O13, P13, Q13, S13. -/
import Derived.Test.YtjflngchbeegcaaDoorK5
set_option linter.unusedSimpArgs false
set_option linter.unusedVariables false
/-! text K13 -/
namespace Go.Proofs.YtjflngchbeegcaaDoor
open Go.Vsi
set_option maxHeartbeats 1000000
attribute [local irreducible] VW VCall VO bits

theorem form_at (c : UInt8) (hc : cap c) (H : Heap) (i L d : Nat) (hi : H[i]? = some (jb L)) (hL : 1 ≤ L ∧ L ≤ 400) (hd : d ≤ 40) : VCall Tryd.prog 71 [.ptr i 0, .agg (Fm.at c).cells, .int .i64 d] H (setR H i (jb (L - 1)) (.bool true)) := by
  have hn := fun X => node_c (H ++ X) i L d (at_base' hi) hL hd
  unfold jb at hi hn ⊢
  unfold Fm.cells
  simp only [Fm.op, Fm.nmB, Fm.sn, Fm.sc]
  refine fn_gen Tryd.E0 Tryd.mx Tryd.func71 (by kernel_rfl) rfl (Nat.le_of_ble_eq_true rfl) rfl fun hcl hbl => ?_
  (repeat' ((conv => whnf); (first | (refine IfN.id ?_; first | refine IfN.not ?_ | refine IfN.tt rfl ?_ | refine IfN.ff rfl ?_ | fail) | (refine EqN.id ?_; first | (refine EqN.addN _ _ (by first | with_reducible rfl | with_reducible exact cst1 | with_reducible exact cst0 | with_reducible exact cst2 | with_reducible exact cst3 | with_reducible exact cst4 | with_reducible exact cst5 | with_reducible exact cst6 | with_reducible exact cst7 | with_reducible exact cst8 | with_reducible exact cst14 | with_reducible exact cst15 | with_reducible exact cst25 | with_reducible exact cst30 | with_reducible exact cst31 | fail) (by first | with_reducible rfl | with_reducible exact cst1 | with_reducible exact cst0 | with_reducible exact cst2 | with_reducible exact cst3 | with_reducible exact cst4 | with_reducible exact cst5 | with_reducible exact cst6 | with_reducible exact cst7 | with_reducible exact cst8 | with_reducible exact cst14 | with_reducible exact cst15 | with_reducible exact cst25 | with_reducible exact cst30 | with_reducible exact cst31 | fail) ?_ ?_; · (repeat' (first | omega | refine And.intro ?_ ?_ | exact bnd_andl (by omega) | exact bnd_andr (by omega) | refine bnd_or ?_ ?_ | refine bnd_or31 ?_ ?_ | refine bnd_xor ?_ ?_ | refine bnd_xor31 ?_ ?_ | refine bnd_shr ?_ | refine bnd_shl ?_ ?_ | refine bnd_mod ?_ | refine bnd_andl ?_ | fail))) | refine EqN.remN _ _ (by first | with_reducible rfl | with_reducible exact cst1 | with_reducible exact cst0 | with_reducible exact cst2 | with_reducible exact cst3 | with_reducible exact cst4 | with_reducible exact cst5 | with_reducible exact cst6 | with_reducible exact cst7 | with_reducible exact cst8 | with_reducible exact cst14 | with_reducible exact cst15 | with_reducible exact cst25 | with_reducible exact cst30 | with_reducible exact cst31 | fail) (by first | with_reducible rfl | with_reducible exact cst1 | with_reducible exact cst0 | with_reducible exact cst2 | with_reducible exact cst3 | with_reducible exact cst4 | with_reducible exact cst5 | with_reducible exact cst6 | with_reducible exact cst7 | with_reducible exact cst8 | with_reducible exact cst14 | with_reducible exact cst15 | with_reducible exact cst25 | with_reducible exact cst30 | with_reducible exact cst31 | fail) ?_ | fail) | (refine SideN.mk ?_ ?_; · first | kernel_rfl | omega | exact List.cons_ne_nil _ _ | (simp; done) | (simp; omega) | exact trivial | assumption | fail) | (refine CallN.id ?_; first | refine CallN.det _ (named1_c c hc _) ?_ | refine CallN.det _ (terms_c _ _ _) ?_ | fail) | refine CallN.setB i _ _ _ _ hi rfl rfl (hn _) rfl ?_ | refine SegN.mk _ (seg_rfl rfl) ?_ | fail))); all_goals (conv => whnf)
  refine LoopN.rounds Tryd.E0 Tryd.mx 1 (by simp) ?_
  (repeat' ((conv => whnf); (first | (refine IfN.id ?_; first | refine IfN.ff rfl ?_ | fail) | fail))); all_goals (conv => whnf)
  exact EndN.setB (by simp [Blk.below, belowL, below]) trivial (Wk.refl _)
theorem form_fa (H : Heap) (i L d : Nat) (hi : H[i]? = some (jb L)) (hL : 1 ≤ L ∧ L ≤ 400) (hd : d ≤ 40) : VCall Tryd.prog 71 [.ptr i 0, .agg Fm.fa.cells, .int .i64 d] H (setR H i (jb (L - 1)) (.bool true)) := by
  have hn := fun X => node_c (H ++ X) i L d (at_base' hi) hL hd
  unfold jb at hi hn ⊢
  unfold Fm.cells
  simp only [Fm.op, Fm.nmB, Fm.sn, Fm.sc]
  refine fn_gen Tryd.E0 Tryd.mx Tryd.func71 (by kernel_rfl) rfl (Nat.le_of_ble_eq_true rfl) rfl fun hcl hbl => ?_
  (repeat' ((conv => whnf); (first | (refine IfN.id ?_; first | refine IfN.not ?_ | refine IfN.tt rfl ?_ | refine IfN.ff rfl ?_ | fail) | (refine EqN.id ?_; first | (refine EqN.addN _ _ (by first | with_reducible rfl | with_reducible exact cst1 | with_reducible exact cst0 | with_reducible exact cst2 | with_reducible exact cst3 | with_reducible exact cst4 | with_reducible exact cst5 | with_reducible exact cst6 | with_reducible exact cst7 | with_reducible exact cst8 | with_reducible exact cst14 | with_reducible exact cst15 | with_reducible exact cst25 | with_reducible exact cst30 | with_reducible exact cst31 | fail) (by first | with_reducible rfl | with_reducible exact cst1 | with_reducible exact cst0 | with_reducible exact cst2 | with_reducible exact cst3 | with_reducible exact cst4 | with_reducible exact cst5 | with_reducible exact cst6 | with_reducible exact cst7 | with_reducible exact cst8 | with_reducible exact cst14 | with_reducible exact cst15 | with_reducible exact cst25 | with_reducible exact cst30 | with_reducible exact cst31 | fail) ?_ ?_; · (repeat' (first | omega | refine And.intro ?_ ?_ | exact bnd_andl (by omega) | exact bnd_andr (by omega) | refine bnd_or ?_ ?_ | refine bnd_or31 ?_ ?_ | refine bnd_xor ?_ ?_ | refine bnd_xor31 ?_ ?_ | refine bnd_shr ?_ | refine bnd_shl ?_ ?_ | refine bnd_mod ?_ | refine bnd_andl ?_ | fail))) | refine EqN.remN _ _ (by first | with_reducible rfl | with_reducible exact cst1 | with_reducible exact cst0 | with_reducible exact cst2 | with_reducible exact cst3 | with_reducible exact cst4 | with_reducible exact cst5 | with_reducible exact cst6 | with_reducible exact cst7 | with_reducible exact cst8 | with_reducible exact cst14 | with_reducible exact cst15 | with_reducible exact cst25 | with_reducible exact cst30 | with_reducible exact cst31 | fail) (by first | with_reducible rfl | with_reducible exact cst1 | with_reducible exact cst0 | with_reducible exact cst2 | with_reducible exact cst3 | with_reducible exact cst4 | with_reducible exact cst5 | with_reducible exact cst6 | with_reducible exact cst7 | with_reducible exact cst8 | with_reducible exact cst14 | with_reducible exact cst15 | with_reducible exact cst25 | with_reducible exact cst30 | with_reducible exact cst31 | fail) ?_ | fail) | (refine SideN.mk ?_ ?_; · first | kernel_rfl | omega | exact List.cons_ne_nil _ _ | (simp; done) | (simp; omega) | exact trivial | assumption | fail) | (refine CallN.id ?_; first | refine CallN.det _ (named0_c _) ?_ | refine CallN.det _ (terms_c _ _ _) ?_ | fail) | refine CallN.setB i _ _ _ _ hi rfl rfl (hn _) rfl ?_ | refine SegN.mk _ (seg_rfl rfl) ?_ | fail))); all_goals (conv => whnf)
  refine LoopN.rounds Tryd.E0 Tryd.mx 1 (by simp) ?_
  (repeat' ((conv => whnf); (first | (refine IfN.id ?_; first | refine IfN.ff rfl ?_ | fail) | fail))); all_goals (conv => whnf)
  exact EndN.setB (by simp [Blk.below, belowL, below]) trivial (Wk.refl _)
/-- what is known of a part -/
def FormIH (a : Fm) : Prop := ∀ (H : Heap) (i L d : Nat), H[i]? = some (jb L) → a.nodes ≤ L ∧ L ≤ 400 → d + a.depth ≤ 41 → VCall Tryd.prog 71 [.ptr i 0, .agg a.cells, .int .i64 d] H (setR H i (jb (L - a.nodes)) (.bool true))
theorem form_f1_3 (a : Fm) (ih : FormIH a) (H : Heap) (i L d : Nat) (hi : H[i]? = some (jb L)) (hL : a.nodes + 1 ≤ L ∧ L ≤ 400) (hd : d + (a.depth + 1) ≤ 41) : VCall Tryd.prog 71 [.ptr i 0, .agg (Fm.f1 3 a).cells, .int .i64 d] H (setR H i (jb (L - (a.nodes + 1))) (.bool true)) := by
  have hp := a.nodes_pos
  have hpd := a.depth_pos
  have hn := fun X => node_c (H ++ X) i L d (at_base' hi) (by omega) (by omega)
  have h1 := fun X => ih (H.set i (jb (L - 1)) ++ X) i (L - 1) (d + 1) (at_base' (at_set hi)) (by omega) (by omega)
  rw [show L - 1 - a.nodes = L - (a.nodes + 1) by omega] at h1
  unfold jb at hi hn h1 ⊢
  rw [show (Fm.f1 3 a).cells = [.int .u8 (3 : Nat), .str .empty, .sl none 0 [], .sl none 1 [.int .u8 a.op, .str a.nmB, .sl none 0 [], .sl none a.sn a.sc]] from rfl]
  unfold Fm.cells at h1
  generalize a.op = ao at h1 ⊢
  generalize a.nmB = an at h1 ⊢
  generalize a.sn = asn at h1 ⊢
  generalize a.sc = asc at h1 ⊢
  refine fn_gen Tryd.E0 Tryd.mx Tryd.func71 (by kernel_rfl) rfl (Nat.le_of_ble_eq_true rfl) rfl fun hcl hbl => ?_
  (repeat' ((conv => whnf); (first | (refine IfN.id ?_; first | refine IfN.not ?_ | refine IfN.tt rfl ?_ | refine IfN.ff rfl ?_ | fail) | (refine EqN.id ?_; first | (refine EqN.addN _ _ (by first | with_reducible rfl | with_reducible exact cst1 | with_reducible exact cst0 | with_reducible exact cst2 | with_reducible exact cst3 | with_reducible exact cst4 | with_reducible exact cst5 | with_reducible exact cst6 | with_reducible exact cst7 | with_reducible exact cst8 | with_reducible exact cst14 | with_reducible exact cst15 | with_reducible exact cst25 | with_reducible exact cst30 | with_reducible exact cst31 | fail) (by first | with_reducible rfl | with_reducible exact cst1 | with_reducible exact cst0 | with_reducible exact cst2 | with_reducible exact cst3 | with_reducible exact cst4 | with_reducible exact cst5 | with_reducible exact cst6 | with_reducible exact cst7 | with_reducible exact cst8 | with_reducible exact cst14 | with_reducible exact cst15 | with_reducible exact cst25 | with_reducible exact cst30 | with_reducible exact cst31 | fail) ?_ ?_; · (repeat' (first | omega | refine And.intro ?_ ?_ | exact bnd_andl (by omega) | exact bnd_andr (by omega) | refine bnd_or ?_ ?_ | refine bnd_or31 ?_ ?_ | refine bnd_xor ?_ ?_ | refine bnd_xor31 ?_ ?_ | refine bnd_shr ?_ | refine bnd_shl ?_ ?_ | refine bnd_mod ?_ | refine bnd_andl ?_ | fail))) | refine EqN.remN _ _ (by first | with_reducible rfl | with_reducible exact cst1 | with_reducible exact cst0 | with_reducible exact cst2 | with_reducible exact cst3 | with_reducible exact cst4 | with_reducible exact cst5 | with_reducible exact cst6 | with_reducible exact cst7 | with_reducible exact cst8 | with_reducible exact cst14 | with_reducible exact cst15 | with_reducible exact cst25 | with_reducible exact cst30 | with_reducible exact cst31 | fail) (by first | with_reducible rfl | with_reducible exact cst1 | with_reducible exact cst0 | with_reducible exact cst2 | with_reducible exact cst3 | with_reducible exact cst4 | with_reducible exact cst5 | with_reducible exact cst6 | with_reducible exact cst7 | with_reducible exact cst8 | with_reducible exact cst14 | with_reducible exact cst15 | with_reducible exact cst25 | with_reducible exact cst30 | with_reducible exact cst31 | fail) ?_ | fail) | (refine SideN.mk ?_ ?_; · first | kernel_rfl | omega | exact List.cons_ne_nil _ _ | (simp; done) | (simp; omega) | exact trivial | assumption | fail) | (refine CallN.id ?_; first | refine CallN.det _ (named0_c _) ?_ | refine CallN.det _ (terms_c _ _ _) ?_ | fail) | refine CallN.setB i _ _ _ _ hi rfl rfl (hn _) rfl ?_ | refine SegN.mk _ (seg_rfl rfl) ?_ | fail))); all_goals (conv => whnf)
  refine LoopN.rounds Tryd.E0 Tryd.mx 2 (by simp) ?_
  (repeat' ((conv => whnf); (first | (refine IfN.id ?_; first | refine IfN.not ?_ | refine IfN.tt rfl ?_ | refine IfN.ff rfl ?_ | fail) | (refine EqN.id ?_; first | (refine EqN.addN _ _ (by first | with_reducible rfl | with_reducible exact cst1 | with_reducible exact cst0 | with_reducible exact cst2 | with_reducible exact cst3 | with_reducible exact cst4 | with_reducible exact cst5 | with_reducible exact cst6 | with_reducible exact cst7 | with_reducible exact cst8 | with_reducible exact cst14 | with_reducible exact cst15 | with_reducible exact cst25 | with_reducible exact cst30 | with_reducible exact cst31 | fail) (by first | with_reducible rfl | with_reducible exact cst1 | with_reducible exact cst0 | with_reducible exact cst2 | with_reducible exact cst3 | with_reducible exact cst4 | with_reducible exact cst5 | with_reducible exact cst6 | with_reducible exact cst7 | with_reducible exact cst8 | with_reducible exact cst14 | with_reducible exact cst15 | with_reducible exact cst25 | with_reducible exact cst30 | with_reducible exact cst31 | fail) ?_ ?_; · (repeat' (first | omega | refine And.intro ?_ ?_ | exact bnd_andl (by omega) | exact bnd_andr (by omega) | refine bnd_or ?_ ?_ | refine bnd_or31 ?_ ?_ | refine bnd_xor ?_ ?_ | refine bnd_xor31 ?_ ?_ | refine bnd_shr ?_ | refine bnd_shl ?_ ?_ | refine bnd_mod ?_ | refine bnd_andl ?_ | fail))) | fail) | (refine SideN.mk ?_ ?_; · first | kernel_rfl | omega | exact List.cons_ne_nil _ _ | (simp; done) | (simp; omega) | exact trivial | assumption | fail) | refine CallN.setB i _ _ _ _ (at_set hi) (by simp) rfl (h1 _) (List.set_set ..) ?_ | refine SegN.mk _ (seg_rfl rfl) ?_ | fail))); all_goals (conv => whnf)
  exact EndN.setB (by simp [Blk.below, belowL, below]) trivial (Wk.refl _)
theorem form_f1_10 (a : Fm) (ih : FormIH a) (H : Heap) (i L d : Nat) (hi : H[i]? = some (jb L)) (hL : a.nodes + 1 ≤ L ∧ L ≤ 400) (hd : d + (a.depth + 1) ≤ 41) : VCall Tryd.prog 71 [.ptr i 0, .agg (Fm.f1 10 a).cells, .int .i64 d] H (setR H i (jb (L - (a.nodes + 1))) (.bool true)) := by
  have hp := a.nodes_pos
  have hpd := a.depth_pos
  have hn := fun X => node_c (H ++ X) i L d (at_base' hi) (by omega) (by omega)
  have h1 := fun X => ih (H.set i (jb (L - 1)) ++ X) i (L - 1) (d + 1) (at_base' (at_set hi)) (by omega) (by omega)
  rw [show L - 1 - a.nodes = L - (a.nodes + 1) by omega] at h1
  unfold jb at hi hn h1 ⊢
  rw [show (Fm.f1 10 a).cells = [.int .u8 (10 : Nat), .str .empty, .sl none 0 [], .sl none 1 [.int .u8 a.op, .str a.nmB, .sl none 0 [], .sl none a.sn a.sc]] from rfl]
  unfold Fm.cells at h1
  generalize a.op = ao at h1 ⊢
  generalize a.nmB = an at h1 ⊢
  generalize a.sn = asn at h1 ⊢
  generalize a.sc = asc at h1 ⊢
  refine fn_gen Tryd.E0 Tryd.mx Tryd.func71 (by kernel_rfl) rfl (Nat.le_of_ble_eq_true rfl) rfl fun hcl hbl => ?_
  (repeat' ((conv => whnf); (first | (refine IfN.id ?_; first | refine IfN.not ?_ | refine IfN.tt rfl ?_ | refine IfN.ff rfl ?_ | fail) | (refine EqN.id ?_; first | (refine EqN.addN _ _ (by first | with_reducible rfl | with_reducible exact cst1 | with_reducible exact cst0 | with_reducible exact cst2 | with_reducible exact cst3 | with_reducible exact cst4 | with_reducible exact cst5 | with_reducible exact cst6 | with_reducible exact cst7 | with_reducible exact cst8 | with_reducible exact cst14 | with_reducible exact cst15 | with_reducible exact cst25 | with_reducible exact cst30 | with_reducible exact cst31 | fail) (by first | with_reducible rfl | with_reducible exact cst1 | with_reducible exact cst0 | with_reducible exact cst2 | with_reducible exact cst3 | with_reducible exact cst4 | with_reducible exact cst5 | with_reducible exact cst6 | with_reducible exact cst7 | with_reducible exact cst8 | with_reducible exact cst14 | with_reducible exact cst15 | with_reducible exact cst25 | with_reducible exact cst30 | with_reducible exact cst31 | fail) ?_ ?_; · (repeat' (first | omega | refine And.intro ?_ ?_ | exact bnd_andl (by omega) | exact bnd_andr (by omega) | refine bnd_or ?_ ?_ | refine bnd_or31 ?_ ?_ | refine bnd_xor ?_ ?_ | refine bnd_xor31 ?_ ?_ | refine bnd_shr ?_ | refine bnd_shl ?_ ?_ | refine bnd_mod ?_ | refine bnd_andl ?_ | fail))) | refine EqN.remN _ _ (by first | with_reducible rfl | with_reducible exact cst1 | with_reducible exact cst0 | with_reducible exact cst2 | with_reducible exact cst3 | with_reducible exact cst4 | with_reducible exact cst5 | with_reducible exact cst6 | with_reducible exact cst7 | with_reducible exact cst8 | with_reducible exact cst14 | with_reducible exact cst15 | with_reducible exact cst25 | with_reducible exact cst30 | with_reducible exact cst31 | fail) (by first | with_reducible rfl | with_reducible exact cst1 | with_reducible exact cst0 | with_reducible exact cst2 | with_reducible exact cst3 | with_reducible exact cst4 | with_reducible exact cst5 | with_reducible exact cst6 | with_reducible exact cst7 | with_reducible exact cst8 | with_reducible exact cst14 | with_reducible exact cst15 | with_reducible exact cst25 | with_reducible exact cst30 | with_reducible exact cst31 | fail) ?_ | fail) | (refine SideN.mk ?_ ?_; · first | kernel_rfl | omega | exact List.cons_ne_nil _ _ | (simp; done) | (simp; omega) | exact trivial | assumption | fail) | (refine CallN.id ?_; first | refine CallN.det _ (named0_c _) ?_ | refine CallN.det _ (terms_c _ _ _) ?_ | fail) | refine CallN.setB i _ _ _ _ hi rfl rfl (hn _) rfl ?_ | refine SegN.mk _ (seg_rfl rfl) ?_ | fail))); all_goals (conv => whnf)
  refine LoopN.rounds Tryd.E0 Tryd.mx 2 (by simp) ?_
  (repeat' ((conv => whnf); (first | (refine IfN.id ?_; first | refine IfN.not ?_ | refine IfN.tt rfl ?_ | refine IfN.ff rfl ?_ | fail) | (refine EqN.id ?_; first | (refine EqN.addN _ _ (by first | with_reducible rfl | with_reducible exact cst1 | with_reducible exact cst0 | with_reducible exact cst2 | with_reducible exact cst3 | with_reducible exact cst4 | with_reducible exact cst5 | with_reducible exact cst6 | with_reducible exact cst7 | with_reducible exact cst8 | with_reducible exact cst14 | with_reducible exact cst15 | with_reducible exact cst25 | with_reducible exact cst30 | with_reducible exact cst31 | fail) (by first | with_reducible rfl | with_reducible exact cst1 | with_reducible exact cst0 | with_reducible exact cst2 | with_reducible exact cst3 | with_reducible exact cst4 | with_reducible exact cst5 | with_reducible exact cst6 | with_reducible exact cst7 | with_reducible exact cst8 | with_reducible exact cst14 | with_reducible exact cst15 | with_reducible exact cst25 | with_reducible exact cst30 | with_reducible exact cst31 | fail) ?_ ?_; · (repeat' (first | omega | refine And.intro ?_ ?_ | exact bnd_andl (by omega) | exact bnd_andr (by omega) | refine bnd_or ?_ ?_ | refine bnd_or31 ?_ ?_ | refine bnd_xor ?_ ?_ | refine bnd_xor31 ?_ ?_ | refine bnd_shr ?_ | refine bnd_shl ?_ ?_ | refine bnd_mod ?_ | refine bnd_andl ?_ | fail))) | fail) | (refine SideN.mk ?_ ?_; · first | kernel_rfl | omega | exact List.cons_ne_nil _ _ | (simp; done) | (simp; omega) | exact trivial | assumption | fail) | refine CallN.setB i _ _ _ _ (at_set hi) (by simp) rfl (h1 _) (List.set_set ..) ?_ | refine SegN.mk _ (seg_rfl rfl) ?_ | fail))); all_goals (conv => whnf)
  exact EndN.setB (by simp [Blk.below, belowL, below]) trivial (Wk.refl _)
theorem form_f1_11 (a : Fm) (ih : FormIH a) (H : Heap) (i L d : Nat) (hi : H[i]? = some (jb L)) (hL : a.nodes + 1 ≤ L ∧ L ≤ 400) (hd : d + (a.depth + 1) ≤ 41) : VCall Tryd.prog 71 [.ptr i 0, .agg (Fm.f1 11 a).cells, .int .i64 d] H (setR H i (jb (L - (a.nodes + 1))) (.bool true)) := by
  have hp := a.nodes_pos
  have hpd := a.depth_pos
  have hn := fun X => node_c (H ++ X) i L d (at_base' hi) (by omega) (by omega)
  have h1 := fun X => ih (H.set i (jb (L - 1)) ++ X) i (L - 1) (d + 1) (at_base' (at_set hi)) (by omega) (by omega)
  rw [show L - 1 - a.nodes = L - (a.nodes + 1) by omega] at h1
  unfold jb at hi hn h1 ⊢
  rw [show (Fm.f1 11 a).cells = [.int .u8 (11 : Nat), .str .empty, .sl none 0 [], .sl none 1 [.int .u8 a.op, .str a.nmB, .sl none 0 [], .sl none a.sn a.sc]] from rfl]
  unfold Fm.cells at h1
  generalize a.op = ao at h1 ⊢
  generalize a.nmB = an at h1 ⊢
  generalize a.sn = asn at h1 ⊢
  generalize a.sc = asc at h1 ⊢
  refine fn_gen Tryd.E0 Tryd.mx Tryd.func71 (by kernel_rfl) rfl (Nat.le_of_ble_eq_true rfl) rfl fun hcl hbl => ?_
  (repeat' ((conv => whnf); (first | (refine IfN.id ?_; first | refine IfN.not ?_ | refine IfN.tt rfl ?_ | refine IfN.ff rfl ?_ | fail) | (refine EqN.id ?_; first | (refine EqN.addN _ _ (by first | with_reducible rfl | with_reducible exact cst1 | with_reducible exact cst0 | with_reducible exact cst2 | with_reducible exact cst3 | with_reducible exact cst4 | with_reducible exact cst5 | with_reducible exact cst6 | with_reducible exact cst7 | with_reducible exact cst8 | with_reducible exact cst14 | with_reducible exact cst15 | with_reducible exact cst25 | with_reducible exact cst30 | with_reducible exact cst31 | fail) (by first | with_reducible rfl | with_reducible exact cst1 | with_reducible exact cst0 | with_reducible exact cst2 | with_reducible exact cst3 | with_reducible exact cst4 | with_reducible exact cst5 | with_reducible exact cst6 | with_reducible exact cst7 | with_reducible exact cst8 | with_reducible exact cst14 | with_reducible exact cst15 | with_reducible exact cst25 | with_reducible exact cst30 | with_reducible exact cst31 | fail) ?_ ?_; · (repeat' (first | omega | refine And.intro ?_ ?_ | exact bnd_andl (by omega) | exact bnd_andr (by omega) | refine bnd_or ?_ ?_ | refine bnd_or31 ?_ ?_ | refine bnd_xor ?_ ?_ | refine bnd_xor31 ?_ ?_ | refine bnd_shr ?_ | refine bnd_shl ?_ ?_ | refine bnd_mod ?_ | refine bnd_andl ?_ | fail))) | refine EqN.remN _ _ (by first | with_reducible rfl | with_reducible exact cst1 | with_reducible exact cst0 | with_reducible exact cst2 | with_reducible exact cst3 | with_reducible exact cst4 | with_reducible exact cst5 | with_reducible exact cst6 | with_reducible exact cst7 | with_reducible exact cst8 | with_reducible exact cst14 | with_reducible exact cst15 | with_reducible exact cst25 | with_reducible exact cst30 | with_reducible exact cst31 | fail) (by first | with_reducible rfl | with_reducible exact cst1 | with_reducible exact cst0 | with_reducible exact cst2 | with_reducible exact cst3 | with_reducible exact cst4 | with_reducible exact cst5 | with_reducible exact cst6 | with_reducible exact cst7 | with_reducible exact cst8 | with_reducible exact cst14 | with_reducible exact cst15 | with_reducible exact cst25 | with_reducible exact cst30 | with_reducible exact cst31 | fail) ?_ | fail) | (refine SideN.mk ?_ ?_; · first | kernel_rfl | omega | exact List.cons_ne_nil _ _ | (simp; done) | (simp; omega) | exact trivial | assumption | fail) | (refine CallN.id ?_; first | refine CallN.det _ (named0_c _) ?_ | refine CallN.det _ (terms_c _ _ _) ?_ | fail) | refine CallN.setB i _ _ _ _ hi rfl rfl (hn _) rfl ?_ | refine SegN.mk _ (seg_rfl rfl) ?_ | fail))); all_goals (conv => whnf)
  refine LoopN.rounds Tryd.E0 Tryd.mx 2 (by simp) ?_
  (repeat' ((conv => whnf); (first | (refine IfN.id ?_; first | refine IfN.not ?_ | refine IfN.tt rfl ?_ | refine IfN.ff rfl ?_ | fail) | (refine EqN.id ?_; first | (refine EqN.addN _ _ (by first | with_reducible rfl | with_reducible exact cst1 | with_reducible exact cst0 | with_reducible exact cst2 | with_reducible exact cst3 | with_reducible exact cst4 | with_reducible exact cst5 | with_reducible exact cst6 | with_reducible exact cst7 | with_reducible exact cst8 | with_reducible exact cst14 | with_reducible exact cst15 | with_reducible exact cst25 | with_reducible exact cst30 | with_reducible exact cst31 | fail) (by first | with_reducible rfl | with_reducible exact cst1 | with_reducible exact cst0 | with_reducible exact cst2 | with_reducible exact cst3 | with_reducible exact cst4 | with_reducible exact cst5 | with_reducible exact cst6 | with_reducible exact cst7 | with_reducible exact cst8 | with_reducible exact cst14 | with_reducible exact cst15 | with_reducible exact cst25 | with_reducible exact cst30 | with_reducible exact cst31 | fail) ?_ ?_; · (repeat' (first | omega | refine And.intro ?_ ?_ | exact bnd_andl (by omega) | exact bnd_andr (by omega) | refine bnd_or ?_ ?_ | refine bnd_or31 ?_ ?_ | refine bnd_xor ?_ ?_ | refine bnd_xor31 ?_ ?_ | refine bnd_shr ?_ | refine bnd_shl ?_ ?_ | refine bnd_mod ?_ | refine bnd_andl ?_ | fail))) | fail) | (refine SideN.mk ?_ ?_; · first | kernel_rfl | omega | exact List.cons_ne_nil _ _ | (simp; done) | (simp; omega) | exact trivial | assumption | fail) | refine CallN.setB i _ _ _ _ (at_set hi) (by simp) rfl (h1 _) (List.set_set ..) ?_ | refine SegN.mk _ (seg_rfl rfl) ?_ | fail))); all_goals (conv => whnf)
  exact EndN.setB (by simp [Blk.below, belowL, below]) trivial (Wk.refl _)
theorem form_f1_12 (a : Fm) (ih : FormIH a) (H : Heap) (i L d : Nat) (hi : H[i]? = some (jb L)) (hL : a.nodes + 1 ≤ L ∧ L ≤ 400) (hd : d + (a.depth + 1) ≤ 41) : VCall Tryd.prog 71 [.ptr i 0, .agg (Fm.f1 12 a).cells, .int .i64 d] H (setR H i (jb (L - (a.nodes + 1))) (.bool true)) := by
  have hp := a.nodes_pos
  have hpd := a.depth_pos
  have hn := fun X => node_c (H ++ X) i L d (at_base' hi) (by omega) (by omega)
  have h1 := fun X => ih (H.set i (jb (L - 1)) ++ X) i (L - 1) (d + 1) (at_base' (at_set hi)) (by omega) (by omega)
  rw [show L - 1 - a.nodes = L - (a.nodes + 1) by omega] at h1
  unfold jb at hi hn h1 ⊢
  rw [show (Fm.f1 12 a).cells = [.int .u8 (12 : Nat), .str .empty, .sl none 0 [], .sl none 1 [.int .u8 a.op, .str a.nmB, .sl none 0 [], .sl none a.sn a.sc]] from rfl]
  unfold Fm.cells at h1
  generalize a.op = ao at h1 ⊢
  generalize a.nmB = an at h1 ⊢
  generalize a.sn = asn at h1 ⊢
  generalize a.sc = asc at h1 ⊢
  refine fn_gen Tryd.E0 Tryd.mx Tryd.func71 (by kernel_rfl) rfl (Nat.le_of_ble_eq_true rfl) rfl fun hcl hbl => ?_
  (repeat' ((conv => whnf); (first | (refine IfN.id ?_; first | refine IfN.not ?_ | refine IfN.tt rfl ?_ | refine IfN.ff rfl ?_ | fail) | (refine EqN.id ?_; first | (refine EqN.addN _ _ (by first | with_reducible rfl | with_reducible exact cst1 | with_reducible exact cst0 | with_reducible exact cst2 | with_reducible exact cst3 | with_reducible exact cst4 | with_reducible exact cst5 | with_reducible exact cst6 | with_reducible exact cst7 | with_reducible exact cst8 | with_reducible exact cst14 | with_reducible exact cst15 | with_reducible exact cst25 | with_reducible exact cst30 | with_reducible exact cst31 | fail) (by first | with_reducible rfl | with_reducible exact cst1 | with_reducible exact cst0 | with_reducible exact cst2 | with_reducible exact cst3 | with_reducible exact cst4 | with_reducible exact cst5 | with_reducible exact cst6 | with_reducible exact cst7 | with_reducible exact cst8 | with_reducible exact cst14 | with_reducible exact cst15 | with_reducible exact cst25 | with_reducible exact cst30 | with_reducible exact cst31 | fail) ?_ ?_; · (repeat' (first | omega | refine And.intro ?_ ?_ | exact bnd_andl (by omega) | exact bnd_andr (by omega) | refine bnd_or ?_ ?_ | refine bnd_or31 ?_ ?_ | refine bnd_xor ?_ ?_ | refine bnd_xor31 ?_ ?_ | refine bnd_shr ?_ | refine bnd_shl ?_ ?_ | refine bnd_mod ?_ | refine bnd_andl ?_ | fail))) | refine EqN.remN _ _ (by first | with_reducible rfl | with_reducible exact cst1 | with_reducible exact cst0 | with_reducible exact cst2 | with_reducible exact cst3 | with_reducible exact cst4 | with_reducible exact cst5 | with_reducible exact cst6 | with_reducible exact cst7 | with_reducible exact cst8 | with_reducible exact cst14 | with_reducible exact cst15 | with_reducible exact cst25 | with_reducible exact cst30 | with_reducible exact cst31 | fail) (by first | with_reducible rfl | with_reducible exact cst1 | with_reducible exact cst0 | with_reducible exact cst2 | with_reducible exact cst3 | with_reducible exact cst4 | with_reducible exact cst5 | with_reducible exact cst6 | with_reducible exact cst7 | with_reducible exact cst8 | with_reducible exact cst14 | with_reducible exact cst15 | with_reducible exact cst25 | with_reducible exact cst30 | with_reducible exact cst31 | fail) ?_ | fail) | (refine SideN.mk ?_ ?_; · first | kernel_rfl | omega | exact List.cons_ne_nil _ _ | (simp; done) | (simp; omega) | exact trivial | assumption | fail) | (refine CallN.id ?_; first | refine CallN.det _ (named0_c _) ?_ | refine CallN.det _ (terms_c _ _ _) ?_ | fail) | refine CallN.setB i _ _ _ _ hi rfl rfl (hn _) rfl ?_ | refine SegN.mk _ (seg_rfl rfl) ?_ | fail))); all_goals (conv => whnf)
  refine LoopN.rounds Tryd.E0 Tryd.mx 2 (by simp) ?_
  (repeat' ((conv => whnf); (first | (refine IfN.id ?_; first | refine IfN.not ?_ | refine IfN.tt rfl ?_ | refine IfN.ff rfl ?_ | fail) | (refine EqN.id ?_; first | (refine EqN.addN _ _ (by first | with_reducible rfl | with_reducible exact cst1 | with_reducible exact cst0 | with_reducible exact cst2 | with_reducible exact cst3 | with_reducible exact cst4 | with_reducible exact cst5 | with_reducible exact cst6 | with_reducible exact cst7 | with_reducible exact cst8 | with_reducible exact cst14 | with_reducible exact cst15 | with_reducible exact cst25 | with_reducible exact cst30 | with_reducible exact cst31 | fail) (by first | with_reducible rfl | with_reducible exact cst1 | with_reducible exact cst0 | with_reducible exact cst2 | with_reducible exact cst3 | with_reducible exact cst4 | with_reducible exact cst5 | with_reducible exact cst6 | with_reducible exact cst7 | with_reducible exact cst8 | with_reducible exact cst14 | with_reducible exact cst15 | with_reducible exact cst25 | with_reducible exact cst30 | with_reducible exact cst31 | fail) ?_ ?_; · (repeat' (first | omega | refine And.intro ?_ ?_ | exact bnd_andl (by omega) | exact bnd_andr (by omega) | refine bnd_or ?_ ?_ | refine bnd_or31 ?_ ?_ | refine bnd_xor ?_ ?_ | refine bnd_xor31 ?_ ?_ | refine bnd_shr ?_ | refine bnd_shl ?_ ?_ | refine bnd_mod ?_ | refine bnd_andl ?_ | fail))) | fail) | (refine SideN.mk ?_ ?_; · first | kernel_rfl | omega | exact List.cons_ne_nil _ _ | (simp; done) | (simp; omega) | exact trivial | assumption | fail) | refine CallN.setB i _ _ _ _ (at_set hi) (by simp) rfl (h1 _) (List.set_set ..) ?_ | refine SegN.mk _ (seg_rfl rfl) ?_ | fail))); all_goals (conv => whnf)
  exact EndN.setB (by simp [Blk.below, belowL, below]) trivial (Wk.refl _)
theorem form_f1_13 (a : Fm) (ih : FormIH a) (H : Heap) (i L d : Nat) (hi : H[i]? = some (jb L)) (hL : a.nodes + 1 ≤ L ∧ L ≤ 400) (hd : d + (a.depth + 1) ≤ 41) : VCall Tryd.prog 71 [.ptr i 0, .agg (Fm.f1 13 a).cells, .int .i64 d] H (setR H i (jb (L - (a.nodes + 1))) (.bool true)) := by
  have hp := a.nodes_pos
  have hpd := a.depth_pos
  have hn := fun X => node_c (H ++ X) i L d (at_base' hi) (by omega) (by omega)
  have h1 := fun X => ih (H.set i (jb (L - 1)) ++ X) i (L - 1) (d + 1) (at_base' (at_set hi)) (by omega) (by omega)
  rw [show L - 1 - a.nodes = L - (a.nodes + 1) by omega] at h1
  unfold jb at hi hn h1 ⊢
  rw [show (Fm.f1 13 a).cells = [.int .u8 (13 : Nat), .str .empty, .sl none 0 [], .sl none 1 [.int .u8 a.op, .str a.nmB, .sl none 0 [], .sl none a.sn a.sc]] from rfl]
  unfold Fm.cells at h1
  generalize a.op = ao at h1 ⊢
  generalize a.nmB = an at h1 ⊢
  generalize a.sn = asn at h1 ⊢
  generalize a.sc = asc at h1 ⊢
  refine fn_gen Tryd.E0 Tryd.mx Tryd.func71 (by kernel_rfl) rfl (Nat.le_of_ble_eq_true rfl) rfl fun hcl hbl => ?_
  (repeat' ((conv => whnf); (first | (refine IfN.id ?_; first | refine IfN.not ?_ | refine IfN.tt rfl ?_ | refine IfN.ff rfl ?_ | fail) | (refine EqN.id ?_; first | (refine EqN.addN _ _ (by first | with_reducible rfl | with_reducible exact cst1 | with_reducible exact cst0 | with_reducible exact cst2 | with_reducible exact cst3 | with_reducible exact cst4 | with_reducible exact cst5 | with_reducible exact cst6 | with_reducible exact cst7 | with_reducible exact cst8 | with_reducible exact cst14 | with_reducible exact cst15 | with_reducible exact cst25 | with_reducible exact cst30 | with_reducible exact cst31 | fail) (by first | with_reducible rfl | with_reducible exact cst1 | with_reducible exact cst0 | with_reducible exact cst2 | with_reducible exact cst3 | with_reducible exact cst4 | with_reducible exact cst5 | with_reducible exact cst6 | with_reducible exact cst7 | with_reducible exact cst8 | with_reducible exact cst14 | with_reducible exact cst15 | with_reducible exact cst25 | with_reducible exact cst30 | with_reducible exact cst31 | fail) ?_ ?_; · (repeat' (first | omega | refine And.intro ?_ ?_ | exact bnd_andl (by omega) | exact bnd_andr (by omega) | refine bnd_or ?_ ?_ | refine bnd_or31 ?_ ?_ | refine bnd_xor ?_ ?_ | refine bnd_xor31 ?_ ?_ | refine bnd_shr ?_ | refine bnd_shl ?_ ?_ | refine bnd_mod ?_ | refine bnd_andl ?_ | fail))) | refine EqN.remN _ _ (by first | with_reducible rfl | with_reducible exact cst1 | with_reducible exact cst0 | with_reducible exact cst2 | with_reducible exact cst3 | with_reducible exact cst4 | with_reducible exact cst5 | with_reducible exact cst6 | with_reducible exact cst7 | with_reducible exact cst8 | with_reducible exact cst14 | with_reducible exact cst15 | with_reducible exact cst25 | with_reducible exact cst30 | with_reducible exact cst31 | fail) (by first | with_reducible rfl | with_reducible exact cst1 | with_reducible exact cst0 | with_reducible exact cst2 | with_reducible exact cst3 | with_reducible exact cst4 | with_reducible exact cst5 | with_reducible exact cst6 | with_reducible exact cst7 | with_reducible exact cst8 | with_reducible exact cst14 | with_reducible exact cst15 | with_reducible exact cst25 | with_reducible exact cst30 | with_reducible exact cst31 | fail) ?_ | fail) | (refine SideN.mk ?_ ?_; · first | kernel_rfl | omega | exact List.cons_ne_nil _ _ | (simp; done) | (simp; omega) | exact trivial | assumption | fail) | (refine CallN.id ?_; first | refine CallN.det _ (named0_c _) ?_ | refine CallN.det _ (terms_c _ _ _) ?_ | fail) | refine CallN.setB i _ _ _ _ hi rfl rfl (hn _) rfl ?_ | refine SegN.mk _ (seg_rfl rfl) ?_ | fail))); all_goals (conv => whnf)
  refine LoopN.rounds Tryd.E0 Tryd.mx 2 (by simp) ?_
  (repeat' ((conv => whnf); (first | (refine IfN.id ?_; first | refine IfN.not ?_ | refine IfN.tt rfl ?_ | refine IfN.ff rfl ?_ | fail) | (refine EqN.id ?_; first | (refine EqN.addN _ _ (by first | with_reducible rfl | with_reducible exact cst1 | with_reducible exact cst0 | with_reducible exact cst2 | with_reducible exact cst3 | with_reducible exact cst4 | with_reducible exact cst5 | with_reducible exact cst6 | with_reducible exact cst7 | with_reducible exact cst8 | with_reducible exact cst14 | with_reducible exact cst15 | with_reducible exact cst25 | with_reducible exact cst30 | with_reducible exact cst31 | fail) (by first | with_reducible rfl | with_reducible exact cst1 | with_reducible exact cst0 | with_reducible exact cst2 | with_reducible exact cst3 | with_reducible exact cst4 | with_reducible exact cst5 | with_reducible exact cst6 | with_reducible exact cst7 | with_reducible exact cst8 | with_reducible exact cst14 | with_reducible exact cst15 | with_reducible exact cst25 | with_reducible exact cst30 | with_reducible exact cst31 | fail) ?_ ?_; · (repeat' (first | omega | refine And.intro ?_ ?_ | exact bnd_andl (by omega) | exact bnd_andr (by omega) | refine bnd_or ?_ ?_ | refine bnd_or31 ?_ ?_ | refine bnd_xor ?_ ?_ | refine bnd_xor31 ?_ ?_ | refine bnd_shr ?_ | refine bnd_shl ?_ ?_ | refine bnd_mod ?_ | refine bnd_andl ?_ | fail))) | fail) | (refine SideN.mk ?_ ?_; · first | kernel_rfl | omega | exact List.cons_ne_nil _ _ | (simp; done) | (simp; omega) | exact trivial | assumption | fail) | refine CallN.setB i _ _ _ _ (at_set hi) (by simp) rfl (h1 _) (List.set_set ..) ?_ | refine SegN.mk _ (seg_rfl rfl) ?_ | fail))); all_goals (conv => whnf)
  exact EndN.setB (by simp [Blk.below, belowL, below]) trivial (Wk.refl _)
theorem form_f2_4 (a b : Fm) (iha : FormIH a) (ihb : FormIH b) (H : Heap) (i L d : Nat) (hi : H[i]? = some (jb L)) (hL : a.nodes + b.nodes + 1 ≤ L ∧ L ≤ 400) (hd : d + (max a.depth b.depth + 1) ≤ 41) : VCall Tryd.prog 71 [.ptr i 0, .agg (Fm.f2 4 a b).cells, .int .i64 d] H (setR H i (jb (L - (a.nodes + b.nodes + 1))) (.bool true)) := by
  have hp := a.nodes_pos
  have hpd := a.depth_pos
  have hp2 := b.nodes_pos
  have hpd2 := b.depth_pos
  have hn := fun X => node_c (H ++ X) i L d (at_base' hi) (by omega) (by omega)
  have h1 := fun X => iha (H.set i (jb (L - 1)) ++ X) i (L - 1) (d + 1) (at_base' (at_set hi)) (by omega) (by omega)
  have h2 := fun X => ihb (H.set i (jb (L - 1 - a.nodes)) ++ X) i (L - 1 - a.nodes) (d + 1) (at_base' (at_set hi)) (by omega) (by omega)
  rw [show L - 1 - a.nodes - b.nodes = L - (a.nodes + b.nodes + 1) by omega] at h2
  unfold jb at hi hn h1 h2 ⊢
  rw [show (Fm.f2 4 a b).cells = [.int .u8 (4 : Nat), .str .empty, .sl none 0 [], .sl none 2 [.int .u8 a.op, .str a.nmB, .sl none 0 [], .sl none a.sn a.sc, .int .u8 b.op, .str b.nmB, .sl none 0 [], .sl none b.sn b.sc]] from rfl]
  unfold Fm.cells at h1 h2
  generalize a.op = ao at h1 ⊢
  generalize a.nmB = an at h1 ⊢
  generalize a.sn = asn at h1 ⊢
  generalize a.sc = asc at h1 ⊢
  generalize b.op = bo at h2 ⊢
  generalize b.nmB = bn at h2 ⊢
  generalize b.sn = bsn at h2 ⊢
  generalize b.sc = bsc at h2 ⊢
  refine fn_gen Tryd.E0 Tryd.mx Tryd.func71 (by kernel_rfl) rfl (Nat.le_of_ble_eq_true rfl) rfl fun hcl hbl => ?_
  (repeat' ((conv => whnf); (first | (refine IfN.id ?_; first | refine IfN.not ?_ | refine IfN.tt rfl ?_ | refine IfN.ff rfl ?_ | fail) | (refine EqN.id ?_; first | (refine EqN.addN _ _ (by first | with_reducible rfl | with_reducible exact cst1 | with_reducible exact cst0 | with_reducible exact cst2 | with_reducible exact cst3 | with_reducible exact cst4 | with_reducible exact cst5 | with_reducible exact cst6 | with_reducible exact cst7 | with_reducible exact cst8 | with_reducible exact cst14 | with_reducible exact cst15 | with_reducible exact cst25 | with_reducible exact cst30 | with_reducible exact cst31 | fail) (by first | with_reducible rfl | with_reducible exact cst1 | with_reducible exact cst0 | with_reducible exact cst2 | with_reducible exact cst3 | with_reducible exact cst4 | with_reducible exact cst5 | with_reducible exact cst6 | with_reducible exact cst7 | with_reducible exact cst8 | with_reducible exact cst14 | with_reducible exact cst15 | with_reducible exact cst25 | with_reducible exact cst30 | with_reducible exact cst31 | fail) ?_ ?_; · (repeat' (first | omega | refine And.intro ?_ ?_ | exact bnd_andl (by omega) | exact bnd_andr (by omega) | refine bnd_or ?_ ?_ | refine bnd_or31 ?_ ?_ | refine bnd_xor ?_ ?_ | refine bnd_xor31 ?_ ?_ | refine bnd_shr ?_ | refine bnd_shl ?_ ?_ | refine bnd_mod ?_ | refine bnd_andl ?_ | fail))) | refine EqN.remN _ _ (by first | with_reducible rfl | with_reducible exact cst1 | with_reducible exact cst0 | with_reducible exact cst2 | with_reducible exact cst3 | with_reducible exact cst4 | with_reducible exact cst5 | with_reducible exact cst6 | with_reducible exact cst7 | with_reducible exact cst8 | with_reducible exact cst14 | with_reducible exact cst15 | with_reducible exact cst25 | with_reducible exact cst30 | with_reducible exact cst31 | fail) (by first | with_reducible rfl | with_reducible exact cst1 | with_reducible exact cst0 | with_reducible exact cst2 | with_reducible exact cst3 | with_reducible exact cst4 | with_reducible exact cst5 | with_reducible exact cst6 | with_reducible exact cst7 | with_reducible exact cst8 | with_reducible exact cst14 | with_reducible exact cst15 | with_reducible exact cst25 | with_reducible exact cst30 | with_reducible exact cst31 | fail) ?_ | fail) | (refine SideN.mk ?_ ?_; · first | kernel_rfl | omega | exact List.cons_ne_nil _ _ | (simp; done) | (simp; omega) | exact trivial | assumption | fail) | (refine CallN.id ?_; first | refine CallN.det _ (named0_c _) ?_ | refine CallN.det _ (terms_c _ _ _) ?_ | fail) | refine CallN.setB i _ _ _ _ hi rfl rfl (hn _) rfl ?_ | refine SegN.mk _ (seg_rfl rfl) ?_ | fail))); all_goals (conv => whnf)
  refine LoopN.rounds Tryd.E0 Tryd.mx 3 (by simp) ?_
  (repeat' ((conv => whnf); (first | (refine IfN.id ?_; first | refine IfN.not ?_ | refine IfN.tt rfl ?_ | refine IfN.ff rfl ?_ | fail) | (refine EqN.id ?_; first | (refine EqN.addN _ _ (by first | with_reducible rfl | with_reducible exact cst1 | with_reducible exact cst0 | with_reducible exact cst2 | with_reducible exact cst3 | with_reducible exact cst4 | with_reducible exact cst5 | with_reducible exact cst6 | with_reducible exact cst7 | with_reducible exact cst8 | with_reducible exact cst14 | with_reducible exact cst15 | with_reducible exact cst25 | with_reducible exact cst30 | with_reducible exact cst31 | fail) (by first | with_reducible rfl | with_reducible exact cst1 | with_reducible exact cst0 | with_reducible exact cst2 | with_reducible exact cst3 | with_reducible exact cst4 | with_reducible exact cst5 | with_reducible exact cst6 | with_reducible exact cst7 | with_reducible exact cst8 | with_reducible exact cst14 | with_reducible exact cst15 | with_reducible exact cst25 | with_reducible exact cst30 | with_reducible exact cst31 | fail) ?_ ?_; · (repeat' (first | omega | refine And.intro ?_ ?_ | exact bnd_andl (by omega) | exact bnd_andr (by omega) | refine bnd_or ?_ ?_ | refine bnd_or31 ?_ ?_ | refine bnd_xor ?_ ?_ | refine bnd_xor31 ?_ ?_ | refine bnd_shr ?_ | refine bnd_shl ?_ ?_ | refine bnd_mod ?_ | refine bnd_andl ?_ | fail))) | fail) | (refine SideN.mk ?_ ?_; · first | kernel_rfl | omega | exact List.cons_ne_nil _ _ | (simp; done) | (simp; omega) | exact trivial | assumption | fail) | refine CallN.setB i _ _ _ _ (at_set hi) (by simp) rfl (h1 _) (List.set_set ..) ?_ | refine CallN.setB i _ _ _ _ (at_set hi) (by simp) rfl (h2 _) (List.set_set ..) ?_ | refine SegN.mk _ (seg_rfl rfl) ?_ | fail))); all_goals (conv => whnf)
  exact EndN.setB (by simp [Blk.below, belowL, below]) trivial (Wk.refl _)
theorem form_f2_5 (a b : Fm) (iha : FormIH a) (ihb : FormIH b) (H : Heap) (i L d : Nat) (hi : H[i]? = some (jb L)) (hL : a.nodes + b.nodes + 1 ≤ L ∧ L ≤ 400) (hd : d + (max a.depth b.depth + 1) ≤ 41) : VCall Tryd.prog 71 [.ptr i 0, .agg (Fm.f2 5 a b).cells, .int .i64 d] H (setR H i (jb (L - (a.nodes + b.nodes + 1))) (.bool true)) := by
  have hp := a.nodes_pos
  have hpd := a.depth_pos
  have hp2 := b.nodes_pos
  have hpd2 := b.depth_pos
  have hn := fun X => node_c (H ++ X) i L d (at_base' hi) (by omega) (by omega)
  have h1 := fun X => iha (H.set i (jb (L - 1)) ++ X) i (L - 1) (d + 1) (at_base' (at_set hi)) (by omega) (by omega)
  have h2 := fun X => ihb (H.set i (jb (L - 1 - a.nodes)) ++ X) i (L - 1 - a.nodes) (d + 1) (at_base' (at_set hi)) (by omega) (by omega)
  rw [show L - 1 - a.nodes - b.nodes = L - (a.nodes + b.nodes + 1) by omega] at h2
  unfold jb at hi hn h1 h2 ⊢
  rw [show (Fm.f2 5 a b).cells = [.int .u8 (5 : Nat), .str .empty, .sl none 0 [], .sl none 2 [.int .u8 a.op, .str a.nmB, .sl none 0 [], .sl none a.sn a.sc, .int .u8 b.op, .str b.nmB, .sl none 0 [], .sl none b.sn b.sc]] from rfl]
  unfold Fm.cells at h1 h2
  generalize a.op = ao at h1 ⊢
  generalize a.nmB = an at h1 ⊢
  generalize a.sn = asn at h1 ⊢
  generalize a.sc = asc at h1 ⊢
  generalize b.op = bo at h2 ⊢
  generalize b.nmB = bn at h2 ⊢
  generalize b.sn = bsn at h2 ⊢
  generalize b.sc = bsc at h2 ⊢
  refine fn_gen Tryd.E0 Tryd.mx Tryd.func71 (by kernel_rfl) rfl (Nat.le_of_ble_eq_true rfl) rfl fun hcl hbl => ?_
  (repeat' ((conv => whnf); (first | (refine IfN.id ?_; first | refine IfN.not ?_ | refine IfN.tt rfl ?_ | refine IfN.ff rfl ?_ | fail) | (refine EqN.id ?_; first | (refine EqN.addN _ _ (by first | with_reducible rfl | with_reducible exact cst1 | with_reducible exact cst0 | with_reducible exact cst2 | with_reducible exact cst3 | with_reducible exact cst4 | with_reducible exact cst5 | with_reducible exact cst6 | with_reducible exact cst7 | with_reducible exact cst8 | with_reducible exact cst14 | with_reducible exact cst15 | with_reducible exact cst25 | with_reducible exact cst30 | with_reducible exact cst31 | fail) (by first | with_reducible rfl | with_reducible exact cst1 | with_reducible exact cst0 | with_reducible exact cst2 | with_reducible exact cst3 | with_reducible exact cst4 | with_reducible exact cst5 | with_reducible exact cst6 | with_reducible exact cst7 | with_reducible exact cst8 | with_reducible exact cst14 | with_reducible exact cst15 | with_reducible exact cst25 | with_reducible exact cst30 | with_reducible exact cst31 | fail) ?_ ?_; · (repeat' (first | omega | refine And.intro ?_ ?_ | exact bnd_andl (by omega) | exact bnd_andr (by omega) | refine bnd_or ?_ ?_ | refine bnd_or31 ?_ ?_ | refine bnd_xor ?_ ?_ | refine bnd_xor31 ?_ ?_ | refine bnd_shr ?_ | refine bnd_shl ?_ ?_ | refine bnd_mod ?_ | refine bnd_andl ?_ | fail))) | refine EqN.remN _ _ (by first | with_reducible rfl | with_reducible exact cst1 | with_reducible exact cst0 | with_reducible exact cst2 | with_reducible exact cst3 | with_reducible exact cst4 | with_reducible exact cst5 | with_reducible exact cst6 | with_reducible exact cst7 | with_reducible exact cst8 | with_reducible exact cst14 | with_reducible exact cst15 | with_reducible exact cst25 | with_reducible exact cst30 | with_reducible exact cst31 | fail) (by first | with_reducible rfl | with_reducible exact cst1 | with_reducible exact cst0 | with_reducible exact cst2 | with_reducible exact cst3 | with_reducible exact cst4 | with_reducible exact cst5 | with_reducible exact cst6 | with_reducible exact cst7 | with_reducible exact cst8 | with_reducible exact cst14 | with_reducible exact cst15 | with_reducible exact cst25 | with_reducible exact cst30 | with_reducible exact cst31 | fail) ?_ | fail) | (refine SideN.mk ?_ ?_; · first | kernel_rfl | omega | exact List.cons_ne_nil _ _ | (simp; done) | (simp; omega) | exact trivial | assumption | fail) | (refine CallN.id ?_; first | refine CallN.det _ (named0_c _) ?_ | refine CallN.det _ (terms_c _ _ _) ?_ | fail) | refine CallN.setB i _ _ _ _ hi rfl rfl (hn _) rfl ?_ | refine SegN.mk _ (seg_rfl rfl) ?_ | fail))); all_goals (conv => whnf)
  refine LoopN.rounds Tryd.E0 Tryd.mx 3 (by simp) ?_
  (repeat' ((conv => whnf); (first | (refine IfN.id ?_; first | refine IfN.not ?_ | refine IfN.tt rfl ?_ | refine IfN.ff rfl ?_ | fail) | (refine EqN.id ?_; first | (refine EqN.addN _ _ (by first | with_reducible rfl | with_reducible exact cst1 | with_reducible exact cst0 | with_reducible exact cst2 | with_reducible exact cst3 | with_reducible exact cst4 | with_reducible exact cst5 | with_reducible exact cst6 | with_reducible exact cst7 | with_reducible exact cst8 | with_reducible exact cst14 | with_reducible exact cst15 | with_reducible exact cst25 | with_reducible exact cst30 | with_reducible exact cst31 | fail) (by first | with_reducible rfl | with_reducible exact cst1 | with_reducible exact cst0 | with_reducible exact cst2 | with_reducible exact cst3 | with_reducible exact cst4 | with_reducible exact cst5 | with_reducible exact cst6 | with_reducible exact cst7 | with_reducible exact cst8 | with_reducible exact cst14 | with_reducible exact cst15 | with_reducible exact cst25 | with_reducible exact cst30 | with_reducible exact cst31 | fail) ?_ ?_; · (repeat' (first | omega | refine And.intro ?_ ?_ | exact bnd_andl (by omega) | exact bnd_andr (by omega) | refine bnd_or ?_ ?_ | refine bnd_or31 ?_ ?_ | refine bnd_xor ?_ ?_ | refine bnd_xor31 ?_ ?_ | refine bnd_shr ?_ | refine bnd_shl ?_ ?_ | refine bnd_mod ?_ | refine bnd_andl ?_ | fail))) | fail) | (refine SideN.mk ?_ ?_; · first | kernel_rfl | omega | exact List.cons_ne_nil _ _ | (simp; done) | (simp; omega) | exact trivial | assumption | fail) | refine CallN.setB i _ _ _ _ (at_set hi) (by simp) rfl (h1 _) (List.set_set ..) ?_ | refine CallN.setB i _ _ _ _ (at_set hi) (by simp) rfl (h2 _) (List.set_set ..) ?_ | refine SegN.mk _ (seg_rfl rfl) ?_ | fail))); all_goals (conv => whnf)
  exact EndN.setB (by simp [Blk.below, belowL, below]) trivial (Wk.refl _)
theorem form_f2_6 (a b : Fm) (iha : FormIH a) (ihb : FormIH b) (H : Heap) (i L d : Nat) (hi : H[i]? = some (jb L)) (hL : a.nodes + b.nodes + 1 ≤ L ∧ L ≤ 400) (hd : d + (max a.depth b.depth + 1) ≤ 41) : VCall Tryd.prog 71 [.ptr i 0, .agg (Fm.f2 6 a b).cells, .int .i64 d] H (setR H i (jb (L - (a.nodes + b.nodes + 1))) (.bool true)) := by
  have hp := a.nodes_pos
  have hpd := a.depth_pos
  have hp2 := b.nodes_pos
  have hpd2 := b.depth_pos
  have hn := fun X => node_c (H ++ X) i L d (at_base' hi) (by omega) (by omega)
  have h1 := fun X => iha (H.set i (jb (L - 1)) ++ X) i (L - 1) (d + 1) (at_base' (at_set hi)) (by omega) (by omega)
  have h2 := fun X => ihb (H.set i (jb (L - 1 - a.nodes)) ++ X) i (L - 1 - a.nodes) (d + 1) (at_base' (at_set hi)) (by omega) (by omega)
  rw [show L - 1 - a.nodes - b.nodes = L - (a.nodes + b.nodes + 1) by omega] at h2
  unfold jb at hi hn h1 h2 ⊢
  rw [show (Fm.f2 6 a b).cells = [.int .u8 (6 : Nat), .str .empty, .sl none 0 [], .sl none 2 [.int .u8 a.op, .str a.nmB, .sl none 0 [], .sl none a.sn a.sc, .int .u8 b.op, .str b.nmB, .sl none 0 [], .sl none b.sn b.sc]] from rfl]
  unfold Fm.cells at h1 h2
  generalize a.op = ao at h1 ⊢
  generalize a.nmB = an at h1 ⊢
  generalize a.sn = asn at h1 ⊢
  generalize a.sc = asc at h1 ⊢
  generalize b.op = bo at h2 ⊢
  generalize b.nmB = bn at h2 ⊢
  generalize b.sn = bsn at h2 ⊢
  generalize b.sc = bsc at h2 ⊢
  refine fn_gen Tryd.E0 Tryd.mx Tryd.func71 (by kernel_rfl) rfl (Nat.le_of_ble_eq_true rfl) rfl fun hcl hbl => ?_
  (repeat' ((conv => whnf); (first | (refine IfN.id ?_; first | refine IfN.not ?_ | refine IfN.tt rfl ?_ | refine IfN.ff rfl ?_ | fail) | (refine EqN.id ?_; first | (refine EqN.addN _ _ (by first | with_reducible rfl | with_reducible exact cst1 | with_reducible exact cst0 | with_reducible exact cst2 | with_reducible exact cst3 | with_reducible exact cst4 | with_reducible exact cst5 | with_reducible exact cst6 | with_reducible exact cst7 | with_reducible exact cst8 | with_reducible exact cst14 | with_reducible exact cst15 | with_reducible exact cst25 | with_reducible exact cst30 | with_reducible exact cst31 | fail) (by first | with_reducible rfl | with_reducible exact cst1 | with_reducible exact cst0 | with_reducible exact cst2 | with_reducible exact cst3 | with_reducible exact cst4 | with_reducible exact cst5 | with_reducible exact cst6 | with_reducible exact cst7 | with_reducible exact cst8 | with_reducible exact cst14 | with_reducible exact cst15 | with_reducible exact cst25 | with_reducible exact cst30 | with_reducible exact cst31 | fail) ?_ ?_; · (repeat' (first | omega | refine And.intro ?_ ?_ | exact bnd_andl (by omega) | exact bnd_andr (by omega) | refine bnd_or ?_ ?_ | refine bnd_or31 ?_ ?_ | refine bnd_xor ?_ ?_ | refine bnd_xor31 ?_ ?_ | refine bnd_shr ?_ | refine bnd_shl ?_ ?_ | refine bnd_mod ?_ | refine bnd_andl ?_ | fail))) | refine EqN.remN _ _ (by first | with_reducible rfl | with_reducible exact cst1 | with_reducible exact cst0 | with_reducible exact cst2 | with_reducible exact cst3 | with_reducible exact cst4 | with_reducible exact cst5 | with_reducible exact cst6 | with_reducible exact cst7 | with_reducible exact cst8 | with_reducible exact cst14 | with_reducible exact cst15 | with_reducible exact cst25 | with_reducible exact cst30 | with_reducible exact cst31 | fail) (by first | with_reducible rfl | with_reducible exact cst1 | with_reducible exact cst0 | with_reducible exact cst2 | with_reducible exact cst3 | with_reducible exact cst4 | with_reducible exact cst5 | with_reducible exact cst6 | with_reducible exact cst7 | with_reducible exact cst8 | with_reducible exact cst14 | with_reducible exact cst15 | with_reducible exact cst25 | with_reducible exact cst30 | with_reducible exact cst31 | fail) ?_ | fail) | (refine SideN.mk ?_ ?_; · first | kernel_rfl | omega | exact List.cons_ne_nil _ _ | (simp; done) | (simp; omega) | exact trivial | assumption | fail) | (refine CallN.id ?_; first | refine CallN.det _ (named0_c _) ?_ | refine CallN.det _ (terms_c _ _ _) ?_ | fail) | refine CallN.setB i _ _ _ _ hi rfl rfl (hn _) rfl ?_ | refine SegN.mk _ (seg_rfl rfl) ?_ | fail))); all_goals (conv => whnf)
  refine LoopN.rounds Tryd.E0 Tryd.mx 3 (by simp) ?_
  (repeat' ((conv => whnf); (first | (refine IfN.id ?_; first | refine IfN.not ?_ | refine IfN.tt rfl ?_ | refine IfN.ff rfl ?_ | fail) | (refine EqN.id ?_; first | (refine EqN.addN _ _ (by first | with_reducible rfl | with_reducible exact cst1 | with_reducible exact cst0 | with_reducible exact cst2 | with_reducible exact cst3 | with_reducible exact cst4 | with_reducible exact cst5 | with_reducible exact cst6 | with_reducible exact cst7 | with_reducible exact cst8 | with_reducible exact cst14 | with_reducible exact cst15 | with_reducible exact cst25 | with_reducible exact cst30 | with_reducible exact cst31 | fail) (by first | with_reducible rfl | with_reducible exact cst1 | with_reducible exact cst0 | with_reducible exact cst2 | with_reducible exact cst3 | with_reducible exact cst4 | with_reducible exact cst5 | with_reducible exact cst6 | with_reducible exact cst7 | with_reducible exact cst8 | with_reducible exact cst14 | with_reducible exact cst15 | with_reducible exact cst25 | with_reducible exact cst30 | with_reducible exact cst31 | fail) ?_ ?_; · (repeat' (first | omega | refine And.intro ?_ ?_ | exact bnd_andl (by omega) | exact bnd_andr (by omega) | refine bnd_or ?_ ?_ | refine bnd_or31 ?_ ?_ | refine bnd_xor ?_ ?_ | refine bnd_xor31 ?_ ?_ | refine bnd_shr ?_ | refine bnd_shl ?_ ?_ | refine bnd_mod ?_ | refine bnd_andl ?_ | fail))) | fail) | (refine SideN.mk ?_ ?_; · first | kernel_rfl | omega | exact List.cons_ne_nil _ _ | (simp; done) | (simp; omega) | exact trivial | assumption | fail) | refine CallN.setB i _ _ _ _ (at_set hi) (by simp) rfl (h1 _) (List.set_set ..) ?_ | refine CallN.setB i _ _ _ _ (at_set hi) (by simp) rfl (h2 _) (List.set_set ..) ?_ | refine SegN.mk _ (seg_rfl rfl) ?_ | fail))); all_goals (conv => whnf)
  exact EndN.setB (by simp [Blk.below, belowL, below]) trivial (Wk.refl _)
theorem form_f2_7 (a b : Fm) (iha : FormIH a) (ihb : FormIH b) (H : Heap) (i L d : Nat) (hi : H[i]? = some (jb L)) (hL : a.nodes + b.nodes + 1 ≤ L ∧ L ≤ 400) (hd : d + (max a.depth b.depth + 1) ≤ 41) : VCall Tryd.prog 71 [.ptr i 0, .agg (Fm.f2 7 a b).cells, .int .i64 d] H (setR H i (jb (L - (a.nodes + b.nodes + 1))) (.bool true)) := by
  have hp := a.nodes_pos
  have hpd := a.depth_pos
  have hp2 := b.nodes_pos
  have hpd2 := b.depth_pos
  have hn := fun X => node_c (H ++ X) i L d (at_base' hi) (by omega) (by omega)
  have h1 := fun X => iha (H.set i (jb (L - 1)) ++ X) i (L - 1) (d + 1) (at_base' (at_set hi)) (by omega) (by omega)
  have h2 := fun X => ihb (H.set i (jb (L - 1 - a.nodes)) ++ X) i (L - 1 - a.nodes) (d + 1) (at_base' (at_set hi)) (by omega) (by omega)
  rw [show L - 1 - a.nodes - b.nodes = L - (a.nodes + b.nodes + 1) by omega] at h2
  unfold jb at hi hn h1 h2 ⊢
  rw [show (Fm.f2 7 a b).cells = [.int .u8 (7 : Nat), .str .empty, .sl none 0 [], .sl none 2 [.int .u8 a.op, .str a.nmB, .sl none 0 [], .sl none a.sn a.sc, .int .u8 b.op, .str b.nmB, .sl none 0 [], .sl none b.sn b.sc]] from rfl]
  unfold Fm.cells at h1 h2
  generalize a.op = ao at h1 ⊢
  generalize a.nmB = an at h1 ⊢
  generalize a.sn = asn at h1 ⊢
  generalize a.sc = asc at h1 ⊢
  generalize b.op = bo at h2 ⊢
  generalize b.nmB = bn at h2 ⊢
  generalize b.sn = bsn at h2 ⊢
  generalize b.sc = bsc at h2 ⊢
  refine fn_gen Tryd.E0 Tryd.mx Tryd.func71 (by kernel_rfl) rfl (Nat.le_of_ble_eq_true rfl) rfl fun hcl hbl => ?_
  (repeat' ((conv => whnf); (first | (refine IfN.id ?_; first | refine IfN.not ?_ | refine IfN.tt rfl ?_ | refine IfN.ff rfl ?_ | fail) | (refine EqN.id ?_; first | (refine EqN.addN _ _ (by first | with_reducible rfl | with_reducible exact cst1 | with_reducible exact cst0 | with_reducible exact cst2 | with_reducible exact cst3 | with_reducible exact cst4 | with_reducible exact cst5 | with_reducible exact cst6 | with_reducible exact cst7 | with_reducible exact cst8 | with_reducible exact cst14 | with_reducible exact cst15 | with_reducible exact cst25 | with_reducible exact cst30 | with_reducible exact cst31 | fail) (by first | with_reducible rfl | with_reducible exact cst1 | with_reducible exact cst0 | with_reducible exact cst2 | with_reducible exact cst3 | with_reducible exact cst4 | with_reducible exact cst5 | with_reducible exact cst6 | with_reducible exact cst7 | with_reducible exact cst8 | with_reducible exact cst14 | with_reducible exact cst15 | with_reducible exact cst25 | with_reducible exact cst30 | with_reducible exact cst31 | fail) ?_ ?_; · (repeat' (first | omega | refine And.intro ?_ ?_ | exact bnd_andl (by omega) | exact bnd_andr (by omega) | refine bnd_or ?_ ?_ | refine bnd_or31 ?_ ?_ | refine bnd_xor ?_ ?_ | refine bnd_xor31 ?_ ?_ | refine bnd_shr ?_ | refine bnd_shl ?_ ?_ | refine bnd_mod ?_ | refine bnd_andl ?_ | fail))) | refine EqN.remN _ _ (by first | with_reducible rfl | with_reducible exact cst1 | with_reducible exact cst0 | with_reducible exact cst2 | with_reducible exact cst3 | with_reducible exact cst4 | with_reducible exact cst5 | with_reducible exact cst6 | with_reducible exact cst7 | with_reducible exact cst8 | with_reducible exact cst14 | with_reducible exact cst15 | with_reducible exact cst25 | with_reducible exact cst30 | with_reducible exact cst31 | fail) (by first | with_reducible rfl | with_reducible exact cst1 | with_reducible exact cst0 | with_reducible exact cst2 | with_reducible exact cst3 | with_reducible exact cst4 | with_reducible exact cst5 | with_reducible exact cst6 | with_reducible exact cst7 | with_reducible exact cst8 | with_reducible exact cst14 | with_reducible exact cst15 | with_reducible exact cst25 | with_reducible exact cst30 | with_reducible exact cst31 | fail) ?_ | fail) | (refine SideN.mk ?_ ?_; · first | kernel_rfl | omega | exact List.cons_ne_nil _ _ | (simp; done) | (simp; omega) | exact trivial | assumption | fail) | (refine CallN.id ?_; first | refine CallN.det _ (named0_c _) ?_ | refine CallN.det _ (terms_c _ _ _) ?_ | fail) | refine CallN.setB i _ _ _ _ hi rfl rfl (hn _) rfl ?_ | refine SegN.mk _ (seg_rfl rfl) ?_ | fail))); all_goals (conv => whnf)
  refine LoopN.rounds Tryd.E0 Tryd.mx 3 (by simp) ?_
  (repeat' ((conv => whnf); (first | (refine IfN.id ?_; first | refine IfN.not ?_ | refine IfN.tt rfl ?_ | refine IfN.ff rfl ?_ | fail) | (refine EqN.id ?_; first | (refine EqN.addN _ _ (by first | with_reducible rfl | with_reducible exact cst1 | with_reducible exact cst0 | with_reducible exact cst2 | with_reducible exact cst3 | with_reducible exact cst4 | with_reducible exact cst5 | with_reducible exact cst6 | with_reducible exact cst7 | with_reducible exact cst8 | with_reducible exact cst14 | with_reducible exact cst15 | with_reducible exact cst25 | with_reducible exact cst30 | with_reducible exact cst31 | fail) (by first | with_reducible rfl | with_reducible exact cst1 | with_reducible exact cst0 | with_reducible exact cst2 | with_reducible exact cst3 | with_reducible exact cst4 | with_reducible exact cst5 | with_reducible exact cst6 | with_reducible exact cst7 | with_reducible exact cst8 | with_reducible exact cst14 | with_reducible exact cst15 | with_reducible exact cst25 | with_reducible exact cst30 | with_reducible exact cst31 | fail) ?_ ?_; · (repeat' (first | omega | refine And.intro ?_ ?_ | exact bnd_andl (by omega) | exact bnd_andr (by omega) | refine bnd_or ?_ ?_ | refine bnd_or31 ?_ ?_ | refine bnd_xor ?_ ?_ | refine bnd_xor31 ?_ ?_ | refine bnd_shr ?_ | refine bnd_shl ?_ ?_ | refine bnd_mod ?_ | refine bnd_andl ?_ | fail))) | fail) | (refine SideN.mk ?_ ?_; · first | kernel_rfl | omega | exact List.cons_ne_nil _ _ | (simp; done) | (simp; omega) | exact trivial | assumption | fail) | refine CallN.setB i _ _ _ _ (at_set hi) (by simp) rfl (h1 _) (List.set_set ..) ?_ | refine CallN.setB i _ _ _ _ (at_set hi) (by simp) rfl (h2 _) (List.set_set ..) ?_ | refine SegN.mk _ (seg_rfl rfl) ?_ | fail))); all_goals (conv => whnf)
  exact EndN.setB (by simp [Blk.below, belowL, below]) trivial (Wk.refl _)
theorem form_f2_14 (a b : Fm) (iha : FormIH a) (ihb : FormIH b) (H : Heap) (i L d : Nat) (hi : H[i]? = some (jb L)) (hL : a.nodes + b.nodes + 1 ≤ L ∧ L ≤ 400) (hd : d + (max a.depth b.depth + 1) ≤ 41) : VCall Tryd.prog 71 [.ptr i 0, .agg (Fm.f2 14 a b).cells, .int .i64 d] H (setR H i (jb (L - (a.nodes + b.nodes + 1))) (.bool true)) := by
  have hp := a.nodes_pos
  have hpd := a.depth_pos
  have hp2 := b.nodes_pos
  have hpd2 := b.depth_pos
  have hn := fun X => node_c (H ++ X) i L d (at_base' hi) (by omega) (by omega)
  have h1 := fun X => iha (H.set i (jb (L - 1)) ++ X) i (L - 1) (d + 1) (at_base' (at_set hi)) (by omega) (by omega)
  have h2 := fun X => ihb (H.set i (jb (L - 1 - a.nodes)) ++ X) i (L - 1 - a.nodes) (d + 1) (at_base' (at_set hi)) (by omega) (by omega)
  rw [show L - 1 - a.nodes - b.nodes = L - (a.nodes + b.nodes + 1) by omega] at h2
  unfold jb at hi hn h1 h2 ⊢
  rw [show (Fm.f2 14 a b).cells = [.int .u8 (14 : Nat), .str .empty, .sl none 0 [], .sl none 2 [.int .u8 a.op, .str a.nmB, .sl none 0 [], .sl none a.sn a.sc, .int .u8 b.op, .str b.nmB, .sl none 0 [], .sl none b.sn b.sc]] from rfl]
  unfold Fm.cells at h1 h2
  generalize a.op = ao at h1 ⊢
  generalize a.nmB = an at h1 ⊢
  generalize a.sn = asn at h1 ⊢
  generalize a.sc = asc at h1 ⊢
  generalize b.op = bo at h2 ⊢
  generalize b.nmB = bn at h2 ⊢
  generalize b.sn = bsn at h2 ⊢
  generalize b.sc = bsc at h2 ⊢
  refine fn_gen Tryd.E0 Tryd.mx Tryd.func71 (by kernel_rfl) rfl (Nat.le_of_ble_eq_true rfl) rfl fun hcl hbl => ?_
  (repeat' ((conv => whnf); (first | (refine IfN.id ?_; first | refine IfN.not ?_ | refine IfN.tt rfl ?_ | refine IfN.ff rfl ?_ | fail) | (refine EqN.id ?_; first | (refine EqN.addN _ _ (by first | with_reducible rfl | with_reducible exact cst1 | with_reducible exact cst0 | with_reducible exact cst2 | with_reducible exact cst3 | with_reducible exact cst4 | with_reducible exact cst5 | with_reducible exact cst6 | with_reducible exact cst7 | with_reducible exact cst8 | with_reducible exact cst14 | with_reducible exact cst15 | with_reducible exact cst25 | with_reducible exact cst30 | with_reducible exact cst31 | fail) (by first | with_reducible rfl | with_reducible exact cst1 | with_reducible exact cst0 | with_reducible exact cst2 | with_reducible exact cst3 | with_reducible exact cst4 | with_reducible exact cst5 | with_reducible exact cst6 | with_reducible exact cst7 | with_reducible exact cst8 | with_reducible exact cst14 | with_reducible exact cst15 | with_reducible exact cst25 | with_reducible exact cst30 | with_reducible exact cst31 | fail) ?_ ?_; · (repeat' (first | omega | refine And.intro ?_ ?_ | exact bnd_andl (by omega) | exact bnd_andr (by omega) | refine bnd_or ?_ ?_ | refine bnd_or31 ?_ ?_ | refine bnd_xor ?_ ?_ | refine bnd_xor31 ?_ ?_ | refine bnd_shr ?_ | refine bnd_shl ?_ ?_ | refine bnd_mod ?_ | refine bnd_andl ?_ | fail))) | refine EqN.remN _ _ (by first | with_reducible rfl | with_reducible exact cst1 | with_reducible exact cst0 | with_reducible exact cst2 | with_reducible exact cst3 | with_reducible exact cst4 | with_reducible exact cst5 | with_reducible exact cst6 | with_reducible exact cst7 | with_reducible exact cst8 | with_reducible exact cst14 | with_reducible exact cst15 | with_reducible exact cst25 | with_reducible exact cst30 | with_reducible exact cst31 | fail) (by first | with_reducible rfl | with_reducible exact cst1 | with_reducible exact cst0 | with_reducible exact cst2 | with_reducible exact cst3 | with_reducible exact cst4 | with_reducible exact cst5 | with_reducible exact cst6 | with_reducible exact cst7 | with_reducible exact cst8 | with_reducible exact cst14 | with_reducible exact cst15 | with_reducible exact cst25 | with_reducible exact cst30 | with_reducible exact cst31 | fail) ?_ | fail) | (refine SideN.mk ?_ ?_; · first | kernel_rfl | omega | exact List.cons_ne_nil _ _ | (simp; done) | (simp; omega) | exact trivial | assumption | fail) | (refine CallN.id ?_; first | refine CallN.det _ (named0_c _) ?_ | refine CallN.det _ (terms_c _ _ _) ?_ | fail) | refine CallN.setB i _ _ _ _ hi rfl rfl (hn _) rfl ?_ | refine SegN.mk _ (seg_rfl rfl) ?_ | fail))); all_goals (conv => whnf)
  refine LoopN.rounds Tryd.E0 Tryd.mx 3 (by simp) ?_
  (repeat' ((conv => whnf); (first | (refine IfN.id ?_; first | refine IfN.not ?_ | refine IfN.tt rfl ?_ | refine IfN.ff rfl ?_ | fail) | (refine EqN.id ?_; first | (refine EqN.addN _ _ (by first | with_reducible rfl | with_reducible exact cst1 | with_reducible exact cst0 | with_reducible exact cst2 | with_reducible exact cst3 | with_reducible exact cst4 | with_reducible exact cst5 | with_reducible exact cst6 | with_reducible exact cst7 | with_reducible exact cst8 | with_reducible exact cst14 | with_reducible exact cst15 | with_reducible exact cst25 | with_reducible exact cst30 | with_reducible exact cst31 | fail) (by first | with_reducible rfl | with_reducible exact cst1 | with_reducible exact cst0 | with_reducible exact cst2 | with_reducible exact cst3 | with_reducible exact cst4 | with_reducible exact cst5 | with_reducible exact cst6 | with_reducible exact cst7 | with_reducible exact cst8 | with_reducible exact cst14 | with_reducible exact cst15 | with_reducible exact cst25 | with_reducible exact cst30 | with_reducible exact cst31 | fail) ?_ ?_; · (repeat' (first | omega | refine And.intro ?_ ?_ | exact bnd_andl (by omega) | exact bnd_andr (by omega) | refine bnd_or ?_ ?_ | refine bnd_or31 ?_ ?_ | refine bnd_xor ?_ ?_ | refine bnd_xor31 ?_ ?_ | refine bnd_shr ?_ | refine bnd_shl ?_ ?_ | refine bnd_mod ?_ | refine bnd_andl ?_ | fail))) | fail) | (refine SideN.mk ?_ ?_; · first | kernel_rfl | omega | exact List.cons_ne_nil _ _ | (simp; done) | (simp; omega) | exact trivial | assumption | fail) | refine CallN.setB i _ _ _ _ (at_set hi) (by simp) rfl (h1 _) (List.set_set ..) ?_ | refine CallN.setB i _ _ _ _ (at_set hi) (by simp) rfl (h2 _) (List.set_set ..) ?_ | refine SegN.mk _ (seg_rfl rfl) ?_ | fail))); all_goals (conv => whnf)
  exact EndN.setB (by simp [Blk.below, belowL, below]) trivial (Wk.refl _)
theorem form_c : ∀ f : Fm, f.Ok → FormIH f
  | .at c, h => fun H i L d hi hL hd => form_at c h H i L d hi hL (by simp only [Fm.depth] at hd; omega)
  | .fa, _ => fun H i L d hi hL hd => form_fa H i L d hi hL (by simp only [Fm.depth] at hd; omega)
  | .f1 k a, h => by
    have ih := form_c a h.2
    rcases h.1 with rfl | rfl | rfl | rfl | rfl
    · exact form_f1_3 a ih
    · exact form_f1_10 a ih
    · exact form_f1_11 a ih
    · exact form_f1_12 a ih
    · exact form_f1_13 a ih
  | .f2 k a b, h => by
    have iha := form_c a h.2.1
    have ihb := form_c b h.2.2
    rcases h.1 with rfl | rfl | rfl | rfl | rfl
    · exact form_f2_4 a b iha ihb
    · exact form_f2_5 a b iha ihb
    · exact form_f2_6 a b iha ihb
    · exact form_f2_7 a b iha ihb
    · exact form_f2_14 a b iha ihb
theorem synRight_c (f : Fm) (hf : f.Ok) (hn : f.Small) (H : Heap) : VDet Tryd.prog 50 [.agg f.cells] H (.bool true) := by
  have h1 := form_c f hf (H ++ [.box 35 f.cells, jb 400]) (H.length + 1) 400 1 (at_loc0 rfl) ⟨hn.1, Nat.le_refl _⟩ (by have := hn.2; omega)
  unfold jb at h1
  unfold Fm.cells at h1 ⊢
  refine fn_det Tryd.E0 Tryd.mx Tryd.func50 (by kernel_rfl) rfl (Nat.le_of_ble_eq_true rfl) rfl fun hcl hbl => ?_
  (repeat' ((conv => whnf); (first | refine CallN.setL 1 _ _ _ rfl rfl h1 rfl ?_ | fail))); all_goals (conv => whnf)
  exact EndN.det trivial (Wk.refl _)
end Go.Proofs.YtjflngchbeegcaaDoor
/-! text L13 -/
namespace Go.Proofs.YtjflngchbeegcaaDoor
open Go.Vsi
set_option maxHeartbeats 1000000
attribute [local irreducible] VW VCall VO bits

def Fm.Temp : Fm → Prop
  | .at _ => True
  | .fa => True
  | .f1 k a => (k = 3 ∨ k = 12 ∨ k = 13) ∧ a.Temp
  | .f2 k a b => is2 k ∧ a.Temp ∧ b.Temp
theorem temp_at (c : UInt8) (H : Heap) : VDet Tryd.prog 51 [.agg (Fm.at c).cells] H (.bool true) := by
  unfold Fm.cells
  simp only [Fm.op, Fm.nmB, Fm.sn, Fm.sc]
  refine fn_det Tryd.E0 Tryd.mx Tryd.func51 (by kernel_rfl) rfl (Nat.le_of_ble_eq_true rfl) rfl fun hcl hbl => ?_
  (repeat' ((conv => whnf); (first | (refine IfN.id ?_; first | refine IfN.not ?_ | refine IfN.ff rfl ?_ | fail) | fail))); all_goals (conv => whnf)
  refine LoopN.rounds Tryd.E0 Tryd.mx 1 rfl ?_
  (repeat' ((conv => whnf); (first | (refine IfN.id ?_; first | refine IfN.ff rfl ?_ | fail) | fail))); all_goals (conv => whnf)
  exact EndN.det trivial (Wk.refl _)
theorem temp_fa (H : Heap) : VDet Tryd.prog 51 [.agg Fm.fa.cells] H (.bool true) := by
  unfold Fm.cells
  simp only [Fm.op, Fm.nmB, Fm.sn, Fm.sc]
  refine fn_det Tryd.E0 Tryd.mx Tryd.func51 (by kernel_rfl) rfl (Nat.le_of_ble_eq_true rfl) rfl fun hcl hbl => ?_
  (repeat' ((conv => whnf); (first | (refine IfN.id ?_; first | refine IfN.not ?_ | refine IfN.ff rfl ?_ | fail) | fail))); all_goals (conv => whnf)
  refine LoopN.rounds Tryd.E0 Tryd.mx 1 rfl ?_
  (repeat' ((conv => whnf); (first | (refine IfN.id ?_; first | refine IfN.ff rfl ?_ | fail) | fail))); all_goals (conv => whnf)
  exact EndN.det trivial (Wk.refl _)
theorem temp_box (a : Fm) (H : Heap) : VDet Tryd.prog 51 [.agg (Fm.f1 10 a).cells] H (.bool false) := by
  rw [show (Fm.f1 10 a).cells = [.int .u8 (10 : Nat), .str .empty, .sl none 0 [], .sl none 1 [.int .u8 a.op, .str a.nmB, .sl none 0 [], .sl none a.sn a.sc]] from rfl]
  refine fn_det Tryd.E0 Tryd.mx Tryd.func51 (by kernel_rfl) rfl (Nat.le_of_ble_eq_true rfl) rfl fun hcl hbl => ?_
  (repeat' ((conv => whnf); (first | (refine IfN.id ?_; first | refine IfN.not ?_ | refine IfN.tt rfl ?_ | refine IfN.ff rfl ?_ | fail) | fail))); all_goals (conv => whnf)
  exact EndN.det trivial (Wk.refl _)
theorem temp_f1_3 (a : Fm) (h1 : ∀ H, VDet Tryd.prog 51 [.agg a.cells] H (.bool true)) (H : Heap) : VDet Tryd.prog 51 [.agg (Fm.f1 3 a).cells] H (.bool true) := by
  rw [show (Fm.f1 3 a).cells = [.int .u8 (3 : Nat), .str .empty, .sl none 0 [], .sl none 1 [.int .u8 a.op, .str a.nmB, .sl none 0 [], .sl none a.sn a.sc]] from rfl]
  unfold Fm.cells at h1
  generalize a.op = ao at h1 ⊢
  generalize a.nmB = an at h1 ⊢
  generalize a.sn = asn at h1 ⊢
  generalize a.sc = asc at h1 ⊢
  refine fn_det Tryd.E0 Tryd.mx Tryd.func51 (by kernel_rfl) rfl (Nat.le_of_ble_eq_true rfl) rfl fun hcl hbl => ?_
  (repeat' ((conv => whnf); (first | (refine IfN.id ?_; first | refine IfN.not ?_ | refine IfN.ff rfl ?_ | fail) | fail))); all_goals (conv => whnf)
  refine LoopN.rounds Tryd.E0 Tryd.mx 2 rfl ?_
  (repeat' ((conv => whnf); (first | (refine IfN.id ?_; first | refine IfN.not ?_ | refine IfN.tt rfl ?_ | refine IfN.ff rfl ?_ | fail) | (refine EqN.id ?_; first | (refine EqN.addN _ _ (by first | with_reducible rfl | with_reducible exact cst1 | with_reducible exact cst0 | with_reducible exact cst2 | with_reducible exact cst3 | with_reducible exact cst4 | with_reducible exact cst5 | with_reducible exact cst6 | with_reducible exact cst7 | with_reducible exact cst8 | with_reducible exact cst14 | with_reducible exact cst15 | with_reducible exact cst25 | with_reducible exact cst30 | with_reducible exact cst31 | fail) (by first | with_reducible rfl | with_reducible exact cst1 | with_reducible exact cst0 | with_reducible exact cst2 | with_reducible exact cst3 | with_reducible exact cst4 | with_reducible exact cst5 | with_reducible exact cst6 | with_reducible exact cst7 | with_reducible exact cst8 | with_reducible exact cst14 | with_reducible exact cst15 | with_reducible exact cst25 | with_reducible exact cst30 | with_reducible exact cst31 | fail) ?_ ?_; · (repeat' (first | omega | refine And.intro ?_ ?_ | exact bnd_andl (by omega) | exact bnd_andr (by omega) | refine bnd_or ?_ ?_ | refine bnd_or31 ?_ ?_ | refine bnd_xor ?_ ?_ | refine bnd_xor31 ?_ ?_ | refine bnd_shr ?_ | refine bnd_shl ?_ ?_ | refine bnd_mod ?_ | refine bnd_andl ?_ | fail))) | fail) | (refine SideN.mk ?_ ?_; · first | kernel_rfl | omega | exact List.cons_ne_nil _ _ | (simp; done) | (simp; omega) | exact trivial | assumption | fail) | (refine CallN.id ?_; first | refine CallN.det _ (h1 _) ?_ | fail) | refine SegN.mk _ (seg_rfl rfl) ?_ | fail))); all_goals (conv => whnf)
  exact EndN.det trivial (Wk.refl _)
theorem temp_f1_12 (a : Fm) (h1 : ∀ H, VDet Tryd.prog 51 [.agg a.cells] H (.bool true)) (H : Heap) : VDet Tryd.prog 51 [.agg (Fm.f1 12 a).cells] H (.bool true) := by
  rw [show (Fm.f1 12 a).cells = [.int .u8 (12 : Nat), .str .empty, .sl none 0 [], .sl none 1 [.int .u8 a.op, .str a.nmB, .sl none 0 [], .sl none a.sn a.sc]] from rfl]
  unfold Fm.cells at h1
  generalize a.op = ao at h1 ⊢
  generalize a.nmB = an at h1 ⊢
  generalize a.sn = asn at h1 ⊢
  generalize a.sc = asc at h1 ⊢
  refine fn_det Tryd.E0 Tryd.mx Tryd.func51 (by kernel_rfl) rfl (Nat.le_of_ble_eq_true rfl) rfl fun hcl hbl => ?_
  (repeat' ((conv => whnf); (first | (refine IfN.id ?_; first | refine IfN.not ?_ | refine IfN.tt rfl ?_ | refine IfN.ff rfl ?_ | fail) | fail))); all_goals (conv => whnf)
  refine LoopN.rounds Tryd.E0 Tryd.mx 2 rfl ?_
  (repeat' ((conv => whnf); (first | (refine IfN.id ?_; first | refine IfN.not ?_ | refine IfN.tt rfl ?_ | refine IfN.ff rfl ?_ | fail) | (refine EqN.id ?_; first | (refine EqN.addN _ _ (by first | with_reducible rfl | with_reducible exact cst1 | with_reducible exact cst0 | with_reducible exact cst2 | with_reducible exact cst3 | with_reducible exact cst4 | with_reducible exact cst5 | with_reducible exact cst6 | with_reducible exact cst7 | with_reducible exact cst8 | with_reducible exact cst14 | with_reducible exact cst15 | with_reducible exact cst25 | with_reducible exact cst30 | with_reducible exact cst31 | fail) (by first | with_reducible rfl | with_reducible exact cst1 | with_reducible exact cst0 | with_reducible exact cst2 | with_reducible exact cst3 | with_reducible exact cst4 | with_reducible exact cst5 | with_reducible exact cst6 | with_reducible exact cst7 | with_reducible exact cst8 | with_reducible exact cst14 | with_reducible exact cst15 | with_reducible exact cst25 | with_reducible exact cst30 | with_reducible exact cst31 | fail) ?_ ?_; · (repeat' (first | omega | refine And.intro ?_ ?_ | exact bnd_andl (by omega) | exact bnd_andr (by omega) | refine bnd_or ?_ ?_ | refine bnd_or31 ?_ ?_ | refine bnd_xor ?_ ?_ | refine bnd_xor31 ?_ ?_ | refine bnd_shr ?_ | refine bnd_shl ?_ ?_ | refine bnd_mod ?_ | refine bnd_andl ?_ | fail))) | fail) | (refine SideN.mk ?_ ?_; · first | kernel_rfl | omega | exact List.cons_ne_nil _ _ | (simp; done) | (simp; omega) | exact trivial | assumption | fail) | (refine CallN.id ?_; first | refine CallN.det _ (h1 _) ?_ | fail) | refine SegN.mk _ (seg_rfl rfl) ?_ | fail))); all_goals (conv => whnf)
  exact EndN.det trivial (Wk.refl _)
theorem temp_f1_13 (a : Fm) (h1 : ∀ H, VDet Tryd.prog 51 [.agg a.cells] H (.bool true)) (H : Heap) : VDet Tryd.prog 51 [.agg (Fm.f1 13 a).cells] H (.bool true) := by
  rw [show (Fm.f1 13 a).cells = [.int .u8 (13 : Nat), .str .empty, .sl none 0 [], .sl none 1 [.int .u8 a.op, .str a.nmB, .sl none 0 [], .sl none a.sn a.sc]] from rfl]
  unfold Fm.cells at h1
  generalize a.op = ao at h1 ⊢
  generalize a.nmB = an at h1 ⊢
  generalize a.sn = asn at h1 ⊢
  generalize a.sc = asc at h1 ⊢
  refine fn_det Tryd.E0 Tryd.mx Tryd.func51 (by kernel_rfl) rfl (Nat.le_of_ble_eq_true rfl) rfl fun hcl hbl => ?_
  (repeat' ((conv => whnf); (first | (refine IfN.id ?_; first | refine IfN.not ?_ | refine IfN.tt rfl ?_ | refine IfN.ff rfl ?_ | fail) | fail))); all_goals (conv => whnf)
  refine LoopN.rounds Tryd.E0 Tryd.mx 2 rfl ?_
  (repeat' ((conv => whnf); (first | (refine IfN.id ?_; first | refine IfN.not ?_ | refine IfN.tt rfl ?_ | refine IfN.ff rfl ?_ | fail) | (refine EqN.id ?_; first | (refine EqN.addN _ _ (by first | with_reducible rfl | with_reducible exact cst1 | with_reducible exact cst0 | with_reducible exact cst2 | with_reducible exact cst3 | with_reducible exact cst4 | with_reducible exact cst5 | with_reducible exact cst6 | with_reducible exact cst7 | with_reducible exact cst8 | with_reducible exact cst14 | with_reducible exact cst15 | with_reducible exact cst25 | with_reducible exact cst30 | with_reducible exact cst31 | fail) (by first | with_reducible rfl | with_reducible exact cst1 | with_reducible exact cst0 | with_reducible exact cst2 | with_reducible exact cst3 | with_reducible exact cst4 | with_reducible exact cst5 | with_reducible exact cst6 | with_reducible exact cst7 | with_reducible exact cst8 | with_reducible exact cst14 | with_reducible exact cst15 | with_reducible exact cst25 | with_reducible exact cst30 | with_reducible exact cst31 | fail) ?_ ?_; · (repeat' (first | omega | refine And.intro ?_ ?_ | exact bnd_andl (by omega) | exact bnd_andr (by omega) | refine bnd_or ?_ ?_ | refine bnd_or31 ?_ ?_ | refine bnd_xor ?_ ?_ | refine bnd_xor31 ?_ ?_ | refine bnd_shr ?_ | refine bnd_shl ?_ ?_ | refine bnd_mod ?_ | refine bnd_andl ?_ | fail))) | fail) | (refine SideN.mk ?_ ?_; · first | kernel_rfl | omega | exact List.cons_ne_nil _ _ | (simp; done) | (simp; omega) | exact trivial | assumption | fail) | (refine CallN.id ?_; first | refine CallN.det _ (h1 _) ?_ | fail) | refine SegN.mk _ (seg_rfl rfl) ?_ | fail))); all_goals (conv => whnf)
  exact EndN.det trivial (Wk.refl _)
theorem temp_f2_4 (a b : Fm) (h1 : ∀ H, VDet Tryd.prog 51 [.agg a.cells] H (.bool true)) (h2 : ∀ H, VDet Tryd.prog 51 [.agg b.cells] H (.bool true)) (H : Heap) : VDet Tryd.prog 51 [.agg (Fm.f2 4 a b).cells] H (.bool true) := by
  rw [show (Fm.f2 4 a b).cells = [.int .u8 (4 : Nat), .str .empty, .sl none 0 [], .sl none 2 [.int .u8 a.op, .str a.nmB, .sl none 0 [], .sl none a.sn a.sc, .int .u8 b.op, .str b.nmB, .sl none 0 [], .sl none b.sn b.sc]] from rfl]
  unfold Fm.cells at h1 h2
  generalize a.op = ao at h1 ⊢
  generalize a.nmB = an at h1 ⊢
  generalize a.sn = asn at h1 ⊢
  generalize a.sc = asc at h1 ⊢
  generalize b.op = bo at h2 ⊢
  generalize b.nmB = bn at h2 ⊢
  generalize b.sn = bsn at h2 ⊢
  generalize b.sc = bsc at h2 ⊢
  refine fn_det Tryd.E0 Tryd.mx Tryd.func51 (by kernel_rfl) rfl (Nat.le_of_ble_eq_true rfl) rfl fun hcl hbl => ?_
  (repeat' ((conv => whnf); (first | (refine IfN.id ?_; first | refine IfN.not ?_ | refine IfN.ff rfl ?_ | fail) | fail))); all_goals (conv => whnf)
  refine LoopN.rounds Tryd.E0 Tryd.mx 3 rfl ?_
  (repeat' ((conv => whnf); (first | (refine IfN.id ?_; first | refine IfN.not ?_ | refine IfN.tt rfl ?_ | refine IfN.ff rfl ?_ | fail) | (refine EqN.id ?_; first | (refine EqN.addN _ _ (by first | with_reducible rfl | with_reducible exact cst1 | with_reducible exact cst0 | with_reducible exact cst2 | with_reducible exact cst3 | with_reducible exact cst4 | with_reducible exact cst5 | with_reducible exact cst6 | with_reducible exact cst7 | with_reducible exact cst8 | with_reducible exact cst14 | with_reducible exact cst15 | with_reducible exact cst25 | with_reducible exact cst30 | with_reducible exact cst31 | fail) (by first | with_reducible rfl | with_reducible exact cst1 | with_reducible exact cst0 | with_reducible exact cst2 | with_reducible exact cst3 | with_reducible exact cst4 | with_reducible exact cst5 | with_reducible exact cst6 | with_reducible exact cst7 | with_reducible exact cst8 | with_reducible exact cst14 | with_reducible exact cst15 | with_reducible exact cst25 | with_reducible exact cst30 | with_reducible exact cst31 | fail) ?_ ?_; · (repeat' (first | omega | refine And.intro ?_ ?_ | exact bnd_andl (by omega) | exact bnd_andr (by omega) | refine bnd_or ?_ ?_ | refine bnd_or31 ?_ ?_ | refine bnd_xor ?_ ?_ | refine bnd_xor31 ?_ ?_ | refine bnd_shr ?_ | refine bnd_shl ?_ ?_ | refine bnd_mod ?_ | refine bnd_andl ?_ | fail))) | fail) | (refine SideN.mk ?_ ?_; · first | kernel_rfl | omega | exact List.cons_ne_nil _ _ | (simp; done) | (simp; omega) | exact trivial | assumption | fail) | (refine CallN.id ?_; first | refine CallN.det _ (h1 _) ?_ | refine CallN.det _ (h2 _) ?_ | fail) | refine SegN.mk _ (seg_rfl rfl) ?_ | fail))); all_goals (conv => whnf)
  exact EndN.det trivial (Wk.refl _)
theorem temp_f2_5 (a b : Fm) (h1 : ∀ H, VDet Tryd.prog 51 [.agg a.cells] H (.bool true)) (h2 : ∀ H, VDet Tryd.prog 51 [.agg b.cells] H (.bool true)) (H : Heap) : VDet Tryd.prog 51 [.agg (Fm.f2 5 a b).cells] H (.bool true) := by
  rw [show (Fm.f2 5 a b).cells = [.int .u8 (5 : Nat), .str .empty, .sl none 0 [], .sl none 2 [.int .u8 a.op, .str a.nmB, .sl none 0 [], .sl none a.sn a.sc, .int .u8 b.op, .str b.nmB, .sl none 0 [], .sl none b.sn b.sc]] from rfl]
  unfold Fm.cells at h1 h2
  generalize a.op = ao at h1 ⊢
  generalize a.nmB = an at h1 ⊢
  generalize a.sn = asn at h1 ⊢
  generalize a.sc = asc at h1 ⊢
  generalize b.op = bo at h2 ⊢
  generalize b.nmB = bn at h2 ⊢
  generalize b.sn = bsn at h2 ⊢
  generalize b.sc = bsc at h2 ⊢
  refine fn_det Tryd.E0 Tryd.mx Tryd.func51 (by kernel_rfl) rfl (Nat.le_of_ble_eq_true rfl) rfl fun hcl hbl => ?_
  (repeat' ((conv => whnf); (first | (refine IfN.id ?_; first | refine IfN.not ?_ | refine IfN.ff rfl ?_ | fail) | fail))); all_goals (conv => whnf)
  refine LoopN.rounds Tryd.E0 Tryd.mx 3 rfl ?_
  (repeat' ((conv => whnf); (first | (refine IfN.id ?_; first | refine IfN.not ?_ | refine IfN.tt rfl ?_ | refine IfN.ff rfl ?_ | fail) | (refine EqN.id ?_; first | (refine EqN.addN _ _ (by first | with_reducible rfl | with_reducible exact cst1 | with_reducible exact cst0 | with_reducible exact cst2 | with_reducible exact cst3 | with_reducible exact cst4 | with_reducible exact cst5 | with_reducible exact cst6 | with_reducible exact cst7 | with_reducible exact cst8 | with_reducible exact cst14 | with_reducible exact cst15 | with_reducible exact cst25 | with_reducible exact cst30 | with_reducible exact cst31 | fail) (by first | with_reducible rfl | with_reducible exact cst1 | with_reducible exact cst0 | with_reducible exact cst2 | with_reducible exact cst3 | with_reducible exact cst4 | with_reducible exact cst5 | with_reducible exact cst6 | with_reducible exact cst7 | with_reducible exact cst8 | with_reducible exact cst14 | with_reducible exact cst15 | with_reducible exact cst25 | with_reducible exact cst30 | with_reducible exact cst31 | fail) ?_ ?_; · (repeat' (first | omega | refine And.intro ?_ ?_ | exact bnd_andl (by omega) | exact bnd_andr (by omega) | refine bnd_or ?_ ?_ | refine bnd_or31 ?_ ?_ | refine bnd_xor ?_ ?_ | refine bnd_xor31 ?_ ?_ | refine bnd_shr ?_ | refine bnd_shl ?_ ?_ | refine bnd_mod ?_ | refine bnd_andl ?_ | fail))) | fail) | (refine SideN.mk ?_ ?_; · first | kernel_rfl | omega | exact List.cons_ne_nil _ _ | (simp; done) | (simp; omega) | exact trivial | assumption | fail) | (refine CallN.id ?_; first | refine CallN.det _ (h1 _) ?_ | refine CallN.det _ (h2 _) ?_ | fail) | refine SegN.mk _ (seg_rfl rfl) ?_ | fail))); all_goals (conv => whnf)
  exact EndN.det trivial (Wk.refl _)
theorem temp_f2_6 (a b : Fm) (h1 : ∀ H, VDet Tryd.prog 51 [.agg a.cells] H (.bool true)) (h2 : ∀ H, VDet Tryd.prog 51 [.agg b.cells] H (.bool true)) (H : Heap) : VDet Tryd.prog 51 [.agg (Fm.f2 6 a b).cells] H (.bool true) := by
  rw [show (Fm.f2 6 a b).cells = [.int .u8 (6 : Nat), .str .empty, .sl none 0 [], .sl none 2 [.int .u8 a.op, .str a.nmB, .sl none 0 [], .sl none a.sn a.sc, .int .u8 b.op, .str b.nmB, .sl none 0 [], .sl none b.sn b.sc]] from rfl]
  unfold Fm.cells at h1 h2
  generalize a.op = ao at h1 ⊢
  generalize a.nmB = an at h1 ⊢
  generalize a.sn = asn at h1 ⊢
  generalize a.sc = asc at h1 ⊢
  generalize b.op = bo at h2 ⊢
  generalize b.nmB = bn at h2 ⊢
  generalize b.sn = bsn at h2 ⊢
  generalize b.sc = bsc at h2 ⊢
  refine fn_det Tryd.E0 Tryd.mx Tryd.func51 (by kernel_rfl) rfl (Nat.le_of_ble_eq_true rfl) rfl fun hcl hbl => ?_
  (repeat' ((conv => whnf); (first | (refine IfN.id ?_; first | refine IfN.not ?_ | refine IfN.ff rfl ?_ | fail) | fail))); all_goals (conv => whnf)
  refine LoopN.rounds Tryd.E0 Tryd.mx 3 rfl ?_
  (repeat' ((conv => whnf); (first | (refine IfN.id ?_; first | refine IfN.not ?_ | refine IfN.tt rfl ?_ | refine IfN.ff rfl ?_ | fail) | (refine EqN.id ?_; first | (refine EqN.addN _ _ (by first | with_reducible rfl | with_reducible exact cst1 | with_reducible exact cst0 | with_reducible exact cst2 | with_reducible exact cst3 | with_reducible exact cst4 | with_reducible exact cst5 | with_reducible exact cst6 | with_reducible exact cst7 | with_reducible exact cst8 | with_reducible exact cst14 | with_reducible exact cst15 | with_reducible exact cst25 | with_reducible exact cst30 | with_reducible exact cst31 | fail) (by first | with_reducible rfl | with_reducible exact cst1 | with_reducible exact cst0 | with_reducible exact cst2 | with_reducible exact cst3 | with_reducible exact cst4 | with_reducible exact cst5 | with_reducible exact cst6 | with_reducible exact cst7 | with_reducible exact cst8 | with_reducible exact cst14 | with_reducible exact cst15 | with_reducible exact cst25 | with_reducible exact cst30 | with_reducible exact cst31 | fail) ?_ ?_; · (repeat' (first | omega | refine And.intro ?_ ?_ | exact bnd_andl (by omega) | exact bnd_andr (by omega) | refine bnd_or ?_ ?_ | refine bnd_or31 ?_ ?_ | refine bnd_xor ?_ ?_ | refine bnd_xor31 ?_ ?_ | refine bnd_shr ?_ | refine bnd_shl ?_ ?_ | refine bnd_mod ?_ | refine bnd_andl ?_ | fail))) | fail) | (refine SideN.mk ?_ ?_; · first | kernel_rfl | omega | exact List.cons_ne_nil _ _ | (simp; done) | (simp; omega) | exact trivial | assumption | fail) | (refine CallN.id ?_; first | refine CallN.det _ (h1 _) ?_ | refine CallN.det _ (h2 _) ?_ | fail) | refine SegN.mk _ (seg_rfl rfl) ?_ | fail))); all_goals (conv => whnf)
  exact EndN.det trivial (Wk.refl _)
theorem temp_f2_7 (a b : Fm) (h1 : ∀ H, VDet Tryd.prog 51 [.agg a.cells] H (.bool true)) (h2 : ∀ H, VDet Tryd.prog 51 [.agg b.cells] H (.bool true)) (H : Heap) : VDet Tryd.prog 51 [.agg (Fm.f2 7 a b).cells] H (.bool true) := by
  rw [show (Fm.f2 7 a b).cells = [.int .u8 (7 : Nat), .str .empty, .sl none 0 [], .sl none 2 [.int .u8 a.op, .str a.nmB, .sl none 0 [], .sl none a.sn a.sc, .int .u8 b.op, .str b.nmB, .sl none 0 [], .sl none b.sn b.sc]] from rfl]
  unfold Fm.cells at h1 h2
  generalize a.op = ao at h1 ⊢
  generalize a.nmB = an at h1 ⊢
  generalize a.sn = asn at h1 ⊢
  generalize a.sc = asc at h1 ⊢
  generalize b.op = bo at h2 ⊢
  generalize b.nmB = bn at h2 ⊢
  generalize b.sn = bsn at h2 ⊢
  generalize b.sc = bsc at h2 ⊢
  refine fn_det Tryd.E0 Tryd.mx Tryd.func51 (by kernel_rfl) rfl (Nat.le_of_ble_eq_true rfl) rfl fun hcl hbl => ?_
  (repeat' ((conv => whnf); (first | (refine IfN.id ?_; first | refine IfN.not ?_ | refine IfN.ff rfl ?_ | fail) | fail))); all_goals (conv => whnf)
  refine LoopN.rounds Tryd.E0 Tryd.mx 3 rfl ?_
  (repeat' ((conv => whnf); (first | (refine IfN.id ?_; first | refine IfN.not ?_ | refine IfN.tt rfl ?_ | refine IfN.ff rfl ?_ | fail) | (refine EqN.id ?_; first | (refine EqN.addN _ _ (by first | with_reducible rfl | with_reducible exact cst1 | with_reducible exact cst0 | with_reducible exact cst2 | with_reducible exact cst3 | with_reducible exact cst4 | with_reducible exact cst5 | with_reducible exact cst6 | with_reducible exact cst7 | with_reducible exact cst8 | with_reducible exact cst14 | with_reducible exact cst15 | with_reducible exact cst25 | with_reducible exact cst30 | with_reducible exact cst31 | fail) (by first | with_reducible rfl | with_reducible exact cst1 | with_reducible exact cst0 | with_reducible exact cst2 | with_reducible exact cst3 | with_reducible exact cst4 | with_reducible exact cst5 | with_reducible exact cst6 | with_reducible exact cst7 | with_reducible exact cst8 | with_reducible exact cst14 | with_reducible exact cst15 | with_reducible exact cst25 | with_reducible exact cst30 | with_reducible exact cst31 | fail) ?_ ?_; · (repeat' (first | omega | refine And.intro ?_ ?_ | exact bnd_andl (by omega) | exact bnd_andr (by omega) | refine bnd_or ?_ ?_ | refine bnd_or31 ?_ ?_ | refine bnd_xor ?_ ?_ | refine bnd_xor31 ?_ ?_ | refine bnd_shr ?_ | refine bnd_shl ?_ ?_ | refine bnd_mod ?_ | refine bnd_andl ?_ | fail))) | fail) | (refine SideN.mk ?_ ?_; · first | kernel_rfl | omega | exact List.cons_ne_nil _ _ | (simp; done) | (simp; omega) | exact trivial | assumption | fail) | (refine CallN.id ?_; first | refine CallN.det _ (h1 _) ?_ | refine CallN.det _ (h2 _) ?_ | fail) | refine SegN.mk _ (seg_rfl rfl) ?_ | fail))); all_goals (conv => whnf)
  exact EndN.det trivial (Wk.refl _)
theorem temp_f2_14 (a b : Fm) (h1 : ∀ H, VDet Tryd.prog 51 [.agg a.cells] H (.bool true)) (h2 : ∀ H, VDet Tryd.prog 51 [.agg b.cells] H (.bool true)) (H : Heap) : VDet Tryd.prog 51 [.agg (Fm.f2 14 a b).cells] H (.bool true) := by
  rw [show (Fm.f2 14 a b).cells = [.int .u8 (14 : Nat), .str .empty, .sl none 0 [], .sl none 2 [.int .u8 a.op, .str a.nmB, .sl none 0 [], .sl none a.sn a.sc, .int .u8 b.op, .str b.nmB, .sl none 0 [], .sl none b.sn b.sc]] from rfl]
  unfold Fm.cells at h1 h2
  generalize a.op = ao at h1 ⊢
  generalize a.nmB = an at h1 ⊢
  generalize a.sn = asn at h1 ⊢
  generalize a.sc = asc at h1 ⊢
  generalize b.op = bo at h2 ⊢
  generalize b.nmB = bn at h2 ⊢
  generalize b.sn = bsn at h2 ⊢
  generalize b.sc = bsc at h2 ⊢
  refine fn_det Tryd.E0 Tryd.mx Tryd.func51 (by kernel_rfl) rfl (Nat.le_of_ble_eq_true rfl) rfl fun hcl hbl => ?_
  (repeat' ((conv => whnf); (first | (refine IfN.id ?_; first | refine IfN.not ?_ | refine IfN.tt rfl ?_ | refine IfN.ff rfl ?_ | fail) | fail))); all_goals (conv => whnf)
  refine LoopN.rounds Tryd.E0 Tryd.mx 3 rfl ?_
  (repeat' ((conv => whnf); (first | (refine IfN.id ?_; first | refine IfN.not ?_ | refine IfN.tt rfl ?_ | refine IfN.ff rfl ?_ | fail) | (refine EqN.id ?_; first | (refine EqN.addN _ _ (by first | with_reducible rfl | with_reducible exact cst1 | with_reducible exact cst0 | with_reducible exact cst2 | with_reducible exact cst3 | with_reducible exact cst4 | with_reducible exact cst5 | with_reducible exact cst6 | with_reducible exact cst7 | with_reducible exact cst8 | with_reducible exact cst14 | with_reducible exact cst15 | with_reducible exact cst25 | with_reducible exact cst30 | with_reducible exact cst31 | fail) (by first | with_reducible rfl | with_reducible exact cst1 | with_reducible exact cst0 | with_reducible exact cst2 | with_reducible exact cst3 | with_reducible exact cst4 | with_reducible exact cst5 | with_reducible exact cst6 | with_reducible exact cst7 | with_reducible exact cst8 | with_reducible exact cst14 | with_reducible exact cst15 | with_reducible exact cst25 | with_reducible exact cst30 | with_reducible exact cst31 | fail) ?_ ?_; · (repeat' (first | omega | refine And.intro ?_ ?_ | exact bnd_andl (by omega) | exact bnd_andr (by omega) | refine bnd_or ?_ ?_ | refine bnd_or31 ?_ ?_ | refine bnd_xor ?_ ?_ | refine bnd_xor31 ?_ ?_ | refine bnd_shr ?_ | refine bnd_shl ?_ ?_ | refine bnd_mod ?_ | refine bnd_andl ?_ | fail))) | fail) | (refine SideN.mk ?_ ?_; · first | kernel_rfl | omega | exact List.cons_ne_nil _ _ | (simp; done) | (simp; omega) | exact trivial | assumption | fail) | (refine CallN.id ?_; first | refine CallN.det _ (h1 _) ?_ | refine CallN.det _ (h2 _) ?_ | fail) | refine SegN.mk _ (seg_rfl rfl) ?_ | fail))); all_goals (conv => whnf)
  exact EndN.det trivial (Wk.refl _)
theorem temp_c : ∀ f : Fm, f.Temp → ∀ H, VDet Tryd.prog 51 [.agg f.cells] H (.bool true)
  | .at c, _ => temp_at c
  | .fa, _ => temp_fa
  | .f1 k a, h => by
    have ih := temp_c a h.2
    rcases h.1 with rfl | rfl | rfl
    · exact temp_f1_3 a ih
    · exact temp_f1_12 a ih
    · exact temp_f1_13 a ih
  | .f2 k a b, h => by
    have iha := temp_c a h.2.1
    have ihb := temp_c b h.2.2
    rcases h.1 with rfl | rfl | rfl | rfl | rfl
    · exact temp_f2_4 a b iha ihb
    · exact temp_f2_5 a b iha ihb
    · exact temp_f2_6 a b iha ihb
    · exact temp_f2_7 a b iha ihb
    · exact temp_f2_14 a b iha ihb
theorem right_c (f : Fm) (hf : f.Ok) (ht : f.Temp) (hn : f.Small) (H : Heap) : VDet Tryd.prog 31 [.agg f.cells] H (.bool true) := by
  have h1 := fun H => synRight_c f hf hn H
  have h2 := fun H => temp_c f ht H
  unfold Fm.cells at h1 h2 ⊢
  refine fn_det Tryd.E0 Tryd.mx Tryd.func31 (by kernel_rfl) rfl (Nat.le_of_ble_eq_true rfl) rfl fun hcl hbl => ?_
  (repeat' ((conv => whnf); (first | (refine IfN.id ?_; first | refine IfN.tt rfl ?_ | fail) | (refine CallN.id ?_; first | refine CallN.det _ (h1 _) ?_ | refine CallN.det _ (h2 _) ?_ | fail) | fail))); all_goals (conv => whnf)
  exact EndN.det trivial (Wk.refl _)
theorem right_box (f : Fm) (hf : f.Ok) (hn : (Fm.f1 10 f).Small) (H : Heap) : VDet Tryd.prog 31 [.agg (Fm.f1 10 f).cells] H (.bool false) := by
  have h1 := fun H => synRight_c (Fm.f1 10 f) ⟨.inr (.inl rfl), hf⟩ hn H
  have h2 := fun H => temp_box f H
  rw [show (Fm.f1 10 f).cells = [.int .u8 (10 : Nat), .str .empty, .sl none 0 [], .sl none 1 [.int .u8 f.op, .str f.nmB, .sl none 0 [], .sl none f.sn f.sc]] from rfl] at h1 h2 ⊢
  refine fn_det Tryd.E0 Tryd.mx Tryd.func31 (by kernel_rfl) rfl (Nat.le_of_ble_eq_true rfl) rfl fun hcl hbl => ?_
  (repeat' ((conv => whnf); (first | (refine IfN.id ?_; first | refine IfN.tt rfl ?_ | fail) | (refine CallN.id ?_; first | refine CallN.det _ (h1 _) ?_ | refine CallN.det _ (h2 _) ?_ | fail) | fail))); all_goals (conv => whnf)
  exact EndN.det trivial (Wk.refl _)
end Go.Proofs.YtjflngchbeegcaaDoor
/-! text M13 -/
namespace Go.Proofs.YtjflngchbeegcaaDoor
open Go.Vsi
set_option maxHeartbeats 1000000
attribute [local irreducible] VW VCall VO bits

/-! ### what a formula is worth -/
def fnd (c : UInt8) : List (UInt8 × Nat) → Option Nat
  | [] => none
  | p :: l => match c == p.1 with
    | true => some p.2
    | false => fnd c l
def fk (l : List (UInt8 × Nat)) : List AV := l.map fun p => .str (nm p.1)
def fv (l : List (UInt8 × Nat)) : List AV := l.map fun p => .int .i64 p.2
abbrev seq : AV → AV → Option Bool := eqV Tryd.kn Tryd.T 20 9
theorem seq_nm (c d : UInt8) : seq (.str (nm c)) (.str (nm d)) = some (c == d) := by
  rw [← nm_eq]; rfl
theorem mfind_nm (c : UInt8) : ∀ l : List (UInt8 × Nat), (fnd c l = none → mfind seq (.str (nm c)) (fk l) = some none) ∧ (∀ v, fnd c l = some v → ∃ j, mfind seq (.str (nm c)) (fk l) = some (some j) ∧ (fv l)[j]? = some (.int .i64 v))
  | [] => ⟨fun _ => rfl, fun v h => by cases h⟩
  | p :: l => by
    obtain ⟨i1, i2⟩ := mfind_nm c l
    simp only [fnd, fk, fv, List.map_cons, mfind, seq_nm]
    cases hc : c == p.1 with
    | true => exact ⟨fun h => absurd h (by simp), fun v h => ⟨0, rfl, by simp only [Option.some.injEq] at h; simp [h]⟩⟩
    | false =>
      refine ⟨fun h => ?_, fun v h => ?_⟩
      · have := i1 h
        unfold fk at this
        simp only [this]
      · obtain ⟨j, h1, h2⟩ := i2 v h
        unfold fk at h1
        exact ⟨j + 1, by simp only [h1], by simpa [fv] using h2⟩
def evT (t : Tr) : Fm → Nat
  | .at c => (fnd c t.fs).getD 0
  | .fa => 0
  | .f1 k a => if k = 3 then nt (every t.n) (evT t a) else if k = 12 then befN t.n t.lp (evT t a) else if k = 13 then alN t.n t.lp (evT t a) else 0
  | .f2 k a b => if k = 4 then evT t a &&& evT t b else if k = 5 then evT t a ||| evT t b else if k = 6 then nt (every t.n) (evT t a) ||| evT t b else if k = 7 then nt (every t.n) (evT t a ^^^ evT t b) else if k = 14 then unN t.n t.lp (evT t a) (evT t b) else 0
def miss (t : Tr) : Fm → Bool
  | .at c => (fnd c t.fs).isNone
  | .fa => false
  | .f1 _ a => miss t a
  | .f2 _ a b => miss t a || miss t b
theorem every_lt2 (n : Nat) : every n < 2 ^ n := by
  unfold every
  rw [Nat.shiftLeft_eq]
  have := Nat.two_pow_pos n
  omega
theorem nt_lt {n e a : Nat} (he : e < 2 ^ n) : nt e a < 2 ^ n := Nat.xor_lt_two_pow he (Nat.lt_of_le_of_lt Nat.and_le_left he)
theorem fnd_lt {c : UInt8} {n : Nat} : ∀ {l : List (UInt8 × Nat)}, (∀ p ∈ l, p.2 < 2 ^ n) → ∀ v, fnd c l = some v → v < 2 ^ n
  | [], _, v, h => by cases h
  | p :: l, hl, v, h => by
    simp only [fnd] at h
    split at h
    · simp only [Option.some.injEq] at h; exact h ▸ hl p (List.mem_cons_self ..)
    · exact fnd_lt (fun q hq => hl q (List.mem_cons_of_mem _ hq)) v h
theorem Tr.Ok.masks {t : Tr} (h : t.Ok) : ∀ p ∈ t.fs, p.2 < 2 ^ t.n := fun p hp => by
  obtain ⟨i, hi, rfl⟩ := List.getElem_of_mem hp
  have := h.mask i hi
  simpa [ft, hi] using this
theorem itA_lt {n lp a : Nat} (ha : a < 2 ^ n) : ∀ j, itN (alF n lp a) j (every n) < 2 ^ n
  | 0 => every_lt2 n
  | _ + 1 => Nat.lt_of_le_of_lt Nat.and_le_left ha
theorem itU_lt {n lp a b : Nat} (ha : a < 2 ^ n) (hb : b < 2 ^ n) : ∀ j, itN (unF n lp a b) j 0 < 2 ^ n
  | 0 => Nat.two_pow_pos n
  | _ + 1 => Nat.or_lt_two_pow hb (Nat.lt_of_le_of_lt Nat.and_le_left ha)
theorem evT_lt {t : Tr} (h : t.Ok) : ∀ f, evT t f < 2 ^ t.n
  | .at c => by
    simp only [evT]
    cases hc : fnd c t.fs with
    | none => exact Nat.two_pow_pos _
    | some v => exact fnd_lt h.masks v hc
  | .fa => Nat.two_pow_pos _
  | .f1 k a => by
    have ha := evT_lt h a
    simp only [evT]
    repeat' split
    · exact nt_lt (every_lt2 _)
    · exact befN_lt _ _ _
    · exact itA_lt ha 5
    · exact Nat.two_pow_pos _
  | .f2 k a b => by
    have ha := evT_lt h a
    have hb := evT_lt h b
    simp only [evT]
    repeat' split
    · exact Nat.lt_of_le_of_lt Nat.and_le_left ha
    · exact Nat.or_lt_two_pow ha hb
    · exact Nat.or_lt_two_pow (nt_lt (every_lt2 _)) hb
    · exact nt_lt (every_lt2 _)
    · exact itU_lt ha hb 5
    · exact Nat.two_pow_pos _

/-! ### the closure at -/
structure AtEnv (t : Tr) (H : Heap) (im i1 i2 i3 i4 : Nat) (m0 : Bool) : Prop where
  hm : H[im]? = some (.mp (fk t.fs) (fv t.fs))
  h1 : H[i1]? = some (.box 79 [.mp im])
  h2 : H[i2]? = some (.box 4 [.bool m0])
  h3 : H[i3]? = some (.box 55 [.clo (.func 37) [] [.ptr i1 0, .ptr i2 0, .ptr i3 0, .ptr i4 0]])
  h4 : H[i4]? = some (.box 80 [.rmp opK (opV t)])
  ne : i2 ≠ im ∧ i2 ≠ i1 ∧ i2 ≠ i3 ∧ i2 ≠ i4
theorem AtEnv.app {t : Tr} {H : Heap} {im i1 i2 i3 i4 : Nat} {m0 : Bool} (e : AtEnv t H im i1 i2 i3 i4 m0) (X : Heap) : AtEnv t (H ++ X) im i1 i2 i3 i4 m0 :=
  ⟨at_base' e.hm, at_base' e.h1, at_base' e.h2, at_base' e.h3, at_base' e.h4, e.ne⟩
theorem AtEnv.set {t : Tr} {H : Heap} {im i1 i2 i3 i4 : Nat} {m0 : Bool} (e : AtEnv t H im i1 i2 i3 i4 m0) (b : Bool) : AtEnv t (H.set i2 (.box 4 [.bool b])) im i1 i2 i3 i4 b :=
  ⟨at_setNe e.ne.1 e.hm, at_setNe e.ne.2.1 e.h1, at_set e.h2, at_setNe e.ne.2.2.1 e.h3, at_setNe e.ne.2.2.2 e.h4, e.ne⟩
def AtIH (t : Tr) (f : Fm) : Prop := ∀ (H : Heap) (im i1 i2 i3 i4 : Nat) (m0 : Bool), AtEnv t H im i1 i2 i3 i4 m0 →
  VCall Tryd.prog 37 [.agg f.cells, .ptr i1 0, .ptr i2 0, .ptr i3 0, .ptr i4 0] H (setR H i2 (.box 4 [.bool (m0 || miss t f)]) (.int .i64 (evT t f : Nat)))
theorem at_fa (t : Tr) : AtIH t .fa := by
  intro H im i1 i2 i3 i4 m0 e
  obtain ⟨hm, h1, h2, h3, h4, hne⟩ := e
  unfold Fm.cells
  simp only [Fm.op, Fm.nmB, Fm.sn, Fm.sc, miss, evT, Bool.or_false]
  unfold opV at h4
  refine fn_gen Tryd.E0 Tryd.mx Tryd.func37 (by kernel_rfl) rfl (Nat.le_of_ble_eq_true rfl) rfl fun hcl hbl => ?_
  (repeat' ((conv => whnf); (first | (refine IfN.id ?_; first | refine IfN.not ?_ | refine IfN.tt rfl ?_ | refine IfN.ff rfl ?_ | refine IfN.dT (by omega) ?_ | refine IfN.dF (by omega) ?_ | refine IfN.dec (fun _ => ?_) (fun _ => ?_) | refine IfN.eqT (by omega) ?_ | refine IfN.eqF (by omega) ?_ | refine IfN.eq (fun _ => ?_) (fun _ => ?_) | refine IfN.neT (by omega) ?_ | refine IfN.neF (by omega) ?_ | refine IfN.ne (fun _ => ?_) (fun _ => ?_) | refine IfN.tt (by assumption) ?_ | refine IfN.ff (by assumption) ?_ | (refine IfN.mk ?_ ?_ <;> intro _) | fail) | (refine EqN.id ?_; first | (refine EqN.and _ _ (by first | with_reducible rfl | with_reducible exact cst1 | with_reducible exact cst0 | with_reducible exact cst2 | with_reducible exact cst3 | with_reducible exact cst4 | with_reducible exact cst5 | with_reducible exact cst6 | with_reducible exact cst7 | with_reducible exact cst8 | with_reducible exact cst14 | with_reducible exact cst15 | with_reducible exact cst25 | with_reducible exact cst30 | with_reducible exact cst31 | fail) (by first | with_reducible rfl | with_reducible exact cst1 | with_reducible exact cst0 | with_reducible exact cst2 | with_reducible exact cst3 | with_reducible exact cst4 | with_reducible exact cst5 | with_reducible exact cst6 | with_reducible exact cst7 | with_reducible exact cst8 | with_reducible exact cst14 | with_reducible exact cst15 | with_reducible exact cst25 | with_reducible exact cst30 | with_reducible exact cst31 | fail) ?_ ?_; · (repeat' (first | omega | refine And.intro ?_ ?_ | exact bnd_andl (by omega) | exact bnd_andr (by omega) | refine bnd_or ?_ ?_ | refine bnd_or31 ?_ ?_ | refine bnd_xor ?_ ?_ | refine bnd_xor31 ?_ ?_ | refine bnd_shr ?_ | refine bnd_shl ?_ ?_ | refine bnd_mod ?_ | refine bnd_andl ?_ | fail))) | (refine EqN.or _ _ (by first | with_reducible rfl | with_reducible exact cst1 | with_reducible exact cst0 | with_reducible exact cst2 | with_reducible exact cst3 | with_reducible exact cst4 | with_reducible exact cst5 | with_reducible exact cst6 | with_reducible exact cst7 | with_reducible exact cst8 | with_reducible exact cst14 | with_reducible exact cst15 | with_reducible exact cst25 | with_reducible exact cst30 | with_reducible exact cst31 | fail) (by first | with_reducible rfl | with_reducible exact cst1 | with_reducible exact cst0 | with_reducible exact cst2 | with_reducible exact cst3 | with_reducible exact cst4 | with_reducible exact cst5 | with_reducible exact cst6 | with_reducible exact cst7 | with_reducible exact cst8 | with_reducible exact cst14 | with_reducible exact cst15 | with_reducible exact cst25 | with_reducible exact cst30 | with_reducible exact cst31 | fail) ?_ ?_; · (repeat' (first | omega | refine And.intro ?_ ?_ | exact bnd_andl (by omega) | exact bnd_andr (by omega) | refine bnd_or ?_ ?_ | refine bnd_or31 ?_ ?_ | refine bnd_xor ?_ ?_ | refine bnd_xor31 ?_ ?_ | refine bnd_shr ?_ | refine bnd_shl ?_ ?_ | refine bnd_mod ?_ | refine bnd_andl ?_ | fail))) | (refine EqN.xor _ _ (by first | with_reducible rfl | with_reducible exact cst1 | with_reducible exact cst0 | with_reducible exact cst2 | with_reducible exact cst3 | with_reducible exact cst4 | with_reducible exact cst5 | with_reducible exact cst6 | with_reducible exact cst7 | with_reducible exact cst8 | with_reducible exact cst14 | with_reducible exact cst15 | with_reducible exact cst25 | with_reducible exact cst30 | with_reducible exact cst31 | fail) (by first | with_reducible rfl | with_reducible exact cst1 | with_reducible exact cst0 | with_reducible exact cst2 | with_reducible exact cst3 | with_reducible exact cst4 | with_reducible exact cst5 | with_reducible exact cst6 | with_reducible exact cst7 | with_reducible exact cst8 | with_reducible exact cst14 | with_reducible exact cst15 | with_reducible exact cst25 | with_reducible exact cst30 | with_reducible exact cst31 | fail) ?_ ?_; · (repeat' (first | omega | refine And.intro ?_ ?_ | exact bnd_andl (by omega) | exact bnd_andr (by omega) | refine bnd_or ?_ ?_ | refine bnd_or31 ?_ ?_ | refine bnd_xor ?_ ?_ | refine bnd_xor31 ?_ ?_ | refine bnd_shr ?_ | refine bnd_shl ?_ ?_ | refine bnd_mod ?_ | refine bnd_andl ?_ | fail))) | (refine EqN.andNot _ _ (by first | with_reducible rfl | with_reducible exact cst1 | with_reducible exact cst0 | with_reducible exact cst2 | with_reducible exact cst3 | with_reducible exact cst4 | with_reducible exact cst5 | with_reducible exact cst6 | with_reducible exact cst7 | with_reducible exact cst8 | with_reducible exact cst14 | with_reducible exact cst15 | with_reducible exact cst25 | with_reducible exact cst30 | with_reducible exact cst31 | fail) (by first | with_reducible rfl | with_reducible exact cst1 | with_reducible exact cst0 | with_reducible exact cst2 | with_reducible exact cst3 | with_reducible exact cst4 | with_reducible exact cst5 | with_reducible exact cst6 | with_reducible exact cst7 | with_reducible exact cst8 | with_reducible exact cst14 | with_reducible exact cst15 | with_reducible exact cst25 | with_reducible exact cst30 | with_reducible exact cst31 | fail) ?_ ?_; · (repeat' (first | omega | refine And.intro ?_ ?_ | exact bnd_andl (by omega) | exact bnd_andr (by omega) | refine bnd_or ?_ ?_ | refine bnd_or31 ?_ ?_ | refine bnd_xor ?_ ?_ | refine bnd_xor31 ?_ ?_ | refine bnd_shr ?_ | refine bnd_shl ?_ ?_ | refine bnd_mod ?_ | refine bnd_andl ?_ | fail))) | (refine EqN.shrN _ _ (by first | with_reducible rfl | with_reducible exact cst1 | with_reducible exact cst0 | with_reducible exact cst2 | with_reducible exact cst3 | with_reducible exact cst4 | with_reducible exact cst5 | with_reducible exact cst6 | with_reducible exact cst7 | with_reducible exact cst8 | with_reducible exact cst14 | with_reducible exact cst15 | with_reducible exact cst25 | with_reducible exact cst30 | with_reducible exact cst31 | fail) (by first | with_reducible rfl | with_reducible exact cst1 | with_reducible exact cst0 | with_reducible exact cst2 | with_reducible exact cst3 | with_reducible exact cst4 | with_reducible exact cst5 | with_reducible exact cst6 | with_reducible exact cst7 | with_reducible exact cst8 | with_reducible exact cst14 | with_reducible exact cst15 | with_reducible exact cst25 | with_reducible exact cst30 | with_reducible exact cst31 | fail) rfl ?_ ?_; · (repeat' (first | omega | refine And.intro ?_ ?_ | exact bnd_andl (by omega) | exact bnd_andr (by omega) | refine bnd_or ?_ ?_ | refine bnd_or31 ?_ ?_ | refine bnd_xor ?_ ?_ | refine bnd_xor31 ?_ ?_ | refine bnd_shr ?_ | refine bnd_shl ?_ ?_ | refine bnd_mod ?_ | refine bnd_andl ?_ | fail))) | (refine EqN.shlN _ _ (by first | with_reducible rfl | with_reducible exact cst1 | with_reducible exact cst0 | with_reducible exact cst2 | with_reducible exact cst3 | with_reducible exact cst4 | with_reducible exact cst5 | with_reducible exact cst6 | with_reducible exact cst7 | with_reducible exact cst8 | with_reducible exact cst14 | with_reducible exact cst15 | with_reducible exact cst25 | with_reducible exact cst30 | with_reducible exact cst31 | fail) (by first | with_reducible rfl | with_reducible exact cst1 | with_reducible exact cst0 | with_reducible exact cst2 | with_reducible exact cst3 | with_reducible exact cst4 | with_reducible exact cst5 | with_reducible exact cst6 | with_reducible exact cst7 | with_reducible exact cst8 | with_reducible exact cst14 | with_reducible exact cst15 | with_reducible exact cst25 | with_reducible exact cst30 | with_reducible exact cst31 | fail) rfl ?_ ?_ ?_; (· (repeat' (first | omega | refine And.intro ?_ ?_ | exact bnd_andl (by omega) | exact bnd_andr (by omega) | refine bnd_or ?_ ?_ | refine bnd_or31 ?_ ?_ | refine bnd_xor ?_ ?_ | refine bnd_xor31 ?_ ?_ | refine bnd_shr ?_ | refine bnd_shl ?_ ?_ | refine bnd_mod ?_ | refine bnd_andl ?_ | fail))); (· (repeat' (first | omega | refine And.intro ?_ ?_ | exact bnd_andl (by omega) | exact bnd_andr (by omega) | refine bnd_or ?_ ?_ | refine bnd_or31 ?_ ?_ | refine bnd_xor ?_ ?_ | refine bnd_xor31 ?_ ?_ | refine bnd_shr ?_ | refine bnd_shl ?_ ?_ | refine bnd_mod ?_ | refine bnd_andl ?_ | fail)))) | (refine EqN.addN _ _ (by first | with_reducible rfl | with_reducible exact cst1 | with_reducible exact cst0 | with_reducible exact cst2 | with_reducible exact cst3 | with_reducible exact cst4 | with_reducible exact cst5 | with_reducible exact cst6 | with_reducible exact cst7 | with_reducible exact cst8 | with_reducible exact cst14 | with_reducible exact cst15 | with_reducible exact cst25 | with_reducible exact cst30 | with_reducible exact cst31 | fail) (by first | with_reducible rfl | with_reducible exact cst1 | with_reducible exact cst0 | with_reducible exact cst2 | with_reducible exact cst3 | with_reducible exact cst4 | with_reducible exact cst5 | with_reducible exact cst6 | with_reducible exact cst7 | with_reducible exact cst8 | with_reducible exact cst14 | with_reducible exact cst15 | with_reducible exact cst25 | with_reducible exact cst30 | with_reducible exact cst31 | fail) ?_ ?_; · (repeat' (first | omega | refine And.intro ?_ ?_ | exact bnd_andl (by omega) | exact bnd_andr (by omega) | refine bnd_or ?_ ?_ | refine bnd_or31 ?_ ?_ | refine bnd_xor ?_ ?_ | refine bnd_xor31 ?_ ?_ | refine bnd_shr ?_ | refine bnd_shl ?_ ?_ | refine bnd_mod ?_ | refine bnd_andl ?_ | fail))) | (refine EqN.subN _ _ (by first | with_reducible rfl | with_reducible exact cst1 | with_reducible exact cst0 | with_reducible exact cst2 | with_reducible exact cst3 | with_reducible exact cst4 | with_reducible exact cst5 | with_reducible exact cst6 | with_reducible exact cst7 | with_reducible exact cst8 | with_reducible exact cst14 | with_reducible exact cst15 | with_reducible exact cst25 | with_reducible exact cst30 | with_reducible exact cst31 | fail) (by first | with_reducible rfl | with_reducible exact cst1 | with_reducible exact cst0 | with_reducible exact cst2 | with_reducible exact cst3 | with_reducible exact cst4 | with_reducible exact cst5 | with_reducible exact cst6 | with_reducible exact cst7 | with_reducible exact cst8 | with_reducible exact cst14 | with_reducible exact cst15 | with_reducible exact cst25 | with_reducible exact cst30 | with_reducible exact cst31 | fail) ?_ ?_; · (repeat' (first | omega | refine And.intro ?_ ?_ | exact bnd_andl (by omega) | exact bnd_andr (by omega) | refine bnd_or ?_ ?_ | refine bnd_or31 ?_ ?_ | refine bnd_xor ?_ ?_ | refine bnd_xor31 ?_ ?_ | refine bnd_shr ?_ | refine bnd_shl ?_ ?_ | refine bnd_mod ?_ | refine bnd_andl ?_ | fail))) | (refine EqN.mulN _ _ (by first | with_reducible rfl | with_reducible exact cst1 | with_reducible exact cst0 | with_reducible exact cst2 | with_reducible exact cst3 | with_reducible exact cst4 | with_reducible exact cst5 | with_reducible exact cst6 | with_reducible exact cst7 | with_reducible exact cst8 | with_reducible exact cst14 | with_reducible exact cst15 | with_reducible exact cst25 | with_reducible exact cst30 | with_reducible exact cst31 | fail) (by first | with_reducible rfl | with_reducible exact cst1 | with_reducible exact cst0 | with_reducible exact cst2 | with_reducible exact cst3 | with_reducible exact cst4 | with_reducible exact cst5 | with_reducible exact cst6 | with_reducible exact cst7 | with_reducible exact cst8 | with_reducible exact cst14 | with_reducible exact cst15 | with_reducible exact cst25 | with_reducible exact cst30 | with_reducible exact cst31 | fail) ?_ ?_; · (repeat' (first | omega | refine And.intro ?_ ?_ | exact bnd_andl (by omega) | exact bnd_andr (by omega) | refine bnd_or ?_ ?_ | refine bnd_or31 ?_ ?_ | refine bnd_xor ?_ ?_ | refine bnd_xor31 ?_ ?_ | refine bnd_shr ?_ | refine bnd_shl ?_ ?_ | refine bnd_mod ?_ | refine bnd_andl ?_ | fail))) | refine EqN.remN _ _ (by first | with_reducible rfl | with_reducible exact cst1 | with_reducible exact cst0 | with_reducible exact cst2 | with_reducible exact cst3 | with_reducible exact cst4 | with_reducible exact cst5 | with_reducible exact cst6 | with_reducible exact cst7 | with_reducible exact cst8 | with_reducible exact cst14 | with_reducible exact cst15 | with_reducible exact cst25 | with_reducible exact cst30 | with_reducible exact cst31 | fail) (by first | with_reducible rfl | with_reducible exact cst1 | with_reducible exact cst0 | with_reducible exact cst2 | with_reducible exact cst3 | with_reducible exact cst4 | with_reducible exact cst5 | with_reducible exact cst6 | with_reducible exact cst7 | with_reducible exact cst8 | with_reducible exact cst14 | with_reducible exact cst15 | with_reducible exact cst25 | with_reducible exact cst30 | with_reducible exact cst31 | fail) ?_ | refine EqN.i64 (by omega) ?_ | refine EqN.quo (by omega) ?_ | refine EqN.rem (by omega) ?_ | refine EqN.u8 (by omega) ?_ | refine EqN.u64 (by omega) ?_ | refine EqN.quo8 (by omega) ?_ | refine EqN.i32 (by omega) ?_ | refine EqN.u32 (by omega) ?_ | refine EqN.u16 (by omega) ?_ | refine EqN.quou (by omega) ?_ | refine EqN.shr _ rfl (by omega) ?_ | refine EqN.mk _ rfl ?_ | fail) | (refine SideN.mk ?_ ?_; · first | kernel_rfl | omega | exact List.cons_ne_nil _ _ | (simp; done) | (simp; omega) | exact trivial | assumption | fail) | refine SetN.mk _ rfl ?_ | refine NatN.mk _ rfl ?_ | refine NatN.at_ (by omega) ?_ | (refine CallN.id ?_; first | refine CallN.det _ (op1_c 0 0 _) ?_ | fail) | (refine CallD.id ?_; first | refine CallD.det _ (fun _ => op1_c 0 0 _) ?_ | fail) | refine RelN.mk [_] [] ⟨⟨_, rfl⟩, 0, by kernel_rfl, rfl⟩ ?_ | (refine PtrN.id ?_; first | refine PtrN.loc _ rfl ?_ | refine PtrN.base _ (by (repeat' (first | assumption | exact at_loc' _ rfl | exact at_loc0 rfl | refine at_set (B' := ?_) ?_ | refine at_base' ?_ | fail))) ?_ | fail) | refine SegN.mk _ (seg_rfl rfl) ?_ | refine OfsN.at_ (by omega) ?_ | fail))); all_goals (conv => whnf)
  exact EndN.same h2 trivial (Wk.refl _)
theorem at_at (t : Tr) (c : UInt8) : AtIH t (.at c) := by
  intro H im i1 i2 i3 i4 m0 e
  obtain ⟨hm, h1, h2, h3, h4, hne⟩ := e
  obtain ⟨m1, m2⟩ := mfind_nm c t.fs
  unfold Fm.cells
  simp only [Fm.op, Fm.nmB, Fm.sn, Fm.sc, miss, evT]
  cases hc : fnd c t.fs with
  | none =>
    have hl := m1 hc
    cases m0
    all_goals
      refine fn_gen Tryd.E0 Tryd.mx Tryd.func37 (by kernel_rfl) rfl (Nat.le_of_ble_eq_true rfl) rfl fun hcl hbl => ?_
      (repeat' ((conv => whnf); (first | (refine IfN.id ?_; first | refine IfN.not ?_ | refine IfN.tt rfl ?_ | refine IfN.ff rfl ?_ | refine IfN.dT (by omega) ?_ | refine IfN.dF (by omega) ?_ | refine IfN.dec (fun _ => ?_) (fun _ => ?_) | refine IfN.eqT (by omega) ?_ | refine IfN.eqF (by omega) ?_ | refine IfN.eq (fun _ => ?_) (fun _ => ?_) | refine IfN.neT (by omega) ?_ | refine IfN.neF (by omega) ?_ | refine IfN.ne (fun _ => ?_) (fun _ => ?_) | refine IfN.tt (by assumption) ?_ | refine IfN.ff (by assumption) ?_ | (refine IfN.mk ?_ ?_ <;> intro _) | fail) | (refine EqN.id ?_; first | (refine EqN.and _ _ (by first | with_reducible rfl | with_reducible exact cst1 | with_reducible exact cst0 | with_reducible exact cst2 | with_reducible exact cst3 | with_reducible exact cst4 | with_reducible exact cst5 | with_reducible exact cst6 | with_reducible exact cst7 | with_reducible exact cst8 | with_reducible exact cst14 | with_reducible exact cst15 | with_reducible exact cst25 | with_reducible exact cst30 | with_reducible exact cst31 | fail) (by first | with_reducible rfl | with_reducible exact cst1 | with_reducible exact cst0 | with_reducible exact cst2 | with_reducible exact cst3 | with_reducible exact cst4 | with_reducible exact cst5 | with_reducible exact cst6 | with_reducible exact cst7 | with_reducible exact cst8 | with_reducible exact cst14 | with_reducible exact cst15 | with_reducible exact cst25 | with_reducible exact cst30 | with_reducible exact cst31 | fail) ?_ ?_; · (repeat' (first | omega | refine And.intro ?_ ?_ | exact bnd_andl (by omega) | exact bnd_andr (by omega) | refine bnd_or ?_ ?_ | refine bnd_or31 ?_ ?_ | refine bnd_xor ?_ ?_ | refine bnd_xor31 ?_ ?_ | refine bnd_shr ?_ | refine bnd_shl ?_ ?_ | refine bnd_mod ?_ | refine bnd_andl ?_ | fail))) | (refine EqN.or _ _ (by first | with_reducible rfl | with_reducible exact cst1 | with_reducible exact cst0 | with_reducible exact cst2 | with_reducible exact cst3 | with_reducible exact cst4 | with_reducible exact cst5 | with_reducible exact cst6 | with_reducible exact cst7 | with_reducible exact cst8 | with_reducible exact cst14 | with_reducible exact cst15 | with_reducible exact cst25 | with_reducible exact cst30 | with_reducible exact cst31 | fail) (by first | with_reducible rfl | with_reducible exact cst1 | with_reducible exact cst0 | with_reducible exact cst2 | with_reducible exact cst3 | with_reducible exact cst4 | with_reducible exact cst5 | with_reducible exact cst6 | with_reducible exact cst7 | with_reducible exact cst8 | with_reducible exact cst14 | with_reducible exact cst15 | with_reducible exact cst25 | with_reducible exact cst30 | with_reducible exact cst31 | fail) ?_ ?_; · (repeat' (first | omega | refine And.intro ?_ ?_ | exact bnd_andl (by omega) | exact bnd_andr (by omega) | refine bnd_or ?_ ?_ | refine bnd_or31 ?_ ?_ | refine bnd_xor ?_ ?_ | refine bnd_xor31 ?_ ?_ | refine bnd_shr ?_ | refine bnd_shl ?_ ?_ | refine bnd_mod ?_ | refine bnd_andl ?_ | fail))) | (refine EqN.xor _ _ (by first | with_reducible rfl | with_reducible exact cst1 | with_reducible exact cst0 | with_reducible exact cst2 | with_reducible exact cst3 | with_reducible exact cst4 | with_reducible exact cst5 | with_reducible exact cst6 | with_reducible exact cst7 | with_reducible exact cst8 | with_reducible exact cst14 | with_reducible exact cst15 | with_reducible exact cst25 | with_reducible exact cst30 | with_reducible exact cst31 | fail) (by first | with_reducible rfl | with_reducible exact cst1 | with_reducible exact cst0 | with_reducible exact cst2 | with_reducible exact cst3 | with_reducible exact cst4 | with_reducible exact cst5 | with_reducible exact cst6 | with_reducible exact cst7 | with_reducible exact cst8 | with_reducible exact cst14 | with_reducible exact cst15 | with_reducible exact cst25 | with_reducible exact cst30 | with_reducible exact cst31 | fail) ?_ ?_; · (repeat' (first | omega | refine And.intro ?_ ?_ | exact bnd_andl (by omega) | exact bnd_andr (by omega) | refine bnd_or ?_ ?_ | refine bnd_or31 ?_ ?_ | refine bnd_xor ?_ ?_ | refine bnd_xor31 ?_ ?_ | refine bnd_shr ?_ | refine bnd_shl ?_ ?_ | refine bnd_mod ?_ | refine bnd_andl ?_ | fail))) | (refine EqN.andNot _ _ (by first | with_reducible rfl | with_reducible exact cst1 | with_reducible exact cst0 | with_reducible exact cst2 | with_reducible exact cst3 | with_reducible exact cst4 | with_reducible exact cst5 | with_reducible exact cst6 | with_reducible exact cst7 | with_reducible exact cst8 | with_reducible exact cst14 | with_reducible exact cst15 | with_reducible exact cst25 | with_reducible exact cst30 | with_reducible exact cst31 | fail) (by first | with_reducible rfl | with_reducible exact cst1 | with_reducible exact cst0 | with_reducible exact cst2 | with_reducible exact cst3 | with_reducible exact cst4 | with_reducible exact cst5 | with_reducible exact cst6 | with_reducible exact cst7 | with_reducible exact cst8 | with_reducible exact cst14 | with_reducible exact cst15 | with_reducible exact cst25 | with_reducible exact cst30 | with_reducible exact cst31 | fail) ?_ ?_; · (repeat' (first | omega | refine And.intro ?_ ?_ | exact bnd_andl (by omega) | exact bnd_andr (by omega) | refine bnd_or ?_ ?_ | refine bnd_or31 ?_ ?_ | refine bnd_xor ?_ ?_ | refine bnd_xor31 ?_ ?_ | refine bnd_shr ?_ | refine bnd_shl ?_ ?_ | refine bnd_mod ?_ | refine bnd_andl ?_ | fail))) | (refine EqN.shrN _ _ (by first | with_reducible rfl | with_reducible exact cst1 | with_reducible exact cst0 | with_reducible exact cst2 | with_reducible exact cst3 | with_reducible exact cst4 | with_reducible exact cst5 | with_reducible exact cst6 | with_reducible exact cst7 | with_reducible exact cst8 | with_reducible exact cst14 | with_reducible exact cst15 | with_reducible exact cst25 | with_reducible exact cst30 | with_reducible exact cst31 | fail) (by first | with_reducible rfl | with_reducible exact cst1 | with_reducible exact cst0 | with_reducible exact cst2 | with_reducible exact cst3 | with_reducible exact cst4 | with_reducible exact cst5 | with_reducible exact cst6 | with_reducible exact cst7 | with_reducible exact cst8 | with_reducible exact cst14 | with_reducible exact cst15 | with_reducible exact cst25 | with_reducible exact cst30 | with_reducible exact cst31 | fail) rfl ?_ ?_; · (repeat' (first | omega | refine And.intro ?_ ?_ | exact bnd_andl (by omega) | exact bnd_andr (by omega) | refine bnd_or ?_ ?_ | refine bnd_or31 ?_ ?_ | refine bnd_xor ?_ ?_ | refine bnd_xor31 ?_ ?_ | refine bnd_shr ?_ | refine bnd_shl ?_ ?_ | refine bnd_mod ?_ | refine bnd_andl ?_ | fail))) | (refine EqN.shlN _ _ (by first | with_reducible rfl | with_reducible exact cst1 | with_reducible exact cst0 | with_reducible exact cst2 | with_reducible exact cst3 | with_reducible exact cst4 | with_reducible exact cst5 | with_reducible exact cst6 | with_reducible exact cst7 | with_reducible exact cst8 | with_reducible exact cst14 | with_reducible exact cst15 | with_reducible exact cst25 | with_reducible exact cst30 | with_reducible exact cst31 | fail) (by first | with_reducible rfl | with_reducible exact cst1 | with_reducible exact cst0 | with_reducible exact cst2 | with_reducible exact cst3 | with_reducible exact cst4 | with_reducible exact cst5 | with_reducible exact cst6 | with_reducible exact cst7 | with_reducible exact cst8 | with_reducible exact cst14 | with_reducible exact cst15 | with_reducible exact cst25 | with_reducible exact cst30 | with_reducible exact cst31 | fail) rfl ?_ ?_ ?_; (· (repeat' (first | omega | refine And.intro ?_ ?_ | exact bnd_andl (by omega) | exact bnd_andr (by omega) | refine bnd_or ?_ ?_ | refine bnd_or31 ?_ ?_ | refine bnd_xor ?_ ?_ | refine bnd_xor31 ?_ ?_ | refine bnd_shr ?_ | refine bnd_shl ?_ ?_ | refine bnd_mod ?_ | refine bnd_andl ?_ | fail))); (· (repeat' (first | omega | refine And.intro ?_ ?_ | exact bnd_andl (by omega) | exact bnd_andr (by omega) | refine bnd_or ?_ ?_ | refine bnd_or31 ?_ ?_ | refine bnd_xor ?_ ?_ | refine bnd_xor31 ?_ ?_ | refine bnd_shr ?_ | refine bnd_shl ?_ ?_ | refine bnd_mod ?_ | refine bnd_andl ?_ | fail)))) | (refine EqN.addN _ _ (by first | with_reducible rfl | with_reducible exact cst1 | with_reducible exact cst0 | with_reducible exact cst2 | with_reducible exact cst3 | with_reducible exact cst4 | with_reducible exact cst5 | with_reducible exact cst6 | with_reducible exact cst7 | with_reducible exact cst8 | with_reducible exact cst14 | with_reducible exact cst15 | with_reducible exact cst25 | with_reducible exact cst30 | with_reducible exact cst31 | fail) (by first | with_reducible rfl | with_reducible exact cst1 | with_reducible exact cst0 | with_reducible exact cst2 | with_reducible exact cst3 | with_reducible exact cst4 | with_reducible exact cst5 | with_reducible exact cst6 | with_reducible exact cst7 | with_reducible exact cst8 | with_reducible exact cst14 | with_reducible exact cst15 | with_reducible exact cst25 | with_reducible exact cst30 | with_reducible exact cst31 | fail) ?_ ?_; · (repeat' (first | omega | refine And.intro ?_ ?_ | exact bnd_andl (by omega) | exact bnd_andr (by omega) | refine bnd_or ?_ ?_ | refine bnd_or31 ?_ ?_ | refine bnd_xor ?_ ?_ | refine bnd_xor31 ?_ ?_ | refine bnd_shr ?_ | refine bnd_shl ?_ ?_ | refine bnd_mod ?_ | refine bnd_andl ?_ | fail))) | (refine EqN.subN _ _ (by first | with_reducible rfl | with_reducible exact cst1 | with_reducible exact cst0 | with_reducible exact cst2 | with_reducible exact cst3 | with_reducible exact cst4 | with_reducible exact cst5 | with_reducible exact cst6 | with_reducible exact cst7 | with_reducible exact cst8 | with_reducible exact cst14 | with_reducible exact cst15 | with_reducible exact cst25 | with_reducible exact cst30 | with_reducible exact cst31 | fail) (by first | with_reducible rfl | with_reducible exact cst1 | with_reducible exact cst0 | with_reducible exact cst2 | with_reducible exact cst3 | with_reducible exact cst4 | with_reducible exact cst5 | with_reducible exact cst6 | with_reducible exact cst7 | with_reducible exact cst8 | with_reducible exact cst14 | with_reducible exact cst15 | with_reducible exact cst25 | with_reducible exact cst30 | with_reducible exact cst31 | fail) ?_ ?_; · (repeat' (first | omega | refine And.intro ?_ ?_ | exact bnd_andl (by omega) | exact bnd_andr (by omega) | refine bnd_or ?_ ?_ | refine bnd_or31 ?_ ?_ | refine bnd_xor ?_ ?_ | refine bnd_xor31 ?_ ?_ | refine bnd_shr ?_ | refine bnd_shl ?_ ?_ | refine bnd_mod ?_ | refine bnd_andl ?_ | fail))) | (refine EqN.mulN _ _ (by first | with_reducible rfl | with_reducible exact cst1 | with_reducible exact cst0 | with_reducible exact cst2 | with_reducible exact cst3 | with_reducible exact cst4 | with_reducible exact cst5 | with_reducible exact cst6 | with_reducible exact cst7 | with_reducible exact cst8 | with_reducible exact cst14 | with_reducible exact cst15 | with_reducible exact cst25 | with_reducible exact cst30 | with_reducible exact cst31 | fail) (by first | with_reducible rfl | with_reducible exact cst1 | with_reducible exact cst0 | with_reducible exact cst2 | with_reducible exact cst3 | with_reducible exact cst4 | with_reducible exact cst5 | with_reducible exact cst6 | with_reducible exact cst7 | with_reducible exact cst8 | with_reducible exact cst14 | with_reducible exact cst15 | with_reducible exact cst25 | with_reducible exact cst30 | with_reducible exact cst31 | fail) ?_ ?_; · (repeat' (first | omega | refine And.intro ?_ ?_ | exact bnd_andl (by omega) | exact bnd_andr (by omega) | refine bnd_or ?_ ?_ | refine bnd_or31 ?_ ?_ | refine bnd_xor ?_ ?_ | refine bnd_xor31 ?_ ?_ | refine bnd_shr ?_ | refine bnd_shl ?_ ?_ | refine bnd_mod ?_ | refine bnd_andl ?_ | fail))) | refine EqN.remN _ _ (by first | with_reducible rfl | with_reducible exact cst1 | with_reducible exact cst0 | with_reducible exact cst2 | with_reducible exact cst3 | with_reducible exact cst4 | with_reducible exact cst5 | with_reducible exact cst6 | with_reducible exact cst7 | with_reducible exact cst8 | with_reducible exact cst14 | with_reducible exact cst15 | with_reducible exact cst25 | with_reducible exact cst30 | with_reducible exact cst31 | fail) (by first | with_reducible rfl | with_reducible exact cst1 | with_reducible exact cst0 | with_reducible exact cst2 | with_reducible exact cst3 | with_reducible exact cst4 | with_reducible exact cst5 | with_reducible exact cst6 | with_reducible exact cst7 | with_reducible exact cst8 | with_reducible exact cst14 | with_reducible exact cst15 | with_reducible exact cst25 | with_reducible exact cst30 | with_reducible exact cst31 | fail) ?_ | refine EqN.i64 (by omega) ?_ | refine EqN.quo (by omega) ?_ | refine EqN.rem (by omega) ?_ | refine EqN.u8 (by omega) ?_ | refine EqN.u64 (by omega) ?_ | refine EqN.quo8 (by omega) ?_ | refine EqN.i32 (by omega) ?_ | refine EqN.u32 (by omega) ?_ | refine EqN.u16 (by omega) ?_ | refine EqN.quou (by omega) ?_ | refine EqN.shr _ rfl (by omega) ?_ | refine EqN.mk _ rfl ?_ | fail) | (refine SideN.mk ?_ ?_; · first | kernel_rfl | omega | exact List.cons_ne_nil _ _ | (simp; done) | (simp; omega) | exact trivial | assumption | fail) | refine SetN.mk _ rfl ?_ | refine NatN.mk _ rfl ?_ | refine NatN.at_ (by omega) ?_ | refine RelN.mk [] [] ⟨⟨_, rfl⟩, hl⟩ ?_ | (refine PtrN.id ?_; first | refine PtrN.loc _ rfl ?_ | refine PtrN.base _ (by (repeat' (first | assumption | exact at_loc' _ rfl | exact at_loc0 rfl | refine at_set (B' := ?_) ?_ | refine at_base' ?_ | fail))) ?_ | fail) | refine SegN.mk _ (seg_rfl rfl) ?_ | refine OfsN.at_ (by omega) ?_ | fail))); all_goals (conv => whnf)
      exact EndN.setB (by simp [Blk.below, belowL, below]) trivial (Wk.refl _)
  | some v =>
    obtain ⟨j, hj, hv⟩ := m2 v hc
    cases m0
    all_goals
      refine fn_gen Tryd.E0 Tryd.mx Tryd.func37 (by kernel_rfl) rfl (Nat.le_of_ble_eq_true rfl) rfl fun hcl hbl => ?_
      (repeat' ((conv => whnf); (first | (refine IfN.id ?_; first | refine IfN.not ?_ | refine IfN.tt rfl ?_ | refine IfN.ff rfl ?_ | refine IfN.dT (by omega) ?_ | refine IfN.dF (by omega) ?_ | refine IfN.dec (fun _ => ?_) (fun _ => ?_) | refine IfN.eqT (by omega) ?_ | refine IfN.eqF (by omega) ?_ | refine IfN.eq (fun _ => ?_) (fun _ => ?_) | refine IfN.neT (by omega) ?_ | refine IfN.neF (by omega) ?_ | refine IfN.ne (fun _ => ?_) (fun _ => ?_) | refine IfN.tt (by assumption) ?_ | refine IfN.ff (by assumption) ?_ | (refine IfN.mk ?_ ?_ <;> intro _) | fail) | (refine EqN.id ?_; first | (refine EqN.and _ _ (by first | with_reducible rfl | with_reducible exact cst1 | with_reducible exact cst0 | with_reducible exact cst2 | with_reducible exact cst3 | with_reducible exact cst4 | with_reducible exact cst5 | with_reducible exact cst6 | with_reducible exact cst7 | with_reducible exact cst8 | with_reducible exact cst14 | with_reducible exact cst15 | with_reducible exact cst25 | with_reducible exact cst30 | with_reducible exact cst31 | fail) (by first | with_reducible rfl | with_reducible exact cst1 | with_reducible exact cst0 | with_reducible exact cst2 | with_reducible exact cst3 | with_reducible exact cst4 | with_reducible exact cst5 | with_reducible exact cst6 | with_reducible exact cst7 | with_reducible exact cst8 | with_reducible exact cst14 | with_reducible exact cst15 | with_reducible exact cst25 | with_reducible exact cst30 | with_reducible exact cst31 | fail) ?_ ?_; · (repeat' (first | omega | refine And.intro ?_ ?_ | exact bnd_andl (by omega) | exact bnd_andr (by omega) | refine bnd_or ?_ ?_ | refine bnd_or31 ?_ ?_ | refine bnd_xor ?_ ?_ | refine bnd_xor31 ?_ ?_ | refine bnd_shr ?_ | refine bnd_shl ?_ ?_ | refine bnd_mod ?_ | refine bnd_andl ?_ | fail))) | (refine EqN.or _ _ (by first | with_reducible rfl | with_reducible exact cst1 | with_reducible exact cst0 | with_reducible exact cst2 | with_reducible exact cst3 | with_reducible exact cst4 | with_reducible exact cst5 | with_reducible exact cst6 | with_reducible exact cst7 | with_reducible exact cst8 | with_reducible exact cst14 | with_reducible exact cst15 | with_reducible exact cst25 | with_reducible exact cst30 | with_reducible exact cst31 | fail) (by first | with_reducible rfl | with_reducible exact cst1 | with_reducible exact cst0 | with_reducible exact cst2 | with_reducible exact cst3 | with_reducible exact cst4 | with_reducible exact cst5 | with_reducible exact cst6 | with_reducible exact cst7 | with_reducible exact cst8 | with_reducible exact cst14 | with_reducible exact cst15 | with_reducible exact cst25 | with_reducible exact cst30 | with_reducible exact cst31 | fail) ?_ ?_; · (repeat' (first | omega | refine And.intro ?_ ?_ | exact bnd_andl (by omega) | exact bnd_andr (by omega) | refine bnd_or ?_ ?_ | refine bnd_or31 ?_ ?_ | refine bnd_xor ?_ ?_ | refine bnd_xor31 ?_ ?_ | refine bnd_shr ?_ | refine bnd_shl ?_ ?_ | refine bnd_mod ?_ | refine bnd_andl ?_ | fail))) | (refine EqN.xor _ _ (by first | with_reducible rfl | with_reducible exact cst1 | with_reducible exact cst0 | with_reducible exact cst2 | with_reducible exact cst3 | with_reducible exact cst4 | with_reducible exact cst5 | with_reducible exact cst6 | with_reducible exact cst7 | with_reducible exact cst8 | with_reducible exact cst14 | with_reducible exact cst15 | with_reducible exact cst25 | with_reducible exact cst30 | with_reducible exact cst31 | fail) (by first | with_reducible rfl | with_reducible exact cst1 | with_reducible exact cst0 | with_reducible exact cst2 | with_reducible exact cst3 | with_reducible exact cst4 | with_reducible exact cst5 | with_reducible exact cst6 | with_reducible exact cst7 | with_reducible exact cst8 | with_reducible exact cst14 | with_reducible exact cst15 | with_reducible exact cst25 | with_reducible exact cst30 | with_reducible exact cst31 | fail) ?_ ?_; · (repeat' (first | omega | refine And.intro ?_ ?_ | exact bnd_andl (by omega) | exact bnd_andr (by omega) | refine bnd_or ?_ ?_ | refine bnd_or31 ?_ ?_ | refine bnd_xor ?_ ?_ | refine bnd_xor31 ?_ ?_ | refine bnd_shr ?_ | refine bnd_shl ?_ ?_ | refine bnd_mod ?_ | refine bnd_andl ?_ | fail))) | (refine EqN.andNot _ _ (by first | with_reducible rfl | with_reducible exact cst1 | with_reducible exact cst0 | with_reducible exact cst2 | with_reducible exact cst3 | with_reducible exact cst4 | with_reducible exact cst5 | with_reducible exact cst6 | with_reducible exact cst7 | with_reducible exact cst8 | with_reducible exact cst14 | with_reducible exact cst15 | with_reducible exact cst25 | with_reducible exact cst30 | with_reducible exact cst31 | fail) (by first | with_reducible rfl | with_reducible exact cst1 | with_reducible exact cst0 | with_reducible exact cst2 | with_reducible exact cst3 | with_reducible exact cst4 | with_reducible exact cst5 | with_reducible exact cst6 | with_reducible exact cst7 | with_reducible exact cst8 | with_reducible exact cst14 | with_reducible exact cst15 | with_reducible exact cst25 | with_reducible exact cst30 | with_reducible exact cst31 | fail) ?_ ?_; · (repeat' (first | omega | refine And.intro ?_ ?_ | exact bnd_andl (by omega) | exact bnd_andr (by omega) | refine bnd_or ?_ ?_ | refine bnd_or31 ?_ ?_ | refine bnd_xor ?_ ?_ | refine bnd_xor31 ?_ ?_ | refine bnd_shr ?_ | refine bnd_shl ?_ ?_ | refine bnd_mod ?_ | refine bnd_andl ?_ | fail))) | (refine EqN.shrN _ _ (by first | with_reducible rfl | with_reducible exact cst1 | with_reducible exact cst0 | with_reducible exact cst2 | with_reducible exact cst3 | with_reducible exact cst4 | with_reducible exact cst5 | with_reducible exact cst6 | with_reducible exact cst7 | with_reducible exact cst8 | with_reducible exact cst14 | with_reducible exact cst15 | with_reducible exact cst25 | with_reducible exact cst30 | with_reducible exact cst31 | fail) (by first | with_reducible rfl | with_reducible exact cst1 | with_reducible exact cst0 | with_reducible exact cst2 | with_reducible exact cst3 | with_reducible exact cst4 | with_reducible exact cst5 | with_reducible exact cst6 | with_reducible exact cst7 | with_reducible exact cst8 | with_reducible exact cst14 | with_reducible exact cst15 | with_reducible exact cst25 | with_reducible exact cst30 | with_reducible exact cst31 | fail) rfl ?_ ?_; · (repeat' (first | omega | refine And.intro ?_ ?_ | exact bnd_andl (by omega) | exact bnd_andr (by omega) | refine bnd_or ?_ ?_ | refine bnd_or31 ?_ ?_ | refine bnd_xor ?_ ?_ | refine bnd_xor31 ?_ ?_ | refine bnd_shr ?_ | refine bnd_shl ?_ ?_ | refine bnd_mod ?_ | refine bnd_andl ?_ | fail))) | (refine EqN.shlN _ _ (by first | with_reducible rfl | with_reducible exact cst1 | with_reducible exact cst0 | with_reducible exact cst2 | with_reducible exact cst3 | with_reducible exact cst4 | with_reducible exact cst5 | with_reducible exact cst6 | with_reducible exact cst7 | with_reducible exact cst8 | with_reducible exact cst14 | with_reducible exact cst15 | with_reducible exact cst25 | with_reducible exact cst30 | with_reducible exact cst31 | fail) (by first | with_reducible rfl | with_reducible exact cst1 | with_reducible exact cst0 | with_reducible exact cst2 | with_reducible exact cst3 | with_reducible exact cst4 | with_reducible exact cst5 | with_reducible exact cst6 | with_reducible exact cst7 | with_reducible exact cst8 | with_reducible exact cst14 | with_reducible exact cst15 | with_reducible exact cst25 | with_reducible exact cst30 | with_reducible exact cst31 | fail) rfl ?_ ?_ ?_; (· (repeat' (first | omega | refine And.intro ?_ ?_ | exact bnd_andl (by omega) | exact bnd_andr (by omega) | refine bnd_or ?_ ?_ | refine bnd_or31 ?_ ?_ | refine bnd_xor ?_ ?_ | refine bnd_xor31 ?_ ?_ | refine bnd_shr ?_ | refine bnd_shl ?_ ?_ | refine bnd_mod ?_ | refine bnd_andl ?_ | fail))); (· (repeat' (first | omega | refine And.intro ?_ ?_ | exact bnd_andl (by omega) | exact bnd_andr (by omega) | refine bnd_or ?_ ?_ | refine bnd_or31 ?_ ?_ | refine bnd_xor ?_ ?_ | refine bnd_xor31 ?_ ?_ | refine bnd_shr ?_ | refine bnd_shl ?_ ?_ | refine bnd_mod ?_ | refine bnd_andl ?_ | fail)))) | (refine EqN.addN _ _ (by first | with_reducible rfl | with_reducible exact cst1 | with_reducible exact cst0 | with_reducible exact cst2 | with_reducible exact cst3 | with_reducible exact cst4 | with_reducible exact cst5 | with_reducible exact cst6 | with_reducible exact cst7 | with_reducible exact cst8 | with_reducible exact cst14 | with_reducible exact cst15 | with_reducible exact cst25 | with_reducible exact cst30 | with_reducible exact cst31 | fail) (by first | with_reducible rfl | with_reducible exact cst1 | with_reducible exact cst0 | with_reducible exact cst2 | with_reducible exact cst3 | with_reducible exact cst4 | with_reducible exact cst5 | with_reducible exact cst6 | with_reducible exact cst7 | with_reducible exact cst8 | with_reducible exact cst14 | with_reducible exact cst15 | with_reducible exact cst25 | with_reducible exact cst30 | with_reducible exact cst31 | fail) ?_ ?_; · (repeat' (first | omega | refine And.intro ?_ ?_ | exact bnd_andl (by omega) | exact bnd_andr (by omega) | refine bnd_or ?_ ?_ | refine bnd_or31 ?_ ?_ | refine bnd_xor ?_ ?_ | refine bnd_xor31 ?_ ?_ | refine bnd_shr ?_ | refine bnd_shl ?_ ?_ | refine bnd_mod ?_ | refine bnd_andl ?_ | fail))) | (refine EqN.subN _ _ (by first | with_reducible rfl | with_reducible exact cst1 | with_reducible exact cst0 | with_reducible exact cst2 | with_reducible exact cst3 | with_reducible exact cst4 | with_reducible exact cst5 | with_reducible exact cst6 | with_reducible exact cst7 | with_reducible exact cst8 | with_reducible exact cst14 | with_reducible exact cst15 | with_reducible exact cst25 | with_reducible exact cst30 | with_reducible exact cst31 | fail) (by first | with_reducible rfl | with_reducible exact cst1 | with_reducible exact cst0 | with_reducible exact cst2 | with_reducible exact cst3 | with_reducible exact cst4 | with_reducible exact cst5 | with_reducible exact cst6 | with_reducible exact cst7 | with_reducible exact cst8 | with_reducible exact cst14 | with_reducible exact cst15 | with_reducible exact cst25 | with_reducible exact cst30 | with_reducible exact cst31 | fail) ?_ ?_; · (repeat' (first | omega | refine And.intro ?_ ?_ | exact bnd_andl (by omega) | exact bnd_andr (by omega) | refine bnd_or ?_ ?_ | refine bnd_or31 ?_ ?_ | refine bnd_xor ?_ ?_ | refine bnd_xor31 ?_ ?_ | refine bnd_shr ?_ | refine bnd_shl ?_ ?_ | refine bnd_mod ?_ | refine bnd_andl ?_ | fail))) | (refine EqN.mulN _ _ (by first | with_reducible rfl | with_reducible exact cst1 | with_reducible exact cst0 | with_reducible exact cst2 | with_reducible exact cst3 | with_reducible exact cst4 | with_reducible exact cst5 | with_reducible exact cst6 | with_reducible exact cst7 | with_reducible exact cst8 | with_reducible exact cst14 | with_reducible exact cst15 | with_reducible exact cst25 | with_reducible exact cst30 | with_reducible exact cst31 | fail) (by first | with_reducible rfl | with_reducible exact cst1 | with_reducible exact cst0 | with_reducible exact cst2 | with_reducible exact cst3 | with_reducible exact cst4 | with_reducible exact cst5 | with_reducible exact cst6 | with_reducible exact cst7 | with_reducible exact cst8 | with_reducible exact cst14 | with_reducible exact cst15 | with_reducible exact cst25 | with_reducible exact cst30 | with_reducible exact cst31 | fail) ?_ ?_; · (repeat' (first | omega | refine And.intro ?_ ?_ | exact bnd_andl (by omega) | exact bnd_andr (by omega) | refine bnd_or ?_ ?_ | refine bnd_or31 ?_ ?_ | refine bnd_xor ?_ ?_ | refine bnd_xor31 ?_ ?_ | refine bnd_shr ?_ | refine bnd_shl ?_ ?_ | refine bnd_mod ?_ | refine bnd_andl ?_ | fail))) | refine EqN.remN _ _ (by first | with_reducible rfl | with_reducible exact cst1 | with_reducible exact cst0 | with_reducible exact cst2 | with_reducible exact cst3 | with_reducible exact cst4 | with_reducible exact cst5 | with_reducible exact cst6 | with_reducible exact cst7 | with_reducible exact cst8 | with_reducible exact cst14 | with_reducible exact cst15 | with_reducible exact cst25 | with_reducible exact cst30 | with_reducible exact cst31 | fail) (by first | with_reducible rfl | with_reducible exact cst1 | with_reducible exact cst0 | with_reducible exact cst2 | with_reducible exact cst3 | with_reducible exact cst4 | with_reducible exact cst5 | with_reducible exact cst6 | with_reducible exact cst7 | with_reducible exact cst8 | with_reducible exact cst14 | with_reducible exact cst15 | with_reducible exact cst25 | with_reducible exact cst30 | with_reducible exact cst31 | fail) ?_ | refine EqN.i64 (by omega) ?_ | refine EqN.quo (by omega) ?_ | refine EqN.rem (by omega) ?_ | refine EqN.u8 (by omega) ?_ | refine EqN.u64 (by omega) ?_ | refine EqN.quo8 (by omega) ?_ | refine EqN.i32 (by omega) ?_ | refine EqN.u32 (by omega) ?_ | refine EqN.u16 (by omega) ?_ | refine EqN.quou (by omega) ?_ | refine EqN.shr _ rfl (by omega) ?_ | refine EqN.mk _ rfl ?_ | fail) | (refine SideN.mk ?_ ?_; · first | kernel_rfl | omega | exact List.cons_ne_nil _ _ | (simp; done) | (simp; omega) | exact trivial | assumption | fail) | refine SetN.mk _ rfl ?_ | refine NatN.mk _ rfl ?_ | refine NatN.at_ (by omega) ?_ | refine RelN.mk [_] [] ⟨⟨_, rfl⟩, j, hj, hv⟩ ?_ | (refine PtrN.id ?_; first | refine PtrN.loc _ rfl ?_ | refine PtrN.base _ (by (repeat' (first | assumption | exact at_loc' _ rfl | exact at_loc0 rfl | refine at_set (B' := ?_) ?_ | refine at_base' ?_ | fail))) ?_ | fail) | refine SegN.mk _ (seg_rfl rfl) ?_ | refine OfsN.at_ (by omega) ?_ | fail))); all_goals (conv => whnf)
      exact EndN.setB (by simp [Blk.below, belowL, below]) trivial (Wk.refl _)
end Go.Proofs.YtjflngchbeegcaaDoor
/-! text N13 -/
namespace Go.Proofs.YtjflngchbeegcaaDoor
open Go.Vsi
set_option maxHeartbeats 1000000
attribute [local irreducible] VW VCall VO bits

theorem at_f1_3 (t : Tr) (ht : t.Ok) (a : Fm) (ih : AtIH t a) (H : Heap) (im i1 i2 i3 i4 : Nat) (m0 : Bool) (e : AtEnv t H im i1 i2 i3 i4 m0) :
    VCall Tryd.prog 37 [.agg (Fm.f1 3 a).cells, .ptr i1 0, .ptr i2 0, .ptr i3 0, .ptr i4 0] H (setR H i2 (.box 4 [.bool (m0 || miss t a)]) (.int .i64 (nt (every t.n) (evT t a) : Nat))) := by
  have q1 := fun X => ih (H ++ X) im i1 i2 i3 i4 m0 (e.app X)
  obtain ⟨rm, r1, r2, r3, r4, -⟩ := e.set (m0 || miss t a)
  obtain ⟨hm, h1, h2, h3, h4, hne⟩ := e
  have ha := evT_lt ht a
  have ha32 := p2_32 ha ht.n5
  have he := every_lt ht.n5
  rw [show (Fm.f1 3 a).cells = [.int .u8 (3 : Nat), .str .empty, .sl none 0 [], .sl none 1 [.int .u8 a.op, .str a.nmB, .sl none 0 [], .sl none a.sn a.sc]] from rfl]
  unfold Fm.cells at q1
  unfold opV at h4 r4
  generalize a.op = ao at q1 ⊢
  generalize a.nmB = an at q1 ⊢
  generalize a.sn = asn at q1 ⊢
  generalize a.sc = asc at q1 ⊢
  refine fn_gen Tryd.E0 Tryd.mx Tryd.func37 (by kernel_rfl) rfl (Nat.le_of_ble_eq_true rfl) rfl fun hcl hbl => ?_
  (repeat' ((conv => whnf); (first | (refine IfN.id ?_; first | refine IfN.tt rfl ?_ | refine IfN.ff rfl ?_ | fail) | (refine SideN.mk ?_ ?_; · first | kernel_rfl | omega | exact List.cons_ne_nil _ _ | (simp; done) | (simp; omega) | exact trivial | assumption | fail) | (refine CallN.id ?_; first | refine CallN.det _ (op2_c (every t.n) (evT t a) 0 he ha32 _) ?_ | fail) | refine CallD.setB i2 _ _ _ _ h2 rfl rfl (q1 _) rfl ?_ | refine RelN.mk [_] [] ⟨⟨_, rfl⟩, 1, by kernel_rfl, rfl⟩ ?_ | (refine PtrN.id ?_; first | refine PtrN.base _ (by (repeat' (first | assumption | exact at_loc' _ rfl | exact at_loc0 rfl | refine at_set (B' := ?_) ?_ | refine at_base' ?_ | fail))) ?_ | fail) | refine SegN.mk _ (seg_rfl rfl) ?_ | fail))); all_goals (conv => whnf)
  exact EndN.setB (by simp [Blk.below, belowL, below]) trivial (Wk.refl _)
theorem at_f1_12 (t : Tr) (ht : t.Ok) (a : Fm) (ih : AtIH t a) (H : Heap) (im i1 i2 i3 i4 : Nat) (m0 : Bool) (e : AtEnv t H im i1 i2 i3 i4 m0) :
    VCall Tryd.prog 37 [.agg (Fm.f1 12 a).cells, .ptr i1 0, .ptr i2 0, .ptr i3 0, .ptr i4 0] H (setR H i2 (.box 4 [.bool (m0 || miss t a)]) (.int .i64 (befN t.n t.lp (evT t a) : Nat))) := by
  have q1 := fun X => ih (H ++ X) im i1 i2 i3 i4 m0 (e.app X)
  obtain ⟨rm, r1, r2, r3, r4, -⟩ := e.set (m0 || miss t a)
  obtain ⟨hm, h1, h2, h3, h4, hne⟩ := e
  have ha := evT_lt ht a
  have ha32 := p2_32 ha ht.n5
  have he := every_lt ht.n5
  rw [show (Fm.f1 12 a).cells = [.int .u8 (12 : Nat), .str .empty, .sl none 0 [], .sl none 1 [.int .u8 a.op, .str a.nmB, .sl none 0 [], .sl none a.sn a.sc]] from rfl]
  unfold Fm.cells at q1
  unfold opV at h4 r4
  generalize a.op = ao at q1 ⊢
  generalize a.nmB = an at q1 ⊢
  generalize a.sn = asn at q1 ⊢
  generalize a.sc = asc at q1 ⊢
  refine fn_gen Tryd.E0 Tryd.mx Tryd.func37 (by kernel_rfl) rfl (Nat.le_of_ble_eq_true rfl) rfl fun hcl hbl => ?_
  (repeat' ((conv => whnf); (first | (refine IfN.id ?_; first | refine IfN.tt rfl ?_ | refine IfN.ff rfl ?_ | fail) | (refine SideN.mk ?_ ?_; · first | kernel_rfl | omega | exact List.cons_ne_nil _ _ | (simp; done) | (simp; omega) | exact trivial | assumption | fail) | (refine CallN.id ?_; first | refine CallN.det _ (op7_c t ht (evT t a) 0 ha32 _) ?_ | fail) | refine CallD.setB i2 _ _ _ _ h2 rfl rfl (q1 _) rfl ?_ | refine RelN.mk [_] [] ⟨⟨_, rfl⟩, 6, by kernel_rfl, rfl⟩ ?_ | (refine PtrN.id ?_; first | refine PtrN.base _ (by (repeat' (first | assumption | exact at_loc' _ rfl | exact at_loc0 rfl | refine at_set (B' := ?_) ?_ | refine at_base' ?_ | fail))) ?_ | fail) | refine SegN.mk _ (seg_rfl rfl) ?_ | fail))); all_goals (conv => whnf)
  exact EndN.setB (by simp [Blk.below, belowL, below]) trivial (Wk.refl _)
theorem at_f1_13 (t : Tr) (ht : t.Ok) (a : Fm) (ih : AtIH t a) (H : Heap) (im i1 i2 i3 i4 : Nat) (m0 : Bool) (e : AtEnv t H im i1 i2 i3 i4 m0) :
    VCall Tryd.prog 37 [.agg (Fm.f1 13 a).cells, .ptr i1 0, .ptr i2 0, .ptr i3 0, .ptr i4 0] H (setR H i2 (.box 4 [.bool (m0 || miss t a)]) (.int .i64 (alN t.n t.lp (evT t a) : Nat))) := by
  have q1 := fun X => ih (H ++ X) im i1 i2 i3 i4 m0 (e.app X)
  obtain ⟨rm, r1, r2, r3, r4, -⟩ := e.set (m0 || miss t a)
  obtain ⟨hm, h1, h2, h3, h4, hne⟩ := e
  have ha := evT_lt ht a
  have ha32 := p2_32 ha ht.n5
  have he := every_lt ht.n5
  rw [show (Fm.f1 13 a).cells = [.int .u8 (13 : Nat), .str .empty, .sl none 0 [], .sl none 1 [.int .u8 a.op, .str a.nmB, .sl none 0 [], .sl none a.sn a.sc]] from rfl]
  unfold Fm.cells at q1
  unfold opV at h4 r4
  generalize a.op = ao at q1 ⊢
  generalize a.nmB = an at q1 ⊢
  generalize a.sn = asn at q1 ⊢
  generalize a.sc = asc at q1 ⊢
  refine fn_gen Tryd.E0 Tryd.mx Tryd.func37 (by kernel_rfl) rfl (Nat.le_of_ble_eq_true rfl) rfl fun hcl hbl => ?_
  (repeat' ((conv => whnf); (first | (refine IfN.id ?_; first | refine IfN.tt rfl ?_ | refine IfN.ff rfl ?_ | fail) | (refine SideN.mk ?_ ?_; · first | kernel_rfl | omega | exact List.cons_ne_nil _ _ | (simp; done) | (simp; omega) | exact trivial | assumption | fail) | (refine CallN.id ?_; first | refine CallN.det _ (op8_c t ht (evT t a) 0 ha _) ?_ | fail) | refine CallD.setB i2 _ _ _ _ h2 rfl rfl (q1 _) rfl ?_ | refine RelN.mk [_] [] ⟨⟨_, rfl⟩, 7, by kernel_rfl, rfl⟩ ?_ | (refine PtrN.id ?_; first | refine PtrN.base _ (by (repeat' (first | assumption | exact at_loc' _ rfl | exact at_loc0 rfl | refine at_set (B' := ?_) ?_ | refine at_base' ?_ | fail))) ?_ | fail) | refine SegN.mk _ (seg_rfl rfl) ?_ | fail))); all_goals (conv => whnf)
  exact EndN.setB (by simp [Blk.below, belowL, below]) trivial (Wk.refl _)
theorem at_f2_4 (t : Tr) (ht : t.Ok) (a b : Fm) (iha : AtIH t a) (ihb : AtIH t b) (H : Heap) (im i1 i2 i3 i4 : Nat) (m0 : Bool) (e : AtEnv t H im i1 i2 i3 i4 m0) :
    VCall Tryd.prog 37 [.agg (Fm.f2 4 a b).cells, .ptr i1 0, .ptr i2 0, .ptr i3 0, .ptr i4 0] H (setR H i2 (.box 4 [.bool (m0 || miss t a || miss t b)]) (.int .i64 (evT t a &&& evT t b : Nat))) := by
  have q1 := fun X => iha (H ++ X) im i1 i2 i3 i4 m0 (e.app X)
  have q2 := fun X => ihb (H.set i2 (.box 4 [.bool (m0 || miss t a)]) ++ X) im i1 i2 i3 i4 _ ((e.set (m0 || miss t a)).app X)
  obtain ⟨rm, r1, r2, r3, r4, -⟩ := e.set (m0 || miss t a)
  obtain ⟨sm, s1, s2, s3, s4, -⟩ := e.set (m0 || miss t a || miss t b)
  obtain ⟨hm, h1, h2, h3, h4, hne⟩ := e
  have ha := evT_lt ht a
  have ha32 := p2_32 ha ht.n5
  have hb := evT_lt ht b
  have hb32 := p2_32 hb ht.n5
  have he := every_lt ht.n5
  rw [show (Fm.f2 4 a b).cells = [.int .u8 (4 : Nat), .str .empty, .sl none 0 [], .sl none 2 [.int .u8 a.op, .str a.nmB, .sl none 0 [], .sl none a.sn a.sc, .int .u8 b.op, .str b.nmB, .sl none 0 [], .sl none b.sn b.sc]] from rfl]
  unfold Fm.cells at q1 q2
  unfold opV at h4 r4 s4
  generalize a.op = ao at q1 ⊢
  generalize a.nmB = an at q1 ⊢
  generalize a.sn = asn at q1 ⊢
  generalize a.sc = asc at q1 ⊢
  generalize b.op = bo at q2 ⊢
  generalize b.nmB = bn at q2 ⊢
  generalize b.sn = bsn at q2 ⊢
  generalize b.sc = bsc at q2 ⊢
  refine fn_gen Tryd.E0 Tryd.mx Tryd.func37 (by kernel_rfl) rfl (Nat.le_of_ble_eq_true rfl) rfl fun hcl hbl => ?_
  (repeat' ((conv => whnf); (first | (refine IfN.id ?_; first | refine IfN.tt rfl ?_ | refine IfN.ff rfl ?_ | fail) | (refine SideN.mk ?_ ?_; · first | kernel_rfl | omega | exact List.cons_ne_nil _ _ | (simp; done) | (simp; omega) | exact trivial | assumption | fail) | (refine CallN.id ?_; first | refine CallN.det _ (op3_c (evT t a) (evT t b) ha32 hb32 _) ?_ | fail) | refine CallD.setB i2 _ _ _ _ h2 rfl rfl (q1 _) rfl ?_ | refine CallD.setB i2 _ _ _ _ r2 (by simp) rfl (q2 _) (List.set_set ..) ?_ | refine RelN.mk [_] [] ⟨⟨_, rfl⟩, 2, by kernel_rfl, rfl⟩ ?_ | (refine PtrN.id ?_; first | refine PtrN.base _ (by (repeat' (first | assumption | exact at_loc' _ rfl | exact at_loc0 rfl | refine at_set (B' := ?_) ?_ | refine at_base' ?_ | fail))) ?_ | fail) | refine SegN.mk _ (seg_rfl rfl) ?_ | fail))); all_goals (conv => whnf)
  exact EndN.setB (by simp [Blk.below, belowL, below]) trivial (Wk.refl _)
theorem at_f2_5 (t : Tr) (ht : t.Ok) (a b : Fm) (iha : AtIH t a) (ihb : AtIH t b) (H : Heap) (im i1 i2 i3 i4 : Nat) (m0 : Bool) (e : AtEnv t H im i1 i2 i3 i4 m0) :
    VCall Tryd.prog 37 [.agg (Fm.f2 5 a b).cells, .ptr i1 0, .ptr i2 0, .ptr i3 0, .ptr i4 0] H (setR H i2 (.box 4 [.bool (m0 || miss t a || miss t b)]) (.int .i64 (evT t a ||| evT t b : Nat))) := by
  have q1 := fun X => iha (H ++ X) im i1 i2 i3 i4 m0 (e.app X)
  have q2 := fun X => ihb (H.set i2 (.box 4 [.bool (m0 || miss t a)]) ++ X) im i1 i2 i3 i4 _ ((e.set (m0 || miss t a)).app X)
  obtain ⟨rm, r1, r2, r3, r4, -⟩ := e.set (m0 || miss t a)
  obtain ⟨sm, s1, s2, s3, s4, -⟩ := e.set (m0 || miss t a || miss t b)
  obtain ⟨hm, h1, h2, h3, h4, hne⟩ := e
  have ha := evT_lt ht a
  have ha32 := p2_32 ha ht.n5
  have hb := evT_lt ht b
  have hb32 := p2_32 hb ht.n5
  have he := every_lt ht.n5
  rw [show (Fm.f2 5 a b).cells = [.int .u8 (5 : Nat), .str .empty, .sl none 0 [], .sl none 2 [.int .u8 a.op, .str a.nmB, .sl none 0 [], .sl none a.sn a.sc, .int .u8 b.op, .str b.nmB, .sl none 0 [], .sl none b.sn b.sc]] from rfl]
  unfold Fm.cells at q1 q2
  unfold opV at h4 r4 s4
  generalize a.op = ao at q1 ⊢
  generalize a.nmB = an at q1 ⊢
  generalize a.sn = asn at q1 ⊢
  generalize a.sc = asc at q1 ⊢
  generalize b.op = bo at q2 ⊢
  generalize b.nmB = bn at q2 ⊢
  generalize b.sn = bsn at q2 ⊢
  generalize b.sc = bsc at q2 ⊢
  refine fn_gen Tryd.E0 Tryd.mx Tryd.func37 (by kernel_rfl) rfl (Nat.le_of_ble_eq_true rfl) rfl fun hcl hbl => ?_
  (repeat' ((conv => whnf); (first | (refine IfN.id ?_; first | refine IfN.tt rfl ?_ | refine IfN.ff rfl ?_ | fail) | (refine SideN.mk ?_ ?_; · first | kernel_rfl | omega | exact List.cons_ne_nil _ _ | (simp; done) | (simp; omega) | exact trivial | assumption | fail) | (refine CallN.id ?_; first | refine CallN.det _ (op4_c (evT t a) (evT t b) ha32 hb32 _) ?_ | fail) | refine CallD.setB i2 _ _ _ _ h2 rfl rfl (q1 _) rfl ?_ | refine CallD.setB i2 _ _ _ _ r2 (by simp) rfl (q2 _) (List.set_set ..) ?_ | refine RelN.mk [_] [] ⟨⟨_, rfl⟩, 3, by kernel_rfl, rfl⟩ ?_ | (refine PtrN.id ?_; first | refine PtrN.base _ (by (repeat' (first | assumption | exact at_loc' _ rfl | exact at_loc0 rfl | refine at_set (B' := ?_) ?_ | refine at_base' ?_ | fail))) ?_ | fail) | refine SegN.mk _ (seg_rfl rfl) ?_ | fail))); all_goals (conv => whnf)
  exact EndN.setB (by simp [Blk.below, belowL, below]) trivial (Wk.refl _)
theorem at_f2_6 (t : Tr) (ht : t.Ok) (a b : Fm) (iha : AtIH t a) (ihb : AtIH t b) (H : Heap) (im i1 i2 i3 i4 : Nat) (m0 : Bool) (e : AtEnv t H im i1 i2 i3 i4 m0) :
    VCall Tryd.prog 37 [.agg (Fm.f2 6 a b).cells, .ptr i1 0, .ptr i2 0, .ptr i3 0, .ptr i4 0] H (setR H i2 (.box 4 [.bool (m0 || miss t a || miss t b)]) (.int .i64 (nt (every t.n) (evT t a) ||| evT t b : Nat))) := by
  have q1 := fun X => iha (H ++ X) im i1 i2 i3 i4 m0 (e.app X)
  have q2 := fun X => ihb (H.set i2 (.box 4 [.bool (m0 || miss t a)]) ++ X) im i1 i2 i3 i4 _ ((e.set (m0 || miss t a)).app X)
  obtain ⟨rm, r1, r2, r3, r4, -⟩ := e.set (m0 || miss t a)
  obtain ⟨sm, s1, s2, s3, s4, -⟩ := e.set (m0 || miss t a || miss t b)
  obtain ⟨hm, h1, h2, h3, h4, hne⟩ := e
  have ha := evT_lt ht a
  have ha32 := p2_32 ha ht.n5
  have hb := evT_lt ht b
  have hb32 := p2_32 hb ht.n5
  have he := every_lt ht.n5
  rw [show (Fm.f2 6 a b).cells = [.int .u8 (6 : Nat), .str .empty, .sl none 0 [], .sl none 2 [.int .u8 a.op, .str a.nmB, .sl none 0 [], .sl none a.sn a.sc, .int .u8 b.op, .str b.nmB, .sl none 0 [], .sl none b.sn b.sc]] from rfl]
  unfold Fm.cells at q1 q2
  unfold opV at h4 r4 s4
  generalize a.op = ao at q1 ⊢
  generalize a.nmB = an at q1 ⊢
  generalize a.sn = asn at q1 ⊢
  generalize a.sc = asc at q1 ⊢
  generalize b.op = bo at q2 ⊢
  generalize b.nmB = bn at q2 ⊢
  generalize b.sn = bsn at q2 ⊢
  generalize b.sc = bsc at q2 ⊢
  refine fn_gen Tryd.E0 Tryd.mx Tryd.func37 (by kernel_rfl) rfl (Nat.le_of_ble_eq_true rfl) rfl fun hcl hbl => ?_
  (repeat' ((conv => whnf); (first | (refine IfN.id ?_; first | refine IfN.tt rfl ?_ | refine IfN.ff rfl ?_ | fail) | (refine SideN.mk ?_ ?_; · first | kernel_rfl | omega | exact List.cons_ne_nil _ _ | (simp; done) | (simp; omega) | exact trivial | assumption | fail) | (refine CallN.id ?_; first | refine CallN.det _ (op5_c (every t.n) (evT t a) (evT t b) he ha32 hb32 _) ?_ | fail) | refine CallD.setB i2 _ _ _ _ h2 rfl rfl (q1 _) rfl ?_ | refine CallD.setB i2 _ _ _ _ r2 (by simp) rfl (q2 _) (List.set_set ..) ?_ | refine RelN.mk [_] [] ⟨⟨_, rfl⟩, 4, by kernel_rfl, rfl⟩ ?_ | (refine PtrN.id ?_; first | refine PtrN.base _ (by (repeat' (first | assumption | exact at_loc' _ rfl | exact at_loc0 rfl | refine at_set (B' := ?_) ?_ | refine at_base' ?_ | fail))) ?_ | fail) | refine SegN.mk _ (seg_rfl rfl) ?_ | fail))); all_goals (conv => whnf)
  exact EndN.setB (by simp [Blk.below, belowL, below]) trivial (Wk.refl _)
theorem at_f2_7 (t : Tr) (ht : t.Ok) (a b : Fm) (iha : AtIH t a) (ihb : AtIH t b) (H : Heap) (im i1 i2 i3 i4 : Nat) (m0 : Bool) (e : AtEnv t H im i1 i2 i3 i4 m0) :
    VCall Tryd.prog 37 [.agg (Fm.f2 7 a b).cells, .ptr i1 0, .ptr i2 0, .ptr i3 0, .ptr i4 0] H (setR H i2 (.box 4 [.bool (m0 || miss t a || miss t b)]) (.int .i64 (nt (every t.n) (evT t a ^^^ evT t b) : Nat))) := by
  have q1 := fun X => iha (H ++ X) im i1 i2 i3 i4 m0 (e.app X)
  have q2 := fun X => ihb (H.set i2 (.box 4 [.bool (m0 || miss t a)]) ++ X) im i1 i2 i3 i4 _ ((e.set (m0 || miss t a)).app X)
  obtain ⟨rm, r1, r2, r3, r4, -⟩ := e.set (m0 || miss t a)
  obtain ⟨sm, s1, s2, s3, s4, -⟩ := e.set (m0 || miss t a || miss t b)
  obtain ⟨hm, h1, h2, h3, h4, hne⟩ := e
  have ha := evT_lt ht a
  have ha32 := p2_32 ha ht.n5
  have hb := evT_lt ht b
  have hb32 := p2_32 hb ht.n5
  have he := every_lt ht.n5
  rw [show (Fm.f2 7 a b).cells = [.int .u8 (7 : Nat), .str .empty, .sl none 0 [], .sl none 2 [.int .u8 a.op, .str a.nmB, .sl none 0 [], .sl none a.sn a.sc, .int .u8 b.op, .str b.nmB, .sl none 0 [], .sl none b.sn b.sc]] from rfl]
  unfold Fm.cells at q1 q2
  unfold opV at h4 r4 s4
  generalize a.op = ao at q1 ⊢
  generalize a.nmB = an at q1 ⊢
  generalize a.sn = asn at q1 ⊢
  generalize a.sc = asc at q1 ⊢
  generalize b.op = bo at q2 ⊢
  generalize b.nmB = bn at q2 ⊢
  generalize b.sn = bsn at q2 ⊢
  generalize b.sc = bsc at q2 ⊢
  refine fn_gen Tryd.E0 Tryd.mx Tryd.func37 (by kernel_rfl) rfl (Nat.le_of_ble_eq_true rfl) rfl fun hcl hbl => ?_
  (repeat' ((conv => whnf); (first | (refine IfN.id ?_; first | refine IfN.tt rfl ?_ | refine IfN.ff rfl ?_ | fail) | (refine SideN.mk ?_ ?_; · first | kernel_rfl | omega | exact List.cons_ne_nil _ _ | (simp; done) | (simp; omega) | exact trivial | assumption | fail) | (refine CallN.id ?_; first | refine CallN.det _ (op6_c (every t.n) (evT t a) (evT t b) he ha32 hb32 _) ?_ | fail) | refine CallD.setB i2 _ _ _ _ h2 rfl rfl (q1 _) rfl ?_ | refine CallD.setB i2 _ _ _ _ r2 (by simp) rfl (q2 _) (List.set_set ..) ?_ | refine RelN.mk [_] [] ⟨⟨_, rfl⟩, 5, by kernel_rfl, rfl⟩ ?_ | (refine PtrN.id ?_; first | refine PtrN.base _ (by (repeat' (first | assumption | exact at_loc' _ rfl | exact at_loc0 rfl | refine at_set (B' := ?_) ?_ | refine at_base' ?_ | fail))) ?_ | fail) | refine SegN.mk _ (seg_rfl rfl) ?_ | fail))); all_goals (conv => whnf)
  exact EndN.setB (by simp [Blk.below, belowL, below]) trivial (Wk.refl _)
theorem at_f2_14 (t : Tr) (ht : t.Ok) (a b : Fm) (iha : AtIH t a) (ihb : AtIH t b) (H : Heap) (im i1 i2 i3 i4 : Nat) (m0 : Bool) (e : AtEnv t H im i1 i2 i3 i4 m0) :
    VCall Tryd.prog 37 [.agg (Fm.f2 14 a b).cells, .ptr i1 0, .ptr i2 0, .ptr i3 0, .ptr i4 0] H (setR H i2 (.box 4 [.bool (m0 || miss t a || miss t b)]) (.int .i64 (unN t.n t.lp (evT t a) (evT t b) : Nat))) := by
  have q1 := fun X => iha (H ++ X) im i1 i2 i3 i4 m0 (e.app X)
  have q2 := fun X => ihb (H.set i2 (.box 4 [.bool (m0 || miss t a)]) ++ X) im i1 i2 i3 i4 _ ((e.set (m0 || miss t a)).app X)
  obtain ⟨rm, r1, r2, r3, r4, -⟩ := e.set (m0 || miss t a)
  obtain ⟨sm, s1, s2, s3, s4, -⟩ := e.set (m0 || miss t a || miss t b)
  obtain ⟨hm, h1, h2, h3, h4, hne⟩ := e
  have ha := evT_lt ht a
  have ha32 := p2_32 ha ht.n5
  have hb := evT_lt ht b
  have hb32 := p2_32 hb ht.n5
  have he := every_lt ht.n5
  rw [show (Fm.f2 14 a b).cells = [.int .u8 (14 : Nat), .str .empty, .sl none 0 [], .sl none 2 [.int .u8 a.op, .str a.nmB, .sl none 0 [], .sl none a.sn a.sc, .int .u8 b.op, .str b.nmB, .sl none 0 [], .sl none b.sn b.sc]] from rfl]
  unfold Fm.cells at q1 q2
  unfold opV at h4 r4 s4
  generalize a.op = ao at q1 ⊢
  generalize a.nmB = an at q1 ⊢
  generalize a.sn = asn at q1 ⊢
  generalize a.sc = asc at q1 ⊢
  generalize b.op = bo at q2 ⊢
  generalize b.nmB = bn at q2 ⊢
  generalize b.sn = bsn at q2 ⊢
  generalize b.sc = bsc at q2 ⊢
  refine fn_gen Tryd.E0 Tryd.mx Tryd.func37 (by kernel_rfl) rfl (Nat.le_of_ble_eq_true rfl) rfl fun hcl hbl => ?_
  (repeat' ((conv => whnf); (first | (refine IfN.id ?_; first | refine IfN.tt rfl ?_ | refine IfN.ff rfl ?_ | fail) | (refine SideN.mk ?_ ?_; · first | kernel_rfl | omega | exact List.cons_ne_nil _ _ | (simp; done) | (simp; omega) | exact trivial | assumption | fail) | (refine CallN.id ?_; first | refine CallN.det _ (op9_c t ht (evT t a) (evT t b) ha hb _) ?_ | fail) | refine CallD.setB i2 _ _ _ _ h2 rfl rfl (q1 _) rfl ?_ | refine CallD.setB i2 _ _ _ _ r2 (by simp) rfl (q2 _) (List.set_set ..) ?_ | refine RelN.mk [_] [] ⟨⟨_, rfl⟩, 8, by kernel_rfl, rfl⟩ ?_ | (refine PtrN.id ?_; first | refine PtrN.base _ (by (repeat' (first | assumption | exact at_loc' _ rfl | exact at_loc0 rfl | refine at_set (B' := ?_) ?_ | refine at_base' ?_ | fail))) ?_ | fail) | refine SegN.mk _ (seg_rfl rfl) ?_ | fail))); all_goals (conv => whnf)
  exact EndN.setB (by simp [Blk.below, belowL, below]) trivial (Wk.refl _)
theorem at_c (t : Tr) (ht : t.Ok) : ∀ f : Fm, f.Temp → AtIH t f
  | .at c, _ => at_at t c
  | .fa, _ => at_fa t
  | .f1 k a, h => by
    have ih := at_c t ht a h.2
    intro H im i1 i2 i3 i4 m0 e
    rcases h.1 with rfl | rfl | rfl
    · exact at_f1_3 t ht a ih H im i1 i2 i3 i4 m0 e
    · exact at_f1_12 t ht a ih H im i1 i2 i3 i4 m0 e
    · exact at_f1_13 t ht a ih H im i1 i2 i3 i4 m0 e
  | .f2 k a b, h => by
    have iha := at_c t ht a h.2.1
    have ihb := at_c t ht b h.2.2
    intro H im i1 i2 i3 i4 m0 e
    rw [show (m0 || miss t (.f2 k a b)) = (m0 || miss t a || miss t b) from (Bool.or_assoc ..).symm]
    rcases h.1 with rfl | rfl | rfl | rfl | rfl
    · exact at_f2_4 t ht a b iha ihb H im i1 i2 i3 i4 m0 e
    · exact at_f2_5 t ht a b iha ihb H im i1 i2 i3 i4 m0 e
    · exact at_f2_6 t ht a b iha ihb H im i1 i2 i3 i4 m0 e
    · exact at_f2_7 t ht a b iha ihb H im i1 i2 i3 i4 m0 e
    · exact at_f2_14 t ht a b iha ihb H im i1 i2 i3 i4 m0 e
end Go.Proofs.YtjflngchbeegcaaDoor
/-! text O13 -/
namespace Go.Proofs.YtjflngchbeegcaaDoor
open Go.Vsi
set_option maxHeartbeats 1000000
attribute [local irreducible] VW VCall VO bits

theorem fnd_none {c : UInt8} : ∀ {l : List (UInt8 × Nat)}, (∀ p ∈ l, c ≠ p.1) → fnd c l = none
  | [], _ => rfl
  | p :: l, h => by
    have h1 : (c == p.1) = false := by simpa using h p (List.mem_cons_self ..)
    simp only [fnd, h1]
    exact fnd_none fun q hq => h q (List.mem_cons_of_mem _ hq)
theorem Tr.Ok.mono {t : Tr} (h : t.Ok) (i : Nat) : ∀ d, i + d + 1 < t.fs.length → (ft t.fs i).1.toNat < (ft t.fs (i + d + 1)).1.toNat
  | 0, hl => h.inc i hl
  | d + 1, hl => Nat.lt_trans (h.mono i d (by omega)) (h.inc (i + d + 1) hl)
theorem Tr.Ok.new {t : Tr} (h : t.Ok) {k : Nat} (hk : k < t.fs.length) : fnd (ft t.fs k).1 (t.fs.take k) = none := by
  refine fnd_none fun p hp => ?_
  obtain ⟨i, hi, rfl⟩ := List.getElem_of_mem hp
  rw [List.length_take] at hi
  have hik : i < k := by omega
  have := h.mono i (k - i - 1) (by omega)
  rw [show i + (k - i - 1) + 1 = k by omega] at this
  intro e
  rw [e] at this
  have h2 : (t.fs.take k)[i] = ft t.fs i := by simp [ft, List.getD, show i < t.fs.length by omega]
  rw [h2] at this
  exact Nat.lt_irrefl _ this
theorem fk_succ {l : List (UInt8 × Nat)} {k : Nat} (hk : k < l.length) : fk (l.take k) ++ [.str (nm (ft l k).1)] = fk (l.take (k + 1)) := map_take_succ (fun p : UInt8 × Nat => AV.str (nm p.1)) l (0, 0) k hk
theorem fv_succ {l : List (UInt8 × Nat)} {k : Nat} (hk : k < l.length) : fv (l.take k) ++ [.int .i64 (ft l k).2] = fv (l.take (k + 1)) := map_take_succ (fun p : UInt8 × Nat => AV.int .i64 p.2) l (0, 0) k hk
theorem fk_below (n : Nat) : ∀ l, belowL n (fk l)
  | [] => trivial
  | _ :: l => ⟨trivial, fk_below n l⟩
theorem fv_below (n : Nat) : ∀ l, belowL n (fv l)
  | [] => trivial
  | _ :: l => ⟨trivial, fv_below n l⟩

theorem At_d (t : Tr) (ht : t.Ok) (f : Fm) (hf : f.Ok) (htf : f.Temp) (hn : f.Small) (H : Heap) :
    VDet Tryd.prog 14 [.agg t.cells, .agg f.cells] H (.tup [.int .i64 ((if miss t f = true then 0 else evT t f : Nat) : Int), .int .i64 (if miss t f = true then 6 else 0)]) := by
  have hv := fun H => valid_t ht H
  have hr := fun H => right_c f hf htf hn H
  have ho := fun H => operators_c t ht H
  have hq := at_c t ht f htf (H ++ [.box 30 t.cells, .box 35 f.cells, .mp (fk t.fs) (fv t.fs), .box 79 [.mp (H.length + 2)], .box 80 [.rmp opK (opV t)], .box 4 [.bool false], .box 55 [.clo (.func 37) [] [.ptr (H.length + 3) 0, .ptr (H.length + 5) 0, .ptr (H.length + 6) 0, .ptr (H.length + 4) 0]]]) (H.length + 2) (H.length + 3) (H.length + 5) (H.length + 6) (H.length + 4) false
    ⟨at_loc0 rfl, at_loc0 rfl, at_loc0 rfl, at_loc0 rfl, at_loc0 rfl, by omega⟩
  have hnew := fun k hk => (mfind_nm _ _).1 (ht.new (k := k) hk)
  have hl := ht.len
  obtain ⟨n, lp, fs⟩ := t
  generalize opV ⟨n, lp, fs⟩ = ov at ho hq
  unfold Tr.cells at hv ho hq ⊢
  unfold Fm.cells at hr hq ⊢
  simp only at hv hr ho hq hl hnew ⊢
  refine fn_det Tryd.E0 Tryd.mx Tryd.func14 (by kernel_rfl) rfl (Nat.le_of_ble_eq_true rfl) rfl fun hcl hbl => ?_
  (repeat' ((conv => whnf); (first | (refine IfN.id ?_; first | refine IfN.not ?_ | refine IfN.tt rfl ?_ | fail) | (refine CallN.id ?_; first | refine CallN.det _ (hv _) ?_ | refine CallN.det _ (hr _) ?_ | fail) | fail))); all_goals (conv => whnf)
  refine loop_R Tryd.E0 Tryd.mx (σ := Nat) (fun k => k ≤ fs.length) (fun k => fs.length - k) (fun k => [(25, .v (.int .i64 k))]) (fun k => [.box 30 [.int .u8 5, .int .i64 n, .sl none 0 [], .int .i64 lp, .sl none fs.length (fs.flatMap encT), .sl none 0 [], .sl none 0 []], .box 35 [.int .u8 f.op, .str f.nmB, .sl none 0 [], .sl none f.sn f.sc], .mp (fk (fs.take k)) (fv (fs.take k)), .box 79 [.mp (H.length + 2)]]) _ 0 rfl hcl [2, 3, 6, 23, 24] rfl (Nat.zero_le _) ⟨⟨_, rfl, Wk.refl _⟩, trivial⟩ rfl (fun _ _ => rfl) ?_
  intro k hk
  clear hbl
  (repeat' ((conv => whnf); (first | (refine IfN.id ?_; first | refine IfN.dec (fun _ => ?_) (fun _ => ?_) | fail) | (refine EqN.id ?_; first | (refine EqN.addN _ _ (by first | with_reducible rfl | with_reducible exact cst1 | with_reducible exact cst0 | with_reducible exact cst2 | with_reducible exact cst3 | with_reducible exact cst4 | with_reducible exact cst5 | with_reducible exact cst6 | with_reducible exact cst7 | with_reducible exact cst8 | with_reducible exact cst14 | with_reducible exact cst15 | with_reducible exact cst25 | with_reducible exact cst30 | with_reducible exact cst31 | fail) (by first | with_reducible rfl | with_reducible exact cst1 | with_reducible exact cst0 | with_reducible exact cst2 | with_reducible exact cst3 | with_reducible exact cst4 | with_reducible exact cst5 | with_reducible exact cst6 | with_reducible exact cst7 | with_reducible exact cst8 | with_reducible exact cst14 | with_reducible exact cst15 | with_reducible exact cst25 | with_reducible exact cst30 | with_reducible exact cst31 | fail) ?_ ?_; · (repeat' (first | omega | refine And.intro ?_ ?_ | exact bnd_andl (by omega) | exact bnd_andr (by omega) | refine bnd_or ?_ ?_ | refine bnd_or31 ?_ ?_ | refine bnd_xor ?_ ?_ | refine bnd_xor31 ?_ ?_ | refine bnd_shr ?_ | refine bnd_shl ?_ ?_ | refine bnd_mod ?_ | refine bnd_andl ?_ | fail))) | fail) | (refine SideN.mk ?_ ?_; · first | kernel_rfl | omega | exact List.cons_ne_nil _ _ | (simp; done) | (simp; omega) | exact trivial | assumption | fail) | refine SegN.nth (0, 0) k rfl (by omega) (fun _ => rfl) ?_ | refine RelN.mk _ _ ⟨⟨_, rfl⟩, .new (hnew k (by omega))⟩ ?_ | (refine PtrN.id ?_; first | refine PtrN.loc _ rfl ?_ | fail) | fail))); all_goals (conv => whnf)
  · rw [show fk (fs.take k) ++ [.str (nm (fs.getD k (0, 0)).1)] = fk (fs.take (k + 1)) from fk_succ (by omega), show fv (fs.take k) ++ [.int .i64 (fs.getD k (0, 0)).2] = fv (fs.take (k + 1)) from fv_succ (by omega)]
    (refine ⟨⟨k + 1, by omega, by omega, ?_, .inl ⟨rfl, rfl⟩, rfl, _, rfl, ?_⟩⟩; rotate_left 1; (first | exact .inl rfl | exact .inr ⟨by simp [belowRE, below, belowL, tr, encT_below, Fm.sc_below, fk_below, fv_below], by simp [belowH, Blk.below, belowL, below, encT_below, Fm.sc_below, fk_below, fv_below]⟩ | fail); (repeat' (first | exact trivial | refine ⟨⟨_, rfl, ?_⟩, ?_⟩ | fail)); all_goals try (first | exact Wk.refl _ | exact Wk.of_eq (congrArg (AV.int _) (by omega)) | fail))
  · have : k = fs.length := by omega
    subst this
    rw [List.take_length]
    (repeat' ((conv => whnf); (first | (refine IfN.id ?_; first | (refine IfN.mk ?_ ?_ <;> intro _) | fail) | (refine CallN.id ?_; first | refine CallN.det _ (ho _) ?_ | fail) | refine CallN.setL 5 _ _ _ rfl rfl hq rfl ?_ | fail))); all_goals (conv => whnf)
    all_goals
      rename_i hm
      simp only [Bool.false_or] at hm
      exact EndN.det (by simp [below, belowL]) (Wk.of_eq (by rw [hm]; rfl))
theorem At_c (t : Tr) (ht : t.Ok) (f : Fm) (hf : f.Ok) (htf : f.Temp) (hn : f.nodes ≤ 40) (H : Heap) :
    VDet Tryd.prog 14 [.agg t.cells, .agg f.cells] H (.tup [.int .i64 ((if miss t f = true then 0 else evT t f : Nat) : Int), .int .i64 (if miss t f = true then 6 else 0)]) := At_d t ht f hf htf (Fm.small_of hn) H
end Go.Proofs.YtjflngchbeegcaaDoor
/-! text P13 -/
namespace Go.Proofs.YtjflngchbeegcaaDoor
open Go.Vsi
set_option maxHeartbeats 1000000
attribute [local irreducible] VW VCall VO bits

def encN (p : Nat) : List AV := [.int .i64 p]
theorem encN_below (n : Nat) (l : List Nat) : belowL n (l.flatMap encN) := belowL_flat _ fun x => by simp [encN, belowL, below]
def tkK (old : List Nat) (mask : Nat) : Nat → Nat
  | 0 => 0
  | k + 1 => tkK old mask k ||| ((mask >>> old.getD k 0) &&& 1) <<< k
theorem tkK_lt (old : List Nat) (mask : Nat) : ∀ k, tkK old mask k < 2 ^ k
  | 0 => by simp [tkK]
  | k + 1 => Nat.or_lt_two_pow (Nat.lt_trans (tkK_lt old mask k) (Nat.pow_lt_pow_right (by decide) (by omega))) bit_lt
def tkF (old : List Nat) (p : UInt8 × Nat) : UInt8 × Nat := (p.1, tkK old p.2 old.length)
def takenT (t : Tr) (old : List Nat) (lp : Nat) : Tr := ⟨old.length, lp, t.fs.map (tkF old)⟩
theorem taken_c (t : Tr) (ht : t.Ok) (old : List Nat) (lp : Nat) (h5 : old.length ≤ 5) (ho : ∀ i, i < old.length → old.getD i 0 < 5) (H : Heap) :
    VDet Tryd.prog 34 [.agg t.cells, .sl none old.length (old.flatMap encN), .int .i64 lp] H (.agg (takenT t old lp).cells) := by
  have hl := ht.len
  have hs := fun i hi => ht.small i hi
  have e1 : (takenT t old lp).cells = [.int .u8 5, .int .i64 old.length, .sl none 0 [], .int .i64 lp, .sl none t.fs.length ((t.fs.map (tkF old)).flatMap encT), .sl none 0 [], .sl none 0 []] := by
    simp [takenT, Tr.cells]
  rw [e1]
  obtain ⟨n, lp0, fs⟩ := t
  unfold Tr.cells
  simp only at hl hs ⊢
  refine fn_det Tryd.E0 Tryd.mx Tryd.func34 (by kernel_rfl) rfl (Nat.le_of_ble_eq_true rfl) rfl fun hcl hbl => ?_
  (repeat' ((conv => whnf); (first | fail))); all_goals (conv => whnf)
  refine LoopN.tokB 2 4 49 3 rfl rfl rfl rfl rfl rfl ?_
  refine loop_R Tryd.E0 Tryd.mx (σ := Nat × List AV) (fun k => k.1 ≤ fs.length ∧ k.2 = ((fs.take k.1).map (tkF old)).flatMap encT) (fun k => fs.length - k.1) (fun k => [(20, .v (.int .i64 k.1))]) (fun k => [.box 30 [.int .u8 5, .int .i64 n, .sl none 0 [], .int .i64 lp0, .sl none fs.length (fs.flatMap encT), .sl none 0 [], .sl none 0 []], .box 30 [.int .u8 0, .int .i64 0, .nils, .int .i64 0, .nils, .nils, .nils], .box 30 [.int .u8 5, .int .i64 old.length, .nils, .int .i64 lp, .sl (some (H.length + 3)) k.1 k.2, .nils, .nils], .tok 49 3 k.2.length]) _ (0, []) rfl hcl [1, 6, 7, 18, 19] rfl ⟨Nat.zero_le _, rfl⟩ ⟨⟨_, rfl, Wk.refl _⟩, trivial⟩ rfl (fun _ _ => rfl) ?_
  rintro ⟨k, cs⟩ ⟨hk, hcs⟩
  simp only at hk hcs ⊢
  clear hbl
  have hs' : k < fs.length → (fs.getD k (0, 0)).2 < 32 := hs k
  (repeat' ((conv => whnf); (first | (refine IfN.id ?_; first | refine IfN.dec (fun _ => ?_) (fun _ => ?_) | fail) | (refine SideN.mk ?_ ?_; · first | kernel_rfl | omega | exact List.cons_ne_nil _ _ | (simp; done) | (simp; omega) | exact trivial | assumption | fail) | refine SegN.nth (0, 0) k rfl (by omega) (fun _ => rfl) ?_ | fail))); all_goals (conv => whnf)
  · refine loop_R Tryd.E0 Tryd.mx (σ := Nat) (fun j => j ≤ old.length) (fun j => old.length - j) (fun j => [(10, .v (.int .i64 (tkK old (fs.getD k (0, 0)).2 j : Nat))), (26, .v (.int .i64 j))]) (fun _ => _) _ 0 rfl hcl [1, 6, 7, 9, 18, 19, 20, 24, 25] rfl (Nat.zero_le _) ⟨⟨_, rfl, Wk.refl _⟩, ⟨_, rfl, Wk.refl _⟩, trivial⟩ rfl (fun _ _ => rfl) ?_
    intro j hj
    have h32 := hs' (by omega)
    have ho' := ho j
    have hb : tkK old (fs.getD k (0, 0)).2 j < 32 := p2_32 (tkK_lt _ _ j) (by omega)
    have hcl3 : cs.length = k * 3 := by
      rw [hcs, flat_length (sz := 3) (fun _ => rfl)]
      simp [Nat.min_eq_left hk]
    (repeat' ((conv => whnf); (first | (refine IfN.id ?_; first | refine IfN.dec (fun _ => ?_) (fun _ => ?_) | fail) | (refine EqN.id ?_; first | (refine EqN.and _ _ (by first | with_reducible rfl | with_reducible exact cst1 | with_reducible exact cst0 | with_reducible exact cst2 | with_reducible exact cst3 | with_reducible exact cst4 | with_reducible exact cst5 | with_reducible exact cst6 | with_reducible exact cst7 | with_reducible exact cst8 | with_reducible exact cst14 | with_reducible exact cst15 | with_reducible exact cst25 | with_reducible exact cst30 | with_reducible exact cst31 | fail) (by first | with_reducible rfl | with_reducible exact cst1 | with_reducible exact cst0 | with_reducible exact cst2 | with_reducible exact cst3 | with_reducible exact cst4 | with_reducible exact cst5 | with_reducible exact cst6 | with_reducible exact cst7 | with_reducible exact cst8 | with_reducible exact cst14 | with_reducible exact cst15 | with_reducible exact cst25 | with_reducible exact cst30 | with_reducible exact cst31 | fail) ?_ ?_; · (repeat' (first | omega | refine And.intro ?_ ?_ | exact bnd_andl (by omega) | exact bnd_andr (by omega) | refine bnd_or ?_ ?_ | refine bnd_or31 ?_ ?_ | refine bnd_xor ?_ ?_ | refine bnd_xor31 ?_ ?_ | refine bnd_shr ?_ | refine bnd_shl ?_ ?_ | refine bnd_mod ?_ | refine bnd_andl ?_ | fail))) | (refine EqN.or _ _ (by first | with_reducible rfl | with_reducible exact cst1 | with_reducible exact cst0 | with_reducible exact cst2 | with_reducible exact cst3 | with_reducible exact cst4 | with_reducible exact cst5 | with_reducible exact cst6 | with_reducible exact cst7 | with_reducible exact cst8 | with_reducible exact cst14 | with_reducible exact cst15 | with_reducible exact cst25 | with_reducible exact cst30 | with_reducible exact cst31 | fail) (by first | with_reducible rfl | with_reducible exact cst1 | with_reducible exact cst0 | with_reducible exact cst2 | with_reducible exact cst3 | with_reducible exact cst4 | with_reducible exact cst5 | with_reducible exact cst6 | with_reducible exact cst7 | with_reducible exact cst8 | with_reducible exact cst14 | with_reducible exact cst15 | with_reducible exact cst25 | with_reducible exact cst30 | with_reducible exact cst31 | fail) ?_ ?_; · (repeat' (first | omega | refine And.intro ?_ ?_ | exact bnd_andl (by omega) | exact bnd_andr (by omega) | refine bnd_or ?_ ?_ | refine bnd_or31 ?_ ?_ | refine bnd_xor ?_ ?_ | refine bnd_xor31 ?_ ?_ | refine bnd_shr ?_ | refine bnd_shl ?_ ?_ | refine bnd_mod ?_ | refine bnd_andl ?_ | fail))) | (refine EqN.shrN _ _ (by first | with_reducible rfl | with_reducible exact cst1 | with_reducible exact cst0 | with_reducible exact cst2 | with_reducible exact cst3 | with_reducible exact cst4 | with_reducible exact cst5 | with_reducible exact cst6 | with_reducible exact cst7 | with_reducible exact cst8 | with_reducible exact cst14 | with_reducible exact cst15 | with_reducible exact cst25 | with_reducible exact cst30 | with_reducible exact cst31 | fail) (by first | with_reducible rfl | with_reducible exact cst1 | with_reducible exact cst0 | with_reducible exact cst2 | with_reducible exact cst3 | with_reducible exact cst4 | with_reducible exact cst5 | with_reducible exact cst6 | with_reducible exact cst7 | with_reducible exact cst8 | with_reducible exact cst14 | with_reducible exact cst15 | with_reducible exact cst25 | with_reducible exact cst30 | with_reducible exact cst31 | fail) rfl ?_ ?_; · (repeat' (first | omega | refine And.intro ?_ ?_ | exact bnd_andl (by omega) | exact bnd_andr (by omega) | refine bnd_or ?_ ?_ | refine bnd_or31 ?_ ?_ | refine bnd_xor ?_ ?_ | refine bnd_xor31 ?_ ?_ | refine bnd_shr ?_ | refine bnd_shl ?_ ?_ | refine bnd_mod ?_ | refine bnd_andl ?_ | fail))) | (refine EqN.shlN _ _ (by first | with_reducible rfl | with_reducible exact cst1 | with_reducible exact cst0 | with_reducible exact cst2 | with_reducible exact cst3 | with_reducible exact cst4 | with_reducible exact cst5 | with_reducible exact cst6 | with_reducible exact cst7 | with_reducible exact cst8 | with_reducible exact cst14 | with_reducible exact cst15 | with_reducible exact cst25 | with_reducible exact cst30 | with_reducible exact cst31 | fail) (by first | with_reducible rfl | with_reducible exact cst1 | with_reducible exact cst0 | with_reducible exact cst2 | with_reducible exact cst3 | with_reducible exact cst4 | with_reducible exact cst5 | with_reducible exact cst6 | with_reducible exact cst7 | with_reducible exact cst8 | with_reducible exact cst14 | with_reducible exact cst15 | with_reducible exact cst25 | with_reducible exact cst30 | with_reducible exact cst31 | fail) rfl ?_ ?_ ?_; (· (repeat' (first | omega | refine And.intro ?_ ?_ | exact bnd_andl (by omega) | exact bnd_andr (by omega) | refine bnd_or ?_ ?_ | refine bnd_or31 ?_ ?_ | refine bnd_xor ?_ ?_ | refine bnd_xor31 ?_ ?_ | refine bnd_shr ?_ | refine bnd_shl ?_ ?_ | refine bnd_mod ?_ | refine bnd_andl ?_ | fail))); (· (repeat' (first | omega | refine And.intro ?_ ?_ | exact bnd_andl (by omega) | exact bnd_andr (by omega) | refine bnd_or ?_ ?_ | refine bnd_or31 ?_ ?_ | refine bnd_xor ?_ ?_ | refine bnd_xor31 ?_ ?_ | refine bnd_shr ?_ | refine bnd_shl ?_ ?_ | refine bnd_mod ?_ | refine bnd_andl ?_ | fail)))) | (refine EqN.addN _ _ (by first | with_reducible rfl | with_reducible exact cst1 | with_reducible exact cst0 | with_reducible exact cst2 | with_reducible exact cst3 | with_reducible exact cst4 | with_reducible exact cst5 | with_reducible exact cst6 | with_reducible exact cst7 | with_reducible exact cst8 | with_reducible exact cst14 | with_reducible exact cst15 | with_reducible exact cst25 | with_reducible exact cst30 | with_reducible exact cst31 | fail) (by first | with_reducible rfl | with_reducible exact cst1 | with_reducible exact cst0 | with_reducible exact cst2 | with_reducible exact cst3 | with_reducible exact cst4 | with_reducible exact cst5 | with_reducible exact cst6 | with_reducible exact cst7 | with_reducible exact cst8 | with_reducible exact cst14 | with_reducible exact cst15 | with_reducible exact cst25 | with_reducible exact cst30 | with_reducible exact cst31 | fail) ?_ ?_; · (repeat' (first | omega | refine And.intro ?_ ?_ | exact bnd_andl (by omega) | exact bnd_andr (by omega) | refine bnd_or ?_ ?_ | refine bnd_or31 ?_ ?_ | refine bnd_xor ?_ ?_ | refine bnd_xor31 ?_ ?_ | refine bnd_shr ?_ | refine bnd_shl ?_ ?_ | refine bnd_mod ?_ | refine bnd_andl ?_ | fail))) | fail) | (refine SideN.mk ?_ ?_; · first | kernel_rfl | omega | exact List.cons_ne_nil _ _ | (simp; done) | (simp; omega) | exact trivial | assumption | fail) | refine SegN.nth 0 j rfl (by omega) (fun _ => rfl) ?_ | refine SideN.mk ⟨rfl, rfl, rfl, by dsimp only; omega, by simp only [maxLen]; omega⟩ ?_ | (refine PtrN.id ?_; first | refine PtrN.loc _ rfl ?_ | fail) | fail))); all_goals (conv => whnf)
    · (refine ⟨⟨j + 1, by omega, by omega, ?_, .inl ⟨rfl, rfl⟩, rfl, _, rfl, ?_⟩⟩; rotate_left 1; (first | exact .inl rfl | exact .inr ⟨by simp [belowRE, below, belowL, tr, encT_below, encN_below, hbc, belowL_append], by simp [belowH, Blk.below, belowL, below, encT_below, encN_below, hbc, belowL_append]⟩ | fail); (repeat' (first | exact trivial | refine ⟨⟨_, rfl, ?_⟩, ?_⟩ | fail)); all_goals try (first | exact Wk.refl _ | exact Wk.of_eq (congrArg (AV.int _) (by omega)) | fail))
    · have hje : j = old.length := by omega
      subst hje
      refine ⟨⟨(k + 1, cs ++ encT (tkF old (fs.getD k (0, 0)))), ⟨by simp only; omega, ?_⟩, by simp only; omega, ⟨⟨_, rfl, Wk.refl _⟩, trivial⟩, .inr ⟨⟨_, rfl, Wk.refl _⟩, ⟨_, rfl, Wk.refl _⟩, ⟨_, rfl, Wk.refl _⟩, ⟨_, rfl, Wk.refl _⟩, ⟨_, rfl, Wk.refl _⟩, trivial⟩, rfl, _, rfl, ?_⟩⟩
      · simp only [hcs]
        rw [← map_take_succ (tkF old) fs (0, 0) k (by omega), List.flatMap_append]
        simp
      · have hbc : ∀ m, belowL m cs := fun m => by rw [hcs]; exact encT_below m _
        exact .inr ⟨by simp [belowRE, below, belowL, tr, encN_below, encT_below], by simp [belowH, Blk.below, belowL, below, encT_below, hbc, belowL_append, encT, tkF]⟩
  · have hke : k = fs.length := by omega
    subst hke
    rw [List.take_length] at hcs
    subst hcs
    refine EndN.det (by simp [below, belowL, encT_below]) ?_
    exact wk_agg ⟨Wk.refl _, Wk.refl _, wk_nils, Wk.refl _, wk_sl _ _ _, wk_nils, wk_nils, trivial⟩
theorem Holds_c (t : Tr) (ht : t.Ok) (f : Fm) (hf : f.Ok) (htf : f.Temp) (hn : f.nodes ≤ 40) (hm : miss t f = false) (H : Heap) :
    VDet Tryd.prog 28 [.agg t.cells, .agg f.cells] H (.tup [.bool (((evT t f &&& 1 : Nat) : Int) == 1), .int .i64 0]) := by
  have hA := fun H => At_c t ht f hf htf hn H
  have h32 := p2_32 (evT_lt ht f) ht.n5
  rw [hm] at hA
  simp only [Bool.false_eq_true, if_false] at hA
  generalize evT t f = e at hA h32 ⊢
  obtain ⟨n, lp, fs⟩ := t
  unfold Tr.cells at hA ⊢
  unfold Fm.cells at hA ⊢
  simp only at hA ⊢
  refine fn_det Tryd.E0 Tryd.mx Tryd.func28 (by kernel_rfl) rfl (Nat.le_of_ble_eq_true rfl) rfl fun hcl hbl => ?_
  (repeat' ((conv => whnf); (first | (refine IfN.id ?_; first | refine IfN.tt rfl ?_ | fail) | (refine EqN.id ?_; first | (refine EqN.and _ _ (by first | with_reducible rfl | with_reducible exact cst1 | with_reducible exact cst0 | with_reducible exact cst2 | with_reducible exact cst3 | with_reducible exact cst4 | with_reducible exact cst5 | with_reducible exact cst6 | with_reducible exact cst7 | with_reducible exact cst8 | with_reducible exact cst14 | with_reducible exact cst15 | with_reducible exact cst25 | with_reducible exact cst30 | with_reducible exact cst31 | fail) (by first | with_reducible rfl | with_reducible exact cst1 | with_reducible exact cst0 | with_reducible exact cst2 | with_reducible exact cst3 | with_reducible exact cst4 | with_reducible exact cst5 | with_reducible exact cst6 | with_reducible exact cst7 | with_reducible exact cst8 | with_reducible exact cst14 | with_reducible exact cst15 | with_reducible exact cst25 | with_reducible exact cst30 | with_reducible exact cst31 | fail) ?_ ?_; · (repeat' (first | omega | refine And.intro ?_ ?_ | exact bnd_andl (by omega) | exact bnd_andr (by omega) | refine bnd_or ?_ ?_ | refine bnd_or31 ?_ ?_ | refine bnd_xor ?_ ?_ | refine bnd_xor31 ?_ ?_ | refine bnd_shr ?_ | refine bnd_shl ?_ ?_ | refine bnd_mod ?_ | refine bnd_andl ?_ | fail))) | fail) | (refine CallN.id ?_; first | refine CallN.det _ (hA _) ?_ | fail) | fail))); all_goals (conv => whnf)
  all_goals exact EndN.det (by simp [below, belowL]) (Wk.refl _)
end Go.Proofs.YtjflngchbeegcaaDoor
/-! text Q13 -/
namespace Go.Proofs.YtjflngchbeegcaaDoor
open Go.Vsi
set_option maxHeartbeats 1000000
attribute [local irreducible] VW VCall VO bits

def bitAt (t : Tr) (i x : Nat) : Nat := ((ft t.fs i).2 >>> posN t.n t.lp x) &&& 1
def rowS (a b : Tr) (i : Nat) : Bool := ((ft a.fs i).1 == (ft b.fs i).1) && (List.range 25).all fun x => bitAt a i x == bitAt b i x
def sameB (a b : Tr) : Bool := (a.fs.length == b.fs.length) && (List.range a.fs.length).all (rowS a b)
theorem all_no {p : Nat → Bool} {n k : Nat} (hk : k < n) (h : p k = false) : (List.range n).all p = false := by
  rw [List.all_eq_false]
  exact ⟨k, List.mem_range.2 hk, by simp [h]⟩
theorem all_yes {p : Nat → Bool} {n : Nat} (h : ∀ i, i < n → p i = true) : (List.range n).all p = true := by
  rw [List.all_eq_true]
  exact fun x hx => h x (List.mem_range.1 hx)
theorem same_no {a b : Tr} {k : Nat} (hk : k < a.fs.length) (h : rowS a b k = false) : sameB a b = false := by
  unfold sameB
  rw [all_no hk h, Bool.and_false]
theorem bitAt_lt (t : Tr) (i x : Nat) : bitAt t i x < 2 := bnd_andr (by omega)

theorem same_c (a b : Tr) (ha : a.Ok) (hb : b.Ok) (H : Heap) : VDet Tryd.prog 35 [.agg a.cells, .agg b.cells] H (.bool (sameB a b)) := by
  have hpa := fun x hx H => position_c a ha x hx H
  have hpb := fun x hx H => position_c b hb x hx H
  have hla := ha.len
  have hlb := hb.len
  have hsa := fun i hi => ha.small i hi
  have hsb := fun i hi => hb.small i hi
  have hqa := fun x => Nat.lt_of_lt_of_le (posN_lt (x := x) ha.lp) ha.n5
  have hqb := fun x => Nat.lt_of_lt_of_le (posN_lt (x := x) hb.lp) hb.n5
  have hno := fun k => @same_no a b k
  have hyes : ∀ (e : a.fs.length = b.fs.length), (∀ i, i < a.fs.length → rowS a b i = true) → sameB a b = true := fun e h => by
    unfold sameB; rw [all_yes h, e]; simp
  have hne : a.fs.length ≠ b.fs.length → sameB a b = false := fun e => by unfold sameB; simp [e]
  have hrn : ∀ k, ((ft a.fs k).1 == (ft b.fs k).1) = false → rowS a b k = false := fun k h => by unfold rowS; rw [h]; rfl
  have hrb : ∀ k x, x < 25 → bitAt a k x ≠ bitAt b k x → rowS a b k = false := fun k x hx h => by
    unfold rowS; rw [all_no hx (by simpa using h), Bool.and_false]
  have hry : ∀ k, ((ft a.fs k).1 == (ft b.fs k).1) = true → (∀ x, x < 25 → bitAt a k x = bitAt b k x) → rowS a b k = true := fun k h h2 => by
    unfold rowS; rw [h, all_yes fun x hx => by simpa using h2 x hx]; rfl
  have eba : ∀ k x, bitAt a k x = ((ft a.fs k).2 >>> posN a.n a.lp x) &&& 1 := fun _ _ => rfl
  have ebb : ∀ k x, bitAt b k x = ((ft b.fs k).2 >>> posN b.n b.lp x) &&& 1 := fun _ _ => rfl
  generalize sameB a b = R at hno hyes hne ⊢
  generalize rowS a b = rS at hno hyes hrn hrb hry
  generalize bitAt a = ba at hrb hry eba
  generalize bitAt b = bb at hrb hry ebb
  obtain ⟨na, lpa, fa⟩ := a
  obtain ⟨nb, lpb, fb⟩ := b
  unfold Tr.cells at hpa hpb ⊢
  simp only at hpa hpb hla hlb hsa hsb hqa hqb hno hyes hne hrn hrb hry eba ebb ⊢
  refine fn_det Tryd.E0 Tryd.mx Tryd.func35 (by kernel_rfl) rfl (Nat.le_of_ble_eq_true rfl) rfl fun hcl hbl => ?_
  (repeat' ((conv => whnf); (first | (refine IfN.id ?_; first | refine IfN.not ?_ | refine IfN.dec (fun _ => ?_) (fun _ => ?_) | fail) | fail))); all_goals (conv => whnf)
  all_goals try (refine EndN.det trivial (Wk.of_eq ?_); rw [hne (by omega)])
  refine loop_R Tryd.E0 Tryd.mx (σ := Nat) (fun k => k ≤ fa.length ∧ ∀ i, i < k → rS i = true) (fun k => fa.length - k) (fun k => [(18, .v (.int .i64 k))]) (fun _ => _) _ 0 rfl hcl [2, 3, 16, 17] rfl ⟨Nat.zero_le _, fun i hi => absurd hi (Nat.not_lt_zero i)⟩ ⟨⟨_, rfl, Wk.refl _⟩, trivial⟩ rfl (fun _ _ => rfl) ?_
  rintro k ⟨hk, hok⟩
  clear hbl
  (repeat' ((conv => whnf); (first | (refine IfN.id ?_; first | refine IfN.not ?_ | refine IfN.dec (fun _ => ?_) (fun _ => ?_) | (refine IfN.mk ?_ ?_ <;> intro _) | fail) | (refine SideN.mk ?_ ?_; · first | kernel_rfl | omega | exact List.cons_ne_nil _ _ | (simp; done) | (simp; omega) | exact trivial | assumption | fail) | refine SegN.nth (0, 0) k rfl (by omega) (fun _ => rfl) ?_ | fail))); all_goals (conv => whnf)
  · rename_i hn
    rw [nm_eq] at hn
    refine loop_R Tryd.E0 Tryd.mx (σ := Nat) (fun x => x ≤ 25 ∧ ∀ y, y < x → ba k y = bb k y) (fun x => 25 - x) (fun x => [(32, .v (.int .i64 x))]) (fun _ => _) _ 0 rfl hcl [2, 3, 5, 6, 16, 17, 18] rfl ⟨Nat.zero_le _, fun i hi => absurd hi (Nat.not_lt_zero i)⟩ ⟨⟨_, rfl, Wk.refl _⟩, trivial⟩ rfl (fun _ _ => rfl) ?_
    rintro x ⟨hx, hsame⟩
    have h1 := hsa k (by omega)
    have h2 := hsb k (by omega)
    unfold ft at h1 h2 eba ebb
    have h3 := hqa x
    have h4 := hqb x
    (repeat' ((conv => whnf); (first | (refine IfN.id ?_; first | refine IfN.not ?_ | refine IfN.dec (fun _ => ?_) (fun _ => ?_) | fail) | (refine EqN.id ?_; first | (refine EqN.and _ _ (by first | with_reducible rfl | with_reducible exact cst1 | with_reducible exact cst0 | with_reducible exact cst2 | with_reducible exact cst3 | with_reducible exact cst4 | with_reducible exact cst5 | with_reducible exact cst6 | with_reducible exact cst7 | with_reducible exact cst8 | with_reducible exact cst14 | with_reducible exact cst15 | with_reducible exact cst25 | with_reducible exact cst30 | with_reducible exact cst31 | fail) (by first | with_reducible rfl | with_reducible exact cst1 | with_reducible exact cst0 | with_reducible exact cst2 | with_reducible exact cst3 | with_reducible exact cst4 | with_reducible exact cst5 | with_reducible exact cst6 | with_reducible exact cst7 | with_reducible exact cst8 | with_reducible exact cst14 | with_reducible exact cst15 | with_reducible exact cst25 | with_reducible exact cst30 | with_reducible exact cst31 | fail) ?_ ?_; · (repeat' (first | omega | refine And.intro ?_ ?_ | exact bnd_andl (by omega) | exact bnd_andr (by omega) | refine bnd_or ?_ ?_ | refine bnd_or31 ?_ ?_ | refine bnd_xor ?_ ?_ | refine bnd_xor31 ?_ ?_ | refine bnd_shr ?_ | refine bnd_shl ?_ ?_ | refine bnd_mod ?_ | refine bnd_andl ?_ | fail))) | (refine EqN.shrN _ _ (by first | with_reducible rfl | with_reducible exact cst1 | with_reducible exact cst0 | with_reducible exact cst2 | with_reducible exact cst3 | with_reducible exact cst4 | with_reducible exact cst5 | with_reducible exact cst6 | with_reducible exact cst7 | with_reducible exact cst8 | with_reducible exact cst14 | with_reducible exact cst15 | with_reducible exact cst25 | with_reducible exact cst30 | with_reducible exact cst31 | fail) (by first | with_reducible rfl | with_reducible exact cst1 | with_reducible exact cst0 | with_reducible exact cst2 | with_reducible exact cst3 | with_reducible exact cst4 | with_reducible exact cst5 | with_reducible exact cst6 | with_reducible exact cst7 | with_reducible exact cst8 | with_reducible exact cst14 | with_reducible exact cst15 | with_reducible exact cst25 | with_reducible exact cst30 | with_reducible exact cst31 | fail) rfl ?_ ?_; · (repeat' (first | omega | refine And.intro ?_ ?_ | exact bnd_andl (by omega) | exact bnd_andr (by omega) | refine bnd_or ?_ ?_ | refine bnd_or31 ?_ ?_ | refine bnd_xor ?_ ?_ | refine bnd_xor31 ?_ ?_ | refine bnd_shr ?_ | refine bnd_shl ?_ ?_ | refine bnd_mod ?_ | refine bnd_andl ?_ | fail))) | (refine EqN.addN _ _ (by first | with_reducible rfl | with_reducible exact cst1 | with_reducible exact cst0 | with_reducible exact cst2 | with_reducible exact cst3 | with_reducible exact cst4 | with_reducible exact cst5 | with_reducible exact cst6 | with_reducible exact cst7 | with_reducible exact cst8 | with_reducible exact cst14 | with_reducible exact cst15 | with_reducible exact cst25 | with_reducible exact cst30 | with_reducible exact cst31 | fail) (by first | with_reducible rfl | with_reducible exact cst1 | with_reducible exact cst0 | with_reducible exact cst2 | with_reducible exact cst3 | with_reducible exact cst4 | with_reducible exact cst5 | with_reducible exact cst6 | with_reducible exact cst7 | with_reducible exact cst8 | with_reducible exact cst14 | with_reducible exact cst15 | with_reducible exact cst25 | with_reducible exact cst30 | with_reducible exact cst31 | fail) ?_ ?_; · (repeat' (first | omega | refine And.intro ?_ ?_ | exact bnd_andl (by omega) | exact bnd_andr (by omega) | refine bnd_or ?_ ?_ | refine bnd_or31 ?_ ?_ | refine bnd_xor ?_ ?_ | refine bnd_xor31 ?_ ?_ | refine bnd_shr ?_ | refine bnd_shl ?_ ?_ | refine bnd_mod ?_ | refine bnd_andl ?_ | fail))) | fail) | (refine SideN.mk ?_ ?_; · first | kernel_rfl | omega | exact List.cons_ne_nil _ _ | (simp; done) | (simp; omega) | exact trivial | assumption | fail) | (refine CallD.id ?_; first | refine CallD.det _ (fun _ => hpa x (by omega) _) ?_ | refine CallD.det _ (fun _ => hpb x (by omega) _) ?_ | fail) | refine SegN.nth (0, 0) k rfl (by omega) (fun _ => rfl) ?_ | fail))); all_goals (conv => whnf)
    · rename_i he
      have hxy : ba k x = bb k x := by rw [eba, ebb]; exact Int.natCast_inj.1 he
      (refine ⟨⟨x + 1, ⟨by omega, fun y hy => by
        rcases Nat.lt_or_ge y x with h | h
        · exact hsame y h
        · have : y = x := by omega
          exact this ▸ hxy⟩, by omega, ?_, .inl ⟨rfl, rfl⟩, rfl, _, rfl, ?_⟩⟩; rotate_left 1; (first | exact .inl rfl | exact .inr ⟨by simp [belowRE, below, belowL, tr, encT_below, encN_below], by simp [belowH, Blk.below, belowL, below, encT_below, encN_below]⟩ | fail); (repeat' (first | exact trivial | refine ⟨⟨_, rfl, ?_⟩, ?_⟩ | fail)); all_goals try (first | exact Wk.refl _ | exact Wk.of_eq (congrArg (AV.int _) (by omega)) | fail))
    · rename_i he
      refine EndN.det trivial (Wk.of_eq ?_)
      rw [hno k (by omega) (hrb k x (by omega) fun h => he (by rw [eba, ebb] at h; rw [h]))]
    · have hk1 := hry k hn fun y hy => hsame y (by omega)
      refine ⟨⟨k + 1, ⟨by omega, fun i hi => ?_⟩, by omega, ⟨⟨_, rfl, Wk.refl _⟩, trivial⟩, .inr ⟨⟨_, rfl, Wk.refl _⟩, ⟨_, rfl, Wk.refl _⟩, ⟨_, rfl, Wk.refl _⟩, ⟨_, rfl, Wk.refl _⟩, trivial⟩, rfl, _, rfl, .inr ⟨by simp [belowRE, below, belowL, tr, encT_below], by simp [belowH, Blk.below, belowL, below, encT_below]⟩⟩⟩
      rcases Nat.lt_or_ge i k with h | h
      · exact hok i h
      · have : i = k := by omega
        exact this ▸ hk1
  · rename_i hn
    rw [nm_eq] at hn
    refine EndN.det trivial (Wk.of_eq ?_)
    rw [hno k (by omega) (hrn k hn)]
  · refine EndN.det trivial (Wk.of_eq ?_)
    rw [hyes (by omega) (fun i hi => hok i (by omega))]
theorem Same_c (a b : Tr) (ha : a.Ok) (hb : b.Ok) (H : Heap) : VDet Tryd.prog 13 [.agg a.cells, .agg b.cells] H (.tup [.bool (sameB a b), .int .i64 0]) := by
  have hva := fun H => valid_t ha H
  have hvb := fun H => valid_t hb H
  have hs := fun H => same_c a b ha hb H
  generalize sameB a b = R at hs ⊢
  unfold Tr.cells at hva hvb hs ⊢
  refine fn_det Tryd.E0 Tryd.mx Tryd.func13 (by kernel_rfl) rfl (Nat.le_of_ble_eq_true rfl) rfl fun hcl hbl => ?_
  (repeat' ((conv => whnf); (first | (refine IfN.id ?_; first | refine IfN.not ?_ | refine IfN.tt rfl ?_ | fail) | (refine CallN.id ?_; first | refine CallN.det _ (hva _) ?_ | refine CallN.det _ (hvb _) ?_ | refine CallN.det _ (hs _) ?_ | fail) | fail))); all_goals (conv => whnf)
  exact EndN.det (by simp [below, belowL]) (Wk.refl _)
/-! ### slices.Index -/
def idx (v : Nat) : List Nat → Option Nat
  | [] => none
  | p :: l => if p = v then some 0 else (idx v l).map (· + 1)
end Go.Proofs.YtjflngchbeegcaaDoor
/-! text S13 -/
namespace Go.Proofs.YtjflngchbeegcaaDoor
open Go.Vsi
set_option maxHeartbeats 1000000
attribute [local irreducible] VW VCall VO bits

/-! ### the steps of a trace -/
theorem steps_c (t : Tr) (p : Nat) (H : Heap) : VCall Tryd.prog 33 [.agg t.cells, .int .i64 p] H (fun r H' => r = .clo (.func 52) [] [.ptr (H.length + 1) 0, .ptr (H.length + 0) 0] ∧ H' = H ++ [.box 30 t.cells, .box 3 [.int .i64 p]]) := by
  unfold Tr.cells
  refine fn_gen Tryd.E0 Tryd.mx Tryd.func33 (by kernel_rfl) rfl (Nat.le_of_ble_eq_true rfl) rfl fun hcl hbl => ?_
  (repeat' ((conv => whnf); (first | fail))); all_goals (conv => whnf)
  exact EndN.keep _ (Wk.refl _) ⟨rfl, rfl⟩

/-- a walk along the steps: its states ahead of each round, and behind it -/
structure ItS (t : Tr) (K N : Nat) (p : Nat → Nat) (Hs Hm : Nat → Heap) (ip im : Nat) : Prop where
  hp : ∀ j, j ≤ K → (Hs j)[ip]? = some (.box 3 [.int .i64 (p j)])
  hm : ∀ j, j < K → (Hm j)[im]? = some (.box 30 t.cells)
  hmp : ∀ j, j < K → (Hm j)[ip]? = some (.box 3 [.int .i64 (p j)])
  hset : ∀ j, j < K → (Hm j).set ip (.box 3 [.int .i64 (p (j + 1))]) = Hs (j + 1)
  step : ∀ j, j < K → p (j + 1) = posN t.n t.lp (p j + 1)
  cl : ∀ j, j ≤ K → Closed (Hs j)
  len : ∀ j, j ≤ K → (Hs j).length = N
  lenm : ∀ j, j < K → (Hm j).length = N
  small : ∀ j, p j < 5
theorem iter_c (t : Tr) (ht : t.Ok) (K N : Nat) (p : Nat → Nat) (Hs Hm : Nat → Heap) (ip im i : Nat) (s : ItS t K N p Hs Hm ip im) (He : Heap)
    (hlen : He.length = N) (hlow : ∀ (j : Nat) B, He[j]? = some B → (Hs 0)[j]? = some B ∨ B.below (Hs 0).length)
    (hyt : ∀ j, j < K → VYield Tryd.prog i [.int .i64 (p j)] (Hs j ++ []) (fun r H' => r = .bool true ∧ H' = Hm j ++ []))
    (hyf : VYield Tryd.prog i [.int .i64 (p K)] (Hs K ++ []) (fun r H' => r = .bool false ∧ H' = He ++ [])) :
    VCall Tryd.prog 52 [.clo (.yield i) [] [], .ptr ip 0, .ptr im 0] (Hs 0) (fun _ H' => H' = He) := by
  have hpos := fun j (hj : p j + 1 < 9223372036854775808) H => position_c t ht (p j + 1) hj H
  obtain ⟨hp, hm, hmp, hset, step, cl, len, lenm, small⟩ := s
  obtain ⟨n, lp, fs⟩ := t
  unfold Tr.cells at hm hpos
  simp only at hm hpos step
  refine fn_gen Tryd.E0 Tryd.mx Tryd.func52 (by kernel_rfl) rfl (Nat.le_of_ble_eq_true rfl) rfl fun hcl hbl => ?_
  refine loop_B Tryd.E0 Tryd.mx (σ := Nat) (fun j => j ≤ K) (fun j => K - j) (fun _ => []) Hs (fun _ => []) _ 0 (fun j hj => (len j hj).trans (len 0 (Nat.zero_le _)).symm) cl [0, 1, 2] rfl (Nat.zero_le _) trivial rfl rfl (fun _ _ => rfl) ?_
  intro j hj
  have h1 := hp j hj
  have hN := (len 0 (Nat.zero_le _)).symm
  rcases Nat.lt_or_ge j K with hjK | hjK
  · have h2 := hm j hjK
    have h3 := hmp j hjK
    have h4 := small j
    (repeat' ((conv => whnf); (first | (refine IfN.id ?_; first | refine IfN.tt rfl ?_ | fail) | (refine EqN.id ?_; first | (refine EqN.addN _ _ (by first | with_reducible rfl | with_reducible exact cst1 | with_reducible exact cst0 | with_reducible exact cst2 | with_reducible exact cst3 | with_reducible exact cst4 | with_reducible exact cst5 | with_reducible exact cst6 | with_reducible exact cst7 | with_reducible exact cst8 | with_reducible exact cst14 | with_reducible exact cst15 | with_reducible exact cst25 | with_reducible exact cst30 | with_reducible exact cst31 | fail) (by first | with_reducible rfl | with_reducible exact cst1 | with_reducible exact cst0 | with_reducible exact cst2 | with_reducible exact cst3 | with_reducible exact cst4 | with_reducible exact cst5 | with_reducible exact cst6 | with_reducible exact cst7 | with_reducible exact cst8 | with_reducible exact cst14 | with_reducible exact cst15 | with_reducible exact cst25 | with_reducible exact cst30 | with_reducible exact cst31 | fail) ?_ ?_; · (repeat' (first | omega | refine And.intro ?_ ?_ | exact bnd_andl (by omega) | exact bnd_andr (by omega) | refine bnd_or ?_ ?_ | refine bnd_or31 ?_ ?_ | refine bnd_xor ?_ ?_ | refine bnd_xor31 ?_ ?_ | refine bnd_shr ?_ | refine bnd_shl ?_ ?_ | refine bnd_mod ?_ | refine bnd_andl ?_ | fail))) | fail) | refine SetN.mk _ rfl ?_ | (refine CallN.id ?_; first | refine CallN.det _ (hpos j (by omega) _) ?_ | fail) | refine CallN.fix _ _ _ _ (hyt j hjK) ((lenm j hjK).trans hN) rfl ?_ | (refine PtrN.id ?_; first | refine PtrN.base _ (by (repeat' (first | assumption | exact at_loc' _ rfl | exact at_loc0 rfl | refine at_set (B' := ?_) ?_ | refine at_base' ?_ | fail))) ?_ | fail) | fail))); all_goals (conv => whnf)
    refine ⟨⟨j + 1, hjK, by omega, trivial, .inl ⟨rfl, rfl⟩, ?_, [], rfl, .inl rfl⟩⟩
    rw [← step j hjK]
    exact hset j hjK
  · have : j = K := by omega
    subst this
    (repeat' ((conv => whnf); (first | (refine IfN.id ?_; first | refine IfN.ff rfl ?_ | fail) | refine CallN.fix _ _ _ _ hyf (hlen.trans hN) rfl ?_ | (refine PtrN.id ?_; first | refine PtrN.base _ (by (repeat' (first | assumption | exact at_loc' _ rfl | exact at_loc0 rfl | refine at_set (B' := ?_) ?_ | refine at_base' ?_ | fail))) ?_ | fail) | fail))); all_goals (conv => whnf)
    exact .cut (hlen.trans hN) hlow ⟨_, _, .refl _, Wk.refl _, by simp [below, belowL], rfl⟩
end Go.Proofs.YtjflngchbeegcaaDoor
