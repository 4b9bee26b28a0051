/- A text of the proof: the parts RR10, RS10, RT10, RU10, D10. -/
import Derived.ProofKit
import Derived.LaidMore
import Derived.OpenShut
import Derived.Test.YtekhodpmpjehaaaDoorK6
set_option linter.unusedSimpArgs false
set_option linter.unusedVariables false
/-! text RR10 -/
namespace Go.Proofs.YtekhodpmpjehaaaDoor
open Go.Vsi
set_option maxHeartbeats 1000000
attribute [local irreducible] VW VCall VO bits mkBits

/-! ### put -/
def putF (k : UInt8) (g : Fm) : Fm → Fm
  | .at c => if c = k then g else .at c
  | .fa => .fa
  | .f1 o a => .f1 o (putF k g a)
  | .f2 o a b => .f2 o (putF k g a) (putF k g b)
theorem put_at (c k : UInt8) (g : Fm) (H : Heap) : VDet Tryd.prog 13 [.agg (Fm.at c).cells, .str (nm k), .agg g.cells] H (.agg (putF k g (.at c)).cells) := by
  have he := nm_eq c k
  have hgb := fun n => g.sc_below n
  have hgc : g.cells = [.int .u8 g.op, .str g.nmB, .sl none 0 [], .sl none g.sn g.sc] := rfl
  unfold putF
  by_cases h : c = k
  · rw [if_pos h]
    subst h
    rw [hgc]
    unfold Fm.cells
    simp only [Fm.op, Fm.nmB, Fm.sn, Fm.sc]
    have he : ((nm c).toList == (nm c).toList) = true := by rw [he]; simp
    generalize nm c = s at *
    generalize g.op = fo at *
    generalize g.nmB = fn at *
    generalize g.sn = fsn at *
    generalize g.sc = fsc at *
    refine fn_det Tryd.E0 Tryd.mx Tryd.func13 (by kernel_rfl) rfl (Nat.le_of_ble_eq_true rfl) rfl fun hcl hbl => ?_
    (repeat' ((conv => whnf); (first | (refine IfN.id ?_; first | refine IfN.tt he ?_ | refine IfN.tt rfl ?_ | fail) | refine DrawN.mk' [] ?_ | fail))); all_goals (conv => whnf)
    exact EndN.det (by simp [below, belowL, hgb]) (Wk.refl _)
  · rw [if_neg h]
    have he : ((nm c).toList == (nm k).toList) = false := by rw [he]; simpa using h
    rw [hgc]
    unfold Fm.cells
    simp only [Fm.op, Fm.nmB, Fm.sn, Fm.sc]
    generalize nm c = s at *
    generalize nm k = sk at *
    generalize g.op = fo at *
    generalize g.nmB = fn at *
    generalize g.sn = fsn at *
    generalize g.sc = fsc at *
    refine fn_det Tryd.E0 Tryd.mx Tryd.func13 (by kernel_rfl) rfl (Nat.le_of_ble_eq_true rfl) rfl fun hcl hbl => ?_
    (repeat' ((conv => whnf); (first | (refine IfN.id ?_; first | refine IfN.ff he ?_ | refine IfN.tt rfl ?_ | fail) | refine DrawN.mk' [] ?_ | fail))); all_goals (conv => whnf)
    refine LoopN.rounds Tryd.E0 Tryd.mx 1 (by simp) ?_
    (repeat' ((conv => whnf); (first | (refine IfN.id ?_; first | refine IfN.ff rfl ?_ | fail) | refine DrawN.mk' [] ?_ | fail))); all_goals (conv => whnf)
    exact EndN.det (by simp [below, belowL]) (wk_agg ⟨Wk.refl _, Wk.refl _, wk_nils, wk_nils, trivial⟩)
theorem put_fa (k : UInt8) (g : Fm) (H : Heap) : VDet Tryd.prog 13 [.agg Fm.fa.cells, .str (nm k), .agg g.cells] H (.agg (putF k g .fa).cells) := by
  unfold putF
  have hgb := fun n => g.sc_below n
  have hgc : g.cells = [.int .u8 g.op, .str g.nmB, .sl none 0 [], .sl none g.sn g.sc] := rfl
  rw [hgc]
  unfold Fm.cells
  simp only [Fm.op, Fm.nmB, Fm.sn, Fm.sc]
  generalize nm k = sk at *
  generalize g.op = fo at *
  generalize g.nmB = fn at *
  generalize g.sn = fsn at *
  generalize g.sc = fsc at *
  refine fn_det Tryd.E0 Tryd.mx Tryd.func13 (by kernel_rfl) rfl (Nat.le_of_ble_eq_true rfl) rfl fun hcl hbl => ?_
  (repeat' ((conv => whnf); (first | (refine IfN.id ?_; first | refine IfN.ff rfl ?_ | fail) | refine DrawN.mk' [] ?_ | fail))); all_goals (conv => whnf)
  refine LoopN.rounds Tryd.E0 Tryd.mx 1 (by simp) ?_
  (repeat' ((conv => whnf); (first | (refine IfN.id ?_; first | refine IfN.ff rfl ?_ | fail) | refine DrawN.mk' [] ?_ | fail))); all_goals (conv => whnf)
  exact EndN.det (by simp [below, belowL]) (wk_agg ⟨Wk.refl _, Wk.refl _, wk_nils, wk_nils, trivial⟩)
theorem put_f1 (o : Nat) (ho : o = 3) (a : Fm) (k : UInt8) (g : Fm) (ih : ∀ H, VDet Tryd.prog 13 [.agg a.cells, .str (nm k), .agg g.cells] H (.agg (putF k g a).cells)) (H : Heap) : VDet Tryd.prog 13 [.agg (Fm.f1 o a).cells, .str (nm k), .agg g.cells] H (.agg (putF k g (.f1 o a)).cells) := by
  subst ho
  have hgb := fun n => g.sc_below n
  have hgc : g.cells = [.int .u8 g.op, .str g.nmB, .sl none 0 [], .sl none g.sn g.sc] := rfl
  have hab := fun n => a.sc_below n
  unfold putF
  generalize putF k g a = r at *
  have hrb := fun n => r.sc_below n
  have hrc : r.cells = [.int .u8 r.op, .str r.nmB, .sl none 0 [], .sl none r.sn r.sc] := rfl
  rw [show (Fm.f1 3 a).cells = [.int .u8 (3 : Nat), .str .empty, .sl none 0 [], .sl none 1 [.int .u8 a.op, .str a.nmB, .sl none 0 [], .sl none a.sn a.sc]] from rfl, show (Fm.f1 3 r).cells = [.int .u8 (3 : Nat), .str .empty, .sl none 0 [], .sl none 1 [.int .u8 r.op, .str r.nmB, .sl none 0 [], .sl none r.sn r.sc]] from rfl]
  rw [hgc] at ih ⊢
  rw [hrc] at ih
  unfold Fm.cells at ih
  generalize nm k = sk at *
  generalize g.op = fo at *
  generalize g.nmB = fn at *
  generalize g.sn = fsn at *
  generalize g.sc = fsc at *
  generalize a.op = ao at *
  generalize a.nmB = an at *
  generalize a.sn = asn at *
  generalize a.sc = asc at *
  generalize r.op = ro at *
  generalize r.nmB = rn at *
  generalize r.sn = rsn at *
  generalize r.sc = rsc at *
  refine fn_det Tryd.E0 Tryd.mx Tryd.func13 (by kernel_rfl) rfl (Nat.le_of_ble_eq_true rfl) rfl fun hcl hbl => ?_
  (repeat' ((conv => whnf); (first | (refine IfN.id ?_; first | refine IfN.ff rfl ?_ | fail) | refine DrawN.mk' [] ?_ | fail))); all_goals (conv => whnf)
  refine LoopN.rounds Tryd.E0 Tryd.mx 2 (by simp) ?_
  (repeat' ((conv => whnf); (first | refine DrawN.mk' [2] ?_ | (refine IfN.id ?_; first | refine IfN.tt rfl ?_ | refine IfN.ff rfl ?_ | fail) | (refine EqN.id ?_; first | (refine EqN.addN _ _ (by first | with_reducible rfl | with_reducible exact cst1 | with_reducible exact cst0 | with_reducible exact cst2 | with_reducible exact cst3 | with_reducible exact cst4 | with_reducible exact cst5 | with_reducible exact cst6 | with_reducible exact cst7 | with_reducible exact cst8 | with_reducible exact cst14 | with_reducible exact cst15 | with_reducible exact cst25 | with_reducible exact cst30 | with_reducible exact cst31 | fail) (by first | with_reducible rfl | with_reducible exact cst1 | with_reducible exact cst0 | with_reducible exact cst2 | with_reducible exact cst3 | with_reducible exact cst4 | with_reducible exact cst5 | with_reducible exact cst6 | with_reducible exact cst7 | with_reducible exact cst8 | with_reducible exact cst14 | with_reducible exact cst15 | with_reducible exact cst25 | with_reducible exact cst30 | with_reducible exact cst31 | fail) ?_ ?_; · (repeat' (first | omega | refine And.intro ?_ ?_ | exact bnd_andl (by omega) | exact bnd_andr (by omega) | refine bnd_or ?_ ?_ | refine bnd_or31 ?_ ?_ | refine bnd_xor ?_ ?_ | refine bnd_xor31 ?_ ?_ | refine bnd_shr ?_ | refine bnd_shl ?_ ?_ | refine bnd_mod ?_ | refine bnd_andl ?_ | fail))) | fail) | (refine SideN.mk ?_ ?_; · first | kernel_rfl | omega | exact List.cons_ne_nil _ _ | (simp; done) | (simp; omega) | exact trivial | assumption | fail) | (refine CallD.id ?_; first | refine CallD.det _ (fun _ hq X => ih _) ?_ | fail) | refine OrN.l ?_ | refine SideN.mk ⟨Nat.le_of_ble_eq_true rfl, rfl, rfl, by dsimp only; omega, by simp only [maxLen]; omega⟩ ?_ | refine SegN.mk _ (seg_rfl rfl) ?_ | refine DrawN.mk' [] ?_ | fail))); all_goals (conv => whnf)
  exact EndN.detF (u' := .agg [.int .u8 (3 : Nat), .str .empty, .nils, .sl none (0 + 1) ([] ++ [.int .u8 ro, .str rn, .sl none 0 [], .sl none rsn rsc])]) (by simp [below, belowL, hrb]) (Frz.agg (FrzL.cons (Frz.refl _) (FrzL.cons (Frz.refl _) (FrzL.cons (Frz.refl _) (FrzL.cons (Frz.sl (FrzL.refl _)) FrzL.nil))))) (wk_agg ⟨Wk.refl _, Wk.refl _, wk_nils, Wk.refl _, trivial⟩)
theorem put_f2_4 (a b : Fm) (k : UInt8) (g : Fm) (ih : ∀ H, VDet Tryd.prog 13 [.agg a.cells, .str (nm k), .agg g.cells] H (.agg (putF k g a).cells)) (ih2 : ∀ H, VDet Tryd.prog 13 [.agg b.cells, .str (nm k), .agg g.cells] H (.agg (putF k g b).cells)) (H : Heap) : VDet Tryd.prog 13 [.agg (Fm.f2 4 a b).cells, .str (nm k), .agg g.cells] H (.agg (putF k g (.f2 4 a b)).cells) := by
  have hgb := fun n => g.sc_below n
  have hgc : g.cells = [.int .u8 g.op, .str g.nmB, .sl none 0 [], .sl none g.sn g.sc] := rfl
  have hab := fun n => a.sc_below n
  have hbb := fun n => b.sc_below n
  unfold putF
  generalize putF k g a = r at *
  generalize putF k g b = q at *
  have hrb := fun n => r.sc_below n
  have hqb := fun n => q.sc_below n
  have hrc : r.cells = [.int .u8 r.op, .str r.nmB, .sl none 0 [], .sl none r.sn r.sc] := rfl
  have hqc : q.cells = [.int .u8 q.op, .str q.nmB, .sl none 0 [], .sl none q.sn q.sc] := rfl
  rw [show (Fm.f2 4 a b).cells = [.int .u8 (4 : Nat), .str .empty, .sl none 0 [], .sl none 2 [.int .u8 a.op, .str a.nmB, .sl none 0 [], .sl none a.sn a.sc, .int .u8 b.op, .str b.nmB, .sl none 0 [], .sl none b.sn b.sc]] from rfl, show (Fm.f2 4 r q).cells = [.int .u8 (4 : Nat), .str .empty, .sl none 0 [], .sl none 2 [.int .u8 r.op, .str r.nmB, .sl none 0 [], .sl none r.sn r.sc, .int .u8 q.op, .str q.nmB, .sl none 0 [], .sl none q.sn q.sc]] from rfl]
  rw [hgc] at ih ih2 ⊢
  rw [hrc] at ih
  rw [hqc] at ih2
  unfold Fm.cells at ih ih2
  generalize nm k = sk at *
  generalize g.op = fo at *
  generalize g.nmB = fn at *
  generalize g.sn = fsn at *
  generalize g.sc = fsc at *
  generalize a.op = ao at *
  generalize a.nmB = an at *
  generalize a.sn = asn at *
  generalize a.sc = asc at *
  generalize r.op = ro at *
  generalize r.nmB = rn at *
  generalize r.sn = rsn at *
  generalize r.sc = rsc at *
  generalize b.op = bo at *
  generalize b.nmB = bn at *
  generalize b.sn = bsn at *
  generalize b.sc = bsc at *
  generalize q.op = qo at *
  generalize q.nmB = qn at *
  generalize q.sn = qsn at *
  generalize q.sc = qsc at *
  refine fn_det Tryd.E0 Tryd.mx Tryd.func13 (by kernel_rfl) rfl (Nat.le_of_ble_eq_true rfl) rfl fun hcl hbl => ?_
  (repeat' ((conv => whnf); (first | (refine IfN.id ?_; first | refine IfN.ff rfl ?_ | fail) | refine DrawN.mk' [] ?_ | fail))); all_goals (conv => whnf)
  refine LoopN.rounds Tryd.E0 Tryd.mx 3 (by simp) ?_
  (repeat' ((conv => whnf); (first | refine DrawN.mk' [2] ?_ | (refine IfN.id ?_; first | refine IfN.tt rfl ?_ | refine IfN.ff rfl ?_ | fail) | (refine EqN.id ?_; first | (refine EqN.addN _ _ (by first | with_reducible rfl | with_reducible exact cst1 | with_reducible exact cst0 | with_reducible exact cst2 | with_reducible exact cst3 | with_reducible exact cst4 | with_reducible exact cst5 | with_reducible exact cst6 | with_reducible exact cst7 | with_reducible exact cst8 | with_reducible exact cst14 | with_reducible exact cst15 | with_reducible exact cst25 | with_reducible exact cst30 | with_reducible exact cst31 | fail) (by first | with_reducible rfl | with_reducible exact cst1 | with_reducible exact cst0 | with_reducible exact cst2 | with_reducible exact cst3 | with_reducible exact cst4 | with_reducible exact cst5 | with_reducible exact cst6 | with_reducible exact cst7 | with_reducible exact cst8 | with_reducible exact cst14 | with_reducible exact cst15 | with_reducible exact cst25 | with_reducible exact cst30 | with_reducible exact cst31 | fail) ?_ ?_; · (repeat' (first | omega | refine And.intro ?_ ?_ | exact bnd_andl (by omega) | exact bnd_andr (by omega) | refine bnd_or ?_ ?_ | refine bnd_or31 ?_ ?_ | refine bnd_xor ?_ ?_ | refine bnd_xor31 ?_ ?_ | refine bnd_shr ?_ | refine bnd_shl ?_ ?_ | refine bnd_mod ?_ | refine bnd_andl ?_ | fail))) | fail) | (refine SideN.mk ?_ ?_; · first | kernel_rfl | omega | exact List.cons_ne_nil _ _ | (simp; done) | (simp; omega) | exact trivial | assumption | fail) | (refine CallD.id ?_; first | refine CallD.det _ (fun _ hq X => ih _) ?_ | refine CallD.det _ (fun _ hq X => ih2 _) ?_ | fail) | refine OrN.l ?_ | refine SideN.mk ⟨rfl, rfl, rfl, by dsimp only; omega, by simp only [maxLen]; omega⟩ ?_ | refine SideN.mk ⟨Nat.le_of_ble_eq_true rfl, rfl, rfl, by dsimp only; omega, by simp only [maxLen]; omega⟩ ?_ | (refine PtrN.id ?_; first | refine PtrN.loc _ rfl ?_ | fail) | refine SegN.mk _ (seg_rfl rfl) ?_ | refine DrawN.mk' [] ?_ | fail))); all_goals (conv => whnf)
  exact EndN.detF (u' := .agg [.int .u8 (4 : Nat), .str .empty, .nils, .sl none (0 + 1 + 1) ([] ++ [.int .u8 ro, .str rn, .sl none 0 [], .sl none rsn rsc] ++ [.int .u8 qo, .str qn, .sl none 0 [], .sl none qsn qsc])]) (by simp [below, belowL, hrb, hqb]) (Frz.agg (FrzL.cons (Frz.refl _) (FrzL.cons (Frz.refl _) (FrzL.cons (Frz.refl _) (FrzL.cons (Frz.sl (FrzL.refl _)) FrzL.nil))))) (wk_agg ⟨Wk.refl _, Wk.refl _, wk_nils, Wk.refl _, trivial⟩)
theorem put_f2_5 (a b : Fm) (k : UInt8) (g : Fm) (ih : ∀ H, VDet Tryd.prog 13 [.agg a.cells, .str (nm k), .agg g.cells] H (.agg (putF k g a).cells)) (ih2 : ∀ H, VDet Tryd.prog 13 [.agg b.cells, .str (nm k), .agg g.cells] H (.agg (putF k g b).cells)) (H : Heap) : VDet Tryd.prog 13 [.agg (Fm.f2 5 a b).cells, .str (nm k), .agg g.cells] H (.agg (putF k g (.f2 5 a b)).cells) := by
  have hgb := fun n => g.sc_below n
  have hgc : g.cells = [.int .u8 g.op, .str g.nmB, .sl none 0 [], .sl none g.sn g.sc] := rfl
  have hab := fun n => a.sc_below n
  have hbb := fun n => b.sc_below n
  unfold putF
  generalize putF k g a = r at *
  generalize putF k g b = q at *
  have hrb := fun n => r.sc_below n
  have hqb := fun n => q.sc_below n
  have hrc : r.cells = [.int .u8 r.op, .str r.nmB, .sl none 0 [], .sl none r.sn r.sc] := rfl
  have hqc : q.cells = [.int .u8 q.op, .str q.nmB, .sl none 0 [], .sl none q.sn q.sc] := rfl
  rw [show (Fm.f2 5 a b).cells = [.int .u8 (5 : Nat), .str .empty, .sl none 0 [], .sl none 2 [.int .u8 a.op, .str a.nmB, .sl none 0 [], .sl none a.sn a.sc, .int .u8 b.op, .str b.nmB, .sl none 0 [], .sl none b.sn b.sc]] from rfl, show (Fm.f2 5 r q).cells = [.int .u8 (5 : Nat), .str .empty, .sl none 0 [], .sl none 2 [.int .u8 r.op, .str r.nmB, .sl none 0 [], .sl none r.sn r.sc, .int .u8 q.op, .str q.nmB, .sl none 0 [], .sl none q.sn q.sc]] from rfl]
  rw [hgc] at ih ih2 ⊢
  rw [hrc] at ih
  rw [hqc] at ih2
  unfold Fm.cells at ih ih2
  generalize nm k = sk at *
  generalize g.op = fo at *
  generalize g.nmB = fn at *
  generalize g.sn = fsn at *
  generalize g.sc = fsc at *
  generalize a.op = ao at *
  generalize a.nmB = an at *
  generalize a.sn = asn at *
  generalize a.sc = asc at *
  generalize r.op = ro at *
  generalize r.nmB = rn at *
  generalize r.sn = rsn at *
  generalize r.sc = rsc at *
  generalize b.op = bo at *
  generalize b.nmB = bn at *
  generalize b.sn = bsn at *
  generalize b.sc = bsc at *
  generalize q.op = qo at *
  generalize q.nmB = qn at *
  generalize q.sn = qsn at *
  generalize q.sc = qsc at *
  refine fn_det Tryd.E0 Tryd.mx Tryd.func13 (by kernel_rfl) rfl (Nat.le_of_ble_eq_true rfl) rfl fun hcl hbl => ?_
  (repeat' ((conv => whnf); (first | (refine IfN.id ?_; first | refine IfN.ff rfl ?_ | fail) | refine DrawN.mk' [] ?_ | fail))); all_goals (conv => whnf)
  refine LoopN.rounds Tryd.E0 Tryd.mx 3 (by simp) ?_
  (repeat' ((conv => whnf); (first | refine DrawN.mk' [2] ?_ | (refine IfN.id ?_; first | refine IfN.tt rfl ?_ | refine IfN.ff rfl ?_ | fail) | (refine EqN.id ?_; first | (refine EqN.addN _ _ (by first | with_reducible rfl | with_reducible exact cst1 | with_reducible exact cst0 | with_reducible exact cst2 | with_reducible exact cst3 | with_reducible exact cst4 | with_reducible exact cst5 | with_reducible exact cst6 | with_reducible exact cst7 | with_reducible exact cst8 | with_reducible exact cst14 | with_reducible exact cst15 | with_reducible exact cst25 | with_reducible exact cst30 | with_reducible exact cst31 | fail) (by first | with_reducible rfl | with_reducible exact cst1 | with_reducible exact cst0 | with_reducible exact cst2 | with_reducible exact cst3 | with_reducible exact cst4 | with_reducible exact cst5 | with_reducible exact cst6 | with_reducible exact cst7 | with_reducible exact cst8 | with_reducible exact cst14 | with_reducible exact cst15 | with_reducible exact cst25 | with_reducible exact cst30 | with_reducible exact cst31 | fail) ?_ ?_; · (repeat' (first | omega | refine And.intro ?_ ?_ | exact bnd_andl (by omega) | exact bnd_andr (by omega) | refine bnd_or ?_ ?_ | refine bnd_or31 ?_ ?_ | refine bnd_xor ?_ ?_ | refine bnd_xor31 ?_ ?_ | refine bnd_shr ?_ | refine bnd_shl ?_ ?_ | refine bnd_mod ?_ | refine bnd_andl ?_ | fail))) | fail) | (refine SideN.mk ?_ ?_; · first | kernel_rfl | omega | exact List.cons_ne_nil _ _ | (simp; done) | (simp; omega) | exact trivial | assumption | fail) | (refine CallD.id ?_; first | refine CallD.det _ (fun _ hq X => ih _) ?_ | refine CallD.det _ (fun _ hq X => ih2 _) ?_ | fail) | refine OrN.l ?_ | refine SideN.mk ⟨rfl, rfl, rfl, by dsimp only; omega, by simp only [maxLen]; omega⟩ ?_ | refine SideN.mk ⟨Nat.le_of_ble_eq_true rfl, rfl, rfl, by dsimp only; omega, by simp only [maxLen]; omega⟩ ?_ | (refine PtrN.id ?_; first | refine PtrN.loc _ rfl ?_ | fail) | refine SegN.mk _ (seg_rfl rfl) ?_ | refine DrawN.mk' [] ?_ | fail))); all_goals (conv => whnf)
  exact EndN.detF (u' := .agg [.int .u8 (5 : Nat), .str .empty, .nils, .sl none (0 + 1 + 1) ([] ++ [.int .u8 ro, .str rn, .sl none 0 [], .sl none rsn rsc] ++ [.int .u8 qo, .str qn, .sl none 0 [], .sl none qsn qsc])]) (by simp [below, belowL, hrb, hqb]) (Frz.agg (FrzL.cons (Frz.refl _) (FrzL.cons (Frz.refl _) (FrzL.cons (Frz.refl _) (FrzL.cons (Frz.sl (FrzL.refl _)) FrzL.nil))))) (wk_agg ⟨Wk.refl _, Wk.refl _, wk_nils, Wk.refl _, trivial⟩)
theorem put_f2_6 (a b : Fm) (k : UInt8) (g : Fm) (ih : ∀ H, VDet Tryd.prog 13 [.agg a.cells, .str (nm k), .agg g.cells] H (.agg (putF k g a).cells)) (ih2 : ∀ H, VDet Tryd.prog 13 [.agg b.cells, .str (nm k), .agg g.cells] H (.agg (putF k g b).cells)) (H : Heap) : VDet Tryd.prog 13 [.agg (Fm.f2 6 a b).cells, .str (nm k), .agg g.cells] H (.agg (putF k g (.f2 6 a b)).cells) := by
  have hgb := fun n => g.sc_below n
  have hgc : g.cells = [.int .u8 g.op, .str g.nmB, .sl none 0 [], .sl none g.sn g.sc] := rfl
  have hab := fun n => a.sc_below n
  have hbb := fun n => b.sc_below n
  unfold putF
  generalize putF k g a = r at *
  generalize putF k g b = q at *
  have hrb := fun n => r.sc_below n
  have hqb := fun n => q.sc_below n
  have hrc : r.cells = [.int .u8 r.op, .str r.nmB, .sl none 0 [], .sl none r.sn r.sc] := rfl
  have hqc : q.cells = [.int .u8 q.op, .str q.nmB, .sl none 0 [], .sl none q.sn q.sc] := rfl
  rw [show (Fm.f2 6 a b).cells = [.int .u8 (6 : Nat), .str .empty, .sl none 0 [], .sl none 2 [.int .u8 a.op, .str a.nmB, .sl none 0 [], .sl none a.sn a.sc, .int .u8 b.op, .str b.nmB, .sl none 0 [], .sl none b.sn b.sc]] from rfl, show (Fm.f2 6 r q).cells = [.int .u8 (6 : Nat), .str .empty, .sl none 0 [], .sl none 2 [.int .u8 r.op, .str r.nmB, .sl none 0 [], .sl none r.sn r.sc, .int .u8 q.op, .str q.nmB, .sl none 0 [], .sl none q.sn q.sc]] from rfl]
  rw [hgc] at ih ih2 ⊢
  rw [hrc] at ih
  rw [hqc] at ih2
  unfold Fm.cells at ih ih2
  generalize nm k = sk at *
  generalize g.op = fo at *
  generalize g.nmB = fn at *
  generalize g.sn = fsn at *
  generalize g.sc = fsc at *
  generalize a.op = ao at *
  generalize a.nmB = an at *
  generalize a.sn = asn at *
  generalize a.sc = asc at *
  generalize r.op = ro at *
  generalize r.nmB = rn at *
  generalize r.sn = rsn at *
  generalize r.sc = rsc at *
  generalize b.op = bo at *
  generalize b.nmB = bn at *
  generalize b.sn = bsn at *
  generalize b.sc = bsc at *
  generalize q.op = qo at *
  generalize q.nmB = qn at *
  generalize q.sn = qsn at *
  generalize q.sc = qsc at *
  refine fn_det Tryd.E0 Tryd.mx Tryd.func13 (by kernel_rfl) rfl (Nat.le_of_ble_eq_true rfl) rfl fun hcl hbl => ?_
  (repeat' ((conv => whnf); (first | (refine IfN.id ?_; first | refine IfN.ff rfl ?_ | fail) | refine DrawN.mk' [] ?_ | fail))); all_goals (conv => whnf)
  refine LoopN.rounds Tryd.E0 Tryd.mx 3 (by simp) ?_
  (repeat' ((conv => whnf); (first | refine DrawN.mk' [2] ?_ | (refine IfN.id ?_; first | refine IfN.tt rfl ?_ | refine IfN.ff rfl ?_ | fail) | (refine EqN.id ?_; first | (refine EqN.addN _ _ (by first | with_reducible rfl | with_reducible exact cst1 | with_reducible exact cst0 | with_reducible exact cst2 | with_reducible exact cst3 | with_reducible exact cst4 | with_reducible exact cst5 | with_reducible exact cst6 | with_reducible exact cst7 | with_reducible exact cst8 | with_reducible exact cst14 | with_reducible exact cst15 | with_reducible exact cst25 | with_reducible exact cst30 | with_reducible exact cst31 | fail) (by first | with_reducible rfl | with_reducible exact cst1 | with_reducible exact cst0 | with_reducible exact cst2 | with_reducible exact cst3 | with_reducible exact cst4 | with_reducible exact cst5 | with_reducible exact cst6 | with_reducible exact cst7 | with_reducible exact cst8 | with_reducible exact cst14 | with_reducible exact cst15 | with_reducible exact cst25 | with_reducible exact cst30 | with_reducible exact cst31 | fail) ?_ ?_; · (repeat' (first | omega | refine And.intro ?_ ?_ | exact bnd_andl (by omega) | exact bnd_andr (by omega) | refine bnd_or ?_ ?_ | refine bnd_or31 ?_ ?_ | refine bnd_xor ?_ ?_ | refine bnd_xor31 ?_ ?_ | refine bnd_shr ?_ | refine bnd_shl ?_ ?_ | refine bnd_mod ?_ | refine bnd_andl ?_ | fail))) | fail) | (refine SideN.mk ?_ ?_; · first | kernel_rfl | omega | exact List.cons_ne_nil _ _ | (simp; done) | (simp; omega) | exact trivial | assumption | fail) | (refine CallD.id ?_; first | refine CallD.det _ (fun _ hq X => ih _) ?_ | refine CallD.det _ (fun _ hq X => ih2 _) ?_ | fail) | refine OrN.l ?_ | refine SideN.mk ⟨rfl, rfl, rfl, by dsimp only; omega, by simp only [maxLen]; omega⟩ ?_ | refine SideN.mk ⟨Nat.le_of_ble_eq_true rfl, rfl, rfl, by dsimp only; omega, by simp only [maxLen]; omega⟩ ?_ | (refine PtrN.id ?_; first | refine PtrN.loc _ rfl ?_ | fail) | refine SegN.mk _ (seg_rfl rfl) ?_ | refine DrawN.mk' [] ?_ | fail))); all_goals (conv => whnf)
  exact EndN.detF (u' := .agg [.int .u8 (6 : Nat), .str .empty, .nils, .sl none (0 + 1 + 1) ([] ++ [.int .u8 ro, .str rn, .sl none 0 [], .sl none rsn rsc] ++ [.int .u8 qo, .str qn, .sl none 0 [], .sl none qsn qsc])]) (by simp [below, belowL, hrb, hqb]) (Frz.agg (FrzL.cons (Frz.refl _) (FrzL.cons (Frz.refl _) (FrzL.cons (Frz.refl _) (FrzL.cons (Frz.sl (FrzL.refl _)) FrzL.nil))))) (wk_agg ⟨Wk.refl _, Wk.refl _, wk_nils, Wk.refl _, trivial⟩)
theorem put_f2_7 (a b : Fm) (k : UInt8) (g : Fm) (ih : ∀ H, VDet Tryd.prog 13 [.agg a.cells, .str (nm k), .agg g.cells] H (.agg (putF k g a).cells)) (ih2 : ∀ H, VDet Tryd.prog 13 [.agg b.cells, .str (nm k), .agg g.cells] H (.agg (putF k g b).cells)) (H : Heap) : VDet Tryd.prog 13 [.agg (Fm.f2 7 a b).cells, .str (nm k), .agg g.cells] H (.agg (putF k g (.f2 7 a b)).cells) := by
  have hgb := fun n => g.sc_below n
  have hgc : g.cells = [.int .u8 g.op, .str g.nmB, .sl none 0 [], .sl none g.sn g.sc] := rfl
  have hab := fun n => a.sc_below n
  have hbb := fun n => b.sc_below n
  unfold putF
  generalize putF k g a = r at *
  generalize putF k g b = q at *
  have hrb := fun n => r.sc_below n
  have hqb := fun n => q.sc_below n
  have hrc : r.cells = [.int .u8 r.op, .str r.nmB, .sl none 0 [], .sl none r.sn r.sc] := rfl
  have hqc : q.cells = [.int .u8 q.op, .str q.nmB, .sl none 0 [], .sl none q.sn q.sc] := rfl
  rw [show (Fm.f2 7 a b).cells = [.int .u8 (7 : Nat), .str .empty, .sl none 0 [], .sl none 2 [.int .u8 a.op, .str a.nmB, .sl none 0 [], .sl none a.sn a.sc, .int .u8 b.op, .str b.nmB, .sl none 0 [], .sl none b.sn b.sc]] from rfl, show (Fm.f2 7 r q).cells = [.int .u8 (7 : Nat), .str .empty, .sl none 0 [], .sl none 2 [.int .u8 r.op, .str r.nmB, .sl none 0 [], .sl none r.sn r.sc, .int .u8 q.op, .str q.nmB, .sl none 0 [], .sl none q.sn q.sc]] from rfl]
  rw [hgc] at ih ih2 ⊢
  rw [hrc] at ih
  rw [hqc] at ih2
  unfold Fm.cells at ih ih2
  generalize nm k = sk at *
  generalize g.op = fo at *
  generalize g.nmB = fn at *
  generalize g.sn = fsn at *
  generalize g.sc = fsc at *
  generalize a.op = ao at *
  generalize a.nmB = an at *
  generalize a.sn = asn at *
  generalize a.sc = asc at *
  generalize r.op = ro at *
  generalize r.nmB = rn at *
  generalize r.sn = rsn at *
  generalize r.sc = rsc at *
  generalize b.op = bo at *
  generalize b.nmB = bn at *
  generalize b.sn = bsn at *
  generalize b.sc = bsc at *
  generalize q.op = qo at *
  generalize q.nmB = qn at *
  generalize q.sn = qsn at *
  generalize q.sc = qsc at *
  refine fn_det Tryd.E0 Tryd.mx Tryd.func13 (by kernel_rfl) rfl (Nat.le_of_ble_eq_true rfl) rfl fun hcl hbl => ?_
  (repeat' ((conv => whnf); (first | (refine IfN.id ?_; first | refine IfN.ff rfl ?_ | fail) | refine DrawN.mk' [] ?_ | fail))); all_goals (conv => whnf)
  refine LoopN.rounds Tryd.E0 Tryd.mx 3 (by simp) ?_
  (repeat' ((conv => whnf); (first | refine DrawN.mk' [2] ?_ | (refine IfN.id ?_; first | refine IfN.tt rfl ?_ | refine IfN.ff rfl ?_ | fail) | (refine EqN.id ?_; first | (refine EqN.addN _ _ (by first | with_reducible rfl | with_reducible exact cst1 | with_reducible exact cst0 | with_reducible exact cst2 | with_reducible exact cst3 | with_reducible exact cst4 | with_reducible exact cst5 | with_reducible exact cst6 | with_reducible exact cst7 | with_reducible exact cst8 | with_reducible exact cst14 | with_reducible exact cst15 | with_reducible exact cst25 | with_reducible exact cst30 | with_reducible exact cst31 | fail) (by first | with_reducible rfl | with_reducible exact cst1 | with_reducible exact cst0 | with_reducible exact cst2 | with_reducible exact cst3 | with_reducible exact cst4 | with_reducible exact cst5 | with_reducible exact cst6 | with_reducible exact cst7 | with_reducible exact cst8 | with_reducible exact cst14 | with_reducible exact cst15 | with_reducible exact cst25 | with_reducible exact cst30 | with_reducible exact cst31 | fail) ?_ ?_; · (repeat' (first | omega | refine And.intro ?_ ?_ | exact bnd_andl (by omega) | exact bnd_andr (by omega) | refine bnd_or ?_ ?_ | refine bnd_or31 ?_ ?_ | refine bnd_xor ?_ ?_ | refine bnd_xor31 ?_ ?_ | refine bnd_shr ?_ | refine bnd_shl ?_ ?_ | refine bnd_mod ?_ | refine bnd_andl ?_ | fail))) | fail) | (refine SideN.mk ?_ ?_; · first | kernel_rfl | omega | exact List.cons_ne_nil _ _ | (simp; done) | (simp; omega) | exact trivial | assumption | fail) | (refine CallD.id ?_; first | refine CallD.det _ (fun _ hq X => ih _) ?_ | refine CallD.det _ (fun _ hq X => ih2 _) ?_ | fail) | refine OrN.l ?_ | refine SideN.mk ⟨rfl, rfl, rfl, by dsimp only; omega, by simp only [maxLen]; omega⟩ ?_ | refine SideN.mk ⟨Nat.le_of_ble_eq_true rfl, rfl, rfl, by dsimp only; omega, by simp only [maxLen]; omega⟩ ?_ | (refine PtrN.id ?_; first | refine PtrN.loc _ rfl ?_ | fail) | refine SegN.mk _ (seg_rfl rfl) ?_ | refine DrawN.mk' [] ?_ | fail))); all_goals (conv => whnf)
  exact EndN.detF (u' := .agg [.int .u8 (7 : Nat), .str .empty, .nils, .sl none (0 + 1 + 1) ([] ++ [.int .u8 ro, .str rn, .sl none 0 [], .sl none rsn rsc] ++ [.int .u8 qo, .str qn, .sl none 0 [], .sl none qsn qsc])]) (by simp [below, belowL, hrb, hqb]) (Frz.agg (FrzL.cons (Frz.refl _) (FrzL.cons (Frz.refl _) (FrzL.cons (Frz.refl _) (FrzL.cons (Frz.sl (FrzL.refl _)) FrzL.nil))))) (wk_agg ⟨Wk.refl _, Wk.refl _, wk_nils, Wk.refl _, trivial⟩)
theorem put_c (k : UInt8) (g : Fm) : ∀ f : Fm, f.Pr → ∀ H, VDet Tryd.prog 13 [.agg f.cells, .str (nm k), .agg g.cells] H (.agg (putF k g f).cells)
  | .at c, _ => put_at c k g
  | .fa, _ => put_fa k g
  | .f1 o a, h => put_f1 o h.1 a k g (put_c k g a h.2)
  | .f2 o a b, h => by
    rcases h.1 with rfl | rfl | rfl | rfl
    · exact put_f2_4 a b k g (put_c k g a h.2.1) (put_c k g b h.2.2)
    · exact put_f2_5 a b k g (put_c k g a h.2.1) (put_c k g b h.2.2)
    · exact put_f2_6 a b k g (put_c k g a h.2.1) (put_c k g b h.2.2)
    · exact put_f2_7 a b k g (put_c k g a h.2.1) (put_c k g b h.2.2)
end Go.Proofs.YtekhodpmpjehaaaDoor
/-! text RS10 -/
namespace Go.Proofs.YtekhodpmpjehaaaDoor
open Go.Vsi
set_option maxHeartbeats 1000000
attribute [local irreducible] VW VCall VO bits

/-! ### an atom that is not among the names -/
theorem named_none (f : Fm) (hf : f.Good) (l : List UInt8) (hl : NmOk l) (h12 : l.length ≤ 12) (hin : ¬ f.In l) (v : Nat) (hv : v < 2 ^ l.length) (H : Heap) : VDet Tryd.prog 37 [.agg f.cells, .sl none l.length (l.flatMap encS), .int .i64 v] H (.tup [.nilp, .int .i64 6]) := by
  have h1 := right_c f hf.ok hf.small hf.pr
  have h2 := isNames_c l hl
  have h3 := atoms_c [f] (fun g hg => by rw [List.mem_singleton.1 hg]; exact hf.pr) (by have := hf.small.1; simp only [nodesL]; omega) (by simp)
  have hcon : ∀ c, ∀ H, VDet Tryd.prog 48 [.sl none l.length (l.flatMap encS), .str (nm c)] H (.bool (decide (c ∈ l))) := fun c H => contains_c l c (by omega) H
  have hall : ¬ ∀ j, j < (namesL [f]).length → (namesL [f]).getD j 0 ∈ l := fun h => hin ((in_iff l f).2 fun c hc => by
    obtain ⟨j, hj, e⟩ := mem_getD (namesL [f]) c ((mem_namesL c [f]).2 ⟨f, List.mem_singleton_self _, hc⟩)
    exact e ▸ h j hj)
  have hok : NmOk (namesL [f]) := namesL_ok [f] fun g hg => by rw [List.mem_singleton.1 hg]; exact hf.ok
  have hfb : ∀ n, belowL n f.cells := fun n => by simp [Fm.cells, below, belowL, Fm.sc_below]
  rw [show [f].flatMap Fm.cells = f.cells by simp] at h3
  have hfc : f.cells = [.int .u8 f.op, .str f.nmB, .sl none 0 [], .sl none f.sn f.sc] := rfl
  generalize namesL [f] = ns at *
  rw [hfc] at h1 h3 ⊢
  have hns := hok.len
  have h3 : ∀ H, VDet Tryd.prog 18 [.sx 1 [.int .u8 f.op, .str f.nmB, .sl none 0 [], .sl none f.sn f.sc]] H (.sl none ns.length (ns.flatMap encS)) := fun H => VDet.wk (h3 H) ⟨wk_sx _ _, trivial⟩
  have h2l := two_le l h12
  generalize f.op = fo at *
  generalize f.nmB = fn at *
  generalize f.sn = fsn at *
  generalize f.sc = fsc at *
  refine fn_det Tryd.E0 Tryd.mx Tryd.func37 (by kernel_rfl) rfl (Nat.le_of_ble_eq_true rfl) rfl fun hcl hbl => ?_
  (repeat' ((conv => whnf); (first | (refine IfN.id ?_; first | refine IfN.not ?_ | refine IfN.tt rfl ?_ | refine IfN.ff rfl ?_ | refine IfN.dF (by omega) ?_ | fail) | (refine EqN.id ?_; first | refine EqN.two _ (by omega) ?_ | fail) | (refine SideN.mk ?_ ?_; · first | kernel_rfl | omega | exact List.cons_ne_nil _ _ | (simp; done) | (simp; omega) | exact trivial | assumption | fail) | (refine CallN.id ?_; first | refine CallN.det _ (h1 _) ?_ | refine CallN.det _ (h2 _) ?_ | refine CallN.det _ (h3 _) ?_ | fail) | refine DrawN.mk' [] ?_ | fail))); all_goals (conv => whnf)
  refine loop_R Tryd.E0 Tryd.mx (σ := Nat) (fun j => j ≤ ns.length ∧ ∀ i, i < j → ns.getD i 0 ∈ l) (fun j => ns.length - j) (fun j => [(36, .v (.int .i64 j))]) (fun j => _) _ 0 rfl hcl [1, 34, 35] rfl ⟨Nat.zero_le _, fun i hi => by omega⟩ ⟨⟨_, rfl, Wk.refl _⟩, trivial⟩ rfl (fun _ _ => rfl) ?_
  rintro j ⟨hj, hjall⟩
  clear hbl
  by_cases hlt : j < ns.length
  · by_cases hm : ns.getD j 0 ∈ l
    · have hcj := hcon (ns.getD j 0)
      rw [decide_eq_true hm] at hcj
      (repeat' ((conv => whnf); (first | (refine IfN.id ?_; first | refine IfN.not ?_ | refine IfN.tt rfl ?_ | refine IfN.dT (by omega) ?_ | fail) | (refine EqN.id ?_; first | (refine EqN.addN _ _ (by first | with_reducible rfl | with_reducible exact cst1 | with_reducible exact cst0 | with_reducible exact cst2 | with_reducible exact cst3 | with_reducible exact cst4 | with_reducible exact cst5 | with_reducible exact cst6 | with_reducible exact cst7 | with_reducible exact cst8 | with_reducible exact cst14 | with_reducible exact cst15 | with_reducible exact cst25 | with_reducible exact cst30 | with_reducible exact cst31 | fail) (by first | with_reducible rfl | with_reducible exact cst1 | with_reducible exact cst0 | with_reducible exact cst2 | with_reducible exact cst3 | with_reducible exact cst4 | with_reducible exact cst5 | with_reducible exact cst6 | with_reducible exact cst7 | with_reducible exact cst8 | with_reducible exact cst14 | with_reducible exact cst15 | with_reducible exact cst25 | with_reducible exact cst30 | with_reducible exact cst31 | fail) ?_ ?_; · (repeat' (first | omega | refine And.intro ?_ ?_ | exact bnd_andl (by omega) | exact bnd_andr (by omega) | refine bnd_or ?_ ?_ | refine bnd_or31 ?_ ?_ | refine bnd_xor ?_ ?_ | refine bnd_xor31 ?_ ?_ | refine bnd_shr ?_ | refine bnd_shl ?_ ?_ | refine bnd_mod ?_ | refine bnd_andl ?_ | fail))) | fail) | (refine SideN.mk ?_ ?_; · first | kernel_rfl | omega | exact List.cons_ne_nil _ _ | (simp; done) | (simp; omega) | exact trivial | assumption | fail) | (refine CallN.id ?_; first | refine CallN.det _ (hcj _) ?_ | fail) | refine SegN.nth 0 j rfl (by omega) (fun _ => rfl) ?_ | refine DrawN.mk' [] ?_ | fail))); all_goals (conv => whnf)
      (refine ⟨⟨j + 1, ⟨by omega, fun i hi => by
        by_cases e : i = j
        · subst e; exact hm
        · exact hjall i (by omega)⟩, by omega, ?_, .inl ⟨rfl, rfl⟩, rfl, _, rfl, ?_⟩⟩; rotate_left 1; (first | exact .inl rfl | exact .inr ⟨by simp [belowRE, below, belowL, tr, mpB_belowK, mpB_belowV, encS_below, ixV_below], by simp [belowH, Blk.below, belowL, below, mpB_belowK, mpB_belowV, encS_below, ixV_below]⟩ | fail); (repeat' (first | exact trivial | refine ⟨⟨_, rfl, ?_⟩, ?_⟩ | fail)); all_goals try (first | exact Wk.refl _ | exact Wk.of_eq (congrArg (AV.int _) (by omega)) | fail))
    · have hcj := hcon (ns.getD j 0)
      rw [decide_eq_false hm] at hcj
      (repeat' ((conv => whnf); (first | (refine IfN.id ?_; first | refine IfN.not ?_ | refine IfN.ff rfl ?_ | refine IfN.dT (by omega) ?_ | fail) | (refine SideN.mk ?_ ?_; · first | kernel_rfl | omega | exact List.cons_ne_nil _ _ | (simp; done) | (simp; omega) | exact trivial | assumption | fail) | (refine CallN.id ?_; first | refine CallN.det _ (hcj _) ?_ | fail) | refine SegN.nth 0 j rfl (by omega) (fun _ => rfl) ?_ | refine DrawN.mk' [] ?_ | fail))); all_goals (conv => whnf)
      exact EndN.det ⟨trivial, trivial, trivial⟩ (Wk.refl _)
  · exact absurd (fun i hi => hjall i (by omega)) hall
theorem eval_none (f : Fm) (hf : f.Good) (l : List UInt8) (hl : NmOk l) (h12 : l.length ≤ 12) (hin : ¬ f.In l) (v : Nat) (hv : v < 2 ^ l.length) (H : Heap) : VDet Tryd.prog 21 [.agg f.cells, .sl none l.length (l.flatMap encS), .int .i64 v] H (.tup [.bool false, .int .i64 6]) := by
  have h1 := named_none f hf l hl h12 hin v hv
  have hfc : f.cells = [.int .u8 f.op, .str f.nmB, .sl none 0 [], .sl none f.sn f.sc] := rfl
  rw [hfc] at h1 ⊢
  generalize f.op = fo at *
  generalize f.nmB = fn at *
  generalize f.sn = fsn at *
  generalize f.sc = fsc at *
  refine fn_det Tryd.E0 Tryd.mx Tryd.func21 (by kernel_rfl) rfl (Nat.le_of_ble_eq_true rfl) rfl fun hcl hbl => ?_
  (repeat' ((conv => whnf); (first | (refine IfN.id ?_; first | refine IfN.not ?_ | refine IfN.ff rfl ?_ | fail) | (refine CallN.id ?_; first | refine CallN.det _ (h1 _) ?_ | fail) | refine DrawN.mk' [] ?_ | fail))); all_goals (conv => whnf)
  exact EndN.det ⟨trivial, trivial, trivial⟩ (Wk.refl _)
end Go.Proofs.YtekhodpmpjehaaaDoor
/-! text RT10 -/
namespace Go.Proofs.YtekhodpmpjehaaaDoor
open Go.Vsi
set_option maxHeartbeats 4000000
attribute [local irreducible] VW VCall VO bits

/-! ### awake -/
def fP : Fm := .at 160
def fQ : Fm := .at 162
theorem capP : cap 160 := ⟨by decide, by decide⟩
theorem capQ : cap 162 := ⟨by decide, by decide⟩
theorem good_of {f : Fm} (h1 : f.Ok) (h2 : f.Pr) (h3 : f.nodes ≤ 40) : f.Good := ⟨h1, Fm.small_of h3, h2⟩
theorem gP : fP.Good := good_of capP trivial (by decide)
theorem gQ : fQ.Good := good_of capQ trivial (by decide)
theorem gNP : (Fm.f1 3 fP).Good := good_of ⟨.inl rfl, capP⟩ ⟨rfl, trivial⟩ (by decide)
theorem gImp : (Fm.f2 6 fP fQ).Good := good_of ⟨.inr (.inr (.inl rfl)), capP, capQ⟩ ⟨.inr (.inr (.inl rfl)), trivial, trivial⟩ (by decide)
theorem gOr : (Fm.f2 5 fP fQ).Good := good_of ⟨.inr (.inl rfl), capP, capQ⟩ ⟨.inr (.inl rfl), trivial, trivial⟩ (by decide)
theorem ok_of {l : List UInt8} (h1 : l.Pairwise (· < ·)) (h2 : ∀ c ∈ l, 130 ≤ c.toNat ∧ c.toNat ≤ 181) : NmOk l := nmok_of h1 h2
theorem atP (H : Heap) : VDet Tryd.prog 22 [.str ⟨#[80]⟩] H (.agg fP.cells) := by
  have := atom_c 160 H
  rwa [show nm 160 = ⟨#[80]⟩ by kernel_rfl] at this
theorem atQ (H : Heap) : VDet Tryd.prog 22 [.str ⟨#[81]⟩] H (.agg fQ.cells) := by
  have := atom_c 162 H
  rwa [show nm 162 = ⟨#[81]⟩ by kernel_rfl] at this
def sP : AV := .str ⟨#[80]⟩
theorem tabImp2 (H : Heap) : VDet Tryd.prog 19 [.agg (Fm.f2 6 fP fQ).cells, .sx 2 [.str ⟨#[80]⟩, .str ⟨#[81]⟩]] H (.tup [.sl none 4 [.bool true, .bool true, .bool false, .bool true], .int .i64 0]) := by
  have := table_c (.f2 6 fP fQ) gImp [160, 162] (ok_of (by decide) (by decide)) (by decide) ⟨show (160 : UInt8) ∈ [160, 162] by decide, show (162 : UInt8) ∈ [160, 162] by decide⟩ H
  rw [show ((List.range (2 ^ [(160 : UInt8), 162].length)).map fun v => AV.bool ((Fm.f2 6 fP fQ).ev (vb [160, 162] v))) = [.bool true, .bool true, .bool false, .bool true] by kernel_rfl] at this
  refine VDet.wk this ⟨Wk.refl _, wk_trans (wk_sx _ _) (Wk.of_eq ?_), trivial⟩
  kernel_rfl
theorem tabImp3 (H : Heap) : VDet Tryd.prog 19 [.agg (Fm.f2 6 fP fQ).cells, .sx 3 [.str ⟨#[65]⟩, .str ⟨#[80]⟩, .str ⟨#[81]⟩]] H (.tup [.sl none 8 [.bool true, .bool true, .bool false, .bool true, .bool true, .bool true, .bool false, .bool true], .int .i64 0]) := by
  have := table_c (.f2 6 fP fQ) gImp [130, 160, 162] (ok_of (by decide) (by decide)) (by decide) ⟨show (160 : UInt8) ∈ [130, 160, 162] by decide, show (162 : UInt8) ∈ [130, 160, 162] by decide⟩ H
  rw [show ((List.range (2 ^ [(130 : UInt8), 160, 162].length)).map fun v => AV.bool ((Fm.f2 6 fP fQ).ev (vb [130, 160, 162] v))) = [.bool true, .bool true, .bool false, .bool true, .bool true, .bool true, .bool false, .bool true] by kernel_rfl] at this
  refine VDet.wk this ⟨Wk.refl _, wk_trans (wk_sx _ _) (Wk.of_eq ?_), trivial⟩
  kernel_rfl
theorem evP2 (H : Heap) : VDet Tryd.prog 21 [.agg fP.cells, .sx 2 [.str ⟨#[80]⟩, .str ⟨#[81]⟩], .int .i64 2] H (.tup [.bool true, .int .i64 0]) := by
  have := eval_c fP gP [160, 162] (ok_of (by decide) (by decide)) (by decide) (show (160 : UInt8) ∈ [160, 162] by decide) 2 (by decide) H
  rw [show fP.ev (vb [160, 162] 2) = true by kernel_rfl] at this
  refine VDet.wk this ⟨Wk.refl _, wk_trans (wk_sx _ _) (Wk.of_eq ?_), Wk.refl _, trivial⟩
  kernel_rfl
theorem evPQ (H : Heap) : VDet Tryd.prog 21 [.agg fP.cells, .sx 1 [.str ⟨#[81]⟩], .int .i64 0] H (.tup [.bool false, .int .i64 6]) := by
  have := eval_none fP gP [162] (ok_of (by decide) (by decide)) (by decide) (show ¬ (160 : UInt8) ∈ [162] by decide) 0 (by decide) H
  refine VDet.wk this ⟨Wk.refl _, wk_trans (wk_sx _ _) (Wk.of_eq ?_), Wk.refl _, trivial⟩
  kernel_rfl
/-- the names of small formulas -/
theorem names_le {l : List Fm} {n : Nat} (h : nodesL l ≤ n) : (namesL l).length ≤ n := by
  have := addL_len l []
  have := (sortU_perm (addL [] l)).length_eq
  unfold namesL
  simp only [List.length_nil] at *
  omega
theorem namesPQ (l : List Fm) (h : (addL [] l).Perm [160, 162]) : namesL l = [160, 162] :=
  sorted_ext (sortU_lt (addL_nodup l List.nodup_nil)) (by decide) fun c => ((sortU_perm _).trans h).mem_iff
theorem cntImp (H : Heap) : VDet Tryd.prog 17 [.agg (Fm.f2 6 fP fQ).cells] H (.tup [.int .i64 3, .int .i64 4, .int .i64 0]) := by
  have e : namesL [Fm.f2 6 fP fQ] = [160, 162] := namesPQ _ (by decide)
  have := count_c (.f2 6 fP fQ) gImp (by rw [e]; decide) H
  rw [e, show cntS (2 ^ [(160 : UInt8), 162].length) (fun v => (Fm.f2 6 fP fQ).ev (vb [160, 162] v)) = 3 by kernel_rfl] at this
  exact this
theorem folOr (H : Heap) : VDet Tryd.prog 15 [.agg [.sx 2 ((Fm.f2 5 fP fQ).cells ++ (Fm.f1 3 fP).cells), .sx 1 fQ.cells]] H (.tup [.bool true, .int .i64 0]) := by
  have e : namesL ([Fm.f2 5 fP fQ, .f1 3 fP] ++ [fQ]) = [160, 162] := namesPQ _ (by decide)
  have := follows_c [.f2 5 fP fQ, .f1 3 fP] [fQ] (fun f hf => by
    simp only [List.cons_append, List.nil_append, List.mem_cons, List.not_mem_nil, or_false] at hf
    rcases hf with rfl | rfl | rfl
    · exact gOr
    · exact gNP
    · exact gQ) (by decide) (by decide) (by rw [e]; decide) H
  unfold falV falB at this
  rw [e, show ((List.range (2 ^ [(160 : UInt8), 162].length)).find? fun v => ([Fm.f2 5 fP fQ, .f1 3 fP].all fun f => f.ev (vb [160, 162] v)) && [fQ].all fun f => !f.ev (vb [160, 162] v)).isNone = true by kernel_rfl] at this
  refine VDet.wk this ⟨wk_agg ⟨wk_trans (wk_sx _ _) (Wk.of_eq ?_), wk_trans (wk_sx _ _) (Wk.of_eq ?_), trivial⟩, trivial⟩ <;> kernel_rfl
theorem falOr (H : Heap) : VDet Tryd.prog 20 [.agg [.sx 1 (Fm.f2 5 fP fQ).cells, .sx 1 fP.cells]] H (.tup [.int .i64 1, .bool true, .int .i64 0]) := by
  have e : namesL ([Fm.f2 5 fP fQ] ++ [fP]) = [160, 162] := namesPQ _ (by decide)
  have := falsify_c [.f2 5 fP fQ] [fP] (fun f hf => by
    simp only [List.cons_append, List.nil_append, List.mem_cons, List.not_mem_nil, or_false] at hf
    rcases hf with rfl | rfl
    · exact gOr
    · exact gP) (by decide) (by decide) (by rw [e]; decide) H
  unfold falV falB at this
  rw [e, show ((List.range (2 ^ [(160 : UInt8), 162].length)).find? fun v => ([Fm.f2 5 fP fQ].all fun f => f.ev (vb [160, 162] v)) && [fP].all fun f => !f.ev (vb [160, 162] v)) = some 1 by kernel_rfl] at this
  refine VDet.wk this ⟨wk_agg ⟨wk_trans (wk_sx _ _) (Wk.of_eq ?_), wk_trans (wk_sx _ _) (Wk.of_eq ?_), trivial⟩, trivial⟩ <;> kernel_rfl
theorem falNo (H : Heap) : VDet Tryd.prog 20 [.agg [.nils, .nils]] H (.tup [.int .i64 0, .bool true, .int .i64 0]) := by
  have := falsify_c [] [] (fun f hf => by simp at hf) (by decide) (by decide) (Nat.le_trans (names_le (n := 0) (by decide)) (by decide)) H
  rw [show falV [] [] = some 0 by kernel_rfl] at this
  exact VDet.wk this ⟨wk_agg ⟨wk_nils, wk_nils, trivial⟩, trivial⟩
theorem awake_c (H : Heap) : VDet Tryd.prog 10 [] H (.bool true) := by
  have t2 := tabImp2
  have t3 := tabImp3
  have e2 := evP2
  have e1 := evPQ
  have ci := cntImp
  have fo := folOr
  have fa := falOr
  have fn := falNo
  have j1 : ∀ H, VDet Tryd.prog 16 [.int .u8 6, .sx 2 (fP.cells ++ fQ.cells)] H (.agg (Fm.f2 6 fP fQ).cells) := fun H => VDet.wk (join2_c 6 fP fQ H) ⟨Wk.refl _, wk_sx _ _, trivial⟩
  have j2 : ∀ H, VDet Tryd.prog 16 [.int .u8 5, .sx 2 (fP.cells ++ fQ.cells)] H (.agg (Fm.f2 5 fP fQ).cells) := fun H => VDet.wk (join2_c 5 fP fQ H) ⟨Wk.refl _, wk_sx _ _, trivial⟩
  have j3 : ∀ H, VDet Tryd.prog 16 [.int .u8 3, .sx 1 fP.cells] H (.agg (Fm.f1 3 fP).cells) := fun H => VDet.wk (join1_c 3 fP H) ⟨Wk.refl _, wk_sx _ _, trivial⟩
  refine fn_det Tryd.E0 Tryd.mx Tryd.func10 (by kernel_rfl) rfl (Nat.le_of_ble_eq_true rfl) rfl fun hcl hbl => ?_
  (repeat' ((conv => whnf); (first | (refine IfN.id ?_; first | refine IfN.not ?_ | refine IfN.tt rfl ?_ | fail) | (refine EqN.id ?_; first | (refine EqN.addN _ _ (by first | with_reducible rfl | with_reducible exact cst1 | with_reducible exact cst0 | with_reducible exact cst2 | with_reducible exact cst3 | with_reducible exact cst4 | with_reducible exact cst5 | with_reducible exact cst6 | with_reducible exact cst7 | with_reducible exact cst8 | with_reducible exact cst14 | with_reducible exact cst15 | with_reducible exact cst25 | with_reducible exact cst30 | with_reducible exact cst31 | fail) (by first | with_reducible rfl | with_reducible exact cst1 | with_reducible exact cst0 | with_reducible exact cst2 | with_reducible exact cst3 | with_reducible exact cst4 | with_reducible exact cst5 | with_reducible exact cst6 | with_reducible exact cst7 | with_reducible exact cst8 | with_reducible exact cst14 | with_reducible exact cst15 | with_reducible exact cst25 | with_reducible exact cst30 | with_reducible exact cst31 | fail) ?_ ?_; · (repeat' (first | omega | refine And.intro ?_ ?_ | exact bnd_andl (by omega) | exact bnd_andr (by omega) | refine bnd_or ?_ ?_ | refine bnd_or31 ?_ ?_ | refine bnd_xor ?_ ?_ | refine bnd_xor31 ?_ ?_ | refine bnd_shr ?_ | refine bnd_shl ?_ ?_ | refine bnd_mod ?_ | refine bnd_andl ?_ | fail))) | fail) | (refine CallN.id ?_; first | refine CallN.det _ (atP _) ?_ | refine CallN.det _ (atQ _) ?_ | refine CallN.det _ (j1 _) ?_ | refine CallN.det _ (t2 _) ?_ | refine CallN.det _ (t3 _) ?_ | fail) | refine DrawN.mk' [] ?_ | fail))); all_goals (conv => whnf)
  refine LoopN.rounds Tryd.E0 Tryd.mx 5 rfl ?_
  (repeat' ((conv => whnf); (first | (refine IfN.id ?_; first | refine IfN.not ?_ | refine IfN.tt rfl ?_ | refine IfN.ff rfl ?_ | fail) | (refine EqN.id ?_; first | (refine EqN.addN _ _ (by first | with_reducible rfl | with_reducible exact cst1 | with_reducible exact cst0 | with_reducible exact cst2 | with_reducible exact cst3 | with_reducible exact cst4 | with_reducible exact cst5 | with_reducible exact cst6 | with_reducible exact cst7 | with_reducible exact cst8 | with_reducible exact cst14 | with_reducible exact cst15 | with_reducible exact cst25 | with_reducible exact cst30 | with_reducible exact cst31 | fail) (by first | with_reducible rfl | with_reducible exact cst1 | with_reducible exact cst0 | with_reducible exact cst2 | with_reducible exact cst3 | with_reducible exact cst4 | with_reducible exact cst5 | with_reducible exact cst6 | with_reducible exact cst7 | with_reducible exact cst8 | with_reducible exact cst14 | with_reducible exact cst15 | with_reducible exact cst25 | with_reducible exact cst30 | with_reducible exact cst31 | fail) ?_ ?_; · (repeat' (first | omega | refine And.intro ?_ ?_ | exact bnd_andl (by omega) | exact bnd_andr (by omega) | refine bnd_or ?_ ?_ | refine bnd_or31 ?_ ?_ | refine bnd_xor ?_ ?_ | refine bnd_xor31 ?_ ?_ | refine bnd_shr ?_ | refine bnd_shl ?_ ?_ | refine bnd_mod ?_ | refine bnd_andl ?_ | fail))) | fail) | (refine SideN.mk ?_ ?_; · first | kernel_rfl | omega | exact List.cons_ne_nil _ _ | (simp; done) | (simp; omega) | exact trivial | assumption | fail) | (refine CallN.id ?_; first | refine CallN.det _ (j2 _) ?_ | refine CallN.det _ (e2 _) ?_ | refine CallN.det _ (e1 _) ?_ | refine CallN.det _ (ci _) ?_ | refine CallN.det _ (fa _) ?_ | refine CallN.det _ (fn _) ?_ | fail) | (refine CallD.id ?_; first | refine CallD.det _ (fun _ hq X => j3 _) ?_ | refine CallD.det _ (fun _ hq X => fo _) ?_ | fail) | refine SegN.mk _ (seg_rfl rfl) ?_ | refine DrawN.mk' [] ?_ | fail))); all_goals (conv => whnf)
  exact EndN.det trivial (Wk.of_eq (by kernel_rfl))
end Go.Proofs.YtekhodpmpjehaaaDoor
/-! text RU10 -/
namespace Go.Proofs.YtekhodpmpjehaaaDoor
open Go.Vsi

/-! ### what Built makes is a formula of propositional logic over the twelve letters, and small -/
structure Fm.Nice (f : Fm) : Prop where
  ok : f.Ok
  pr : f.Pr
  inl : f.In lets
def Fm.lvs : Fm → Nat
  | .at _ => 1
  | .fa => 1
  | .f1 _ a => a.lvs
  | .f2 _ a b => a.lvs + b.lvs
theorem Fm.Nice.good {f : Fm} (h : f.Nice) (h1 : f.nodes ≤ 400) (h2 : f.depth ≤ 40) : f.Good := ⟨h.ok, ⟨h1, h2⟩, h.pr⟩
def sumN (s : Fm → Nat) : List Fm → Nat
  | [] => 0
  | f :: l => s f + sumN s l
theorem sumN_append (s : Fm → Nat) : ∀ a b : List Fm, sumN s (a ++ b) = sumN s a + sumN s b
  | [], b => by simp [sumN]
  | f :: a, b => by simp only [List.cons_append, sumN, sumN_append s a b]; omega
theorem last1 (S : List Fm) (h : 1 ≤ S.length) : S.take (S.length - 1) ++ [gF S (S.length - 1)] = S := by
  have := List.take_add_one (l := S) (i := S.length - 1)
  rw [show S.length - 1 + 1 = S.length by omega, List.take_length] at this
  rw [show ([gF S (S.length - 1)] : List Fm) = S[S.length - 1]?.toList by simp [gF, List.getD, show S.length - 1 < S.length by omega]]
  exact this.symm
theorem last2 (S : List Fm) (h : 2 ≤ S.length) : S.take (S.length - 2) ++ [gF S (S.length - 2), gF S (S.length - 1)] = S := by
  have h1 := last1 S (by omega)
  have h2 := List.take_add_one (l := S) (i := S.length - 2)
  rw [show S.length - 2 + 1 = S.length - 1 by omega] at h2
  rw [show ([gF S (S.length - 2), gF S (S.length - 1)] : List Fm) = S[S.length - 2]?.toList ++ [gF S (S.length - 1)] by simp [gF, List.getD, show S.length - 2 < S.length by omega], ← List.append_assoc, ← h2]
  exact h1
theorem gF_mem (S : List Fm) (i : Nat) (h : i < S.length) : gF S i ∈ S := by
  rw [show gF S i = S[i] by simp [gF, List.getD, h]]; exact List.getElem_mem _
structure StOk (S : List Fm) (m : Nat) : Prop where
  all : ∀ f ∈ S, f.Nice
  sum : sumN Fm.nodes S ≤ m
  dep : sumN Fm.depth S ≤ m
  lvs : sumN Fm.lvs S ≤ m
theorem sum1 (s : Fm → Nat) {S : List Fm} (h1 : 1 ≤ S.length) : sumN s (S.take (S.length - 1)) + s (gF S (S.length - 1)) = sumN s S := by
  have e := last1 S h1
  have := sumN_append s (S.take (S.length - 1)) [gF S (S.length - 1)]
  rw [e] at this
  simp only [sumN] at this
  omega
theorem sum2 (s : Fm → Nat) {S : List Fm} (h1 : 2 ≤ S.length) : sumN s (S.take (S.length - 2)) + s (gF S (S.length - 2)) + s (gF S (S.length - 1)) = sumN s S := by
  have e := last2 S h1
  have := sumN_append s (S.take (S.length - 2)) [gF S (S.length - 2), gF S (S.length - 1)]
  rw [e] at this
  simp only [sumN] at this
  omega
theorem nice_at {c : UInt8} (h : c ∈ lets) : (Fm.at c).Nice := ⟨(show ∀ c ∈ lets, 130 ≤ c.toNat ∧ c.toNat ≤ 181 by decide) c h, trivial, h⟩
theorem nice_fa : Fm.fa.Nice := ⟨trivial, trivial, trivial⟩
theorem nice_1 {a : Fm} (ha : a.Nice) : (Fm.f1 3 a).Nice := ⟨⟨.inl rfl, ha.ok⟩, ⟨rfl, ha.pr⟩, ha.inl⟩
theorem nice_2 {a b : Fm} (ha : a.Nice) (hb : b.Nice) (k : Nat) (hk : k = 4 ∨ k = 5 ∨ k = 6 ∨ k = 7) : (Fm.f2 k a b).Nice := ⟨⟨by unfold is2; omega, ha.ok, hb.ok⟩, ⟨hk, ha.pr, hb.pr⟩, ⟨ha.inl, hb.inl⟩⟩
theorem stok_snoc {S : List Fm} {f : Fm} {m : Nat} (h : ∀ g ∈ S, g.Nice) (hf : f.Nice) (h1 : sumN Fm.nodes S + f.nodes ≤ m) (h2 : sumN Fm.depth S + f.depth ≤ m) (h3 : sumN Fm.lvs S + f.lvs ≤ m) : StOk (S ++ [f]) m :=
  ⟨fun g hg => by
    rcases List.mem_append.1 hg with hg | hg
    · exact h g hg
    · simp only [List.mem_singleton] at hg; exact hg ▸ hf, by rw [sumN_append]; simpa [sumN] using h1, by rw [sumN_append]; simpa [sumN] using h2, by rw [sumN_append]; simpa [sumN] using h3⟩
theorem StOk.mono {S : List Fm} {m n : Nat} (h : StOk S m) (hmn : m ≤ n) : StOk S n := ⟨h.all, Nat.le_trans h.sum hmn, Nat.le_trans h.dep hmn, Nat.le_trans h.lvs hmn⟩
theorem letN_mem (b : Nat) : letN b ∈ lets := getD_mem lets _ (by show _ < 12; exact Nat.mod_lt _ (by decide))
theorem stp_ok {S : List Fm} {m : Nat} (h : StOk S m) (b : Nat) : StOk (stp S b) (m + 1) := by
  have hs := h.sum
  have hd := h.dep
  have hl := h.lvs
  have one : 1 ≤ S.length → StOk (S.take (S.length - 1) ++ [.f1 3 (gF S (S.length - 1))]) (m + 1) := fun h1 => by
    have q1 := sum1 Fm.nodes h1
    have q2 := sum1 Fm.depth h1
    have q3 := sum1 Fm.lvs h1
    exact stok_snoc (fun f hf => h.all f (List.mem_of_mem_take hf)) (nice_1 (h.all _ (gF_mem _ _ (by omega)))) (by simp only [Fm.nodes]; omega) (by simp only [Fm.depth]; omega) (by simp only [Fm.lvs]; omega)
  have two : ∀ k, (k = 4 ∨ k = 5 ∨ k = 6 ∨ k = 7) → 2 ≤ S.length → StOk (S.take (S.length - 2) ++ [.f2 k (gF S (S.length - 2)) (gF S (S.length - 1))]) (m + 1) := fun k hk h1 => by
    have q1 := sum2 Fm.nodes h1
    have q2 := sum2 Fm.depth h1
    have q3 := sum2 Fm.lvs h1
    have p1 := (gF S (S.length - 2)).depth_pos
    have p2 := (gF S (S.length - 1)).depth_pos
    exact stok_snoc (fun f hf => h.all f (List.mem_of_mem_take hf)) (nice_2 (h.all _ (gF_mem _ _ (by omega))) (h.all _ (gF_mem _ _ (by omega))) k hk) (by simp only [Fm.nodes]; omega) (by simp only [Fm.depth]; omega) (by simp only [Fm.lvs]; omega)
  unfold stp stpC
  split
  · exact stok_snoc h.all (nice_at (letN_mem b)) (by simp only [Fm.nodes]; omega) (by simp only [Fm.depth]; omega) (by simp only [Fm.lvs]; omega)
  · exact stok_snoc h.all (nice_at (letN_mem b)) (by simp only [Fm.nodes]; omega) (by simp only [Fm.depth]; omega) (by simp only [Fm.lvs]; omega)
  all_goals try split
  all_goals first
    | exact one (by assumption)
    | exact two _ (by omega) (by assumption)
    | exact h.mono (by omega)
    | exact stok_snoc h.all nice_fa (by simp only [Fm.nodes]; omega) (by simp only [Fm.depth]; omega) (by simp only [Fm.lvs]; omega)
theorem bst_ok (l : List Nat) : ∀ k, k ≤ l.length → StOk (bst (l.take k)) k
  | 0, _ => ⟨fun f hf => by simp [bst] at hf, by simp [bst, sumN], by simp [bst, sumN], by simp [bst, sumN]⟩
  | k + 1, h => by rw [bst_succ l k h]; exact stp_ok (bst_ok l k (by omega)) _
theorem sum_take (s : Fm → Nat) (S : List Fm) (i : Nat) (h : i < S.length) : sumN s (S.take (i + 1)) = sumN s (S.take i) + s (gF S i) := by
  rw [List.take_add_one, sumN_append, show S[i]?.toList = [gF S i] by simp [gF, List.getD, h]]
  simp [sumN]
theorem sum_le (s : Fm → Nat) (S : List Fm) (i : Nat) : sumN s (S.take i) ≤ sumN s S := by
  have := sumN_append s (S.take i) (S.drop i)
  rw [List.take_append_drop] at this
  omega
theorem andN_ok {S : List Fm} {m : Nat} (h : StOk S m) : ∀ j, j < S.length → (andN S j).Nice ∧ (andN S j).nodes ≤ sumN Fm.nodes (S.take (j + 1)) + j ∧ (andN S j).depth ≤ sumN Fm.depth (S.take (j + 1)) ∧ (andN S j).lvs ≤ sumN Fm.lvs (S.take (j + 1))
  | 0, hj => ⟨h.all _ (gF_mem S 0 hj), by rw [sum_take _ S 0 hj]; simp [andN, sumN], by rw [sum_take _ S 0 hj]; simp [andN, sumN], by rw [sum_take _ S 0 hj]; simp [andN, sumN]⟩
  | j + 1, hj => by
    obtain ⟨i1, i2, i3, i4⟩ := andN_ok h j (by omega)
    have p1 := (andN S j).depth_pos
    have p2 := (gF S (j + 1)).depth_pos
    refine ⟨nice_2 i1 (h.all _ (gF_mem S (j + 1) hj)) 4 (by omega), ?_, ?_, ?_⟩
    · rw [sum_take _ S (j + 1) hj]
      simp only [andN, Fm.nodes]
      omega
    · rw [sum_take _ S (j + 1) hj]
      simp only [andN, Fm.depth]
      omega
    · rw [sum_take _ S (j + 1) hj]
      simp only [andN, Fm.lvs]
      omega
structure Fm.Sz (f : Fm) (m : Nat) : Prop where
  nice : f.Nice
  nodes : f.nodes ≤ 2 * m + 1
  depth : f.depth ≤ m + 1
  lvs : f.lvs ≤ m + 1
theorem Fm.Sz.mono {f : Fm} {m n : Nat} (h : f.Sz m) (hmn : m ≤ n) : f.Sz n := ⟨h.nice, by have := h.nodes; omega, by have := h.depth; omega, by have := h.lvs; omega⟩
theorem blt_ok (l : List Nat) : (bltF l).Sz (min 30 l.length) := by
  have h := bst_ok (l.take 30) (l.take 30).length (Nat.le_refl _)
  have hl := bst_len (l.take 30) (l.take 30).length
  rw [List.take_length] at h hl
  rw [List.length_take] at h hl
  unfold bltF finF
  split
  · exact ⟨nice_at (by decide), by simp [Fm.nodes], by simp [Fm.depth], by simp [Fm.lvs]⟩
  · rename_i hn
    obtain ⟨q1, q2, q3, q4⟩ := andN_ok h _ (show (bst (l.take 30)).length - 1 < (bst (l.take 30)).length by omega)
    have s1 := sum_le Fm.nodes (bst (l.take 30)) ((bst (l.take 30)).length - 1 + 1)
    have s2 := sum_le Fm.depth (bst (l.take 30)) ((bst (l.take 30)).length - 1 + 1)
    have s3 := sum_le Fm.lvs (bst (l.take 30)) ((bst (l.take 30)).length - 1 + 1)
    have := h.sum
    have := h.dep
    have := h.lvs
    exact ⟨q1, by omega, by omega, by omega⟩
theorem blt30 (l : List Nat) : (bltF l).Sz 30 := (blt_ok l).mono (by omega)
theorem blt12 (l : List Nat) (n : Nat) : (bltF (l.take n)).Sz n := (blt_ok _).mono (by rw [List.length_take]; omega)
theorem Fm.Sz.good {f : Fm} (h : f.Sz 30) : f.Good := h.nice.good (by have := h.nodes; omega) (by have := h.depth; omega)

/-! ### put -/
theorem put_nice {k : UInt8} {g : Fm} (hg : g.Nice) : ∀ f : Fm, f.Nice → (putF k g f).Nice
  | .at c, h => by
    unfold putF
    split
    · exact hg
    · exact h
  | .fa, h => h
  | .f1 o a, h => by
    have := put_nice (k := k) hg a ⟨h.ok.2, h.pr.2, h.inl⟩
    exact ⟨⟨h.ok.1, this.ok⟩, ⟨h.pr.1, this.pr⟩, this.inl⟩
  | .f2 o a b, h => by
    have h1 := put_nice (k := k) hg a ⟨h.ok.2.1, h.pr.2.1, h.inl.1⟩
    have h2 := put_nice (k := k) hg b ⟨h.ok.2.2, h.pr.2.2, h.inl.2⟩
    exact ⟨⟨h.ok.1, h1.ok, h2.ok⟩, ⟨h.pr.1, h1.pr, h2.pr⟩, ⟨h1.inl, h2.inl⟩⟩
theorem put_nodes (k : UInt8) (g : Fm) : ∀ f : Fm, (putF k g f).nodes ≤ f.nodes + f.lvs * g.nodes
  | .at c => by
    unfold putF
    split <;> simp only [Fm.nodes, Fm.lvs] <;> omega
  | .fa => by simp only [putF, Fm.nodes]; omega
  | .f1 o a => by have := put_nodes k g a; simp only [putF, Fm.nodes, Fm.lvs]; omega
  | .f2 o a b => by
    have := put_nodes k g a
    have := put_nodes k g b
    simp only [putF, Fm.nodes, Fm.lvs, Nat.add_mul]
    omega
theorem put_depth (k : UInt8) (g : Fm) : ∀ f : Fm, (putF k g f).depth ≤ f.depth + g.depth
  | .at c => by
    unfold putF
    split <;> simp only [Fm.depth] <;> omega
  | .fa => by simp only [putF, Fm.depth]; omega
  | .f1 o a => by have := put_depth k g a; simp only [putF, Fm.depth]; omega
  | .f2 o a b => by
    have := put_depth k g a
    have := put_depth k g b
    simp only [putF, Fm.depth]
    omega
theorem put_good {k : UInt8} {f g : Fm} {m : Nat} (hf : f.Sz m) (hg : g.Sz m) (hm : m ≤ 12) : (putF k g f).Good :=
  (put_nice hg.nice f hf.nice).good (by
    have h1 := put_nodes k g f
    have h2 := hf.nodes
    have h3 : f.lvs * g.nodes ≤ 13 * 25 := Nat.mul_le_mul (by have := hf.lvs; omega) (by have := hg.nodes; omega)
    omega) (by
    have h1 := put_depth k g f
    have h2 := hf.depth
    have h3 := hg.depth
    omega)
theorem ev_put (r : UInt8 → Bool) (k : UInt8) (g : Fm) : ∀ f : Fm, (putF k g f).ev r = f.ev (upd r k (g.ev r))
  | .at c => by
    unfold putF upd
    split
    · rename_i h; simp [Fm.ev, h]
    · rename_i h; simp [Fm.ev, h]
  | .fa => rfl
  | .f1 _ a => congrArg (fun b => !b) (ev_put r k g a)
  | .f2 o a b => by simp only [putF, Fm.ev, ev_put r k g a, ev_put r k g b]
end Go.Proofs.YtekhodpmpjehaaaDoor
/-! text D10 -/
namespace Go.Proofs.YtekhodpmpjehaaaDoor
open Go.ChangeShapes Go.WideShapes Go.ChangeAt Go.RowKit Go.Vsi

theorem mrel_of {g : G} {W : World} {b : Nat} (hg : ∀ b o, ¬ g.own b o) : ∀ (l : List AV) (cs : List Value) (o : Nat), LRel g W l cs → (∀ (i : Nat) c, cs[i]? = some c → W.cell? ⟨b, o + i, .none⟩ = some c) → MRel g W l b o
  | [], _, _, _, _ => trivial
  | v :: l, cs, o, h, hc => by
    simp only [LRel] at h
    obtain ⟨c, r, rfl, h1, h2⟩ := h
    refine ⟨⟨c, by simpa using hc 0 c rfl, h1, hg _ _⟩, ?_⟩
    exact mrel_of hg l r (o + 1) h2 fun i c' hi => by
      have := hc (i + 1) c' (by simpa using hi)
      rwa [show o + (i + 1) = o + 1 + i by omega] at this
theorem mone {W : World} {n : String} {gi : Nat} {ty : TypeId} {T : Ty} {D : DataW Unit} {cells : List AV} {g0 : Nat} {t0 : TypeId} {cs0 : Array Value} {f0 : Nat} {p0 : List MemPlace}
    (hg : Tryd.prog.globalNamed n = some gi) (ht : (Tryd.prog.globals[gi]?).map (·.type) = some ty) (hty : TyOk Tryd.prog ty T) (hpl : PlTy T) (hD : ∃ l', DatOf (H := Unit) D l' ∧ l' = cells)
    (hg0 : Tryd.prog.globalNamed n = some g0) (ht0 : (Tryd.prog.globals[g0]?).map (·.type) = some t0) (hv0 : W.var? Tryd.prog n = some cs0) (hd0 : DataW.trod (fun _ => ()) Tryd.prog W 0 (fun _ => true) false f0 t0 cs0.toList = some (D, p0)) : MRel G.none W cells gi 0 := by
  obtain rfl := Option.some.inj (hg.symm.trans hg0)
  obtain rfl := Option.some.inj (ht.symm.trans ht0)
  obtain ⟨l, h1, h2⟩ := trod_dat (g := G.none) _ hpl hty hd0
  obtain ⟨l', hl1, hl2⟩ := hD
  have hll : l = cells := (DatOf.det h1 hl1).trans hl2
  rw [← hll]
  refine mrel_of (fun _ _ h => h) l cs0.toList 0 h2 fun i c hi => ?_
  have := World.var?_cell hg0 hv0 i
  rw [Nat.zero_add, this]
  simpa using hi
theorem gl_of_laid {W : World} (h : laidMetH Tryd.prog [("math/bits.deBruijn64tab", Rows.laid_math_bits_deBruijn64tab), ("lyceum/syntax.rows", Rows.laid_lyceum_syntax_rows), ("lyceum/truth.patterns", Rows.laid_lyceum_truth_patterns)] W) : ∀ p ∈ Glob.gl, MRel G.none W p.2 p.1 0 := by
  rw [MakeChecks.laidMetH_plain _ _ _ (by kernel_rfl)] at h
  obtain ⟨ps, ⟨g0, t0, cs0, f0, p0, q0, hg0, ht0, hv0, hd0, ⟨g1, t1, cs1, f1, p1, q1, hg1, ht1, hv1, hd1, ⟨g2, t2, cs2, f2, p2, q2, hg2, ht2, hv2, hd2, _⟩, _⟩, _⟩, _⟩ := h
  have m0 : MRel G.none W (Tryd.gl[1]).2 1 0 := mone (T := repTy 64 (.int .u8)) (ty := 109) (by kernel_rfl) (by kernel_rfl) (tyOf_ok Tryd.T_ok 12 109 _ (by kernel_rfl)) (by simp [repTy, PlTy]) ⟨_, by unfold Rows.laid_math_bits_deBruijn64tab; repeat constructor, by kernel_rfl⟩ hg0 ht0 hv0 hd0
  have m1 : MRel G.none W (Tryd.gl[2]).2 2 0 := mone (T := repTy 17 (.pair .bool (.pair .bool (.pair (.int .u8) (.pair (.int .i64) (.pair (.int .i64) .unit)))))) (ty := 123) (by kernel_rfl) (by kernel_rfl) (tyOf_ok Tryd.T_ok 12 123 _ (by kernel_rfl)) (by simp [repTy, PlTy]) ⟨_, by unfold Rows.laid_lyceum_syntax_rows; repeat constructor, by kernel_rfl⟩ hg1 ht1 hv1 hd1
  have m2 : MRel G.none W (Tryd.gl[0]).2 0 0 := mone (T := repTy 6 (.int .u64)) (ty := 101) (by kernel_rfl) (by kernel_rfl) (tyOf_ok Tryd.T_ok 12 101 _ (by kernel_rfl)) (by simp [repTy, PlTy]) ⟨_, by unfold Rows.laid_lyceum_truth_patterns; repeat constructor, by kernel_rfl⟩ hg2 ht2 hv2 hd2
  intro p hp
  have hp0 : p = Tryd.gl[0] ∨ p = Tryd.gl[1] ∨ p = Tryd.gl[2] := by
    have : p ∈ Tryd.gl := hp
    simpa [Tryd.gl] using this
  rcases hp0 with rfl | rfl | rfl
  · exact m2
  · exact m0
  · exact m1
theorem u8_nat {n : Int} (h : (Lit.int .u8 n).wf = true) : ∃ m : Nat, n = m ∧ m ≤ 255 := ⟨n.toNat, by have := wf_u8 h; omega, by have := wf_u8 h; omega⟩
theorem u16_nat {n : Int} (h : (Lit.int .u16 n).wf = true) : ∃ m : Nat, n = m ∧ m ≤ 65535 := ⟨n.toNat, by have := wf_u16 h; omega, by have := wf_u16 h; omega⟩
theorem bytes_nat {l : List Int} (h : l.length ≤ maxLen ∧ ∀ x ∈ l, (Lit.int .u8 x).wf = true) : ∃ c : List Nat, l = c.map (fun n : Nat => (n : Int)) ∧ c.length ≤ 9223372036854775807 ∧ ∀ i, i < c.length → c.getD i 0 ≤ 255 := by
  refine ⟨l.map Int.toNat, ?_, by simpa using maxLen_le h.1, fun i hi => ?_⟩
  · rw [List.map_map]
    refine (List.map_id' l).symm.trans (List.map_congr_left fun x hx => ?_)
    have := wf_u8 (h.2 x hx)
    simp only [Function.comp]
    omega
  · have hi' : i < l.length := by simpa using hi
    have := wf_u8 (h.2 _ (List.getElem_mem hi'))
    simp only [List.getD_eq_getElem?_getD, List.getElem?_map, List.getElem?_eq_getElem hi', Option.map_some, Option.getD_some]
    omega
theorem bytes_len (c : List Nat) : List.length (α := Ty.I (.int .u8)) (c.map fun n : Nat => (n : Int)) = c.length := List.length_map ..
theorem bytes_enc (c : List Nat) : List.flatMap (α := Ty.I (.int .u8)) (Ty.enc (.int .u8)) (c.map fun n : Nat => (n : Int)) = c.flatMap fun n : Nat => [.int .u8 (n : Int)] := by
  induction c with
  | nil => rfl
  | cons x c ih => rw [List.flatMap_cons, ← ih]; rfl
theorem bytes_cast (c : List Nat) (p : AV → Prop) (h : p (.sl none c.length (c.flatMap fun n : Nat => [.int .u8 (n : Int)]))) : p (.sl none (List.length (α := Ty.I (.int .u8)) (c.map fun n : Nat => (n : Int))) (List.flatMap (α := Ty.I (.int .u8)) (Ty.enc (.int .u8)) (c.map fun n : Nat => (n : Int)))) := by
  rw [bytes_len, bytes_enc]; exact h
end Go.Proofs.YtekhodpmpjehaaaDoor
