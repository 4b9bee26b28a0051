/- A text of the proof: the parts ZD38, ZE38, ZF38, ZG38, ZH38, AA38, AB38, AC38, AD38, AE38, AF38, AG38, AH38, AI38, AJ38, AK38, AN38, AP38, AQ38, AT38, AU38, AV38, AY38, AZ38d. -/
import Derived.Test.YtgopbbkpcjgihaaK9
set_option linter.unusedSimpArgs false
set_option linter.unusedVariables false
/-! text ZD38 -/
namespace Go.Proofs.Ytgopbbkpcjgihaa
open Go.Vsi
set_option maxHeartbeats 4000000
set_option linter.unusedSimpArgs false
attribute [local irreducible] VW VCall VO bits


def cyLA (b : Bk) (n0 k : Nat) (r : List AV) : Heap := [.box 25 b.cells, .box 25 r, .box 25 [.vs (n0 + 3) k, .sx 0 []], .vec 79 2 ((b.ser.take k).flatMap Ser.cells)]
theorem cyLA_below (b : Bk) (n0 k : Nat) : belowH (n0 + (cyLA b n0 k [.nils, .nils]).length) (cyLA b n0 k [.nils, .nils]) := by
  simp [cyLA, belowH, Blk.below, belowL, below, Bk.cells, sers_below, ents_below]
theorem cyLA_set (H : Heap) (b : Bk) (k : Nat) (r : List AV) (V B : Blk) : ((H ++ cyLA b H.length k r).set (H.length + 3) V).set (H.length + (0 + 1 + 1)) B = H ++ [.box 25 b.cells, .box 25 r, B, V] := by
  unfold cyLA
  rw [set_loc', set_loc']
  rfl
theorem copyBookA_c (b : Bk) (hs : b.ser.length ≤ 1000) (he : b.ent.length ≤ 1000000) (h0 : b.ent = []) (hv : ∀ s ∈ b.ser, s.vers.length ≤ 1000000 ∧ ∀ v ∈ s.vers, v.sch.lates.length ≤ 1000000) (H : Heap) : VCall Try.prog 39 [.agg b.cells] H fun r H' => r = .agg [.vs (H.length + 3) b.ser.length, .sx 0 []] ∧ H' = H ++ cyLA b H.length b.ser.length [.vs (H.length + 3) b.ser.length, .sx 0 []] := by
  have hcl67 := fun H => clone67_0 H
  have hcb : b.cells = [.sl none b.ser.length (b.ser.flatMap Ser.cells), .sl none b.ent.length (b.ent.flatMap Ent.cells)] := rfl
  have hL0 : ([.box 25 [.sl none b.ser.length (b.ser.flatMap Ser.cells), .sl none ([] : List Ent).length (([] : List Ent).flatMap Ent.cells)], .box 25 [.nils, .nils], .box 25 [.vs (H.length + 3) 0, .sx 0 []], .vec 79 2 []] : Heap) = cyLA b H.length 0 [.nils, .nils] := by unfold cyLA; rw [hcb, h0]; rfl
  refine fn_gen Try.E0 Try.mx Try.func39 (by kernel_rfl) rfl (Nat.le_of_ble_eq_true rfl) rfl fun hcl hbl => ?_
  rw [hcb]
  rw [h0]
  (repeat' ((conv => whnf); (first | (refine CallN.id ?_; first | refine CallN.det _ (hcl67 _) ?_ | fail) | refine DrawN.mk' [] ?_ | fail))); all_goals (conv => whnf)
  refine LoopN.vecB 2 0 79 2 rfl rfl rfl rfl rfl rfl ?_
  refine loop_X Try.E0 Try.mx (σ := Nat) (fun k => k ≤ b.ser.length) (fun k => b.ser.length - k) (fun k => [(16, .v (.int .i64 k))]) (fun k => cyLA b H.length k [.nils, .nils]) _ 0 rfl hcl [2, 3, 14, 15] rfl (Nat.zero_le _) ⟨⟨_, rfl, Wk.refl _⟩, trivial⟩ hL0 (fun s _ => by simp [cyLA]) ?_
  intro k hk
  rcases Nat.lt_or_ge k b.ser.length with hlt | hge
  · have htk := take_snoc b.ser ser0 k hlt
    have hns1 : (b.ser.take (k + 1)).flatMap Ser.cells = (b.ser.take k).flatMap Ser.cells ++ (b.ser.getD k ser0).cells := by
      rw [htk, List.flatMap_append]
      simp
    obtain ⟨nm, vs, hv1⟩ := ser_ex (b.ser.getD k ser0)
    have e1 := ser_cells hv1
    rw [e1] at hns1
    have hvb := hv _ (getD_mem ser0 hlt)
    rw [hv1] at hvb
    simp only at hvb
    obtain ⟨hvl, hlat⟩ := hvb
    obtain ⟨NL, hNL⟩ : ∃ NL, (cyLA b H.length k [.nils, .nils]).length = NL := ⟨_, rfl⟩
    rw [hNL]
    have hm3 : (H ++ cyLA b H.length k [.nils, .nils])[H.length + 3]? = some (.vec 79 2 ((b.ser.take k).flatMap Ser.cells)) := at_loc0 rfl
    have hm2 : (H ++ cyLA b H.length k [.nils, .nils])[H.length + 2]? = some (.box 25 [.vs (H.length + 3) k, .sx 0 []]) := at_loc0 rfl
    have hm2b : ∀ M, ((H ++ cyLA b H.length k [.nils, .nils]).set (H.length + 3) M)[H.length + 2]? = some (.box 25 [.vs (H.length + 3) k, .sx 0 []]) := fun M => by
      rw [List.getElem?_set_ne (by omega), hm2]
    have hbt : (k + 1) * 40 ≤ 140737488355328 := by omega
    have hmx : k + 1 ≤ maxLen := Nat.le_trans (show k + 1 ≤ 1000001 by omega) (by decide)
    have hcln : ((b.ser.take k).flatMap Ser.cells).length = k * 2 := by rw [flat_length ser_size, List.length_take, Nat.min_eq_left hk]
    (repeat' ((conv => whnf); (first | (refine IfN.id ?_; first | refine IfN.dT (by omega) ?_ | fail) | (refine SideN.mk ?_ ?_; · first | kernel_rfl | omega | exact List.cons_ne_nil _ _ | (simp; done) | (simp; omega) | exact trivial | assumption | fail) | refine SegN.nthE ser0 k rfl (by omega) ser_size e1 ?_ | refine DrawN.mk' [] ?_ | fail))); all_goals (conv => whnf)
    refine LoopN.tokB 1 1 30 8 (by rw [List.length_append, hNL]) rfl rfl rfl rfl rfl ?_
    refine loop_R Try.E0 Try.mx (σ := Nat) (fun i => i ≤ vs.length) (fun i => vs.length - i) (fun i => [(26, .v (.int .i64 i))]) (fun i => [.box 79 [.str nm, .sl none vs.length (vs.flatMap Ver.cells)], .box 79 [.str nm, .sl (some (H.length + NL + 2)) i ((vs.take i).flatMap Ver.cells)], .tok 30 8 ((vs.take i).flatMap Ver.cells).length]) _ 0 (by rw [List.length_append, hNL]) (closed_loc hcl fun B hB => by
      rw [List.length_append]
      exact mem_belowH (cyLA_below b H.length k) B hB) [2, 3, 5, 6, 14, 15, 16, 24, 25] rfl (Nat.zero_le _) ⟨⟨_, rfl, Wk.refl _⟩, trivial⟩ rfl (fun _ _ => rfl) ?_
    intro i hi
    rcases Nat.lt_or_ge i vs.length with hil | hige
    · have hvt := take_snoc vs ver0 i hil
      obtain ⟨at_, pts, part, att, rty, hnt, cnt, lates, hv2⟩ := ver_ex (vs.getD i ver0)
      have e2 := ver_cells hv2
      have hns : (vs.take (i + 1)).flatMap Ver.cells = (vs.take i).flatMap Ver.cells ++ (vs.getD i ver0).cells := by
        rw [hvt, List.flatMap_append]
        simp
      rw [e2] at hns
      have hco := fun H => copyS_c ⟨pts, part, att, rty, hnt, cnt, lates⟩ (by
        have := hlat _ (getD_mem ver0 hil)
        rw [hv2] at this
        exact this) H
      unfold Sch.cells at hco
      simp only at hco
      have hbt : (i + 1) * 80 ≤ 140737488355328 := by omega
      have hmx : i + 1 ≤ maxLen := Nat.le_trans (show i + 1 ≤ 1000001 by omega) (by decide)
      have hml : ((vs.take i).flatMap Ver.cells).length = i * 8 := by rw [flat_length ver_size, List.length_take, Nat.min_eq_left hi]
      (repeat' ((conv => whnf); (first | (refine IfN.id ?_; first | refine IfN.dT (by omega) ?_ | fail) | (refine EqN.id ?_; first | (refine EqN.addN _ _ (by first | with_reducible rfl | with_reducible exact cst1 | with_reducible exact cst0 | with_reducible exact cst2 | with_reducible exact cst3 | with_reducible exact cst4 | with_reducible exact cst5 | with_reducible exact cst6 | with_reducible exact cst7 | with_reducible exact cst8 | with_reducible exact cst14 | with_reducible exact cst15 | with_reducible exact cst25 | with_reducible exact cst30 | with_reducible exact cst31 | fail) (by first | with_reducible rfl | with_reducible exact cst1 | with_reducible exact cst0 | with_reducible exact cst2 | with_reducible exact cst3 | with_reducible exact cst4 | with_reducible exact cst5 | with_reducible exact cst6 | with_reducible exact cst7 | with_reducible exact cst8 | with_reducible exact cst14 | with_reducible exact cst15 | with_reducible exact cst25 | with_reducible exact cst30 | with_reducible exact cst31 | fail) ?_ ?_; · (repeat' (first | omega | refine And.intro ?_ ?_ | exact bnd_andl (by omega) | exact bnd_andr (by omega) | refine bnd_or ?_ ?_ | refine bnd_or31 ?_ ?_ | refine bnd_xor ?_ ?_ | refine bnd_xor31 ?_ ?_ | refine bnd_shr ?_ | refine bnd_shl ?_ ?_ | refine bnd_mod ?_ | refine bnd_andl ?_ | fail))) | fail) | (refine SideN.mk ?_ ?_; · first | kernel_rfl | omega | exact List.cons_ne_nil _ _ | (simp; done) | (simp; omega) | exact trivial | assumption | fail) | (refine CallD.id ?_; first | refine CallD.det _ (fun _ hq X => hco _) ?_ | fail) | refine SegN.nthE ver0 i rfl (by omega) ver_size e2 ?_ | refine SideN.mk ⟨rfl, rfl, rfl, hbt, hmx⟩ ?_ | (refine PtrN.id ?_; first | refine PtrN.loc _ rfl ?_ | fail) | refine DrawN.mk' [] ?_ | fail))); all_goals (conv => whnf)
      rw [← hns]
      (refine ⟨⟨i + 1, by show i + 1 ≤ _; omega, by omega, ?_, .inl ⟨rfl, rfl⟩, rfl, _, rfl, ?_⟩⟩; rotate_left 1; (first | exact .inl rfl | exact .inr ⟨by simp [belowRE, below, belowL, tr, sers_below, vers_below, ents_below, ent_below, ser_below, ver_below, encP_below, ksA_below, cntA_below, rows_below], by simp [belowH, Blk.below, belowL, below, sers_below, vers_below, ents_below, ent_below, ser_below, ver_below, encP_below, ksA_below, cntA_below, rows_below]⟩ | fail); (repeat' (first | exact trivial | refine ⟨⟨_, rfl, ?_⟩, ?_⟩ | fail)); all_goals try (first | exact Wk.refl _ | exact Wk.of_eq (congrArg (AV.int _) (by omega)) | fail))
    · have hie : i = vs.length := by omega
      subst hie
      rw [List.take_length]
      (repeat' ((conv => whnf); (first | (refine IfN.id ?_; first | refine IfN.dF (by omega) ?_ | fail) | (refine EqN.id ?_; first | (refine EqN.addN _ _ (by first | with_reducible rfl | with_reducible exact cst1 | with_reducible exact cst0 | with_reducible exact cst2 | with_reducible exact cst3 | with_reducible exact cst4 | with_reducible exact cst5 | with_reducible exact cst6 | with_reducible exact cst7 | with_reducible exact cst8 | with_reducible exact cst14 | with_reducible exact cst15 | with_reducible exact cst25 | with_reducible exact cst30 | with_reducible exact cst31 | fail) (by first | with_reducible rfl | with_reducible exact cst1 | with_reducible exact cst0 | with_reducible exact cst2 | with_reducible exact cst3 | with_reducible exact cst4 | with_reducible exact cst5 | with_reducible exact cst6 | with_reducible exact cst7 | with_reducible exact cst8 | with_reducible exact cst14 | with_reducible exact cst15 | with_reducible exact cst25 | with_reducible exact cst30 | with_reducible exact cst31 | fail) ?_ ?_; · (repeat' (first | omega | refine And.intro ?_ ?_ | exact bnd_andl (by omega) | exact bnd_andr (by omega) | refine bnd_or ?_ ?_ | refine bnd_or31 ?_ ?_ | refine bnd_xor ?_ ?_ | refine bnd_xor31 ?_ ?_ | refine bnd_shr ?_ | refine bnd_shl ?_ ?_ | refine bnd_mod ?_ | refine bnd_andl ?_ | fail))) | fail) | refine SetN.mk _ rfl ?_ | refine PtrN.base _ hm2 ?_ | refine PtrN.base _ hm3 ?_ | refine PtrN.base _ (hm2b _) ?_ | refine SideN.mk ⟨hcln, rfl, rfl, hbt, hmx⟩ ?_ | refine DrawN.mk' [] ?_ | fail))); all_goals (conv => whnf)
      rw [cyLA_set]
      refine ⟨⟨k + 1, by show k + 1 ≤ _; omega, by show b.ser.length - (k + 1) < b.ser.length - k; omega, ⟨⟨_, rfl, Wk.refl _⟩, trivial⟩, .inr ⟨⟨_, rfl, Wk.refl _⟩, ⟨_, rfl, Wk.refl _⟩, ⟨_, rfl, Wk.refl _⟩, ⟨_, rfl, Wk.refl _⟩, trivial⟩, _, .app (.app (.refl H) ?_) (.refl _), .inr ⟨by simp [belowRE, below, tr], cyLA_below b H.length (k + 1)⟩⟩⟩
      simp only [cyLA]
      rw [hns1]
      exact .cons (.refl _) (.cons (.refl _) (.cons (.refl _) (.cons (.vec (.app (.id _) ⟨Wk.refl _, wk_sl _ _ _, trivial⟩)) .nil)))
  · have hkn : k = b.ser.length := by omega
    subst hkn
    (repeat' ((conv => whnf); (first | (refine IfN.id ?_; first | refine IfN.dF (by omega) ?_ | fail) | refine DrawN.mk' [] ?_ | fail))); all_goals (conv => whnf)
    refine LeftX.ofB _ [(2, .lp 1 0), (3, .lp 2 0), (14, .v (.sl none b.ser.length (b.ser.flatMap Ser.cells))), (15, .v (.int .i64 b.ser.length))] rfl rfl rfl ?_
    (repeat' ((conv => whnf); (first | refine DrawN.mk' [] ?_ | fail))); all_goals (conv => whnf)
    refine .keep _ (.refl _) ⟨rfl, ?_⟩
    simp [cyLA, List.set]


def cyLB (b : Bk) (n0 k : Nat) (r : List AV) : Heap := [.box 25 b.cells, .box 25 r, .tok 34 7 (b.ent.length * 7), .box 25 [.vs (n0 + 4) k, .sl (some (n0 + 2)) b.ent.length (b.ent.flatMap Ent.cells)], .vec 79 2 ((b.ser.take k).flatMap Ser.cells)]
theorem cyLB_below (b : Bk) (n0 k : Nat) : belowH (n0 + (cyLB b n0 k [.nils, .nils]).length) (cyLB b n0 k [.nils, .nils]) := by
  simp [cyLB, belowH, Blk.below, belowL, below, Bk.cells, sers_below, ents_below]
theorem cyLB_set (H : Heap) (b : Bk) (k : Nat) (r : List AV) (V B : Blk) : ((H ++ cyLB b H.length k r).set (H.length + 4) V).set (H.length + (0 + 1 + 1 + 1)) B = H ++ [.box 25 b.cells, .box 25 r, .tok 34 7 (b.ent.length * 7), B, V] := by
  unfold cyLB
  rw [set_loc', set_loc']
  rfl
theorem copyBookB_c (b : Bk) (hs : b.ser.length ≤ 1000) (he : b.ent.length ≤ 1000000) (h0 : b.ent ≠ []) (hv : ∀ s ∈ b.ser, s.vers.length ≤ 1000000 ∧ ∀ v ∈ s.vers, v.sch.lates.length ≤ 1000000) (H : Heap) : VCall Try.prog 39 [.agg b.cells] H fun r H' => r = .agg [.vs (H.length + 4) b.ser.length, .sl (some (H.length + 2)) b.ent.length (b.ent.flatMap Ent.cells)] ∧ H' = H ++ cyLB b H.length b.ser.length [.vs (H.length + 4) b.ser.length, .sl (some (H.length + 2)) b.ent.length (b.ent.flatMap Ent.cells)] := by
  have hcl67 := fun B1 B2 : Blk => (by
    have := clone67_k b.ent he h0 (H ++ [B1, B2])
    rwa [show (H ++ [B1, B2]).length + 0 = H.length + 2 by simp] at this : VCall Try.prog 67 [.sl none b.ent.length (b.ent.flatMap Ent.cells)] (H ++ [B1, B2]) fun r H' => r = .sl (some (H.length + 2)) b.ent.length (b.ent.flatMap Ent.cells) ∧ H' = (H ++ [B1, B2]) ++ [.tok 34 7 (b.ent.length * 7)])
  have hcb : b.cells = [.sl none b.ser.length (b.ser.flatMap Ser.cells), .sl none b.ent.length (b.ent.flatMap Ent.cells)] := rfl
  have hL0 : ([.box 25 [.sl none b.ser.length (b.ser.flatMap Ser.cells), .sl none b.ent.length (b.ent.flatMap Ent.cells)], .box 25 [.nils, .nils], .tok 34 7 (b.ent.length * 7), .box 25 [.vs (H.length + 4) 0, .sl (some (H.length + 2)) b.ent.length (b.ent.flatMap Ent.cells)], .vec 79 2 []] : Heap) = cyLB b H.length 0 [.nils, .nils] := rfl
  refine fn_gen Try.E0 Try.mx Try.func39 (by kernel_rfl) rfl (Nat.le_of_ble_eq_true rfl) rfl fun hcl hbl => ?_
  rw [hcb]
  (repeat' ((conv => whnf); (first | refine CallN.grow _ _ _ 3 (hcl67 _ _) rfl rfl rfl ?_ | refine DrawN.mk' [] ?_ | fail))); all_goals (conv => whnf)
  refine LoopN.vecB 3 0 79 2 rfl rfl rfl rfl rfl rfl ?_
  refine loop_X Try.E0 Try.mx (σ := Nat) (fun k => k ≤ b.ser.length) (fun k => b.ser.length - k) (fun k => [(16, .v (.int .i64 k))]) (fun k => cyLB b H.length k [.nils, .nils]) _ 0 rfl hcl [2, 3, 14, 15] rfl (Nat.zero_le _) ⟨⟨_, rfl, Wk.refl _⟩, trivial⟩ hL0 (fun s _ => by simp [cyLB]) ?_
  intro k hk
  rcases Nat.lt_or_ge k b.ser.length with hlt | hge
  · have htk := take_snoc b.ser ser0 k hlt
    have hns1 : (b.ser.take (k + 1)).flatMap Ser.cells = (b.ser.take k).flatMap Ser.cells ++ (b.ser.getD k ser0).cells := by
      rw [htk, List.flatMap_append]
      simp
    obtain ⟨nm, vs, hv1⟩ := ser_ex (b.ser.getD k ser0)
    have e1 := ser_cells hv1
    rw [e1] at hns1
    have hvb := hv _ (getD_mem ser0 hlt)
    rw [hv1] at hvb
    simp only at hvb
    obtain ⟨hvl, hlat⟩ := hvb
    obtain ⟨NL, hNL⟩ : ∃ NL, (cyLB b H.length k [.nils, .nils]).length = NL := ⟨_, rfl⟩
    rw [hNL]
    have hm3 : (H ++ cyLB b H.length k [.nils, .nils])[H.length + 4]? = some (.vec 79 2 ((b.ser.take k).flatMap Ser.cells)) := at_loc0 rfl
    have hm2 : (H ++ cyLB b H.length k [.nils, .nils])[H.length + 3]? = some (.box 25 [.vs (H.length + 4) k, .sl (some (H.length + 2)) b.ent.length (b.ent.flatMap Ent.cells)]) := at_loc0 rfl
    have hm2b : ∀ M, ((H ++ cyLB b H.length k [.nils, .nils]).set (H.length + 4) M)[H.length + 3]? = some (.box 25 [.vs (H.length + 4) k, .sl (some (H.length + 2)) b.ent.length (b.ent.flatMap Ent.cells)]) := fun M => by
      rw [List.getElem?_set_ne (by omega), hm2]
    have hbt : (k + 1) * 40 ≤ 140737488355328 := by omega
    have hmx : k + 1 ≤ maxLen := Nat.le_trans (show k + 1 ≤ 1000001 by omega) (by decide)
    have hcln : ((b.ser.take k).flatMap Ser.cells).length = k * 2 := by rw [flat_length ser_size, List.length_take, Nat.min_eq_left hk]
    (repeat' ((conv => whnf); (first | (refine IfN.id ?_; first | refine IfN.dT (by omega) ?_ | fail) | (refine SideN.mk ?_ ?_; · first | kernel_rfl | omega | exact List.cons_ne_nil _ _ | (simp; done) | (simp; omega) | exact trivial | assumption | fail) | refine SegN.nthE ser0 k rfl (by omega) ser_size e1 ?_ | refine DrawN.mk' [] ?_ | fail))); all_goals (conv => whnf)
    refine LoopN.tokB 1 1 30 8 (by rw [List.length_append, hNL]) rfl rfl rfl rfl rfl ?_
    refine loop_R Try.E0 Try.mx (σ := Nat) (fun i => i ≤ vs.length) (fun i => vs.length - i) (fun i => [(26, .v (.int .i64 i))]) (fun i => [.box 79 [.str nm, .sl none vs.length (vs.flatMap Ver.cells)], .box 79 [.str nm, .sl (some (H.length + NL + 2)) i ((vs.take i).flatMap Ver.cells)], .tok 30 8 ((vs.take i).flatMap Ver.cells).length]) _ 0 (by rw [List.length_append, hNL]) (closed_loc hcl fun B hB => by
      rw [List.length_append]
      exact mem_belowH (cyLB_below b H.length k) B hB) [2, 3, 5, 6, 14, 15, 16, 24, 25] rfl (Nat.zero_le _) ⟨⟨_, rfl, Wk.refl _⟩, trivial⟩ rfl (fun _ _ => rfl) ?_
    intro i hi
    rcases Nat.lt_or_ge i vs.length with hil | hige
    · have hvt := take_snoc vs ver0 i hil
      obtain ⟨at_, pts, part, att, rty, hnt, cnt, lates, hv2⟩ := ver_ex (vs.getD i ver0)
      have e2 := ver_cells hv2
      have hns : (vs.take (i + 1)).flatMap Ver.cells = (vs.take i).flatMap Ver.cells ++ (vs.getD i ver0).cells := by
        rw [hvt, List.flatMap_append]
        simp
      rw [e2] at hns
      have hco := fun H => copyS_c ⟨pts, part, att, rty, hnt, cnt, lates⟩ (by
        have := hlat _ (getD_mem ver0 hil)
        rw [hv2] at this
        exact this) H
      unfold Sch.cells at hco
      simp only at hco
      have hbt : (i + 1) * 80 ≤ 140737488355328 := by omega
      have hmx : i + 1 ≤ maxLen := Nat.le_trans (show i + 1 ≤ 1000001 by omega) (by decide)
      have hml : ((vs.take i).flatMap Ver.cells).length = i * 8 := by rw [flat_length ver_size, List.length_take, Nat.min_eq_left hi]
      (repeat' ((conv => whnf); (first | (refine IfN.id ?_; first | refine IfN.dT (by omega) ?_ | fail) | (refine EqN.id ?_; first | (refine EqN.addN _ _ (by first | with_reducible rfl | with_reducible exact cst1 | with_reducible exact cst0 | with_reducible exact cst2 | with_reducible exact cst3 | with_reducible exact cst4 | with_reducible exact cst5 | with_reducible exact cst6 | with_reducible exact cst7 | with_reducible exact cst8 | with_reducible exact cst14 | with_reducible exact cst15 | with_reducible exact cst25 | with_reducible exact cst30 | with_reducible exact cst31 | fail) (by first | with_reducible rfl | with_reducible exact cst1 | with_reducible exact cst0 | with_reducible exact cst2 | with_reducible exact cst3 | with_reducible exact cst4 | with_reducible exact cst5 | with_reducible exact cst6 | with_reducible exact cst7 | with_reducible exact cst8 | with_reducible exact cst14 | with_reducible exact cst15 | with_reducible exact cst25 | with_reducible exact cst30 | with_reducible exact cst31 | fail) ?_ ?_; · (repeat' (first | omega | refine And.intro ?_ ?_ | exact bnd_andl (by omega) | exact bnd_andr (by omega) | refine bnd_or ?_ ?_ | refine bnd_or31 ?_ ?_ | refine bnd_xor ?_ ?_ | refine bnd_xor31 ?_ ?_ | refine bnd_shr ?_ | refine bnd_shl ?_ ?_ | refine bnd_mod ?_ | refine bnd_andl ?_ | fail))) | fail) | (refine SideN.mk ?_ ?_; · first | kernel_rfl | omega | exact List.cons_ne_nil _ _ | (simp; done) | (simp; omega) | exact trivial | assumption | fail) | (refine CallD.id ?_; first | refine CallD.det _ (fun _ hq X => hco _) ?_ | fail) | refine SegN.nthE ver0 i rfl (by omega) ver_size e2 ?_ | refine SideN.mk ⟨rfl, rfl, rfl, hbt, hmx⟩ ?_ | (refine PtrN.id ?_; first | refine PtrN.loc _ rfl ?_ | fail) | refine DrawN.mk' [] ?_ | fail))); all_goals (conv => whnf)
      rw [← hns]
      (refine ⟨⟨i + 1, by show i + 1 ≤ _; omega, by omega, ?_, .inl ⟨rfl, rfl⟩, rfl, _, rfl, ?_⟩⟩; rotate_left 1; (first | exact .inl rfl | exact .inr ⟨by simp [belowRE, below, belowL, tr, sers_below, vers_below, ents_below, ent_below, ser_below, ver_below, encP_below, ksA_below, cntA_below, rows_below], by simp [belowH, Blk.below, belowL, below, sers_below, vers_below, ents_below, ent_below, ser_below, ver_below, encP_below, ksA_below, cntA_below, rows_below]⟩ | fail); (repeat' (first | exact trivial | refine ⟨⟨_, rfl, ?_⟩, ?_⟩ | fail)); all_goals try (first | exact Wk.refl _ | exact Wk.of_eq (congrArg (AV.int _) (by omega)) | fail))
    · have hie : i = vs.length := by omega
      subst hie
      rw [List.take_length]
      (repeat' ((conv => whnf); (first | (refine IfN.id ?_; first | refine IfN.dF (by omega) ?_ | fail) | (refine EqN.id ?_; first | (refine EqN.addN _ _ (by first | with_reducible rfl | with_reducible exact cst1 | with_reducible exact cst0 | with_reducible exact cst2 | with_reducible exact cst3 | with_reducible exact cst4 | with_reducible exact cst5 | with_reducible exact cst6 | with_reducible exact cst7 | with_reducible exact cst8 | with_reducible exact cst14 | with_reducible exact cst15 | with_reducible exact cst25 | with_reducible exact cst30 | with_reducible exact cst31 | fail) (by first | with_reducible rfl | with_reducible exact cst1 | with_reducible exact cst0 | with_reducible exact cst2 | with_reducible exact cst3 | with_reducible exact cst4 | with_reducible exact cst5 | with_reducible exact cst6 | with_reducible exact cst7 | with_reducible exact cst8 | with_reducible exact cst14 | with_reducible exact cst15 | with_reducible exact cst25 | with_reducible exact cst30 | with_reducible exact cst31 | fail) ?_ ?_; · (repeat' (first | omega | refine And.intro ?_ ?_ | exact bnd_andl (by omega) | exact bnd_andr (by omega) | refine bnd_or ?_ ?_ | refine bnd_or31 ?_ ?_ | refine bnd_xor ?_ ?_ | refine bnd_xor31 ?_ ?_ | refine bnd_shr ?_ | refine bnd_shl ?_ ?_ | refine bnd_mod ?_ | refine bnd_andl ?_ | fail))) | fail) | refine SetN.mk _ rfl ?_ | refine PtrN.base _ hm2 ?_ | refine PtrN.base _ hm3 ?_ | refine PtrN.base _ (hm2b _) ?_ | refine SideN.mk ⟨hcln, rfl, rfl, hbt, hmx⟩ ?_ | refine DrawN.mk' [] ?_ | fail))); all_goals (conv => whnf)
      rw [cyLB_set]
      refine ⟨⟨k + 1, by show k + 1 ≤ _; omega, by show b.ser.length - (k + 1) < b.ser.length - k; omega, ⟨⟨_, rfl, Wk.refl _⟩, trivial⟩, .inr ⟨⟨_, rfl, Wk.refl _⟩, ⟨_, rfl, Wk.refl _⟩, ⟨_, rfl, Wk.refl _⟩, ⟨_, rfl, Wk.refl _⟩, trivial⟩, _, .app (.app (.refl H) ?_) (.refl _), .inr ⟨by simp [belowRE, below, tr], cyLB_below b H.length (k + 1)⟩⟩⟩
      simp only [cyLB]
      rw [hns1]
      exact .cons (.refl _) (.cons (.refl _) (.cons (.refl _) (.cons (.refl _) (.cons (.vec (.app (.id _) ⟨Wk.refl _, wk_sl _ _ _, trivial⟩)) .nil))))
  · have hkn : k = b.ser.length := by omega
    subst hkn
    (repeat' ((conv => whnf); (first | (refine IfN.id ?_; first | refine IfN.dF (by omega) ?_ | fail) | refine DrawN.mk' [] ?_ | fail))); all_goals (conv => whnf)
    refine LeftX.ofB _ [(2, .lp 1 0), (3, .lp 3 0), (14, .v (.sl none b.ser.length (b.ser.flatMap Ser.cells))), (15, .v (.int .i64 b.ser.length))] rfl rfl rfl ?_
    (repeat' ((conv => whnf); (first | refine DrawN.mk' [] ?_ | fail))); all_goals (conv => whnf)
    refine .keep _ (.refl _) ⟨rfl, ?_⟩
    simp [cyLB, List.set]

end Go.Proofs.Ytgopbbkpcjgihaa
/-! text ZE38 -/
namespace Go.Proofs.Ytgopbbkpcjgihaa
open Go.Vsi
set_option maxHeartbeats 4000000
set_option linter.unusedSimpArgs false
attribute [local irreducible] VW VCall VO bits

def wrk1 (w : Wrk) : Wrk := ⟨w.prog, w.days, 1, w.hints⟩
def subIn (b : Bk) (e : Ent) : Bool := validF b && (isName e.stu && (isName e.exe && (isDay e.day && wvalid (wrk1 e.work))))
def subPast (b : Bk) (e : Ent) : Bool := decide (0 < b.ent.length) && decide (e.day < (b.ent.getD (b.ent.length - 1) ent0).day)
def subAtt (b : Bk) (e : Ent) : Nat := cntK b.ent (keyOf e) + 1
def subFull (b : Bk) (e : Ent) : Bool := decide (2000 ≤ b.ent.length) || decide (100 < subAtt b e)
def subE (b : Bk) (e : Ent) : Int := if subIn b e then (if subPast b e then 380 else if (forceF b e.exe e.day).isSome then (if subFull b e then 5 else 0) else 6) else 2
def subEnt (b : Bk) (e : Ent) : Ent := ⟨e.stu, e.exe, e.day, ⟨e.work.prog, e.work.days, (subAtt b e : Nat), e.work.hints⟩⟩
def subF (b : Bk) (e : Ent) : Bk := if subE b e = 0 then ⟨b.ser, b.ent ++ [subEnt b e]⟩ else bk0
theorem schOne : validB ⟨0, 0, 0, 0, 0, 1, []⟩ = true := by decide
theorem grade1_c (w : Wrk) (H : Heap) : VDet Try.prog 31 [.agg [.int .i64 0, .int .i64 0, .nils, .int .i64 0, .int .i64 0, .int .i64 0, .int .u8 1], .agg w.cells] H (.tup [.agg (gradeF ⟨0, 0, 0, 0, 0, 1, []⟩ w).1.cells, .int .i64 (gradeF ⟨0, 0, 0, 0, 0, 1, []⟩ w).2]) :=
  VDet.wk (grade_c ⟨0, 0, 0, 0, 0, 1, []⟩ w H) ⟨wk_agg ⟨Wk.refl _, Wk.refl _, wk_nils, Wk.refl _, Wk.refl _, Wk.refl _, Wk.refl _, trivial⟩, Wk.refl _, trivial⟩
theorem submit_in (b : Bk) (hb : b.Sm) (e : Ent) (hi : subIn b e = false) (H : Heap) : VDet Try.prog 14 [.agg b.cells, .agg e.cells] H (.tup [.agg bk0.cells, .int .i64 2]) := by
  have hva := fun H => validBk_c b hb H
  have hgr := fun H => grade1_c (wrk1 e.work) H
  have hcb : b.cells = [.sl none b.ser.length (b.ser.flatMap Ser.cells), .sl none b.ent.length (b.ent.flatMap Ent.cells)] := rfl
  unfold subIn at hi
  obtain ⟨stu, exe, day, a1, a2, a3, a4, hv1⟩ := ent_ex e
  rw [hv1] at hi hgr
  rw [ent_cells hv1]
  unfold wrk1 Wrk.cells at hgr
  simp only [wrk1] at hi hgr
  rw [hcb] at hva ⊢
  cases hV : validF b <;> rw [hV] at hva hi
  · refine fn_det Try.E0 Try.mx Try.func14 (by kernel_rfl) rfl (Nat.le_of_ble_eq_true rfl) rfl fun hcl hbl => ?_
    (repeat' ((conv => whnf); (first | (refine IfN.id ?_; first | refine IfN.not ?_ | refine IfN.ff rfl ?_ | fail) | (refine CallN.id ?_; first | refine CallN.det _ (hva _) ?_ | fail) | refine DrawN.mk' [] ?_ | fail))); all_goals (conv => whnf)
    exact EndN.det (bk0_below _ _) (bk0_wk _)
  · cases hN : isName stu <;> rw [hN] at hi
    · refine fn_det Try.E0 Try.mx Try.func14 (by kernel_rfl) rfl (Nat.le_of_ble_eq_true rfl) rfl fun hcl hbl => ?_
      (repeat' ((conv => whnf); (first | (refine IfN.id ?_; first | refine IfN.not ?_ | refine IfN.tt rfl ?_ | refine IfN.ff (by assumption) ?_ | fail) | (refine CallN.id ?_; first | refine CallN.det _ (hva _) ?_ | refine CallN.det _ (isName_c _ _) ?_ | fail) | refine DrawN.mk' [] ?_ | fail))); all_goals (conv => whnf)
      exact EndN.det (bk0_below _ _) (bk0_wk _)
    · cases hN2 : isName exe <;> rw [hN2] at hi
      · refine fn_det Try.E0 Try.mx Try.func14 (by kernel_rfl) rfl (Nat.le_of_ble_eq_true rfl) rfl fun hcl hbl => ?_
        (repeat' ((conv => whnf); (first | (refine IfN.id ?_; first | refine IfN.not ?_ | refine IfN.tt rfl ?_ | refine IfN.tt (by assumption) ?_ | refine IfN.ff (by assumption) ?_ | fail) | (refine CallN.id ?_; first | refine CallN.det _ (hva _) ?_ | refine CallN.det _ (isName_c _ _) ?_ | fail) | refine DrawN.mk' [] ?_ | fail))); all_goals (conv => whnf)
        exact EndN.det (bk0_below _ _) (bk0_wk _)
      · cases hD : isDay day <;> rw [hD] at hi
        · refine fn_det Try.E0 Try.mx Try.func14 (by kernel_rfl) rfl (Nat.le_of_ble_eq_true rfl) rfl fun hcl hbl => ?_
          (repeat' ((conv => whnf); (first | (refine IfN.id ?_; first | refine IfN.not ?_ | refine IfN.tt rfl ?_ | refine IfN.tt (by assumption) ?_ | refine IfN.ff (by assumption) ?_ | fail) | (refine CallN.id ?_; first | refine CallN.det _ (hva _) ?_ | refine CallN.det _ (isName_c _ _) ?_ | refine CallN.det _ (isDay_c _ _) ?_ | fail) | refine DrawN.mk' [] ?_ | fail))); all_goals (conv => whnf)
          exact EndN.det (bk0_below _ _) (bk0_wk _)
        · have hS : wvalid ⟨a1, a2, 1, a4⟩ = false := by simpa using hi
          have hg : gradeF ⟨0, 0, 0, 0, 0, 1, []⟩ ⟨a1, a2, 1, a4⟩ = (⟨0, 0, 0, 0, 0⟩, 2) := if_neg (by simp [hS])
          rw [hg] at hgr
          unfold Mrk.cells at hgr
          refine fn_det Try.E0 Try.mx Try.func14 (by kernel_rfl) rfl (Nat.le_of_ble_eq_true rfl) rfl fun hcl hbl => ?_
          (repeat' ((conv => whnf); (first | (refine IfN.id ?_; first | refine IfN.not ?_ | refine IfN.tt rfl ?_ | refine IfN.ff rfl ?_ | refine IfN.tt (by assumption) ?_ | fail) | (refine CallN.id ?_; first | refine CallN.det _ (hva _) ?_ | refine CallN.det _ (isName_c _ _) ?_ | refine CallN.det _ (isDay_c _ _) ?_ | refine CallN.det _ (hgr _) ?_ | fail) | refine DrawN.mk' [] ?_ | fail))); all_goals (conv => whnf)
          exact EndN.det (bk0_below _ _) (bk0_wk _)
end Go.Proofs.Ytgopbbkpcjgihaa
/-! text ZF38 -/
namespace Go.Proofs.Ytgopbbkpcjgihaa
open Go.Vsi
set_option maxHeartbeats 4000000
set_option linter.unusedSimpArgs false
attribute [local irreducible] VW VCall VO bits

theorem submit_no (b : Bk) (hb : b.Sm) (e : Ent) (hi : subIn b e = true) (r : Int) (hE : subE b e = r) (hr : subPast b e = true ∨ (forceF b e.exe e.day).isSome = false) (H : Heap) : VDet Try.prog 14 [.agg b.cells, .agg e.cells] H (.tup [.agg bk0.cells, .int .i64 r]) := by
  have hva := fun H => validBk_c b hb H
  have hif := fun H => inForce_c b hb.ser hb.vers e.exe e.day H
  have hgr := fun H => grade1_c (wrk1 e.work) H
  have hcb : b.cells = [.sl none b.ser.length (b.ser.flatMap Ser.cells), .sl none b.ent.length (b.ent.flatMap Ent.cells)] := rfl
  unfold subE at hE
  rw [hi] at hE
  simp only [if_true] at hE
  unfold subIn at hi
  simp only [Bool.and_eq_true] at hi
  obtain ⟨hV, hN, hN2, hD, hS⟩ := hi
  have hvb := validF_iff.1 hV
  have hnn := hvb.ne
  rw [hV] at hva
  rw [show gradeF ⟨0, 0, 0, 0, 0, 1, []⟩ (wrk1 e.work) = (markF ⟨0, 0, 0, 0, 0, 1, []⟩ (wrk1 e.work), 0) from if_pos ⟨schOne, hS⟩] at hgr
  obtain ⟨m1, m2, m3, m4, m5, hm⟩ : ∃ m1 m2 m3 m4 m5, (markF ⟨0, 0, 0, 0, 0, 1, []⟩ (wrk1 e.work)).cells = [.int .i64 m1, .int .i64 m2, .int .i64 m3, .int .i64 m4, .int .i64 m5] := ⟨_, _, _, _, _, rfl⟩
  simp only [hm] at hgr
  unfold subPast at hE hr
  obtain ⟨stu, exe, day, a1, a2, a3, a4, hv3⟩ := ent_ex (b.ent.getD (b.ent.length - 1) ent0)
  have e3 := ent_cells hv3
  rw [hv3] at hE hr
  obtain ⟨f1, f2, f3, f4, f5, f6, f7, f8, hv4⟩ := ver_ex ((forceF b e.exe e.day).getD ver0)
  rw [hv4] at hif
  unfold Sch.cells at hif
  obtain ⟨stu, exe, dy, a1, a2, a3, a4, hv1⟩ := ent_ex e
  rw [hv1] at hgr hE hD hN hN2 hif hr
  rw [ent_cells hv1]
  unfold wrk1 Wrk.cells at hgr
  simp only at hE hD hN hN2 hgr hif hr
  rw [hcb] at hva hif ⊢
  by_cases hP : 0 < b.ent.length
  · by_cases hQ : dy < day
    · have : r = 380 := by simpa [hP, hQ] using hE.symm
      subst this
      refine fn_det Try.E0 Try.mx Try.func14 (by kernel_rfl) rfl (Nat.le_of_ble_eq_true rfl) rfl fun hcl hbl => ?_
      (repeat' ((conv => whnf); (first | (refine IfN.id ?_; first | refine IfN.not ?_ | refine IfN.tt rfl ?_ | refine IfN.dT (by omega) ?_ | refine IfN.tt (by assumption) ?_ | fail) | (refine EqN.id ?_; first | (refine EqN.subN _ _ (by first | with_reducible rfl | with_reducible exact cst1 | with_reducible exact cst0 | with_reducible exact cst2 | with_reducible exact cst3 | with_reducible exact cst4 | with_reducible exact cst5 | with_reducible exact cst6 | with_reducible exact cst7 | with_reducible exact cst8 | with_reducible exact cst14 | with_reducible exact cst15 | with_reducible exact cst25 | with_reducible exact cst30 | with_reducible exact cst31 | fail) (by first | with_reducible rfl | with_reducible exact cst1 | with_reducible exact cst0 | with_reducible exact cst2 | with_reducible exact cst3 | with_reducible exact cst4 | with_reducible exact cst5 | with_reducible exact cst6 | with_reducible exact cst7 | with_reducible exact cst8 | with_reducible exact cst14 | with_reducible exact cst15 | with_reducible exact cst25 | with_reducible exact cst30 | with_reducible exact cst31 | fail) ?_ ?_; · (repeat' (first | omega | refine And.intro ?_ ?_ | exact bnd_andl (by omega) | exact bnd_andr (by omega) | refine bnd_or ?_ ?_ | refine bnd_or31 ?_ ?_ | refine bnd_xor ?_ ?_ | refine bnd_xor31 ?_ ?_ | refine bnd_shr ?_ | refine bnd_shl ?_ ?_ | refine bnd_mod ?_ | refine bnd_andl ?_ | fail))) | fail) | (refine SideN.mk ?_ ?_; · first | kernel_rfl | omega | exact List.cons_ne_nil _ _ | (simp; done) | (simp; omega) | exact trivial | assumption | fail) | (refine CallN.id ?_; first | refine CallN.det _ (hva _) ?_ | refine CallN.det _ (isName_c _ _) ?_ | refine CallN.det _ (isDay_c _ _) ?_ | refine CallN.det _ (hgr _) ?_ | fail) | refine SegN.nthE ent0 (b.ent.length - 1) (by omega) (by omega) ent_size e3 ?_ | refine DrawN.mk' [] ?_ | fail))); all_goals (conv => whnf)
      exact EndN.det (bk0_below _ _) (bk0_wk _)
    · have hF : (forceF b exe dy).isSome = false := by simpa [hP, hQ] using hr
      have : r = 6 := by simpa [hP, hQ, hF] using hE.symm
      subst this
      rw [hF] at hif
      refine fn_det Try.E0 Try.mx Try.func14 (by kernel_rfl) rfl (Nat.le_of_ble_eq_true rfl) rfl fun hcl hbl => ?_
      (repeat' ((conv => whnf); (first | (refine IfN.id ?_; first | refine IfN.not ?_ | refine IfN.tt rfl ?_ | refine IfN.ff rfl ?_ | refine IfN.dT (by omega) ?_ | refine IfN.dF (by omega) ?_ | refine IfN.tt (by assumption) ?_ | fail) | (refine EqN.id ?_; first | (refine EqN.subN _ _ (by first | with_reducible rfl | with_reducible exact cst1 | with_reducible exact cst0 | with_reducible exact cst2 | with_reducible exact cst3 | with_reducible exact cst4 | with_reducible exact cst5 | with_reducible exact cst6 | with_reducible exact cst7 | with_reducible exact cst8 | with_reducible exact cst14 | with_reducible exact cst15 | with_reducible exact cst25 | with_reducible exact cst30 | with_reducible exact cst31 | fail) (by first | with_reducible rfl | with_reducible exact cst1 | with_reducible exact cst0 | with_reducible exact cst2 | with_reducible exact cst3 | with_reducible exact cst4 | with_reducible exact cst5 | with_reducible exact cst6 | with_reducible exact cst7 | with_reducible exact cst8 | with_reducible exact cst14 | with_reducible exact cst15 | with_reducible exact cst25 | with_reducible exact cst30 | with_reducible exact cst31 | fail) ?_ ?_; · (repeat' (first | omega | refine And.intro ?_ ?_ | exact bnd_andl (by omega) | exact bnd_andr (by omega) | refine bnd_or ?_ ?_ | refine bnd_or31 ?_ ?_ | refine bnd_xor ?_ ?_ | refine bnd_xor31 ?_ ?_ | refine bnd_shr ?_ | refine bnd_shl ?_ ?_ | refine bnd_mod ?_ | refine bnd_andl ?_ | fail))) | fail) | (refine SideN.mk ?_ ?_; · first | kernel_rfl | omega | exact List.cons_ne_nil _ _ | (simp; done) | (simp; omega) | exact trivial | assumption | fail) | (refine CallN.id ?_; first | refine CallN.det _ (hva _) ?_ | refine CallN.det _ (isName_c _ _) ?_ | refine CallN.det _ (isDay_c _ _) ?_ | refine CallN.det _ (hgr _) ?_ | refine CallN.det _ (hif _) ?_ | fail) | refine SegN.nthE ent0 (b.ent.length - 1) (by omega) (by omega) ent_size e3 ?_ | refine DrawN.mk' [] ?_ | fail))); all_goals (conv => whnf)
      exact EndN.det (bk0_below _ _) (bk0_wk _)
  · have hF : (forceF b exe dy).isSome = false := by simpa [hP] using hr
    have : r = 6 := by simpa [hP, hF] using hE.symm
    subst this
    rw [hF] at hif
    refine fn_det Try.E0 Try.mx Try.func14 (by kernel_rfl) rfl (Nat.le_of_ble_eq_true rfl) rfl fun hcl hbl => ?_
    (repeat' ((conv => whnf); (first | (refine IfN.id ?_; first | refine IfN.not ?_ | refine IfN.tt rfl ?_ | refine IfN.ff rfl ?_ | refine IfN.dF (by omega) ?_ | refine IfN.tt (by assumption) ?_ | fail) | (refine SideN.mk ?_ ?_; · first | kernel_rfl | omega | exact List.cons_ne_nil _ _ | (simp; done) | (simp; omega) | exact trivial | assumption | fail) | (refine CallN.id ?_; first | refine CallN.det _ (hva _) ?_ | refine CallN.det _ (isName_c _ _) ?_ | refine CallN.det _ (isDay_c _ _) ?_ | refine CallN.det _ (hgr _) ?_ | refine CallN.det _ (hif _) ?_ | fail) | refine DrawN.mk' [] ?_ | fail))); all_goals (conv => whnf)
    exact EndN.det (bk0_below _ _) (bk0_wk _)
end Go.Proofs.Ytgopbbkpcjgihaa
/-! text ZG38 -/
namespace Go.Proofs.Ytgopbbkpcjgihaa
open Go.Vsi
set_option maxHeartbeats 4000000
set_option linter.unusedSimpArgs false
attribute [local irreducible] VW VCall VO bits

theorem submit_some (b : Bk) (hb : b.Sm) (e : Ent) (hi : subIn b e = true) (hP1 : subPast b e = false) (hF : (forceF b e.exe e.day).isSome = true) (H : Heap) : VDet Try.prog 14 [.agg b.cells, .agg e.cells] H (.tup [.agg (subF b e).cells, .int .i64 (subE b e)]) := by
  have hE : subE b e = (if subFull b e then 5 else 0) := by
    unfold subE
    rw [hi, hP1, hF]
    rfl
  unfold subF subEnt at *
  unfold subFull at hE
  have hat : subAtt b e = cntK b.ent (e.exe, e.stu) + 1 := rfl
  have hva := fun H => validBk_c b hb H
  have hif := fun H => inForce_c b hb.ser hb.vers e.exe e.day H
  have hgr := fun H => grade1_c (wrk1 e.work) H
  have hcb : b.cells = [.sl none b.ser.length (b.ser.flatMap Ser.cells), .sl none b.ent.length (b.ent.flatMap Ent.cells)] := rfl
  unfold subIn at hi
  simp only [Bool.and_eq_true] at hi
  obtain ⟨hV, hN, hN2, hD, hS⟩ := hi
  have hvb := validF_iff.1 hV
  have hnn := hvb.ne
  rw [hV] at hva
  rw [show gradeF ⟨0, 0, 0, 0, 0, 1, []⟩ (wrk1 e.work) = (markF ⟨0, 0, 0, 0, 0, 1, []⟩ (wrk1 e.work), 0) from if_pos ⟨schOne, hS⟩] at hgr
  obtain ⟨m1, m2, m3, m4, m5, hm⟩ : ∃ m1 m2 m3 m4 m5, (markF ⟨0, 0, 0, 0, 0, 1, []⟩ (wrk1 e.work)).cells = [.int .i64 m1, .int .i64 m2, .int .i64 m3, .int .i64 m4, .int .i64 m5] := ⟨_, _, _, _, _, rfl⟩
  simp only [hm] at hgr
  unfold subPast at hP1
  obtain ⟨stu, exe, day, a1, a2, a3, a4, hv3⟩ := ent_ex (b.ent.getD (b.ent.length - 1) ent0)
  have e3 := ent_cells hv3
  rw [hv3] at hP1
  obtain ⟨f1, f2, f3, f4, f5, f6, f7, f8, hv4⟩ := ver_ex ((forceF b e.exe e.day).getD ver0)
  rw [hv4] at hif
  unfold Sch.cells at hif
  obtain ⟨stu, exe, dy, a1, a2, a3, a4, hv1⟩ := ent_ex e
  rw [hv1] at hgr hE hD hN hN2 hif hF hP1 hat ⊢
  rw [ent_cells rfl]
  unfold wrk1 Wrk.cells at hgr
  simp only at hE hD hN hN2 hgr hif hF hP1 hat ⊢
  rw [hF] at hif
  rw [hcb] at hva hif ⊢
  by_cases hP : 0 < b.ent.length
  · have hQ : ¬ dy < day := by simpa [hP] using hP1
    refine fn_det Try.E0 Try.mx Try.func14 (by kernel_rfl) rfl (Nat.le_of_ble_eq_true rfl) rfl fun hcl hbl => ?_
    (repeat' ((conv => whnf); (first | (refine IfN.id ?_; first | refine IfN.not ?_ | refine IfN.tt rfl ?_ | refine IfN.dT (by omega) ?_ | refine IfN.dF (by omega) ?_ | refine IfN.tt (by assumption) ?_ | fail) | (refine EqN.id ?_; first | (refine EqN.subN _ _ (by first | with_reducible rfl | with_reducible exact cst1 | with_reducible exact cst0 | with_reducible exact cst2 | with_reducible exact cst3 | with_reducible exact cst4 | with_reducible exact cst5 | with_reducible exact cst6 | with_reducible exact cst7 | with_reducible exact cst8 | with_reducible exact cst14 | with_reducible exact cst15 | with_reducible exact cst25 | with_reducible exact cst30 | with_reducible exact cst31 | fail) (by first | with_reducible rfl | with_reducible exact cst1 | with_reducible exact cst0 | with_reducible exact cst2 | with_reducible exact cst3 | with_reducible exact cst4 | with_reducible exact cst5 | with_reducible exact cst6 | with_reducible exact cst7 | with_reducible exact cst8 | with_reducible exact cst14 | with_reducible exact cst15 | with_reducible exact cst25 | with_reducible exact cst30 | with_reducible exact cst31 | fail) ?_ ?_; · (repeat' (first | omega | refine And.intro ?_ ?_ | exact bnd_andl (by omega) | exact bnd_andr (by omega) | refine bnd_or ?_ ?_ | refine bnd_or31 ?_ ?_ | refine bnd_xor ?_ ?_ | refine bnd_xor31 ?_ ?_ | refine bnd_shr ?_ | refine bnd_shl ?_ ?_ | refine bnd_mod ?_ | refine bnd_andl ?_ | fail))) | fail) | (refine SideN.mk ?_ ?_; · first | kernel_rfl | omega | exact List.cons_ne_nil _ _ | (simp; done) | (simp; omega) | exact trivial | assumption | fail) | (refine CallN.id ?_; first | refine CallN.det _ (hva _) ?_ | refine CallN.det _ (isName_c _ _) ?_ | refine CallN.det _ (isDay_c _ _) ?_ | refine CallN.det _ (hgr _) ?_ | refine CallN.det _ (hif _) ?_ | fail) | refine SegN.nthE ent0 (b.ent.length - 1) (by omega) (by omega) ent_size e3 ?_ | refine DrawN.mk' [] ?_ | fail))); all_goals (conv => whnf)
    refine loop_R Try.E0 Try.mx (σ := Nat) (fun k => k ≤ b.ent.length) (fun k => b.ent.length - k) (fun k => [(81, .v (.int .i64 k))]) (fun k => [.box 25 [.sl none b.ser.length (b.ser.flatMap Ser.cells), .sl none b.ent.length (b.ent.flatMap Ent.cells)], .box 34 [.str stu, .str exe, .int .i64 dy, .int .i64 a1, .int .i64 a2, .int .i64 ((1 + cntK (b.ent.take k) (exe, stu) : Nat) : Int), .int .i64 a4], .box 25 [.nils, .nils], .box 97 [.int .i64 m1, .int .i64 m2, .int .i64 m3, .int .i64 m4, .int .i64 m5], .box 28 [.int .i64 f2, .int .i64 f3, .sl none f8.length (f8.flatMap encP), .int .i64 f4, .int .i64 f5, .int .i64 f6, .int .u8 f7]]) _ 0 rfl hcl [2, 3, 4, 79, 80] rfl (Nat.zero_le _) ⟨⟨_, rfl, Wk.refl _⟩, trivial⟩ rfl (fun _ _ => rfl) ?_
    intro k hk
    rcases Nat.lt_or_ge k b.ent.length with hlt | hge
    · have hts := take_snoc b.ent ent0 k hlt
      have hck := cntK_le (b.ent.take k) (exe, stu)
      rw [List.length_take] at hck
      obtain ⟨es, ee, ed, w1, w2, w3, w4, hv5⟩ := ent_ex (b.ent.getD k ent0)
      have e5 := ent_cells hv5
      rw [hv5] at hts
      (repeat' ((conv => whnf); (first | (refine IfN.id ?_; first | refine IfN.dT (by omega) ?_ | (refine IfN.mk ?_ ?_ <;> intro _) | fail) | (refine EqN.id ?_; first | (refine EqN.addN _ _ (by first | with_reducible rfl | with_reducible exact cst1 | with_reducible exact cst0 | with_reducible exact cst2 | with_reducible exact cst3 | with_reducible exact cst4 | with_reducible exact cst5 | with_reducible exact cst6 | with_reducible exact cst7 | with_reducible exact cst8 | with_reducible exact cst14 | with_reducible exact cst15 | with_reducible exact cst25 | with_reducible exact cst30 | with_reducible exact cst31 | fail) (by first | with_reducible rfl | with_reducible exact cst1 | with_reducible exact cst0 | with_reducible exact cst2 | with_reducible exact cst3 | with_reducible exact cst4 | with_reducible exact cst5 | with_reducible exact cst6 | with_reducible exact cst7 | with_reducible exact cst8 | with_reducible exact cst14 | with_reducible exact cst15 | with_reducible exact cst25 | with_reducible exact cst30 | with_reducible exact cst31 | fail) ?_ ?_; · (repeat' (first | omega | refine And.intro ?_ ?_ | exact bnd_andl (by omega) | exact bnd_andr (by omega) | refine bnd_or ?_ ?_ | refine bnd_or31 ?_ ?_ | refine bnd_xor ?_ ?_ | refine bnd_xor31 ?_ ?_ | refine bnd_shr ?_ | refine bnd_shl ?_ ?_ | refine bnd_mod ?_ | refine bnd_andl ?_ | fail))) | fail) | (refine SideN.mk ?_ ?_; · first | kernel_rfl | omega | exact List.cons_ne_nil _ _ | (simp; done) | (simp; omega) | exact trivial | assumption | fail) | refine SegN.nthE ent0 k rfl (by omega) ent_size e5 ?_ | refine DrawN.mk' [] ?_ | fail))); all_goals (conv => whnf)
      · have g1 : es = stu := eqS_iff.1 ‹_›
        have g2 : ee = exe := eqS_iff.1 ‹_›
        have hcs : cntK (b.ent.take (k + 1)) (exe, stu) = cntK (b.ent.take k) (exe, stu) + 1 := by
          rw [hts, ← g1, ← g2]
          exact cntK_snoc _ _
        rw [show 1 + cntK (b.ent.take k) (exe, stu) + 1 = 1 + cntK (b.ent.take (k + 1)) (exe, stu) by omega]
        (refine ⟨⟨k + 1, by show k + 1 ≤ _; omega, by omega, ?_, .inl ⟨rfl, rfl⟩, rfl, _, rfl, ?_⟩⟩; rotate_left 1; (first | exact .inl rfl | exact .inr ⟨by simp [belowRE, below, belowL, tr, sers_below, vers_below, ents_below, ent_below, ser_below, ver_below, encP_below, ksA_below, cntA_below, rows_below], by simp [belowH, Blk.below, belowL, below, sers_below, vers_below, ents_below, ent_below, ser_below, ver_below, encP_below, ksA_below, cntA_below, rows_below]⟩ | fail); (repeat' (first | exact trivial | refine ⟨⟨_, rfl, ?_⟩, ?_⟩ | fail)); all_goals try (first | exact Wk.refl _ | exact Wk.of_eq (congrArg (AV.int _) (by omega)) | fail))
      · have g2 : ¬ ee = exe := fun h => by
          have h1 := eqS_iff.2 h
          have h2 : (ee.toList == exe.toList) = false := ‹_›
          unfold eqS at h1
          rw [h1] at h2
          cases h2
        have hcs : cntK (b.ent.take (k + 1)) (exe, stu) = cntK (b.ent.take k) (exe, stu) := by
          rw [hts]
          exact cntK_other _ _ (fun h => g2 (by cases h; rfl))
        rw [← hcs]
        (refine ⟨⟨k + 1, by show k + 1 ≤ _; omega, by omega, ?_, .inl ⟨rfl, rfl⟩, rfl, _, rfl, ?_⟩⟩; rotate_left 1; (first | exact .inl rfl | exact .inr ⟨by simp [belowRE, below, belowL, tr, sers_below, vers_below, ents_below, ent_below, ser_below, ver_below, encP_below, ksA_below, cntA_below, rows_below], by simp [belowH, Blk.below, belowL, below, sers_below, vers_below, ents_below, ent_below, ser_below, ver_below, encP_below, ksA_below, cntA_below, rows_below]⟩ | fail); (repeat' (first | exact trivial | refine ⟨⟨_, rfl, ?_⟩, ?_⟩ | fail)); all_goals try (first | exact Wk.refl _ | exact Wk.of_eq (congrArg (AV.int _) (by omega)) | fail))
      · have g2 : ¬ es = stu := fun h => by
          have h1 := eqS_iff.2 h
          have h2 : (es.toList == stu.toList) = false := ‹_›
          unfold eqS at h1
          rw [h1] at h2
          cases h2
        have hcs : cntK (b.ent.take (k + 1)) (exe, stu) = cntK (b.ent.take k) (exe, stu) := by
          rw [hts]
          exact cntK_other _ _ (fun h => g2 (by cases h; rfl))
        rw [← hcs]
        (refine ⟨⟨k + 1, by show k + 1 ≤ _; omega, by omega, ?_, .inl ⟨rfl, rfl⟩, rfl, _, rfl, ?_⟩⟩; rotate_left 1; (first | exact .inl rfl | exact .inr ⟨by simp [belowRE, below, belowL, tr, sers_below, vers_below, ents_below, ent_below, ser_below, ver_below, encP_below, ksA_below, cntA_below, rows_below], by simp [belowH, Blk.below, belowL, below, sers_below, vers_below, ents_below, ent_below, ser_below, ver_below, encP_below, ksA_below, cntA_below, rows_below]⟩ | fail); (repeat' (first | exact trivial | refine ⟨⟨_, rfl, ?_⟩, ?_⟩ | fail)); all_goals try (first | exact Wk.refl _ | exact Wk.of_eq (congrArg (AV.int _) (by omega)) | fail))
    · have hkn : k = b.ent.length := by omega
      subst hkn
      rw [List.take_length]
      have hck := cntK_le b.ent (exe, stu)
      rw [hat] at hE ⊢
      by_cases hf1 : 2000 ≤ b.ent.length
      · have hr : subE b ⟨stu, exe, dy, ⟨a1, a2, a3, a4⟩⟩ = 5 := by simpa [hf1] using hE
        rw [hr]
        (repeat' ((conv => whnf); (first | (refine IfN.id ?_; first | refine IfN.dT (by omega) ?_ | refine IfN.dF (by omega) ?_ | fail) | refine DrawN.mk' [] ?_ | fail))); all_goals (conv => whnf)
        exact EndN.det (bk0_below _ _) (bk0_wk _)
      · by_cases hf2 : 100 < cntK b.ent (exe, stu) + 1
        · have hr : subE b ⟨stu, exe, dy, ⟨a1, a2, a3, a4⟩⟩ = 5 := by simpa [hf1, hf2] using hE
          rw [hr]
          (repeat' ((conv => whnf); (first | (refine IfN.id ?_; first | refine IfN.dT (by omega) ?_ | refine IfN.dF (by omega) ?_ | fail) | refine DrawN.mk' [] ?_ | fail))); all_goals (conv => whnf)
          exact EndN.det (bk0_below _ _) (bk0_wk _)
        · have hr : subE b ⟨stu, exe, dy, ⟨a1, a2, a3, a4⟩⟩ = 0 := by simpa [hf1, hf2] using hE
          rw [hr]
          simp only [if_true]
          have e6 : (1 + cntK b.ent (exe, stu)) = cntK b.ent (exe, stu) + 1 := by omega
          rw [e6]
          have hslen : (b.ser.flatMap Ser.cells).length = b.ser.length * 2 := flat_length ser_size _
          by_cases he0 : b.ent = []
          · have hcp : ∀ B1 B2 B3 B4 B5 : Blk, VCall Try.prog 39 [.agg b.cells] (H ++ [B1, B2, B3, B4, B5]) fun r H' => r = .agg [.vs (H.length + 8) b.ser.length, .sx 0 []] ∧
                H' = (H ++ [B1, B2, B3, B4, B5]) ++ [.box 25 b.cells, .box 25 [.vs (H.length + 8) b.ser.length, .sx 0 []], .box 25 [.vs (H.length + 8) b.ser.length, .sx 0 []], .vec 79 2 (b.ser.flatMap Ser.cells)] := fun B1 B2 B3 B4 B5 =>
              VCall.mono (copyBookA_c b (by have := hvb.ns; omega) (by omega) he0 (ver_bounds hvb) _) fun r H' ⟨hr, hH⟩ => by
                have e : (H ++ [B1, B2, B3, B4, B5]).length = H.length + 5 := by simp
                rw [e] at hr hH
                refine ⟨hr, hH.trans ?_⟩
                unfold cyLA
                rw [List.take_length]
            rw [hcb] at hcp
            rw [he0] at hcp ⊢
            (repeat' ((conv => whnf); (first | (refine IfN.id ?_; first | refine IfN.ff rfl ?_ | fail) | refine CallN.grow _ _ _ 9 (hcp _ _ _ _ _) rfl rfl rfl ?_ | refine OrN.l ?_ | refine SideN.mk ⟨by decide, rfl, rfl, by decide, by decide⟩ ?_ | refine DrawN.mk' [] ?_ | fail))); all_goals (conv => whnf)
            refine EndN.detF ?_ (Frz.tup (.cons (Frz.agg (.cons (Frz.vs (j := 8) (sz := 2) rfl hslen (FrzL.refl _)) (.cons (Frz.sl (FrzL.refl _)) .nil))) (.cons (.refl _) .nil))) ?_
            · simp [below, belowL, Bk.cells, sers_below, ents_below, ent_below]
            · unfold Bk.cells
              simp only [List.nil_append]
              exact wk_tup ⟨wk_agg ⟨Wk.refl _, Wk.of_eq (by simp [Ent.cells]), trivial⟩, Wk.refl _, trivial⟩
          · have hcp : ∀ B1 B2 B3 B4 B5 : Blk, VCall Try.prog 39 [.agg b.cells] (H ++ [B1, B2, B3, B4, B5]) fun r H' => r = .agg [.vs (H.length + 9) b.ser.length, .sl (some (H.length + 7)) b.ent.length (b.ent.flatMap Ent.cells)] ∧
                H' = (H ++ [B1, B2, B3, B4, B5]) ++ [.box 25 b.cells, .box 25 [.vs (H.length + 9) b.ser.length, .sl (some (H.length + 7)) b.ent.length (b.ent.flatMap Ent.cells)], .tok 34 7 (b.ent.length * 7), .box 25 [.vs (H.length + 9) b.ser.length, .sl (some (H.length + 7)) b.ent.length (b.ent.flatMap Ent.cells)], .vec 79 2 (b.ser.flatMap Ser.cells)] := fun B1 B2 B3 B4 B5 =>
              VCall.mono (copyBookB_c b (by have := hvb.ns; omega) (by omega) he0 (ver_bounds hvb) _) fun r H' ⟨hr, hH⟩ => by
                have e : (H ++ [B1, B2, B3, B4, B5]).length = H.length + 5 := by simp
                rw [e] at hr hH
                refine ⟨hr, hH.trans ?_⟩
                unfold cyLB
                rw [List.take_length]
            rw [hcb] at hcp
            have hel : b.ent.length * 7 = (b.ent.flatMap Ent.cells).length := (flat_length ent_size _).symm
            have hfl : (b.ent ++ [(⟨stu, exe, dy, ⟨a1, a2, (cntK b.ent (exe, stu) + 1 : Nat), a4⟩⟩ : Ent)]).flatMap Ent.cells = b.ent.flatMap Ent.cells ++ [.str stu, .str exe, .int .i64 dy, .int .i64 a1, .int .i64 a2, .int .i64 (cntK b.ent (exe, stu) + 1 : Nat), .int .i64 a4] := by
              rw [List.flatMap_append]
              rfl
            have hbt : (b.ent.length + 1) * 72 ≤ 140737488355328 := by omega
            have hmx : b.ent.length + 1 ≤ maxLen := Nat.le_trans (show b.ent.length + 1 ≤ 1000001 by omega) (by decide)
            (repeat' ((conv => whnf); (first | (refine IfN.id ?_; first | refine IfN.dF (by omega) ?_ | fail) | refine CallN.grow _ _ _ 10 (hcp _ _ _ _ _) rfl rfl rfl ?_ | refine SideN.mk ⟨hel, rfl, rfl, hbt, hmx⟩ ?_ | (refine PtrN.id ?_; first | refine PtrN.loc _ rfl ?_ | fail) | refine DrawN.mk' [] ?_ | fail))); all_goals (conv => whnf)
            rw [← hfl]
            refine EndN.detF ?_ (Frz.tup (.cons (Frz.agg (.cons (Frz.vs (j := 9) (sz := 2) rfl hslen (FrzL.refl _)) (.cons (Frz.sl (FrzL.refl _)) .nil))) (.cons (.refl _) .nil))) ?_
            · simp only [below, belowL, Bk.cells, sers_below, ents_below, and_true, true_and]
              simp
            · unfold Bk.cells
              simp only [List.length_append, List.length_cons, List.length_nil]
              exact wk_tup ⟨wk_agg ⟨Wk.refl _, Wk.refl _, trivial⟩, Wk.refl _, trivial⟩
  · refine fn_det Try.E0 Try.mx Try.func14 (by kernel_rfl) rfl (Nat.le_of_ble_eq_true rfl) rfl fun hcl hbl => ?_
    (repeat' ((conv => whnf); (first | (refine IfN.id ?_; first | refine IfN.not ?_ | refine IfN.tt rfl ?_ | refine IfN.dF (by omega) ?_ | refine IfN.tt (by assumption) ?_ | fail) | (refine SideN.mk ?_ ?_; · first | kernel_rfl | omega | exact List.cons_ne_nil _ _ | (simp; done) | (simp; omega) | exact trivial | assumption | fail) | (refine CallN.id ?_; first | refine CallN.det _ (hva _) ?_ | refine CallN.det _ (isName_c _ _) ?_ | refine CallN.det _ (isDay_c _ _) ?_ | refine CallN.det _ (hgr _) ?_ | refine CallN.det _ (hif _) ?_ | fail) | refine DrawN.mk' [] ?_ | fail))); all_goals (conv => whnf)
    refine loop_R Try.E0 Try.mx (σ := Nat) (fun k => k ≤ b.ent.length) (fun k => b.ent.length - k) (fun k => [(81, .v (.int .i64 k))]) (fun k => [.box 25 [.sl none b.ser.length (b.ser.flatMap Ser.cells), .sl none b.ent.length (b.ent.flatMap Ent.cells)], .box 34 [.str stu, .str exe, .int .i64 dy, .int .i64 a1, .int .i64 a2, .int .i64 ((1 + cntK (b.ent.take k) (exe, stu) : Nat) : Int), .int .i64 a4], .box 25 [.nils, .nils], .box 97 [.int .i64 m1, .int .i64 m2, .int .i64 m3, .int .i64 m4, .int .i64 m5], .box 28 [.int .i64 f2, .int .i64 f3, .sl none f8.length (f8.flatMap encP), .int .i64 f4, .int .i64 f5, .int .i64 f6, .int .u8 f7]]) _ 0 rfl hcl [2, 3, 4, 79, 80] rfl (Nat.zero_le _) ⟨⟨_, rfl, Wk.refl _⟩, trivial⟩ rfl (fun _ _ => rfl) ?_
    intro k hk
    rcases Nat.lt_or_ge k b.ent.length with hlt | hge
    · exact absurd hlt (by omega)
    · have hkn : k = b.ent.length := by omega
      subst hkn
      rw [List.take_length]
      have hck := cntK_le b.ent (exe, stu)
      rw [hat] at hE ⊢
      have hr : subE b ⟨stu, exe, dy, ⟨a1, a2, a3, a4⟩⟩ = 0 := by
        have hf1 : ¬ 2000 ≤ b.ent.length := by omega
        have hf2 : ¬ 100 < cntK b.ent (exe, stu) + 1 := by omega
        simpa [hf1, hf2] using hE
      rw [hr]
      simp only [if_true]
      have e6 : (1 + cntK b.ent (exe, stu)) = cntK b.ent (exe, stu) + 1 := by omega
      rw [e6]
      have hslen : (b.ser.flatMap Ser.cells).length = b.ser.length * 2 := flat_length ser_size _
      have he0 : b.ent = [] := List.eq_nil_of_length_eq_zero (by omega)
      · have hcp : ∀ B1 B2 B3 B4 B5 : Blk, VCall Try.prog 39 [.agg b.cells] (H ++ [B1, B2, B3, B4, B5]) fun r H' => r = .agg [.vs (H.length + 8) b.ser.length, .sx 0 []] ∧
            H' = (H ++ [B1, B2, B3, B4, B5]) ++ [.box 25 b.cells, .box 25 [.vs (H.length + 8) b.ser.length, .sx 0 []], .box 25 [.vs (H.length + 8) b.ser.length, .sx 0 []], .vec 79 2 (b.ser.flatMap Ser.cells)] := fun B1 B2 B3 B4 B5 =>
          VCall.mono (copyBookA_c b (by have := hvb.ns; omega) (by omega) he0 (ver_bounds hvb) _) fun r H' ⟨hr, hH⟩ => by
            have e : (H ++ [B1, B2, B3, B4, B5]).length = H.length + 5 := by simp
            rw [e] at hr hH
            refine ⟨hr, hH.trans ?_⟩
            unfold cyLA
            rw [List.take_length]
        rw [hcb] at hcp
        rw [he0] at hcp ⊢
        (repeat' ((conv => whnf); (first | (refine IfN.id ?_; first | refine IfN.ff rfl ?_ | fail) | refine CallN.grow _ _ _ 9 (hcp _ _ _ _ _) rfl rfl rfl ?_ | refine OrN.l ?_ | refine SideN.mk ⟨by decide, rfl, rfl, by decide, by decide⟩ ?_ | refine DrawN.mk' [] ?_ | fail))); all_goals (conv => whnf)
        refine EndN.detF ?_ (Frz.tup (.cons (Frz.agg (.cons (Frz.vs (j := 8) (sz := 2) rfl hslen (FrzL.refl _)) (.cons (Frz.sl (FrzL.refl _)) .nil))) (.cons (.refl _) .nil))) ?_
        · simp [below, belowL, Bk.cells, sers_below, ents_below, ent_below]
        · unfold Bk.cells
          simp only [List.nil_append]
          exact wk_tup ⟨wk_agg ⟨Wk.refl _, Wk.of_eq (by simp [Ent.cells]), trivial⟩, Wk.refl _, trivial⟩
end Go.Proofs.Ytgopbbkpcjgihaa
/-! text ZH38 -/
namespace Go.Proofs.Ytgopbbkpcjgihaa
open Go.Vsi
attribute [local irreducible] VW VCall VO bits

theorem submit_c (b : Bk) (hb : b.Sm) (e : Ent) (H : Heap) : VDet Try.prog 14 [.agg b.cells, .agg e.cells] H (.tup [.agg (subF b e).cells, .int .i64 (subE b e)]) := by
  cases hi : subIn b e with
  | false =>
    have hE : subE b e = 2 := by unfold subE; rw [hi]; rfl
    unfold subF
    rw [hE]
    exact submit_in b hb e hi H
  | true =>
    cases hP : subPast b e with
    | true =>
      have hE : subE b e = 380 := by unfold subE; rw [hi, hP]; rfl
      have := submit_no b hb e hi _ rfl (.inl hP) H
      unfold subF
      rw [hE] at this ⊢
      exact this
    | false =>
      cases hF : (forceF b e.exe e.day).isSome with
      | true => exact submit_some b hb e hi hP hF H
      | false =>
        have hE : subE b e = 6 := by unfold subE; rw [hi, hP, hF]; rfl
        have := submit_no b hb e hi _ rfl (.inr hF) H
        unfold subF
        rw [hE] at this ⊢
        exact this
end Go.Proofs.Ytgopbbkpcjgihaa
/-! text AA38 -/
namespace Go.Proofs.Ytgopbbkpcjgihaa
open Go.Vsi
set_option maxHeartbeats 4000000
set_option linter.unusedSimpArgs false
attribute [local irreducible] VW VCall VO bits

def nameF (n : Int) : ByteArray := if n % 3 = 0 then ⟨#[97]⟩ else if n % 3 = 1 then ⟨#[98]⟩ else ⟨#[99]⟩
theorem name_c (n : Int) (h0 : 0 ≤ n) (h1 : n ≤ 255) (H : Heap) : VDet Try.prog 26 [.int .u8 n] H (.str (nameF n)) := by
  have hn : ∃ m, n % 3 = m ∧ (m = 0 ∨ m = 1 ∨ m = 2) := ⟨_, rfl, by omega⟩
  obtain ⟨m, hm, h⟩ := hn
  unfold nameF
  rcases h with rfl | rfl | rfl
  · rw [hm]
    refine fn_det Try.E0 Try.mx Try.func26 (by kernel_rfl) rfl (Nat.le_of_ble_eq_true rfl) rfl fun hcl hbl => ?_
    (repeat' ((conv => whnf); (first | (refine EqN.id ?_; first | refine EqN.rem (by omega) ?_ | fail) | (refine SideN.mk ?_ ?_; · first | kernel_rfl | omega | exact List.cons_ne_nil _ _ | (simp; done) | (simp; omega) | exact trivial | assumption | fail) | refine SegN.mk [.str ⟨#[97]⟩, .str ⟨#[98]⟩, .str ⟨#[99]⟩] ⟨[], by rw [hm]; rfl⟩ ?_ | refine DrawN.mk' [] ?_ | fail))); all_goals (conv => whnf)
    all_goals exact EndN.det trivial (Wk.refl _)
  · rw [hm]
    refine fn_det Try.E0 Try.mx Try.func26 (by kernel_rfl) rfl (Nat.le_of_ble_eq_true rfl) rfl fun hcl hbl => ?_
    (repeat' ((conv => whnf); (first | (refine EqN.id ?_; first | refine EqN.rem (by omega) ?_ | fail) | (refine SideN.mk ?_ ?_; · first | kernel_rfl | omega | exact List.cons_ne_nil _ _ | (simp; done) | (simp; omega) | exact trivial | assumption | fail) | refine SegN.mk [.str ⟨#[98]⟩, .str ⟨#[99]⟩] ⟨[], by rw [hm]; rfl⟩ ?_ | refine DrawN.mk' [] ?_ | fail))); all_goals (conv => whnf)
    all_goals exact EndN.det trivial (Wk.refl _)
  · rw [hm]
    refine fn_det Try.E0 Try.mx Try.func26 (by kernel_rfl) rfl (Nat.le_of_ble_eq_true rfl) rfl fun hcl hbl => ?_
    (repeat' ((conv => whnf); (first | (refine EqN.id ?_; first | refine EqN.rem (by omega) ?_ | fail) | (refine SideN.mk ?_ ?_; · first | kernel_rfl | omega | exact List.cons_ne_nil _ _ | (simp; done) | (simp; omega) | exact trivial | assumption | fail) | refine SegN.mk [.str ⟨#[99]⟩] ⟨[], by rw [hm]; rfl⟩ ?_ | refine DrawN.mk' [] ?_ | fail))); all_goals (conv => whnf)
    all_goals exact EndN.det trivial (Wk.refl _)
structure Rw where
  exe : ByteArray
  stu : ByteArray
  pts : Int
def Rw.cells (r : Rw) : List AV := [.str r.exe, .str r.stu, .int .i64 r.pts]
def rw0 : Rw := ⟨.empty, .empty, 0⟩
theorem rw_size (r : Rw) : r.cells.length = 3 := rfl
theorem rw_below (n : Nat) (r : Rw) : belowL n r.cells := by simp [Rw.cells, belowL, below]
theorem rws_below (n : Nat) (l : List Rw) : belowL n (l.flatMap Rw.cells) := belowL_flat _ (rw_below n)
theorem rw_ex (r : Rw) : ∃ a b p, r = ⟨a, b, p⟩ := ⟨_, _, _, rfl⟩
theorem rw_cells {r : Rw} {a b : ByteArray} {p : Int} (h : r = ⟨a, b, p⟩) : r.cells = [.str a, .str b, .int .i64 p] := by subst h; rfl
def repR (b : Bk) (d : Int) : List Rw := (repK b d).map fun k => ⟨k.1, k.2, ptsF b d k⟩
theorem repR_len (b : Bk) (d : Int) : (repR b d).length = (repK b d).length := List.length_map _
theorem repR_flat (b : Bk) (d : Int) : (repR b d).flatMap Rw.cells = (repK b d).flatMap (rowC (ptsF b d)) := by
  unfold repR
  rw [List.flatMap_map]
  rfl
theorem reportR_c (b : Bk) (hb : b.Sm) (d : Int) (H : Heap) : VDet Try.prog 23 [.agg b.cells, .int .i64 d] H (.tup [.sl none (repR b d).length ((repR b d).flatMap Rw.cells), .int .i64 (repE b d)]) := by
  rw [repR_len, repR_flat]
  exact report_c b hb d H
def eqRw (x y : Rw) : Bool := x.exe.toList == y.exe.toList && (x.stu.toList == y.stu.toList && (x.pts == y.pts && true))
theorem eqRw_iff {x y : Rw} : eqRw x y = true ↔ x = y := by
  obtain ⟨a, b, p⟩ := x
  obtain ⟨c, d, q⟩ := y
  have h1 := @eqS_iff a c
  have h2 := @eqS_iff b d
  unfold eqS at h1 h2
  unfold eqRw
  simp only [Bool.and_eq_true, Bool.and_true, h1, h2, beq_iff_eq, Rw.mk.injEq]
def sameR : List Rw → List Rw → Bool
  | [], [] => true
  | x :: l, y :: m => eqRw x y && sameR l m
  | [], _ :: _ => false
  | _ :: _, [] => false
theorem sameR_iff : ∀ {l m : List Rw}, sameR l m = true ↔ l = m
  | [], [] => by simp [sameR]
  | x :: l, y :: m => by simp [sameR, eqRw_iff, sameR_iff (l := l) (m := m)]
  | [], _ :: _ => by simp [sameR]
  | _ :: _, [] => by simp [sameR]
theorem sameR_no {l m : List Rw} (h : ¬ l = m) : sameR l m = false := by
  cases hs : sameR l m with
  | false => rfl
  | true => exact absurd (sameR_iff.1 hs) h
theorem same_c (l m : List Rw) (hl : l.length ≤ 4611686018427387904) (hm : m.length ≤ 4611686018427387904) (H : Heap) : VDet Try.prog 25 [.sl none l.length (l.flatMap Rw.cells), .sl none m.length (m.flatMap Rw.cells)] H (.bool (sameR l m)) := by
  by_cases hlen : l.length = m.length
  · refine fn_det Try.E0 Try.mx Try.func25 (by kernel_rfl) rfl (Nat.le_of_ble_eq_true rfl) rfl fun hcl hbl => ?_
    (repeat' ((conv => whnf); (first | (refine IfN.id ?_; first | refine IfN.not ?_ | refine IfN.dT (by omega) ?_ | fail) | refine DrawN.mk' [] ?_ | fail))); all_goals (conv => whnf)
    refine loop_R Try.E0 Try.mx (σ := Nat) (fun k => k ≤ l.length ∧ l.take k = m.take k) (fun k => l.length - k) (fun k => [(13, .v (.int .i64 k))]) (fun _ => _) _ 0 rfl hcl [0, 1, 12] rfl ⟨Nat.zero_le _, rfl⟩ ⟨⟨_, rfl, Wk.refl _⟩, trivial⟩ rfl (fun _ _ => rfl) ?_
    rintro k ⟨hk, hinv⟩
    rcases Nat.lt_or_ge k l.length with hlt | hge
    · obtain ⟨a, b, p, hx⟩ := rw_ex (l.getD k rw0)
      obtain ⟨c, d, q, hy⟩ := rw_ex (m.getD k rw0)
      have e1 := rw_cells hx
      have e2 := rw_cells hy
      have hq : eqV Try.kn Try.T 20 83 (.agg [.str a, .str b, .int .i64 p]) (.agg [.str c, .str d, .int .i64 q]) = some (eqRw ⟨a, b, p⟩ ⟨c, d, q⟩) := rfl
      have ht1 := take_snoc l rw0 k hlt
      have ht2 := take_snoc m rw0 k (by omega)
      rw [hx] at ht1
      rw [hy] at ht2
      cases hv : eqRw ⟨a, b, p⟩ ⟨c, d, q⟩ with
      | true =>
        have hv2 : (a.toList == c.toList && (b.toList == d.toList && (p == q && true))) = true := hv
        have hxy := eqRw_iff.1 hv
        (repeat' ((conv => whnf); (first | (refine IfN.id ?_; first | refine IfN.not ?_ | refine IfN.dT (by omega) ?_ | refine IfN.tt (by assumption) ?_ | fail) | (refine EqN.id ?_; first | (refine EqN.addN _ _ (by first | with_reducible rfl | with_reducible exact cst1 | with_reducible exact cst0 | with_reducible exact cst2 | with_reducible exact cst3 | with_reducible exact cst4 | with_reducible exact cst5 | with_reducible exact cst6 | with_reducible exact cst7 | with_reducible exact cst8 | with_reducible exact cst14 | with_reducible exact cst15 | with_reducible exact cst25 | with_reducible exact cst30 | with_reducible exact cst31 | fail) (by first | with_reducible rfl | with_reducible exact cst1 | with_reducible exact cst0 | with_reducible exact cst2 | with_reducible exact cst3 | with_reducible exact cst4 | with_reducible exact cst5 | with_reducible exact cst6 | with_reducible exact cst7 | with_reducible exact cst8 | with_reducible exact cst14 | with_reducible exact cst15 | with_reducible exact cst25 | with_reducible exact cst30 | with_reducible exact cst31 | fail) ?_ ?_; · (repeat' (first | omega | refine And.intro ?_ ?_ | exact bnd_andl (by omega) | exact bnd_andr (by omega) | refine bnd_or ?_ ?_ | refine bnd_or31 ?_ ?_ | refine bnd_xor ?_ ?_ | refine bnd_xor31 ?_ ?_ | refine bnd_shr ?_ | refine bnd_shl ?_ ?_ | refine bnd_mod ?_ | refine bnd_andl ?_ | fail))) | fail) | (refine SideN.mk ?_ ?_; · first | kernel_rfl | omega | exact List.cons_ne_nil _ _ | (simp; done) | (simp; omega) | exact trivial | assumption | fail) | refine SegN.nthE rw0 k rfl (by omega) rw_size e1 ?_ | refine SegN.nthE rw0 k rfl (by omega) rw_size e2 ?_ | refine DrawN.mk' [] ?_ | fail))); all_goals (conv => whnf)
        (refine ⟨⟨k + 1, ⟨by omega, by rw [ht1, ht2, hinv, hxy]⟩, by omega, ?_, .inl ⟨rfl, rfl⟩, rfl, _, rfl, ?_⟩⟩; rotate_left 1; (first | exact .inl rfl | exact .inr ⟨by simp [belowRE, below, belowL, tr, sers_below, vers_below, ents_below, ent_below, ser_below, ver_below, encP_below, ksA_below, cntA_below, rows_below], by simp [belowH, Blk.below, belowL, below, sers_below, vers_below, ents_below, ent_below, ser_below, ver_below, encP_below, ksA_below, cntA_below, rows_below]⟩ | fail); (repeat' (first | exact trivial | refine ⟨⟨_, rfl, ?_⟩, ?_⟩ | fail)); all_goals try (first | exact Wk.refl _ | exact Wk.of_eq (congrArg (AV.int _) (by omega)) | fail))
      | false =>
        have hv2 : (a.toList == c.toList && (b.toList == d.toList && (p == q && true))) = false := hv
        (repeat' ((conv => whnf); (first | (refine IfN.id ?_; first | refine IfN.not ?_ | refine IfN.dT (by omega) ?_ | refine IfN.ff (by assumption) ?_ | fail) | (refine SideN.mk ?_ ?_; · first | kernel_rfl | omega | exact List.cons_ne_nil _ _ | (simp; done) | (simp; omega) | exact trivial | assumption | fail) | refine SegN.nthE rw0 k rfl (by omega) rw_size e1 ?_ | refine SegN.nthE rw0 k rfl (by omega) rw_size e2 ?_ | refine DrawN.mk' [] ?_ | fail))); all_goals (conv => whnf)
        refine EndN.det trivial (Wk.of_eq (congrArg AV.bool ?_))
        refine (sameR_no fun h => ?_).symm
        rw [← h, hx] at hy
        have := eqRw_iff.2 hy
        rw [hv] at this
        cases this
    · have : k = l.length := by omega
      subst this
      (repeat' ((conv => whnf); (first | (refine IfN.id ?_; first | refine IfN.dF (by omega) ?_ | fail) | refine DrawN.mk' [] ?_ | fail))); all_goals (conv => whnf)
      refine EndN.det trivial (Wk.of_eq (congrArg AV.bool ?_))
      rw [List.take_length, hlen, List.take_length] at hinv
      exact (sameR_iff.2 hinv).symm
  · refine fn_det Try.E0 Try.mx Try.func25 (by kernel_rfl) rfl (Nat.le_of_ble_eq_true rfl) rfl fun hcl hbl => ?_
    (repeat' ((conv => whnf); (first | (refine IfN.id ?_; first | refine IfN.not ?_ | refine IfN.dF (by omega) ?_ | fail) | refine DrawN.mk' [] ?_ | fail))); all_goals (conv => whnf)
    refine EndN.det trivial (Wk.of_eq (congrArg AV.bool ?_))
    exact (sameR_no fun h => hlen (by rw [h])).symm
end Go.Proofs.Ytgopbbkpcjgihaa
/-! text AB38 -/
namespace Go.Proofs.Ytgopbbkpcjgihaa
open Go.Vsi
set_option maxHeartbeats 4000000
set_option linter.unusedSimpArgs false
attribute [local irreducible] VW VCall VO bits

structure Act where
  k : Int
  ex : Int
  st : Int
  dy : Int
  raw : Raw
  prog : Int
  days : Int
  hints : Int
def Act.cells (a : Act) : List AV := [.int .u8 a.k, .int .u8 a.ex, .int .u8 a.st, .int .u8 a.dy] ++ (a.raw.cells ++ [.int .u64 a.prog, .int .u8 a.days, .int .u8 a.hints])
structure Act.Ok (a : Act) : Prop where
  k : 0 ≤ a.k ∧ a.k ≤ 255
  ex : 0 ≤ a.ex ∧ a.ex ≤ 255
  st : 0 ≤ a.st ∧ a.st ≤ 255
  dy : 0 ≤ a.dy ∧ a.dy ≤ 255
  raw : a.raw.Ok
  prog : 0 ≤ a.prog ∧ a.prog ≤ 18446744073709551615
  days : 0 ≤ a.days ∧ a.days ≤ 255
  hints : 0 ≤ a.hints ∧ a.hints ≤ 255
def actV (a : Act) (d : Int) : Ver := ⟨d + 1, builtF a.raw⟩
def actN (a : Act) (d : Int) : Ent := ⟨nameF a.st, nameF a.ex, d, ⟨a.prog % 1152921504606846977, a.days, 0, a.hints % 50⟩⟩
def doF (b : Bk) (a : Act) (d : Int) : Bk := if a.k % 2 = 0 then pubF b (nameF a.ex) (actV a d) else subF b (actN a d)
def doE (b : Bk) (a : Act) (d : Int) : Int := if a.k % 2 = 0 then pubE b (nameF a.ex) (actV a d) else subE b (actN a d)
theorem bk_cells (b : Bk) : ∃ n1 c1 n2 c2, b.cells = [.sl none n1 c1, .sl none n2 c2] ∧ ∀ n, belowL n c1 ∧ belowL n c2 := ⟨_, _, _, _, rfl, fun n => ⟨sers_below n _, ents_below n _⟩⟩
theorem do_c (b : Bk) (hb : b.Sm) (a : Act) (ha : a.Ok) (d : Int) (hd : 0 ≤ d ∧ d ≤ 1000000) (H : Heap) : VDet Try.prog 24 [.agg b.cells, .agg a.cells, .int .i64 d] H (.tup [.agg (doF b a d).cells, .int .i64 (doE b a d)]) := by
  obtain ⟨h1, h2, h3, h4, h5, h6, h7, h8⟩ := ha
  have hn1 := fun H => name_c a.ex h2.1 h2.2 H
  have hn2 := fun H => name_c a.st h3.1 h3.2 H
  have hbu := fun H => built_c a.raw h5 H
  obtain ⟨k, ex, st, dy, raw, prog, days, hints⟩ := a
  have hpu := fun H => publish_c b hb (nameF ex) ⟨d + 1, builtF raw⟩ H
  have hsu := fun H => submit_c b hb ⟨nameF st, nameF ex, d, ⟨prog % 1152921504606846977, days, 0, hints % 50⟩⟩ H
  unfold doF doE actV actN
  simp only at h1 h2 h3 h4 h6 h7 h8 hn1 hn2 hbu ⊢
  by_cases hk : k % 2 = 0
  · rw [if_pos hk, if_pos hk]
    obtain ⟨n1, c1, n2, c2, hc, hbel⟩ := bk_cells (pubF b (nameF ex) ⟨d + 1, builtF raw⟩)
    rw [hc] at hpu ⊢
    unfold Ver.cells at hpu
    unfold Sch.cells at hbu
    simp only at hpu
    generalize pubE b (nameF ex) ⟨d + 1, builtF raw⟩ = e at *
    unfold Act.cells
    unfold Raw.cells at *
    simp only [List.cons_append, List.nil_append] at *
    obtain ⟨bn1, bc1, bn2, bc2, hcb, hbel2⟩ := bk_cells b
    rw [hcb] at hpu ⊢
    refine fn_det Try.E0 Try.mx Try.func24 (by kernel_rfl) rfl (Nat.le_of_ble_eq_true rfl) rfl fun hcl hbl => ?_
    (repeat' ((conv => whnf); (first | (refine IfN.id ?_; first | refine IfN.dT (by omega) ?_ | fail) | (refine EqN.id ?_; first | refine EqN.i64 (by omega) ?_ | refine EqN.rem (by omega) ?_ | fail) | (refine SideN.mk ?_ ?_; · first | kernel_rfl | omega | exact List.cons_ne_nil _ _ | (simp; done) | (simp; omega) | exact trivial | assumption | fail) | (refine CallD.id ?_; first | refine CallD.det _ (fun _ hq X => hn1 _) ?_ | refine CallD.det _ (fun _ hq X => hbu _) ?_ | refine CallD.det _ (fun _ hq X => hpu _) ?_ | fail) | refine DrawN.mk' [] ?_ | fail))); all_goals (conv => whnf)
    exact EndN.det (by simp [below, belowL, hbel]) (Wk.refl _)
  · rw [if_neg hk, if_neg hk]
    obtain ⟨n1, c1, n2, c2, hc, hbel⟩ := bk_cells (subF b ⟨nameF st, nameF ex, d, ⟨prog % 1152921504606846977, days, 0, hints % 50⟩⟩)
    rw [hc] at hsu ⊢
    unfold Ent.cells at hsu
    simp only at hsu
    generalize subE b ⟨nameF st, nameF ex, d, ⟨prog % 1152921504606846977, days, 0, hints % 50⟩⟩ = e at *
    unfold Act.cells
    unfold Raw.cells at *
    simp only [List.cons_append, List.nil_append] at *
    obtain ⟨bn1, bc1, bn2, bc2, hcb, hbel2⟩ := bk_cells b
    rw [hcb] at hsu ⊢
    refine fn_det Try.E0 Try.mx Try.func24 (by kernel_rfl) rfl (Nat.le_of_ble_eq_true rfl) rfl fun hcl hbl => ?_
    (repeat' ((conv => whnf); (first | (refine IfN.id ?_; first | refine IfN.dF (by omega) ?_ | fail) | (refine EqN.id ?_; first | refine EqN.i64 (by omega) ?_ | refine EqN.rem (by omega) ?_ | fail) | (refine SideN.mk ?_ ?_; · first | kernel_rfl | omega | exact List.cons_ne_nil _ _ | (simp; done) | (simp; omega) | exact trivial | assumption | fail) | (refine CallD.id ?_; first | refine CallD.det _ (fun _ hq X => hn1 _) ?_ | refine CallD.det _ (fun _ hq X => hn2 _) ?_ | refine CallD.det _ (fun _ hq X => hsu _) ?_ | fail) | refine DrawN.mk' [] ?_ | fail))); all_goals (conv => whnf)
    exact EndN.det (by simp [below, belowL, hbel]) (Wk.refl _)
end Go.Proofs.Ytgopbbkpcjgihaa
/-! text AC38 -/
namespace Go.Proofs.Ytgopbbkpcjgihaa
open Go.Vsi
set_option maxHeartbeats 4000000
set_option linter.unusedSimpArgs false
attribute [local irreducible] VW VCall VO bits

def raw0 : Raw := ⟨0, 0, 0, 0, 0, 0, [], []⟩
def act0 : Act := ⟨0, 0, 0, 0, raw0, 0, 0, 0⟩
def bltF (l : List Act) : Nat → Bk × Int
  | 0 => (bk0, 0)
  | k + 1 => (if doE (bltF l k).1 (l.getD k act0) ((bltF l k).2 + (l.getD k act0).dy % 4) = 0 then doF (bltF l k).1 (l.getD k act0) ((bltF l k).2 + (l.getD k act0).dy % 4) else (bltF l k).1, (bltF l k).2 + (l.getD k act0).dy % 4)
def bltN (l : List Act) : Nat := min l.length 40
def bltB (l : List Act) : Bk := (bltF l (bltN l)).1
def bltD (l : List Act) : Int := (bltF l (bltN l)).2
theorem act_size (a : Act) : a.cells.length = 15 := rfl
theorem raw_below (n : Nat) (r : Raw) : belowL n r.cells := by simp [Raw.cells, belowL, below, enc8_below]
theorem act_below (n : Nat) (a : Act) : belowL n a.cells := by simp [Act.cells, Raw.cells, belowL, below, enc8_below]
theorem acts_below (n : Nat) (l : List Act) : belowL n (l.flatMap Act.cells) := belowL_flat _ (act_below n)
theorem bltF_day (l : List Act) (h : ∀ a ∈ l, a.Ok) : ∀ k, k ≤ l.length → 0 ≤ (bltF l k).2 ∧ (bltF l k).2 ≤ 3 * k
  | 0, _ => by simp [bltF]
  | k + 1, hk => by
    have ih := bltF_day l h k (by omega)
    have ha := (h _ (getD_mem act0 (show k < l.length by omega))).dy
    simp only [bltF]
    omega
theorem bk_wk0 : WkL [.nils, .nils] bk0.cells := ⟨wk_nils, wk_nils, trivial⟩
end Go.Proofs.Ytgopbbkpcjgihaa
/-! text AD38 -/
namespace Go.Proofs.Ytgopbbkpcjgihaa
open Go.Vsi
attribute [local irreducible] VW VCall VO bits

theorem name_inj {l : List Ser} (h : SrtS l) {s t : Ser} (hs : s ∈ l) (ht : t ∈ l) (hn : s.name = t.name) : s = t := by
  obtain ⟨i, hi, rfl⟩ := mem_getD ser0 hs
  obtain ⟨j, hj, rfl⟩ := mem_getD ser0 ht
  rcases Nat.lt_trichotomy i j with h1 | h1 | h1
  · have := pw_get (d := ser0) h h1 hj
    rw [hn, ltS_irr] at this
    cases this
  · rw [h1]
  · have := pw_get (d := ser0) h h1 hi
    rw [hn, ltS_irr] at this
    cases this
theorem serF_iff {b : Bk} (h : SrtS b.ser) {x : ByteArray} {s : Ser} : serF b x = some s ↔ s ∈ b.ser ∧ s.name = x := by
  constructor
  · exact serF_mem
  · rintro ⟨hs, hn⟩
    have : (serF b x).isSome = true := lastF_isSome.2 ⟨s, hs, eqS_iff.2 hn⟩
    obtain ⟨t, ht⟩ := Option.isSome_iff_exists.1 this
    have h1 := serF_mem ht
    rw [ht, name_inj h h1.1 hs (h1.2.trans hn.symm)]
theorem serF_none {b : Bk} {x : ByteArray} : serF b x = none ↔ ∀ s ∈ b.ser, s.name ≠ x := by
  constructor
  · intro h s hs hn
    have : (serF b x).isSome = true := lastF_isSome.2 ⟨s, hs, eqS_iff.2 hn⟩
    rw [h] at this
    cases this
  · intro h
    cases hs : serF b x with
    | none => rfl
    | some s => exact absurd (serF_mem hs).2 (h s (serF_mem hs).1)
def oldV (b : Bk) (ex : ByteArray) : List Ver := ((serF b ex).getD ser0).vers
def newS (b : Bk) (ex : ByteArray) (v : Ver) : Ser := ⟨ex, oldV b ex ++ [v]⟩
theorem fnd_at {b : Bk} (h : SrtS b.ser) {ex : ByteArray} (hf : fndF b.ser ex = true) : posF b.ser ex < b.ser.length ∧ (b.ser.getD (posF b.ser ex) ser0).name = ex ∧ serF b ex = some (b.ser.getD (posF b.ser ex) ser0) := by
  unfold fndF at hf
  simp only [Bool.and_eq_true, decide_eq_true_eq] at hf
  have hn := eqS_iff.1 hf.2
  exact ⟨hf.1, hn, (serF_iff h).2 ⟨getD_mem ser0 hf.1, hn⟩⟩
theorem ins_found {b : Bk} (h : SrtS b.ser) {ex : ByteArray} {v : Ver} (hf : fndF b.ser ex = true) : insS b.ser ex v = b.ser.set (posF b.ser ex) (newS b ex v) := by
  obtain ⟨h1, h2, h3⟩ := fnd_at h hf
  unfold insS newS oldV
  rw [if_pos hf, h3, h2]
  rfl
theorem ins_new {b : Bk} {ex : ByteArray} {v : Ver} (hs : SrtS b.ser) (hf : fndF b.ser ex = false) : insS b.ser ex v = b.ser.take (posF b.ser ex) ++ (newS b ex v :: b.ser.drop (posF b.ser ex)) := by
  have : serF b ex = none := by
    have := fnd_iff b hs ex
    rw [hf] at this
    simpa using this.symm
  unfold insS newS oldV
  rw [hf, this]
  rfl
theorem take_lt {l : List Ser} {ex : ByteArray} {s : Ser} (h : s ∈ l.take (posF l ex)) : ltS s.name ex = true := by
  obtain ⟨i, hi, rfl⟩ := mem_getD ser0 h
  rw [List.length_take] at hi
  have : (l.take (posF l ex)).getD i ser0 = l.getD i ser0 := by simp [show i < posF l ex by omega]
  rw [this]
  exact posF_lt (by omega)
theorem drop_ge {l : List Ser} (hs : SrtS l) {ex : ByteArray} {s : Ser} (h : s ∈ l.drop (posF l ex)) : ltS s.name ex = false := by
  obtain ⟨i, hi, rfl⟩ := mem_getD ser0 h
  rw [List.length_drop] at hi
  have : (l.drop (posF l ex)).getD i ser0 = l.getD (posF l ex + i) ser0 := by simp
  rw [this]
  exact posF_ge hs (by omega) (by omega)
theorem no_name {b : Bk} (hs : SrtS b.ser) {ex : ByteArray} (hf : fndF b.ser ex = false) : ∀ s ∈ b.ser, s.name ≠ ex := by
  have := fnd_iff b hs ex
  rw [hf] at this
  exact serF_none.1 (by simpa using this.symm)
theorem srt_ins {b : Bk} (h : SrtS b.ser) (ex : ByteArray) (v : Ver) : SrtS (insS b.ser ex v) := by
  cases hf : fndF b.ser ex with
  | true =>
    obtain ⟨h1, h2, -⟩ := fnd_at h hf
    rw [ins_found h hf]
    unfold SrtS at h ⊢
    have e : ∀ l : List Ser, (l.Pairwise fun s t => ltS s.name t.name = true) ↔ (l.map Ser.name).Pairwise fun s t => ltS s t = true := fun l => (List.pairwise_map (f := Ser.name) (R := fun s t => ltS s t = true)).symm
    rw [e] at h ⊢
    rw [List.map_set]
    have : (b.ser.map Ser.name).set (posF b.ser ex) (newS b ex v).name = b.ser.map Ser.name := by
      apply List.ext_getElem?
      intro j
      rw [List.getElem?_set]
      by_cases hj : posF b.ser ex = j
      · subst hj
        rw [if_pos rfl, List.length_map, if_pos h1, List.getElem?_map, List.getElem?_eq_getElem h1]
        have : b.ser.getD (posF b.ser ex) ser0 = b.ser[posF b.ser ex] := by simp [List.getElem?_eq_getElem h1]
        rw [this] at h2
        simp [newS, h2]
      · rw [if_neg hj]
    rw [this]
    exact h
  | false =>
    rw [ins_new h hf]
    unfold SrtS
    rw [List.pairwise_append, List.pairwise_cons]
    have hno := no_name h hf
    have hd : ∀ t ∈ b.ser.drop (posF b.ser ex), ltS ex t.name = true := fun t ht => by
      have h1 := drop_ge h ht
      have h2 := hno t (List.mem_of_mem_drop ht)
      cases h3 : ltS ex t.name with
      | true => rfl
      | false => exact absurd (ltS_tri h1 h3) h2
    refine ⟨h.sublist (List.take_sublist _ _), ⟨hd, h.sublist (List.drop_sublist _ _)⟩, fun s hs t ht => ?_⟩
    rcases List.mem_cons.1 ht with rfl | ht
    · exact take_lt hs
    · exact ltS_trans (take_lt hs) (hd t ht)
theorem mem_ins {b : Bk} (h : SrtS b.ser) {ex : ByteArray} {v : Ver} {s : Ser} : s ∈ insS b.ser ex v ↔ (s ∈ b.ser ∧ s.name ≠ ex) ∨ s = newS b ex v := by
  cases hf : fndF b.ser ex with
  | true =>
    obtain ⟨h1, h2, -⟩ := fnd_at h hf
    rw [ins_found h hf, List.set_eq_take_append_cons_drop, if_pos h1]
    have hd : b.ser = b.ser.take (posF b.ser ex) ++ (b.ser.getD (posF b.ser ex) ser0 :: b.ser.drop (posF b.ser ex + 1)) := by
      have := take_drop_q (l := b.ser) (q := posF b.ser ex) (k := b.ser.length) h1 (Nat.le_refl _)
      rwa [List.take_length] at this
    have hp : (b.ser.take (posF b.ser ex) ++ (b.ser.getD (posF b.ser ex) ser0 :: b.ser.drop (posF b.ser ex + 1))).Pairwise fun s t => ltS s.name t.name = true := by rw [← hd]; exact h
    rw [List.pairwise_append, List.pairwise_cons] at hp
    obtain ⟨-, ⟨q1, -⟩, q2⟩ := hp
    constructor
    · intro hs
      rcases List.mem_append.1 hs with hs | hs
      · refine .inl ⟨List.mem_of_mem_take hs, fun he => ?_⟩
        have := take_lt hs
        rw [he, ltS_irr] at this
        cases this
      · rcases List.mem_cons.1 hs with hs | hs
        · exact .inr hs
        · refine .inl ⟨List.mem_of_mem_drop hs, fun he => ?_⟩
          have := q1 s hs
          rw [h2, he, ltS_irr] at this
          cases this
    · rintro (⟨hs, hn⟩ | rfl)
      · rw [hd] at hs
        rcases List.mem_append.1 hs with hs | hs
        · exact List.mem_append_left _ hs
        · rcases List.mem_cons.1 hs with rfl | hs
          · exact absurd h2 hn
          · exact List.mem_append_right _ (List.mem_cons_of_mem _ hs)
      · exact List.mem_append_right _ List.mem_cons_self
  | false =>
    have hno := no_name h hf
    rw [ins_new h hf]
    constructor
    · intro hs
      rcases List.mem_append.1 hs with hs | hs
      · exact .inl ⟨List.mem_of_mem_take hs, hno _ (List.mem_of_mem_take hs)⟩
      · rcases List.mem_cons.1 hs with hs | hs
        · exact .inr hs
        · exact .inl ⟨List.mem_of_mem_drop hs, hno _ (List.mem_of_mem_drop hs)⟩
    · rintro (⟨hs, hn⟩ | rfl)
      · rw [← List.take_append_drop (posF b.ser ex) b.ser] at hs
        rcases List.mem_append.1 hs with hs | hs
        · exact List.mem_append_left _ hs
        · exact List.mem_append_right _ (List.mem_cons_of_mem _ hs)
      · exact List.mem_append_right _ List.mem_cons_self
theorem serF_ins {b : Bk} (h : SrtS b.ser) (ex : ByteArray) (v : Ver) (x : ByteArray) : serF ⟨insS b.ser ex v, b.ent⟩ x = if x = ex then some (newS b ex v) else serF b x := by
  have hs : SrtS (Bk.mk (insS b.ser ex v) b.ent).ser := srt_ins h ex v
  by_cases hx : x = ex
  · rw [if_pos hx]
    subst hx
    exact (serF_iff hs).2 ⟨(mem_ins h).2 (.inr rfl), rfl⟩
  · rw [if_neg hx]
    cases hq : serF b x with
    | some s =>
      obtain ⟨h1, h2⟩ := serF_mem hq
      exact (serF_iff hs).2 ⟨(mem_ins h).2 (.inl ⟨h1, fun e => hx (h2.symm.trans e)⟩), h2⟩
    | none =>
      refine serF_none.2 fun s hm hn => ?_
      rcases (mem_ins h).1 hm with ⟨h1, -⟩ | rfl
      · exact serF_none.1 hq s h1 hn
      · exact hx hn.symm
end Go.Proofs.Ytgopbbkpcjgihaa
/-! text AE38 -/
namespace Go.Proofs.Ytgopbbkpcjgihaa
open Go.Vsi
attribute [local irreducible] VW VCall VO bits

theorem verF_snoc (l : List Ver) (v : Ver) (d : Int) : verF (l ++ [v]) d = if v.at_ ≤ d then some v else verF l d := by
  unfold verF
  rw [lastF_app]
  by_cases h : v.at_ ≤ d <;> simp [lastF, h]
theorem force_ins {b : Bk} (h : SrtS b.ser) (ex : ByteArray) (v : Ver) (x : ByteArray) (d : Int) : forceF ⟨insS b.ser ex v, b.ent⟩ x d = if x = ex ∧ v.at_ ≤ d then some v else forceF b x d := by
  unfold forceF
  rw [serF_ins h]
  by_cases hx : x = ex
  · subst hx
    rw [if_pos rfl]
    simp only [Option.getD_some, true_and]
    unfold newS oldV
    rw [verF_snoc]
  · rw [if_neg hx]
    simp [hx]
theorem le_last {l : List Ent} (h : l.Pairwise fun e f => e.day ≤ f.day) {e : Ent} (he : e ∈ l) : e.day ≤ (l.getD (l.length - 1) ent0).day := by
  obtain ⟨i, hi, rfl⟩ := mem_getD ent0 he
  rcases Nat.lt_or_ge i (l.length - 1) with h1 | h1
  · exact pw_get (R := fun e f : Ent => e.day ≤ f.day) (d := ent0) h h1 (by omega)
  · rw [show i = l.length - 1 by omega]
    exact Int.le_refl _
theorem le_lastV {l : List Ver} (h : l.Pairwise fun v w => v.at_ < w.at_) {v : Ver} (he : v ∈ l) : v.at_ ≤ (l.getD (l.length - 1) ver0).at_ := by
  obtain ⟨i, hi, rfl⟩ := mem_getD ver0 he
  rcases Nat.lt_or_ge i (l.length - 1) with h1 | h1
  · exact Int.le_of_lt (pw_get (R := fun e f : Ver => e.at_ < f.at_) (d := ver0) h h1 (by omega))
  · rw [show i = l.length - 1 by omega]
    exact Int.le_refl _
structure PubOk (b : Bk) (ex : ByteArray) (v : Ver) : Prop where
  vb : VB b
  nm : isName ex = true
  day : isDay v.at_ = true
  sch : validB v.sch = true
  late : ∀ w ∈ oldV b ex, w.at_ < v.at_
  past : ∀ e ∈ b.ent, e.day < v.at_
  len : (oldV b ex).length < 20
  full : serF b ex = none → b.ser.length < 40
theorem oldV_vv {b : Bk} (h : VB b) {ex : ByteArray} : (∃ s, serF b ex = some s ∧ oldV b ex = s.vers ∧ VV (oldV b ex)) ∨ (serF b ex = none ∧ oldV b ex = []) := by
  cases hs : serF b ex with
  | none => exact .inr ⟨rfl, by unfold oldV; rw [hs]; rfl⟩
  | some s =>
    have : oldV b ex = s.vers := by unfold oldV; rw [hs]; rfl
    exact .inl ⟨s, rfl, this, by rw [this]; exact h.vs s (serF_mem hs).1⟩
theorem pub_ok {b : Bk} {ex : ByteArray} {v : Ver} (hE : pubE b ex v = 0) : PubOk b ex v := by
  cases hi : pubIn b ex v with
  | false => unfold pubE at hE; rw [hi] at hE; cases hE
  | true =>
    unfold pubE at hE
    rw [hi] at hE
    simp only [if_true] at hE
    have h1 : pubLate b ex v = false := by
      cases h : pubLate b ex v with
      | false => rfl
      | true => rw [h] at hE; cases hE
    rw [h1] at hE
    have h2 : pubPast b v = false := by
      cases h : pubPast b v with
      | false => rfl
      | true => rw [h] at hE; cases hE
    rw [h2] at hE
    have h3 : pubFull b ex = false := by
      cases h : pubFull b ex with
      | false => rfl
      | true => rw [h] at hE; cases hE
    unfold pubIn at hi
    simp only [Bool.and_eq_true] at hi
    obtain ⟨hV, hN, hD, hS⟩ := hi
    have hvb := validF_iff.1 hV
    unfold pubLate at h1
    unfold pubPast at h2
    unfold pubFull at h3
    simp only [Bool.or_eq_false_iff, decide_eq_false_iff_not] at h3
    refine ⟨hvb, hN, hD, hS, fun w hw => ?_, fun e he => ?_, ?_, fun hn => ?_⟩
    · rcases oldV_vv hvb (ex := ex) with ⟨s, q1, q2, q3⟩ | ⟨q1, q2⟩
      · rw [q1] at h1
        simp only [Option.isSome_some, Bool.true_and, Option.getD_some, decide_eq_false_iff_not] at h1
        rw [q2] at hw q3
        have := le_lastV q3.srt hw
        omega
      · rw [q2] at hw
        cases hw
    · have hp : 0 < b.ent.length := List.length_pos_iff.2 (List.ne_nil_of_mem he)
      rw [decide_eq_true hp] at h2
      simp only [Bool.true_and, decide_eq_false_iff_not] at h2
      have := le_last hvb.esrt he
      omega
    · have := h3.1
      show ((serF b ex).getD ser0).vers.length < 20
      omega
    · have := h3.2
      rw [hn] at this
      simp at this
      omega
theorem pub_valid {b : Bk} {ex : ByteArray} {v : Ver} (h : PubOk b ex v) : VB ⟨insS b.ser ex v, b.ent⟩ := by
  have hs : SrtS b.ser := h.vb.srt
  refine ⟨?_, h.vb.ne, srt_ins hs ex v, fun s hm => ?_, fun s hm => ?_, h.vb.esrt, fun e he => ?_, h.vb.att⟩
  · show (insS b.ser ex v).length ≤ 40
    rw [insS_len]
    have hf := fnd_iff b hs ex
    split
    · exact h.vb.ns
    · rename_i hn
      rw [hf] at hn
      have := h.full (by simpa using hn)
      omega
  · rcases (mem_ins hs).1 hm with ⟨h1, -⟩ | rfl
    · exact h.vb.nm s h1
    · exact h.nm
  · rcases (mem_ins hs).1 hm with ⟨h1, -⟩ | rfl
    · exact h.vb.vs s h1
    · have hl := h.len
      refine ⟨by simp [newS], by simp [newS]; omega, fun w hw => ?_, fun w hw => ?_, ?_⟩
      · rcases List.mem_append.1 hw with hw | hw
        · rcases oldV_vv h.vb (ex := ex) with ⟨s, -, -, q3⟩ | ⟨-, q2⟩
          · exact q3.day w hw
          · rw [q2] at hw; cases hw
        · rw [List.mem_singleton.1 hw]; exact h.day
      · rcases List.mem_append.1 hw with hw | hw
        · rcases oldV_vv h.vb (ex := ex) with ⟨s, -, -, q3⟩ | ⟨-, q2⟩
          · exact q3.sch w hw
          · rw [q2] at hw; cases hw
        · rw [List.mem_singleton.1 hw]; exact h.sch
      · show (oldV b ex ++ [v]).Pairwise _
        rw [List.pairwise_append]
        refine ⟨?_, List.pairwise_singleton _ _, fun w hw u hu => ?_⟩
        · rcases oldV_vv h.vb (ex := ex) with ⟨s, -, -, q3⟩ | ⟨-, q2⟩
          · exact q3.srt
          · rw [q2]; exact .nil
        · rw [List.mem_singleton.1 hu]
          exact h.late w hw
  · obtain ⟨q1, q2, q3, q4⟩ := h.vb.ent e he
    refine ⟨q1, q2, ?_, q4⟩
    have := h.past e he
    rw [force_ins hs, if_neg (by omega)]
    exact q3
end Go.Proofs.Ytgopbbkpcjgihaa
/-! text AF38 -/
namespace Go.Proofs.Ytgopbbkpcjgihaa
open Go.Vsi
attribute [local irreducible] VW VCall VO bits

structure SubOk (b : Bk) (e : Ent) : Prop where
  vb : VB b
  nm : isName e.stu = true
  nx : isName e.exe = true
  day : isDay e.day = true
  frc : (forceF b e.exe e.day).isSome = true
  wrk : wvalid (wrk1 e.work) = true
  past : ∀ f ∈ b.ent, f.day ≤ e.day
  len : b.ent.length < 2000
  att : subAtt b e ≤ 100
theorem sub_ok {b : Bk} {e : Ent} (hE : subE b e = 0) : SubOk b e := by
  cases hi : subIn b e with
  | false => unfold subE at hE; rw [hi] at hE; cases hE
  | true =>
    unfold subE at hE
    rw [hi] at hE
    simp only [if_true] at hE
    have h1 : subPast b e = false := by
      cases h : subPast b e with
      | false => rfl
      | true => rw [h] at hE; cases hE
    rw [h1] at hE
    have h2 : (forceF b e.exe e.day).isSome = true := by
      cases h : (forceF b e.exe e.day).isSome with
      | true => rfl
      | false => rw [h] at hE; cases hE
    rw [h2] at hE
    have h3 : subFull b e = false := by
      cases h : subFull b e with
      | false => rfl
      | true => rw [h] at hE; cases hE
    unfold subIn at hi
    simp only [Bool.and_eq_true] at hi
    obtain ⟨hV, hN, hX, hD, hW⟩ := hi
    have hvb := validF_iff.1 hV
    unfold subPast at h1
    unfold subFull at h3
    simp only [Bool.or_eq_false_iff, decide_eq_false_iff_not] at h3
    refine ⟨hvb, hN, hX, hD, h2, hW, fun f hf => ?_, by omega, by omega⟩
    have hp : 0 < b.ent.length := List.length_pos_iff.2 (List.ne_nil_of_mem hf)
    rw [decide_eq_true hp] at h1
    simp only [Bool.true_and, decide_eq_false_iff_not] at h1
    have := le_last hvb.esrt hf
    omega
theorem getD_app_lt {α : Type} (l : List α) (x d : α) {i : Nat} (h : i < l.length) : (l ++ [x]).getD i d = l.getD i d := by
  simp [List.getElem?_append_left h]
theorem getD_app_eq {α : Type} (l : List α) (x d : α) : (l ++ [x]).getD l.length d = x := by
  simp
theorem sub_valid {b : Bk} {e : Ent} (h : SubOk b e) : VB ⟨b.ser, b.ent ++ [subEnt b e]⟩ := by
  refine ⟨h.vb.ns, ?_, h.vb.srt, h.vb.nm, h.vb.vs, ?_, fun f hf => ?_, fun i hi => ?_⟩
  · have := h.len
    simp
    omega
  · show (b.ent ++ [subEnt b e]).Pairwise _
    rw [List.pairwise_append]
    refine ⟨h.vb.esrt, List.pairwise_singleton _ _, fun f hf g hg => ?_⟩
    rw [List.mem_singleton.1 hg]
    exact h.past f hf
  · rcases List.mem_append.1 hf with hf | hf
    · obtain ⟨q1, q2, q3, q4⟩ := h.vb.ent f hf
      exact ⟨q1, q2, q3, q4⟩
    · rw [List.mem_singleton.1 hf]
      refine ⟨h.nm, h.day, h.frc, ?_⟩
      have hw := h.wrk
      have ha := h.att
      unfold wvalid wrk1 at hw
      unfold wvalid subEnt
      simp only [Bool.and_eq_true] at hw ⊢
      obtain ⟨w1, w2, w3, w4⟩ := hw
      refine ⟨w1, w2, ?_, w4⟩
      have : 1 ≤ subAtt b e := by unfold subAtt; omega
      unfold btw
      simp
      omega
  · show ((b.ent ++ [subEnt b e]).getD i ent0).work.att = (cntK ((b.ent ++ [subEnt b e]).take (i + 1)) (keyOf ((b.ent ++ [subEnt b e]).getD i ent0)) : Nat)
    have hi : i < b.ent.length + 1 := by simpa using hi
    rcases Nat.lt_or_ge i b.ent.length with h1 | h1
    · rw [getD_app_lt _ _ _ h1, List.take_append_of_le_length (by omega)]
      exact h.vb.att i h1
    · have : i = b.ent.length := by omega
      subst this
      rw [getD_app_eq, List.take_of_length_le (by simp)]
      have : keyOf (subEnt b e) = keyOf e := rfl
      rw [this]
      have h2 := cntK_snoc b.ent (subEnt b e)
      rw [this] at h2
      rw [h2]
      rfl
theorem bk0_vb : VB bk0 := by
  refine ⟨Nat.zero_le _, Nat.zero_le _, .nil, fun s hs => (by cases hs), fun s hs => (by cases hs), .nil, fun s hs => (by cases hs), fun i hi => absurd hi (Nat.not_lt_zero i)⟩
theorem do_valid {b : Bk} {a : Act} {d : Int} (h : doE b a d = 0) : VB (doF b a d) := by
  unfold doE at h
  unfold doF
  by_cases hk : a.k % 2 = 0
  · rw [if_pos hk] at h ⊢
    unfold pubF
    rw [if_pos h]
    exact pub_valid (pub_ok h)
  · rw [if_neg hk] at h ⊢
    unfold subF
    rw [if_pos h]
    exact sub_valid (sub_ok h)
theorem blt_valid (l : List Act) : ∀ k, VB (bltF l k).1
  | 0 => bk0_vb
  | k + 1 => by
    simp only [bltF]
    split
    · rename_i h
      exact do_valid h
    · exact blt_valid l k
end Go.Proofs.Ytgopbbkpcjgihaa
/-! text AG38 -/
namespace Go.Proofs.Ytgopbbkpcjgihaa
open Go.Vsi
set_option maxHeartbeats 4000000
set_option linter.unusedSimpArgs false
attribute [local irreducible] VW VCall VO bits

theorem bk_below (n : Nat) (b : Bk) : belowL n b.cells := by simp [Bk.cells, belowL, below, sers_below, ents_below]
theorem act_ex (a : Act) : ∃ k ex st dy f0 ra rb rc rd re xs ys prog days hints, a = ⟨k, ex, st, dy, ⟨f0, ra, rb, rc, rd, re, xs, ys⟩, prog, days, hints⟩ := ⟨_, _, _, _, _, _, _, _, _, _, _, _, _, _, _, rfl⟩
theorem act_cells {a : Act} {k ex st dy f0 ra rb rc rd re prog days hints : Int} {xs ys : List Int} (h : a = ⟨k, ex, st, dy, ⟨f0, ra, rb, rc, rd, re, xs, ys⟩, prog, days, hints⟩) :
    a.cells = [.int .u8 k, .int .u8 ex, .int .u8 st, .int .u8 dy, .int .u16 f0, .int .u8 ra, .int .u8 rb, .int .u8 rc, .int .u8 rd, .int .u8 re, .sl none xs.length (xs.flatMap enc8), .sl none ys.length (ys.flatMap enc8), .int .u64 prog, .int .u8 days, .int .u8 hints] := by
  subst h
  rfl
theorem built38_c (l : List Act) (hl : l.length ≤ 9223372036854775807) (ha : ∀ a ∈ l, a.Ok) (H : Heap) : VDet Try.prog 22 [.sl none l.length (l.flatMap Act.cells)] H (.tup [.agg (bltB l).cells, .int .i64 (bltD l)]) := by
  unfold bltB bltD
  have hn : bltN l ≤ l.length ∧ bltN l ≤ 40 := by unfold bltN; omega
  have hmin : min (l.length : Int) 40 = ((bltN l : Nat) : Int) := by unfold bltN; omega
  have hsub : SubL (l.flatMap Act.cells) (0 * 15) (bltN l * 15) ((l.take (bltN l)).flatMap Act.cells) := ⟨⟨(l.drop (bltN l)).flatMap Act.cells, by
    rw [Nat.zero_mul, List.drop_zero, ← List.flatMap_append, List.take_append_drop]⟩, by rw [flat_length act_size, List.length_take, Nat.min_eq_left hn.1]⟩
  refine fn_det Try.E0 Try.mx Try.func22 (by kernel_rfl) rfl (Nat.le_of_ble_eq_true rfl) rfl fun hcl hbl => ?_
  (repeat' ((conv => whnf); (first | (refine SideN.mk ?_ ?_; · first | kernel_rfl | omega | exact List.cons_ne_nil _ _ | (simp; done) | (simp; omega) | exact trivial | assumption | fail) | refine NatN.at_ (by omega) ?_ | refine DrawN.mk' [] ?_ | fail))); all_goals (conv => whnf)
  rw [hmin]
  (repeat' ((conv => whnf); (first | refine SubN.mk _ hsub ?_ | refine DrawN.mk' [] ?_ | fail))); all_goals (conv => whnf)
  refine LoopN.wkH [.box 25 [.nils, .nils], .box 25 bk0.cells] (.cons (.refl _) (.cons (.box bk_wk0) .nil)) ?_
  refine loop_R Try.E0 Try.mx (σ := Nat) (fun k => k ≤ bltN l) (fun k => bltN l - k) (fun k => [(5, .v (.int .i64 (bltF l k).2)), (16, .v (.int .i64 k))]) (fun k => [.box 25 [.nils, .nils], .box 25 (bltF l k).1.cells]) _ 0 rfl hcl [2, 4, 14, 15] rfl (Nat.zero_le _) ⟨⟨_, rfl, Wk.refl _⟩, ⟨_, rfl, Wk.refl _⟩, trivial⟩ rfl (fun _ _ => rfl) ?_
  intro k hk
  rcases Nat.lt_or_ge k (bltN l) with hlt | hge
  · obtain ⟨kd, ex, st, dy, f0, ra, rb, rc, rd, re, xs, ys, prog, days, hints, hv⟩ := act_ex (l.getD k act0)
    have e1 := act_cells hv
    have hg : (l.take (bltN l)).getD k act0 = l.getD k act0 := by simp [hlt]
    have hok := ha _ (getD_mem act0 (show k < l.length by omega))
    have hdy : (l.getD k act0).dy = dy := by rw [hv]
    have hdb := bltF_day l ha k (by omega)
    have hyb := hok.dy
    rw [hdy] at hyb
    have hdo := fun H => do_c (bltF l k).1 (blt_valid l k).sm (l.getD k act0) hok ((bltF l k).2 + dy % 4) (by omega) H
    rw [e1] at hdo
    have hs1 : (bltF l (k + 1)).1 = if doE (bltF l k).1 (l.getD k act0) ((bltF l k).2 + dy % 4) = 0 then doF (bltF l k).1 (l.getD k act0) ((bltF l k).2 + dy % 4) else (bltF l k).1 := by rw [← hdy]; rfl
    have hs2 : (bltF l (k + 1)).2 = (bltF l k).2 + dy % 4 := by rw [← hdy]; rfl
    have e1 : ((l.take (bltN l)).getD k act0).cells = _ := (congrArg Act.cells hg).trans e1
    obtain ⟨n1, c1, n2, c2, hc, -⟩ := bk_cells (bltF l k).1
    rw [hc] at hdo ⊢
    by_cases hE : doE (bltF l k).1 (l.getD k act0) ((bltF l k).2 + dy % 4) = 0
    · rw [if_pos hE] at hs1
      rw [hE, ← hs1] at hdo
      (repeat' ((conv => whnf); (first | (refine IfN.id ?_; first | refine IfN.tt rfl ?_ | refine IfN.dT (by omega) ?_ | fail) | (refine EqN.id ?_; first | (refine EqN.addN _ _ (by first | with_reducible rfl | with_reducible exact cst1 | with_reducible exact cst0 | with_reducible exact cst2 | with_reducible exact cst3 | with_reducible exact cst4 | with_reducible exact cst5 | with_reducible exact cst6 | with_reducible exact cst7 | with_reducible exact cst8 | with_reducible exact cst14 | with_reducible exact cst15 | with_reducible exact cst25 | with_reducible exact cst30 | with_reducible exact cst31 | fail) (by first | with_reducible rfl | with_reducible exact cst1 | with_reducible exact cst0 | with_reducible exact cst2 | with_reducible exact cst3 | with_reducible exact cst4 | with_reducible exact cst5 | with_reducible exact cst6 | with_reducible exact cst7 | with_reducible exact cst8 | with_reducible exact cst14 | with_reducible exact cst15 | with_reducible exact cst25 | with_reducible exact cst30 | with_reducible exact cst31 | fail) ?_ ?_; · (repeat' (first | omega | refine And.intro ?_ ?_ | exact bnd_andl (by omega) | exact bnd_andr (by omega) | refine bnd_or ?_ ?_ | refine bnd_or31 ?_ ?_ | refine bnd_xor ?_ ?_ | refine bnd_xor31 ?_ ?_ | refine bnd_shr ?_ | refine bnd_shl ?_ ?_ | refine bnd_mod ?_ | refine bnd_andl ?_ | fail))) | refine EqN.i64 (by omega) ?_ | refine EqN.rem (by omega) ?_ | fail) | (refine SideN.mk ?_ ?_; · first | kernel_rfl | omega | exact List.cons_ne_nil _ _ | (simp; done) | (simp; omega) | exact trivial | assumption | fail) | (refine CallN.id ?_; first | refine CallN.det _ (hdo _) ?_ | fail) | refine SegN.nthE act0 k rfl (by rw [List.length_take]; omega) act_size e1 ?_ | refine DrawN.mk' [] ?_ | fail))); all_goals (conv => whnf)
      rw [← hs2]
      (refine ⟨⟨k + 1, by show k + 1 ≤ _; omega, by omega, ?_, .inl ⟨rfl, rfl⟩, rfl, _, rfl, ?_⟩⟩; rotate_left 1; (first | exact .inl rfl | exact .inr ⟨by simp [belowRE, below, belowL, tr, sers_below, vers_below, ents_below, ent_below, ser_below, ver_below, encP_below, ksA_below, cntA_below, rows_below, acts_below, bk_below], by simp [belowH, Blk.below, belowL, below, sers_below, vers_below, ents_below, ent_below, ser_below, ver_below, encP_below, ksA_below, cntA_below, rows_below, acts_below, bk_below]⟩ | fail); (repeat' (first | exact trivial | refine ⟨⟨_, rfl, ?_⟩, ?_⟩ | fail)); all_goals try (first | exact Wk.refl _ | exact Wk.of_eq (congrArg (AV.int _) (by omega)) | fail))
    · rw [if_neg hE] at hs1
      obtain ⟨m1, d1, m2, d2, hc2, -⟩ := bk_cells (doF (bltF l k).1 (l.getD k act0) ((bltF l k).2 + dy % 4))
      rw [hc2] at hdo
      (repeat' ((conv => whnf); (first | (refine IfN.id ?_; first | refine IfN.dT (by omega) ?_ | refine IfN.dF (by omega) ?_ | fail) | (refine EqN.id ?_; first | (refine EqN.addN _ _ (by first | with_reducible rfl | with_reducible exact cst1 | with_reducible exact cst0 | with_reducible exact cst2 | with_reducible exact cst3 | with_reducible exact cst4 | with_reducible exact cst5 | with_reducible exact cst6 | with_reducible exact cst7 | with_reducible exact cst8 | with_reducible exact cst14 | with_reducible exact cst15 | with_reducible exact cst25 | with_reducible exact cst30 | with_reducible exact cst31 | fail) (by first | with_reducible rfl | with_reducible exact cst1 | with_reducible exact cst0 | with_reducible exact cst2 | with_reducible exact cst3 | with_reducible exact cst4 | with_reducible exact cst5 | with_reducible exact cst6 | with_reducible exact cst7 | with_reducible exact cst8 | with_reducible exact cst14 | with_reducible exact cst15 | with_reducible exact cst25 | with_reducible exact cst30 | with_reducible exact cst31 | fail) ?_ ?_; · (repeat' (first | omega | refine And.intro ?_ ?_ | exact bnd_andl (by omega) | exact bnd_andr (by omega) | refine bnd_or ?_ ?_ | refine bnd_or31 ?_ ?_ | refine bnd_xor ?_ ?_ | refine bnd_xor31 ?_ ?_ | refine bnd_shr ?_ | refine bnd_shl ?_ ?_ | refine bnd_mod ?_ | refine bnd_andl ?_ | fail))) | refine EqN.i64 (by omega) ?_ | refine EqN.rem (by omega) ?_ | fail) | (refine SideN.mk ?_ ?_; · first | kernel_rfl | omega | exact List.cons_ne_nil _ _ | (simp; done) | (simp; omega) | exact trivial | assumption | fail) | (refine CallN.id ?_; first | refine CallN.det _ (hdo _) ?_ | fail) | refine SegN.nthE act0 k rfl (by rw [List.length_take]; omega) act_size e1 ?_ | refine DrawN.mk' [] ?_ | fail))); all_goals (conv => whnf)
      rw [← hc, ← hs1, ← hs2]
      (refine ⟨⟨k + 1, by show k + 1 ≤ _; omega, by omega, ?_, .inl ⟨rfl, rfl⟩, rfl, _, rfl, ?_⟩⟩; rotate_left 1; (first | exact .inl rfl | exact .inr ⟨by simp [belowRE, below, belowL, tr, sers_below, vers_below, ents_below, ent_below, ser_below, ver_below, encP_below, ksA_below, cntA_below, rows_below, acts_below, bk_below], by simp [belowH, Blk.below, belowL, below, sers_below, vers_below, ents_below, ent_below, ser_below, ver_below, encP_below, ksA_below, cntA_below, rows_below, acts_below, bk_below]⟩ | fail); (repeat' (first | exact trivial | refine ⟨⟨_, rfl, ?_⟩, ?_⟩ | fail)); all_goals try (first | exact Wk.refl _ | exact Wk.of_eq (congrArg (AV.int _) (by omega)) | fail))
  · have hkn : k = bltN l := by omega
    subst hkn
    (repeat' ((conv => whnf); (first | (refine IfN.id ?_; first | refine IfN.dF (by omega) ?_ | fail) | refine DrawN.mk' [] ?_ | fail))); all_goals (conv => whnf)
    exact EndN.det (by simp [below, belowL, bk_below]) (Wk.refl _)
end Go.Proofs.Ytgopbbkpcjgihaa
/-! text AH38 -/
namespace Go.Proofs.Ytgopbbkpcjgihaa
open Go.Vsi
set_option maxHeartbeats 4000000
set_option linter.unusedSimpArgs false
attribute [local irreducible] VW VCall VO bits

def flatF (n : Int) : Sch := ⟨n, 0, 0, 0, 0, 1, []⟩
theorem flat_c (n : Int) (H : Heap) : VDet Try.prog 33 [.int .i64 n] H (.agg (flatF n).cells) := by
  refine fn_det Try.E0 Try.mx Try.func33 (by kernel_rfl) rfl (Nat.le_of_ble_eq_true rfl) rfl fun hcl hbl => ?_
  (repeat' ((conv => whnf); (first | refine DrawN.mk' [] ?_ | fail))); all_goals (conv => whnf)
  exact EndN.det (by simp [below, belowL, flatF, Sch.cells]) (by simp only [flatF, Sch.cells]; (repeat' (first | exact trivial | refine And.intro ?_ ?_ | exact Wk.refl _ | exact wk_sl _ _ _ | exact wk_sx _ _ | exact wk_nils | refine wk_agg ?_ | refine wk_tup ?_ | fail)); done)
def ptsOf (b : Bk) (d : Int) : Int := if repE b d = 0 ∧ (repR b d).length = 1 then ((repR b d).getD 0 rw0).pts else -1
theorem repE_cases (b : Bk) (d : Int) : repE b d = 0 ∨ repE b d = 2 := by
  unfold repE
  split
  · exact .inl rfl
  · exact .inr rfl
theorem points_c (b : Bk) (hb : b.Sm) (d : Int) (H : Heap) : VDet Try.prog 34 [.agg b.cells, .int .i64 d] H (.int .i64 (ptsOf b d)) := by
  have hre := fun H => reportR_c b hb d H
  unfold ptsOf
  obtain ⟨n1, c1, n2, c2, hc, -⟩ := bk_cells b
  rw [hc] at hre ⊢
  have hE := repE_cases b d
  generalize repE b d = e at *
  generalize repR b d = l at *
  by_cases he : e = 0
  · subst he
    by_cases hl : l.length = 1
    · rw [if_pos ⟨rfl, hl⟩]
      obtain ⟨x, y, p, hx⟩ := rw_ex (l.getD 0 rw0)
      have e1 := rw_cells hx
      rw [hx]
      refine fn_det Try.E0 Try.mx Try.func34 (by kernel_rfl) rfl (Nat.le_of_ble_eq_true rfl) rfl fun hcl hbl => ?_
      (repeat' ((conv => whnf); (first | (refine IfN.id ?_; first | refine IfN.not ?_ | refine IfN.tt rfl ?_ | refine IfN.dT (by omega) ?_ | fail) | (refine SideN.mk ?_ ?_; · first | kernel_rfl | omega | exact List.cons_ne_nil _ _ | (simp; done) | (simp; omega) | exact trivial | assumption | fail) | (refine CallN.id ?_; first | refine CallN.det _ (hre _) ?_ | fail) | refine SegN.nthE rw0 0 rfl (by omega) rw_size e1 ?_ | refine DrawN.mk' [] ?_ | fail))); all_goals (conv => whnf)
      exact EndN.det trivial (Wk.refl _)
    · rw [if_neg (fun h => hl h.2)]
      refine fn_det Try.E0 Try.mx Try.func34 (by kernel_rfl) rfl (Nat.le_of_ble_eq_true rfl) rfl fun hcl hbl => ?_
      (repeat' ((conv => whnf); (first | (refine IfN.id ?_; first | refine IfN.not ?_ | refine IfN.tt rfl ?_ | refine IfN.dF (by omega) ?_ | fail) | (refine CallN.id ?_; first | refine CallN.det _ (hre _) ?_ | fail) | refine DrawN.mk' [] ?_ | fail))); all_goals (conv => whnf)
      exact EndN.det trivial (Wk.refl _)
  · rw [if_neg (fun h => he h.1)]
    refine fn_det Try.E0 Try.mx Try.func34 (by kernel_rfl) rfl (Nat.le_of_ble_eq_true rfl) rfl fun hcl hbl => ?_
    (repeat' ((conv => whnf); (first | (refine IfN.id ?_; first | refine IfN.not ?_ | refine IfN.dF (by omega) ?_ | fail) | (refine CallN.id ?_; first | refine CallN.det _ (hre _) ?_ | fail) | refine DrawN.mk' [] ?_ | fail))); all_goals (conv => whnf)
    exact EndN.det trivial (Wk.refl _)
def awN : ByteArray := ⟨#[101, 49]⟩
def awA : Bk := pubF bk0 awN ⟨0, flatF 10⟩
def awB : Bk := pubF awA awN ⟨5, flatF 20⟩
def awE : Ent := ⟨⟨#[97, 110, 110]⟩, awN, 2, ⟨1152921504606846976, 0, 0, 0⟩⟩
def awC : Bk := subF awA awE
def awD : Bk := pubF awC awN ⟨5, flatF 20⟩
def awG : Bk := pubF awD awN ⟨7, flatF 30⟩
theorem aw_vb {b : Bk} {ex : ByteArray} {v : Ver} (h : pubE b ex v = 0) : VB (pubF b ex v) := by
  unfold pubF
  rw [if_pos h]
  exact pub_valid (pub_ok h)
theorem aw_vs {b : Bk} {e : Ent} (h : subE b e = 0) : VB (subF b e) := by
  unfold subF
  rw [if_pos h]
  exact sub_valid (sub_ok h)
theorem awake_c (H : Heap) : VDet Try.prog 11 [] H (.bool true) := by
  have q1 : pubE bk0 awN ⟨0, flatF 10⟩ = 0 := by kernel_rfl
  have q2 : pubE awA awN ⟨5, flatF 20⟩ = 0 := by kernel_rfl
  have q3 : subE awA awE = 0 := by kernel_rfl
  have q4 : pubE awC awN ⟨5, flatF 20⟩ = 0 := by kernel_rfl
  have q5 : pubE awD awN ⟨7, flatF 30⟩ = 0 := by kernel_rfl
  have vA : VB awA := aw_vb q1
  have vB : VB awB := aw_vb q2
  have vC : VB awC := aw_vs q3
  have vD : VB awD := aw_vb q4
  have vG : VB awG := aw_vb q5
  have hA : ∀ H, VDet Try.prog 13 [.agg [.nils, .nils], .str awN, .agg (Ver.mk 0 (flatF 10)).cells] H (.tup [.agg awA.cells, .int .i64 0]) := fun H => by
    have := publish_c bk0 bk0_vb.sm awN ⟨0, flatF 10⟩ H
    rw [q1] at this
    exact VDet.wk this ⟨wk_agg ⟨wk_nils, wk_nils, trivial⟩, Wk.refl _, Wk.refl _, trivial⟩
  have hB : ∀ H, VDet Try.prog 13 [.agg awA.cells, .str awN, .agg (Ver.mk 5 (flatF 20)).cells] H (.tup [.agg awB.cells, .int .i64 0]) := fun H => by
    have := publish_c awA vA.sm awN ⟨5, flatF 20⟩ H
    rwa [q2] at this
  have hC : ∀ H, VDet Try.prog 14 [.agg awA.cells, .agg awE.cells] H (.tup [.agg awC.cells, .int .i64 0]) := fun H => by
    have := submit_c awA vA.sm awE H
    rwa [q3] at this
  have hD : ∀ H, VDet Try.prog 13 [.agg awC.cells, .str awN, .agg (Ver.mk 5 (flatF 20)).cells] H (.tup [.agg awD.cells, .int .i64 0]) := fun H => by
    have := publish_c awC vC.sm awN ⟨5, flatF 20⟩ H
    rwa [q4] at this
  have hG : ∀ H, VDet Try.prog 13 [.agg awD.cells, .str awN, .agg (Ver.mk 7 (flatF 30)).cells] H (.tup [.agg awG.cells, .int .i64 0]) := fun H => by
    have := publish_c awD vD.sm awN ⟨7, flatF 30⟩ H
    rwa [q5] at this
  have p1 : ∀ H, VDet Try.prog 34 [.agg awB.cells, .int .i64 5] H (.int .i64 (-1)) := fun H => by
    have := points_c awB vB.sm 5 H
    rwa [show ptsOf awB 5 = -1 by kernel_rfl] at this
  have p2 : ∀ H, VDet Try.prog 34 [.agg awD.cells, .int .i64 1] H (.int .i64 (-1)) := fun H => by
    have := points_c awD vD.sm 1 H
    rwa [show ptsOf awD 1 = -1 by kernel_rfl] at this
  have p3 : ∀ H, VDet Try.prog 34 [.agg awD.cells, .int .i64 2] H (.int .i64 10) := fun H => by
    have := points_c awD vD.sm 2 H
    rwa [show ptsOf awD 2 = 10 by kernel_rfl] at this
  have p4 : ∀ H, VDet Try.prog 34 [.agg awD.cells, .int .i64 4] H (.int .i64 10) := fun H => by
    have := points_c awD vD.sm 4 H
    rwa [show ptsOf awD 4 = 10 by kernel_rfl] at this
  have p5 : ∀ H, VDet Try.prog 34 [.agg awD.cells, .int .i64 5] H (.int .i64 20) := fun H => by
    have := points_c awD vD.sm 5 H
    rwa [show ptsOf awD 5 = 20 by kernel_rfl] at this
  have p6 : ∀ H, VDet Try.prog 34 [.agg awG.cells, .int .i64 2] H (.int .i64 10) := fun H => by
    have := points_c awG vG.sm 2 H
    rwa [show ptsOf awG 2 = 10 by kernel_rfl] at this
  have p7 : ∀ H, VDet Try.prog 34 [.agg awG.cells, .int .i64 5] H (.int .i64 20) := fun H => by
    have := points_c awG vG.sm 5 H
    rwa [show ptsOf awG 5 = 20 by kernel_rfl] at this
  have p8 : ∀ H, VDet Try.prog 34 [.agg awG.cells, .int .i64 7] H (.int .i64 30) := fun H => by
    have := points_c awG vG.sm 7 H
    rwa [show ptsOf awG 7 = 30 by kernel_rfl] at this
  have f1 := fun H => flat_c 10 H
  have f2 := fun H => flat_c 20 H
  have f3 := fun H => flat_c 30 H
  clear vA vB vC vD vG q1 q2 q3 q4 q5
  obtain ⟨nA, cA, mA, dA, eA, -⟩ := bk_cells awA
  obtain ⟨nB, cB, mB, dB, eB, -⟩ := bk_cells awB
  obtain ⟨nC, cC, mC, dC, eC, -⟩ := bk_cells awC
  obtain ⟨nD, cD, mD, dD, eD, -⟩ := bk_cells awD
  obtain ⟨nG, cG, mG, dG, eG, -⟩ := bk_cells awG
  simp only [eA, eB, eC, eD, eG] at hA hB hC hD hG p1 p2 p3 p4 p5 p6 p7 p8
  refine fn_det Try.E0 Try.mx Try.func11 (by kernel_rfl) rfl (Nat.le_of_ble_eq_true rfl) rfl fun hcl hbl => ?_
  (repeat' ((conv => whnf); (first | (refine IfN.id ?_; first | refine IfN.not ?_ | refine IfN.tt rfl ?_ | fail) | (refine SideN.mk ?_ ?_; · first | kernel_rfl | omega | exact List.cons_ne_nil _ _ | (simp; done) | (simp; omega) | exact trivial | assumption | fail) | (refine CallN.id ?_; first | refine CallN.det _ (f1 _) ?_ | refine CallN.det _ (hA _) ?_ | refine CallN.det _ (hC _) ?_ | refine CallN.det _ (p1 _) ?_ | refine CallN.det _ (p2 _) ?_ | refine CallN.det _ (p3 _) ?_ | refine CallN.det _ (p4 _) ?_ | refine CallN.det _ (p5 _) ?_ | refine CallN.det _ (p6 _) ?_ | refine CallN.det _ (p7 _) ?_ | refine CallN.det _ (p8 _) ?_ | fail) | (refine CallD.id ?_; first | refine CallD.det _ (fun _ hq X => f2 _) ?_ | refine CallD.det _ (fun _ hq X => f3 _) ?_ | refine CallD.det _ (fun _ hq X => hB _) ?_ | refine CallD.det _ (fun _ hq X => hD _) ?_ | refine CallD.det _ (fun _ hq X => hG _) ?_ | fail) | refine DrawN.mk' [] ?_ | fail))); all_goals (conv => whnf)
  exact EndN.det trivial (Wk.refl _)
end Go.Proofs.Ytgopbbkpcjgihaa
/-! text AI38 -/
namespace Go.Proofs.Ytgopbbkpcjgihaa
open Go.Vsi
set_option maxHeartbeats 4000000
set_option linter.unusedSimpArgs false
attribute [local irreducible] VW VCall VO bits

def chgR (b : Bk) (d1 d2 : Int) : List Rw := (repR b d2).filter fun x => !(repR b d1).any (eqRw x)
theorem chgR_eq (b : Bk) (d1 d2 : Int) : chgR b d1 d2 = (chgK b d1 d2).map fun k => ⟨k.1, k.2, ptsF b d2 k⟩ := by
  unfold chgR chgK repR
  rw [List.filter_map]
  congr 1
  apply List.filter_congr
  intro k _
  simp only [Function.comp, List.any_map]
  rfl
theorem isDay_iff {d : Int} : isDay d = true ↔ 0 ≤ d ∧ d ≤ 1048576 := by
  unfold isDay
  simp
theorem repE_0 {b : Bk} (h : VB b) {d : Int} (hd : 0 ≤ d ∧ d ≤ 1000) : repE b d = 0 := by
  unfold repE
  rw [validF_iff.2 h, show isDay d = true from by exact isDay_iff.2 (by omega)]
  rfl
theorem changesR_c (b : Bk) (h : VB b) (d1 d2 : Int) (h1 : 0 ≤ d1 ∧ d1 ≤ 1000) (h2 : 0 ≤ d2 ∧ d2 ≤ 1000) (H : Heap) : VDet Try.prog 32 [.agg b.cells, .int .i64 d1, .int .i64 d2] H (.tup [.sl none (chgR b d1 d2).length ((chgR b d1 d2).flatMap Rw.cells), .int .i64 0]) := by
  have := changes_c b h.sm d1 d2 H
  have hE : chgE b d1 d2 = 0 := by
    unfold chgE
    rw [show isDay d1 = true from by exact isDay_iff.2 (by omega), show isDay d2 = true from by exact isDay_iff.2 (by omega)]
    exact repE_0 h h1
  rw [hE] at this
  simp only [if_true] at this
  rw [chgR_eq, List.length_map, List.flatMap_map]
  exact this
theorem chgR_self (b : Bk) (d : Int) : chgR b d d = [] := by
  unfold chgR
  rw [List.filter_eq_nil_iff]
  intro x hx
  have : (repR b d).any (eqRw x) = true := List.any_eq_true.2 ⟨x, hx, eqRw_iff.2 rfl⟩
  rw [this]
  decide
theorem eqRw_comm (x y : Rw) : eqRw x y = eqRw y x := by
  rw [Bool.eq_iff_iff, eqRw_iff, eqRw_iff]
  exact eq_comm
theorem repR_le {b : Bk} (d : Int) : (repR b d).length ≤ 2000 := by rw [repR_len]; exact repK_len d
theorem lawChanges_c (l : List Act) (hl : l.length ≤ 9223372036854775807) (ha : ∀ a ∈ l, a.Ok) (m n : Int) (hm : 0 ≤ m ∧ m ≤ 255) (hn : 0 ≤ n ∧ n ≤ 255) (H : Heap) : VDet Try.prog 8 [.sl none l.length (l.flatMap Act.cells), .int .u8 m, .int .u8 n] H (.bool true) := by
  have hvb : VB (bltB l) := blt_valid l _
  have hbu := fun H => built38_c l hl ha H
  have hD := bltF_day l ha (bltN l) (by unfold bltN; omega)
  have hN : bltN l ≤ 40 := by unfold bltN; omega
  have hD2 : 0 ≤ bltD l ∧ bltD l ≤ 120 := by unfold bltD; omega
  generalize bltB l = b at *
  generalize bltD l = D at *
  have hm1 : 0 ≤ m % (D + 1) ∧ m % (D + 1) ≤ 120 := ⟨Int.emod_nonneg _ (by omega), by have := Int.emod_lt_of_pos m (show 0 < D + 1 by omega); omega⟩
  have hn1 : 0 ≤ n % (D + 1) ∧ n % (D + 1) ≤ 120 := ⟨Int.emod_nonneg _ (by omega), by have := Int.emod_lt_of_pos n (show 0 < D + 1 by omega); omega⟩
  obtain ⟨d1, hd1⟩ : ∃ d1, d1 = m % (D + 1) := ⟨_, rfl⟩
  obtain ⟨d2, hd2⟩ : ∃ d2, d2 = n % (D + 1) := ⟨_, rfl⟩
  rw [← hd1] at hm1
  rw [← hd2] at hn1
  have hr1 := fun H => reportR_c b hvb.sm d1 H
  have hr2 := fun H => reportR_c b hvb.sm d2 H
  rw [repE_0 hvb (by omega)] at hr1 hr2
  have hc1 := fun H => changesR_c b hvb d1 d2 (by omega) (by omega) H
  have hc2 := fun H => changesR_c b hvb d2 d2 (by omega) (by omega) H
  rw [chgR_self] at hc2
  have hl1 := repR_le (b := b) d1
  have hl2 := repR_le (b := b) d2
  subst hd1
  subst hd2
  obtain ⟨n1, c1, n2, c2, hc, hbc⟩ := bk_cells b
  have hbc1 := fun n => (hbc n).1
  have hbc2 := fun n => (hbc n).2
  rw [hc] at hbu hr1 hr2 hc1 hc2
  have hch : chgR b (m % (D + 1)) (n % (D + 1)) = (repR b (n % (D + 1))).filter fun x => !(repR b (m % (D + 1))).any (eqRw x) := rfl
  generalize repR b (m % (D + 1)) = R1 at *
  generalize repR b (n % (D + 1)) = R2 at *
  generalize chgR b (m % (D + 1)) (n % (D + 1)) = C at *
  refine fn_det Try.E0 Try.mx Try.func8 (by kernel_rfl) rfl (Nat.le_of_ble_eq_true rfl) rfl fun hcl hbl => ?_
  (repeat' ((conv => whnf); (first | (refine IfN.id ?_; first | refine IfN.not ?_ | refine IfN.tt rfl ?_ | fail) | (refine EqN.id ?_; first | refine EqN.i64 (by omega) ?_ | refine EqN.rem (by omega) ?_ | fail) | (refine SideN.mk ?_ ?_; · first | kernel_rfl | omega | exact List.cons_ne_nil _ _ | (simp; done) | (simp; omega) | exact trivial | assumption | fail) | (refine CallN.id ?_; first | refine CallN.det _ (hbu _) ?_ | refine CallN.det _ (hr1 _) ?_ | refine CallN.det _ (hr2 _) ?_ | refine CallN.det _ (hc1 _) ?_ | refine CallN.det _ (hc2 _) ?_ | fail) | refine DrawN.mk' [] ?_ | fail))); all_goals (conv => whnf)
  refine loop_R Try.E0 Try.mx (σ := Nat) (fun k => k ≤ R2.length) (fun k => R2.length - k) (fun k => [(19, .v (.int .i64 (((R2.take k).filter fun x => !R1.any (eqRw x)).length : Nat))), (87, .v (.int .i64 k))]) (fun _ => [.box 25 [.sl none n1 c1, .sl none n2 c2]]) _ 0 rfl hcl [11, 15, 85, 86] rfl (Nat.zero_le _) ⟨⟨_, rfl, Wk.refl _⟩, ⟨_, rfl, Wk.refl _⟩, trivial⟩ rfl (fun _ _ => rfl) ?_
  intro k hk
  rcases Nat.lt_or_ge k R2.length with hlt | hge
  · obtain ⟨xa, xb, xp, hx⟩ := rw_ex (R2.getD k rw0)
    have e1 := rw_cells hx
    have hts := take_snoc R2 rw0 k hlt
    rw [hx] at hts
    (repeat' ((conv => whnf); (first | (refine IfN.id ?_; first | refine IfN.dT (by omega) ?_ | fail) | (refine SideN.mk ?_ ?_; · first | kernel_rfl | omega | exact List.cons_ne_nil _ _ | (simp; done) | (simp; omega) | exact trivial | assumption | fail) | refine SegN.nthE rw0 k rfl (by omega) rw_size e1 ?_ | refine DrawN.mk' [] ?_ | fail))); all_goals (conv => whnf)
    refine loop_R Try.E0 Try.mx (σ := Nat) (fun i => i ≤ R1.length) (fun i => R1.length - i) (fun i => [(22, .v (.bool ((R1.take i).any fun y => eqRw y ⟨xa, xb, xp⟩))), (93, .v (.int .i64 i))]) (fun _ => [.box 25 [.sl none n1 c1, .sl none n2 c2], .box 83 [.str xa, .str xb, .int .i64 xp]]) _ 0 rfl hcl [11, 15, 19, 21, 85, 86, 87, 91, 92] rfl (Nat.zero_le _) ⟨⟨_, rfl, Wk.refl _⟩, ⟨_, rfl, Wk.refl _⟩, trivial⟩ rfl (fun _ _ => rfl) ?_
    intro i hi
    rcases Nat.lt_or_ge i R1.length with hlt1 | hge1
    · obtain ⟨ya, yb, yp, hy⟩ := rw_ex (R1.getD i rw0)
      have e2 := rw_cells hy
      have hts1 := take_snoc R1 rw0 i hlt1
      rw [hy] at hts1
      have hst : (R1.take (i + 1)).any (fun y => eqRw y ⟨xa, xb, xp⟩) = ((R1.take i).any (fun y => eqRw y ⟨xa, xb, xp⟩) || eqRw ⟨ya, yb, yp⟩ ⟨xa, xb, xp⟩) := by
        rw [hts1, List.any_append]
        simp
      have hq : eqV Try.kn Try.T 20 83 (.agg [.str ya, .str yb, .int .i64 yp]) (.agg [.str xa, .str xb, .int .i64 xp]) = some (eqRw ⟨ya, yb, yp⟩ ⟨xa, xb, xp⟩) := rfl
      cases hf : (R1.take i).any (fun y => eqRw y ⟨xa, xb, xp⟩)
      · (repeat' ((conv => whnf); (first | (refine IfN.id ?_; first | refine IfN.ff rfl ?_ | refine IfN.dT (by omega) ?_ | fail) | (refine EqN.id ?_; first | (refine EqN.addN _ _ (by first | with_reducible rfl | with_reducible exact cst1 | with_reducible exact cst0 | with_reducible exact cst2 | with_reducible exact cst3 | with_reducible exact cst4 | with_reducible exact cst5 | with_reducible exact cst6 | with_reducible exact cst7 | with_reducible exact cst8 | with_reducible exact cst14 | with_reducible exact cst15 | with_reducible exact cst25 | with_reducible exact cst30 | with_reducible exact cst31 | fail) (by first | with_reducible rfl | with_reducible exact cst1 | with_reducible exact cst0 | with_reducible exact cst2 | with_reducible exact cst3 | with_reducible exact cst4 | with_reducible exact cst5 | with_reducible exact cst6 | with_reducible exact cst7 | with_reducible exact cst8 | with_reducible exact cst14 | with_reducible exact cst15 | with_reducible exact cst25 | with_reducible exact cst30 | with_reducible exact cst31 | fail) ?_ ?_; · (repeat' (first | omega | refine And.intro ?_ ?_ | exact bnd_andl (by omega) | exact bnd_andr (by omega) | refine bnd_or ?_ ?_ | refine bnd_or31 ?_ ?_ | refine bnd_xor ?_ ?_ | refine bnd_xor31 ?_ ?_ | refine bnd_shr ?_ | refine bnd_shl ?_ ?_ | refine bnd_mod ?_ | refine bnd_andl ?_ | fail))) | fail) | (refine SideN.mk ?_ ?_; · first | kernel_rfl | omega | exact List.cons_ne_nil _ _ | (simp; done) | (simp; omega) | exact trivial | assumption | fail) | refine SegN.nthE rw0 i rfl (by omega) rw_size e2 ?_ | refine DrawN.mk' [] ?_ | fail))); all_goals (conv => whnf)
        rw [show (ya.toList == xa.toList && (yb.toList == xb.toList && (yp == xp && true))) = (R1.take (i + 1)).any (fun y => eqRw y ⟨xa, xb, xp⟩) from by rw [hst, hf]; rfl]
        (refine ⟨⟨i + 1, by show i + 1 ≤ _; omega, by omega, ?_, .inl ⟨rfl, rfl⟩, rfl, _, rfl, ?_⟩⟩; rotate_left 1; (first | exact .inl rfl | exact .inr ⟨by simp [belowRE, below, belowL, tr, sers_below, vers_below, ents_below, ent_below, ser_below, ver_below, encP_below, ksA_below, cntA_below, rows_below, acts_below, bk_below, rws_below, hbc1, hbc2], by simp [belowH, Blk.below, belowL, below, sers_below, vers_below, ents_below, ent_below, ser_below, ver_below, encP_below, ksA_below, cntA_below, rows_below, acts_below, bk_below, rws_below, hbc1, hbc2]⟩ | fail); (repeat' (first | exact trivial | refine ⟨⟨_, rfl, ?_⟩, ?_⟩ | fail)); all_goals try (first | exact Wk.refl _ | exact Wk.of_eq (congrArg (AV.int _) (by omega)) | fail))
      · rw [hf] at hst
        (repeat' ((conv => whnf); (first | (refine IfN.id ?_; first | refine IfN.tt rfl ?_ | refine IfN.dT (by omega) ?_ | fail) | (refine EqN.id ?_; first | (refine EqN.addN _ _ (by first | with_reducible rfl | with_reducible exact cst1 | with_reducible exact cst0 | with_reducible exact cst2 | with_reducible exact cst3 | with_reducible exact cst4 | with_reducible exact cst5 | with_reducible exact cst6 | with_reducible exact cst7 | with_reducible exact cst8 | with_reducible exact cst14 | with_reducible exact cst15 | with_reducible exact cst25 | with_reducible exact cst30 | with_reducible exact cst31 | fail) (by first | with_reducible rfl | with_reducible exact cst1 | with_reducible exact cst0 | with_reducible exact cst2 | with_reducible exact cst3 | with_reducible exact cst4 | with_reducible exact cst5 | with_reducible exact cst6 | with_reducible exact cst7 | with_reducible exact cst8 | with_reducible exact cst14 | with_reducible exact cst15 | with_reducible exact cst25 | with_reducible exact cst30 | with_reducible exact cst31 | fail) ?_ ?_; · (repeat' (first | omega | refine And.intro ?_ ?_ | exact bnd_andl (by omega) | exact bnd_andr (by omega) | refine bnd_or ?_ ?_ | refine bnd_or31 ?_ ?_ | refine bnd_xor ?_ ?_ | refine bnd_xor31 ?_ ?_ | refine bnd_shr ?_ | refine bnd_shl ?_ ?_ | refine bnd_mod ?_ | refine bnd_andl ?_ | fail))) | fail) | (refine SideN.mk ?_ ?_; · first | kernel_rfl | omega | exact List.cons_ne_nil _ _ | (simp; done) | (simp; omega) | exact trivial | assumption | fail) | refine SegN.nthE rw0 i rfl (by omega) rw_size e2 ?_ | refine DrawN.mk' [] ?_ | fail))); all_goals (conv => whnf)
        (refine ⟨⟨i + 1, by show i + 1 ≤ _; omega, by omega, ?_, .inl ⟨rfl, rfl⟩, rfl, _, rfl, ?_⟩⟩; rotate_left 1; (first | exact .inl rfl | exact .inr ⟨by simp [belowRE, below, belowL, tr, sers_below, vers_below, ents_below, ent_below, ser_below, ver_below, encP_below, ksA_below, cntA_below, rows_below, acts_below, bk_below, rws_below, hbc1, hbc2], by simp [belowH, Blk.below, belowL, below, sers_below, vers_below, ents_below, ent_below, ser_below, ver_below, encP_below, ksA_below, cntA_below, rows_below, acts_below, bk_below, rws_below, hbc1, hbc2]⟩ | fail); (repeat' (first | exact trivial | refine ⟨⟨_, rfl, ?_⟩, ?_⟩ | fail)); all_goals try (first | exact Wk.refl _ | exact Wk.of_eq (congrArg (AV.int _) (by omega)) | fail))
        all_goals exact Wk.of_eq (congrArg AV.bool (by rw [hst]; rfl))
    · have hie : i = R1.length := by omega
      subst hie
      rw [List.take_length]
      have hPx : R1.any (eqRw ⟨xa, xb, xp⟩) = R1.any (fun y => eqRw y ⟨xa, xb, xp⟩) := by
        congr 1
        funext y
        exact eqRw_comm _ _
      cases hF : R1.any (fun y => eqRw y ⟨xa, xb, xp⟩)
      · have hJ : (R2.take (k + 1)).filter (fun x => !R1.any (eqRw x)) = (R2.take k).filter (fun x => !R1.any (eqRw x)) ++ [⟨xa, xb, xp⟩] := by
          rw [hts, List.filter_append]
          congr 1
          simp [hPx, hF]
        have hCC : C = (R2.take k).filter (fun x => !R1.any (eqRw x)) ++ (⟨xa, xb, xp⟩ :: (R2.drop (k + 1)).filter (fun x => !R1.any (eqRw x))) := by
          rw [hch]
          conv => lhs; rw [← List.take_append_drop (k + 1) R2]
          rw [List.filter_append, hJ, List.append_assoc]
          rfl
        have hCj : C.getD ((R2.take k).filter (fun x => !R1.any (eqRw x))).length rw0 = ⟨xa, xb, xp⟩ := by
          rw [hCC]
          simp
        have hCl : ((R2.take k).filter (fun x => !R1.any (eqRw x))).length < C.length := by
          rw [hCC]
          simp
        have hJl : ((R2.take (k + 1)).filter (fun x => !R1.any (eqRw x))).length = ((R2.take k).filter (fun x => !R1.any (eqRw x))).length + 1 := by rw [hJ]; simp
        have hJ2 : C.length ≤ 2000 := by
          rw [hch]
          exact Nat.le_trans (List.length_filter_le _ _) hl2
        have e3 := rw_cells hCj
        have hself : (xa.toList == xa.toList && (xb.toList == xb.toList && (xp == xp && true))) = true := by simp
        (repeat' ((conv => whnf); (first | (refine IfN.id ?_; first | refine IfN.not ?_ | refine IfN.ff rfl ?_ | refine IfN.dF (by omega) ?_ | refine IfN.tt (by assumption) ?_ | fail) | (refine EqN.id ?_; first | (refine EqN.addN _ _ (by first | with_reducible rfl | with_reducible exact cst1 | with_reducible exact cst0 | with_reducible exact cst2 | with_reducible exact cst3 | with_reducible exact cst4 | with_reducible exact cst5 | with_reducible exact cst6 | with_reducible exact cst7 | with_reducible exact cst8 | with_reducible exact cst14 | with_reducible exact cst15 | with_reducible exact cst25 | with_reducible exact cst30 | with_reducible exact cst31 | fail) (by first | with_reducible rfl | with_reducible exact cst1 | with_reducible exact cst0 | with_reducible exact cst2 | with_reducible exact cst3 | with_reducible exact cst4 | with_reducible exact cst5 | with_reducible exact cst6 | with_reducible exact cst7 | with_reducible exact cst8 | with_reducible exact cst14 | with_reducible exact cst15 | with_reducible exact cst25 | with_reducible exact cst30 | with_reducible exact cst31 | fail) ?_ ?_; · (repeat' (first | omega | refine And.intro ?_ ?_ | exact bnd_andl (by omega) | exact bnd_andr (by omega) | refine bnd_or ?_ ?_ | refine bnd_or31 ?_ ?_ | refine bnd_xor ?_ ?_ | refine bnd_xor31 ?_ ?_ | refine bnd_shr ?_ | refine bnd_shl ?_ ?_ | refine bnd_mod ?_ | refine bnd_andl ?_ | fail))) | fail) | (refine SideN.mk ?_ ?_; · first | kernel_rfl | omega | exact List.cons_ne_nil _ _ | (simp; done) | (simp; omega) | exact trivial | assumption | fail) | refine SegN.nthE rw0 ((R2.take k).filter (fun x => !R1.any (eqRw x))).length rfl (by omega) rw_size e3 ?_ | refine DrawN.mk' [] ?_ | fail))); all_goals (conv => whnf)
        rw [← hJl]
        (refine ⟨⟨k + 1, by show k + 1 ≤ _; omega, by omega, ?_, .inr ?_, rfl, _, rfl, ?_⟩⟩; rotate_left 2; (first | exact .inl rfl | exact .inr ⟨by simp [belowRE, below, belowL, tr, sers_below, vers_below, ents_below, ent_below, ser_below, ver_below, encP_below, ksA_below, cntA_below, rows_below, acts_below, bk_below, rws_below, hbc1, hbc2], by simp [belowH, Blk.below, belowL, below, sers_below, vers_below, ents_below, ent_below, ser_below, ver_below, encP_below, ksA_below, cntA_below, rows_below, acts_below, bk_below, rws_below, hbc1, hbc2]⟩ | fail); all_goals (repeat' (first | exact trivial | refine ⟨⟨_, rfl, ?_⟩, ?_⟩ | fail)); all_goals try (first | exact Wk.refl _ | exact Wk.of_eq (congrArg (AV.int _) (by omega)) | fail))
      · have hJ : (R2.take (k + 1)).filter (fun x => !R1.any (eqRw x)) = (R2.take k).filter (fun x => !R1.any (eqRw x)) := by
          rw [hts, List.filter_append]
          simp [hPx, hF]
        (repeat' ((conv => whnf); (first | (refine IfN.id ?_; first | refine IfN.tt rfl ?_ | refine IfN.dF (by omega) ?_ | fail) | (refine EqN.id ?_; first | (refine EqN.addN _ _ (by first | with_reducible rfl | with_reducible exact cst1 | with_reducible exact cst0 | with_reducible exact cst2 | with_reducible exact cst3 | with_reducible exact cst4 | with_reducible exact cst5 | with_reducible exact cst6 | with_reducible exact cst7 | with_reducible exact cst8 | with_reducible exact cst14 | with_reducible exact cst15 | with_reducible exact cst25 | with_reducible exact cst30 | with_reducible exact cst31 | fail) (by first | with_reducible rfl | with_reducible exact cst1 | with_reducible exact cst0 | with_reducible exact cst2 | with_reducible exact cst3 | with_reducible exact cst4 | with_reducible exact cst5 | with_reducible exact cst6 | with_reducible exact cst7 | with_reducible exact cst8 | with_reducible exact cst14 | with_reducible exact cst15 | with_reducible exact cst25 | with_reducible exact cst30 | with_reducible exact cst31 | fail) ?_ ?_; · (repeat' (first | omega | refine And.intro ?_ ?_ | exact bnd_andl (by omega) | exact bnd_andr (by omega) | refine bnd_or ?_ ?_ | refine bnd_or31 ?_ ?_ | refine bnd_xor ?_ ?_ | refine bnd_xor31 ?_ ?_ | refine bnd_shr ?_ | refine bnd_shl ?_ ?_ | refine bnd_mod ?_ | refine bnd_andl ?_ | fail))) | fail) | refine DrawN.mk' [] ?_ | fail))); all_goals (conv => whnf)
        rw [← hJ]
        (refine ⟨⟨k + 1, by show k + 1 ≤ _; omega, by omega, ?_, .inr ?_, rfl, _, rfl, ?_⟩⟩; rotate_left 2; (first | exact .inl rfl | exact .inr ⟨by simp [belowRE, below, belowL, tr, sers_below, vers_below, ents_below, ent_below, ser_below, ver_below, encP_below, ksA_below, cntA_below, rows_below, acts_below, bk_below, rws_below, hbc1, hbc2], by simp [belowH, Blk.below, belowL, below, sers_below, vers_below, ents_below, ent_below, ser_below, ver_below, encP_below, ksA_below, cntA_below, rows_below, acts_below, bk_below, rws_below, hbc1, hbc2]⟩ | fail); all_goals (repeat' (first | exact trivial | refine ⟨⟨_, rfl, ?_⟩, ?_⟩ | fail)); all_goals try (first | exact Wk.refl _ | exact Wk.of_eq (congrArg (AV.int _) (by omega)) | fail))
  · have hke : k = R2.length := by omega
    subst hke
    rw [List.take_length, ← hch]
    (repeat' ((conv => whnf); (first | (refine IfN.id ?_; first | refine IfN.dT (by omega) ?_ | refine IfN.dF (by omega) ?_ | fail) | (refine CallN.id ?_; first | refine CallN.det _ (awake_c _) ?_ | fail) | refine DrawN.mk' [] ?_ | fail))); all_goals (conv => whnf)
    exact EndN.det trivial (Wk.refl _)
end Go.Proofs.Ytgopbbkpcjgihaa
/-! text AJ38 -/
namespace Go.Proofs.Ytgopbbkpcjgihaa
open Go.Vsi
attribute [local irreducible] VW VCall VO bits

abbrev RawI : Type := Int × Int × Int × Int × Int × Int × List Int × List Int × Unit
def rawOf (x : RawI) : Raw := ⟨x.1, x.2.1, x.2.2.1, x.2.2.2.1, x.2.2.2.2.1, x.2.2.2.2.2.1, x.2.2.2.2.2.2.1, x.2.2.2.2.2.2.2.1⟩
def rawTy : Ty := .pair (.int .u16) (.pair (.int .u8) (.pair (.int .u8) (.pair (.int .u8) (.pair (.int .u8) (.pair (.int .u8) (.pair (.sl (.int .u8)) (.pair (.sl (.int .u8)) .unit)))))))
theorem rawOf_ok {x : RawI} (h : rawTy.good x) : (rawOf x).Ok := by
  obtain ⟨h0, h1, h2, h3, h4, h5, h6, h7, -⟩ := h
  exact ⟨wf_u16 h0, wf_u8 h1, wf_u8 h2, wf_u8 h3, wf_u8 h4, wf_u8 h5, maxLen_le h6.1, maxLen_le h7.1, fun x hx => wf_u8 (h6.2 x hx), fun x hx => wf_u8 (h7.2 x hx)⟩
abbrev ActI : Type := Int × Int × Int × Int × RawI × Int × Int × Int × Unit
def actOf (x : ActI) : Act := ⟨x.1, x.2.1, x.2.2.1, x.2.2.2.1, rawOf x.2.2.2.2.1, x.2.2.2.2.2.1, x.2.2.2.2.2.2.1, x.2.2.2.2.2.2.2.1⟩
def actTy : Ty := .pair (.int .u8) (.pair (.int .u8) (.pair (.int .u8) (.pair (.int .u8) (.pair rawTy (.pair (.int .u64) (.pair (.int .u8) (.pair (.int .u8) .unit)))))))
theorem actOf_ok {x : ActI} (h : actTy.good x) : (actOf x).Ok := by
  obtain ⟨h0, h1, h2, h3, h4, h5, h6, h7, -⟩ := h
  exact ⟨wf_u8 h0, wf_u8 h1, wf_u8 h2, wf_u8 h3, rawOf_ok h4, wf_u64 h5, wf_u8 h6, wf_u8 h7⟩
theorem act_enc (x : ActI) : (actOf x).cells = actTy.enc x := rfl
theorem acts_enc (l : List ActI) : (l.map actOf).flatMap Act.cells = l.flatMap actTy.enc := by
  rw [List.flatMap_map]
  congr 1
theorem acts_ok {l : List ActI} (h : ∀ x ∈ l, actTy.good x) : ∀ a ∈ l.map actOf, a.Ok := fun a ha => by
  obtain ⟨x, hx, rfl⟩ := List.mem_map.1 ha
  exact actOf_ok (h x hx)
theorem dChanges_c (l : List ActI) (m n : Int) (hl : (Ty.sl actTy).good l) (hm : (Ty.int .u8).good m) (hn : (Ty.int .u8).good n) (H : Heap) : VDet Try.prog 8 [.sl none l.length (l.flatMap actTy.enc), .int .u8 m, .int .u8 n] H (.bool true) := by
  have := lawChanges_c (l.map actOf) (by rw [List.length_map]; exact maxLen_le hl.1) (acts_ok hl.2) m n (wf_u8 hm) (wf_u8 hn) H
  rwa [acts_enc, List.length_map] at this
end Go.Proofs.Ytgopbbkpcjgihaa
/-! text AK38 -/
namespace Go.Proofs.Ytgopbbkpcjgihaa
open Go.Vsi
attribute [local irreducible] VW VCall VO bits

theorem selF_later (l : List Ent) (e : Ent) {d : Int} (h : d < e.day) : selF (l ++ [e]) d = selF l d := by
  rw [selF_snoc, if_neg (by omega)]
theorem repR_congr {b c : Bk} {d : Int} (hb : VB b) (hc : VB c) (hs : selF c.ent d = selF b.ent d) (hf : ∀ x, forceF c x d = forceF b x d) : repR c d = repR b d := by
  have hp : ptsF c d = ptsF b d := by
    funext k
    unfold ptsF wksF frcF
    rw [hs, hf]
  have hk : repK c d = repK b d := by
    unfold repK
    rw [validF_iff.2 hb, validF_iff.2 hc, hs]
  unfold repR
  rw [hk, hp]
theorem pub_keep {b : Bk} {ex : ByteArray} {v : Ver} (h : PubOk b ex v) {d : Int} (hd : d < v.at_) : repR ⟨insS b.ser ex v, b.ent⟩ d = repR b d := by
  refine repR_congr h.vb (pub_valid h) rfl fun x => ?_
  rw [force_ins h.vb.srt, if_neg (by omega)]
theorem sub_keep {b : Bk} {e : Ent} (h : SubOk b e) {d : Int} (hd : d < e.day) : repR ⟨b.ser, b.ent ++ [subEnt b e]⟩ d = repR b d :=
  repR_congr h.vb (sub_valid h) (selF_later _ _ hd) fun _ => rfl
theorem do_keep {b : Bk} {a : Act} {day d : Int} (h : doE b a day = 0) (hd : d < day) : repR (doF b a day) d = repR b d := by
  unfold doE at h
  unfold doF
  by_cases hk : a.k % 2 = 0
  · rw [if_pos hk] at h ⊢
    unfold pubF
    rw [if_pos h]
    exact pub_keep (pub_ok h) (show d < day + 1 by omega)
  · rw [if_neg hk] at h ⊢
    unfold subF
    rw [if_pos h]
    exact sub_keep (sub_ok h) hd
def cutV (l : List Ver) (d : Int) : List Ver := l.filter fun v => decide (v.at_ ≤ d)
def cutS (l : List Ser) (d : Int) : List Ser := (l.map fun s => (⟨s.name, cutV s.vers d⟩ : Ser)).filter fun s => !s.vers.isEmpty
def cutB (b : Bk) (d : Int) : Bk := ⟨cutS b.ser d, selF b.ent d⟩
theorem mem_cutS {l : List Ser} {d : Int} {s : Ser} : s ∈ cutS l d ↔ (∃ t ∈ l, s = ⟨t.name, cutV t.vers d⟩) ∧ s.vers ≠ [] := by
  unfold cutS
  rw [List.mem_filter, List.mem_map]
  constructor
  · rintro ⟨⟨t, ht, rfl⟩, h2⟩
    refine ⟨⟨t, ht, rfl⟩, fun h => ?_⟩
    rw [h] at h2
    cases h2
  · rintro ⟨⟨t, ht, rfl⟩, h2⟩
    refine ⟨⟨t, ht, rfl⟩, ?_⟩
    cases hv : (Ser.mk t.name (cutV t.vers d)).vers with
    | nil => exact absurd hv h2
    | cons _ _ => rfl
theorem srt_cut {l : List Ser} (h : SrtS l) (d : Int) : SrtS (cutS l d) := by
  unfold SrtS cutS
  refine List.Pairwise.filter _ ?_
  rw [List.pairwise_map]
  exact h
theorem serF_cut {b : Bk} (h : SrtS b.ser) (d : Int) (x : ByteArray) : oldV (cutB b d) x = cutV (oldV b x) d := by
  have hs : SrtS (cutB b d).ser := srt_cut h d
  unfold oldV
  cases hq : serF b x with
  | none =>
    have : serF (cutB b d) x = none := by
      refine serF_none.2 fun s hm hn => ?_
      obtain ⟨⟨t, ht, rfl⟩, -⟩ := mem_cutS.1 hm
      exact serF_none.1 hq t ht hn
    rw [this]
    rfl
  | some t =>
    obtain ⟨ht, hn⟩ := serF_mem hq
    by_cases hc : cutV t.vers d = []
    · have : serF (cutB b d) x = none := by
        refine serF_none.2 fun s hm hn2 => ?_
        obtain ⟨⟨u, hu, rfl⟩, hne⟩ := mem_cutS.1 hm
        have : u = t := name_inj h hu ht (hn2.trans hn.symm)
        subst this
        exact hne hc
      rw [this]
      exact hc.symm
    · have : serF (cutB b d) x = some ⟨t.name, cutV t.vers d⟩ := (serF_iff hs).2 ⟨mem_cutS.2 ⟨⟨t, ht, rfl⟩, hc⟩, hn⟩
      rw [this]
      rfl
theorem verF_cut (d e : Int) (h : e ≤ d) : ∀ l : List Ver, verF (cutV l d) e = verF l e
  | [] => rfl
  | v :: l => by
    have ih := verF_cut d e h l
    unfold verF at ih ⊢
    unfold cutV at ih ⊢
    by_cases hv : v.at_ ≤ d
    · rw [List.filter_cons_of_pos (by simpa using hv)]
      simp only [lastF]
      rw [ih]
    · rw [List.filter_cons_of_neg (by simpa using hv)]
      simp only [lastF]
      rw [ih, if_neg (by simp; omega)]
      cases lastF (fun v => decide (v.at_ ≤ e)) l <;> rfl
theorem force_cut {b : Bk} (h : SrtS b.ser) (d e : Int) (he : e ≤ d) (x : ByteArray) : forceF (cutB b d) x e = forceF b x e := by
  have := serF_cut h d x
  unfold oldV at this
  unfold forceF
  rw [this, verF_cut d e he]
theorem sel_take {l : List Ent} (h : l.Pairwise fun e f => e.day ≤ f.day) (d : Int) : ∃ m, m ≤ l.length ∧ selF l d = l.take m := by
  induction l with
  | nil => exact ⟨0, Nat.le_refl _, rfl⟩
  | cons e l ih =>
    rw [List.pairwise_cons] at h
    unfold selF at ih ⊢
    by_cases he : e.day ≤ d
    · obtain ⟨m, hm, e1⟩ := ih h.2
      refine ⟨m + 1, by simp; omega, ?_⟩
      rw [List.filter_cons_of_pos (by simpa using he), e1]
      rfl
    · refine ⟨0, Nat.zero_le _, ?_⟩
      rw [List.take_zero, List.filter_eq_nil_iff]
      intro f hf
      rcases List.mem_cons.1 hf with rfl | hf
      · simpa using he
      · have := h.1 f hf
        simp
        omega
theorem cut_valid {b : Bk} (h : VB b) (d : Int) : VB (cutB b d) := by
  have hs : SrtS b.ser := h.srt
  refine ⟨?_, ?_, srt_cut hs d, fun s hm => ?_, fun s hm => ?_, h.esrt.filter _, fun e he => ?_, fun i hi => ?_⟩
  · show (cutS b.ser d).length ≤ 40
    have h1 : (cutS b.ser d).length ≤ (b.ser.map fun s => (⟨s.name, cutV s.vers d⟩ : Ser)).length := List.length_filter_le _ _
    rw [List.length_map] at h1
    have := h.ns
    omega
  · show (selF b.ent d).length ≤ 2000
    have h1 : (selF b.ent d).length ≤ b.ent.length := List.length_filter_le _ _
    have := h.ne
    omega
  · obtain ⟨⟨t, ht, rfl⟩, -⟩ := mem_cutS.1 hm
    exact h.nm t ht
  · obtain ⟨⟨t, ht, rfl⟩, hne⟩ := mem_cutS.1 hm
    have q := h.vs t ht
    refine ⟨List.length_pos_iff.2 hne, Nat.le_trans (List.length_filter_le _ _) q.le, fun v hv => q.day v (List.mem_filter.1 hv).1, fun v hv => q.sch v (List.mem_filter.1 hv).1, q.srt.filter _⟩
  · have he2 := List.mem_filter.1 he
    obtain ⟨q1, q2, q3, q4⟩ := h.ent e he2.1
    refine ⟨q1, q2, ?_, q4⟩
    rw [force_cut hs d e.day (by simpa using he2.2)]
    exact q3
  · obtain ⟨m, hm, hsel⟩ := sel_take h.esrt d
    have hi2 : i < (selF b.ent d).length := hi
    show ((selF b.ent d).getD i ent0).work.att = (cntK ((selF b.ent d).take (i + 1)) (keyOf ((selF b.ent d).getD i ent0)) : Nat)
    rw [hsel] at hi2 ⊢
    rw [List.length_take] at hi2
    have hg : (b.ent.take m).getD i ent0 = b.ent.getD i ent0 := by simp [show i < m by omega]
    rw [hg, List.take_take, Nat.min_eq_left (by omega)]
    exact h.att i (by omega)
theorem selF_self (l : List Ent) (d : Int) : selF (selF l d) d = selF l d := by
  unfold selF
  rw [List.filter_filter]
  simp
theorem repR_cut {b : Bk} (h : VB b) (d : Int) : repR (cutB b d) d = repR b d :=
  repR_congr h (cut_valid h d) (selF_self _ _) fun x => force_cut h.srt d d (Int.le_refl _) x
end Go.Proofs.Ytgopbbkpcjgihaa
/-! text AN38 -/
namespace Go.Proofs.Ytgopbbkpcjgihaa
open Go.Vsi
attribute [local irreducible] VW VCall VO bits

theorem lastF_snoc {α : Type} {p : α → Bool} {m : List α} {x : α} (hp : p x = true) : lastF p (m ++ [x]) = some x := by
  rw [lastF_app]
  simp [lastF, hp]
theorem lastF_last {α : Type} (p : α → Bool) (d : α) : ∀ (l : List α), l ≠ [] → p (l.getD (l.length - 1) d) = true → lastF p l = some (l.getD (l.length - 1) d) := by
  intro l hl hp
  have e : l = l.take (l.length - 1) ++ [l.getD (l.length - 1) d] := by
    have := take_snoc l d (l.length - 1) (by have := List.length_pos_iff.2 hl; omega)
    rw [show l.length - 1 + 1 = l.length by have := List.length_pos_iff.2 hl; omega, List.take_length] at this
    exact this
  exact (congrArg (lastF p) e).trans (lastF_snoc hp)
theorem verF_all {l : List Ver} {d : Int} (hl : l ≠ []) (h : ∀ v ∈ l, v.at_ ≤ d) : verF l d = some (l.getD (l.length - 1) ver0) := by
  unfold verF
  refine lastF_last _ ver0 l hl ?_
  have := h _ (getD_mem ver0 (show l.length - 1 < l.length by have := List.length_pos_iff.2 hl; omega))
  simpa using this
theorem repR_congrS {b c : Bk} {d : Int} (hb : VB b) (hc : VB c) (hs : selF c.ent d = selF b.ent d) (hf : ∀ x, frcF c x d = frcF b x d) : repR c d = repR b d := by
  have hp : ptsF c d = ptsF b d := by
    funext k
    unfold ptsF wksF
    rw [hs, hf]
  have hk : repK c d = repK b d := by
    unfold repK
    rw [validF_iff.2 hb, validF_iff.2 hc, hs]
  unfold repR
  rw [hk, hp]
theorem pub_same {b : Bk} {ex : ByteArray} {v : Ver} (h : PubOk b ex v) (hne : oldV b ex ≠ []) (hsch : v.sch = ((oldV b ex).getD ((oldV b ex).length - 1) ver0).sch) (d : Int) : repR ⟨insS b.ser ex v, b.ent⟩ d = repR b d := by
  refine repR_congrS h.vb (pub_valid h) rfl fun x => ?_
  unfold frcF
  rw [force_ins h.vb.srt]
  split
  · rename_i hc
    obtain ⟨rfl, hd⟩ := hc
    have : forceF b x d = some ((oldV b x).getD ((oldV b x).length - 1) ver0) := verF_all hne fun w hw => by
      have := h.late w hw
      omega
    rw [this]
    exact hsch
  · rfl
theorem repR_row {b c : Bk} {d : Int} (hb : VB b) (hc : VB c) (hs : selF c.ent d = selF b.ent d) : (repR c d).length = (repR b d).length ∧ ∀ i, i < (repR b d).length → ((repR c d).getD i rw0).exe = ((repR b d).getD i rw0).exe ∧ ((repR c d).getD i rw0).stu = ((repR b d).getD i rw0).stu ∧ ((frcF c ((repR b d).getD i rw0).exe d = frcF b ((repR b d).getD i rw0).exe d) → (repR c d).getD i rw0 = (repR b d).getD i rw0) := by
  have hk : repK c d = repK b d := by
    unfold repK
    rw [validF_iff.2 hb, validF_iff.2 hc, hs]
  refine ⟨by rw [repR_len, repR_len, hk], fun i hi => ?_⟩
  rw [repR_len] at hi
  have hg : ∀ e : Bk, repK e d = repK b d → (repR e d).getD i rw0 = ⟨((repK b d).getD i (.empty, .empty)).1, ((repK b d).getD i (.empty, .empty)).2, ptsF e d ((repK b d).getD i (.empty, .empty))⟩ := fun e he => by
    unfold repR
    rw [he]
    simp [List.getElem?_eq_getElem hi]
  rw [hg c hk, hg b rfl]
  refine ⟨rfl, rfl, fun hf => ?_⟩
  unfold ptsF wksF
  rw [hs, hf]
end Go.Proofs.Ytgopbbkpcjgihaa
/-! text AP38 -/
namespace Go.Proofs.Ytgopbbkpcjgihaa
open Go.Vsi
attribute [local irreducible] VW VCall VO bits

structure InD (b : Bk) (D : Int) : Prop where
  ver : ∀ s ∈ b.ser, ∀ v ∈ s.vers, v.at_ ≤ D + 1
  ent : ∀ e ∈ b.ent, e.day ≤ D
theorem InD.mono {b : Bk} {D E : Int} (h : InD b D) (hE : D ≤ E) : InD b E :=
  ⟨fun s hs v hv => by have := h.ver s hs v hv; omega, fun e he => by have := h.ent e he; omega⟩
theorem pub_in {b : Bk} {ex : ByteArray} {v : Ver} {D : Int} (h : PubOk b ex v) (hi : InD b D) (hv : v.at_ ≤ D + 1) : InD ⟨insS b.ser ex v, b.ent⟩ D := by
  refine ⟨fun s hs w hw => ?_, hi.ent⟩
  rcases (mem_ins h.vb.srt).1 hs with ⟨h1, -⟩ | rfl
  · exact hi.ver s h1 w hw
  · rcases List.mem_append.1 hw with hw | hw
    · have := h.late w hw
      omega
    · rw [List.mem_singleton.1 hw]
      exact hv
theorem sub_in {b : Bk} {e : Ent} {D : Int} (hi : InD b D) (he : e.day ≤ D) : InD ⟨b.ser, b.ent ++ [subEnt b e]⟩ D := by
  refine ⟨hi.ver, fun f hf => ?_⟩
  rcases List.mem_append.1 hf with hf | hf
  · exact hi.ent f hf
  · rw [List.mem_singleton.1 hf]
    exact he
theorem do_in {b : Bk} {a : Act} {d : Int} (h : doE b a d = 0) (hi : InD b d) : InD (doF b a d) d := by
  unfold doE at h
  unfold doF
  by_cases hk : a.k % 2 = 0
  · rw [if_pos hk] at h ⊢
    unfold pubF
    rw [if_pos h]
    exact pub_in (pub_ok h) hi (Int.le_refl _)
  · rw [if_neg hk] at h ⊢
    unfold subF
    rw [if_pos h]
    exact sub_in hi (Int.le_refl _)
theorem blt_in (l : List Act) (ha : ∀ a ∈ l, a.Ok) : ∀ k, k ≤ l.length → InD (bltF l k).1 (bltF l k).2
  | 0, _ => ⟨fun s hs => (by cases hs), fun e he => (by cases he)⟩
  | k + 1, hk => by
    have ih := blt_in l ha k (by omega)
    have hy := (ha _ (getD_mem act0 (show k < l.length by omega))).dy
    simp only [bltF]
    split
    · rename_i h
      exact do_in h (ih.mono (by omega))
    · exact ih.mono (by omega)
end Go.Proofs.Ytgopbbkpcjgihaa
/-! text AQ38 -/
namespace Go.Proofs.Ytgopbbkpcjgihaa
open Go.Vsi
attribute [local irreducible] VW VCall VO bits

theorem same_pub {b : Bk} (h : VB b) {D : Int} (hi : InD b D) {s : Ser} (hs : s ∈ b.ser) {v : Ver} (hv : v.at_ = max D (s.vers.getD (s.vers.length - 1) ver0).at_ + 1) (hD : 0 ≤ D ∧ D ≤ 1000) (hsch : validB v.sch = true) :
    pubE b s.name v = if s.vers.length = 20 then 5 else 0 := by
  have hsr : SrtS b.ser := h.srt
  have hq : serF b s.name = some s := (serF_iff hsr).2 ⟨hs, rfl⟩
  have hvv := h.vs s hs
  have hne := hvv.ne
  have hle := hvv.le
  have hlast := hi.ver s hs _ (getD_mem ver0 (show s.vers.length - 1 < s.vers.length by omega))
  have h1 : pubIn b s.name v = true := by
    unfold pubIn
    rw [validF_iff.2 h, h.nm s hs, hsch, show isDay v.at_ = true from by unfold isDay; simp; omega]
    rfl
  have h2 : pubLate b s.name v = false := by
    unfold pubLate
    rw [hq]
    simp only [Option.isSome_some, Bool.true_and, Option.getD_some, decide_eq_false_iff_not]
    omega
  have h3 : pubPast b v = false := by
    unfold pubPast
    by_cases hp : 0 < b.ent.length
    · have := hi.ent _ (getD_mem ent0 (show b.ent.length - 1 < b.ent.length by omega))
      rw [decide_eq_true hp]
      simp only [Bool.true_and, decide_eq_false_iff_not]
      omega
    · rw [decide_eq_false hp]
      rfl
  have h4 : pubFull b s.name = decide (20 ≤ s.vers.length) := by
    unfold pubFull
    rw [hq]
    simp
  unfold pubE
  rw [h1, h2, h3, h4]
  by_cases h20 : s.vers.length = 20
  · simp [h20]
  · simp [h20, show ¬ 20 ≤ s.vers.length by omega]
end Go.Proofs.Ytgopbbkpcjgihaa
/-! text AT38 -/
namespace Go.Proofs.Ytgopbbkpcjgihaa
open Go.Vsi
attribute [local irreducible] VW VCall VO bits

def AttOk (l : List Ent) : Prop := ∀ i, i < l.length → (l.getD i ent0).work.att = (cntK (l.take (i + 1)) (keyOf (l.getD i ent0)) : Nat)
theorem att_snoc {l : List Ent} {e : Ent} : AttOk (l ++ [e]) ↔ AttOk l ∧ e.work.att = (cntK (l ++ [e]) (keyOf e) : Nat) := by
  constructor
  · intro h
    refine ⟨fun i hi => ?_, ?_⟩
    · have := h i (by simp; omega)
      rwa [getD_app_lt _ _ _ hi, List.take_append_of_le_length (by omega)] at this
    · have := h l.length (by simp)
      rwa [getD_app_eq, List.take_of_length_le (by simp)] at this
  · rintro ⟨h1, h2⟩ i hi
    rcases Nat.lt_or_ge i l.length with hlt | hge
    · rw [getD_app_lt _ _ _ hlt, List.take_append_of_le_length (by omega)]
      exact h1 i hlt
    · have : i = l.length := by simp at hi; omega
      subst this
      rw [getD_app_eq, List.take_of_length_le (by simp)]
      exact h2
def entP (p : Ky → Bool) (l : List Ent) : List Ent := l.filter fun e => p (keyOf e)
theorem entP_snoc (p : Ky → Bool) (l : List Ent) (e : Ent) : entP p (l ++ [e]) = if p (keyOf e) = true then entP p l ++ [e] else entP p l := by
  unfold entP
  rw [List.filter_append]
  by_cases h : p (keyOf e) = true <;> simp [h]
theorem ofK_entP {p : Ky → Bool} {k : Ky} (hk : p k = true) (l : List Ent) : ofK (entP p l) k = ofK l k := by
  unfold ofK entP
  rw [List.filter_filter]
  apply List.filter_congr
  intro e _
  cases h : eqK (keyOf e) k with
  | false => rfl
  | true => rw [eqK_iff.1 h, hk]; rfl
theorem att_entP (p : Ky → Bool) (l : List Ent) (h : AttOk l) : AttOk (entP p l) := by
  induction l using snoc_ind with
  | h0 => exact h
  | h1 l e ih =>
    obtain ⟨h1, h2⟩ := att_snoc.1 h
    rw [entP_snoc]
    split
    · rename_i hp
      refine att_snoc.2 ⟨ih h1, ?_⟩
      rw [h2]
      have := entP_snoc p l e
      rw [if_pos hp] at this
      rw [← this]
      unfold cntK
      rw [ofK_entP hp]
    · exact ih h1
theorem sel_entP (p : Ky → Bool) (l : List Ent) (d : Int) : selF (entP p l) d = entP p (selF l d) := by
  unfold selF entP
  rw [List.filter_filter, List.filter_filter]
  apply List.filter_congr
  intro e _
  exact Bool.and_comm _ _
theorem mem_keys_entP {p : Ky → Bool} {l : List Ent} {k : Ky} : k ∈ keysF (entP p l) ↔ k ∈ keysF l ∧ p k = true := by
  rw [mem_keysF, mem_keysF]
  unfold entP
  constructor
  · rintro ⟨e, he, rfl⟩
    have := List.mem_filter.1 he
    exact ⟨⟨e, this.1, rfl⟩, this.2⟩
  · rintro ⟨⟨e, he, rfl⟩, hp⟩
    exact ⟨e, List.mem_filter.2 ⟨he, hp⟩, rfl⟩
theorem sort_keys_entP (p : Ky → Bool) (l : List Ent) : sortY (keysF (entP p l)) = (sortY (keysF l)).filter p := by
  have hn1 := keysF_nodup (entP p l)
  have hn2 : (sortY (keysF l)).Nodup := (sortY_perm _).symm.nodup (keysF_nodup l)
  refine srt_unique ((List.perm_ext_iff_of_nodup ((sortY_perm _).symm.nodup hn1) (hn2.filter _)).2 fun k => ?_) (sortY_srt _) ((sortY_srt _).filter _)
  rw [(sortY_perm _).mem_iff, mem_keys_entP, List.mem_filter, (sortY_perm _).mem_iff]
def serP (q : ByteArray → Bool) (l : List Ser) : List Ser := l.filter fun s => q s.name
def parB (q : ByteArray → Bool) (p : Ky → Bool) (b : Bk) : Bk := ⟨serP q b.ser, entP p b.ent⟩
theorem serF_par {b : Bk} (h : SrtS b.ser) (q : ByteArray → Bool) (p : Ky → Bool) {x : ByteArray} (hx : q x = true) : serF (parB q p b) x = serF b x := by
  have hs : SrtS (parB q p b).ser := List.Pairwise.filter _ h
  cases hf : serF b x with
  | none =>
    refine serF_none.2 fun s hs hn => ?_
    exact serF_none.1 hf s (List.mem_filter.1 hs).1 hn
  | some s =>
    obtain ⟨h1, h2⟩ := serF_mem hf
    exact (serF_iff hs).2 ⟨List.mem_filter.2 ⟨h1, by rw [h2]; exact hx⟩, h2⟩
theorem force_par {b : Bk} (h : SrtS b.ser) (q : ByteArray → Bool) (p : Ky → Bool) {x : ByteArray} (hx : q x = true) (d : Int) : forceF (parB q p b) x d = forceF b x d := by
  unfold forceF
  rw [serF_par h q p hx]
theorem par_valid {b : Bk} (h : VB b) (q : ByteArray → Bool) (p : Ky → Bool) (hpq : ∀ k, p k = true → q k.1 = true) : VB (parB q p b) := by
  refine ⟨Nat.le_trans (List.length_filter_le _ _) h.ns, Nat.le_trans (List.length_filter_le _ _) h.ne, List.Pairwise.filter _ h.srt, fun s hs => h.nm s (List.mem_filter.1 hs).1, fun s hs => h.vs s (List.mem_filter.1 hs).1, List.Pairwise.filter _ h.esrt, fun e he => ?_, att_entP p b.ent h.att⟩
  have hm := List.mem_filter.1 he
  obtain ⟨q1, q2, q3, q4⟩ := h.ent e hm.1
  refine ⟨q1, q2, ?_, q4⟩
  have := force_par h.srt q p (x := e.exe) (hpq _ hm.2) e.day
  rw [this]
  exact q3
theorem repR_par {b : Bk} (h : VB b) (q : ByteArray → Bool) (p : Ky → Bool) (hpq : ∀ k, p k = true → q k.1 = true) (d : Int) : repR (parB q p b) d = (repR b d).filter fun r => p (r.exe, r.stu) := by
  have hk : repK (parB q p b) d = (repK b d).filter p := by
    unfold repK
    rw [validF_iff.2 h, validF_iff.2 (par_valid h q p hpq)]
    by_cases hd : isDay d = true
    · rw [hd]
      simp only [Bool.and_self, if_true]
      show sortY (keysF (selF (entP p b.ent) d)) = _
      rw [sel_entP, sort_keys_entP]
    · rw [Bool.not_eq_true] at hd
      rw [hd]
      rfl
  unfold repR
  rw [hk, List.filter_map]
  have : (fun r : Rw => p (r.exe, r.stu)) ∘ (fun k : Ky => (⟨k.1, k.2, ptsF b d k⟩ : Rw)) = p := rfl
  rw [this]
  apply List.map_congr_left
  intro k hk
  have hp := (List.mem_filter.1 hk).2
  have : ptsF (parB q p b) d k = ptsF b d k := by
    unfold ptsF frcF wksF
    rw [force_par h.srt q p (hpq _ hp)]
    show (totalF _ ((ofK (selF (entP p b.ent) d) k).map Ent.work)).1 = _
    rw [sel_entP, ofK_entP hp]
  rw [this]
theorem serP_true (l : List Ser) : serP (fun _ => true) l = l := by
  unfold serP
  simp
end Go.Proofs.Ytgopbbkpcjgihaa
/-! text AU38 -/
namespace Go.Proofs.Ytgopbbkpcjgihaa
open Go.Vsi
attribute [local irreducible] VW VCall VO bits

def InN (b : Bk) : Prop := ∀ e ∈ b.ent, ∃ i j : Nat, i < 3 ∧ j < 3 ∧ e.exe = nameF i ∧ e.stu = nameF j
theorem nameF_in (n : Int) (h : 0 ≤ n) : ∃ i : Nat, i < 3 ∧ nameF n = nameF i := by
  refine ⟨(n % 3).toNat, by omega, ?_⟩
  unfold nameF
  rw [show (((n % 3).toNat : Nat) : Int) % 3 = n % 3 by omega]
theorem do_inN {b : Bk} {a : Act} {d : Int} (ha : a.Ok) (h : doE b a d = 0) (hi : InN b) : InN (doF b a d) := by
  unfold doE at h
  unfold doF
  by_cases hk : a.k % 2 = 0
  · rw [if_pos hk] at h ⊢
    unfold pubF
    rw [if_pos h]
    exact hi
  · rw [if_neg hk] at h ⊢
    unfold subF
    rw [if_pos h]
    intro e he
    rcases List.mem_append.1 he with he | he
    · exact hi e he
    · obtain ⟨i, hi1, hi2⟩ := nameF_in a.ex ha.ex.1
      obtain ⟨j, hj1, hj2⟩ := nameF_in a.st ha.st.1
      rw [List.mem_singleton.1 he]
      exact ⟨i, j, hi1, hj1, hi2, hj2⟩
theorem blt_inN (l : List Act) (ha : ∀ a ∈ l, a.Ok) : ∀ k, k ≤ l.length → InN (bltF l k).1
  | 0, _ => fun e he => (by cases he)
  | k + 1, hk => by
    have ih := blt_inN l ha k (by omega)
    simp only [bltF]
    split
    · rename_i h
      exact do_inN (ha _ (getD_mem act0 (by omega))) h ih
    · exact ih
def nms : List ByteArray := [⟨#[97]⟩, ⟨#[98]⟩, ⟨#[99]⟩]
def key9 : List Ky := [(⟨#[97]⟩, ⟨#[97]⟩), (⟨#[97]⟩, ⟨#[98]⟩), (⟨#[97]⟩, ⟨#[99]⟩), (⟨#[98]⟩, ⟨#[97]⟩), (⟨#[98]⟩, ⟨#[98]⟩), (⟨#[98]⟩, ⟨#[99]⟩), (⟨#[99]⟩, ⟨#[97]⟩), (⟨#[99]⟩, ⟨#[98]⟩), (⟨#[99]⟩, ⟨#[99]⟩)]
def ky0 : Ky := (.empty, .empty)
theorem key9_at : ∀ i j : Nat, i < 3 → j < 3 → key9.getD (i * 3 + j) ky0 = (nameF i, nameF j)
  | 0, 0, _, _ => rfl
  | 0, 1, _, _ => rfl
  | 0, 2, _, _ => rfl
  | 1, 0, _, _ => rfl
  | 1, 1, _, _ => rfl
  | 1, 2, _, _ => rfl
  | 2, 0, _, _ => rfl
  | 2, 1, _, _ => rfl
  | 2, 2, _, _ => rfl
  | i + 3, j, h, _ => by omega
  | i, j + 3, _, h => by omega
theorem key9_srtB : (List.range 9).all (fun i => (List.range 9).all fun j => !decide (i < j) || decide (cKy (key9.getD i ky0) (key9.getD j ky0) < 0)) = true := by kernel_rfl
theorem key9_lt {i j : Nat} (hij : i < j) (hj : j < 9) : cKy (key9.getD i ky0) (key9.getD j ky0) < 0 := by
  have := key9_srtB
  rw [List.all_eq_true] at this
  have := this i (List.mem_range.2 (by omega))
  rw [List.all_eq_true] at this
  have := this j (List.mem_range.2 hj)
  simpa [hij] using this
theorem key9_srt : key9.Pairwise fun x y => cKy x y < 0 := by
  rw [List.pairwise_iff_getElem]
  intro i j hi hj hij
  have := key9_lt hij (show j < 9 from hj)
  simpa [List.getD_eq_getElem?_getD, List.getElem?_eq_getElem hj, List.getElem?_eq_getElem hi] using this
def hasK (b : Bk) (d : Int) (k : Ky) : Bool := (keysF (selF b.ent d)).any (eqK k)
theorem repK_9 {b : Bk} (h : VB b) (hn : InN b) {d : Int} (hd : isDay d = true) : repK b d = key9.filter (hasK b d) := by
  have e : repK b d = sortY (keysF (selF b.ent d)) := by
    unfold repK
    rw [validF_iff.2 h, hd]
    rfl
  rw [e]
  have hnd : key9.Nodup := key9_srt.imp fun {x y} h he => by
    subst he
    rw [(ordKy x).refl] at h
    omega
  refine srt_unique ((List.perm_ext_iff_of_nodup ((sortY_perm _).symm.nodup (keysF_nodup _)) (hnd.filter _)).2 fun k => ?_) (sortY_srt _) ((key9_srt.imp fun h => Int.le_of_lt h).filter _)
  rw [(sortY_perm _).mem_iff, List.mem_filter]
  unfold hasK
  rw [any_eqK]
  constructor
  · intro hk
    refine ⟨?_, hk⟩
    obtain ⟨e, he, rfl⟩ := mem_keysF.1 hk
    obtain ⟨i, j, hi, hj, h1, h2⟩ := hn e (sel_mem.1 he).1
    have : keyOf e = key9.getD (i * 3 + j) ky0 := by
      rw [key9_at i j hi hj, ← h1, ← h2]
      rfl
    rw [this]
    exact getD_mem ky0 (show i * 3 + j < 9 by omega)
  · exact fun h => h.2
def cnt9 (b : Bk) (d : Int) (q : Nat) : Nat := ((key9.take q).filter (hasK b d)).length
theorem cnt9_step (b : Bk) (d : Int) {q : Nat} (hq : q < 9) : cnt9 b d (q + 1) = if hasK b d (key9.getD q ky0) = true then cnt9 b d q + 1 else cnt9 b d q := by
  unfold cnt9
  rw [take_snoc key9 ky0 q hq, List.filter_append]
  by_cases h : hasK b d (key9.getD q ky0) = true
  · rw [if_pos h, List.filter_cons_of_pos h]
    simp
  · rw [if_neg h, List.filter_cons_of_neg h]
    simp
theorem row9 {b : Bk} (h : VB b) (hn : InN b) {d : Int} (hd : isDay d = true) {q : Nat} (hq : q < 9) (hk : hasK b d (key9.getD q ky0) = true) : cnt9 b d q < (repR b d).length ∧ (repR b d).getD (cnt9 b d q) rw0 = ⟨(key9.getD q ky0).1, (key9.getD q ky0).2, ptsF b d (key9.getD q ky0)⟩ := by
  have e := repK_9 h hn hd
  have hsp : key9.filter (hasK b d) = (key9.take q).filter (hasK b d) ++ (key9.getD q ky0 :: (key9.drop (q + 1)).filter (hasK b d)) := by
    conv => lhs; rw [← List.take_append_drop (q + 1) key9]
    rw [take_snoc key9 ky0 q hq, List.filter_append, List.filter_append, List.filter_cons_of_pos hk, List.append_assoc]
    rfl
  have hl : cnt9 b d q < (repK b d).length := by
    rw [e, hsp]
    unfold cnt9
    simp
  have hg : (repK b d).getD (cnt9 b d q) ky0 = key9.getD q ky0 := by
    rw [e, hsp]
    unfold cnt9
    simp
  refine ⟨by rw [repR_len]; exact hl, ?_⟩
  unfold repR
  have : ((repK b d).map fun k => (⟨k.1, k.2, ptsF b d k⟩ : Rw)).getD (cnt9 b d q) rw0 = (fun k : Ky => (⟨k.1, k.2, ptsF b d k⟩ : Rw)) ((repK b d).getD (cnt9 b d q) ky0) := by
    simp [List.getElem?_eq_getElem hl]
  rw [this, hg]
theorem cnt9_end {b : Bk} (h : VB b) (hn : InN b) {d : Int} (hd : isDay d = true) : cnt9 b d 9 = (repR b d).length := by
  rw [repR_len, repK_9 h hn hd]
  rfl
theorem cnt9_le (b : Bk) (d : Int) (q : Nat) : cnt9 b d q ≤ 9 := by
  refine Nat.le_trans (List.length_filter_le _ _) ?_
  rw [List.length_take]
  show min q 9 ≤ 9
  omega
theorem att_q {l : List Ent} (h : AttOk l) (k : Ky) : ∀ q, q < cntK l k → ((ofK l k).getD q ent0).work.att = (q + 1 : Nat) := by
  induction l using snoc_ind with
  | h0 => intro q hq; simp [cntK, ofK] at hq
  | h1 l e ih =>
    obtain ⟨h1, h2⟩ := att_snoc.1 h
    intro q hq
    unfold cntK at hq
    rw [ofK_snoc] at hq ⊢
    split at hq
    · rename_i hk
      rw [if_pos hk]
      rcases Nat.lt_or_ge q (ofK l k).length with hlt | hge
      · rw [getD_app_lt _ _ _ hlt]
        exact ih h1 q hlt
      · have : q = (ofK l k).length := by simp at hq; omega
        subst this
        rw [getD_app_eq, h2, hk]
        have := cntK_snoc l e
        rw [hk] at this
        rw [this]
        rfl
    · rename_i hk
      rw [if_neg hk]
      exact ih h1 q hq
theorem wks_att {b : Bk} (h : VB b) (d : Int) (k : Ky) {q : Nat} (hq : q < (wksF b d k).length) : ((wksF b d k).getD q wrk0).att = (q + 1 : Nat) := by
  have ha : AttOk (selF b.ent d) := (cut_valid h d).att
  have hl : q < cntK (selF b.ent d) k := by
    unfold wksF at hq
    rwa [List.length_map] at hq
  rw [← att_q ha k q hl]
  unfold wksF
  have hl2 : q < (ofK (selF b.ent d) k).length := hl
  simp [List.getElem?_eq_getElem hl2]
theorem wks_empty {b : Bk} {d : Int} {k : Ky} : (wksF b d k).length = 0 ↔ hasK b d k = false := by
  unfold wksF hasK
  rw [List.length_map]
  constructor
  · intro h
    rw [Bool.eq_false_iff]
    intro hk
    rw [any_eqK, mem_keysF] at hk
    obtain ⟨e, he, hke⟩ := hk
    have : e ∈ ofK (selF b.ent d) k := List.mem_filter.2 ⟨he, by rw [hke]; exact eqK_refl _⟩
    rw [List.length_eq_zero_iff.1 h] at this
    cases this
  · intro h
    rw [ofK_nil (fun hk => by rw [any_eqK.2 hk] at h; cases h)]
    rfl
end Go.Proofs.Ytgopbbkpcjgihaa
/-! text AV38 -/
namespace Go.Proofs.Ytgopbbkpcjgihaa
open Go.Vsi
attribute [local irreducible] VW VCall VO bits

def InS (b : Bk) : Prop := ∀ s ∈ b.ser, ∃ i : Nat, i < 3 ∧ s.name = nameF i
theorem do_inS {b : Bk} {a : Act} {d : Int} (ha : a.Ok) (h : doE b a d = 0) (hi : InS b) : InS (doF b a d) := by
  unfold doE at h
  unfold doF
  by_cases hk : a.k % 2 = 0
  · rw [if_pos hk] at h ⊢
    unfold pubF
    rw [if_pos h]
    intro s hs
    rcases (mem_ins (pub_ok h).vb.srt).1 hs with ⟨h1, -⟩ | rfl
    · exact hi s h1
    · obtain ⟨i, hi1, hi2⟩ := nameF_in a.ex ha.ex.1
      exact ⟨i, hi1, hi2⟩
  · rw [if_neg hk] at h ⊢
    unfold subF
    rw [if_pos h]
    exact hi
theorem blt_inS (l : List Act) (ha : ∀ a ∈ l, a.Ok) : ∀ k, k ≤ l.length → InS (bltF l k).1
  | 0, _ => fun e he => (by cases he)
  | k + 1, hk => by
    have ih := blt_inS l ha k (by omega)
    simp only [bltF]
    split
    · rename_i h
      exact do_inS (ha _ (getD_mem act0 (by omega))) h ih
    · exact ih
theorem nameF_size (n : Int) : (nameF n).size = 1 := by
  unfold nameF
  split
  · rfl
  · split <;> rfl
theorem serF_long {b : Bk} (hi : InS b) {x : ByteArray} (hx : x.size ≠ 1) : serF b x = none := by
  refine serF_none.2 fun s hs hn => ?_
  obtain ⟨i, -, h⟩ := hi s hs
  rw [h] at hn
  rw [← hn, nameF_size] at hx
  exact hx rfl
theorem force_long {b : Bk} (hi : InS b) {x : ByteArray} (hx : x.size ≠ 1) (d : Int) : forceF b x d = none := by
  unfold forceF
  rw [serF_long hi hx]
  rfl
def nNew : ByteArray := ⟨#[110, 101, 119]⟩
def nNone : ByteArray := ⟨#[110, 111, 110, 101]⟩
def nA : ByteArray := ⟨#[97]⟩
def nLong : ByteArray := ⟨#[115, 101, 118, 101, 110, 116, 101, 101, 110, 32, 108, 101, 116, 116, 101, 114, 115]⟩
theorem pub_380 {b : Bk} (h : VB b) (hi : InS b) {day : Int} (hp : 0 < b.ent.length) (hd : day = (b.ent.getD (b.ent.length - 1) ent0).day) : pubE b nNew ⟨day, flatF 5⟩ = 380 := by
  have he := (h.ent _ (getD_mem ent0 (show b.ent.length - 1 < b.ent.length by omega))).day
  rw [← hd] at he
  have h1 : pubIn b nNew ⟨day, flatF 5⟩ = true := by
    unfold pubIn
    rw [validF_iff.2 h, show isName nNew = true by kernel_rfl, show validB (flatF 5) = true by kernel_rfl]
    simpa using he
  have h2 : pubLate b nNew ⟨day, flatF 5⟩ = false := by
    unfold pubLate
    rw [serF_long hi (by decide)]
    rfl
  have h3 : pubPast b ⟨day, flatF 5⟩ = true := by
    unfold pubPast
    rw [decide_eq_true hp, ← hd]
    simp
  unfold pubE
  rw [h1, h2, h3]
  rfl
theorem sub_380 {b : Bk} (h : VB b) {day : Int} (hp : 0 < b.ent.length) (hd : day = (b.ent.getD (b.ent.length - 1) ent0).day) (h0 : 0 < day) : subE b ⟨nA, nA, day - 1, ⟨1, 0, 0, 0⟩⟩ = 380 := by
  have he := (h.ent _ (getD_mem ent0 (show b.ent.length - 1 < b.ent.length by omega))).day
  rw [← hd] at he
  have he2 := isDay_iff.1 he
  have h1 : subIn b ⟨nA, nA, day - 1, ⟨1, 0, 0, 0⟩⟩ = true := by
    unfold subIn
    rw [validF_iff.2 h, show isName nA = true by kernel_rfl, show isDay (day - 1) = true from isDay_iff.2 (by omega)]
    exact (by kernel_rfl : (true && (true && (true && (true && wvalid (wrk1 ⟨1, 0, 0, 0⟩))))) = true)
  have h3 : subPast b ⟨nA, nA, day - 1, ⟨1, 0, 0, 0⟩⟩ = true := by
    unfold subPast
    rw [decide_eq_true hp, ← hd]
    simp
    omega
  unfold subE
  rw [h1, h3]
  rfl
theorem sub_6 {b : Bk} (h : VB b) (hi : InS b) {D : Int} (hin : InD b D) (hD : 0 ≤ D ∧ D ≤ 1000) : subE b ⟨nA, nNone, D + 1, ⟨1, 0, 0, 0⟩⟩ = 6 := by
  have h1 : subIn b ⟨nA, nNone, D + 1, ⟨1, 0, 0, 0⟩⟩ = true := by
    unfold subIn
    rw [validF_iff.2 h, show isName nA = true by kernel_rfl, show isName nNone = true by kernel_rfl, show isDay (D + 1) = true from isDay_iff.2 (by omega)]
    exact (by kernel_rfl : (true && (true && (true && (true && wvalid (wrk1 ⟨1, 0, 0, 0⟩))))) = true)
  have h3 : subPast b ⟨nA, nNone, D + 1, ⟨1, 0, 0, 0⟩⟩ = false := by
    unfold subPast
    by_cases hp : 0 < b.ent.length
    · have := hin.ent _ (getD_mem ent0 (show b.ent.length - 1 < b.ent.length by omega))
      rw [decide_eq_true hp]
      simp only [Bool.true_and, decide_eq_false_iff_not]
      omega
    · rw [decide_eq_false hp]
      rfl
  unfold subE
  have h4 : forceF b nNone (D + 1) = none := force_long hi (by decide) _
  simp only [h1, h3, h4]
  rfl
theorem pub_no {b : Bk} {ex : ByteArray} {v : Ver} (h : isName ex = false ∨ isDay v.at_ = false ∨ validB v.sch = false) : pubIn b ex v = false := by
  unfold pubIn
  rcases h with h | h | h <;> rw [h] <;> simp
theorem sub_no {b : Bk} {e : Ent} (h : isName e.stu = false ∨ isName e.exe = false ∨ isDay e.day = false ∨ wvalid (wrk1 e.work) = false) : subIn b e = false := by
  unfold subIn
  rcases h with h | h | h | h <;> rw [h] <;> simp
theorem isDay_no {d : Int} (h : d < 0 ∨ 1048576 < d) : isDay d = false := by
  rw [Bool.eq_false_iff]
  intro hd
  have := isDay_iff.1 hd
  omega
theorem wv_no {d : Int} (h : d < 0) : wvalid (wrk1 ⟨d, 0, 0, 0⟩) = false := by
  rw [Bool.eq_false_iff]
  intro hd
  have := (wvalid_facts hd).1
  simp only [wrk1] at this
  omega
end Go.Proofs.Ytgopbbkpcjgihaa
/-! text AY38 -/
namespace Go.Proofs.Ytgopbbkpcjgihaa
open Go.Vsi
set_option maxHeartbeats 4000000
set_option maxRecDepth 100000
set_option linter.unusedSimpArgs false
attribute [local irreducible] VW VCall VO bits

theorem lawWrong_c (l : List Act) (hl : l.length ≤ 9223372036854775807) (ha : ∀ a ∈ l, a.Ok) (n : Int) (hn : -9223372036854775808 ≤ n ∧ n ≤ 9223372036854775807) (H : Heap) : VDet Try.prog 9 [.sl none l.length (l.flatMap Act.cells), .int .i64 n] H (.bool true) := by
  have hvb : VB (bltB l) := blt_valid l _
  have hin : InD (bltB l) (bltD l) := blt_in l ha _ (by unfold bltN; omega)
  have hinS : InS (bltB l) := blt_inS l ha _ (by unfold bltN; omega)
  have hinN : InN (bltB l) := blt_inN l ha _ (by unfold bltN; omega)
  have hbu := fun H => built38_c l hl ha H
  have hD := bltF_day l ha (bltN l) (by unfold bltN; omega)
  have hN : bltN l ≤ 40 := by unfold bltN; omega
  have hD2 : 0 ≤ bltD l ∧ bltD l ≤ 120 := by unfold bltD; omega
  generalize bltB l = b at *
  generalize bltD l = D at *
  have hcb : b.cells = [.sl none b.ser.length (b.ser.flatMap Ser.cells), .sl none b.ent.length (b.ent.flatMap Ent.cells)] := rfl
  have hf : ∀ H, VDet Try.prog 33 [.int .i64 5] H (.agg [.int .i64 5, .int .i64 0, .sl none 0 [], .int .i64 0, .int .i64 0, .int .i64 0, .int .u8 1]) := fun H => flat_c 5 H
  obtain ⟨lo, hlo⟩ : ∃ lo, lo = min n (-1) := ⟨_, rfl⟩
  obtain ⟨hi, hhi⟩ : ∃ hi, hi = max n 1048577 := ⟨_, rfl⟩
  have hlo0 : lo < 0 := by omega
  have hhi0 : 1048576 < hi := by omega
  have hP1 : ∀ H, VDet Try.prog 13 [.agg b.cells, .str ⟨#[]⟩, .agg [.int .i64 (D + 1), .int .i64 5, .int .i64 0, .sl none 0 [], .int .i64 0, .int .i64 0, .int .i64 0, .int .u8 1]] H (.tup [.agg [.sl none 0 [], .sl none 0 []], .int .i64 2]) := fun H => publish_in b hvb.sm ⟨#[]⟩ ⟨D + 1, flatF 5⟩ (pub_no (.inl (by kernel_rfl))) H
  have hP2 : ∀ H, VDet Try.prog 13 [.agg b.cells, .str nLong, .agg [.int .i64 (D + 1), .int .i64 5, .int .i64 0, .sl none 0 [], .int .i64 0, .int .i64 0, .int .i64 0, .int .u8 1]] H (.tup [.agg [.sl none 0 [], .sl none 0 []], .int .i64 2]) := fun H => publish_in b hvb.sm nLong ⟨D + 1, flatF 5⟩ (pub_no (.inl (by kernel_rfl))) H
  have hP3 : ∀ H, VDet Try.prog 13 [.agg b.cells, .str nA, .agg [.int .i64 (min n (-1)), .int .i64 5, .int .i64 0, .sl none 0 [], .int .i64 0, .int .i64 0, .int .i64 0, .int .u8 1]] H (.tup [.agg [.sl none 0 [], .sl none 0 []], .int .i64 2]) := fun H => publish_in b hvb.sm nA ⟨min n (-1), flatF 5⟩ (pub_no (.inr (.inl (isDay_no (d := min n (-1)) (.inl (by omega)))))) H
  have hP4 : ∀ H, VDet Try.prog 13 [.agg b.cells, .str nA, .agg [.int .i64 (max n 1048577), .int .i64 5, .int .i64 0, .sl none 0 [], .int .i64 0, .int .i64 0, .int .i64 0, .int .u8 1]] H (.tup [.agg [.sl none 0 [], .sl none 0 []], .int .i64 2]) := fun H => publish_in b hvb.sm nA ⟨max n 1048577, flatF 5⟩ (pub_no (.inr (.inl (isDay_no (d := max n 1048577) (.inr (by omega)))))) H
  have hP5 : ∀ H, VDet Try.prog 13 [.agg b.cells, .str nA, .agg [.int .i64 (D + 1), .int .i64 0, .int .i64 0, .nils, .int .i64 0, .int .i64 0, .int .i64 0, .int .u8 0]] H (.tup [.agg [.sl none 0 [], .sl none 0 []], .int .i64 2]) := fun H => VDet.wk (publish_in b hvb.sm nA ⟨D + 1, sch0⟩ (pub_no (.inr (.inr (by kernel_rfl)))) H) ⟨Wk.refl _, Wk.refl _, wk_agg ⟨Wk.refl _, Wk.refl _, Wk.refl _, wk_nils, Wk.refl _, Wk.refl _, Wk.refl _, Wk.refl _, trivial⟩, trivial⟩
  have hS1 : ∀ H, VDet Try.prog 14 [.agg b.cells, .agg [.str ⟨#[]⟩, .str nA, .int .i64 (D + 1), .int .i64 1, .int .i64 0, .int .i64 0, .int .i64 0]] H (.tup [.agg [.sl none 0 [], .sl none 0 []], .int .i64 2]) := fun H => submit_in b hvb.sm ⟨⟨#[]⟩, nA, D + 1, ⟨1, 0, 0, 0⟩⟩ (sub_no (.inl (by kernel_rfl))) H
  have hS2 : ∀ H, VDet Try.prog 14 [.agg b.cells, .agg [.str nA, .str nLong, .int .i64 (D + 1), .int .i64 1, .int .i64 0, .int .i64 0, .int .i64 0]] H (.tup [.agg [.sl none 0 [], .sl none 0 []], .int .i64 2]) := fun H => submit_in b hvb.sm ⟨nA, nLong, D + 1, ⟨1, 0, 0, 0⟩⟩ (sub_no (.inr (.inl (by kernel_rfl)))) H
  have hS3 : ∀ H, VDet Try.prog 14 [.agg b.cells, .agg [.str nA, .str nA, .int .i64 (min n (-1)), .int .i64 1, .int .i64 0, .int .i64 0, .int .i64 0]] H (.tup [.agg [.sl none 0 [], .sl none 0 []], .int .i64 2]) := fun H => submit_in b hvb.sm ⟨nA, nA, min n (-1), ⟨1, 0, 0, 0⟩⟩ (sub_no (.inr (.inr (.inl (isDay_no (d := min n (-1)) (.inl (by omega))))))) H
  have hS4 : ∀ H, VDet Try.prog 14 [.agg b.cells, .agg [.str nA, .str nA, .int .i64 (max n 1048577), .int .i64 1, .int .i64 0, .int .i64 0, .int .i64 0]] H (.tup [.agg [.sl none 0 [], .sl none 0 []], .int .i64 2]) := fun H => submit_in b hvb.sm ⟨nA, nA, max n 1048577, ⟨1, 0, 0, 0⟩⟩ (sub_no (.inr (.inr (.inl (isDay_no (d := max n 1048577) (.inr (by omega))))))) H
  have hS5 : ∀ H, VDet Try.prog 14 [.agg b.cells, .agg [.str nA, .str nA, .int .i64 (D + 1), .int .i64 (min n (-1)), .int .i64 0, .int .i64 0, .int .i64 0]] H (.tup [.agg [.sl none 0 [], .sl none 0 []], .int .i64 2]) := fun H => submit_in b hvb.sm ⟨nA, nA, D + 1, ⟨min n (-1), 0, 0, 0⟩⟩ (sub_no (.inr (.inr (.inr (wv_no (d := min n (-1)) (by omega)))))) H
  have hS6 : ∀ H, VDet Try.prog 14 [.agg b.cells, .agg [.str nA, .str nNone, .int .i64 (D + 1), .int .i64 1, .int .i64 0, .int .i64 0, .int .i64 0]] H (.tup [.agg [.sl none 0 [], .sl none 0 []], .int .i64 6]) := fun H => by
    have := submit_c b hvb.sm ⟨nA, nNone, D + 1, ⟨1, 0, 0, 0⟩⟩ H
    have h6 := sub_6 hvb hinS hin (by omega)
    have hF : subF b ⟨nA, nNone, D + 1, ⟨1, 0, 0, 0⟩⟩ = bk0 := by
      unfold subF
      rw [h6]
      rfl
    rw [h6, hF] at this
    exact this
  have hno : ∀ d, isDay d = false → repE b d = 2 := fun d hd => by
    unfold repE
    rw [hd, Bool.and_false]
    rfl
  have hr1 := fun H => reportR_c b hvb.sm (min n (-1)) H
  have hr2 := fun H => reportR_c b hvb.sm (max n 1048577) H
  rw [hno _ (isDay_no (d := min n (-1)) (.inl (by omega)))] at hr1
  rw [hno _ (isDay_no (d := max n 1048577) (.inr (by omega)))] at hr2
  have hsc : ∀ H, VDet Try.prog 29 [.agg b.cells, .str nNone, .int .i64 D] H (.tup [.agg [.int .i64 0, .int .i64 0, .sl none 0 [], .int .i64 0, .int .i64 0, .int .i64 0, .int .u8 0], .int .i64 6]) := fun H => by
    have := scheme_c b hvb.sm nNone D H
    have hE : schE b nNone D = 6 := by
      unfold schE
      rw [validF_iff.2 hvb, force_long hinS (by decide), show isDay D = true from isDay_iff.2 (by omega)]
      rfl
    have hS : schS b nNone D = sch0 := by
      unfold schS
      rw [force_long hinS (by decide)]
      simp
    rw [hE, hS] at this
    exact this
  have hmk : ∀ H, VDet Try.prog 28 [.agg b.cells, .str nNone, .str nA, .int .i64 D] H (.tup [.sl none 0 [], .int .i64 6]) := fun H => by
    have := marks_c b hvb.sm nNone nA D H
    have hW : wksF b D (nNone, nA) = [] := by
      unfold wksF
      rw [ofK_nil]
      · rfl
      · intro hk
        obtain ⟨e, he, hke⟩ := mem_keysF.1 hk
        obtain ⟨i, j, -, -, h1, -⟩ := hinN e (sel_mem.1 he).1
        have h2 : e.exe = nNone := congrArg Prod.fst hke
        rw [h2] at h1
        have := nameF_size i
        rw [← h1] at this
        exact absurd this (by decide)
    have hE : mksE b nNone nA D = 6 := by
      unfold mksE
      rw [validF_iff.2 hvb, hW, show isDay D = true from isDay_iff.2 (by omega)]
      rfl
    have hS : mksF b nNone nA D = [] := by
      unfold mksF
      rw [hW]
      simp
    rw [hE, hS] at this
    exact this
  have hE1 : chgE b (min n (-1)) 0 = 2 := by
    unfold chgE
    rw [isDay_no (d := min n (-1)) (.inl (by omega))]
    rfl
  have hE2 : chgE b 0 (max n 1048577) = 2 := by
    unfold chgE
    rw [isDay_no (d := max n 1048577) (.inr (by omega)), Bool.and_false]
    rfl
  have hc1 := fun H => changes_c b hvb.sm (min n (-1)) 0 H
  rw [hE1] at hc1
  obtain ⟨m1, c1, hc1⟩ : ∃ m c, ∀ H, VDet Try.prog 32 [.agg b.cells, .int .i64 (min n (-1)), .int .i64 0] H (.tup [.sl none m c, .int .i64 2]) := ⟨_, _, hc1⟩
  have hc2 := fun H => changes_c b hvb.sm 0 (max n 1048577) H
  rw [hE2] at hc2
  obtain ⟨m2, c2, hc2⟩ : ∃ m c, ∀ H, VDet Try.prog 32 [.agg b.cells, .int .i64 0, .int .i64 (max n 1048577)] H (.tup [.sl none m c, .int .i64 2]) := ⟨_, _, hc2⟩
  have hne := hvb.ne
  have hday : 0 < b.ent.length → isDay (b.ent.getD (b.ent.length - 1) ent0).day = true := fun hp => (hvb.ent _ (getD_mem ent0 (show b.ent.length - 1 < b.ent.length by omega))).day
  have hQ1 : 0 < b.ent.length → ∃ k1 k2 k3 k4, ∀ H, VDet Try.prog 13 [.agg b.cells, .str nNew, .agg [.int .i64 (b.ent.getD (b.ent.length - 1) ent0).day, .int .i64 5, .int .i64 0, .sl none 0 [], .int .i64 0, .int .i64 0, .int .i64 0, .int .u8 1]] H (.tup [.agg [.sl none k1 k2, .sl none k3 k4], .int .i64 380]) := by
    intro hp
    have := fun H => publish_c b hvb.sm nNew ⟨(b.ent.getD (b.ent.length - 1) ent0).day, flatF 5⟩ H
    rw [pub_380 hvb hinS hp rfl] at this
    exact ⟨_, _, _, _, this⟩
  have hQ2 : 0 < b.ent.length → 0 < (b.ent.getD (b.ent.length - 1) ent0).day → ∃ k1 k2 k3 k4, ∀ H, VDet Try.prog 14 [.agg b.cells, .agg [.str nA, .str nA, .int .i64 ((b.ent.getD (b.ent.length - 1) ent0).day - 1), .int .i64 1, .int .i64 0, .int .i64 0, .int .i64 0]] H (.tup [.agg [.sl none k1 k2, .sl none k3 k4], .int .i64 380]) := by
    intro hp h0
    have := fun H => submit_c b hvb.sm ⟨nA, nA, (b.ent.getD (b.ent.length - 1) ent0).day - 1, ⟨1, 0, 0, 0⟩⟩ H
    rw [sub_380 hvb hp rfl h0] at this
    exact ⟨_, _, _, _, this⟩
  have hQ3 : ∀ d : Int, d = 0 → ∀ H, VDet Try.prog 14 [.agg b.cells, .agg [.str nA, .str nA, .int .i64 (d - 1), .int .i64 1, .int .i64 0, .int .i64 0, .int .i64 0]] H (.tup [.agg [.sl none 0 [], .sl none 0 []], .int .i64 2]) := fun d hd H => submit_in b hvb.sm ⟨nA, nA, d - 1, ⟨1, 0, 0, 0⟩⟩ (sub_no (.inr (.inr (.inl (isDay_no (d := d - 1) (.inl (by omega))))))) H
  rw [hcb] at hbu hr1 hr2 hP1 hP2 hP3 hP4 hP5 hS1 hS2 hS3 hS4 hS5 hS6 hsc hmk hc1 hc2 hQ1 hQ2 hQ3
  obtain ⟨n1, d1, hR1⟩ : ∃ n1 d1, ∀ H, VDet Try.prog 23 [.agg [.sl none b.ser.length (b.ser.flatMap Ser.cells), .sl none b.ent.length (b.ent.flatMap Ent.cells)], .int .i64 (min n (-1))] H (.tup [.sl none n1 d1, .int .i64 2]) := ⟨_, _, hr1⟩
  obtain ⟨n2, d2, hR2⟩ : ∃ n2 d2, ∀ H, VDet Try.prog 23 [.agg [.sl none b.ser.length (b.ser.flatMap Ser.cells), .sl none b.ent.length (b.ent.flatMap Ent.cells)], .int .i64 (max n 1048577)] H (.tup [.sl none n2 d2, .int .i64 2]) := ⟨_, _, hr2⟩
  clear hr1 hr2
  obtain ⟨stu, exe, day, a1, a2, a3, a4, hv2⟩ := ent_ex (b.ent.getD (b.ent.length - 1) ent0)
  have e2 := ent_cells hv2
  rw [hv2] at hday hQ1 hQ2
  simp only at hday hQ1 hQ2
  by_cases hp : 0 < b.ent.length
  · obtain ⟨k1, k2, k3, k4, hQ1⟩ := hQ1 hp
    have hdy := isDay_iff.1 (hday hp)
    by_cases h0 : 0 < day
    · obtain ⟨k5, k6, k7, k8, hQ2⟩ := hQ2 hp h0
      refine fn_det Try.E0 Try.mx Try.func9 (by kernel_rfl) rfl (Nat.le_of_ble_eq_true rfl) rfl fun hcl hbl => ?_
      (repeat' ((conv => whnf); (first | (refine EqN.id ?_; first | refine EqN.i64 (by omega) ?_ | fail) | (refine CallN.id ?_; first | refine CallN.det _ (hbu _) ?_ | refine CallN.det _ (hf _) ?_ | fail) | refine DrawN.mk' [] ?_ | fail))); all_goals (conv => whnf)
      refine LoopN.rounds Try.E0 Try.mx 6 rfl ?_
      (repeat' ((conv => whnf); (first | (refine IfN.id ?_; first | refine IfN.not ?_ | refine IfN.tt rfl ?_ | refine IfN.ff rfl ?_ | fail) | (refine EqN.id ?_; first | (refine EqN.addN _ _ (by first | with_reducible rfl | with_reducible exact cst1 | with_reducible exact cst0 | with_reducible exact cst2 | with_reducible exact cst3 | with_reducible exact cst4 | with_reducible exact cst5 | with_reducible exact cst6 | with_reducible exact cst7 | with_reducible exact cst8 | with_reducible exact cst14 | with_reducible exact cst15 | with_reducible exact cst25 | with_reducible exact cst30 | with_reducible exact cst31 | fail) (by first | with_reducible rfl | with_reducible exact cst1 | with_reducible exact cst0 | with_reducible exact cst2 | with_reducible exact cst3 | with_reducible exact cst4 | with_reducible exact cst5 | with_reducible exact cst6 | with_reducible exact cst7 | with_reducible exact cst8 | with_reducible exact cst14 | with_reducible exact cst15 | with_reducible exact cst25 | with_reducible exact cst30 | with_reducible exact cst31 | fail) ?_ ?_; · (repeat' (first | omega | refine And.intro ?_ ?_ | exact bnd_andl (by omega) | exact bnd_andr (by omega) | refine bnd_or ?_ ?_ | refine bnd_or31 ?_ ?_ | refine bnd_xor ?_ ?_ | refine bnd_xor31 ?_ ?_ | refine bnd_shr ?_ | refine bnd_shl ?_ ?_ | refine bnd_mod ?_ | refine bnd_andl ?_ | fail))) | refine EqN.i64 (by omega) ?_ | fail) | (refine SideN.mk ?_ ?_; · first | kernel_rfl | omega | exact List.cons_ne_nil _ _ | (simp; done) | (simp; omega) | exact trivial | assumption | fail) | (refine CallN.id ?_; first | refine CallN.det _ (hP1 _) ?_ | refine CallN.det _ (hP2 _) ?_ | refine CallN.det _ (hP3 _) ?_ | refine CallN.det _ (hP4 _) ?_ | refine CallN.det _ (hP5 _) ?_ | fail) | refine SegN.mk _ (seg_rfl rfl) ?_ | refine DrawN.mk' [] ?_ | fail))); all_goals (conv => whnf)
      refine LoopN.rounds Try.E0 Try.mx 7 rfl ?_
      (repeat' ((conv => whnf); (first | (refine IfN.id ?_; first | refine IfN.not ?_ | refine IfN.tt rfl ?_ | refine IfN.ff rfl ?_ | refine IfN.dT (by omega) ?_ | fail) | (refine EqN.id ?_; first | (refine EqN.addN _ _ (by first | with_reducible rfl | with_reducible exact cst1 | with_reducible exact cst0 | with_reducible exact cst2 | with_reducible exact cst3 | with_reducible exact cst4 | with_reducible exact cst5 | with_reducible exact cst6 | with_reducible exact cst7 | with_reducible exact cst8 | with_reducible exact cst14 | with_reducible exact cst15 | with_reducible exact cst25 | with_reducible exact cst30 | with_reducible exact cst31 | fail) (by first | with_reducible rfl | with_reducible exact cst1 | with_reducible exact cst0 | with_reducible exact cst2 | with_reducible exact cst3 | with_reducible exact cst4 | with_reducible exact cst5 | with_reducible exact cst6 | with_reducible exact cst7 | with_reducible exact cst8 | with_reducible exact cst14 | with_reducible exact cst15 | with_reducible exact cst25 | with_reducible exact cst30 | with_reducible exact cst31 | fail) ?_ ?_; · (repeat' (first | omega | refine And.intro ?_ ?_ | exact bnd_andl (by omega) | exact bnd_andr (by omega) | refine bnd_or ?_ ?_ | refine bnd_or31 ?_ ?_ | refine bnd_xor ?_ ?_ | refine bnd_xor31 ?_ ?_ | refine bnd_shr ?_ | refine bnd_shl ?_ ?_ | refine bnd_mod ?_ | refine bnd_andl ?_ | fail))) | (refine EqN.subN _ _ (by first | with_reducible rfl | with_reducible exact cst1 | with_reducible exact cst0 | with_reducible exact cst2 | with_reducible exact cst3 | with_reducible exact cst4 | with_reducible exact cst5 | with_reducible exact cst6 | with_reducible exact cst7 | with_reducible exact cst8 | with_reducible exact cst14 | with_reducible exact cst15 | with_reducible exact cst25 | with_reducible exact cst30 | with_reducible exact cst31 | fail) (by first | with_reducible rfl | with_reducible exact cst1 | with_reducible exact cst0 | with_reducible exact cst2 | with_reducible exact cst3 | with_reducible exact cst4 | with_reducible exact cst5 | with_reducible exact cst6 | with_reducible exact cst7 | with_reducible exact cst8 | with_reducible exact cst14 | with_reducible exact cst15 | with_reducible exact cst25 | with_reducible exact cst30 | with_reducible exact cst31 | fail) ?_ ?_; · (repeat' (first | omega | refine And.intro ?_ ?_ | exact bnd_andl (by omega) | exact bnd_andr (by omega) | refine bnd_or ?_ ?_ | refine bnd_or31 ?_ ?_ | refine bnd_xor ?_ ?_ | refine bnd_xor31 ?_ ?_ | refine bnd_shr ?_ | refine bnd_shl ?_ ?_ | refine bnd_mod ?_ | refine bnd_andl ?_ | fail))) | refine EqN.i64 (by omega) ?_ | fail) | (refine SideN.mk ?_ ?_; · first | kernel_rfl | omega | exact List.cons_ne_nil _ _ | (simp; done) | (simp; omega) | exact trivial | assumption | fail) | (refine CallN.id ?_; first | refine CallN.det _ (hS1 _) ?_ | refine CallN.det _ (hS2 _) ?_ | refine CallN.det _ (hS3 _) ?_ | refine CallN.det _ (hS4 _) ?_ | refine CallN.det _ (hS5 _) ?_ | refine CallN.det _ (hS6 _) ?_ | refine CallN.det _ (hR1 _) ?_ | refine CallN.det _ (hR2 _) ?_ | refine CallN.det _ (hsc _) ?_ | refine CallN.det _ (hmk _) ?_ | refine CallN.det _ (hc1 _) ?_ | refine CallN.det _ (hc2 _) ?_ | refine CallN.det _ (awake_c _) ?_ | refine CallN.det _ (hQ1 _) ?_ | refine CallN.det _ (hQ2 _) ?_ | fail) | refine SegN.nthE ent0 (b.ent.length - 1) (by omega) (by omega) ent_size e2 ?_ | refine SegN.mk _ (seg_rfl rfl) ?_ | refine DrawN.mk' [] ?_ | fail))); all_goals (conv => whnf)
      exact EndN.det trivial (Wk.refl _)
    · have hQ3 := hQ3 day (by omega)
      refine fn_det Try.E0 Try.mx Try.func9 (by kernel_rfl) rfl (Nat.le_of_ble_eq_true rfl) rfl fun hcl hbl => ?_
      (repeat' ((conv => whnf); (first | (refine EqN.id ?_; first | refine EqN.i64 (by omega) ?_ | fail) | (refine CallN.id ?_; first | refine CallN.det _ (hbu _) ?_ | refine CallN.det _ (hf _) ?_ | fail) | refine DrawN.mk' [] ?_ | fail))); all_goals (conv => whnf)
      refine LoopN.rounds Try.E0 Try.mx 6 rfl ?_
      (repeat' ((conv => whnf); (first | (refine IfN.id ?_; first | refine IfN.not ?_ | refine IfN.tt rfl ?_ | refine IfN.ff rfl ?_ | fail) | (refine EqN.id ?_; first | (refine EqN.addN _ _ (by first | with_reducible rfl | with_reducible exact cst1 | with_reducible exact cst0 | with_reducible exact cst2 | with_reducible exact cst3 | with_reducible exact cst4 | with_reducible exact cst5 | with_reducible exact cst6 | with_reducible exact cst7 | with_reducible exact cst8 | with_reducible exact cst14 | with_reducible exact cst15 | with_reducible exact cst25 | with_reducible exact cst30 | with_reducible exact cst31 | fail) (by first | with_reducible rfl | with_reducible exact cst1 | with_reducible exact cst0 | with_reducible exact cst2 | with_reducible exact cst3 | with_reducible exact cst4 | with_reducible exact cst5 | with_reducible exact cst6 | with_reducible exact cst7 | with_reducible exact cst8 | with_reducible exact cst14 | with_reducible exact cst15 | with_reducible exact cst25 | with_reducible exact cst30 | with_reducible exact cst31 | fail) ?_ ?_; · (repeat' (first | omega | refine And.intro ?_ ?_ | exact bnd_andl (by omega) | exact bnd_andr (by omega) | refine bnd_or ?_ ?_ | refine bnd_or31 ?_ ?_ | refine bnd_xor ?_ ?_ | refine bnd_xor31 ?_ ?_ | refine bnd_shr ?_ | refine bnd_shl ?_ ?_ | refine bnd_mod ?_ | refine bnd_andl ?_ | fail))) | refine EqN.i64 (by omega) ?_ | fail) | (refine SideN.mk ?_ ?_; · first | kernel_rfl | omega | exact List.cons_ne_nil _ _ | (simp; done) | (simp; omega) | exact trivial | assumption | fail) | (refine CallN.id ?_; first | refine CallN.det _ (hP1 _) ?_ | refine CallN.det _ (hP2 _) ?_ | refine CallN.det _ (hP3 _) ?_ | refine CallN.det _ (hP4 _) ?_ | refine CallN.det _ (hP5 _) ?_ | fail) | refine SegN.mk _ (seg_rfl rfl) ?_ | refine DrawN.mk' [] ?_ | fail))); all_goals (conv => whnf)
      refine LoopN.rounds Try.E0 Try.mx 7 rfl ?_
      (repeat' ((conv => whnf); (first | (refine IfN.id ?_; first | refine IfN.not ?_ | refine IfN.tt rfl ?_ | refine IfN.ff rfl ?_ | refine IfN.dT (by omega) ?_ | refine IfN.dF (by omega) ?_ | fail) | (refine EqN.id ?_; first | (refine EqN.addN _ _ (by first | with_reducible rfl | with_reducible exact cst1 | with_reducible exact cst0 | with_reducible exact cst2 | with_reducible exact cst3 | with_reducible exact cst4 | with_reducible exact cst5 | with_reducible exact cst6 | with_reducible exact cst7 | with_reducible exact cst8 | with_reducible exact cst14 | with_reducible exact cst15 | with_reducible exact cst25 | with_reducible exact cst30 | with_reducible exact cst31 | fail) (by first | with_reducible rfl | with_reducible exact cst1 | with_reducible exact cst0 | with_reducible exact cst2 | with_reducible exact cst3 | with_reducible exact cst4 | with_reducible exact cst5 | with_reducible exact cst6 | with_reducible exact cst7 | with_reducible exact cst8 | with_reducible exact cst14 | with_reducible exact cst15 | with_reducible exact cst25 | with_reducible exact cst30 | with_reducible exact cst31 | fail) ?_ ?_; · (repeat' (first | omega | refine And.intro ?_ ?_ | exact bnd_andl (by omega) | exact bnd_andr (by omega) | refine bnd_or ?_ ?_ | refine bnd_or31 ?_ ?_ | refine bnd_xor ?_ ?_ | refine bnd_xor31 ?_ ?_ | refine bnd_shr ?_ | refine bnd_shl ?_ ?_ | refine bnd_mod ?_ | refine bnd_andl ?_ | fail))) | (refine EqN.subN _ _ (by first | with_reducible rfl | with_reducible exact cst1 | with_reducible exact cst0 | with_reducible exact cst2 | with_reducible exact cst3 | with_reducible exact cst4 | with_reducible exact cst5 | with_reducible exact cst6 | with_reducible exact cst7 | with_reducible exact cst8 | with_reducible exact cst14 | with_reducible exact cst15 | with_reducible exact cst25 | with_reducible exact cst30 | with_reducible exact cst31 | fail) (by first | with_reducible rfl | with_reducible exact cst1 | with_reducible exact cst0 | with_reducible exact cst2 | with_reducible exact cst3 | with_reducible exact cst4 | with_reducible exact cst5 | with_reducible exact cst6 | with_reducible exact cst7 | with_reducible exact cst8 | with_reducible exact cst14 | with_reducible exact cst15 | with_reducible exact cst25 | with_reducible exact cst30 | with_reducible exact cst31 | fail) ?_ ?_; · (repeat' (first | omega | refine And.intro ?_ ?_ | exact bnd_andl (by omega) | exact bnd_andr (by omega) | refine bnd_or ?_ ?_ | refine bnd_or31 ?_ ?_ | refine bnd_xor ?_ ?_ | refine bnd_xor31 ?_ ?_ | refine bnd_shr ?_ | refine bnd_shl ?_ ?_ | refine bnd_mod ?_ | refine bnd_andl ?_ | fail))) | refine EqN.i64 (by omega) ?_ | fail) | (refine SideN.mk ?_ ?_; · first | kernel_rfl | omega | exact List.cons_ne_nil _ _ | (simp; done) | (simp; omega) | exact trivial | assumption | fail) | (refine CallN.id ?_; first | refine CallN.det _ (hS1 _) ?_ | refine CallN.det _ (hS2 _) ?_ | refine CallN.det _ (hS3 _) ?_ | refine CallN.det _ (hS4 _) ?_ | refine CallN.det _ (hS5 _) ?_ | refine CallN.det _ (hS6 _) ?_ | refine CallN.det _ (hR1 _) ?_ | refine CallN.det _ (hR2 _) ?_ | refine CallN.det _ (hsc _) ?_ | refine CallN.det _ (hmk _) ?_ | refine CallN.det _ (hc1 _) ?_ | refine CallN.det _ (hc2 _) ?_ | refine CallN.det _ (awake_c _) ?_ | refine CallN.det _ (hQ1 _) ?_ | refine CallN.det _ (hQ3 _) ?_ | fail) | refine SegN.nthE ent0 (b.ent.length - 1) (by omega) (by omega) ent_size e2 ?_ | refine SegN.mk _ (seg_rfl rfl) ?_ | refine DrawN.mk' [] ?_ | fail))); all_goals (conv => whnf)
      exact EndN.det trivial (Wk.refl _)
  · clear hQ1 hQ2 hQ3
    refine fn_det Try.E0 Try.mx Try.func9 (by kernel_rfl) rfl (Nat.le_of_ble_eq_true rfl) rfl fun hcl hbl => ?_
    (repeat' ((conv => whnf); (first | (refine EqN.id ?_; first | refine EqN.i64 (by omega) ?_ | fail) | (refine CallN.id ?_; first | refine CallN.det _ (hbu _) ?_ | refine CallN.det _ (hf _) ?_ | fail) | refine DrawN.mk' [] ?_ | fail))); all_goals (conv => whnf)
    refine LoopN.rounds Try.E0 Try.mx 6 rfl ?_
    (repeat' ((conv => whnf); (first | (refine IfN.id ?_; first | refine IfN.not ?_ | refine IfN.tt rfl ?_ | refine IfN.ff rfl ?_ | fail) | (refine EqN.id ?_; first | (refine EqN.addN _ _ (by first | with_reducible rfl | with_reducible exact cst1 | with_reducible exact cst0 | with_reducible exact cst2 | with_reducible exact cst3 | with_reducible exact cst4 | with_reducible exact cst5 | with_reducible exact cst6 | with_reducible exact cst7 | with_reducible exact cst8 | with_reducible exact cst14 | with_reducible exact cst15 | with_reducible exact cst25 | with_reducible exact cst30 | with_reducible exact cst31 | fail) (by first | with_reducible rfl | with_reducible exact cst1 | with_reducible exact cst0 | with_reducible exact cst2 | with_reducible exact cst3 | with_reducible exact cst4 | with_reducible exact cst5 | with_reducible exact cst6 | with_reducible exact cst7 | with_reducible exact cst8 | with_reducible exact cst14 | with_reducible exact cst15 | with_reducible exact cst25 | with_reducible exact cst30 | with_reducible exact cst31 | fail) ?_ ?_; · (repeat' (first | omega | refine And.intro ?_ ?_ | exact bnd_andl (by omega) | exact bnd_andr (by omega) | refine bnd_or ?_ ?_ | refine bnd_or31 ?_ ?_ | refine bnd_xor ?_ ?_ | refine bnd_xor31 ?_ ?_ | refine bnd_shr ?_ | refine bnd_shl ?_ ?_ | refine bnd_mod ?_ | refine bnd_andl ?_ | fail))) | refine EqN.i64 (by omega) ?_ | fail) | (refine SideN.mk ?_ ?_; · first | kernel_rfl | omega | exact List.cons_ne_nil _ _ | (simp; done) | (simp; omega) | exact trivial | assumption | fail) | (refine CallN.id ?_; first | refine CallN.det _ (hP1 _) ?_ | refine CallN.det _ (hP2 _) ?_ | refine CallN.det _ (hP3 _) ?_ | refine CallN.det _ (hP4 _) ?_ | refine CallN.det _ (hP5 _) ?_ | fail) | refine SegN.mk _ (seg_rfl rfl) ?_ | refine DrawN.mk' [] ?_ | fail))); all_goals (conv => whnf)
    refine LoopN.rounds Try.E0 Try.mx 7 rfl ?_
    (repeat' ((conv => whnf); (first | (refine IfN.id ?_; first | refine IfN.not ?_ | refine IfN.tt rfl ?_ | refine IfN.ff rfl ?_ | refine IfN.dF (by omega) ?_ | fail) | (refine EqN.id ?_; first | (refine EqN.addN _ _ (by first | with_reducible rfl | with_reducible exact cst1 | with_reducible exact cst0 | with_reducible exact cst2 | with_reducible exact cst3 | with_reducible exact cst4 | with_reducible exact cst5 | with_reducible exact cst6 | with_reducible exact cst7 | with_reducible exact cst8 | with_reducible exact cst14 | with_reducible exact cst15 | with_reducible exact cst25 | with_reducible exact cst30 | with_reducible exact cst31 | fail) (by first | with_reducible rfl | with_reducible exact cst1 | with_reducible exact cst0 | with_reducible exact cst2 | with_reducible exact cst3 | with_reducible exact cst4 | with_reducible exact cst5 | with_reducible exact cst6 | with_reducible exact cst7 | with_reducible exact cst8 | with_reducible exact cst14 | with_reducible exact cst15 | with_reducible exact cst25 | with_reducible exact cst30 | with_reducible exact cst31 | fail) ?_ ?_; · (repeat' (first | omega | refine And.intro ?_ ?_ | exact bnd_andl (by omega) | exact bnd_andr (by omega) | refine bnd_or ?_ ?_ | refine bnd_or31 ?_ ?_ | refine bnd_xor ?_ ?_ | refine bnd_xor31 ?_ ?_ | refine bnd_shr ?_ | refine bnd_shl ?_ ?_ | refine bnd_mod ?_ | refine bnd_andl ?_ | fail))) | fail) | (refine SideN.mk ?_ ?_; · first | kernel_rfl | omega | exact List.cons_ne_nil _ _ | (simp; done) | (simp; omega) | exact trivial | assumption | fail) | (refine CallN.id ?_; first | refine CallN.det _ (hS1 _) ?_ | refine CallN.det _ (hS2 _) ?_ | refine CallN.det _ (hS3 _) ?_ | refine CallN.det _ (hS4 _) ?_ | refine CallN.det _ (hS5 _) ?_ | refine CallN.det _ (hS6 _) ?_ | refine CallN.det _ (hR1 _) ?_ | refine CallN.det _ (hR2 _) ?_ | refine CallN.det _ (hsc _) ?_ | refine CallN.det _ (hmk _) ?_ | refine CallN.det _ (hc1 _) ?_ | refine CallN.det _ (hc2 _) ?_ | refine CallN.det _ (awake_c _) ?_ | fail) | refine SegN.mk _ (seg_rfl rfl) ?_ | refine DrawN.mk' [] ?_ | fail))); all_goals (conv => whnf)
    exact EndN.det trivial (Wk.refl _)
end Go.Proofs.Ytgopbbkpcjgihaa
/-! text AZ38d -/
namespace Go.Proofs.Ytgopbbkpcjgihaa
open Go.Vsi
attribute [local irreducible] VW VCall VO bits
theorem dWrong_c (l : List ActI) (n : Int) (hl : (Ty.sl actTy).good l) (hn : (Ty.int .i64).good n) (H : Heap) : VDet Try.prog 9 [.sl none l.length (l.flatMap actTy.enc), .int .i64 n] H (.bool true) := by
  have := lawWrong_c (l.map actOf) (by rw [List.length_map]; exact maxLen_le hl.1) (acts_ok hl.2) n (wf_i64 hn) H
  rwa [acts_enc, List.length_map] at this
end Go.Proofs.Ytgopbbkpcjgihaa
