/- A text of the proof: the parts RC10, RD10, RE10, RF10, RG10, RH10, RI10, RJ10, RK10, RL10, RN10, RM10, RO10, RP10, RQ10. -/
import Derived.Test.YtekhodpmpjehaaaDoorK5
set_option linter.unusedSimpArgs false
set_option linter.unusedVariables false
/-! text RC10 -/
namespace Go.Proofs.YtekhodpmpjehaaaDoor
open Go.Vsi
set_option maxHeartbeats 1000000
attribute [local irreducible] VW VCall VO bits

/-! ### what a formula says under a valuation -/
def Fm.ev (r : UInt8 → Bool) : Fm → Bool
  | .at c => r c
  | .fa => false
  | .f1 _ a => !a.ev r
  | .f2 k a b => if k = 4 then a.ev r && b.ev r else if k = 5 then a.ev r || b.ev r else if k = 6 then !a.ev r || b.ev r else a.ev r == b.ev r
/-- the atoms of a formula are among the names -/
def Fm.In (l : List UInt8) : Fm → Prop
  | .at c => c ∈ l
  | .fa => True
  | .f1 _ a => a.In l
  | .f2 _ a b => a.In l ∧ b.In l
def ixN (l : List UInt8) (c : UInt8) : Nat := l.idxOf c
/-- the value of a name under the valuation v of the names l -/
def vb (l : List UInt8) (v : Nat) (c : UInt8) : Bool := v.testBit (l.length - 1 - ixN l c)
def blkV (l : List UInt8) (n : Nat) (f : Fm) : AV := U fun i => f.ev (vb l (64 * n + i))
def pats : List Int := [12297829382473034410, 14757395258967641292, 17361641481138401520, 18374966859414961920, 18446462603027742720, 18446744069414584320]
theorem pats_ok : ∀ b, b < 6 → pats.getD b 0 = ((mkBits 64 fun i => i.testBit b : Nat) : Int) := by
  intro b hb
  have : b = 0 ∨ b = 1 ∨ b = 2 ∨ b = 3 ∨ b = 4 ∨ b = 5 := by omega
  rcases this with rfl | rfl | rfl | rfl | rfl | rfl <;> decide
theorem low_bit (n i b : Nat) (hi : i < 64) (hb : b < 6) : (64 * n + i).testBit b = i.testBit b := by
  have := Nat.testBit_two_pow_mul_add n (i := 6) (b := i) (by omega) b
  rw [if_pos hb] at this
  exact this
theorem high_bit (n i b : Nat) (hi : i < 64) (hb : 6 ≤ b) : (64 * n + i).testBit b = n.testBit (b - 6) := by
  have := Nat.testBit_two_pow_mul_add n (i := 6) (b := i) (by omega) b
  rw [if_neg (by omega)] at this
  exact this
theorem ix_get (l : List UInt8) (hl : NmOk l) (c : UInt8) (h : c ∈ l) : ixN l c < l.length ∧ mfind (eqV Tryd.kn Tryd.T 20 9) (.str (nm c)) (keyV l) = some (some (ixN l c)) ∧ (ixV l.length)[ixN l c]? = some (.int .i64 (ixN l c : Nat)) := by
  have h1 : ixN l c < l.length := List.idxOf_lt_length_of_mem h
  refine ⟨h1, ?_, ?_⟩
  · obtain ⟨j, e1, e2, e3⟩ := (mfind_nm c l).1 h
    have : ixN l c = j := by
      have hg : l.getD j 0 = c := by simp [List.getD_eq_getElem?_getD, e2]
      have hi : l.getD (ixN l c) 0 = c := by
        rw [List.getD_eq_getElem?_getD, List.getElem?_eq_getElem h1]
        exact List.getElem_idxOf h1
      rcases Nat.lt_trichotomy (ixN l c) j with h | h | h
      · have := hl.lt _ _ h e1
        rw [hg, hi] at this; omega
      · exact h
      · have := hl.lt _ _ h h1
        rw [hg, hi] at this; omega
    rw [this]
    exact e3
  · unfold ixV
    rw [List.getElem?_map, List.getElem?_range h1]
    rfl
theorem neg_bit (m : Nat) (h : m < 2 ^ 64) : IntKind.u64.wrap (0 - bits .and .u64 (m : Int) 1) = ((mkBits 64 fun _ => m.testBit 0 : Nat) : Int) := by
  have h1 : (1 : Int) = ((mkBits 64 fun i => i == 0 : Nat) : Int) := by decide
  have h2 : m = mkBits 64 fun i => m.testBit i := eq_mk h fun _ _ => rfl
  have h3 : bits .and .u64 (m : Int) 1 = ((mkBits 64 fun i => m.testBit i && i == 0 : Nat) : Int) := by
    have := bits_and (fun i => m.testBit i) (fun i => i == 0)
    rw [← h2, ← h1] at this
    exact this
  rw [h3]
  cases hb : m.testBit 0 with
  | true =>
    have : (mkBits 64 fun i => m.testBit i && i == 0) = mkBits 64 fun i => i == 0 := mk_congr fun i _ => by
      cases i with
      | zero => simp [hb]
      | succ i => simp
    rw [this]
    decide
  | false =>
    have : (mkBits 64 fun i => m.testBit i && i == 0) = mkBits 64 fun i => false := mk_congr fun i _ => by
      cases i with
      | zero => simp [hb]
      | succ i => simp
    rw [this]
    decide
def encP (p : Int) : List AV := [.int .u64 p]
theorem block_at (l : List UInt8) (hl : NmOk l) (c : UInt8) (hc : c ∈ l) (n : Nat) (hn : n ≤ 1000000) (H : Heap) : VDet Tryd.prog 31 [tblV l, .agg (Fm.at c).cells, .int .i64 n] H (blkV l n (.at c)) := by
  obtain ⟨h1, h2, h3⟩ := ix_get l hl c hc
  have h26 := hl.len
  have hkl : (keyV l).length = l.length := by unfold keyV; simp
  have hres : blkV l n (.at c) = .int .u64 ((mkBits 64 fun i => (64 * n + i).testBit (l.length - 1 - ixN l c) : Nat) : Int) := rfl
  rw [hres]
  generalize hb : l.length - 1 - ixN l c = b
  have hb2 : (l.length : Int) - 1 - (ixN l c : Nat) = (b : Nat) := by omega
  unfold tblV Fm.cells
  simp only [Fm.op, Fm.nmB, Fm.sn, Fm.sc]
  refine fn_det Tryd.E0 Tryd.mx Tryd.func31 (by kernel_rfl) rfl (Nat.le_of_ble_eq_true rfl) rfl fun hcl hbl => ?_
  (repeat' ((conv => whnf); (first | (refine IfN.id ?_; first | refine IfN.tt rfl ?_ | refine IfN.dec (fun _ => ?_) (fun _ => ?_) | fail) | (refine EqN.id ?_; first | (refine EqN.shrN _ _ (by first | with_reducible rfl | with_reducible exact cst1 | with_reducible exact cst0 | with_reducible exact cst2 | with_reducible exact cst3 | with_reducible exact cst4 | with_reducible exact cst5 | with_reducible exact cst6 | with_reducible exact cst7 | with_reducible exact cst8 | with_reducible exact cst14 | with_reducible exact cst15 | with_reducible exact cst25 | with_reducible exact cst30 | with_reducible exact cst31 | fail) (by first | with_reducible rfl | with_reducible exact cst1 | with_reducible exact cst0 | with_reducible exact cst2 | with_reducible exact cst3 | with_reducible exact cst4 | with_reducible exact cst5 | with_reducible exact cst6 | with_reducible exact cst7 | with_reducible exact cst8 | with_reducible exact cst14 | with_reducible exact cst15 | with_reducible exact cst25 | with_reducible exact cst30 | with_reducible exact cst31 | fail) rfl ?_ ?_; · (repeat' (first | omega | refine And.intro ?_ ?_ | exact bnd_andl (by omega) | exact bnd_andr (by omega) | refine bnd_or ?_ ?_ | refine bnd_or31 ?_ ?_ | refine bnd_xor ?_ ?_ | refine bnd_xor31 ?_ ?_ | refine bnd_shr ?_ | refine bnd_shl ?_ ?_ | refine bnd_mod ?_ | refine bnd_andl ?_ | fail))) | (refine EqN.subN _ _ (by first | with_reducible rfl | with_reducible exact cst1 | with_reducible exact cst0 | with_reducible exact cst2 | with_reducible exact cst3 | with_reducible exact cst4 | with_reducible exact cst5 | with_reducible exact cst6 | with_reducible exact cst7 | with_reducible exact cst8 | with_reducible exact cst14 | with_reducible exact cst15 | with_reducible exact cst25 | with_reducible exact cst30 | with_reducible exact cst31 | fail) (by first | with_reducible rfl | with_reducible exact cst1 | with_reducible exact cst0 | with_reducible exact cst2 | with_reducible exact cst3 | with_reducible exact cst4 | with_reducible exact cst5 | with_reducible exact cst6 | with_reducible exact cst7 | with_reducible exact cst8 | with_reducible exact cst14 | with_reducible exact cst15 | with_reducible exact cst25 | with_reducible exact cst30 | with_reducible exact cst31 | fail) ?_ ?_; · (repeat' (first | omega | refine And.intro ?_ ?_ | exact bnd_andl (by omega) | exact bnd_andr (by omega) | refine bnd_or ?_ ?_ | refine bnd_or31 ?_ ?_ | refine bnd_xor ?_ ?_ | refine bnd_xor31 ?_ ?_ | refine bnd_shr ?_ | refine bnd_shl ?_ ?_ | refine bnd_mod ?_ | refine bnd_andl ?_ | fail))) | refine EqN.remN _ _ (by first | with_reducible rfl | with_reducible exact cst1 | with_reducible exact cst0 | with_reducible exact cst2 | with_reducible exact cst3 | with_reducible exact cst4 | with_reducible exact cst5 | with_reducible exact cst6 | with_reducible exact cst7 | with_reducible exact cst8 | with_reducible exact cst14 | with_reducible exact cst15 | with_reducible exact cst25 | with_reducible exact cst30 | with_reducible exact cst31 | fail) (by first | with_reducible rfl | with_reducible exact cst1 | with_reducible exact cst0 | with_reducible exact cst2 | with_reducible exact cst3 | with_reducible exact cst4 | with_reducible exact cst5 | with_reducible exact cst6 | with_reducible exact cst7 | with_reducible exact cst8 | with_reducible exact cst14 | with_reducible exact cst15 | with_reducible exact cst25 | with_reducible exact cst30 | with_reducible exact cst31 | fail) ?_ | refine EqN.mk _ rfl ?_ | fail) | (refine SideN.mk ?_ ?_; · first | kernel_rfl | omega | exact List.cons_ne_nil _ _ | (simp; done) | (simp; omega) | exact trivial | assumption | fail) | refine RelN.mk [_] [] ⟨⟨_, rfl⟩, _, h2, h3⟩ ?_ | refine DrawN.mk' [] ?_ | fail))); all_goals (conv => whnf)
  · refine SegN.nth (f := encP) (l := pats) 0 ((keyV l).length - 1 - ixN l c) rfl (by show _ < 6; omega) (fun _ => rfl) ?_
    (repeat' ((conv => whnf); (first | refine DrawN.mk' [] ?_ | fail))); all_goals (conv => whnf)
    refine EndN.det trivial (Wk.of_eq (congrArg (AV.int .u64) ?_))
    rw [hkl, hb, pats_ok b (by omega)]
    exact congrArg _ (mk_congr fun i hi => (low_bit n i b hi (by omega)).symm)
  · refine EndN.det trivial (Wk.of_eq (congrArg (AV.int .u64) ?_))
    rw [hkl, hb]
    have hm : n % (2 ^ IntKind.u64.bits : Int).natAbs = n := Nat.mod_eq_of_lt (by show n < 18446744073709551616; omega)
    rw [hm, neg_bit _ (Nat.lt_of_le_of_lt (Nat.shiftRight_le _ _) (by omega))]
    refine congrArg _ (mk_congr fun i hi => ?_)
    rw [high_bit n i b hi (by omega), Nat.testBit_shiftRight, Nat.add_zero]
theorem block_fa (l : List UInt8) (n : Nat) (H : Heap) : VDet Tryd.prog 31 [tblV l, .agg Fm.fa.cells, .int .i64 n] H (blkV l n .fa) := by
  unfold blkV tblV Fm.cells opsK opsV
  simp only [Fm.op, Fm.nmB, Fm.sn, Fm.sc, Fm.ev]
  have h := op2_c (fun _ => false) (fun _ => false)
  unfold U at h ⊢
  have h0 : ((mkBits 64 fun _ => false : Nat) : Int) = 0 := by decide
  rw [h0] at h ⊢
  generalize keyV l = kl
  generalize ixV l.length = il
  refine fn_det Tryd.E0 Tryd.mx Tryd.func31 (by kernel_rfl) rfl (Nat.le_of_ble_eq_true rfl) rfl fun hcl hbl => ?_
  (repeat' ((conv => whnf); (first | (refine IfN.id ?_; first | refine IfN.ff rfl ?_ | fail) | refine DrawN.mk' [] ?_ | fail))); all_goals (conv => whnf)
  refine LoopN.rounds Tryd.E0 Tryd.mx 1 (by simp) ?_
  (repeat' ((conv => whnf); (first | (refine IfN.id ?_; first | refine IfN.ff rfl ?_ | fail) | (refine SideN.mk ?_ ?_; · first | kernel_rfl | omega | exact List.cons_ne_nil _ _ | (simp; done) | (simp; omega) | exact trivial | assumption | fail) | (refine CallD.id ?_; first | refine CallD.det _ (fun _ hq X => h _) ?_ | fail) | refine RelN.mk [_] [] ⟨⟨_, rfl⟩, 0, by kernel_rfl, rfl⟩ ?_ | refine OfsN.at_ (by omega) ?_ | refine DrawN.mk' [] ?_ | fail))); all_goals (conv => whnf)
  exact EndN.det trivial (Wk.refl _)
theorem block_f1 (l : List UInt8) (n : Nat) (a : Fm) (ih : ∀ H, VDet Tryd.prog 31 [tblV l, .agg a.cells, .int .i64 n] H (blkV l n a)) (H : Heap) : VDet Tryd.prog 31 [tblV l, .agg (Fm.f1 3 a).cells, .int .i64 n] H (blkV l n (.f1 3 a)) := by
  have h := op3_c (fun i => a.ev (vb l (64 * n + i))) (fun _ => false)
  rw [show (Fm.f1 3 a).cells = [.int .u8 (3 : Nat), .str .empty, .sl none 0 [], .sl none 1 [.int .u8 a.op, .str a.nmB, .sl none 0 [], .sl none a.sn a.sc]] from rfl]
  unfold blkV tblV opsK opsV U at ih ⊢
  unfold Fm.cells at ih
  unfold U at h
  have h0 : ((mkBits 64 fun _ => false : Nat) : Int) = 0 := by decide
  rw [h0] at h
  simp only [Fm.ev]
  generalize mkBits 64 (fun i => a.ev (vb l (64 * n + i))) = ga at h ih
  generalize (mkBits 64 fun i => !a.ev (vb l (64 * n + i))) = gr at h ⊢
  generalize keyV l = kl at ih ⊢
  generalize ixV l.length = il at ih ⊢
  generalize a.op = ao at ih ⊢
  generalize a.nmB = an at ih ⊢
  generalize a.sn = asn at ih ⊢
  generalize a.sc = asc at ih ⊢
  refine fn_det Tryd.E0 Tryd.mx Tryd.func31 (by kernel_rfl) rfl (Nat.le_of_ble_eq_true rfl) rfl fun hcl hbl => ?_
  (repeat' ((conv => whnf); (first | (refine IfN.id ?_; first | refine IfN.ff rfl ?_ | fail) | refine DrawN.mk' [] ?_ | fail))); all_goals (conv => whnf)
  refine LoopN.rounds Tryd.E0 Tryd.mx 2 (by simp) ?_
  (repeat' ((conv => whnf); (first | (refine IfN.id ?_; first | refine IfN.tt rfl ?_ | refine IfN.ff rfl ?_ | fail) | (refine EqN.id ?_; first | (refine EqN.addN _ _ (by first | with_reducible rfl | with_reducible exact cst1 | with_reducible exact cst0 | with_reducible exact cst2 | with_reducible exact cst3 | with_reducible exact cst4 | with_reducible exact cst5 | with_reducible exact cst6 | with_reducible exact cst7 | with_reducible exact cst8 | with_reducible exact cst14 | with_reducible exact cst15 | with_reducible exact cst25 | with_reducible exact cst30 | with_reducible exact cst31 | fail) (by first | with_reducible rfl | with_reducible exact cst1 | with_reducible exact cst0 | with_reducible exact cst2 | with_reducible exact cst3 | with_reducible exact cst4 | with_reducible exact cst5 | with_reducible exact cst6 | with_reducible exact cst7 | with_reducible exact cst8 | with_reducible exact cst14 | with_reducible exact cst15 | with_reducible exact cst25 | with_reducible exact cst30 | with_reducible exact cst31 | fail) ?_ ?_; · (repeat' (first | omega | refine And.intro ?_ ?_ | exact bnd_andl (by omega) | exact bnd_andr (by omega) | refine bnd_or ?_ ?_ | refine bnd_or31 ?_ ?_ | refine bnd_xor ?_ ?_ | refine bnd_xor31 ?_ ?_ | refine bnd_shr ?_ | refine bnd_shl ?_ ?_ | refine bnd_mod ?_ | refine bnd_andl ?_ | fail))) | fail) | (refine SideN.mk ?_ ?_; · first | kernel_rfl | omega | exact List.cons_ne_nil _ _ | (simp; done) | (simp; omega) | exact trivial | assumption | fail) | (refine CallN.id ?_; first | refine CallN.det _ (ih _) ?_ | fail) | (refine CallD.id ?_; first | refine CallD.det _ (fun _ hq X => h _) ?_ | fail) | refine RelN.mk [_] [] ⟨⟨_, rfl⟩, 1, by kernel_rfl, rfl⟩ ?_ | refine SegN.mk _ (seg_rfl rfl) ?_ | refine OfsN.at_ (by omega) ?_ | refine DrawN.mk' [] ?_ | fail))); all_goals (conv => whnf)
  exact EndN.det trivial (Wk.refl _)
theorem block_f2_4 (l : List UInt8) (n : Nat) (a b : Fm) (iha : ∀ H, VDet Tryd.prog 31 [tblV l, .agg a.cells, .int .i64 n] H (blkV l n a)) (ihb : ∀ H, VDet Tryd.prog 31 [tblV l, .agg b.cells, .int .i64 n] H (blkV l n b)) (H : Heap) : VDet Tryd.prog 31 [tblV l, .agg (Fm.f2 4 a b).cells, .int .i64 n] H (blkV l n (.f2 4 a b)) := by
  have h := op4_c (fun i => a.ev (vb l (64 * n + i))) (fun i => b.ev (vb l (64 * n + i)))
  rw [show (Fm.f2 4 a b).cells = [.int .u8 (4 : Nat), .str .empty, .sl none 0 [], .sl none 2 [.int .u8 a.op, .str a.nmB, .sl none 0 [], .sl none a.sn a.sc, .int .u8 b.op, .str b.nmB, .sl none 0 [], .sl none b.sn b.sc]] from rfl]
  rw [show blkV l n (.f2 4 a b) = U (fun i => a.ev (vb l (64 * n + i)) && b.ev (vb l (64 * n + i))) from rfl]
  unfold blkV tblV opsK opsV U at iha ihb
  unfold tblV opsK opsV U
  unfold Fm.cells at iha ihb
  unfold U at h
  generalize mkBits 64 (fun i => a.ev (vb l (64 * n + i))) = ga at h iha
  generalize mkBits 64 (fun i => b.ev (vb l (64 * n + i))) = gb at h ihb
  generalize mkBits 64 (fun i => a.ev (vb l (64 * n + i)) && b.ev (vb l (64 * n + i))) = gr at h ⊢
  generalize keyV l = kl at iha ihb ⊢
  generalize ixV l.length = il at iha ihb ⊢
  generalize a.op = ao at iha ⊢
  generalize a.nmB = an at iha ⊢
  generalize a.sn = asn at iha ⊢
  generalize a.sc = asc at iha ⊢
  generalize b.op = bo at ihb ⊢
  generalize b.nmB = bn at ihb ⊢
  generalize b.sn = bsn at ihb ⊢
  generalize b.sc = bsc at ihb ⊢
  refine fn_det Tryd.E0 Tryd.mx Tryd.func31 (by kernel_rfl) rfl (Nat.le_of_ble_eq_true rfl) rfl fun hcl hbl => ?_
  (repeat' ((conv => whnf); (first | (refine IfN.id ?_; first | refine IfN.ff rfl ?_ | fail) | refine DrawN.mk' [] ?_ | fail))); all_goals (conv => whnf)
  refine LoopN.rounds Tryd.E0 Tryd.mx 3 (by simp) ?_
  (repeat' ((conv => whnf); (first | (refine IfN.id ?_; first | refine IfN.tt rfl ?_ | refine IfN.ff rfl ?_ | fail) | (refine EqN.id ?_; first | (refine EqN.addN _ _ (by first | with_reducible rfl | with_reducible exact cst1 | with_reducible exact cst0 | with_reducible exact cst2 | with_reducible exact cst3 | with_reducible exact cst4 | with_reducible exact cst5 | with_reducible exact cst6 | with_reducible exact cst7 | with_reducible exact cst8 | with_reducible exact cst14 | with_reducible exact cst15 | with_reducible exact cst25 | with_reducible exact cst30 | with_reducible exact cst31 | fail) (by first | with_reducible rfl | with_reducible exact cst1 | with_reducible exact cst0 | with_reducible exact cst2 | with_reducible exact cst3 | with_reducible exact cst4 | with_reducible exact cst5 | with_reducible exact cst6 | with_reducible exact cst7 | with_reducible exact cst8 | with_reducible exact cst14 | with_reducible exact cst15 | with_reducible exact cst25 | with_reducible exact cst30 | with_reducible exact cst31 | fail) ?_ ?_; · (repeat' (first | omega | refine And.intro ?_ ?_ | exact bnd_andl (by omega) | exact bnd_andr (by omega) | refine bnd_or ?_ ?_ | refine bnd_or31 ?_ ?_ | refine bnd_xor ?_ ?_ | refine bnd_xor31 ?_ ?_ | refine bnd_shr ?_ | refine bnd_shl ?_ ?_ | refine bnd_mod ?_ | refine bnd_andl ?_ | fail))) | fail) | (refine SideN.mk ?_ ?_; · first | kernel_rfl | omega | exact List.cons_ne_nil _ _ | (simp; done) | (simp; omega) | exact trivial | assumption | fail) | (refine CallN.id ?_; first | refine CallN.det _ (iha _) ?_ | refine CallN.det _ (ihb _) ?_ | fail) | (refine CallD.id ?_; first | refine CallD.det _ (fun _ hq X => h _) ?_ | fail) | refine RelN.mk [_] [] ⟨⟨_, rfl⟩, 2, by kernel_rfl, rfl⟩ ?_ | refine SegN.mk _ (seg_rfl rfl) ?_ | refine OfsN.at_ (by omega) ?_ | refine DrawN.mk' [] ?_ | fail))); all_goals (conv => whnf)
  exact EndN.det trivial (Wk.refl _)
theorem block_f2_5 (l : List UInt8) (n : Nat) (a b : Fm) (iha : ∀ H, VDet Tryd.prog 31 [tblV l, .agg a.cells, .int .i64 n] H (blkV l n a)) (ihb : ∀ H, VDet Tryd.prog 31 [tblV l, .agg b.cells, .int .i64 n] H (blkV l n b)) (H : Heap) : VDet Tryd.prog 31 [tblV l, .agg (Fm.f2 5 a b).cells, .int .i64 n] H (blkV l n (.f2 5 a b)) := by
  have h := op5_c (fun i => a.ev (vb l (64 * n + i))) (fun i => b.ev (vb l (64 * n + i)))
  rw [show (Fm.f2 5 a b).cells = [.int .u8 (5 : Nat), .str .empty, .sl none 0 [], .sl none 2 [.int .u8 a.op, .str a.nmB, .sl none 0 [], .sl none a.sn a.sc, .int .u8 b.op, .str b.nmB, .sl none 0 [], .sl none b.sn b.sc]] from rfl]
  rw [show blkV l n (.f2 5 a b) = U (fun i => a.ev (vb l (64 * n + i)) || b.ev (vb l (64 * n + i))) from rfl]
  unfold blkV tblV opsK opsV U at iha ihb
  unfold tblV opsK opsV U
  unfold Fm.cells at iha ihb
  unfold U at h
  generalize mkBits 64 (fun i => a.ev (vb l (64 * n + i))) = ga at h iha
  generalize mkBits 64 (fun i => b.ev (vb l (64 * n + i))) = gb at h ihb
  generalize mkBits 64 (fun i => a.ev (vb l (64 * n + i)) || b.ev (vb l (64 * n + i))) = gr at h ⊢
  generalize keyV l = kl at iha ihb ⊢
  generalize ixV l.length = il at iha ihb ⊢
  generalize a.op = ao at iha ⊢
  generalize a.nmB = an at iha ⊢
  generalize a.sn = asn at iha ⊢
  generalize a.sc = asc at iha ⊢
  generalize b.op = bo at ihb ⊢
  generalize b.nmB = bn at ihb ⊢
  generalize b.sn = bsn at ihb ⊢
  generalize b.sc = bsc at ihb ⊢
  refine fn_det Tryd.E0 Tryd.mx Tryd.func31 (by kernel_rfl) rfl (Nat.le_of_ble_eq_true rfl) rfl fun hcl hbl => ?_
  (repeat' ((conv => whnf); (first | (refine IfN.id ?_; first | refine IfN.ff rfl ?_ | fail) | refine DrawN.mk' [] ?_ | fail))); all_goals (conv => whnf)
  refine LoopN.rounds Tryd.E0 Tryd.mx 3 (by simp) ?_
  (repeat' ((conv => whnf); (first | (refine IfN.id ?_; first | refine IfN.tt rfl ?_ | refine IfN.ff rfl ?_ | fail) | (refine EqN.id ?_; first | (refine EqN.addN _ _ (by first | with_reducible rfl | with_reducible exact cst1 | with_reducible exact cst0 | with_reducible exact cst2 | with_reducible exact cst3 | with_reducible exact cst4 | with_reducible exact cst5 | with_reducible exact cst6 | with_reducible exact cst7 | with_reducible exact cst8 | with_reducible exact cst14 | with_reducible exact cst15 | with_reducible exact cst25 | with_reducible exact cst30 | with_reducible exact cst31 | fail) (by first | with_reducible rfl | with_reducible exact cst1 | with_reducible exact cst0 | with_reducible exact cst2 | with_reducible exact cst3 | with_reducible exact cst4 | with_reducible exact cst5 | with_reducible exact cst6 | with_reducible exact cst7 | with_reducible exact cst8 | with_reducible exact cst14 | with_reducible exact cst15 | with_reducible exact cst25 | with_reducible exact cst30 | with_reducible exact cst31 | fail) ?_ ?_; · (repeat' (first | omega | refine And.intro ?_ ?_ | exact bnd_andl (by omega) | exact bnd_andr (by omega) | refine bnd_or ?_ ?_ | refine bnd_or31 ?_ ?_ | refine bnd_xor ?_ ?_ | refine bnd_xor31 ?_ ?_ | refine bnd_shr ?_ | refine bnd_shl ?_ ?_ | refine bnd_mod ?_ | refine bnd_andl ?_ | fail))) | fail) | (refine SideN.mk ?_ ?_; · first | kernel_rfl | omega | exact List.cons_ne_nil _ _ | (simp; done) | (simp; omega) | exact trivial | assumption | fail) | (refine CallN.id ?_; first | refine CallN.det _ (iha _) ?_ | refine CallN.det _ (ihb _) ?_ | fail) | (refine CallD.id ?_; first | refine CallD.det _ (fun _ hq X => h _) ?_ | fail) | refine RelN.mk [_] [] ⟨⟨_, rfl⟩, 3, by kernel_rfl, rfl⟩ ?_ | refine SegN.mk _ (seg_rfl rfl) ?_ | refine OfsN.at_ (by omega) ?_ | refine DrawN.mk' [] ?_ | fail))); all_goals (conv => whnf)
  exact EndN.det trivial (Wk.refl _)
theorem block_f2_6 (l : List UInt8) (n : Nat) (a b : Fm) (iha : ∀ H, VDet Tryd.prog 31 [tblV l, .agg a.cells, .int .i64 n] H (blkV l n a)) (ihb : ∀ H, VDet Tryd.prog 31 [tblV l, .agg b.cells, .int .i64 n] H (blkV l n b)) (H : Heap) : VDet Tryd.prog 31 [tblV l, .agg (Fm.f2 6 a b).cells, .int .i64 n] H (blkV l n (.f2 6 a b)) := by
  have h := op6_c (fun i => a.ev (vb l (64 * n + i))) (fun i => b.ev (vb l (64 * n + i)))
  rw [show (Fm.f2 6 a b).cells = [.int .u8 (6 : Nat), .str .empty, .sl none 0 [], .sl none 2 [.int .u8 a.op, .str a.nmB, .sl none 0 [], .sl none a.sn a.sc, .int .u8 b.op, .str b.nmB, .sl none 0 [], .sl none b.sn b.sc]] from rfl]
  rw [show blkV l n (.f2 6 a b) = U (fun i => !a.ev (vb l (64 * n + i)) || b.ev (vb l (64 * n + i))) from rfl]
  unfold blkV tblV opsK opsV U at iha ihb
  unfold tblV opsK opsV U
  unfold Fm.cells at iha ihb
  unfold U at h
  generalize mkBits 64 (fun i => a.ev (vb l (64 * n + i))) = ga at h iha
  generalize mkBits 64 (fun i => b.ev (vb l (64 * n + i))) = gb at h ihb
  generalize mkBits 64 (fun i => !a.ev (vb l (64 * n + i)) || b.ev (vb l (64 * n + i))) = gr at h ⊢
  generalize keyV l = kl at iha ihb ⊢
  generalize ixV l.length = il at iha ihb ⊢
  generalize a.op = ao at iha ⊢
  generalize a.nmB = an at iha ⊢
  generalize a.sn = asn at iha ⊢
  generalize a.sc = asc at iha ⊢
  generalize b.op = bo at ihb ⊢
  generalize b.nmB = bn at ihb ⊢
  generalize b.sn = bsn at ihb ⊢
  generalize b.sc = bsc at ihb ⊢
  refine fn_det Tryd.E0 Tryd.mx Tryd.func31 (by kernel_rfl) rfl (Nat.le_of_ble_eq_true rfl) rfl fun hcl hbl => ?_
  (repeat' ((conv => whnf); (first | (refine IfN.id ?_; first | refine IfN.ff rfl ?_ | fail) | refine DrawN.mk' [] ?_ | fail))); all_goals (conv => whnf)
  refine LoopN.rounds Tryd.E0 Tryd.mx 3 (by simp) ?_
  (repeat' ((conv => whnf); (first | (refine IfN.id ?_; first | refine IfN.tt rfl ?_ | refine IfN.ff rfl ?_ | fail) | (refine EqN.id ?_; first | (refine EqN.addN _ _ (by first | with_reducible rfl | with_reducible exact cst1 | with_reducible exact cst0 | with_reducible exact cst2 | with_reducible exact cst3 | with_reducible exact cst4 | with_reducible exact cst5 | with_reducible exact cst6 | with_reducible exact cst7 | with_reducible exact cst8 | with_reducible exact cst14 | with_reducible exact cst15 | with_reducible exact cst25 | with_reducible exact cst30 | with_reducible exact cst31 | fail) (by first | with_reducible rfl | with_reducible exact cst1 | with_reducible exact cst0 | with_reducible exact cst2 | with_reducible exact cst3 | with_reducible exact cst4 | with_reducible exact cst5 | with_reducible exact cst6 | with_reducible exact cst7 | with_reducible exact cst8 | with_reducible exact cst14 | with_reducible exact cst15 | with_reducible exact cst25 | with_reducible exact cst30 | with_reducible exact cst31 | fail) ?_ ?_; · (repeat' (first | omega | refine And.intro ?_ ?_ | exact bnd_andl (by omega) | exact bnd_andr (by omega) | refine bnd_or ?_ ?_ | refine bnd_or31 ?_ ?_ | refine bnd_xor ?_ ?_ | refine bnd_xor31 ?_ ?_ | refine bnd_shr ?_ | refine bnd_shl ?_ ?_ | refine bnd_mod ?_ | refine bnd_andl ?_ | fail))) | fail) | (refine SideN.mk ?_ ?_; · first | kernel_rfl | omega | exact List.cons_ne_nil _ _ | (simp; done) | (simp; omega) | exact trivial | assumption | fail) | (refine CallN.id ?_; first | refine CallN.det _ (iha _) ?_ | refine CallN.det _ (ihb _) ?_ | fail) | (refine CallD.id ?_; first | refine CallD.det _ (fun _ hq X => h _) ?_ | fail) | refine RelN.mk [_] [] ⟨⟨_, rfl⟩, 4, by kernel_rfl, rfl⟩ ?_ | refine SegN.mk _ (seg_rfl rfl) ?_ | refine OfsN.at_ (by omega) ?_ | refine DrawN.mk' [] ?_ | fail))); all_goals (conv => whnf)
  exact EndN.det trivial (Wk.refl _)
theorem block_f2_7 (l : List UInt8) (n : Nat) (a b : Fm) (iha : ∀ H, VDet Tryd.prog 31 [tblV l, .agg a.cells, .int .i64 n] H (blkV l n a)) (ihb : ∀ H, VDet Tryd.prog 31 [tblV l, .agg b.cells, .int .i64 n] H (blkV l n b)) (H : Heap) : VDet Tryd.prog 31 [tblV l, .agg (Fm.f2 7 a b).cells, .int .i64 n] H (blkV l n (.f2 7 a b)) := by
  have h := op7_c (fun i => a.ev (vb l (64 * n + i))) (fun i => b.ev (vb l (64 * n + i)))
  rw [show (Fm.f2 7 a b).cells = [.int .u8 (7 : Nat), .str .empty, .sl none 0 [], .sl none 2 [.int .u8 a.op, .str a.nmB, .sl none 0 [], .sl none a.sn a.sc, .int .u8 b.op, .str b.nmB, .sl none 0 [], .sl none b.sn b.sc]] from rfl]
  rw [show blkV l n (.f2 7 a b) = U (fun i => a.ev (vb l (64 * n + i)) == b.ev (vb l (64 * n + i))) from rfl]
  unfold blkV tblV opsK opsV U at iha ihb
  unfold tblV opsK opsV U
  unfold Fm.cells at iha ihb
  unfold U at h
  generalize mkBits 64 (fun i => a.ev (vb l (64 * n + i))) = ga at h iha
  generalize mkBits 64 (fun i => b.ev (vb l (64 * n + i))) = gb at h ihb
  generalize mkBits 64 (fun i => a.ev (vb l (64 * n + i)) == b.ev (vb l (64 * n + i))) = gr at h ⊢
  generalize keyV l = kl at iha ihb ⊢
  generalize ixV l.length = il at iha ihb ⊢
  generalize a.op = ao at iha ⊢
  generalize a.nmB = an at iha ⊢
  generalize a.sn = asn at iha ⊢
  generalize a.sc = asc at iha ⊢
  generalize b.op = bo at ihb ⊢
  generalize b.nmB = bn at ihb ⊢
  generalize b.sn = bsn at ihb ⊢
  generalize b.sc = bsc at ihb ⊢
  refine fn_det Tryd.E0 Tryd.mx Tryd.func31 (by kernel_rfl) rfl (Nat.le_of_ble_eq_true rfl) rfl fun hcl hbl => ?_
  (repeat' ((conv => whnf); (first | (refine IfN.id ?_; first | refine IfN.ff rfl ?_ | fail) | refine DrawN.mk' [] ?_ | fail))); all_goals (conv => whnf)
  refine LoopN.rounds Tryd.E0 Tryd.mx 3 (by simp) ?_
  (repeat' ((conv => whnf); (first | (refine IfN.id ?_; first | refine IfN.tt rfl ?_ | refine IfN.ff rfl ?_ | fail) | (refine EqN.id ?_; first | (refine EqN.addN _ _ (by first | with_reducible rfl | with_reducible exact cst1 | with_reducible exact cst0 | with_reducible exact cst2 | with_reducible exact cst3 | with_reducible exact cst4 | with_reducible exact cst5 | with_reducible exact cst6 | with_reducible exact cst7 | with_reducible exact cst8 | with_reducible exact cst14 | with_reducible exact cst15 | with_reducible exact cst25 | with_reducible exact cst30 | with_reducible exact cst31 | fail) (by first | with_reducible rfl | with_reducible exact cst1 | with_reducible exact cst0 | with_reducible exact cst2 | with_reducible exact cst3 | with_reducible exact cst4 | with_reducible exact cst5 | with_reducible exact cst6 | with_reducible exact cst7 | with_reducible exact cst8 | with_reducible exact cst14 | with_reducible exact cst15 | with_reducible exact cst25 | with_reducible exact cst30 | with_reducible exact cst31 | fail) ?_ ?_; · (repeat' (first | omega | refine And.intro ?_ ?_ | exact bnd_andl (by omega) | exact bnd_andr (by omega) | refine bnd_or ?_ ?_ | refine bnd_or31 ?_ ?_ | refine bnd_xor ?_ ?_ | refine bnd_xor31 ?_ ?_ | refine bnd_shr ?_ | refine bnd_shl ?_ ?_ | refine bnd_mod ?_ | refine bnd_andl ?_ | fail))) | fail) | (refine SideN.mk ?_ ?_; · first | kernel_rfl | omega | exact List.cons_ne_nil _ _ | (simp; done) | (simp; omega) | exact trivial | assumption | fail) | (refine CallN.id ?_; first | refine CallN.det _ (iha _) ?_ | refine CallN.det _ (ihb _) ?_ | fail) | (refine CallD.id ?_; first | refine CallD.det _ (fun _ hq X => h _) ?_ | fail) | refine RelN.mk [_] [] ⟨⟨_, rfl⟩, 5, by kernel_rfl, rfl⟩ ?_ | refine SegN.mk _ (seg_rfl rfl) ?_ | refine OfsN.at_ (by omega) ?_ | refine DrawN.mk' [] ?_ | fail))); all_goals (conv => whnf)
  exact EndN.det trivial (Wk.refl _)
theorem block_c (l : List UInt8) (hl : NmOk l) (n : Nat) (hn : n ≤ 1000000) : ∀ f : Fm, f.Pr → f.In l → ∀ H, VDet Tryd.prog 31 [tblV l, .agg f.cells, .int .i64 n] H (blkV l n f)
  | .at c, _, h => block_at l hl c h n hn
  | .fa, _, _ => block_fa l n
  | .f1 k a, hp, h => by
    obtain ⟨rfl, hp⟩ := hp
    exact block_f1 l n a (block_c l hl n hn a hp h)
  | .f2 k a b, hp, h => by
    have iha := block_c l hl n hn a hp.2.1 h.1
    have ihb := block_c l hl n hn b hp.2.2 h.2
    rcases hp.1 with rfl | rfl | rfl | rfl
    · exact block_f2_4 l n a b iha ihb
    · exact block_f2_5 l n a b iha ihb
    · exact block_f2_6 l n a b iha ihb
    · exact block_f2_7 l n a b iha ihb
end Go.Proofs.YtekhodpmpjehaaaDoor
/-! text RD10 -/
namespace Go.Proofs.YtekhodpmpjehaaaDoor
open Go.Vsi
set_option maxHeartbeats 1000000
attribute [local irreducible] VW VCall VO bits

/-! ### how many valuations there are -/
theorem EqN.two (l : Nat) {k : Int → Prop} (h : l ≤ 40) (a : k ((2 ^ l : Nat) : Int)) : EqN (IntKind.i64.wrap (1 * 2 ^ min ((l : Nat) : Int).toNat IntKind.i64.bits)) k := by
  refine ⟨_, ?_, a⟩
  have h1 : min ((l : Nat) : Int).toNat IntKind.i64.bits = l := by
    rw [Int.toNat_natCast]
    exact Nat.min_eq_left (by show l ≤ 64; omega)
  rw [h1, Int.one_mul]
  have h2 : (2 : Nat) ^ l ≤ 1099511627776 := Nat.pow_le_pow_right (n := 2) (by omega) h
  have h3 : ((2 : Int) ^ l) = ((2 ^ l : Nat) : Int) := by simp
  rw [h3]
  generalize 2 ^ l = q at *
  exact w64 (by omega)
theorem size_c (l : List UInt8) (hl : l.length ≤ 12) (H : Heap) : VDet Tryd.prog 33 [tblV l] H (.int .i64 (2 ^ l.length : Nat)) := by
  have hkl : (keyV l).length = l.length := by unfold keyV; simp
  unfold tblV
  refine fn_det Tryd.E0 Tryd.mx Tryd.func33 (by kernel_rfl) rfl (Nat.le_of_ble_eq_true rfl) rfl fun hcl hbl => ?_
  (repeat' ((conv => whnf); (first | (refine EqN.id ?_; first | refine EqN.two _ (by omega) ?_ | fail) | (refine SideN.mk ?_ ?_; · first | kernel_rfl | omega | exact List.cons_ne_nil _ _ | (simp; done) | (simp; omega) | exact trivial | assumption | fail) | refine DrawN.mk' [] ?_ | fail))); all_goals (conv => whnf)
  exact EndN.det trivial (Wk.of_eq (by rw [hkl]))
theorem two_le (l : List UInt8) (hl : l.length ≤ 12) : 2 ^ l.length ≤ 4096 ∧ 1 ≤ 2 ^ l.length := by
  have h2 : (2 : Nat) ^ l.length ≤ 2 ^ 12 := Nat.pow_le_pow_right (by omega) hl
  exact ⟨h2, Nat.pos_of_ne_zero (by simp)⟩
theorem tblV_below (l : List UInt8) (n : Nat) : below n (tblV l) := by
  unfold tblV opsK opsV
  simp [below, belowL, fnBelow, mpB_belowK, keyV, ixV_below]
theorem blocks_c (l : List UInt8) (hl : l.length ≤ 12) (H : Heap) : VDet Tryd.prog 29 [tblV l] H (.int .i64 ((2 ^ l.length + 63) / 64 : Nat)) := by
  have hs := size_c l hl
  have h2 := two_le l hl
  generalize 2 ^ l.length = s at *
  have hb := tblV_below l
  generalize tblV l = t at *
  refine fn_det Tryd.E0 Tryd.mx Tryd.func29 (by kernel_rfl) rfl (Nat.le_of_ble_eq_true rfl) rfl fun hcl hbl => ?_
  (repeat' ((conv => whnf); (first | (refine EqN.id ?_; first | refine EqN.i64 (by omega) ?_ | refine EqN.quo (by omega) ?_ | fail) | (refine SideN.mk ?_ ?_; · first | kernel_rfl | omega | exact List.cons_ne_nil _ _ | (simp; done) | (simp; omega) | exact trivial | assumption | fail) | (refine CallN.id ?_; first | refine CallN.det _ (hs _) ?_ | fail) | refine DrawN.mk' [] ?_ | fail))); all_goals (conv => whnf)
  exact EndN.det trivial (Wk.of_eq (by simp))
def okU (s : Nat) : AV := U fun i => decide (i < s)
theorem okU_lo (s : Nat) (h : s < 64) : ((mkBits 64 fun i => decide (i < s) : Nat) : Int) = IntKind.u64.wrap (IntKind.u64.wrap (1 * 2 ^ min ((s : Nat) : Int).toNat IntKind.u64.bits) - 1) := by
  have : ∀ s, s < 64 → (Int.ofNat (mkBits 64 fun i => decide (i < s)) == IntKind.u64.wrap (IntKind.u64.wrap (1 * 2 ^ min ((s : Nat) : Int).toNat IntKind.u64.bits) - 1)) = true := by
    have : (List.range 64).all (fun s => Int.ofNat (mkBits 64 fun i => decide (i < s)) == IntKind.u64.wrap (IntKind.u64.wrap (1 * 2 ^ min ((s : Nat) : Int).toNat IntKind.u64.bits) - 1)) = true := by kernel_rfl
    intro s hs
    exact List.all_eq_true.1 this s (List.mem_range.2 hs)
  exact eq_of_beq (this s h)
theorem okU_hi (s : Nat) (h : 64 ≤ s) : ((mkBits 64 fun i => decide (i < s) : Nat) : Int) = 18446744073709551615 := by
  rw [mk_congr (h := fun _ => true) fun i hi => by simp; omega]
  decide
theorem valid_c (l : List UInt8) (hl : l.length ≤ 12) (H : Heap) : VDet Tryd.prog 32 [tblV l] H (okU (2 ^ l.length)) := by
  have hs := size_c l hl
  have h2 := two_le l hl
  generalize 2 ^ l.length = s at *
  have hb := tblV_below l
  generalize tblV l = t at *
  unfold okU U
  refine fn_det Tryd.E0 Tryd.mx Tryd.func32 (by kernel_rfl) rfl (Nat.le_of_ble_eq_true rfl) rfl fun hcl hbl => ?_
  (repeat' ((conv => whnf); (first | (refine IfN.id ?_; first | refine IfN.dec (fun _ => ?_) (fun _ => ?_) | fail) | (refine EqN.id ?_; first | refine EqN.mk _ rfl ?_ | fail) | (refine SideN.mk ?_ ?_; · first | kernel_rfl | omega | exact List.cons_ne_nil _ _ | (simp; done) | (simp; omega) | exact trivial | assumption | fail) | (refine CallN.id ?_; first | refine CallN.det _ (hs _) ?_ | fail) | refine DrawN.mk' [] ?_ | fail))); all_goals (conv => whnf)
  · exact EndN.det trivial (Wk.of_eq (by rw [okU_hi s (by omega)]))
  · exact EndN.det trivial (Wk.of_eq (by rw [okU_lo s (by omega)]))
end Go.Proofs.YtekhodpmpjehaaaDoor
/-! text RE10 -/
namespace Go.Proofs.YtekhodpmpjehaaaDoor
open Go.Vsi
set_option maxHeartbeats 1000000
attribute [local irreducible] VW VCall VO bits

/-! ### slices.Concat -/
theorem form_info : ∃ i z, Tryd.prog.info? 28 = some i ∧ i.zero = some z ∧ i.size = 4 ∧ i.bytes = 72 ∧ z.cells.size = 4 := by
  have h : (Tryd.prog.info? 28).bind (fun i => i.zero.map fun z => (i.size, i.bytes, z.cells.size)) = some (4, 72, 4) := by kernel_rfl
  cases hi : Tryd.prog.info? 28 with
  | none => rw [hi] at h; cases h
  | some i =>
    rw [hi] at h
    cases hz : i.zero with
    | none => simp [hz] at h
    | some z =>
      simp [hz] at h
      exact ⟨i, z, rfl, hz, h.1, h.2.1, h.2.2⟩
theorem grow_c (n : Nat) (h0 : 0 < n) (hn : n ≤ 1000) (H : Heap) : VCall Tryd.prog 49 [.nils, .int .i64 n] H (fun r H' => r = .sl (some (H.length + 0)) 0 [] ∧ H' = H ++ [.tok 28 4 0]) := by
  unfold VCall
  refine ⟨⟨_, Tryd.func49, by kernel_rfl, rfl⟩, fun g w xs hH hL => ?_⟩
  obtain ⟨i, z, hi, hz, hsz, hby, hzs⟩ := form_info
  obtain ⟨c, r, has, hc, d, r', rfl, hd, rfl⟩ := hL
  simp only [VRel] at hc hd
  subst hc hd
  have has : xs = #[.slice none 0 0, .int .i64 n] := by simpa using congrArg List.toArray has
  subst has
  have hcall := Any8.slices_Grow_grow Tryd.grow49 i z hi hz (by omega) none 0 0 n [] w (Nat.le_refl _) (by omega) (by rw [hby]; omega) (by omega) (by simp) (fun _ => rfl) (fun a e => by cases e)
  change Calls Tryd.prog 49 _ _ _ at hcall
  rw [show Tryd.grow49_ren.t 25 = 28 from rfl] at hcall
  refine hcall.mono ?_
  rintro e w' ⟨rfl, rfl⟩
  have hG := grownCap_ge w (0 + n) 0 28
  have hG2 := grownCap_le_maxLen w (0 + n) 0 28 (by unfold maxLen; omega)
  generalize grownCap w (0 + n) 0 28 = G at hG hG2 ⊢
  have hcz : (([] : List Value).toArray ++ Builtin.zeroCells z.cells (0 + n - 0) ++ Builtin.zeroCells z.cells (G - (0 + n))).size = G * 4 := by
    simp only [Array.size_append, size_zeroCells, hzs, List.size_toArray, List.length_nil]
    omega
  generalize (([] : List Value).toArray ++ Builtin.zeroCells z.cells (0 + n - 0) ++ Builtin.zeroCells z.cells (G - (0 + n))) = cs at hcz ⊢
  obtain ⟨g', q1, q2, q3, q4⟩ := hH.newTok0 28 4 G cs hcz hG2
  refine ⟨_, _, g', _, rfl, ⟨rfl, rfl⟩, ?_, ?_, q4⟩
  · have := q3.of
    simpa [Hp.all, Hp.of] using this
  · simp only [VRel]
    refine ⟨_, _, rfl, Nat.zero_le _, .inl trivial, fun t ht => ?_⟩
    cases ht
    have hgn : g.n = H.length + 0 := by rw [hH.n]; rfl
    rw [← hgn]
    refine ⟨q1, Nat.zero_le _, fun _ => ?_⟩
    rw [q2]
    exact ⟨rfl, rfl, rfl⟩
theorem cells_len (l : List Fm) : (l.flatMap Fm.cells).length = l.length * 4 := by
  induction l with
  | nil => rfl
  | cons f l ih => simp only [List.flatMap_cons, List.length_append, ih, List.length_cons]; simp [Fm.cells]; omega
theorem cells_one (l : List Fm) : allOne (l.flatMap Fm.cells) = true := by
  induction l with
  | nil => rfl
  | cons f l ih => exact ih
theorem cells_below (n : Nat) (l : List Fm) : belowL n (l.flatMap Fm.cells) := belowL_flat _ fun x => by simp [Fm.cells, belowL, below, Fm.sc_below]
theorem concat_c (l m : List Fm) (h0 : 0 < l.length + m.length) (hn : l.length + m.length ≤ 1000) (H : Heap) : VDet Tryd.prog 38 [.sl none 2 [.sl none l.length (l.flatMap Fm.cells), .sl none m.length (m.flatMap Fm.cells)]] H (.sl none (l.length + m.length) ((l ++ m).flatMap Fm.cells)) := by
  rw [List.flatMap_append]
  have l1 := cells_len l
  have l2 := cells_len m
  have o1 := cells_one l
  have o2 := cells_one m
  have b1 := cells_below H.length l
  have b2 := cells_below H.length m
  generalize l.flatMap Fm.cells = cl at *
  generalize m.flatMap Fm.cells = cm at *
  have hg := grow_c (0 + l.length + m.length) (by omega) (by omega)
  refine fn_det Tryd.E0 Tryd.mx Tryd.func38 (by kernel_rfl) rfl (Nat.le_of_ble_eq_true rfl) rfl fun hcl hbl => ?_
  (repeat' ((conv => whnf); (first | refine DrawN.mk' [] ?_ | fail))); all_goals (conv => whnf)
  refine LoopN.rounds Tryd.E0 Tryd.mx 3 rfl ?_
  (repeat' ((conv => whnf); (first | (refine IfN.id ?_; first | refine IfN.tt rfl ?_ | refine IfN.ff rfl ?_ | fail) | (refine EqN.id ?_; first | (refine EqN.addN _ _ (by first | with_reducible rfl | with_reducible exact cst1 | with_reducible exact cst0 | with_reducible exact cst2 | with_reducible exact cst3 | with_reducible exact cst4 | with_reducible exact cst5 | with_reducible exact cst6 | with_reducible exact cst7 | with_reducible exact cst8 | with_reducible exact cst14 | with_reducible exact cst15 | with_reducible exact cst25 | with_reducible exact cst30 | with_reducible exact cst31 | fail) (by first | with_reducible rfl | with_reducible exact cst1 | with_reducible exact cst0 | with_reducible exact cst2 | with_reducible exact cst3 | with_reducible exact cst4 | with_reducible exact cst5 | with_reducible exact cst6 | with_reducible exact cst7 | with_reducible exact cst8 | with_reducible exact cst14 | with_reducible exact cst15 | with_reducible exact cst25 | with_reducible exact cst30 | with_reducible exact cst31 | fail) ?_ ?_; · (repeat' (first | omega | refine And.intro ?_ ?_ | exact bnd_andl (by omega) | exact bnd_andr (by omega) | refine bnd_or ?_ ?_ | refine bnd_or31 ?_ ?_ | refine bnd_xor ?_ ?_ | refine bnd_xor31 ?_ ?_ | refine bnd_shr ?_ | refine bnd_shl ?_ ?_ | refine bnd_mod ?_ | refine bnd_andl ?_ | fail))) | fail) | (refine SideN.mk ?_ ?_; · first | kernel_rfl | omega | exact List.cons_ne_nil _ _ | (simp; done) | (simp; omega) | exact trivial | assumption | fail) | refine CallN.grow _ _ _ 1 (hg _) rfl rfl rfl ?_ | refine SegN.mk _ (seg_rfl rfl) ?_ | refine DrawN.mk' [] ?_ | fail))); all_goals (conv => whnf)
  rw [show (H ++ ([] : Heap)) = H from List.append_nil H]
  refine LoopN.rounds Tryd.E0 Tryd.mx 3 rfl ?_
  have hA1 : AppT ([] : List AV).length 0 l.length 4 72 [] cl := ⟨rfl, o1, l1, by omega, by unfold maxLen; omega⟩
  have hA2 : AppT ([] ++ cl : List AV).length (0 + l.length) m.length 4 72 ([] ++ cl) cm := ⟨rfl, o2, l2, by omega, by unfold maxLen; omega⟩
  (repeat' ((conv => whnf); (first | (refine IfN.id ?_; first | refine IfN.tt rfl ?_ | refine IfN.ff rfl ?_ | fail) | (refine EqN.id ?_; first | (refine EqN.addN _ _ (by first | with_reducible rfl | with_reducible exact cst1 | with_reducible exact cst0 | with_reducible exact cst2 | with_reducible exact cst3 | with_reducible exact cst4 | with_reducible exact cst5 | with_reducible exact cst6 | with_reducible exact cst7 | with_reducible exact cst8 | with_reducible exact cst14 | with_reducible exact cst15 | with_reducible exact cst25 | with_reducible exact cst30 | with_reducible exact cst31 | fail) (by first | with_reducible rfl | with_reducible exact cst1 | with_reducible exact cst0 | with_reducible exact cst2 | with_reducible exact cst3 | with_reducible exact cst4 | with_reducible exact cst5 | with_reducible exact cst6 | with_reducible exact cst7 | with_reducible exact cst8 | with_reducible exact cst14 | with_reducible exact cst15 | with_reducible exact cst25 | with_reducible exact cst30 | with_reducible exact cst31 | fail) ?_ ?_; · (repeat' (first | omega | refine And.intro ?_ ?_ | exact bnd_andl (by omega) | exact bnd_andr (by omega) | refine bnd_or ?_ ?_ | refine bnd_or31 ?_ ?_ | refine bnd_xor ?_ ?_ | refine bnd_xor31 ?_ ?_ | refine bnd_shr ?_ | refine bnd_shl ?_ ?_ | refine bnd_mod ?_ | refine bnd_andl ?_ | fail))) | fail) | (refine SideN.mk ?_ ?_; · first | kernel_rfl | omega | exact List.cons_ne_nil _ _ | (simp; done) | (simp; omega) | exact trivial | assumption | fail) | (refine PtrN.id ?_; first | refine PtrN.loc _ rfl ?_ | fail) | refine SegN.mk _ (seg_rfl rfl) ?_ | refine DrawN.mk' [] ?_ | fail))); all_goals (conv => whnf)
  refine EndN.detF (u' := .sl none (0 + l.length + m.length) ([] ++ cl ++ cm)) ⟨fun _ e => (nomatch e), (belowL_append _ _).2 ⟨b1, b2⟩⟩ (Frz.sl (FrzL.refl _)) (Wk.of_eq (by simp))
theorem grow0_c (H : Heap) : VDet Tryd.prog 49 [.nils, .int .i64 (0 + (0 : Nat) + (0 : Nat) : Nat)] H .nils := by
  unfold VDet VPure VCall
  refine ⟨⟨_, Tryd.func49, by kernel_rfl, rfl⟩, fun g w xs hH hL => ?_⟩
  obtain ⟨c, r, has, hc, d, r', rfl, hd, rfl⟩ := hL
  simp only [VRel] at hc hd
  subst hc hd
  have has : xs = #[.slice none 0 0, .int .i64 0] := by simpa using congrArg List.toArray has
  subst has
  have hcall := Any8.slices_Grow_room Tryd.grow49 none 0 0 0 w (Nat.le_refl _) (by omega) (by omega) (by omega)
  change Calls Tryd.prog 49 _ _ _ at hcall
  refine hcall.mono ?_
  rintro e w' ⟨rfl, rfl⟩
  exact ⟨_, _, g, _, rfl, ⟨rfl, rfl⟩, hH, by simp [VRel], Ext.refl g _⟩
theorem concat0_c (H : Heap) : VDet Tryd.prog 38 [.sl none 2 [.sl none 0 [], .sl none 0 []]] H (.sl none 0 []) := by
  have hg := grow0_c
  refine fn_det Tryd.E0 Tryd.mx Tryd.func38 (by kernel_rfl) rfl (Nat.le_of_ble_eq_true rfl) rfl fun hcl hbl => ?_
  (repeat' ((conv => whnf); (first | refine DrawN.mk' [] ?_ | fail))); all_goals (conv => whnf)
  refine LoopN.rounds Tryd.E0 Tryd.mx 3 rfl ?_
  (repeat' ((conv => whnf); (first | (refine IfN.id ?_; first | refine IfN.tt rfl ?_ | refine IfN.ff rfl ?_ | fail) | (refine EqN.id ?_; first | (refine EqN.addN _ _ (by first | with_reducible rfl | with_reducible exact cst1 | with_reducible exact cst0 | with_reducible exact cst2 | with_reducible exact cst3 | with_reducible exact cst4 | with_reducible exact cst5 | with_reducible exact cst6 | with_reducible exact cst7 | with_reducible exact cst8 | with_reducible exact cst14 | with_reducible exact cst15 | with_reducible exact cst25 | with_reducible exact cst30 | with_reducible exact cst31 | fail) (by first | with_reducible rfl | with_reducible exact cst1 | with_reducible exact cst0 | with_reducible exact cst2 | with_reducible exact cst3 | with_reducible exact cst4 | with_reducible exact cst5 | with_reducible exact cst6 | with_reducible exact cst7 | with_reducible exact cst8 | with_reducible exact cst14 | with_reducible exact cst15 | with_reducible exact cst25 | with_reducible exact cst30 | with_reducible exact cst31 | fail) ?_ ?_; · (repeat' (first | omega | refine And.intro ?_ ?_ | exact bnd_andl (by omega) | exact bnd_andr (by omega) | refine bnd_or ?_ ?_ | refine bnd_or31 ?_ ?_ | refine bnd_xor ?_ ?_ | refine bnd_xor31 ?_ ?_ | refine bnd_shr ?_ | refine bnd_shl ?_ ?_ | refine bnd_mod ?_ | refine bnd_andl ?_ | fail))) | fail) | (refine SideN.mk ?_ ?_; · first | kernel_rfl | omega | exact List.cons_ne_nil _ _ | (simp; done) | (simp; omega) | exact trivial | assumption | fail) | (refine CallN.id ?_; first | refine CallN.det _ (hg _) ?_ | fail) | refine SegN.mk _ (seg_rfl rfl) ?_ | refine DrawN.mk' [] ?_ | fail))); all_goals (conv => whnf)
  refine LoopN.rounds Tryd.E0 Tryd.mx 3 rfl ?_
  (repeat' ((conv => whnf); (first | (refine IfN.id ?_; first | refine IfN.tt rfl ?_ | refine IfN.ff rfl ?_ | fail) | (refine EqN.id ?_; first | (refine EqN.addN _ _ (by first | with_reducible rfl | with_reducible exact cst1 | with_reducible exact cst0 | with_reducible exact cst2 | with_reducible exact cst3 | with_reducible exact cst4 | with_reducible exact cst5 | with_reducible exact cst6 | with_reducible exact cst7 | with_reducible exact cst8 | with_reducible exact cst14 | with_reducible exact cst15 | with_reducible exact cst25 | with_reducible exact cst30 | with_reducible exact cst31 | fail) (by first | with_reducible rfl | with_reducible exact cst1 | with_reducible exact cst0 | with_reducible exact cst2 | with_reducible exact cst3 | with_reducible exact cst4 | with_reducible exact cst5 | with_reducible exact cst6 | with_reducible exact cst7 | with_reducible exact cst8 | with_reducible exact cst14 | with_reducible exact cst15 | with_reducible exact cst25 | with_reducible exact cst30 | with_reducible exact cst31 | fail) ?_ ?_; · (repeat' (first | omega | refine And.intro ?_ ?_ | exact bnd_andl (by omega) | exact bnd_andr (by omega) | refine bnd_or ?_ ?_ | refine bnd_or31 ?_ ?_ | refine bnd_xor ?_ ?_ | refine bnd_xor31 ?_ ?_ | refine bnd_shr ?_ | refine bnd_shl ?_ ?_ | refine bnd_mod ?_ | refine bnd_andl ?_ | fail))) | fail) | (refine SideN.mk ?_ ?_; · first | kernel_rfl | omega | exact List.cons_ne_nil _ _ | (simp; done) | (simp; omega) | exact trivial | assumption | fail) | refine OrN.r (OrN.l (SideN.mk rfl ?_)) | refine SegN.mk _ (seg_rfl rfl) ?_ | refine DrawN.mk' [] ?_ | fail))); all_goals (conv => whnf)
  exact EndN.det ⟨fun _ e => (nomatch e), trivial⟩ wk_nils
end Go.Proofs.YtekhodpmpjehaaaDoor
/-! text RF10 -/
namespace Go.Proofs.YtekhodpmpjehaaaDoor
open Go.Vsi
set_option maxHeartbeats 1000000

/-! ### the names of formulas, in plain words -/
def Fm.has (c : UInt8) : Fm → Prop
  | .at d => c = d
  | .fa => False
  | .f1 _ a => a.has c
  | .f2 _ a b => a.has c ∨ b.has c
theorem mem_insK (ks : List UInt8) (c d : UInt8) : c ∈ insK ks d ↔ c ∈ ks ∨ c = d := by
  unfold insK
  split
  · exact ⟨.inl, fun h => h.elim id fun e => e ▸ by assumption⟩
  · simp
theorem mem_addA (c : UInt8) : ∀ (f : Fm) (ks : List UInt8), c ∈ addA ks f ↔ c ∈ ks ∨ f.has c
  | .at d, ks => mem_insK ks c d
  | .fa, ks => by simp [addA, Fm.has]
  | .f1 _ a, ks => mem_addA c a ks
  | .f2 _ a b, ks => by simp only [addA, Fm.has, mem_addA c b, mem_addA c a, or_assoc]
theorem mem_addL (c : UInt8) : ∀ (l : List Fm) (ks : List UInt8), c ∈ addL ks l ↔ c ∈ ks ∨ ∃ f ∈ l, f.has c
  | [], ks => by simp [addL]
  | f :: l, ks => by simp only [addL, mem_addL c l, mem_addA c f, List.mem_cons, exists_eq_or_imp, or_assoc]
theorem in_iff (l : List UInt8) : ∀ f : Fm, f.In l ↔ ∀ c, f.has c → c ∈ l
  | .at d => ⟨fun h c e => e ▸ h, fun h => h d rfl⟩
  | .fa => ⟨fun _ _ e => e.elim, fun _ => trivial⟩
  | .f1 _ a => in_iff l a
  | .f2 _ a b => by
    simp only [Fm.In, Fm.has, in_iff l a, in_iff l b]
    exact ⟨fun h c e => e.elim (h.1 c) (h.2 c), fun h => ⟨fun c e => h c (.inl e), fun c e => h c (.inr e)⟩⟩
theorem has_cap (c : UInt8) : ∀ f : Fm, f.Ok → f.has c → cap c
  | .at d, h, e => e ▸ h
  | .fa, _, e => e.elim
  | .f1 _ a, h, e => has_cap c a h.2 e
  | .f2 _ a b, h, e => e.elim (has_cap c a h.2.1) (has_cap c b h.2.2)
theorem sortU_perm (ks : List UInt8) : (sortU ks).Perm ks := List.mergeSort_perm _ _
theorem mem_namesL (c : UInt8) (l : List Fm) : c ∈ namesL l ↔ ∃ f ∈ l, f.has c := by
  unfold namesL
  rw [(sortU_perm _).mem_iff, mem_addL]
  simp
theorem sortU_lt {ks : List UInt8} (h : ks.Nodup) : (sortU ks).Pairwise (· < ·) := by
  have h1 : (sortU ks).Pairwise (fun a b => decide (a ≤ b) = true) := List.pairwise_mergeSort (fun a b c h1 h2 => by
    simp only [decide_eq_true_eq] at *
    exact UInt8.le_trans h1 h2) (fun a b => by simpa using UInt8.le_total a b) ks
  have h2 : (sortU ks).Nodup := (sortU_perm ks).nodup_iff.2 h
  refine (h1.and h2).imp ?_
  rintro a b ⟨h3, h4⟩
  simp only [decide_eq_true_eq] at h3
  exact UInt8.lt_of_le_of_ne h3 h4
theorem nmok_of {l : List UInt8} (h1 : l.Pairwise (· < ·)) (h2 : ∀ c ∈ l, cap c) : NmOk l := by
  have hlt : ∀ i j, i < j → j < l.length → (l.getD i 0).toNat < (l.getD j 0).toNat := fun i j hij hj => by
    have := List.pairwise_iff_getElem.1 h1 i j (by omega) hj hij
    simp only [List.getD_eq_getElem?_getD, List.getElem?_eq_getElem hj, List.getElem?_eq_getElem (show i < l.length by omega), Option.getD_some]
    exact UInt8.lt_iff_toNat_lt.1 this
  have hc : ∀ i, i < l.length → cap (l.getD i 0) := fun i hi => h2 _ (getD_mem (d := (0 : UInt8)) l i hi)
  refine ⟨?_, hc, fun i h0 hi => hlt (i - 1) i (by omega) hi⟩
  have hge : ∀ i, i < l.length → 130 + i ≤ (l.getD i 0).toNat := by
    intro i
    induction i with
    | zero => exact fun h => (hc 0 h).1
    | succ i ih =>
      intro h
      have := ih (by omega)
      have := hlt i (i + 1) (by omega) h
      omega
  rcases Nat.eq_zero_or_pos l.length with h0 | h0
  · omega
  · have := hge (l.length - 1) (by omega)
    have := (hc (l.length - 1) (by omega)).2
    omega
theorem namesL_ok (l : List Fm) (h : ∀ f ∈ l, f.Ok) : NmOk (namesL l) :=
  nmok_of (sortU_lt (addL_nodup l List.nodup_nil)) fun c hc => by
    obtain ⟨f, hf, e⟩ := (mem_namesL c l).1 hc
    exact has_cap c f (h f hf) e
theorem namesL_in (l : List Fm) (f : Fm) (hf : f ∈ l) : f.In (namesL l) := (in_iff _ f).2 fun c e => (mem_namesL c l).2 ⟨f, hf, e⟩
attribute [local irreducible] VW VCall VO bits

/-! ### tables for formulas -/
theorem own_c (l : List Fm) (hg : ∀ f ∈ l, f.Good) (hn : nodesL l ≤ 1000) (hlen : l.length ≤ 1000) (h12 : (namesL l).length ≤ 12) (H : Heap) : VDet Tryd.prog 28 [.sl none l.length (l.flatMap Fm.cells)] H (.tup [tblV (namesL l), .int .i64 0]) := by
  have h1 := allRight_c l hg hlen
  have h2 := atoms_c l (fun f hf => (hg f hf).pr) hn hlen
  have h3 := newTable_c (namesL l) (namesL_ok l fun f hf => (hg f hf).ok)
  have hb := tblV_below (namesL l)
  have hc := cells_below H.length l
  have hsb := encS_below H.length (namesL l)
  generalize tblV (namesL l) = t at *
  generalize namesL l = ns at *
  generalize l.flatMap Fm.cells = cl at *
  refine fn_det Tryd.E0 Tryd.mx Tryd.func28 (by kernel_rfl) rfl (Nat.le_of_ble_eq_true rfl) rfl fun hcl hbl => ?_
  (repeat' ((conv => whnf); (first | (refine IfN.id ?_; first | refine IfN.not ?_ | refine IfN.tt rfl ?_ | refine IfN.dF (by omega) ?_ | fail) | (refine CallN.id ?_; first | refine CallN.det _ (h1 _) ?_ | refine CallN.det _ (h2 _) ?_ | refine CallN.det _ (h3 _) ?_ | fail) | refine DrawN.mk' [] ?_ | fail))); all_goals (conv => whnf)
  exact EndN.det ⟨hb _, trivial, trivial⟩ (Wk.refl _)
theorem named_c (f : Fm) (hf : f.Good) (l : List UInt8) (hl : NmOk l) (h12 : l.length ≤ 12) (hin : f.In l) (v : Nat) (hv : v < 2 ^ l.length) (H : Heap) : VDet Tryd.prog 37 [.agg f.cells, .sl none l.length (l.flatMap encS), .int .i64 v] H (.tup [tblV l, .int .i64 0]) := by
  have h1 := right_c f hf.ok hf.small hf.pr
  have h2 := isNames_c l hl
  have h3 := atoms_c [f] (fun g hg => by rw [List.mem_singleton.1 hg]; exact hf.pr) (by have := hf.small.1; simp only [nodesL]; omega) (by simp)
  have h4 := newTable_c l hl
  have hcon : ∀ c ∈ namesL [f], ∀ H, VDet Tryd.prog 48 [.sl none l.length (l.flatMap encS), .str (nm c)] H (.bool true) := fun c hc H => by
    have hcl : c ∈ l := by
      obtain ⟨g, hg, e⟩ := (mem_namesL c [f]).1 hc
      rw [List.mem_singleton.1 hg] at e
      exact (in_iff l f).1 hin c e
    have := contains_c l c (by omega) H
    rw [decide_eq_true hcl] at this
    exact this
  have hok : NmOk (namesL [f]) := namesL_ok [f] fun g hg => by rw [List.mem_singleton.1 hg]; exact hf.ok
  have hb := tblV_below l
  have hfb : ∀ n, belowL n f.cells := fun n => by simp [Fm.cells, below, belowL, Fm.sc_below]
  rw [show [f].flatMap Fm.cells = f.cells by simp] at h3
  have hfc : f.cells = [.int .u8 f.op, .str f.nmB, .sl none 0 [], .sl none f.sn f.sc] := rfl
  generalize namesL [f] = ns at *
  generalize tblV l = t at *
  rw [hfc] at h1 h3 ⊢
  have hns := hok.len
  have h3 : ∀ H, VDet Tryd.prog 18 [.sx 1 [.int .u8 f.op, .str f.nmB, .sl none 0 [], .sl none f.sn f.sc]] H (.sl none ns.length (ns.flatMap encS)) := fun H => VDet.wk (h3 H) ⟨wk_sx _ _, trivial⟩
  have h2l := two_le l h12
  generalize f.op = fo at *
  generalize f.nmB = fn at *
  generalize f.sn = fsn at *
  generalize f.sc = fsc at *
  refine fn_det Tryd.E0 Tryd.mx Tryd.func37 (by kernel_rfl) rfl (Nat.le_of_ble_eq_true rfl) rfl fun hcl hbl => ?_
  (repeat' ((conv => whnf); (first | (refine IfN.id ?_; first | refine IfN.not ?_ | refine IfN.tt rfl ?_ | refine IfN.ff rfl ?_ | refine IfN.dF (by omega) ?_ | fail) | (refine EqN.id ?_; first | refine EqN.two _ (by omega) ?_ | fail) | (refine SideN.mk ?_ ?_; · first | kernel_rfl | omega | exact List.cons_ne_nil _ _ | (simp; done) | (simp; omega) | exact trivial | assumption | fail) | (refine CallN.id ?_; first | refine CallN.det _ (h1 _) ?_ | refine CallN.det _ (h2 _) ?_ | refine CallN.det _ (h3 _) ?_ | fail) | refine DrawN.mk' [] ?_ | fail))); all_goals (conv => whnf)
  refine loop_R Tryd.E0 Tryd.mx (σ := Nat) (fun j => j ≤ ns.length) (fun j => ns.length - j) (fun j => [(36, .v (.int .i64 j))]) (fun j => _) _ 0 rfl hcl [1, 34, 35] rfl (Nat.zero_le _) ⟨⟨_, rfl, Wk.refl _⟩, trivial⟩ rfl (fun _ _ => rfl) ?_
  intro j hj
  clear hbl
  have hcj : ∀ (H : Heap), j < ns.length → VDet Tryd.prog 48 [.sl none l.length (l.flatMap encS), .str (nm (ns.getD j 0))] H (.bool true) := fun H hjl => hcon _ (getD_mem (d := (0 : UInt8)) ns j hjl) H
  (repeat' ((conv => whnf); (first | (refine IfN.id ?_; first | refine IfN.not ?_ | refine IfN.tt rfl ?_ | refine IfN.dec (fun _ => ?_) (fun _ => ?_) | fail) | (refine EqN.id ?_; first | (refine EqN.addN _ _ (by first | with_reducible rfl | with_reducible exact cst1 | with_reducible exact cst0 | with_reducible exact cst2 | with_reducible exact cst3 | with_reducible exact cst4 | with_reducible exact cst5 | with_reducible exact cst6 | with_reducible exact cst7 | with_reducible exact cst8 | with_reducible exact cst14 | with_reducible exact cst15 | with_reducible exact cst25 | with_reducible exact cst30 | with_reducible exact cst31 | fail) (by first | with_reducible rfl | with_reducible exact cst1 | with_reducible exact cst0 | with_reducible exact cst2 | with_reducible exact cst3 | with_reducible exact cst4 | with_reducible exact cst5 | with_reducible exact cst6 | with_reducible exact cst7 | with_reducible exact cst8 | with_reducible exact cst14 | with_reducible exact cst15 | with_reducible exact cst25 | with_reducible exact cst30 | with_reducible exact cst31 | fail) ?_ ?_; · (repeat' (first | omega | refine And.intro ?_ ?_ | exact bnd_andl (by omega) | exact bnd_andr (by omega) | refine bnd_or ?_ ?_ | refine bnd_or31 ?_ ?_ | refine bnd_xor ?_ ?_ | refine bnd_xor31 ?_ ?_ | refine bnd_shr ?_ | refine bnd_shl ?_ ?_ | refine bnd_mod ?_ | refine bnd_andl ?_ | fail))) | fail) | (refine SideN.mk ?_ ?_; · first | kernel_rfl | omega | exact List.cons_ne_nil _ _ | (simp; done) | (simp; omega) | exact trivial | assumption | fail) | (refine CallN.id ?_; first | refine CallN.det _ (h4 _) ?_ | refine CallN.det _ (hcj _ (by omega)) ?_ | fail) | refine SegN.nth 0 j rfl (by omega) (fun _ => rfl) ?_ | refine DrawN.mk' [] ?_ | fail))); all_goals (conv => whnf)
  · (refine ⟨⟨j + 1, by omega, by omega, ?_, .inl ⟨rfl, rfl⟩, rfl, _, rfl, ?_⟩⟩; rotate_left 1; (first | exact .inl rfl | exact .inr ⟨by simp [belowRE, below, belowL, tr, mpB_belowK, mpB_belowV, encS_below, ixV_below], by simp [belowH, Blk.below, belowL, below, mpB_belowK, mpB_belowV, encS_below, ixV_below]⟩ | fail); (repeat' (first | exact trivial | refine ⟨⟨_, rfl, ?_⟩, ?_⟩ | fail)); all_goals try (first | exact Wk.refl _ | exact Wk.of_eq (congrArg (AV.int _) (by omega)) | fail))
  · exact EndN.det ⟨hb _, trivial, trivial⟩ (Wk.refl _)
end Go.Proofs.YtekhodpmpjehaaaDoor
/-! text RG10 -/
namespace Go.Proofs.YtekhodpmpjehaaaDoor
open Go.Vsi
set_option maxHeartbeats 1000000

/-! ### one bit of a block -/
theorem bit_one (g : Nat → Bool) (k : Nat) (hk : k < 64) : (bits .and .u64 ((mkBits 64 g >>> k : Nat) : Int) 1 == 1) = g k := by
  have h1 : (1 : Int) = ((mkBits 64 fun i => i == 0 : Nat) : Int) := by decide
  have hlt : mkBits 64 g >>> k < 2 ^ 64 := Nat.lt_of_le_of_lt (Nat.shiftRight_le _ _) (mk_lt 64 g)
  have h2 : mkBits 64 g >>> k = mkBits 64 fun i => (mkBits 64 g >>> k).testBit i := eq_mk hlt fun _ _ => rfl
  have h3 : bits .and .u64 ((mkBits 64 g >>> k : Nat) : Int) 1 = ((mkBits 64 fun i => g k && i == 0 : Nat) : Int) := by
    have := bits_and (fun i => (mkBits 64 g >>> k).testBit i) (fun i => i == 0)
    rw [← h2, ← h1] at this
    rw [this]
    refine congrArg _ (mk_congr fun i _ => ?_)
    cases i with
    | zero => rw [Nat.testBit_shiftRight, Nat.add_zero, testBit_mk]; simp [hk]
    | succ i => simp
  rw [h3]
  cases g k <;> decide
theorem fdiv_shr (m k : Nat) (hk : k ≤ 63) : ((m : Nat) : Int).fdiv (2 ^ min ((k : Nat) : Int).toNat IntKind.u64.bits) = ((m >>> k : Nat) : Int) := by
  rw [Int.toNat_natCast, Nat.min_eq_left (by show k ≤ 64; omega), Nat.shiftRight_eq_div_pow]
  rw [Int.fdiv_eq_ediv_of_nonneg _ (Int.pow_nonneg (by omega))]
  simp
attribute [local irreducible] VW VCall VO bits

/-- truth.Eval -/
theorem eval_c (f : Fm) (hf : f.Good) (l : List UInt8) (hl : NmOk l) (h12 : l.length ≤ 12) (hin : f.In l) (v : Nat) (hv : v < 2 ^ l.length) (H : Heap) : VDet Tryd.prog 21 [.agg f.cells, .sl none l.length (l.flatMap encS), .int .i64 v] H (.tup [.bool (f.ev (vb l v)), .int .i64 0]) := by
  have h1 := named_c f hf l hl h12 hin v hv
  have h2l := two_le l h12
  have h2 := block_c l hl (v / 64) (by omega) f hf.pr hin
  have hres : f.ev (vb l v) = (fun i => f.ev (vb l (64 * (v / 64) + i))) (v % 64) := by
    show _ = f.ev (vb l (64 * (v / 64) + v % 64))
    rw [Nat.div_add_mod]
  rw [hres]
  have h2 : ∀ H, VDet Tryd.prog 31 [tblV l, .agg f.cells, .int .i64 ((v : Int) / 64)] H (blkV l (v / 64) f) := h2
  unfold blkV U at h2
  generalize (fun i => f.ev (vb l (64 * (v / 64) + i))) = g at *
  have hbit := bit_one g (v % 64) (Nat.mod_lt _ (by omega))
  have hfc : f.cells = [.int .u8 f.op, .str f.nmB, .sl none 0 [], .sl none f.sn f.sc] := rfl
  generalize mkBits 64 g = gg at *
  generalize tblV l = t at *
  rw [hfc] at h1 h2 ⊢
  generalize f.op = fo at *
  generalize f.nmB = fn at *
  generalize f.sn = fsn at *
  generalize f.sc = fsc at *
  refine fn_det Tryd.E0 Tryd.mx Tryd.func21 (by kernel_rfl) rfl (Nat.le_of_ble_eq_true rfl) rfl fun hcl hbl => ?_
  (repeat' ((conv => whnf); (first | (refine IfN.id ?_; first | refine IfN.not ?_ | refine IfN.tt rfl ?_ | fail) | (refine EqN.id ?_; first | refine EqN.quo (by omega) ?_ | refine EqN.rem (by omega) ?_ | refine EqN.mk _ rfl ?_ | fail) | (refine SideN.mk ?_ ?_; · first | kernel_rfl | omega | exact List.cons_ne_nil _ _ | (simp; done) | (simp; omega) | exact trivial | assumption | fail) | (refine CallN.id ?_; first | refine CallN.det _ (h1 _) ?_ | refine CallN.det _ (h2 _) ?_ | fail) | refine DrawN.mk' [] ?_ | fail))); all_goals (conv => whnf)
  refine EndN.det ⟨trivial, trivial, trivial⟩ (Wk.of_eq ?_)
  rw [← hbit, ← fdiv_shr gg (v % 64) (by omega)]
  rfl
end Go.Proofs.YtekhodpmpjehaaaDoor
/-! text RH10 -/
namespace Go.Proofs.YtekhodpmpjehaaaDoor
open Go.Vsi
set_option maxHeartbeats 1000000
attribute [local irreducible] VW VCall VO bits

/-! ### truth.Table -/
def tabB (h : Nat → Bool) (S i : Nat) : List AV := (List.range S).map fun v => .bool (decide (v < i) && h v)
theorem tabB_below (n : Nat) (h : Nat → Bool) (S i : Nat) : belowL n (tabB h S i) := by
  unfold tabB
  induction List.range S with
  | nil => trivial
  | cons x l ih => exact ⟨trivial, ih⟩
theorem setC_one (v : AV) : ∀ (l : List AV) (o : Nat), o < l.length → setC l o [v] = some (l.set o v)
  | [], o, h => absurd h (by simp)
  | x :: l, 0, _ => by simp [setC, replC]
  | x :: l, o + 1, h => by
    simp only [setC, setC_one v l o (by simpa using h), List.set_cons_succ]
theorem set_tab (h : Nat → Bool) (S i : Nat) (hi : i < S) : setC (tabB h S i) i [.bool (h i)] = some (tabB h S (i + 1)) := by
  rw [setC_one _ _ _ (by unfold tabB; simpa using hi)]
  congr 1
  unfold tabB
  apply List.ext_getElem?
  intro j
  rw [List.getElem?_set]
  split
  · rename_i e
    subst e
    simp [hi]
  · rename_i e
    by_cases hj : j < S
    · rw [List.getElem?_map, List.getElem?_map, List.getElem?_range hj]
      simp only [Option.map_some, Option.some.injEq, AV.bool.injEq]
      have : decide (j < i) = decide (j < i + 1) := by
        rw [decide_eq_decide]
        omega
      rw [this]
    · rw [List.getElem?_eq_none (by simpa using hj), List.getElem?_eq_none (by simpa using hj)]
theorem repC_one (v : AV) : ∀ n, repC n [v] = List.replicate n v
  | 0 => rfl
  | n + 1 => by
    simp only [repC, repC_one v n, List.replicate_succ]
    rfl
theorem rep_tab (h : Nat → Bool) (S : Nat) : repC S [.bool false] = tabB h S 0 := by
  unfold tabB
  apply List.ext_getElem?
  intro j
  rw [repC_one]
  by_cases hj : j < S
  · rw [List.getElem?_replicate, if_pos hj, List.getElem?_map, List.getElem?_range hj]
    simp
  · rw [List.getElem?_eq_none (by simpa using hj), List.getElem?_eq_none (by simpa using hj)]
theorem table_c (f : Fm) (hf : f.Good) (l : List UInt8) (hl : NmOk l) (h12 : l.length ≤ 12) (hin : f.In l) (H : Heap) : VDet Tryd.prog 19 [.agg f.cells, .sl none l.length (l.flatMap encS)] H (.tup [.sl none (2 ^ l.length) ((List.range (2 ^ l.length)).map fun v => .bool (f.ev (vb l v))), .int .i64 0]) := by
  have h2l := two_le l h12
  have h1 := named_c f hf l hl h12 hin 0 (by omega)
  have h2 := fun n (hn : n ≤ 1000000) => block_c l hl n hn f hf.pr hin
  have hs := size_c l h12
  have hbk := blocks_c l h12
  have hres : (List.range (2 ^ l.length)).map (fun v => AV.bool (f.ev (vb l v))) = tabB (fun v => f.ev (vb l v)) (2 ^ l.length) (2 ^ l.length) := by
    unfold tabB
    exact List.map_congr_left fun v hv => by simp [List.mem_range.1 hv]
  rw [hres]
  unfold blkV U at h2
  generalize hh : (fun v => f.ev (vb l v)) = h at *
  have h2 : ∀ n : Nat, n ≤ 1000000 → ∀ H, VDet Tryd.prog 31 [tblV l, .agg f.cells, .int .i64 n] H (.int .u64 (mkBits 64 fun i => h (64 * n + i) : Nat)) := fun n hn H => by
    subst hh
    exact h2 n hn H
  clear hres hh
  have hfc : f.cells = [.int .u8 f.op, .str f.nmB, .sl none 0 [], .sl none f.sn f.sc] := rfl
  have hfb := fun n => f.sc_below n
  generalize hS : 2 ^ l.length = S at *
  have htb := tblV_below l
  generalize tblV l = t at *
  rw [hfc] at h1 h2 ⊢
  generalize f.op = fo at *
  generalize f.nmB = fn at *
  generalize f.sn = fsn at *
  generalize f.sc = fsc at *
  refine fn_det Tryd.E0 Tryd.mx Tryd.func19 (by kernel_rfl) rfl (Nat.le_of_ble_eq_true rfl) rfl fun hcl hbl => ?_
  (repeat' ((conv => whnf); (first | (refine IfN.id ?_; first | refine IfN.not ?_ | refine IfN.tt rfl ?_ | fail) | (refine SideN.mk ?_ ?_; · first | kernel_rfl | omega | exact List.cons_ne_nil _ _ | (simp; done) | (simp; omega) | exact trivial | assumption | fail) | refine NatN.mk _ rfl ?_ | (refine CallN.id ?_; first | refine CallN.det _ (h1 _) ?_ | refine CallN.det _ (hs _) ?_ | refine CallN.det _ (hbk _) ?_ | fail) | refine OrN.r ?_ | refine DrawN.mk' [] ?_ | fail))); all_goals (conv => whnf)
  refine loop_R Tryd.E0 Tryd.mx (σ := Nat) (fun n => n ≤ (S + 63) / 64) (fun n => (S + 63) / 64 - n) (fun n => [(26, .v (.int .i64 n))]) (fun n => [.box 28 [.int .u8 fo, .str fn, .sl none 0 [], .sl none fsn fsc], .box 4 (tabB h S (min (64 * n) S))]) _ 0 rfl hcl [2, 6, 8, 25] rfl (Nat.zero_le _) ⟨⟨_, rfl, Wk.refl _⟩, trivial⟩ (by rw [rep_tab h S, show min (64 * 0) S = 0 by omega]) (fun _ _ => rfl) ?_
  intro n hn
  clear hbl
  obtain ⟨gg, hgg, hbit⟩ : ∃ gg : Nat, (n < (S + 63) / 64 → ∀ H, VDet Tryd.prog 31 [t, .agg [.int .u8 fo, .str fn, .sl none 0 [], .sl none fsn fsc], .int .i64 n] H (.int .u64 (gg : Nat))) ∧ (∀ i : Nat, 64 * n ≤ i → i < 64 * n + 64 → (bits .and .u64 (((gg : Nat) : Int).fdiv (2 ^ min (((i % 64 : Nat) : Nat) : Int).toNat IntKind.u64.bits)) 1 == 1) = h i) :=
    ⟨mkBits 64 fun i => h (64 * n + i), fun hlt H => h2 n (by omega) H, fun i h3 h4 => by
      rw [fdiv_shr _ (i % 64) (by omega), bit_one _ (i % 64) (by omega)]
      congr 1
      omega⟩
  (repeat' ((conv => whnf); (first | (refine IfN.id ?_; first | refine IfN.dec (fun _ => ?_) (fun _ => ?_) | fail) | (refine EqN.id ?_; first | refine EqN.i64 (by omega) ?_ | fail) | (refine CallN.id ?_; first | refine CallN.det _ (hgg (by omega) _) ?_ | fail) | refine DrawN.mk' [] ?_ | fail))); all_goals (conv => whnf)
  · refine loop_R Tryd.E0 Tryd.mx (σ := Nat) (fun i => 64 * n ≤ i ∧ i ≤ 64 * n + 64 ∧ i ≤ S) (fun i => S - i) (fun i => [(11, .v (.int .i64 i))]) (fun i => [.box 28 [.int .u8 fo, .str fn, .sl none 0 [], .sl none fsn fsc], .box 4 (tabB h S i)]) _ (64 * n) rfl hcl [2, 6, 8, 9, 10, 25, 26] rfl ⟨by omega, by omega, by omega⟩ ⟨⟨_, rfl, Wk.refl _⟩, trivial⟩ (by rw [show min (64 * n) S = 64 * n by omega]) (fun _ _ => rfl) ?_
    rintro i ⟨hi1, hi2, hi3⟩
    (repeat' ((conv => whnf); (first | (refine IfN.id ?_; first | refine IfN.dec (fun _ => ?_) (fun _ => ?_) | fail) | (refine EqN.id ?_; first | (refine EqN.addN _ _ (by first | with_reducible rfl | with_reducible exact cst1 | with_reducible exact cst0 | with_reducible exact cst2 | with_reducible exact cst3 | with_reducible exact cst4 | with_reducible exact cst5 | with_reducible exact cst6 | with_reducible exact cst7 | with_reducible exact cst8 | with_reducible exact cst14 | with_reducible exact cst15 | with_reducible exact cst25 | with_reducible exact cst30 | with_reducible exact cst31 | fail) (by first | with_reducible rfl | with_reducible exact cst1 | with_reducible exact cst0 | with_reducible exact cst2 | with_reducible exact cst3 | with_reducible exact cst4 | with_reducible exact cst5 | with_reducible exact cst6 | with_reducible exact cst7 | with_reducible exact cst8 | with_reducible exact cst14 | with_reducible exact cst15 | with_reducible exact cst25 | with_reducible exact cst30 | with_reducible exact cst31 | fail) ?_ ?_; · (repeat' (first | omega | refine And.intro ?_ ?_ | exact bnd_andl (by omega) | exact bnd_andr (by omega) | refine bnd_or ?_ ?_ | refine bnd_or31 ?_ ?_ | refine bnd_xor ?_ ?_ | refine bnd_xor31 ?_ ?_ | refine bnd_shr ?_ | refine bnd_shl ?_ ?_ | refine bnd_mod ?_ | refine bnd_andl ?_ | fail))) | refine EqN.i64 (by omega) ?_ | refine EqN.rem (by omega) ?_ | refine EqN.mk _ rfl ?_ | fail) | (refine SideN.mk ?_ ?_; · first | kernel_rfl | omega | exact List.cons_ne_nil _ _ | (simp; done) | (simp; omega) | exact trivial | assumption | fail) | (refine PtrN.id ?_; first | refine PtrN.loc _ rfl ?_ | fail) | refine OfsN.at_ (by omega) ?_ | refine DrawN.mk' [] ?_ | fail))); all_goals (conv => whnf)
    · have hv := hbit i hi1 (by omega)
      have key : setC (tabB h S i) (0 + (i : Int).toNat * 1) [.bool (bits .and .u64 (((gg : Nat) : Int).fdiv (2 ^ min ((i : Int) % 64).toNat IntKind.u64.bits)) 1 == 1)] = some (tabB h S (i + 1)) := by
        have := set_tab h S i (by omega)
        rw [← hv] at this
        rw [Int.toNat_natCast, Nat.zero_add, Nat.mul_one]
        exact this
      have hst : storeS Tryd.T 4 [.box 28 [.int .u8 fo, .str fn, .sl none 0 [], .sl none fsn fsc], .box 4 (tabB h S i)] (some (.lp (0 + 1) (0 + (i : Int).toNat * 1))) (some (.bool (bits .and .u64 (((gg : Nat) : Int).fdiv (2 ^ min ((i : Int) % 64).toNat IntKind.u64.bits)) 1 == 1))) = .upd (0 + 1) (.box 4 (tabB h S (i + 1))) none := storeS_box rfl rfl rfl rfl key
      refine Eq.mpr (congrArg (@SR.rec (fun _ => Prop) _ _ _ _ _ _ _ _ _ _ _ _ _ _ _ _ _ _ _ _) hst) ?_
      (repeat' ((conv => whnf); (first | (refine EqN.id ?_; first | (refine EqN.addN _ _ (by first | with_reducible rfl | with_reducible exact cst1 | with_reducible exact cst0 | with_reducible exact cst2 | with_reducible exact cst3 | with_reducible exact cst4 | with_reducible exact cst5 | with_reducible exact cst6 | with_reducible exact cst7 | with_reducible exact cst8 | with_reducible exact cst14 | with_reducible exact cst15 | with_reducible exact cst25 | with_reducible exact cst30 | with_reducible exact cst31 | fail) (by first | with_reducible rfl | with_reducible exact cst1 | with_reducible exact cst0 | with_reducible exact cst2 | with_reducible exact cst3 | with_reducible exact cst4 | with_reducible exact cst5 | with_reducible exact cst6 | with_reducible exact cst7 | with_reducible exact cst8 | with_reducible exact cst14 | with_reducible exact cst15 | with_reducible exact cst25 | with_reducible exact cst30 | with_reducible exact cst31 | fail) ?_ ?_; · (repeat' (first | omega | refine And.intro ?_ ?_ | exact bnd_andl (by omega) | exact bnd_andr (by omega) | refine bnd_or ?_ ?_ | refine bnd_or31 ?_ ?_ | refine bnd_xor ?_ ?_ | refine bnd_xor31 ?_ ?_ | refine bnd_shr ?_ | refine bnd_shl ?_ ?_ | refine bnd_mod ?_ | refine bnd_andl ?_ | fail))) | fail) | refine DrawN.mk' [] ?_ | fail))); all_goals (conv => whnf)
      (refine ⟨⟨i + 1, ⟨by omega, by omega, by omega⟩, by omega, ?_, .inl ⟨rfl, rfl⟩, rfl, _, rfl, ?_⟩⟩; rotate_left 1; (first | exact .inl rfl | exact .inr ⟨by simp [belowRE, below, belowL, tr, mpB_belowK, mpB_belowV, encS_below, ixV_below, tabB_below], by simp [belowH, Blk.below, belowL, below, mpB_belowK, mpB_belowV, encS_below, ixV_below, tabB_below]⟩ | fail); (repeat' (first | exact trivial | refine ⟨⟨_, rfl, ?_⟩, ?_⟩ | fail)); all_goals try (first | exact Wk.refl _ | exact Wk.of_eq (congrArg (AV.int _) (by omega)) | fail))
    · obtain rfl : i = min (64 * (n + 1)) S := by omega
      (refine ⟨⟨n + 1, by omega, by omega, ?_, .inr ?_, rfl, _, rfl, ?_⟩⟩; rotate_left 2; (first | exact .inl rfl | exact .inr ⟨by simp [belowRE, below, belowL, tr, mpB_belowK, mpB_belowV, encS_below, ixV_below, tabB_below], by simp [belowH, Blk.below, belowL, below, mpB_belowK, mpB_belowV, encS_below, ixV_below, tabB_below]⟩ | fail); all_goals (repeat' (first | exact trivial | refine ⟨⟨_, rfl, ?_⟩, ?_⟩ | fail)); all_goals try (first | exact Wk.refl _ | exact Wk.of_eq (congrArg (AV.int _) (by omega)) | fail))
    · obtain rfl : i = min (64 * (n + 1)) S := by omega
      (refine ⟨⟨n + 1, by omega, by omega, ?_, .inr ?_, rfl, _, rfl, ?_⟩⟩; rotate_left 2; (first | exact .inl rfl | exact .inr ⟨by simp [belowRE, below, belowL, tr, mpB_belowK, mpB_belowV, encS_below, ixV_below, tabB_below], by simp [belowH, Blk.below, belowL, below, mpB_belowK, mpB_belowV, encS_below, ixV_below, tabB_below]⟩ | fail); all_goals (repeat' (first | exact trivial | refine ⟨⟨_, rfl, ?_⟩, ?_⟩ | fail)); all_goals try (first | exact Wk.refl _ | exact Wk.of_eq (congrArg (AV.int _) (by omega)) | fail))
  · refine EndN.detF (u' := .tup [.sl none S (tabB h S (min (64 * n) S)), .int .i64 0]) ⟨⟨fun _ e => (nomatch e), tabB_below _ _ _ _⟩, trivial, trivial⟩ (Frz.tup (FrzL.cons (Frz.ms rfl rfl (FrzL.refl _)) (FrzL.refl _))) (Wk.of_eq ?_)
    rw [show min (64 * n) S = S by omega]
end Go.Proofs.YtekhodpmpjehaaaDoor
/-! text RI10 -/
namespace Go.Proofs.YtekhodpmpjehaaaDoor
open Go.Vsi
set_option maxHeartbeats 1000000

/-! ### the least bit -/
theorem mk_zero (n : Nat) (g : Nat → Bool) : mkBits n g = 0 ↔ ∀ i, i < n → g i = false := by
  constructor
  · intro h i hi
    have := testBit_mk n g i
    rw [h] at this
    simpa [hi] using this.symm
  · intro h
    rw [mk_congr (h := fun _ => false) h]
    clear h
    induction n with
    | zero => rfl
    | succ n ih => simp [mkBits, ih]
theorem leastB (g : Nat → Bool) : ∀ n, (∃ i, i < n ∧ g i = true) → ∃ k, k < n ∧ g k = true ∧ ∀ i, i < k → g i = false
  | 0, h => by obtain ⟨i, h1, _⟩ := h; omega
  | n + 1, h => by
    by_cases hn : ∃ i, i < n ∧ g i = true
    · obtain ⟨k, h1, h2, h3⟩ := leastB g n hn
      exact ⟨k, by omega, h2, h3⟩
    · obtain ⟨i, h1, h2⟩ := h
      have : i = n := by
        rcases Nat.lt_or_ge i n with h3 | h3
        · exact absurd ⟨i, h3, h2⟩ hn
        · omega
      subst this
      refine ⟨i, h1, h2, fun j hj => ?_⟩
      cases hg : g j with
      | false => rfl
      | true => exact absurd ⟨j, hj, hg⟩ hn
theorem wu64m (m : Nat) : IntKind.u64.wrap (m : Int) = ((m % 2 ^ 64 : Nat) : Int) := by
  unfold IntKind.wrap
  simp only [IntKind.signed, Bool.false_and]
  show (m : Int) % (2 ^ 64 : Int) = _
  rw [Int.natCast_emod]
  rfl
theorem neg_u64 (x : Nat) (h0 : 0 < x) (h : x < 2 ^ 64) : IntKind.u64.wrap (0 - (x : Int)) = ((2 ^ 64 - ((x - 1) + 1) : Nat) : Int) := by
  unfold IntKind.wrap
  simp only [IntKind.signed, Bool.false_and]
  show (0 - (x : Int)) % (2 ^ 64 : Int) = _
  have h1 : ((0 : Int) - (x : Int)) % (2 ^ 64 : Int) = ((0 : Int) - (x : Int) + 2 ^ 64) % (2 ^ 64 : Int) := by rw [Int.add_emod_right]
  rw [h1, Int.emod_eq_of_lt (by omega) (by omega)]
  omega
theorem low_one (x k : Nat) (hx : x < 2 ^ 64) (hk : k < 64) (h1 : x.testBit k = true) (h0 : ∀ i, i < k → x.testBit i = false) : bits .and .u64 (x : Int) (IntKind.u64.wrap (0 - (x : Int))) = ((2 ^ k : Nat) : Int) := by
  have hpos : 0 < x := by
    rcases Nat.eq_zero_or_pos x with h | h
    · rw [h] at h1; simp at h1
    · exact h
  -- x = 2^(k+1) * m + 2^k
  obtain ⟨m, hm⟩ : ∃ m, x = 2 ^ (k + 1) * m + 2 ^ k := by
    refine ⟨x / 2 ^ (k + 1), ?_⟩
    have h2 : x % 2 ^ (k + 1) = 2 ^ k := by
      apply Nat.eq_of_testBit_eq
      intro i
      rw [Nat.testBit_mod_two_pow, Nat.testBit_two_pow]
      rcases Nat.lt_trichotomy i k with h | h | h
      · rw [h0 i h]; simp; omega
      · subst h; simp [h1]
      · have a : ¬ i < k + 1 := by omega
        have b : ¬ k = i := by omega
        simp [a, b]
    have := Nat.div_add_mod x (2 ^ (k + 1))
    omega
  have hp : 2 ^ k < 2 ^ (k + 1) := Nat.pow_lt_pow_right (by omega) (by omega)
  have hp0 : 0 < 2 ^ k := Nat.pos_of_ne_zero (by simp)
  have hb1 : ∀ i, x.testBit i = if i < k + 1 then (2 ^ k).testBit i else m.testBit (i - (k + 1)) := fun i => by
    rw [hm]
    exact Nat.testBit_two_pow_mul_add m hp i
  have hb2 : ∀ i, (x - 1).testBit i = if i < k + 1 then (2 ^ k - 1).testBit i else m.testBit (i - (k + 1)) := fun i => by
    have : x - 1 = 2 ^ (k + 1) * m + (2 ^ k - 1) := by omega
    rw [this]
    exact Nat.testBit_two_pow_mul_add m (by omega) i
  rw [neg_u64 x hpos hx, bits_u64]
  refine congrArg Int.ofNat (Nat.eq_of_testBit_eq fun i => ?_)
  rw [Nat.testBit_two_pow]
  simp only [BitVec.toNat_and, Nat.testBit_and]
  rw [ofInt64u x hx, ofInt64u _ (by omega), Nat.testBit_two_pow_sub_succ (by omega), hb1, hb2]
  by_cases hi : i < k + 1
  · rw [if_pos hi, if_pos hi, Nat.testBit_two_pow, Nat.testBit_two_pow_sub_one]
    by_cases e : k = i
    · subst e; simp; omega
    · simp [e]
  · rw [if_neg hi, if_neg hi]
    have : ¬ k = i := by omega
    simp only [this, decide_false]
    cases m.testBit (i - (k + 1)) <;> simp
def dB (k : Nat) : Nat := 2 ^ k * 285870213051353865 % 2 ^ 64
def tabTZ : List Int := [0, 1, 56, 2, 57, 49, 28, 3, 61, 58, 42, 50, 38, 29, 17, 4, 62, 47, 59, 36, 45, 43, 51, 22, 53, 39, 33, 30, 24, 18, 12, 5, 63, 55, 48, 27, 60, 41, 37, 16, 46, 35, 44, 21, 52, 32, 23, 11, 54, 26, 40, 15, 34, 20, 31, 10, 25, 14, 19, 9, 13, 8, 7, 6]
theorem tab_ok (k : Nat) (hk : k < 64) : dB k >>> 58 < 64 ∧ IntKind.i64.wrap (tabTZ.getD (dB k >>> 58) 0) = k := by
  have : (List.range 64).all (fun k => decide (dB k >>> 58 < 64) && (IntKind.i64.wrap (tabTZ.getD (dB k >>> 58) 0) == Int.ofNat k)) = true := by kernel_rfl
  have := List.all_eq_true.1 this k (List.mem_range.2 hk)
  simp only [Bool.and_eq_true, decide_eq_true_eq] at this
  exact ⟨this.1, eq_of_beq this.2⟩
def enc8 (p : Int) : List AV := [.int .u8 p]
attribute [local irreducible] VW VCall VO bits mkBits
theorem tz_c (g : Nat → Bool) (k : Nat) (hk : k < 64) (h1 : g k = true) (h0 : ∀ i, i < k → g i = false) (H : Heap) : VDet Tryd.prog 39 [U g] H (.int .i64 k) := by
  unfold U
  have hx := mk_lt 64 g
  have hb : ∀ i, (mkBits 64 g).testBit i = (decide (i < 64) && g i) := testBit_mk 64 g
  generalize mkBits 64 g = x at *
  have hand := low_one x k hx hk (by rw [hb]; simp [hk, h1]) (fun i hi => by rw [hb]; simp [h0 i hi])
  have hne : x ≠ 0 := fun e => by have := hb k; rw [e] at this; simp [hk, h1] at this
  have hmul : IntKind.u64.wrap (((2 ^ k : Nat) : Int) * 285870213051353865) = ((dB k : Nat) : Int) := by
    rw [show ((2 ^ k : Nat) : Int) * 285870213051353865 = ((2 ^ k * 285870213051353865 : Nat) : Int) by simp]
    exact wu64m _
  have hshr : ((dB k : Nat) : Int).fdiv (2 ^ min (58 : Int).toNat IntKind.u64.bits) = ((dB k >>> 58 : Nat) : Int) := fdiv_shr (dB k) 58 (by omega)
  obtain ⟨hi1, hi2⟩ := tab_ok k hk
  generalize ((2 ^ k : Nat) : Int) = p2 at *
  have hne : ((x : Nat) : Int) ≠ 0 := by omega
  generalize ((x : Nat) : Int) = xi at *
  generalize dB k >>> 58 = ix at *
  generalize ((dB k : Nat) : Int) = db at *
  refine fn_det Tryd.E0 Tryd.mx Tryd.func39 (by kernel_rfl) rfl (Nat.le_of_ble_eq_true rfl) rfl fun hcl hbl => ?_
  (repeat' ((conv => whnf); (first | (refine IfN.id ?_; first | refine IfN.eqF hne ?_ | fail) | (refine EqN.id ?_; first | refine EqN.mk _ hand ?_ | refine EqN.mk _ hmul ?_ | refine EqN.mk _ hshr ?_ | refine EqN.mk _ hi2 ?_ | refine EqN.mk _ rfl ?_ | fail) | (refine SideN.mk ?_ ?_; · first | kernel_rfl | omega | exact List.cons_ne_nil _ _ | (simp; done) | (simp; omega) | exact trivial | assumption | fail) | refine SegN.nth (f := enc8) (l := tabTZ) 0 ix rfl hi1 (fun _ => rfl) ?_ | refine DrawN.mk' [] ?_ | fail))); all_goals (conv => whnf)
  exact EndN.det trivial (Wk.refl _)
end Go.Proofs.YtekhodpmpjehaaaDoor
/-! text RJ10 -/
namespace Go.Proofs.YtekhodpmpjehaaaDoor
open Go.Vsi
set_option maxHeartbeats 1000000

/-! ### blocks of bits under and, or, not -/
theorem mk_ne (g : Nat → Bool) : (((mkBits 64 g : Nat) : Int) != 0) = true ↔ ∃ i, i < 64 ∧ g i = true := by
  rw [bne_iff_ne]
  constructor
  · intro h
    have h2 : ¬ mkBits 64 g = 0 := fun e => h (by rw [e]; rfl)
    rw [mk_zero] at h2
    apply Classical.byContradiction
    intro hn
    refine h2 fun i hi => ?_
    cases hg : g i with
    | false => rfl
    | true => exact absurd ⟨i, hi, hg⟩ hn
  · rintro ⟨i, hi, hg⟩ e
    have : mkBits 64 g = 0 := by omega
    rw [mk_zero] at this
    rw [this i hi] at hg
    cases hg
theorem EqN.andU (g h : Nat → Bool) {k : Int → Prop} (a : k ((mkBits 64 fun i => g i && h i : Nat) : Int)) : EqN (bits .and .u64 (mkBits 64 g : Nat) (mkBits 64 h : Nat)) k := ⟨_, bits_and g h, a⟩
theorem EqN.xorU (g h : Nat → Bool) {k : Int → Prop} (a : k ((mkBits 64 fun i => g i ^^ h i : Nat) : Int)) : EqN (bits .xor .u64 (mkBits 64 g : Nat) (mkBits 64 h : Nat)) k := ⟨_, bits_xor g h, a⟩
theorem EqN.andNotU (g h : Nat → Bool) {k : Int → Prop} (a : k ((mkBits 64 fun i => g i && !h i : Nat) : Int)) : EqN (bits .andNot .u64 (mkBits 64 g : Nat) (mkBits 64 h : Nat)) k := ⟨_, bits_andNot g h, a⟩
theorem two_mod (n : Nat) : 2 ^ n < 64 ∨ 2 ^ n % 64 = 0 := by
  rcases Nat.lt_or_ge n 6 with h | h
  · refine .inl ?_
    have : n = 0 ∨ n = 1 ∨ n = 2 ∨ n = 3 ∨ n = 4 ∨ n = 5 := by omega
    rcases this with rfl | rfl | rfl | rfl | rfl | rfl <;> decide
  · refine .inr ?_
    obtain ⟨m, rfl⟩ : ∃ m, n = 6 + m := ⟨n - 6, by omega⟩
    rw [Nat.pow_add]
    exact Nat.mul_mod_right _ _
theorem mk_ne' (g : Nat → Bool) (h : ¬ ((mkBits 64 g : Nat) : Int) = 0) : ∃ i, i < 64 ∧ g i = true := (mk_ne g).1 (bne_iff_ne.2 h)
theorem mk_eq' (g : Nat → Bool) (h : ((mkBits 64 g : Nat) : Int) = 0) : ∀ i, i < 64 → g i = false := (mk_zero 64 g).1 (by omega)
attribute [local irreducible] VW VCall VO bits mkBits

/-- truth.Equal -/
def eqAll (f g : Fm) : Bool := (List.range (2 ^ (namesL [f, g]).length)).all fun v => f.ev (vb (namesL [f, g]) v) == g.ev (vb (namesL [f, g]) v)
theorem equal_c (f g : Fm) (hf : f.Good) (hg : g.Good) (h12 : (namesL [f, g]).length ≤ 12) (H : Heap) : VDet Tryd.prog 25 [.agg f.cells, .agg g.cells] H (.tup [.bool (eqAll f g), .int .i64 0]) := by
  have hgd : ∀ x ∈ [f, g], x.Good := fun x hx => by
    simp only [List.mem_cons, List.not_mem_nil, or_false] at hx
    rcases hx with rfl | rfl <;> assumption
  have hn1 := hf.small.1
  have hn2 := hg.small.1
  have hok := namesL_ok [f, g] fun x hx => (hgd x hx).ok
  have h1 := own_c [f, g] hgd (by simp only [nodesL]; omega) (by simp) h12
  have hb1 := fun n (hn : n ≤ 1000000) => block_c _ hok n hn f hf.pr (namesL_in [f, g] f (by simp))
  have hb2 := fun n (hn : n ≤ 1000000) => block_c _ hok n hn g hg.pr (namesL_in [f, g] g (by simp))
  have hv := valid_c _ h12
  have hbk := blocks_c _ h12
  have h2l := two_le _ h12
  unfold eqAll
  generalize hns : namesL [f, g] = ns at *
  rw [show [f, g].flatMap Fm.cells = f.cells ++ g.cells by simp] at h1
  have hfc : f.cells = [.int .u8 f.op, .str f.nmB, .sl none 0 [], .sl none f.sn f.sc] := rfl
  have hgc : g.cells = [.int .u8 g.op, .str g.nmB, .sl none 0 [], .sl none g.sn g.sc] := rfl
  unfold blkV U at hb1 hb2
  unfold okU U at hv
  generalize hF : (fun v => f.ev (vb ns v)) = F at *
  generalize hG : (fun v => g.ev (vb ns v)) = G at *
  have hb1 : ∀ n : Nat, n ≤ 1000000 → ∀ H, VDet Tryd.prog 31 [tblV ns, .agg f.cells, .int .i64 n] H (.int .u64 (mkBits 64 fun i => F (64 * n + i) : Nat)) := fun n hn H => by
    subst hF
    exact hb1 n hn H
  have hb2 : ∀ n : Nat, n ≤ 1000000 → ∀ H, VDet Tryd.prog 31 [tblV ns, .agg g.cells, .int .i64 n] H (.int .u64 (mkBits 64 fun i => G (64 * n + i) : Nat)) := fun n hn H => by
    subst hG
    exact hb2 n hn H
  have hres : ((List.range (2 ^ ns.length)).all fun v => f.ev (vb ns v) == g.ev (vb ns v)) = (List.range (2 ^ ns.length)).all fun v => F v == G v := by subst hF hG; rfl
  rw [hres]
  have hmod := two_mod ns.length
  generalize 2 ^ ns.length = S at *
  have htb := tblV_below ns
  generalize tblV ns = t at *
  rw [hfc] at h1 hb1 ⊢
  rw [hgc] at h1 hb2 ⊢
  have h1 : ∀ H, VDet Tryd.prog 28 [.sx 2 [.int .u8 f.op, .str f.nmB, .sl none 0 [], .sl none f.sn f.sc, .int .u8 g.op, .str g.nmB, .sl none 0 [], .sl none g.sn g.sc]] H (.tup [t, .int .i64 0]) := fun H => VDet.wk (h1 H) ⟨wk_sx _ _, trivial⟩
  have hfb := fun n => f.sc_below n
  have hgb := fun n => g.sc_below n
  generalize f.op = fo at *
  generalize f.nmB = fn at *
  generalize f.sn = fsn at *
  generalize f.sc = fsc at *
  generalize g.op = go at *
  generalize g.nmB = gn at *
  generalize g.sn = gsn at *
  generalize g.sc = gsc at *
  refine fn_det Tryd.E0 Tryd.mx Tryd.func25 (by kernel_rfl) rfl (Nat.le_of_ble_eq_true rfl) rfl fun hcl hbl => ?_
  (repeat' ((conv => whnf); (first | (refine IfN.id ?_; first | refine IfN.not ?_ | refine IfN.tt rfl ?_ | fail) | (refine CallN.id ?_; first | refine CallN.det _ (h1 _) ?_ | refine CallN.det _ (hbk _) ?_ | fail) | refine DrawN.mk' [] ?_ | fail))); all_goals (conv => whnf)
  refine loop_R Tryd.E0 Tryd.mx (σ := Nat) (fun n => n ≤ (S + 63) / 64 ∧ ∀ v, v < 64 * n → v < S → F v = G v) (fun n => (S + 63) / 64 - n) (fun n => [(21, .v (.int .i64 n))]) (fun n => _) _ 0 rfl hcl [2, 3, 6, 20] rfl ⟨Nat.zero_le _, fun v hv => absurd hv (by omega)⟩ ⟨⟨_, rfl, Wk.refl _⟩, trivial⟩ rfl (fun _ _ => rfl) ?_
  rintro n ⟨hn, hall⟩
  clear hbl
  (repeat' ((conv => whnf); (first | (refine IfN.id ?_; first | refine IfN.not ?_ | refine IfN.dec (fun _ => ?_) (fun _ => ?_) | fail) | (refine EqN.id ?_; first | refine EqN.andU _ _ ?_ | refine EqN.xorU _ _ ?_ | (refine EqN.addN _ _ (by first | with_reducible rfl | with_reducible exact cst1 | with_reducible exact cst0 | with_reducible exact cst2 | with_reducible exact cst3 | with_reducible exact cst4 | with_reducible exact cst5 | with_reducible exact cst6 | with_reducible exact cst7 | with_reducible exact cst8 | with_reducible exact cst14 | with_reducible exact cst15 | with_reducible exact cst25 | with_reducible exact cst30 | with_reducible exact cst31 | fail) (by first | with_reducible rfl | with_reducible exact cst1 | with_reducible exact cst0 | with_reducible exact cst2 | with_reducible exact cst3 | with_reducible exact cst4 | with_reducible exact cst5 | with_reducible exact cst6 | with_reducible exact cst7 | with_reducible exact cst8 | with_reducible exact cst14 | with_reducible exact cst15 | with_reducible exact cst25 | with_reducible exact cst30 | with_reducible exact cst31 | fail) ?_ ?_; · (repeat' (first | omega | refine And.intro ?_ ?_ | exact bnd_andl (by omega) | exact bnd_andr (by omega) | refine bnd_or ?_ ?_ | refine bnd_or31 ?_ ?_ | refine bnd_xor ?_ ?_ | refine bnd_xor31 ?_ ?_ | refine bnd_shr ?_ | refine bnd_shl ?_ ?_ | refine bnd_mod ?_ | refine bnd_andl ?_ | fail))) | fail) | (refine SideN.mk ?_ ?_; · first | kernel_rfl | omega | exact List.cons_ne_nil _ _ | (simp; done) | (simp; omega) | exact trivial | assumption | fail) | (refine CallD.id ?_; first | refine CallD.det _ (fun _ hq X => hb1 n (by omega) _) ?_ | refine CallD.det _ (fun _ hq X => hb2 n (by omega) _) ?_ | refine CallD.det _ (fun _ hq X => hv _) ?_ | fail) | refine DrawN.mk' [] ?_ | fail))); all_goals (conv => whnf)
  · rename_i h3 h4
    have hz := mk_eq' _ h4
    (refine ⟨⟨n + 1, ⟨by omega, fun v hv hvS => by
      rcases Nat.lt_or_ge v (64 * n) with h5 | h5
      · exact hall v h5 hvS
      · have := hz (v - 64 * n) (by omega)
        have e : 64 * n + (v - 64 * n) = v := by omega
        have e2 : v - 64 * n < S := by omega
        rw [e] at this
        simp only [e2, decide_true, Bool.and_true] at this
        revert this
        cases F v <;> cases G v <;> simp⟩, by omega, ?_, .inl ⟨rfl, rfl⟩, rfl, _, rfl, ?_⟩⟩; rotate_left 1; (first | exact .inl rfl | exact .inr ⟨by simp [belowRE, below, belowL, tr, mpB_belowK, mpB_belowV, encS_below, ixV_below, tabB_below], by simp [belowH, Blk.below, belowL, below, mpB_belowK, mpB_belowV, encS_below, ixV_below, tabB_below]⟩ | fail); (repeat' (first | exact trivial | refine ⟨⟨_, rfl, ?_⟩, ?_⟩ | fail)); all_goals try (first | exact Wk.refl _ | exact Wk.of_eq (congrArg (AV.int _) (by omega)) | fail))
  · rename_i h3 h4
    obtain ⟨i, h5, h6⟩ := mk_ne' _ h4
    refine EndN.det ⟨trivial, trivial, trivial⟩ (Wk.of_eq ?_)
    have : ((List.range S).all fun v => F v == G v) = false := by
      apply Bool.eq_false_iff.2
      intro hA
      simp only [Bool.and_eq_true, decide_eq_true_eq] at h6
      have := List.all_eq_true.1 hA (64 * n + i) (List.mem_range.2 (by omega))
      rw [eq_of_beq this] at h6
      simp at h6
    rw [this]
  · rename_i h3
    refine EndN.det ⟨trivial, trivial, trivial⟩ (Wk.of_eq ?_)
    have : ((List.range S).all fun v => F v == G v) = true := List.all_eq_true.2 fun v hv => by
      rw [hall v (by have := List.mem_range.1 hv; omega) (List.mem_range.1 hv)]
      simp
    rw [this]
/-- truth.Follows, truth.Falsify: what is looked for -/
def falB (L R : List Fm) (v : Nat) : Bool := (L.all fun f => f.ev (vb (namesL (L ++ R)) v)) && R.all fun f => !f.ev (vb (namesL (L ++ R)) v)
def falV (L R : List Fm) : Option Nat := (List.range (2 ^ (namesL (L ++ R)).length)).find? (falB L R)
def falA : Option Nat → AV
  | some v => .tup [.int .i64 v, .bool true, .int .i64 0]
  | none => .tup [.int .i64 0, .bool false, .int .i64 0]
end Go.Proofs.YtekhodpmpjehaaaDoor
/-! text RK10 -/
namespace Go.Proofs.YtekhodpmpjehaaaDoor
open Go.Vsi
set_option maxHeartbeats 1000000
attribute [local irreducible] VW VCall VO bits mkBits

/-! ### truth.Falsify -/
theorem concat'_c (l m : List Fm) (hn : l.length + m.length ≤ 1000) (H : Heap) : VDet Tryd.prog 38 [.sl none 2 [.sl none l.length (l.flatMap Fm.cells), .sl none m.length (m.flatMap Fm.cells)]] H (.sl none (l ++ m).length ((l ++ m).flatMap Fm.cells)) := by
  rw [List.length_append]
  rcases Nat.eq_zero_or_pos (l.length + m.length) with h0 | h0
  · obtain rfl : l = [] := List.eq_nil_of_length_eq_zero (by omega)
    obtain rfl : m = [] := List.eq_nil_of_length_eq_zero (by omega)
    exact concat0_c H
  · exact concat_c l m h0 hn H
theorem takeF (l : List Fm) (j : Nat) (h : j < l.length) : l.take (j + 1) = l.take j ++ [l.getD j .fa] := by
  rw [List.take_add_one, List.getElem?_eq_getElem h]
  simp [List.getD_eq_getElem?_getD, List.getElem?_eq_getElem h]
theorem falsify_c (L R : List Fm) (hg : ∀ f ∈ L ++ R, f.Good) (hn : nodesL (L ++ R) ≤ 1000) (hlen : L.length + R.length ≤ 1000) (h12 : (namesL (L ++ R)).length ≤ 12) (H : Heap) :
    VDet Tryd.prog 20 [.agg [.sl none L.length (L.flatMap Fm.cells), .sl none R.length (R.flatMap Fm.cells)]] H (falA (falV L R)) := by
  have hok := namesL_ok (L ++ R) fun x hx => (hg x hx).ok
  have h0 := concat'_c L R hlen
  have h0 : ∀ H, VDet Tryd.prog 38 [.sx 2 [.sl none L.length (L.flatMap Fm.cells), .sl none R.length (R.flatMap Fm.cells)]] H (.sl none (L ++ R).length ((L ++ R).flatMap Fm.cells)) := fun H => VDet.wk (h0 H) ⟨wk_sx _ _, trivial⟩
  have h1 := own_c (L ++ R) hg hn (by rw [List.length_append]; omega) h12
  have hb := fun f (hf : f ∈ L ++ R) n (hn : n ≤ 1000000) => block_c _ hok n hn f (hg f hf).pr (namesL_in (L ++ R) f hf)
  have hv := valid_c _ h12
  have hbk := blocks_c _ h12
  have h2l := two_le _ h12
  have hmod := two_mod (namesL (L ++ R)).length
  have hlb := fun n => cells_below n (L ++ R)
  unfold falV
  have hF : ∀ v, falB L R v = ((L.all fun f => f.ev (vb (namesL (L ++ R)) v)) && R.all fun f => !f.ev (vb (namesL (L ++ R)) v)) := fun v => rfl
  generalize falB L R = F at *
  unfold blkV U at hb
  unfold okU U at hv
  generalize namesL (L ++ R) = ns at *
  generalize (L ++ R).length = len at *
  generalize (L ++ R).flatMap Fm.cells = lr at *
  generalize 2 ^ ns.length = S at *
  have htb := tblV_below ns
  have hbL : ∀ j n : Nat, j < L.length → n ≤ 1000000 → ∀ H, VDet Tryd.prog 31 [tblV ns, .agg (L.getD j .fa).cells, .int .i64 n] H (.int .u64 (mkBits 64 fun i => (L.getD j .fa).ev (vb ns (64 * n + i)) : Nat)) := fun j n hj => hb _ (List.mem_append_left _ (getD_mem L j hj)) n
  have hbR : ∀ j n : Nat, j < R.length → n ≤ 1000000 → ∀ H, VDet Tryd.prog 31 [tblV ns, .agg (R.getD j .fa).cells, .int .i64 n] H (.int .u64 (mkBits 64 fun i => (R.getD j .fa).ev (vb ns (64 * n + i)) : Nat)) := fun j n hj => hb _ (List.mem_append_right _ (getD_mem R j hj)) n
  generalize tblV ns = t at *
  refine fn_det Tryd.E0 Tryd.mx Tryd.func20 (by kernel_rfl) rfl (Nat.le_of_ble_eq_true rfl) rfl fun hcl hbl => ?_
  (repeat' ((conv => whnf); (first | (refine IfN.id ?_; first | refine IfN.not ?_ | refine IfN.tt rfl ?_ | fail) | (refine CallN.id ?_; first | refine CallN.det _ (h0 _) ?_ | refine CallN.det _ (h1 _) ?_ | refine CallN.det _ (hbk _) ?_ | fail) | refine DrawN.mk' [] ?_ | fail))); all_goals (conv => whnf)
  refine loop_R Tryd.E0 Tryd.mx (σ := Nat) (fun n => n ≤ (S + 63) / 64 ∧ ∀ v, v < 64 * n → v < S → F v = false) (fun n => (S + 63) / 64 - n) (fun n => [(28, .v (.int .i64 n))]) (fun n => _) _ 0 rfl hcl [1, 5, 27] rfl ⟨Nat.zero_le _, fun v hv => absurd hv (by omega)⟩ ⟨⟨_, rfl, Wk.refl _⟩, trivial⟩ rfl (fun _ _ => rfl) ?_
  rintro n ⟨hn, hall⟩
  clear hbl
  have hL := fun (j : Nat) (hj : j < L.length) => hbL j n hj
  have hR := fun (j : Nat) (hj : j < R.length) => hbR j n hj
  obtain ⟨gL, hgL⟩ : ∃ gL : Nat → Nat → Bool, gL = fun j i => decide (i < S) && (L.take j).all fun f => f.ev (vb ns (64 * n + i)) := ⟨_, rfl⟩
  obtain ⟨gR, hgR⟩ : ∃ gR : Nat → Nat → Bool, gR = fun j i => gL L.length i && (R.take j).all fun f => !f.ev (vb ns (64 * n + i)) := ⟨_, rfl⟩
  have eL0 : (fun i => decide (i < S)) = gL 0 := by subst hgL; funext i; simp
  have eR0 : gL L.length = gR 0 := by subst hgR; funext i; simp
  have eL : ∀ j, j < L.length → bits .and .u64 (mkBits 64 (gL j) : Nat) (mkBits 64 fun i => (L.getD j .fa).ev (vb ns (64 * n + i)) : Nat) = ((mkBits 64 (gL (j + 1)) : Nat) : Int) := fun j hj => by
    rw [bits_and]
    congr 2
    funext i
    subst hgL
    simp only [takeF L j hj, List.all_append, List.all_cons, List.all_nil, Bool.and_true, Bool.and_assoc]
  have eR : ∀ j, j < R.length → bits .andNot .u64 (mkBits 64 (gR j) : Nat) (mkBits 64 fun i => (R.getD j .fa).ev (vb ns (64 * n + i)) : Nat) = ((mkBits 64 (gR (j + 1)) : Nat) : Int) := fun j hj => by
    rw [bits_andNot]
    congr 2
    funext i
    subst hgR
    simp only [takeF R j hj, List.all_append, List.all_cons, List.all_nil, Bool.and_true, Bool.and_assoc]
  have eF : ∀ i, gR R.length i = (decide (i < S) && F (64 * n + i)) := fun i => by
    rw [hF]
    subst hgR hgL
    simp only [List.take_length, Bool.and_assoc]
  rw [eL0] at hv
  clear hgL hgR hbL hbR hb
  (repeat' ((conv => whnf); (first | (refine IfN.id ?_; first | refine IfN.dec (fun _ => ?_) (fun _ => ?_) | fail) | (refine CallN.id ?_; first | refine CallN.det _ (hv _) ?_ | fail) | refine DrawN.mk' [] ?_ | fail))); all_goals (conv => whnf)
  refine loop_R Tryd.E0 Tryd.mx (σ := Nat) (fun j => j ≤ L.length) (fun j => L.length - j) (fun j => [(8, .v (.int .u64 (mkBits 64 (gL j) : Nat))), (36, .v (.int .i64 j))]) (fun n => _) _ 0 rfl hcl [1, 5, 7, 27, 28, 34, 35] rfl (Nat.zero_le _) ⟨⟨_, rfl, Wk.refl _⟩, ⟨_, rfl, Wk.refl _⟩, trivial⟩ rfl (fun _ _ => rfl) ?_
  intro j hj
  (repeat' ((conv => whnf); (first | (refine IfN.id ?_; first | refine IfN.dec (fun _ => ?_) (fun _ => ?_) | fail) | (refine EqN.id ?_; first | refine EqN.mk _ (eL j (by omega)) ?_ | (refine EqN.addN _ _ (by first | with_reducible rfl | with_reducible exact cst1 | with_reducible exact cst0 | with_reducible exact cst2 | with_reducible exact cst3 | with_reducible exact cst4 | with_reducible exact cst5 | with_reducible exact cst6 | with_reducible exact cst7 | with_reducible exact cst8 | with_reducible exact cst14 | with_reducible exact cst15 | with_reducible exact cst25 | with_reducible exact cst30 | with_reducible exact cst31 | fail) (by first | with_reducible rfl | with_reducible exact cst1 | with_reducible exact cst0 | with_reducible exact cst2 | with_reducible exact cst3 | with_reducible exact cst4 | with_reducible exact cst5 | with_reducible exact cst6 | with_reducible exact cst7 | with_reducible exact cst8 | with_reducible exact cst14 | with_reducible exact cst15 | with_reducible exact cst25 | with_reducible exact cst30 | with_reducible exact cst31 | fail) ?_ ?_; · (repeat' (first | omega | refine And.intro ?_ ?_ | exact bnd_andl (by omega) | exact bnd_andr (by omega) | refine bnd_or ?_ ?_ | refine bnd_or31 ?_ ?_ | refine bnd_xor ?_ ?_ | refine bnd_xor31 ?_ ?_ | refine bnd_shr ?_ | refine bnd_shl ?_ ?_ | refine bnd_mod ?_ | refine bnd_andl ?_ | fail))) | fail) | (refine SideN.mk ?_ ?_; · first | kernel_rfl | omega | exact List.cons_ne_nil _ _ | (simp; done) | (simp; omega) | exact trivial | assumption | fail) | (refine CallN.id ?_; first | refine CallN.det _ (hL j (by omega) (by omega) _) ?_ | fail) | refine SegN.nth .fa j rfl (by omega) (fun _ => rfl) ?_ | refine DrawN.mk' [] ?_ | fail))); all_goals (conv => whnf)
  · (refine ⟨⟨j + 1, by omega, by omega, ?_, .inl ⟨rfl, rfl⟩, rfl, _, rfl, ?_⟩⟩; rotate_left 1; (first | exact .inl rfl | exact .inr ⟨by simp [belowRE, below, belowL, tr, mpB_belowK, mpB_belowV, encS_below, ixV_below, tabB_below, cells_below], by simp [belowH, Blk.below, belowL, below, mpB_belowK, mpB_belowV, encS_below, ixV_below, tabB_below, cells_below]⟩ | fail); (repeat' (first | exact trivial | refine ⟨⟨_, rfl, ?_⟩, ?_⟩ | fail)); all_goals try (first | exact Wk.refl _ | exact Wk.of_eq (congrArg (AV.int _) (by omega)) | fail))
  · obtain rfl : j = L.length := by omega
    rw [eR0]
    refine loop_R Tryd.E0 Tryd.mx (σ := Nat) (fun j => j ≤ R.length) (fun j => R.length - j) (fun j => [(8, .v (.int .u64 (mkBits 64 (gR j) : Nat))), (50, .v (.int .i64 j))]) (fun n => _) _ 0 rfl hcl [1, 5, 7, 27, 28, 48, 49] rfl (Nat.zero_le _) ⟨⟨_, rfl, Wk.refl _⟩, ⟨_, rfl, Wk.refl _⟩, trivial⟩ rfl (fun _ _ => rfl) ?_
    intro j hj
    (repeat' ((conv => whnf); (first | (refine IfN.id ?_; first | refine IfN.not ?_ | refine IfN.dec (fun _ => ?_) (fun _ => ?_) | fail) | (refine EqN.id ?_; first | refine EqN.mk _ (eR j (by omega)) ?_ | (refine EqN.addN _ _ (by first | with_reducible rfl | with_reducible exact cst1 | with_reducible exact cst0 | with_reducible exact cst2 | with_reducible exact cst3 | with_reducible exact cst4 | with_reducible exact cst5 | with_reducible exact cst6 | with_reducible exact cst7 | with_reducible exact cst8 | with_reducible exact cst14 | with_reducible exact cst15 | with_reducible exact cst25 | with_reducible exact cst30 | with_reducible exact cst31 | fail) (by first | with_reducible rfl | with_reducible exact cst1 | with_reducible exact cst0 | with_reducible exact cst2 | with_reducible exact cst3 | with_reducible exact cst4 | with_reducible exact cst5 | with_reducible exact cst6 | with_reducible exact cst7 | with_reducible exact cst8 | with_reducible exact cst14 | with_reducible exact cst15 | with_reducible exact cst25 | with_reducible exact cst30 | with_reducible exact cst31 | fail) ?_ ?_; · (repeat' (first | omega | refine And.intro ?_ ?_ | exact bnd_andl (by omega) | exact bnd_andr (by omega) | refine bnd_or ?_ ?_ | refine bnd_or31 ?_ ?_ | refine bnd_xor ?_ ?_ | refine bnd_xor31 ?_ ?_ | refine bnd_shr ?_ | refine bnd_shl ?_ ?_ | refine bnd_mod ?_ | refine bnd_andl ?_ | fail))) | refine EqN.i64 (by omega) ?_ | fail) | (refine SideN.mk ?_ ?_; · first | kernel_rfl | omega | exact List.cons_ne_nil _ _ | (simp; done) | (simp; omega) | exact trivial | assumption | fail) | (refine CallN.id ?_; first | refine CallN.det _ (hR j (by omega) (by omega) _) ?_ | fail) | refine SegN.nth .fa j rfl (by omega) (fun _ => rfl) ?_ | refine DrawN.mk' [] ?_ | fail))); all_goals (conv => whnf)
    · (refine ⟨⟨j + 1, by omega, by omega, ?_, .inl ⟨rfl, rfl⟩, rfl, _, rfl, ?_⟩⟩; rotate_left 1; (first | exact .inl rfl | exact .inr ⟨by simp [belowRE, below, belowL, tr, mpB_belowK, mpB_belowV, encS_below, ixV_below, tabB_below, cells_below], by simp [belowH, Blk.below, belowL, below, mpB_belowK, mpB_belowV, encS_below, ixV_below, tabB_below, cells_below]⟩ | fail); (repeat' (first | exact trivial | refine ⟨⟨_, rfl, ?_⟩, ?_⟩ | fail)); all_goals try (first | exact Wk.refl _ | exact Wk.of_eq (congrArg (AV.int _) (by omega)) | fail))
    · obtain rfl : j = R.length := by omega
      rename_i h3 h4 h5 h6
      have hz := mk_eq' _ h6
      (refine ⟨⟨n + 1, ⟨by omega, fun v hv hvS => by
        rcases Nat.lt_or_ge v (64 * n) with h7 | h7
        · exact hall v h7 hvS
        · have := hz (v - 64 * n) (by omega)
          have e : 64 * n + (v - 64 * n) = v := by omega
          have e2 : v - 64 * n < S := by omega
          rw [eF, e] at this
          simpa only [e2, decide_true, Bool.true_and] using this⟩, by omega, ?_, .inr ?_, rfl, _, rfl, ?_⟩⟩; rotate_left 2; (first | exact .inl rfl | exact .inr ⟨by simp [belowRE, below, belowL, tr, mpB_belowK, mpB_belowV, encS_below, ixV_below, tabB_below, cells_below], by simp [belowH, Blk.below, belowL, below, mpB_belowK, mpB_belowV, encS_below, ixV_below, tabB_below, cells_below]⟩ | fail); all_goals (repeat' (first | exact trivial | refine ⟨⟨_, rfl, ?_⟩, ?_⟩ | fail)); all_goals try (first | exact Wk.refl _ | exact Wk.of_eq (congrArg (AV.int _) (by omega)) | fail))
    · obtain rfl : j = R.length := by omega
      rename_i h3 h4 h5 h6
      obtain ⟨k, k1, k2, k3⟩ := leastB _ 64 (mk_ne' _ h6)
      have htz : ∀ H, VDet Tryd.prog 39 [.int .u64 (mkBits 64 (gR R.length) : Nat)] H (.int .i64 k) := tz_c _ k k1 k2 k3
      rw [eF] at k2
      simp only [Bool.and_eq_true, decide_eq_true_eq] at k2
      have hfind : (List.range S).find? F = some (64 * n + k) := List.find?_range_eq_some.2 ⟨k2.2, List.mem_range.2 (by omega), fun v hv => by
        rcases Nat.lt_or_ge v (64 * n) with h7 | h7
        · rw [hall v h7 (by omega)]; rfl
        · have := k3 (v - 64 * n) (by omega)
          have e : 64 * n + (v - 64 * n) = v := by omega
          have e2 : v - 64 * n < S := by omega
          rw [eF, e] at this
          simp only [e2, decide_true, Bool.true_and] at this
          rw [this]; rfl⟩
      rw [hfind]
      (repeat' ((conv => whnf); (first | (refine EqN.id ?_; first | refine EqN.i64 (by omega) ?_ | fail) | (refine CallN.id ?_; first | refine CallN.det _ (htz _) ?_ | fail) | refine DrawN.mk' [] ?_ | fail))); all_goals (conv => whnf)
      exact EndN.det ⟨trivial, trivial, trivial, trivial⟩ (Wk.of_eq (by simp [falA]))
  · rename_i h3
    have : (List.range S).find? F = none := List.find?_range_eq_none.2 fun v hv => by
      rw [hall v (by omega) hv]; rfl
    rw [this]
    exact EndN.det ⟨trivial, trivial, trivial, trivial⟩ (Wk.refl _)
end Go.Proofs.YtekhodpmpjehaaaDoor
/-! text RL10 -/
namespace Go.Proofs.YtekhodpmpjehaaaDoor
open Go.Vsi

/-! ### numbers by their digits: how the ones of a word are counted -/
def dg (w : Nat) : List Nat → Nat
  | [] => 0
  | d :: l => d + 2 ^ w * dg w l
def evs : List Nat → List Nat
  | [] => []
  | [a] => [a]
  | a :: _ :: l => a :: evs l
def adl : List Nat → List Nat → List Nat
  | [], m => m
  | a :: l, [] => a :: l
  | a :: l, b :: m => (a + b) :: adl l m
theorem dg_add (w : Nat) : ∀ l m : List Nat, dg w l + dg w m = dg w (adl l m)
  | [], m => by simp [adl, dg]
  | a :: l, [] => by simp [adl, dg]
  | a :: l, b :: m => by
    simp only [adl, dg, ← dg_add w l m, Nat.mul_add]
    omega
theorem dg_lt (w : Nat) : ∀ l : List Nat, (∀ d ∈ l, d < 2 ^ w) → dg w l < 2 ^ (w * l.length)
  | [], _ => by simp [dg]
  | d :: l, h => by
    have h1 := dg_lt w l fun x hx => h x (List.mem_cons_of_mem _ hx)
    have h2 := h d (List.mem_cons_self ..)
    simp only [dg, List.length_cons]
    rw [Nat.mul_succ, Nat.add_comm (w * l.length) w, Nat.pow_add]
    calc d + 2 ^ w * dg w l < 2 ^ w + 2 ^ w * dg w l := by omega
      _ = 2 ^ w * (dg w l + 1) := by rw [Nat.mul_succ, Nat.add_comm]
      _ ≤ 2 ^ w * 2 ^ (w * l.length) := Nat.mul_le_mul_left _ h1
theorem dg_shift (w : Nat) (d : Nat) (l : List Nat) (h : d < 2 ^ w) : dg w (d :: l) >>> w = dg w l := by
  rw [Nat.shiftRight_eq_div_pow]
  simp only [dg]
  rw [Nat.add_mul_div_left _ _ (Nat.two_pow_pos w), Nat.div_eq_of_lt h, Nat.zero_add]
theorem and_split (k a b c d : Nat) (ha : a < 2 ^ k) (hc : c < 2 ^ k) : (a + 2 ^ k * b) &&& (c + 2 ^ k * d) = (a &&& c) + 2 ^ k * (b &&& d) := by
  have hac : a &&& c < 2 ^ k := Nat.lt_of_le_of_lt Nat.and_le_left ha
  refine Nat.eq_of_testBit_eq fun i => ?_
  rw [Nat.testBit_and, Nat.add_comm a, Nat.add_comm c, Nat.add_comm (a &&& c), Nat.testBit_two_pow_mul_add _ ha, Nat.testBit_two_pow_mul_add _ hc, Nat.testBit_two_pow_mul_add _ hac]
  split
  · rw [Nat.testBit_and]
  · rw [Nat.testBit_and]
def mk2 (w n : Nat) : Nat := dg (2 * w) (List.replicate n (2 ^ w - 1))
theorem dg_and (w : Nat) : ∀ (n : Nat) (l : List Nat), (∀ d ∈ l, d < 2 ^ w) → l.length ≤ 2 * n → dg w l &&& mk2 w n = dg (2 * w) (evs l)
  | _, [], _, _ => by simp [dg, evs]
  | n + 1, [a], h, _ => by
    have ha := h a (List.mem_cons_self ..)
    have hw : 2 ^ w ≤ 2 ^ (2 * w) := Nat.pow_le_pow_right (by omega) (by omega)
    have := Nat.two_pow_pos w
    simp only [mk2, List.replicate_succ, dg, evs, Nat.mul_zero, Nat.add_zero]
    have h1 := and_split (2 * w) a 0 (2 ^ w - 1) (dg (2 * w) (List.replicate n (2 ^ w - 1))) (by omega) (by omega)
    rw [Nat.mul_zero, Nat.add_zero] at h1
    rw [h1, Nat.zero_and, Nat.mul_zero, Nat.add_zero, Nat.and_two_pow_sub_one_eq_mod, Nat.mod_eq_of_lt ha]
  | n + 1, a :: b :: l, h, hl => by
    have ha := h a (List.mem_cons_self ..)
    have hb := h b (List.mem_cons_of_mem _ (List.mem_cons_self ..))
    have hw : 2 ^ w ≤ 2 ^ (2 * w) := Nat.pow_le_pow_right (by omega) (by omega)
    have hp := Nat.two_pow_pos w
    have ih := dg_and w n l (fun d hd => h d (List.mem_cons_of_mem _ (List.mem_cons_of_mem _ hd))) (by simp only [List.length_cons] at hl; omega)
    have hsq : 2 ^ (2 * w) = 2 ^ w * 2 ^ w := by rw [Nat.two_mul, Nat.pow_add]
    have hab : a + 2 ^ w * b < 2 ^ (2 * w) := by
      rw [hsq]
      calc a + 2 ^ w * b < 2 ^ w + 2 ^ w * b := by omega
        _ = 2 ^ w * (b + 1) := by rw [Nat.mul_succ, Nat.add_comm]
        _ ≤ 2 ^ w * 2 ^ w := Nat.mul_le_mul_left _ hb
    simp only [mk2, List.replicate_succ, dg, evs] at ih ⊢
    rw [show a + 2 ^ w * (b + 2 ^ w * dg w l) = (a + 2 ^ w * b) + 2 ^ (2 * w) * dg w l by rw [hsq, Nat.mul_add, Nat.mul_assoc]; omega]
    rw [and_split (2 * w) _ _ _ _ hab (by omega), ih, Nat.and_two_pow_sub_one_eq_mod, Nat.add_mul_mod_self_left, Nat.mod_eq_of_lt ha]
  | 0, a :: l, _, hl => by simp only [List.length_cons] at hl; omega
theorem mem_evs {d : Nat} : ∀ {l : List Nat}, d ∈ evs l → d ∈ l
  | [], h => by simp [evs] at h
  | [a], h => by simpa [evs] using h
  | a :: b :: l, h => by
    simp only [evs, List.mem_cons] at h ⊢
    rcases h with h | h
    · exact .inl h
    · exact .inr (.inr (mem_evs h))
theorem adl_le {b c : Nat} : ∀ {l m : List Nat}, (∀ d ∈ l, d ≤ b) → (∀ d ∈ m, d ≤ c) → ∀ d ∈ adl l m, d ≤ b + c
  | [], m, _, hm, d, hd => by have := hm d (by simpa [adl] using hd); omega
  | x :: l, [], hl, _, d, hd => by have := hl d (by simpa [adl] using hd); omega
  | x :: l, y :: m, hl, hm, d, hd => by
    simp only [adl, List.mem_cons] at hd
    rcases hd with rfl | hd
    · have := hl x (List.mem_cons_self ..); have := hm y (List.mem_cons_self ..); omega
    · exact adl_le (fun d hd => hl d (List.mem_cons_of_mem _ hd)) (fun d hd => hm d (List.mem_cons_of_mem _ hd)) d hd
theorem sum_evs : ∀ l : List Nat, (evs l).sum + (evs l.tail).sum = l.sum
  | [] => rfl
  | [a] => by simp [evs]
  | a :: b :: l => by
    have := sum_evs l
    cases l with
    | nil => simp [evs]
    | cons c l =>
      simp only [List.tail_cons, evs, List.sum_cons] at this ⊢
      omega
theorem sum_adl : ∀ l m : List Nat, (adl l m).sum = l.sum + m.sum
  | [], m => by simp [adl]
  | a :: l, [] => by simp [adl]
  | a :: l, b :: m => by simp only [adl, List.sum_cons, sum_adl l m]; omega
theorem len_evs : ∀ l : List Nat, (evs l).length = (l.length + 1) / 2
  | [] => rfl
  | [a] => by simp [evs]
  | a :: b :: l => by simp only [evs, List.length_cons, len_evs l]; omega
theorem len_adl : ∀ l m : List Nat, (adl l m).length = max l.length m.length
  | [], m => by simp [adl]
  | a :: l, [] => by simp [adl]
  | a :: l, b :: m => by simp only [adl, List.length_cons, len_adl l m]; omega
/-- one step: two neighbours are added -/
def prs (l : List Nat) : List Nat := adl (evs l.tail) (evs l)
theorem prs_sum (l : List Nat) : (prs l).sum = l.sum := by rw [prs, sum_adl, Nat.add_comm, sum_evs]
theorem prs_le {b : Nat} {l : List Nat} (h : ∀ d ∈ l, d ≤ b) : ∀ d ∈ prs l, d ≤ 2 * b := fun d hd => by
  have := adl_le (fun d hd => h d (List.mem_of_mem_tail (mem_evs hd))) (fun d hd => h d (mem_evs hd)) d hd
  omega
theorem prs_len (l : List Nat) (h : 1 ≤ l.length) : (prs l).length = (l.length + 1) / 2 := by
  rw [prs, len_adl, len_evs, len_evs, List.length_tail]
  omega
theorem step_pr (w n : Nat) (l : List Nat) (b : Nat) (h : ∀ d ∈ l, d ≤ b) (hb : b < 2 ^ w) (hl : l.length = 2 * n) (h1 : 1 ≤ n) : (dg w l >>> w &&& mk2 w n) + (dg w l &&& mk2 w n) = dg (2 * w) (prs l) := by
  have hlt : ∀ d ∈ l, d < 2 ^ w := fun d hd => by have := h d hd; omega
  have hs : dg w l >>> w = dg w l.tail := by
    cases l with
    | nil => simp at hl; omega
    | cons a l => exact dg_shift w a l (hlt a (List.mem_cons_self ..))
  rw [hs, dg_and w n l hlt (by omega), dg_and w n l.tail (fun d hd => hlt d (List.mem_of_mem_tail hd)) (by rw [List.length_tail]; omega), dg_add]
  rfl
/-- as step_pr, with the mask put on last -/
theorem step_pr' (w n : Nat) (l : List Nat) (b : Nat) (h : ∀ d ∈ l, d ≤ b) (hb : b + b < 2 ^ w) (hl : l.length = 2 * n) (h1 : 1 ≤ n) : dg w l >>> w + dg w l < 2 ^ (w * (2 * n)) ∧ (dg w l >>> w + dg w l) &&& mk2 w n = dg (2 * w) (evs (adl l.tail l)) := by
  have hlt : ∀ d ∈ l, d < 2 ^ w := fun d hd => by have := h d hd; omega
  have hs : dg w l >>> w = dg w l.tail := by
    cases l with
    | nil => simp at hl; omega
    | cons a l => exact dg_shift w a l (hlt a (List.mem_cons_self ..))
  have hle : ∀ d ∈ adl l.tail l, d < 2 ^ w := fun d hd => by
    have := adl_le (fun d hd => h d (List.mem_of_mem_tail hd)) h d hd
    omega
  have hlen : (adl l.tail l).length = 2 * n := by rw [len_adl, List.length_tail]; omega
  rw [hs, dg_add]
  exact ⟨by have := dg_lt w _ hle; rwa [hlen] at this, dg_and w n _ hle (by omega)⟩
theorem dg_shift2 (w : Nat) : ∀ (k : Nat) (l : List Nat), (∀ d ∈ l, d < 2 ^ w) → k ≤ l.length → dg w l >>> (w * k) = dg w (l.drop k)
  | 0, l, _, _ => by simp
  | k + 1, [], _, hk => by simp at hk
  | k + 1, a :: l, h, hk => by
    rw [Nat.mul_succ, Nat.add_comm, Nat.shiftRight_add, dg_shift w a l (h a (List.mem_cons_self ..)), dg_shift2 w k l (fun d hd => h d (List.mem_cons_of_mem _ hd)) (by simpa using hk)]
    rfl
theorem bits_dg (g : Nat → Bool) : mkBits 64 g = dg 1 ((List.range 64).map fun i => (g i).toNat) := by
  have hb : ∀ d ∈ (List.range 64).map fun i => (g i).toNat, d < 2 ^ 1 := fun d hd => by
    obtain ⟨i, _, rfl⟩ := List.mem_map.1 hd
    cases g i <;> decide
  have hlt := dg_lt 1 _ hb
  symm
  refine eq_mk (by simpa using hlt) fun i hi => ?_
  have h1 := dg_shift2 1 i _ hb (by simp; omega)
  have h2 : (dg 1 ((List.range 64).map fun i => (g i).toNat)).testBit i = ((dg 1 ((List.range 64).map fun i => (g i).toNat)) >>> (1 * i)).testBit 0 := by
    rw [Nat.testBit_shiftRight]; simp
  rw [h2, h1]
  rw [show ((List.range 64).map fun i => (g i).toNat).drop i = (g i).toNat :: ((List.range 64).map fun i => (g i).toNat).drop (i + 1) by
    rw [List.drop_eq_getElem_cons (by simp; omega)]
    simp]
  simp only [dg]
  cases g i <;> simp [Nat.testBit_zero, Nat.add_mod]
theorem evs_adl : ∀ (l : List Nat) (n : Nat), l.length = 2 * n → (evs (adl l.tail l)).sum = l.sum
  | [], _, _ => rfl
  | [a], n, h => by simp only [List.length_cons, List.length_nil] at h; omega
  | [a, b], _, _ => by simp [evs, adl]; omega
  | [a, b, c], n, h => by simp only [List.length_cons, List.length_nil] at h; omega
  | a :: b :: c :: d :: l, n, h => by
    have := evs_adl (c :: d :: l) (n - 1) (by simp only [List.length_cons] at h ⊢; omega)
    simp only [List.tail_cons, adl, evs, List.sum_cons] at this ⊢
    omega
theorem len8 {l : List Nat} (h : l.length = 8) : ∃ a0 a1 a2 a3 a4 a5 a6 a7, l = [a0, a1, a2, a3, a4, a5, a6, a7] := by
  rcases l with _ | ⟨a0, _ | ⟨a1, _ | ⟨a2, _ | ⟨a3, _ | ⟨a4, _ | ⟨a5, _ | ⟨a6, _ | ⟨a7, _ | ⟨a8, l⟩⟩⟩⟩⟩⟩⟩⟩⟩ <;> simp only [List.length_cons, List.length_nil] at h <;> first | exact ⟨_, _, _, _, _, _, _, _, rfl⟩ | omega
theorem sum8 {l : List Nat} (h : l.length = 8) (hb : ∀ d ∈ l, d ≤ 8) : l.sum ≤ 64 ∧ dg 8 (adl (adl (adl l (l.drop 1)) ((adl l (l.drop 1)).drop 2)) ((adl (adl l (l.drop 1)) ((adl l (l.drop 1)).drop 2)).drop 4)) % 128 = l.sum ∧ dg 8 (adl (adl (adl l (l.drop 1)) ((adl l (l.drop 1)).drop 2)) ((adl (adl l (l.drop 1)) ((adl l (l.drop 1)).drop 2)).drop 4)) < 2 ^ 63 := by
  obtain ⟨a0, a1, a2, a3, a4, a5, a6, a7, rfl⟩ := len8 h
  simp only [List.mem_cons, List.not_mem_nil, or_false, forall_eq_or_imp, forall_eq] at hb
  obtain ⟨h0, h1, h2, h3, h4, h5, h6, h7⟩ := hb
  simp only [List.drop_succ_cons, List.drop_zero, adl, dg, List.sum_cons, List.sum_nil]
  refine ⟨by omega, by omega, by omega⟩
def cntB (g : Nat → Bool) : Nat := ((List.range 64).map fun i => (g i).toNat).sum
/-- the steps of OnesCount64 -/
theorem ones (g : Nat → Bool) : ∃ x1 x2 x3 x4 x5 : Nat,
    (mkBits 64 g >>> 1 &&& 6148914691236517205) + (mkBits 64 g &&& 6148914691236517205) = x1 ∧
    (x1 >>> 2 &&& 3689348814741910323) + (x1 &&& 3689348814741910323) = x2 ∧
    (x2 >>> 4 + x2) &&& 1085102592571150095 = x3 ∧ x3 + x3 >>> 8 = x4 ∧ x4 + x4 >>> 16 = x5 ∧ (x5 + x5 >>> 32) % 128 = cntB g ∧ cntB g ≤ 64 ∧
    x1 < 2 ^ 64 ∧ x2 < 2 ^ 64 ∧ x2 >>> 4 + x2 < 2 ^ 64 ∧ x4 < 2 ^ 64 ∧ x5 < 2 ^ 64 ∧ x5 + x5 >>> 32 < 2 ^ 63 := by
  rw [bits_dg g, cntB]
  have hb : ∀ d ∈ (List.range 64).map fun i => (g i).toNat, d ≤ 1 := fun d hd => by
    obtain ⟨i, _, rfl⟩ := List.mem_map.1 hd
    cases g i <;> decide
  have hl : ((List.range 64).map fun i => (g i).toNat).length = 64 := by simp
  generalize ((List.range 64).map fun i => (g i).toNat) = l0 at *
  have e1 := step_pr 1 32 l0 1 hb (by decide) hl (by decide)
  have b1 := prs_le hb
  have n1 : (prs l0).length = 32 := by rw [prs_len _ (by omega), hl]
  have s1 := prs_sum l0
  rw [show mk2 1 32 = 6148914691236517205 by decide] at e1
  generalize prs l0 = l1 at *
  have e2 := step_pr 2 16 l1 2 b1 (by decide) n1 (by decide)
  have b2 := prs_le b1
  have n2 : (prs l1).length = 16 := by rw [prs_len _ (by omega), n1]
  have s2 := prs_sum l1
  rw [show mk2 2 16 = 3689348814741910323 by decide] at e2
  have t1 : dg 2 l1 < 2 ^ 64 := by
    have := dg_lt 2 l1 fun d hd => by have := b1 d hd; omega
    rw [n1] at this; exact this
  generalize prs l1 = l2 at *
  obtain ⟨t3, e3⟩ := step_pr' 4 8 l2 4 b2 (by decide) n2 (by decide)
  rw [show mk2 4 8 = 1085102592571150095 by decide] at e3
  have t2 : dg 4 l2 < 2 ^ 64 := by
    have := dg_lt 4 l2 fun d hd => by have := b2 d hd; omega
    rw [n2] at this; exact this
  have b3 : ∀ d ∈ evs (adl l2.tail l2), d ≤ 8 := fun d hd => adl_le (fun d hd => b2 d (List.mem_of_mem_tail hd)) b2 d (mem_evs hd)
  have n3 : (evs (adl l2.tail l2)).length = 8 := by rw [len_evs, len_adl, List.length_tail, n2]; rfl
  have s3 : (evs (adl l2.tail l2)).sum = l2.sum := evs_adl l2 8 n2
  generalize evs (adl l2.tail l2) = l3 at *
  have e4 := dg_shift2 8 1 l3 (fun d hd => by have := b3 d hd; omega) (by omega)
  rw [Nat.mul_one] at e4
  have b4 : ∀ d ∈ adl l3 (l3.drop 1), d ≤ 16 := adl_le b3 fun d hd => b3 d (List.mem_of_mem_drop hd)
  have n4 : (adl l3 (l3.drop 1)).length = 8 := by rw [len_adl, List.length_drop, n3]; rfl
  have e5 := dg_shift2 8 2 (adl l3 (l3.drop 1)) (fun d hd => by have := b4 d hd; omega) (by omega)
  have b5 : ∀ d ∈ adl (adl l3 (l3.drop 1)) ((adl l3 (l3.drop 1)).drop 2), d ≤ 32 := adl_le b4 fun d hd => b4 d (List.mem_of_mem_drop hd)
  have n5 : (adl (adl l3 (l3.drop 1)) ((adl l3 (l3.drop 1)).drop 2)).length = 8 := by rw [len_adl, List.length_drop, n4]; rfl
  have e6 := dg_shift2 8 4 _ (fun d hd => by have := b5 d hd; omega) (show 4 ≤ (adl (adl l3 (l3.drop 1)) ((adl l3 (l3.drop 1)).drop 2)).length by omega)
  have b6 : ∀ d ∈ adl (adl (adl l3 (l3.drop 1)) ((adl l3 (l3.drop 1)).drop 2)) ((adl (adl l3 (l3.drop 1)) ((adl l3 (l3.drop 1)).drop 2)).drop 4), d ≤ 64 := adl_le b5 fun d hd => b5 d (List.mem_of_mem_drop hd)
  have t4 : dg 8 (adl l3 (l3.drop 1)) < 2 ^ 64 := by
    have := dg_lt 8 _ fun d hd => by have := b4 d hd; omega
    rw [n4] at this; exact this
  have t5 : dg 8 (adl (adl l3 (l3.drop 1)) ((adl l3 (l3.drop 1)).drop 2)) < 2 ^ 64 := by
    have := dg_lt 8 _ fun d hd => by have := b5 d hd; omega
    rw [n5] at this; exact this
  refine ⟨dg 2 l1, dg 4 l2, dg 8 l3, dg 8 (adl l3 (l3.drop 1)), dg 8 (adl (adl l3 (l3.drop 1)) ((adl l3 (l3.drop 1)).drop 2)), e1, e2, e3, by rw [e4, dg_add], by rw [e5, dg_add], ?_, ?_, t1, t2, t3, t4, t5, by rw [e6, dg_add]; exact (sum8 n3 b3).2.2⟩
  · rw [e6, dg_add, (sum8 n3 b3).2.1, s3, s2, s1]
  · rw [← s1, ← s2, ← s3]
    exact (sum8 n3 b3).1
end Go.Proofs.YtekhodpmpjehaaaDoor
/-! text RN10 -/
namespace Go.Proofs.YtekhodpmpjehaaaDoor
open Go.Vsi

/-! ### valuations, in plain words -/
theorem ev_has {r s : UInt8 → Bool} : ∀ f : Fm, (∀ c, f.has c → r c = s c) → f.ev r = f.ev s
  | .at c, h => h c rfl
  | .fa, _ => rfl
  | .f1 _ a, h => congrArg (fun b => !b) (ev_has a h)
  | .f2 k a b, h => by
    simp only [Fm.ev, ev_has a fun c hc => h c (.inl hc), ev_has b fun c hc => h c (.inr hc)]
def upd (r : UInt8 → Bool) (c : UInt8) (b : Bool) : UInt8 → Bool := fun d => if d = c then b else r d
/-- of the names l alone -/
def Dep (l : List UInt8) (P : (UInt8 → Bool) → Bool) : Prop := ∀ r s, (∀ c ∈ l, r c = s c) → P r = P s
theorem dep_ev {l : List UInt8} {f : Fm} (h : f.In l) : ∀ r s, (∀ c ∈ l, r c = s c) → f.ev r = f.ev s := fun _ _ e => ev_has f fun c hc => e c ((in_iff l f).1 h c hc)
theorem Dep.mono {l m : List UInt8} {P : (UInt8 → Bool) → Bool} (h : Dep l P) (hs : ∀ c ∈ l, c ∈ m) : Dep m P := fun r s e => h r s fun c hc => e c (hs c hc)
theorem vb_cons_self (c : UInt8) (l : List UInt8) (v : Nat) : vb (c :: l) v c = v.testBit l.length := by
  simp [vb, ixN]
theorem vb_cons_of {c d : UInt8} (l : List UInt8) (v : Nat) (h : d ≠ c) : vb (c :: l) v d = v.testBit (l.length - (ixN l d + 1)) := by
  unfold vb ixN
  rw [List.idxOf_cons]
  have : (c == d) = false := by simpa using fun e => h e.symm
  simp [this]
theorem vb_cons_ne {c d : UInt8} (l : List UInt8) (v : Nat) (h : d ≠ c) : vb (c :: l) v d = vb l v d := by
  rw [vb_cons_of l v h]
  unfold vb
  congr 1
  omega
theorem vb_high {l : List UInt8} {d : UInt8} (hd : d ∈ l) (v w : Nat) : vb l (2 ^ l.length * w + v % 2 ^ l.length) d = vb l v d := by
  have hi : ixN l d < l.length := List.idxOf_lt_length_of_mem hd
  unfold vb
  rw [Nat.testBit_two_pow_mul_add _ (Nat.mod_lt _ (Nat.two_pow_pos _)), if_pos (by omega), Nat.testBit_mod_two_pow]
  simp
  omega
/-- the number of a valuation -/
def vOf (r : UInt8 → Bool) : List UInt8 → Nat
  | [] => 0
  | c :: l => 2 ^ l.length * (r c).toNat + vOf r l
theorem vOf_lt (r : UInt8 → Bool) : ∀ l, vOf r l < 2 ^ l.length
  | [] => by simp [vOf]
  | c :: l => by
    have := vOf_lt r l
    simp only [vOf, List.length_cons, Nat.pow_succ]
    cases r c <;> simp <;> omega
theorem vb_vOf (r : UInt8 → Bool) : ∀ (l : List UInt8) (c : UInt8), c ∈ l → vb l (vOf r l) c = r c
  | a :: l, c, h => by
    have hlt := vOf_lt r l
    by_cases e : c = a
    · subst e
      rw [vb_cons_self]
      simp only [vOf]
      rw [Nat.testBit_two_pow_mul_add _ hlt]
      cases r c <;> simp
    · have hc : c ∈ l := (List.mem_cons.1 h).resolve_left e
      rw [vb_cons_ne _ _ e]
      have := vb_high hc (vOf r l) (r a).toNat
      rw [Nat.mod_eq_of_lt hlt] at this
      simp only [vOf]
      rw [this, vb_vOf r l c hc]
theorem all_vb {l : List UInt8} {P : (UInt8 → Bool) → Bool} (h : Dep l P) (b : Bool) : (∀ v, v < 2 ^ l.length → P (vb l v) = b) ↔ ∀ r, P r = b :=
  ⟨fun e r => by rw [← e _ (vOf_lt r l)]; exact h _ _ fun c hc => (vb_vOf r l c hc).symm, fun e v _ => e _⟩
theorem names_in {l : List Fm} {f : Fm} (h : f ∈ l) : f.In (namesL l) := namesL_in l f h
theorem all_eq {α : Type} {p q : α → Bool} : ∀ l : List α, (∀ x ∈ l, p x = q x) → l.all p = l.all q
  | [], _ => rfl
  | x :: l, h => by
    simp only [List.all_cons, h x (List.mem_cons_self ..), all_eq l fun y hy => h y (List.mem_cons_of_mem _ hy)]
/-- what Falsify looks for -/
def falR (L R : List Fm) (r : UInt8 → Bool) : Bool := (L.all fun f => f.ev r) && R.all fun f => !f.ev r
theorem dep_fal (L R : List Fm) : Dep (namesL (L ++ R)) (falR L R) := fun r s e => by
  have hf : ∀ f ∈ L ++ R, f.ev r = f.ev s := fun f hf => dep_ev (names_in hf) r s e
  unfold falR
  rw [all_eq L fun f h => hf f (List.mem_append_left _ h), all_eq (p := fun f => !f.ev r) (q := fun f => !f.ev s) R fun f h => congrArg (fun b => !b) (hf f (List.mem_append_right _ h))]
theorem fal_none (L R : List Fm) : falV L R = none ↔ ∀ r, falR L R r = false := by
  rw [← all_vb (dep_fal L R) false]
  unfold falV
  rw [List.find?_range_eq_none]
  constructor
  · intro h v hv
    have : (!falR L R (vb (namesL (L ++ R)) v)) = true := h v hv
    simpa using this
  · intro h v hv
    have := h v hv
    show (!falR L R (vb (namesL (L ++ R)) v)) = true
    rw [this]; rfl
theorem eqAll_iff (f g : Fm) : eqAll f g = true ↔ ∀ r, f.ev r = g.ev r := by
  have hd : Dep (namesL [f, g]) fun r => f.ev r == g.ev r := fun r s e => by
    show (f.ev r == g.ev r) = (f.ev s == g.ev s)
    rw [dep_ev (names_in (show f ∈ [f, g] by simp)) r s e, dep_ev (names_in (show g ∈ [f, g] by simp)) r s e]
  have := all_vb hd true
  simp only [beq_iff_eq] at this
  rw [← this]
  unfold eqAll
  simp only [List.all_eq_true, List.mem_range, beq_iff_eq]

/-! ### how many valuations -/
def cP (l : List UInt8) (P : (UInt8 → Bool) → Bool) : Nat := (List.range (2 ^ l.length)).countP fun v => P (vb l v)
theorem cP_cons (c : UInt8) (l : List UInt8) (P : (UInt8 → Bool) → Bool) (hc : c ∉ l) (hd : Dep (c :: l) P) : cP (c :: l) P = cP l (fun r => P (upd r c false)) + cP l (fun r => P (upd r c true)) := by
  unfold cP
  rw [List.length_cons, Nat.pow_succ, Nat.mul_two, List.range_add, List.countP_append, List.countP_map]
  have key : ∀ (b : Bool) (v : Nat), v < 2 ^ l.length → P (vb (c :: l) (2 ^ l.length * b.toNat + v)) = P (upd (vb l v) c b) := fun b v hv => by
    refine hd _ _ fun d hdm => ?_
    unfold upd
    by_cases e : d = c
    · subst e
      rw [if_pos rfl, vb_cons_self, Nat.testBit_two_pow_mul_add _ hv]
      cases b <;> simp
    · rw [if_neg e, vb_cons_ne _ _ e]
      have := vb_high ((List.mem_cons.1 hdm).resolve_left e) v b.toNat
      rwa [Nat.mod_eq_of_lt hv] at this
  congr 1
  · refine List.countP_congr fun v hv => ?_
    have := key false v (List.mem_range.1 hv)
    simp only [Bool.toNat_false, Nat.mul_zero, Nat.zero_add] at this
    rw [this]
  · refine List.countP_congr fun v hv => ?_
    have := key true v (List.mem_range.1 hv)
    simp only [Bool.toNat_true, Nat.mul_one] at this
    simp only [Function.comp]
    rw [this]
theorem cP_wide {l L : List UInt8} (h : l.Sublist L) : L.Nodup → ∀ P, Dep l P → cP L P = 2 ^ (L.length - l.length) * cP l P := by
  induction h with
  | slnil => intro _ P _; simp
  | @cons l L c hs ih =>
    intro hn P hd
    have hc : c ∉ L := (List.nodup_cons.1 hn).1
    have hcl : c ∉ l := fun h => hc (hs.subset h)
    have hu : ∀ b, (fun r => P (upd r c b)) = P := fun b => funext fun r => hd _ _ fun d hdm => by
      show (if d = c then b else r d) = r d
      rw [if_neg]
      rintro rfl
      exact hcl hdm
    rw [cP_cons c L P hc (hd.mono fun d h => List.mem_cons_of_mem _ (hs.subset h)), hu, hu, ih (List.nodup_cons.1 hn).2 P hd]
    have := hs.length_le
    rw [List.length_cons, show L.length + 1 - l.length = (L.length - l.length) + 1 by omega, Nat.pow_succ, Nat.mul_two, Nat.add_mul]
  | @cons_cons l L c hs ih =>
    intro hn P hd
    have hc : c ∉ L := (List.nodup_cons.1 hn).1
    have hcl : c ∉ l := fun h => hc (hs.subset h)
    have hdu : ∀ b, Dep l fun r => P (upd r c b) := fun b r s e => hd _ _ fun d hdm => by
      unfold upd
      split
      · rfl
      · rename_i hne
        exact e d ((List.mem_cons.1 hdm).resolve_left hne)
    rw [cP_cons c L P hc (hd.mono fun d h => by
      rcases List.mem_cons.1 h with h | h
      · exact h ▸ List.mem_cons_self ..
      · exact List.mem_cons_of_mem _ (hs.subset h)), cP_cons c l P hcl hd, ih (List.nodup_cons.1 hn).2 _ (hdu false), ih (List.nodup_cons.1 hn).2 _ (hdu true)]
    rw [List.length_cons, List.length_cons, Nat.add_sub_add_right, Nat.mul_add]
/-- sorted lists with the same members -/
theorem sorted_ext : ∀ {l m : List UInt8}, l.Pairwise (· < ·) → m.Pairwise (· < ·) → (∀ c, c ∈ l ↔ c ∈ m) → l = m
  | [], [], _, _, _ => rfl
  | [], b :: m, _, _, h => absurd ((h b).2 (List.mem_cons_self ..)) (by simp)
  | a :: l, [], _, _, h => absurd ((h a).1 (List.mem_cons_self ..)) (by simp)
  | a :: l, b :: m, hl, hm, h => by
    have hl' := List.pairwise_cons.1 hl
    have hm' := List.pairwise_cons.1 hm
    have hab : a = b := by
      rcases List.mem_cons.1 ((h a).1 (List.mem_cons_self ..)) with e | e
      · exact e
      · rcases List.mem_cons.1 ((h b).2 (List.mem_cons_self ..)) with e2 | e2
        · exact e2.symm
        · exact absurd (UInt8.lt_trans (hl'.1 b e2) (hm'.1 a e)) (UInt8.lt_irrefl _)
    subst hab
    refine congrArg _ (sorted_ext hl'.2 hm'.2 fun c => ?_)
    constructor
    · intro hc
      rcases List.mem_cons.1 ((h c).1 (List.mem_cons_of_mem _ hc)) with e | e
      · exact absurd (hl'.1 c hc) (e ▸ UInt8.lt_irrefl _)
      · exact e
    · intro hc
      rcases List.mem_cons.1 ((h c).2 (List.mem_cons_of_mem _ hc)) with e | e
      · exact absurd (hm'.1 c hc) (e ▸ UInt8.lt_irrefl _)
      · exact e
theorem lets_lt : lets.Pairwise (· < ·) := by decide
theorem lets_nodup : lets.Nodup := by decide
theorem namesL_lt (l : List Fm) : (namesL l).Pairwise (· < ·) := sortU_lt (addL_nodup l List.nodup_nil)
theorem names_sub (l : List Fm) (h : ∀ f ∈ l, f.In lets) : (namesL l).Sublist lets := by
  have : namesL l = lets.filter fun c => decide (c ∈ namesL l) := sorted_ext (namesL_lt l) (lets_lt.filter _) fun c => by
    simp only [List.mem_filter, decide_eq_true_eq]
    refine ⟨fun hc => ⟨?_, hc⟩, fun hc => hc.2⟩
    obtain ⟨f, hf, hh⟩ := (mem_namesL c l).1 hc
    exact (in_iff lets f).1 (h f hf) c hh
  rw [this]
  exact List.filter_sublist
theorem names_12 (l : List Fm) (h : ∀ f ∈ l, f.In lets) : (namesL l).length ≤ 12 := (names_sub l h).length_le
end Go.Proofs.YtekhodpmpjehaaaDoor
/-! text RM10 -/
namespace Go.Proofs.YtekhodpmpjehaaaDoor
open Go.Vsi
set_option maxHeartbeats 4000000
attribute [local irreducible] VW VCall VO bits

/-! ### Built -/
def encB (x : Nat) : List AV := [.int .u8 x]
theorem encB_below (n : Nat) (l : List Nat) : belowL n (l.flatMap encB) := belowL_flat _ fun x => by simp [encB, belowL, below]
theorem fms_below (n : Nat) (l : List Fm) : belowL n (l.flatMap Fm.cells) := belowL_flat _ fun x => by simp [Fm.cells, belowL, below, Fm.sc_below]
def gF (S : List Fm) (i : Nat) : Fm := S.getD i .fa
def letN (b : Nat) : UInt8 := lets.getD (b / 8 % 12) 0
def stpC (S : List Fm) (b c : Nat) : List Fm := match c with
  | 0 => S ++ [.at (letN b)]
  | 1 => S ++ [.at (letN b)]
  | 2 => if 1 ≤ S.length then S.take (S.length - 1) ++ [.f1 3 (gF S (S.length - 1))] else S
  | 3 => if 2 ≤ S.length then S.take (S.length - 2) ++ [.f2 4 (gF S (S.length - 2)) (gF S (S.length - 1))] else S
  | 4 => if 2 ≤ S.length then S.take (S.length - 2) ++ [.f2 5 (gF S (S.length - 2)) (gF S (S.length - 1))] else S
  | 5 => if 2 ≤ S.length then S.take (S.length - 2) ++ [.f2 6 (gF S (S.length - 2)) (gF S (S.length - 1))] else S
  | 6 => if 2 ≤ S.length then S.take (S.length - 2) ++ [.f2 7 (gF S (S.length - 2)) (gF S (S.length - 1))] else S
  | 7 => S ++ [.fa]
  | _ => S
def stp (S : List Fm) (b : Nat) : List Fm := stpC S b (b % 8)
def bst (l : List Nat) : List Fm := l.foldl stp []
theorem stp_len (S : List Fm) (b : Nat) : (stp S b).length ≤ S.length + 1 := by
  unfold stp stpC
  split
  all_goals try split
  all_goals try simp only [List.length_append, List.length_take, List.length_cons, List.length_nil]
  all_goals omega
theorem foldl_take {β : Type} (f : β → Nat → β) (b : β) (l : List Nat) (k : Nat) (h : k < l.length) : (l.take (k + 1)).foldl f b = f ((l.take k).foldl f b) (l.getD k 0) := by
  rw [List.take_add_one, List.getElem?_eq_getElem h, List.foldl_append]
  simp [List.getD_eq_getElem?_getD, List.getElem?_eq_getElem h]
theorem bst_succ (l : List Nat) (k : Nat) (h : k < l.length) : bst (l.take (k + 1)) = stp (bst (l.take k)) (l.getD k 0) := foldl_take _ _ _ k h
theorem bst_len (l : List Nat) : ∀ k, (bst (l.take k)).length ≤ k
  | 0 => by simp [bst]
  | k + 1 => by
    by_cases h : k < l.length
    · rw [bst_succ l k h]
      have := stp_len (bst (l.take k)) (l.getD k 0)
      have := bst_len l k
      omega
    · have := bst_len l k
      rw [List.take_of_length_le (by omega)] at this ⊢
      omega
/-- what Built makes of a stack -/
def andN (S : List Fm) : Nat → Fm
  | 0 => gF S 0
  | j + 1 => .f2 4 (andN S j) (gF S (j + 1))
def finF (S : List Fm) : Fm := if S.length = 0 then .at 130 else andN S (S.length - 1)
def bltF (l : List Nat) : Fm := finF (bst (l.take 30))
theorem atA_c (H : Heap) : VDet Tryd.prog 22 [.str ⟨#[65]⟩] H (.agg (Fm.at 130).cells) := by
  have := atom_c 130 H
  rwa [show nm 130 = ⟨#[65]⟩ by kernel_rfl] at this
theorem letN_at (b : Nat) : lets.getD (b / 8 % 12) 0 = letN b := rfl
theorem built_c (l : List Nat) (hl : l.length ≤ 9223372036854775807) (hb : ∀ i, i < l.length → l.getD i 0 ≤ 255) (H : Heap) : VDet Tryd.prog 11 [.sl none l.length (l.flatMap encB)] H (.agg (bltF l).cells) := by
  refine fn_det Tryd.E0 Tryd.mx Tryd.func11 (by kernel_rfl) rfl (Nat.le_of_ble_eq_true rfl) rfl fun hcl hbl => ?_
  (repeat' ((conv => whnf); (first | refine DrawN.mk' [] ?_ | fail))); all_goals (conv => whnf)
  refine loop_T Tryd.E0 Tryd.mx (σ := Nat) (fun i => i ≤ l.length ∧ i ≤ 30) (fun i => 30 - i) (fun i => [(4, .v (.int .i64 i))]) (fun _ => _) _ 0 3 28 4 (fun i => (bst (l.take i)).length) (fun i => (bst (l.take i)).flatMap Fm.cells) rfl hcl [0, 2] rfl ⟨Nat.zero_le _, Nat.zero_le _⟩ ⟨⟨_, rfl, Wk.refl _⟩, trivial⟩ rfl (fun _ _ => rfl) rfl rfl rfl ?_
  rintro i ⟨hi, hi20⟩
  clear hbl
  have hn := bst_len l i
  by_cases hlt : i < l.length ∧ i < 30
  · obtain ⟨hil, hi2⟩ := hlt
    have hop := hb i hil
    have hS := bst_succ l i hil
    generalize bst (l.take i) = S at hn hS ⊢
    obtain ⟨c, hc, hc12⟩ : ∃ c, l.getD i 0 % 8 = c ∧ c < 8 := ⟨_, rfl, Nat.mod_lt _ (by decide)⟩
    unfold stp at hS
    rw [hc] at hS
    have hk12 : l.getD i 0 / 8 % 12 < 12 := Nat.mod_lt _ (by decide)
    have hq : ((l.getD i 0 / 8 % (2 ^ IntKind.u8.bits : Int).natAbs : Nat) : Int) % 12 = ((l.getD i 0 / 8 % 12 : Nat) : Int) := by
      show ((l.getD i 0 / 8 % 256 : Nat) : Int) % 12 = _
      omega
    have : c = 0 ∨ c = 1 ∨ c = 2 ∨ c = 3 ∨ c = 4 ∨ c = 5 ∨ c = 6 ∨ c = 7 := by omega
    rcases this with rfl | rfl | rfl | rfl | rfl | rfl | rfl | rfl
    · (repeat' ((conv => whnf); (first | (refine IfN.id ?_; first | refine IfN.tt rfl ?_ | refine IfN.dT (by omega) ?_ | fail) | (refine EqN.id ?_; first | refine EqN.remC _ rfl rfl hc ?_ | (refine EqN.addN _ _ (by first | with_reducible rfl | with_reducible exact cst1 | with_reducible exact cst0 | with_reducible exact cst2 | with_reducible exact cst3 | with_reducible exact cst4 | with_reducible exact cst5 | with_reducible exact cst6 | with_reducible exact cst7 | with_reducible exact cst8 | with_reducible exact cst14 | with_reducible exact cst15 | with_reducible exact cst25 | with_reducible exact cst30 | with_reducible exact cst31 | fail) (by first | with_reducible rfl | with_reducible exact cst1 | with_reducible exact cst0 | with_reducible exact cst2 | with_reducible exact cst3 | with_reducible exact cst4 | with_reducible exact cst5 | with_reducible exact cst6 | with_reducible exact cst7 | with_reducible exact cst8 | with_reducible exact cst14 | with_reducible exact cst15 | with_reducible exact cst25 | with_reducible exact cst30 | with_reducible exact cst31 | fail) ?_ ?_; · (repeat' (first | omega | refine And.intro ?_ ?_ | exact bnd_andl (by omega) | exact bnd_andr (by omega) | refine bnd_or ?_ ?_ | refine bnd_or31 ?_ ?_ | refine bnd_xor ?_ ?_ | refine bnd_xor31 ?_ ?_ | refine bnd_shr ?_ | refine bnd_shl ?_ ?_ | refine bnd_mod ?_ | refine bnd_andl ?_ | fail))) | refine EqN.remN _ _ (by first | with_reducible rfl | with_reducible exact cst1 | with_reducible exact cst0 | with_reducible exact cst2 | with_reducible exact cst3 | with_reducible exact cst4 | with_reducible exact cst5 | with_reducible exact cst6 | with_reducible exact cst7 | with_reducible exact cst8 | with_reducible exact cst14 | with_reducible exact cst15 | with_reducible exact cst25 | with_reducible exact cst30 | with_reducible exact cst31 | fail) (by first | with_reducible rfl | with_reducible exact cst1 | with_reducible exact cst0 | with_reducible exact cst2 | with_reducible exact cst3 | with_reducible exact cst4 | with_reducible exact cst5 | with_reducible exact cst6 | with_reducible exact cst7 | with_reducible exact cst8 | with_reducible exact cst14 | with_reducible exact cst15 | with_reducible exact cst25 | with_reducible exact cst30 | with_reducible exact cst31 | fail) ?_ | refine EqN.rem (by omega) ?_ | fail) | (refine SideN.mk ?_ ?_; · first | kernel_rfl | omega | exact List.cons_ne_nil _ _ | (simp; done) | (simp; omega) | exact trivial | assumption | fail) | (refine CallD.id ?_; first | refine CallD.det _ (fun _ hq X => letters_c _) ?_ | refine CallD.det _ (fun _ hq X => atom_c (letN (l.getD i 0)) _) ?_ | fail) | refine SegN.nth 0 i rfl (by omega) (fun _ => rfl) ?_ | refine SegN.nth (f := encS) (l := lets) 0 (l.getD i 0 / 8 % 12) hq hk12 (fun _ => rfl) ?_ | refine SideN.mk ⟨rfl, rfl, rfl, by dsimp only; omega, by simp only [maxLen]; omega⟩ ?_ | (refine PtrN.id ?_; first | refine PtrN.loc _ rfl ?_ | fail) | refine DrawN.mk' [] ?_ | fail))); all_goals (conv => whnf)
      refine ⟨⟨i + 1, 1, _, _, _, ⟨by omega, by omega⟩, by omega, ⟨⟨_, rfl, Wk.refl _⟩, trivial⟩, ⟨⟨_, rfl, Wk.refl _⟩, ⟨_, rfl, Wk.refl _⟩, trivial⟩, rfl, rfl, ?_, ?_, by omega, rfl, rfl, ⟨_, rfl⟩, by simp [belowRE, below, tr], by simp [belowH, Blk.below, belowL, below], fms_below _ _⟩⟩
      all_goals rw [hS]; simp [stpC, gF, Fm.cells]; try omega
    · (repeat' ((conv => whnf); (first | (refine IfN.id ?_; first | refine IfN.tt rfl ?_ | refine IfN.dT (by omega) ?_ | fail) | (refine EqN.id ?_; first | refine EqN.remC _ rfl rfl hc ?_ | (refine EqN.addN _ _ (by first | with_reducible rfl | with_reducible exact cst1 | with_reducible exact cst0 | with_reducible exact cst2 | with_reducible exact cst3 | with_reducible exact cst4 | with_reducible exact cst5 | with_reducible exact cst6 | with_reducible exact cst7 | with_reducible exact cst8 | with_reducible exact cst14 | with_reducible exact cst15 | with_reducible exact cst25 | with_reducible exact cst30 | with_reducible exact cst31 | fail) (by first | with_reducible rfl | with_reducible exact cst1 | with_reducible exact cst0 | with_reducible exact cst2 | with_reducible exact cst3 | with_reducible exact cst4 | with_reducible exact cst5 | with_reducible exact cst6 | with_reducible exact cst7 | with_reducible exact cst8 | with_reducible exact cst14 | with_reducible exact cst15 | with_reducible exact cst25 | with_reducible exact cst30 | with_reducible exact cst31 | fail) ?_ ?_; · (repeat' (first | omega | refine And.intro ?_ ?_ | exact bnd_andl (by omega) | exact bnd_andr (by omega) | refine bnd_or ?_ ?_ | refine bnd_or31 ?_ ?_ | refine bnd_xor ?_ ?_ | refine bnd_xor31 ?_ ?_ | refine bnd_shr ?_ | refine bnd_shl ?_ ?_ | refine bnd_mod ?_ | refine bnd_andl ?_ | fail))) | refine EqN.remN _ _ (by first | with_reducible rfl | with_reducible exact cst1 | with_reducible exact cst0 | with_reducible exact cst2 | with_reducible exact cst3 | with_reducible exact cst4 | with_reducible exact cst5 | with_reducible exact cst6 | with_reducible exact cst7 | with_reducible exact cst8 | with_reducible exact cst14 | with_reducible exact cst15 | with_reducible exact cst25 | with_reducible exact cst30 | with_reducible exact cst31 | fail) (by first | with_reducible rfl | with_reducible exact cst1 | with_reducible exact cst0 | with_reducible exact cst2 | with_reducible exact cst3 | with_reducible exact cst4 | with_reducible exact cst5 | with_reducible exact cst6 | with_reducible exact cst7 | with_reducible exact cst8 | with_reducible exact cst14 | with_reducible exact cst15 | with_reducible exact cst25 | with_reducible exact cst30 | with_reducible exact cst31 | fail) ?_ | refine EqN.rem (by omega) ?_ | fail) | (refine SideN.mk ?_ ?_; · first | kernel_rfl | omega | exact List.cons_ne_nil _ _ | (simp; done) | (simp; omega) | exact trivial | assumption | fail) | (refine CallD.id ?_; first | refine CallD.det _ (fun _ hq X => letters_c _) ?_ | refine CallD.det _ (fun _ hq X => atom_c (letN (l.getD i 0)) _) ?_ | fail) | refine SegN.nth 0 i rfl (by omega) (fun _ => rfl) ?_ | refine SegN.nth (f := encS) (l := lets) 0 (l.getD i 0 / 8 % 12) hq hk12 (fun _ => rfl) ?_ | refine SideN.mk ⟨rfl, rfl, rfl, by dsimp only; omega, by simp only [maxLen]; omega⟩ ?_ | (refine PtrN.id ?_; first | refine PtrN.loc _ rfl ?_ | fail) | refine DrawN.mk' [] ?_ | fail))); all_goals (conv => whnf)
      refine ⟨⟨i + 1, 1, _, _, _, ⟨by omega, by omega⟩, by omega, ⟨⟨_, rfl, Wk.refl _⟩, trivial⟩, ⟨⟨_, rfl, Wk.refl _⟩, ⟨_, rfl, Wk.refl _⟩, trivial⟩, rfl, rfl, ?_, ?_, by omega, rfl, rfl, ⟨_, rfl⟩, by simp [belowRE, below, tr], by simp [belowH, Blk.below, belowL, below], fms_below _ _⟩⟩
      all_goals rw [hS]; simp [stpC, gF, Fm.cells]; try omega
    · (repeat' ((conv => whnf); (first | (refine IfN.id ?_; first | refine IfN.tt rfl ?_ | refine IfN.ff rfl ?_ | refine IfN.dT (by omega) ?_ | refine IfN.dec (fun _ => ?_) (fun _ => ?_) | fail) | (refine EqN.id ?_; first | refine EqN.remC _ rfl rfl hc ?_ | (refine EqN.addN _ _ (by first | with_reducible rfl | with_reducible exact cst1 | with_reducible exact cst0 | with_reducible exact cst2 | with_reducible exact cst3 | with_reducible exact cst4 | with_reducible exact cst5 | with_reducible exact cst6 | with_reducible exact cst7 | with_reducible exact cst8 | with_reducible exact cst14 | with_reducible exact cst15 | with_reducible exact cst25 | with_reducible exact cst30 | with_reducible exact cst31 | fail) (by first | with_reducible rfl | with_reducible exact cst1 | with_reducible exact cst0 | with_reducible exact cst2 | with_reducible exact cst3 | with_reducible exact cst4 | with_reducible exact cst5 | with_reducible exact cst6 | with_reducible exact cst7 | with_reducible exact cst8 | with_reducible exact cst14 | with_reducible exact cst15 | with_reducible exact cst25 | with_reducible exact cst30 | with_reducible exact cst31 | fail) ?_ ?_; · (repeat' (first | omega | refine And.intro ?_ ?_ | exact bnd_andl (by omega) | exact bnd_andr (by omega) | refine bnd_or ?_ ?_ | refine bnd_or31 ?_ ?_ | refine bnd_xor ?_ ?_ | refine bnd_xor31 ?_ ?_ | refine bnd_shr ?_ | refine bnd_shl ?_ ?_ | refine bnd_mod ?_ | refine bnd_andl ?_ | fail))) | (refine EqN.subN _ _ (by first | with_reducible rfl | with_reducible exact cst1 | with_reducible exact cst0 | with_reducible exact cst2 | with_reducible exact cst3 | with_reducible exact cst4 | with_reducible exact cst5 | with_reducible exact cst6 | with_reducible exact cst7 | with_reducible exact cst8 | with_reducible exact cst14 | with_reducible exact cst15 | with_reducible exact cst25 | with_reducible exact cst30 | with_reducible exact cst31 | fail) (by first | with_reducible rfl | with_reducible exact cst1 | with_reducible exact cst0 | with_reducible exact cst2 | with_reducible exact cst3 | with_reducible exact cst4 | with_reducible exact cst5 | with_reducible exact cst6 | with_reducible exact cst7 | with_reducible exact cst8 | with_reducible exact cst14 | with_reducible exact cst15 | with_reducible exact cst25 | with_reducible exact cst30 | with_reducible exact cst31 | fail) ?_ ?_; · (repeat' (first | omega | refine And.intro ?_ ?_ | exact bnd_andl (by omega) | exact bnd_andr (by omega) | refine bnd_or ?_ ?_ | refine bnd_or31 ?_ ?_ | refine bnd_xor ?_ ?_ | refine bnd_xor31 ?_ ?_ | refine bnd_shr ?_ | refine bnd_shl ?_ ?_ | refine bnd_mod ?_ | refine bnd_andl ?_ | fail))) | fail) | (refine SideN.mk ?_ ?_; · first | kernel_rfl | omega | exact List.cons_ne_nil _ _ | (simp; done) | (simp; omega) | exact trivial | assumption | fail) | refine NatN.mk _ rfl ?_ | (refine CallD.id ?_; first | refine CallD.det _ (fun _ hq X => VDet.wk (join1_c 3 (gF S (S.length - 1)) _) ⟨Wk.refl _, wk_sx _ _, trivial⟩) ?_ | fail) | refine SegN.nth 0 i rfl (by omega) (fun _ => rfl) ?_ | refine SegN.nth Fm.fa (S.length - 1) (by omega) (by omega) (fun _ => rfl) ?_ | refine SubN.flat (lo := 0) (n := S.length - 1 - 0) (fun _ => rfl) (by omega) ?_ | refine OrN.l ?_ | refine SideN.mk ⟨Nat.le_of_ble_eq_true rfl, by rw [flat_length (sz := 4) (fun _ => rfl)]; simp; done, rfl, by dsimp only; omega, by simp only [maxLen]; omega⟩ ?_ | refine DrawN.mk' [] ?_ | fail))); all_goals (conv => whnf)
      · refine ⟨⟨i + 1, 2, _, _, _, ⟨by omega, by omega⟩, by omega, ⟨⟨_, rfl, Wk.refl _⟩, trivial⟩, ⟨⟨_, rfl, Wk.refl _⟩, ⟨_, rfl, Wk.refl _⟩, trivial⟩, rfl, rfl, ?_, ?_, by omega, rfl, rfl, ⟨_, rfl⟩, by simp [belowRE, below, tr], by simp [belowH, Blk.below, belowL, below], fms_below _ _⟩⟩
        all_goals rw [hS]; simp [stpC, gF, Fm.cells, show 1 ≤ S.length by omega]; try omega
      · refine ⟨⟨i + 1, 1, _, _, _, ⟨by omega, by omega⟩, by omega, ⟨⟨_, rfl, Wk.refl _⟩, trivial⟩, ⟨⟨_, rfl, Wk.refl _⟩, ⟨_, rfl, Wk.refl _⟩, trivial⟩, rfl, rfl, ?_, ?_, by omega, rfl, rfl, ⟨_, rfl⟩, by simp [belowRE, below, tr], by simp [belowH, Blk.below, belowL, below], fms_below _ _⟩⟩
        all_goals rw [hS]; simp [stpC, gF, Fm.cells, show ¬ 1 ≤ S.length by omega]; try omega
    · (repeat' ((conv => whnf); (first | (refine IfN.id ?_; first | refine IfN.tt rfl ?_ | refine IfN.ff rfl ?_ | refine IfN.dT (by omega) ?_ | refine IfN.dec (fun _ => ?_) (fun _ => ?_) | fail) | (refine EqN.id ?_; first | refine EqN.remC _ rfl rfl hc ?_ | (refine EqN.addN _ _ (by first | with_reducible rfl | with_reducible exact cst1 | with_reducible exact cst0 | with_reducible exact cst2 | with_reducible exact cst3 | with_reducible exact cst4 | with_reducible exact cst5 | with_reducible exact cst6 | with_reducible exact cst7 | with_reducible exact cst8 | with_reducible exact cst14 | with_reducible exact cst15 | with_reducible exact cst25 | with_reducible exact cst30 | with_reducible exact cst31 | fail) (by first | with_reducible rfl | with_reducible exact cst1 | with_reducible exact cst0 | with_reducible exact cst2 | with_reducible exact cst3 | with_reducible exact cst4 | with_reducible exact cst5 | with_reducible exact cst6 | with_reducible exact cst7 | with_reducible exact cst8 | with_reducible exact cst14 | with_reducible exact cst15 | with_reducible exact cst25 | with_reducible exact cst30 | with_reducible exact cst31 | fail) ?_ ?_; · (repeat' (first | omega | refine And.intro ?_ ?_ | exact bnd_andl (by omega) | exact bnd_andr (by omega) | refine bnd_or ?_ ?_ | refine bnd_or31 ?_ ?_ | refine bnd_xor ?_ ?_ | refine bnd_xor31 ?_ ?_ | refine bnd_shr ?_ | refine bnd_shl ?_ ?_ | refine bnd_mod ?_ | refine bnd_andl ?_ | fail))) | (refine EqN.subN _ _ (by first | with_reducible rfl | with_reducible exact cst1 | with_reducible exact cst0 | with_reducible exact cst2 | with_reducible exact cst3 | with_reducible exact cst4 | with_reducible exact cst5 | with_reducible exact cst6 | with_reducible exact cst7 | with_reducible exact cst8 | with_reducible exact cst14 | with_reducible exact cst15 | with_reducible exact cst25 | with_reducible exact cst30 | with_reducible exact cst31 | fail) (by first | with_reducible rfl | with_reducible exact cst1 | with_reducible exact cst0 | with_reducible exact cst2 | with_reducible exact cst3 | with_reducible exact cst4 | with_reducible exact cst5 | with_reducible exact cst6 | with_reducible exact cst7 | with_reducible exact cst8 | with_reducible exact cst14 | with_reducible exact cst15 | with_reducible exact cst25 | with_reducible exact cst30 | with_reducible exact cst31 | fail) ?_ ?_; · (repeat' (first | omega | refine And.intro ?_ ?_ | exact bnd_andl (by omega) | exact bnd_andr (by omega) | refine bnd_or ?_ ?_ | refine bnd_or31 ?_ ?_ | refine bnd_xor ?_ ?_ | refine bnd_xor31 ?_ ?_ | refine bnd_shr ?_ | refine bnd_shl ?_ ?_ | refine bnd_mod ?_ | refine bnd_andl ?_ | fail))) | refine EqN.remN _ _ (by first | with_reducible rfl | with_reducible exact cst1 | with_reducible exact cst0 | with_reducible exact cst2 | with_reducible exact cst3 | with_reducible exact cst4 | with_reducible exact cst5 | with_reducible exact cst6 | with_reducible exact cst7 | with_reducible exact cst8 | with_reducible exact cst14 | with_reducible exact cst15 | with_reducible exact cst25 | with_reducible exact cst30 | with_reducible exact cst31 | fail) (by first | with_reducible rfl | with_reducible exact cst1 | with_reducible exact cst0 | with_reducible exact cst2 | with_reducible exact cst3 | with_reducible exact cst4 | with_reducible exact cst5 | with_reducible exact cst6 | with_reducible exact cst7 | with_reducible exact cst8 | with_reducible exact cst14 | with_reducible exact cst15 | with_reducible exact cst25 | with_reducible exact cst30 | with_reducible exact cst31 | fail) ?_ | fail) | (refine SideN.mk ?_ ?_; · first | kernel_rfl | omega | exact List.cons_ne_nil _ _ | (simp; done) | (simp; omega) | exact trivial | assumption | fail) | refine NatN.mk _ rfl ?_ | (refine CallD.id ?_; first | refine CallD.det _ (fun _ hq X => VDet.wk (join2_c 4 (gF S (S.length - 2)) (gF S (S.length - 1)) _) ⟨Wk.refl _, wk_sx _ _, trivial⟩) ?_ | fail) | refine SegN.nth 0 i rfl (by omega) (fun _ => rfl) ?_ | refine SegN.nth Fm.fa (S.length - 2) (by omega) (by omega) (fun _ => rfl) ?_ | refine SegN.nth Fm.fa (S.length - 1) (by omega) (by omega) (fun _ => rfl) ?_ | refine SubN.flat (lo := 0) (n := S.length - 2 - 0) (fun _ => rfl) (by omega) ?_ | refine OrN.l ?_ | refine SideN.mk ⟨Nat.le_of_ble_eq_true rfl, by rw [flat_length (sz := 4) (fun _ => rfl)]; simp; done, rfl, by dsimp only; omega, by simp only [maxLen]; omega⟩ ?_ | refine DrawN.mk' [] ?_ | fail))); all_goals (conv => whnf)
      · refine ⟨⟨i + 1, 2, _, _, _, ⟨by omega, by omega⟩, by omega, ⟨⟨_, rfl, Wk.refl _⟩, trivial⟩, ⟨⟨_, rfl, Wk.refl _⟩, ⟨_, rfl, Wk.refl _⟩, trivial⟩, rfl, rfl, ?_, ?_, by omega, rfl, rfl, ⟨_, rfl⟩, by simp [belowRE, below, tr], by simp [belowH, Blk.below, belowL, below], fms_below _ _⟩⟩
        all_goals rw [hS]; simp [stpC, gF, Fm.cells, show 2 ≤ S.length by omega]; try omega
      · refine ⟨⟨i + 1, 1, _, _, _, ⟨by omega, by omega⟩, by omega, ⟨⟨_, rfl, Wk.refl _⟩, trivial⟩, ⟨⟨_, rfl, Wk.refl _⟩, ⟨_, rfl, Wk.refl _⟩, trivial⟩, rfl, rfl, ?_, ?_, by omega, rfl, rfl, ⟨_, rfl⟩, by simp [belowRE, below, tr], by simp [belowH, Blk.below, belowL, below], fms_below _ _⟩⟩
        all_goals rw [hS]; simp [stpC, gF, Fm.cells, show ¬ 2 ≤ S.length by omega]; try omega
    · (repeat' ((conv => whnf); (first | (refine IfN.id ?_; first | refine IfN.tt rfl ?_ | refine IfN.ff rfl ?_ | refine IfN.dT (by omega) ?_ | refine IfN.dec (fun _ => ?_) (fun _ => ?_) | fail) | (refine EqN.id ?_; first | refine EqN.remC _ rfl rfl hc ?_ | (refine EqN.addN _ _ (by first | with_reducible rfl | with_reducible exact cst1 | with_reducible exact cst0 | with_reducible exact cst2 | with_reducible exact cst3 | with_reducible exact cst4 | with_reducible exact cst5 | with_reducible exact cst6 | with_reducible exact cst7 | with_reducible exact cst8 | with_reducible exact cst14 | with_reducible exact cst15 | with_reducible exact cst25 | with_reducible exact cst30 | with_reducible exact cst31 | fail) (by first | with_reducible rfl | with_reducible exact cst1 | with_reducible exact cst0 | with_reducible exact cst2 | with_reducible exact cst3 | with_reducible exact cst4 | with_reducible exact cst5 | with_reducible exact cst6 | with_reducible exact cst7 | with_reducible exact cst8 | with_reducible exact cst14 | with_reducible exact cst15 | with_reducible exact cst25 | with_reducible exact cst30 | with_reducible exact cst31 | fail) ?_ ?_; · (repeat' (first | omega | refine And.intro ?_ ?_ | exact bnd_andl (by omega) | exact bnd_andr (by omega) | refine bnd_or ?_ ?_ | refine bnd_or31 ?_ ?_ | refine bnd_xor ?_ ?_ | refine bnd_xor31 ?_ ?_ | refine bnd_shr ?_ | refine bnd_shl ?_ ?_ | refine bnd_mod ?_ | refine bnd_andl ?_ | fail))) | (refine EqN.subN _ _ (by first | with_reducible rfl | with_reducible exact cst1 | with_reducible exact cst0 | with_reducible exact cst2 | with_reducible exact cst3 | with_reducible exact cst4 | with_reducible exact cst5 | with_reducible exact cst6 | with_reducible exact cst7 | with_reducible exact cst8 | with_reducible exact cst14 | with_reducible exact cst15 | with_reducible exact cst25 | with_reducible exact cst30 | with_reducible exact cst31 | fail) (by first | with_reducible rfl | with_reducible exact cst1 | with_reducible exact cst0 | with_reducible exact cst2 | with_reducible exact cst3 | with_reducible exact cst4 | with_reducible exact cst5 | with_reducible exact cst6 | with_reducible exact cst7 | with_reducible exact cst8 | with_reducible exact cst14 | with_reducible exact cst15 | with_reducible exact cst25 | with_reducible exact cst30 | with_reducible exact cst31 | fail) ?_ ?_; · (repeat' (first | omega | refine And.intro ?_ ?_ | exact bnd_andl (by omega) | exact bnd_andr (by omega) | refine bnd_or ?_ ?_ | refine bnd_or31 ?_ ?_ | refine bnd_xor ?_ ?_ | refine bnd_xor31 ?_ ?_ | refine bnd_shr ?_ | refine bnd_shl ?_ ?_ | refine bnd_mod ?_ | refine bnd_andl ?_ | fail))) | refine EqN.remN _ _ (by first | with_reducible rfl | with_reducible exact cst1 | with_reducible exact cst0 | with_reducible exact cst2 | with_reducible exact cst3 | with_reducible exact cst4 | with_reducible exact cst5 | with_reducible exact cst6 | with_reducible exact cst7 | with_reducible exact cst8 | with_reducible exact cst14 | with_reducible exact cst15 | with_reducible exact cst25 | with_reducible exact cst30 | with_reducible exact cst31 | fail) (by first | with_reducible rfl | with_reducible exact cst1 | with_reducible exact cst0 | with_reducible exact cst2 | with_reducible exact cst3 | with_reducible exact cst4 | with_reducible exact cst5 | with_reducible exact cst6 | with_reducible exact cst7 | with_reducible exact cst8 | with_reducible exact cst14 | with_reducible exact cst15 | with_reducible exact cst25 | with_reducible exact cst30 | with_reducible exact cst31 | fail) ?_ | fail) | (refine SideN.mk ?_ ?_; · first | kernel_rfl | omega | exact List.cons_ne_nil _ _ | (simp; done) | (simp; omega) | exact trivial | assumption | fail) | refine NatN.mk _ rfl ?_ | (refine CallD.id ?_; first | refine CallD.det _ (fun _ hq X => VDet.wk (join2_c 5 (gF S (S.length - 2)) (gF S (S.length - 1)) _) ⟨Wk.refl _, wk_sx _ _, trivial⟩) ?_ | fail) | refine SegN.nth 0 i rfl (by omega) (fun _ => rfl) ?_ | refine SegN.nth Fm.fa (S.length - 2) (by omega) (by omega) (fun _ => rfl) ?_ | refine SegN.nth Fm.fa (S.length - 1) (by omega) (by omega) (fun _ => rfl) ?_ | refine SubN.flat (lo := 0) (n := S.length - 2 - 0) (fun _ => rfl) (by omega) ?_ | refine OrN.l ?_ | refine SideN.mk ⟨Nat.le_of_ble_eq_true rfl, by rw [flat_length (sz := 4) (fun _ => rfl)]; simp; done, rfl, by dsimp only; omega, by simp only [maxLen]; omega⟩ ?_ | refine DrawN.mk' [] ?_ | fail))); all_goals (conv => whnf)
      · refine ⟨⟨i + 1, 2, _, _, _, ⟨by omega, by omega⟩, by omega, ⟨⟨_, rfl, Wk.refl _⟩, trivial⟩, ⟨⟨_, rfl, Wk.refl _⟩, ⟨_, rfl, Wk.refl _⟩, trivial⟩, rfl, rfl, ?_, ?_, by omega, rfl, rfl, ⟨_, rfl⟩, by simp [belowRE, below, tr], by simp [belowH, Blk.below, belowL, below], fms_below _ _⟩⟩
        all_goals rw [hS]; simp [stpC, gF, Fm.cells, show 2 ≤ S.length by omega]; try omega
      · refine ⟨⟨i + 1, 1, _, _, _, ⟨by omega, by omega⟩, by omega, ⟨⟨_, rfl, Wk.refl _⟩, trivial⟩, ⟨⟨_, rfl, Wk.refl _⟩, ⟨_, rfl, Wk.refl _⟩, trivial⟩, rfl, rfl, ?_, ?_, by omega, rfl, rfl, ⟨_, rfl⟩, by simp [belowRE, below, tr], by simp [belowH, Blk.below, belowL, below], fms_below _ _⟩⟩
        all_goals rw [hS]; simp [stpC, gF, Fm.cells, show ¬ 2 ≤ S.length by omega]; try omega
    · (repeat' ((conv => whnf); (first | (refine IfN.id ?_; first | refine IfN.tt rfl ?_ | refine IfN.ff rfl ?_ | refine IfN.dT (by omega) ?_ | refine IfN.dec (fun _ => ?_) (fun _ => ?_) | fail) | (refine EqN.id ?_; first | refine EqN.remC _ rfl rfl hc ?_ | (refine EqN.addN _ _ (by first | with_reducible rfl | with_reducible exact cst1 | with_reducible exact cst0 | with_reducible exact cst2 | with_reducible exact cst3 | with_reducible exact cst4 | with_reducible exact cst5 | with_reducible exact cst6 | with_reducible exact cst7 | with_reducible exact cst8 | with_reducible exact cst14 | with_reducible exact cst15 | with_reducible exact cst25 | with_reducible exact cst30 | with_reducible exact cst31 | fail) (by first | with_reducible rfl | with_reducible exact cst1 | with_reducible exact cst0 | with_reducible exact cst2 | with_reducible exact cst3 | with_reducible exact cst4 | with_reducible exact cst5 | with_reducible exact cst6 | with_reducible exact cst7 | with_reducible exact cst8 | with_reducible exact cst14 | with_reducible exact cst15 | with_reducible exact cst25 | with_reducible exact cst30 | with_reducible exact cst31 | fail) ?_ ?_; · (repeat' (first | omega | refine And.intro ?_ ?_ | exact bnd_andl (by omega) | exact bnd_andr (by omega) | refine bnd_or ?_ ?_ | refine bnd_or31 ?_ ?_ | refine bnd_xor ?_ ?_ | refine bnd_xor31 ?_ ?_ | refine bnd_shr ?_ | refine bnd_shl ?_ ?_ | refine bnd_mod ?_ | refine bnd_andl ?_ | fail))) | (refine EqN.subN _ _ (by first | with_reducible rfl | with_reducible exact cst1 | with_reducible exact cst0 | with_reducible exact cst2 | with_reducible exact cst3 | with_reducible exact cst4 | with_reducible exact cst5 | with_reducible exact cst6 | with_reducible exact cst7 | with_reducible exact cst8 | with_reducible exact cst14 | with_reducible exact cst15 | with_reducible exact cst25 | with_reducible exact cst30 | with_reducible exact cst31 | fail) (by first | with_reducible rfl | with_reducible exact cst1 | with_reducible exact cst0 | with_reducible exact cst2 | with_reducible exact cst3 | with_reducible exact cst4 | with_reducible exact cst5 | with_reducible exact cst6 | with_reducible exact cst7 | with_reducible exact cst8 | with_reducible exact cst14 | with_reducible exact cst15 | with_reducible exact cst25 | with_reducible exact cst30 | with_reducible exact cst31 | fail) ?_ ?_; · (repeat' (first | omega | refine And.intro ?_ ?_ | exact bnd_andl (by omega) | exact bnd_andr (by omega) | refine bnd_or ?_ ?_ | refine bnd_or31 ?_ ?_ | refine bnd_xor ?_ ?_ | refine bnd_xor31 ?_ ?_ | refine bnd_shr ?_ | refine bnd_shl ?_ ?_ | refine bnd_mod ?_ | refine bnd_andl ?_ | fail))) | refine EqN.remN _ _ (by first | with_reducible rfl | with_reducible exact cst1 | with_reducible exact cst0 | with_reducible exact cst2 | with_reducible exact cst3 | with_reducible exact cst4 | with_reducible exact cst5 | with_reducible exact cst6 | with_reducible exact cst7 | with_reducible exact cst8 | with_reducible exact cst14 | with_reducible exact cst15 | with_reducible exact cst25 | with_reducible exact cst30 | with_reducible exact cst31 | fail) (by first | with_reducible rfl | with_reducible exact cst1 | with_reducible exact cst0 | with_reducible exact cst2 | with_reducible exact cst3 | with_reducible exact cst4 | with_reducible exact cst5 | with_reducible exact cst6 | with_reducible exact cst7 | with_reducible exact cst8 | with_reducible exact cst14 | with_reducible exact cst15 | with_reducible exact cst25 | with_reducible exact cst30 | with_reducible exact cst31 | fail) ?_ | fail) | (refine SideN.mk ?_ ?_; · first | kernel_rfl | omega | exact List.cons_ne_nil _ _ | (simp; done) | (simp; omega) | exact trivial | assumption | fail) | refine NatN.mk _ rfl ?_ | (refine CallD.id ?_; first | refine CallD.det _ (fun _ hq X => VDet.wk (join2_c 6 (gF S (S.length - 2)) (gF S (S.length - 1)) _) ⟨Wk.refl _, wk_sx _ _, trivial⟩) ?_ | fail) | refine SegN.nth 0 i rfl (by omega) (fun _ => rfl) ?_ | refine SegN.nth Fm.fa (S.length - 2) (by omega) (by omega) (fun _ => rfl) ?_ | refine SegN.nth Fm.fa (S.length - 1) (by omega) (by omega) (fun _ => rfl) ?_ | refine SubN.flat (lo := 0) (n := S.length - 2 - 0) (fun _ => rfl) (by omega) ?_ | refine OrN.l ?_ | refine SideN.mk ⟨Nat.le_of_ble_eq_true rfl, by rw [flat_length (sz := 4) (fun _ => rfl)]; simp; done, rfl, by dsimp only; omega, by simp only [maxLen]; omega⟩ ?_ | refine DrawN.mk' [] ?_ | fail))); all_goals (conv => whnf)
      · refine ⟨⟨i + 1, 2, _, _, _, ⟨by omega, by omega⟩, by omega, ⟨⟨_, rfl, Wk.refl _⟩, trivial⟩, ⟨⟨_, rfl, Wk.refl _⟩, ⟨_, rfl, Wk.refl _⟩, trivial⟩, rfl, rfl, ?_, ?_, by omega, rfl, rfl, ⟨_, rfl⟩, by simp [belowRE, below, tr], by simp [belowH, Blk.below, belowL, below], fms_below _ _⟩⟩
        all_goals rw [hS]; simp [stpC, gF, Fm.cells, show 2 ≤ S.length by omega]; try omega
      · refine ⟨⟨i + 1, 1, _, _, _, ⟨by omega, by omega⟩, by omega, ⟨⟨_, rfl, Wk.refl _⟩, trivial⟩, ⟨⟨_, rfl, Wk.refl _⟩, ⟨_, rfl, Wk.refl _⟩, trivial⟩, rfl, rfl, ?_, ?_, by omega, rfl, rfl, ⟨_, rfl⟩, by simp [belowRE, below, tr], by simp [belowH, Blk.below, belowL, below], fms_below _ _⟩⟩
        all_goals rw [hS]; simp [stpC, gF, Fm.cells, show ¬ 2 ≤ S.length by omega]; try omega
    · (repeat' ((conv => whnf); (first | (refine IfN.id ?_; first | refine IfN.tt rfl ?_ | refine IfN.ff rfl ?_ | refine IfN.dT (by omega) ?_ | refine IfN.dec (fun _ => ?_) (fun _ => ?_) | fail) | (refine EqN.id ?_; first | refine EqN.remC _ rfl rfl hc ?_ | (refine EqN.addN _ _ (by first | with_reducible rfl | with_reducible exact cst1 | with_reducible exact cst0 | with_reducible exact cst2 | with_reducible exact cst3 | with_reducible exact cst4 | with_reducible exact cst5 | with_reducible exact cst6 | with_reducible exact cst7 | with_reducible exact cst8 | with_reducible exact cst14 | with_reducible exact cst15 | with_reducible exact cst25 | with_reducible exact cst30 | with_reducible exact cst31 | fail) (by first | with_reducible rfl | with_reducible exact cst1 | with_reducible exact cst0 | with_reducible exact cst2 | with_reducible exact cst3 | with_reducible exact cst4 | with_reducible exact cst5 | with_reducible exact cst6 | with_reducible exact cst7 | with_reducible exact cst8 | with_reducible exact cst14 | with_reducible exact cst15 | with_reducible exact cst25 | with_reducible exact cst30 | with_reducible exact cst31 | fail) ?_ ?_; · (repeat' (first | omega | refine And.intro ?_ ?_ | exact bnd_andl (by omega) | exact bnd_andr (by omega) | refine bnd_or ?_ ?_ | refine bnd_or31 ?_ ?_ | refine bnd_xor ?_ ?_ | refine bnd_xor31 ?_ ?_ | refine bnd_shr ?_ | refine bnd_shl ?_ ?_ | refine bnd_mod ?_ | refine bnd_andl ?_ | fail))) | (refine EqN.subN _ _ (by first | with_reducible rfl | with_reducible exact cst1 | with_reducible exact cst0 | with_reducible exact cst2 | with_reducible exact cst3 | with_reducible exact cst4 | with_reducible exact cst5 | with_reducible exact cst6 | with_reducible exact cst7 | with_reducible exact cst8 | with_reducible exact cst14 | with_reducible exact cst15 | with_reducible exact cst25 | with_reducible exact cst30 | with_reducible exact cst31 | fail) (by first | with_reducible rfl | with_reducible exact cst1 | with_reducible exact cst0 | with_reducible exact cst2 | with_reducible exact cst3 | with_reducible exact cst4 | with_reducible exact cst5 | with_reducible exact cst6 | with_reducible exact cst7 | with_reducible exact cst8 | with_reducible exact cst14 | with_reducible exact cst15 | with_reducible exact cst25 | with_reducible exact cst30 | with_reducible exact cst31 | fail) ?_ ?_; · (repeat' (first | omega | refine And.intro ?_ ?_ | exact bnd_andl (by omega) | exact bnd_andr (by omega) | refine bnd_or ?_ ?_ | refine bnd_or31 ?_ ?_ | refine bnd_xor ?_ ?_ | refine bnd_xor31 ?_ ?_ | refine bnd_shr ?_ | refine bnd_shl ?_ ?_ | refine bnd_mod ?_ | refine bnd_andl ?_ | fail))) | refine EqN.remN _ _ (by first | with_reducible rfl | with_reducible exact cst1 | with_reducible exact cst0 | with_reducible exact cst2 | with_reducible exact cst3 | with_reducible exact cst4 | with_reducible exact cst5 | with_reducible exact cst6 | with_reducible exact cst7 | with_reducible exact cst8 | with_reducible exact cst14 | with_reducible exact cst15 | with_reducible exact cst25 | with_reducible exact cst30 | with_reducible exact cst31 | fail) (by first | with_reducible rfl | with_reducible exact cst1 | with_reducible exact cst0 | with_reducible exact cst2 | with_reducible exact cst3 | with_reducible exact cst4 | with_reducible exact cst5 | with_reducible exact cst6 | with_reducible exact cst7 | with_reducible exact cst8 | with_reducible exact cst14 | with_reducible exact cst15 | with_reducible exact cst25 | with_reducible exact cst30 | with_reducible exact cst31 | fail) ?_ | fail) | (refine SideN.mk ?_ ?_; · first | kernel_rfl | omega | exact List.cons_ne_nil _ _ | (simp; done) | (simp; omega) | exact trivial | assumption | fail) | refine NatN.mk _ rfl ?_ | (refine CallD.id ?_; first | refine CallD.det _ (fun _ hq X => VDet.wk (join2_c 7 (gF S (S.length - 2)) (gF S (S.length - 1)) _) ⟨Wk.refl _, wk_sx _ _, trivial⟩) ?_ | fail) | refine SegN.nth 0 i rfl (by omega) (fun _ => rfl) ?_ | refine SegN.nth Fm.fa (S.length - 2) (by omega) (by omega) (fun _ => rfl) ?_ | refine SegN.nth Fm.fa (S.length - 1) (by omega) (by omega) (fun _ => rfl) ?_ | refine SubN.flat (lo := 0) (n := S.length - 2 - 0) (fun _ => rfl) (by omega) ?_ | refine OrN.l ?_ | refine SideN.mk ⟨Nat.le_of_ble_eq_true rfl, by rw [flat_length (sz := 4) (fun _ => rfl)]; simp; done, rfl, by dsimp only; omega, by simp only [maxLen]; omega⟩ ?_ | refine DrawN.mk' [] ?_ | fail))); all_goals (conv => whnf)
      · refine ⟨⟨i + 1, 2, _, _, _, ⟨by omega, by omega⟩, by omega, ⟨⟨_, rfl, Wk.refl _⟩, trivial⟩, ⟨⟨_, rfl, Wk.refl _⟩, ⟨_, rfl, Wk.refl _⟩, trivial⟩, rfl, rfl, ?_, ?_, by omega, rfl, rfl, ⟨_, rfl⟩, by simp [belowRE, below, tr], by simp [belowH, Blk.below, belowL, below], fms_below _ _⟩⟩
        all_goals rw [hS]; simp [stpC, gF, Fm.cells, show 2 ≤ S.length by omega]; try omega
      · refine ⟨⟨i + 1, 1, _, _, _, ⟨by omega, by omega⟩, by omega, ⟨⟨_, rfl, Wk.refl _⟩, trivial⟩, ⟨⟨_, rfl, Wk.refl _⟩, ⟨_, rfl, Wk.refl _⟩, trivial⟩, rfl, rfl, ?_, ?_, by omega, rfl, rfl, ⟨_, rfl⟩, by simp [belowRE, below, tr], by simp [belowH, Blk.below, belowL, below], fms_below _ _⟩⟩
        all_goals rw [hS]; simp [stpC, gF, Fm.cells, show ¬ 2 ≤ S.length by omega]; try omega
    · (repeat' ((conv => whnf); (first | (refine IfN.id ?_; first | refine IfN.tt rfl ?_ | refine IfN.ff rfl ?_ | refine IfN.dT (by omega) ?_ | fail) | (refine EqN.id ?_; first | refine EqN.remC _ rfl rfl hc ?_ | (refine EqN.addN _ _ (by first | with_reducible rfl | with_reducible exact cst1 | with_reducible exact cst0 | with_reducible exact cst2 | with_reducible exact cst3 | with_reducible exact cst4 | with_reducible exact cst5 | with_reducible exact cst6 | with_reducible exact cst7 | with_reducible exact cst8 | with_reducible exact cst14 | with_reducible exact cst15 | with_reducible exact cst25 | with_reducible exact cst30 | with_reducible exact cst31 | fail) (by first | with_reducible rfl | with_reducible exact cst1 | with_reducible exact cst0 | with_reducible exact cst2 | with_reducible exact cst3 | with_reducible exact cst4 | with_reducible exact cst5 | with_reducible exact cst6 | with_reducible exact cst7 | with_reducible exact cst8 | with_reducible exact cst14 | with_reducible exact cst15 | with_reducible exact cst25 | with_reducible exact cst30 | with_reducible exact cst31 | fail) ?_ ?_; · (repeat' (first | omega | refine And.intro ?_ ?_ | exact bnd_andl (by omega) | exact bnd_andr (by omega) | refine bnd_or ?_ ?_ | refine bnd_or31 ?_ ?_ | refine bnd_xor ?_ ?_ | refine bnd_xor31 ?_ ?_ | refine bnd_shr ?_ | refine bnd_shl ?_ ?_ | refine bnd_mod ?_ | refine bnd_andl ?_ | fail))) | fail) | (refine SideN.mk ?_ ?_; · first | kernel_rfl | omega | exact List.cons_ne_nil _ _ | (simp; done) | (simp; omega) | exact trivial | assumption | fail) | (refine CallN.id ?_; first | refine CallN.det _ (VDet.wk (join0_c _) ⟨Wk.refl _, wk_nils, trivial⟩) ?_ | fail) | refine SegN.nth 0 i rfl (by omega) (fun _ => rfl) ?_ | refine SideN.mk ⟨rfl, rfl, rfl, by dsimp only; omega, by simp only [maxLen]; omega⟩ ?_ | (refine PtrN.id ?_; first | refine PtrN.loc _ rfl ?_ | fail) | refine DrawN.mk' [] ?_ | fail))); all_goals (conv => whnf)
      refine ⟨⟨i + 1, 1, _, _, _, ⟨by omega, by omega⟩, by omega, ⟨⟨_, rfl, Wk.refl _⟩, trivial⟩, ⟨⟨_, rfl, Wk.refl _⟩, ⟨_, rfl, Wk.refl _⟩, trivial⟩, rfl, rfl, ?_, ?_, by omega, rfl, rfl, ⟨_, rfl⟩, by simp [belowRE, below, tr], by simp [belowH, Blk.below, belowL, below], fms_below _ _⟩⟩
      all_goals rw [hS]; simp [stpC, gF, Fm.cells]; try omega
  · have hfin : bst (l.take i) = bst (l.take 30) := by
      by_cases h : l.length ≤ 30
      · rw [List.take_of_length_le h, List.take_of_length_le (show l.length ≤ i by omega)]
      · rw [show i = 30 by omega]
    unfold bltF
    rw [← hfin]
    generalize bst (l.take i) = S at hn ⊢
    by_cases hS : S.length = 0
    · have hfe : finF S = .at 130 := by unfold finF; rw [if_pos hS]
      rw [hfe]
      (repeat' ((conv => whnf); (first | (refine IfN.id ?_; first | refine IfN.dT (by omega) ?_ | refine IfN.dF (by omega) ?_ | refine IfN.dec (fun _ => ?_) (fun _ => ?_) | fail) | (refine CallN.id ?_; first | refine CallN.det _ (atA_c _) ?_ | fail) | refine DrawN.mk' [] ?_ | fail))); all_goals (conv => whnf)
      all_goals exact EndN.det (by simp [Fm.cells, below, belowL, Fm.sc_below]) (Wk.refl _)
    · have hfe : finF S = andN S (S.length - 1) := by unfold finF; rw [if_neg hS]
      rw [hfe]
      (repeat' ((conv => whnf); (first | (refine IfN.id ?_; first | refine IfN.dF (by omega) ?_ | refine IfN.dec (fun _ => ?_) (fun _ => ?_) | fail) | (refine SideN.mk ?_ ?_; · first | kernel_rfl | omega | exact List.cons_ne_nil _ _ | (simp; done) | (simp; omega) | exact trivial | assumption | fail) | refine SegN.nth Fm.fa 0 rfl (by omega) (fun _ => rfl) ?_ | refine DrawN.mk' [] ?_ | fail))); all_goals (conv => whnf)
      all_goals
        refine loop_R Tryd.E0 Tryd.mx (σ := Nat) (fun j => j + 1 ≤ S.length) (fun j => S.length - j) (fun j => [(8, .v (.int .i64 (j + 1 : Nat)))]) (fun j => [.box 28 [.int .u8 0, .str .empty, .nils, .nils], .tok 28 4 (S.flatMap Fm.cells).length, .box 28 [.int .u8 (andN S j).op, .str (andN S j).nmB, .sl none 0 [], .sl none (andN S j).sn (andN S j).sc]]) _ 0 rfl hcl [2, 3, 7] rfl (by omega) ⟨⟨_, rfl, Wk.refl _⟩, trivial⟩ rfl (fun _ _ => rfl) ?_
        intro j hj
        (repeat' ((conv => whnf); (first | (refine IfN.id ?_; first | refine IfN.dec (fun _ => ?_) (fun _ => ?_) | fail) | (refine EqN.id ?_; first | (refine EqN.addN _ _ (by first | with_reducible rfl | with_reducible exact cst1 | with_reducible exact cst0 | with_reducible exact cst2 | with_reducible exact cst3 | with_reducible exact cst4 | with_reducible exact cst5 | with_reducible exact cst6 | with_reducible exact cst7 | with_reducible exact cst8 | with_reducible exact cst14 | with_reducible exact cst15 | with_reducible exact cst25 | with_reducible exact cst30 | with_reducible exact cst31 | fail) (by first | with_reducible rfl | with_reducible exact cst1 | with_reducible exact cst0 | with_reducible exact cst2 | with_reducible exact cst3 | with_reducible exact cst4 | with_reducible exact cst5 | with_reducible exact cst6 | with_reducible exact cst7 | with_reducible exact cst8 | with_reducible exact cst14 | with_reducible exact cst15 | with_reducible exact cst25 | with_reducible exact cst30 | with_reducible exact cst31 | fail) ?_ ?_; · (repeat' (first | omega | refine And.intro ?_ ?_ | exact bnd_andl (by omega) | exact bnd_andr (by omega) | refine bnd_or ?_ ?_ | refine bnd_or31 ?_ ?_ | refine bnd_xor ?_ ?_ | refine bnd_xor31 ?_ ?_ | refine bnd_shr ?_ | refine bnd_shl ?_ ?_ | refine bnd_mod ?_ | refine bnd_andl ?_ | fail))) | fail) | (refine SideN.mk ?_ ?_; · first | kernel_rfl | omega | exact List.cons_ne_nil _ _ | (simp; done) | (simp; omega) | exact trivial | assumption | fail) | (refine CallD.id ?_; first | refine CallD.det _ (fun _ hq X => VDet.wk (join2_c 4 (andN S j) (gF S (j + 1)) _) ⟨Wk.refl _, wk_sx _ _, trivial⟩) ?_ | fail) | refine SegN.nth Fm.fa (j + 1) rfl (by omega) (fun _ => rfl) ?_ | refine DrawN.mk' [] ?_ | fail))); all_goals (conv => whnf)
        · (refine ⟨⟨j + 1, by omega, by omega, ?_, .inl ⟨rfl, rfl⟩, rfl, _, rfl, ?_⟩⟩; rotate_left 1; (first | exact .inl rfl | exact .inr ⟨by simp [belowRE, below, belowL, tr, encB_below, fms_below, Fm.sc_below, encS_below], by simp [belowH, Blk.below, belowL, below, encB_below, fms_below, Fm.sc_below, encS_below]⟩ | fail); (repeat' (first | exact trivial | refine ⟨⟨_, rfl, ?_⟩, ?_⟩ | fail)); all_goals try (first | exact Wk.refl _ | exact Wk.of_eq (congrArg (AV.int _) (by omega)) | fail))
        · have hje : S.length - 1 = j := by omega
          rw [hje]
          exact EndN.det (by simp [Fm.cells, below, belowL, Fm.sc_below]) (Wk.refl _)
end Go.Proofs.YtekhodpmpjehaaaDoor
/-! text RO10 -/
namespace Go.Proofs.YtekhodpmpjehaaaDoor
open Go.Vsi
set_option maxHeartbeats 1000000

/-! ### math/bits.OnesCount64, truth.Count, truth.Follows -/
theorem natU {m : Nat} (h : m < 2 ^ 64) : m = mkBits 64 m.testBit := eq_mk h fun _ _ => rfl
theorem bits_andN {a b : Nat} (ha : a < 2 ^ 64) (hb : b < 2 ^ 64) : bits .and .u64 (a : Int) (b : Int) = ((a &&& b : Nat) : Int) := by
  have h := bits_and a.testBit b.testBit
  rw [← natU ha, ← natU hb] at h
  rw [h]
  have hc : a &&& b < 2 ^ 64 := Nat.lt_of_le_of_lt Nat.and_le_left ha
  refine congrArg _ (eq_mk hc fun i _ => ?_).symm
  rw [Nat.testBit_and]
theorem and127 (m : Nat) (h : m < 2 ^ 63) : bits .and .i64 (m : Int) 127 = ((m % 128 : Nat) : Int) := by
  obtain ⟨y, e, h⟩ := EqN.and (k := fun y => y = ((m % 128 : Nat) : Int)) m 127 rfl rfl ⟨by omega, by omega⟩ (by rw [show (127 : Nat) = 2 ^ 7 - 1 from rfl, Nat.and_two_pow_sub_one_eq_mod])
  rw [show (127 : Int) = ((127 : Nat) : Int) from rfl, e, h]
def cntS (S : Nat) (F : Nat → Bool) : Nat := (List.range S).countP F
theorem sum_countP (F : Nat → Bool) : ∀ l : List Nat, (l.map fun i => (F i).toNat).sum = l.countP F
  | [] => rfl
  | i :: l => by
    simp only [List.map_cons, List.sum_cons, List.countP_cons, sum_countP F l]
    cases F i <;> simp <;> omega
theorem cntB_eq (F : Nat → Bool) : cntB F = cntS 64 F := sum_countP F _
theorem cntS_add (a b : Nat) (F : Nat → Bool) : cntS (a + b) F = cntS a F + cntS b fun i => F (a + i) := by
  unfold cntS
  rw [List.range_add, List.countP_append, List.countP_map]
  rfl
theorem cntS_congr {S : Nat} {F G : Nat → Bool} (h : ∀ i, i < S → F i = G i) : cntS S F = cntS S G :=
  List.countP_congr fun i hi => by rw [h i (List.mem_range.1 hi)]
theorem cntS_le (S : Nat) (F : Nat → Bool) : cntS S F ≤ S := Nat.le_trans List.countP_le_length (by rw [List.length_range]; exact Nat.le_refl _)
theorem cntS_zero {S : Nat} {F : Nat → Bool} (h : ∀ i, i < S → F i = false) : cntS S F = 0 := by
  rw [cntS_congr h]
  unfold cntS
  simp
theorem cntS_nil (F : Nat → Bool) : cntS 0 F = 0 := rfl
theorem cnt_block (F : Nat → Bool) (S n : Nat) (hm : S < 64 ∨ S % 64 = 0) (hn : 64 * n < S) : cntS (min (64 * n) S) F + cntB (fun i => F (64 * n + i) && decide (i < S)) = cntS (min (64 * (n + 1)) S) F := by
  rw [cntB_eq]
  rcases hm with h | h
  · obtain rfl : n = 0 := by omega
    have e : (64 : Nat) = S + (64 - S) := by omega
    rw [show min (64 * (0 + 1)) S = S by omega, show min (64 * 0) S = 0 by omega]
    have e1 : cntS 64 (fun i => F (64 * 0 + i) && decide (i < S)) = cntS (S + (64 - S)) (fun i => F (64 * 0 + i) && decide (i < S)) := by rw [← e]
    rw [e1, cntS_add, cntS_zero (S := 64 - S) fun i _ => by simp]
    rw [cntS_congr (S := S) (G := F) fun i hi => by simp [hi]]
    simp [cntS]
  · rw [show min (64 * n) S = 64 * n by omega, show min (64 * (n + 1)) S = 64 * n + 64 by omega, cntS_add]
    congr 1
    exact cntS_congr fun i hi => by simp; omega
attribute [local irreducible] VW VCall VO bits mkBits
theorem ones_c (g : Nat → Bool) (H : Heap) : VDet Tryd.prog 30 [.int .u64 (mkBits 64 g : Nat)] H (.int .i64 (cntB g : Nat)) := by
  obtain ⟨x1, x2, x3, x4, x5, e1, e2, e3, e4, e5, e6, hc, t1, t2, t3, t4, t5, t6⟩ := ones g
  have t0 := mk_lt 64 g
  generalize mkBits 64 g = x0 at *
  have s1 : ((x1 : Nat) : Int).fdiv (2 ^ min (2 : Int).toNat IntKind.u64.bits) = ((x1 >>> 2 : Nat) : Int) := fdiv_shr x1 2 (by omega)
  have s2 : ((x2 : Nat) : Int).fdiv (2 ^ min (4 : Int).toNat IntKind.u64.bits) = ((x2 >>> 4 : Nat) : Int) := fdiv_shr x2 4 (by omega)
  have s3 : ((x3 : Nat) : Int).fdiv (2 ^ min (8 : Int).toNat IntKind.u64.bits) = ((x3 >>> 8 : Nat) : Int) := fdiv_shr x3 8 (by omega)
  have s4 : ((x4 : Nat) : Int).fdiv (2 ^ min (16 : Int).toNat IntKind.u64.bits) = ((x4 >>> 16 : Nat) : Int) := fdiv_shr x4 16 (by omega)
  have s5 : ((x5 : Nat) : Int).fdiv (2 ^ min (32 : Int).toNat IntKind.u64.bits) = ((x5 >>> 32 : Nat) : Int) := fdiv_shr x5 32 (by omega)
  have u1 : IntKind.u64.wrap (bits .and .u64 ((x0 >>> 1 : Nat) : Int) 6148914691236517205 + bits .and .u64 (x0 : Int) 6148914691236517205) = (x1 : Int) := by
    rw [show (6148914691236517205 : Int) = ((6148914691236517205 : Nat) : Int) from rfl, bits_andN (Nat.lt_of_le_of_lt (Nat.shiftRight_le ..) t0) (by omega), bits_andN t0 (by omega), ← Int.natCast_add, e1, wu64 t1]
  have u2 : IntKind.u64.wrap (bits .and .u64 ((x1 >>> 2 : Nat) : Int) 3689348814741910323 + bits .and .u64 (x1 : Int) 3689348814741910323) = (x2 : Int) := by
    rw [show (3689348814741910323 : Int) = ((3689348814741910323 : Nat) : Int) from rfl, bits_andN (Nat.lt_of_le_of_lt (Nat.shiftRight_le ..) t1) (by omega), bits_andN t1 (by omega), ← Int.natCast_add, e2, wu64 t2]
  have u3 : bits .and .u64 (IntKind.u64.wrap (((x2 >>> 4 : Nat) : Int) + (x2 : Int))) 1085102592571150095 = (x3 : Int) := by
    rw [← Int.natCast_add, wu64 t3, show (1085102592571150095 : Int) = ((1085102592571150095 : Nat) : Int) from rfl, bits_andN t3 (by omega), e3]
  have u4 : IntKind.u64.wrap ((x3 : Int) + ((x3 >>> 8 : Nat) : Int)) = (x4 : Int) := by
    rw [← Int.natCast_add, e4, wu64 t4]
  have u5 : IntKind.u64.wrap ((x4 : Int) + ((x4 >>> 16 : Nat) : Int)) = (x5 : Int) := by
    rw [← Int.natCast_add, e5, wu64 t5]
  have u6 : IntKind.u64.wrap ((x5 : Int) + ((x5 >>> 32 : Nat) : Int)) = ((x5 + x5 >>> 32 : Nat) : Int) := by
    rw [← Int.natCast_add, wu64 (by omega)]
  have u7 : IntKind.i64.wrap ((x5 + x5 >>> 32 : Nat) : Int) = ((x5 + x5 >>> 32 : Nat) : Int) := IntWalk.i64_in _ (by omega)
  have u8 := and127 _ t6
  rw [e6] at u8
  refine fn_det Tryd.E0 Tryd.mx Tryd.func30 (by kernel_rfl) rfl (Nat.le_of_ble_eq_true rfl) rfl fun hcl hbl => ?_
  (repeat' ((conv => whnf); (first | (refine EqN.id ?_; first | (refine EqN.shrN _ _ (by first | with_reducible rfl | with_reducible exact cst1 | with_reducible exact cst0 | with_reducible exact cst2 | with_reducible exact cst3 | with_reducible exact cst4 | with_reducible exact cst5 | with_reducible exact cst6 | with_reducible exact cst7 | with_reducible exact cst8 | with_reducible exact cst14 | with_reducible exact cst15 | with_reducible exact cst25 | with_reducible exact cst30 | with_reducible exact cst31 | fail) (by first | with_reducible rfl | with_reducible exact cst1 | with_reducible exact cst0 | with_reducible exact cst2 | with_reducible exact cst3 | with_reducible exact cst4 | with_reducible exact cst5 | with_reducible exact cst6 | with_reducible exact cst7 | with_reducible exact cst8 | with_reducible exact cst14 | with_reducible exact cst15 | with_reducible exact cst25 | with_reducible exact cst30 | with_reducible exact cst31 | fail) rfl ?_ ?_; · (repeat' (first | omega | refine And.intro ?_ ?_ | exact bnd_andl (by omega) | exact bnd_andr (by omega) | refine bnd_or ?_ ?_ | refine bnd_or31 ?_ ?_ | refine bnd_xor ?_ ?_ | refine bnd_xor31 ?_ ?_ | refine bnd_shr ?_ | refine bnd_shl ?_ ?_ | refine bnd_mod ?_ | refine bnd_andl ?_ | fail))) | refine EqN.mk _ rfl ?_ | fail) | (refine SideN.mk ?_ ?_; · first | kernel_rfl | omega | exact List.cons_ne_nil _ _ | (simp; done) | (simp; omega) | exact trivial | assumption | fail) | refine DrawN.mk' [] ?_ | fail))); all_goals (conv => whnf)
  refine EndN.det trivial (Wk.of_eq ?_)
  rw [u1, s1, u2, s2, u3, s3, u4, s4, u5, s5, u6, u7, u8]
end Go.Proofs.YtekhodpmpjehaaaDoor
/-! text RP10 -/
namespace Go.Proofs.YtekhodpmpjehaaaDoor
open Go.Vsi
set_option maxHeartbeats 1000000
attribute [local irreducible] VW VCall VO bits mkBits cntS cntB
/-- truth.Count -/
theorem count_c (f : Fm) (hf : f.Good) (h12 : (namesL [f]).length ≤ 12) (H : Heap) : VDet Tryd.prog 17 [.agg f.cells] H (.tup [.int .i64 (cntS (2 ^ (namesL [f]).length) (fun v => f.ev (vb (namesL [f]) v)) : Nat), .int .i64 (2 ^ (namesL [f]).length : Nat), .int .i64 0]) := by
  have hn1 := hf.small.1
  have hok := namesL_ok [f] fun x hx => by simp only [List.mem_singleton] at hx; exact hx ▸ hf.ok
  have h1 := own_c [f] (fun x hx => by simp only [List.mem_singleton] at hx; exact hx ▸ hf) (by simp only [nodesL]; omega) (by simp) h12
  have hb1 := fun n (hn : n ≤ 1000000) => block_c _ hok n hn f hf.pr (namesL_in [f] f (by simp))
  have hv := valid_c _ h12
  have hbk := blocks_c _ h12
  have hsz := size_c _ h12
  have h2l := two_le _ h12
  generalize hns : namesL [f] = ns at *
  rw [show [f].flatMap Fm.cells = f.cells by simp] at h1
  have hfc : f.cells = [.int .u8 f.op, .str f.nmB, .sl none 0 [], .sl none f.sn f.sc] := rfl
  unfold blkV U at hb1
  unfold okU U at hv
  generalize hF : (fun v => f.ev (vb ns v)) = F at *
  have hb1 : ∀ n : Nat, n ≤ 1000000 → ∀ H, VDet Tryd.prog 31 [tblV ns, .agg f.cells, .int .i64 n] H (.int .u64 (mkBits 64 fun i => F (64 * n + i) : Nat)) := fun n hn H => by
    subst hF
    exact hb1 n hn H
  have hmod := two_mod ns.length
  generalize 2 ^ ns.length = S at *
  have htb := tblV_below ns
  generalize tblV ns = t at *
  rw [hfc] at h1 hb1 ⊢
  have h1 : ∀ H, VDet Tryd.prog 28 [.sx 1 [.int .u8 f.op, .str f.nmB, .sl none 0 [], .sl none f.sn f.sc]] H (.tup [t, .int .i64 0]) := fun H => VDet.wk (h1 H) ⟨wk_sx _ _, trivial⟩
  have hfb := fun n => f.sc_below n
  generalize f.op = fo at *
  generalize f.nmB = fn at *
  generalize f.sn = fsn at *
  generalize f.sc = fsc at *
  refine fn_det Tryd.E0 Tryd.mx Tryd.func17 (by kernel_rfl) rfl (Nat.le_of_ble_eq_true rfl) rfl fun hcl hbl => ?_
  (repeat' ((conv => whnf); (first | (refine IfN.id ?_; first | refine IfN.not ?_ | refine IfN.tt rfl ?_ | fail) | (refine CallN.id ?_; first | refine CallN.det _ (h1 _) ?_ | refine CallN.det _ (hbk _) ?_ | fail) | refine DrawN.mk' [] ?_ | fail))); all_goals (conv => whnf)
  refine loop_R Tryd.E0 Tryd.mx (σ := Nat) (fun n => n ≤ (S + 63) / 64) (fun n => (S + 63) / 64 - n) (fun n => [(7, .v (.int .i64 (cntS (min (64 * n) S) F : Nat))), (20, .v (.int .i64 n))]) (fun n => _) _ 0 rfl hcl [1, 5, 19] rfl (Nat.zero_le _) ⟨⟨_, rfl, Wk.of_eq (by rw [show min (64 * 0) S = 0 by omega, cntS_nil]; rfl)⟩, ⟨_, rfl, Wk.refl _⟩, trivial⟩ rfl (fun _ _ => rfl) ?_
  rintro n hn
  clear hbl
  by_cases hlt : n < (S + 63) / 64
  · have hc1 : cntS (min (64 * n) S) F ≤ 4096 := Nat.le_trans (cntS_le _ _) (by omega)
    have hc2 := cnt_block F S n hmod (by omega)
    have hc3 : cntB (fun i => F (64 * n + i) && decide (i < S)) ≤ 64 := by rw [cntB_eq]; exact cntS_le _ _
    have ho := fun H => ones_c (fun i => F (64 * n + i) && decide (i < S)) H
    have hb := hb1 n (by omega)
    generalize cntS (min (64 * n) S) F = x at *
    generalize cntB (fun i => F (64 * n + i) && decide (i < S)) = y at *
    have hand := bits_and (fun i => F (64 * n + i)) (fun i => decide (i < S))
    generalize mkBits 64 (fun i => F (64 * n + i) && decide (i < S)) = z at *
    generalize mkBits 64 (fun i => F (64 * n + i)) = z1 at *
    generalize mkBits 64 (fun i => decide (i < S)) = z2 at *
    clear hb1
    (repeat' ((conv => whnf); (first | (refine IfN.id ?_; first | refine IfN.dT (by omega) ?_ | fail) | (refine EqN.id ?_; first | refine EqN.mk _ hand ?_ | (refine EqN.addN _ _ (by first | with_reducible rfl | with_reducible exact cst1 | with_reducible exact cst0 | with_reducible exact cst2 | with_reducible exact cst3 | with_reducible exact cst4 | with_reducible exact cst5 | with_reducible exact cst6 | with_reducible exact cst7 | with_reducible exact cst8 | with_reducible exact cst14 | with_reducible exact cst15 | with_reducible exact cst25 | with_reducible exact cst30 | with_reducible exact cst31 | fail) (by first | with_reducible rfl | with_reducible exact cst1 | with_reducible exact cst0 | with_reducible exact cst2 | with_reducible exact cst3 | with_reducible exact cst4 | with_reducible exact cst5 | with_reducible exact cst6 | with_reducible exact cst7 | with_reducible exact cst8 | with_reducible exact cst14 | with_reducible exact cst15 | with_reducible exact cst25 | with_reducible exact cst30 | with_reducible exact cst31 | fail) ?_ ?_; · (repeat' (first | omega | refine And.intro ?_ ?_ | exact bnd_andl (by omega) | exact bnd_andr (by omega) | refine bnd_or ?_ ?_ | refine bnd_or31 ?_ ?_ | refine bnd_xor ?_ ?_ | refine bnd_xor31 ?_ ?_ | refine bnd_shr ?_ | refine bnd_shl ?_ ?_ | refine bnd_mod ?_ | refine bnd_andl ?_ | fail))) | fail) | (refine CallN.id ?_; first | refine CallN.det _ (hb _) ?_ | refine CallN.det _ (hv _) ?_ | refine CallN.det _ (ho _) ?_ | fail) | refine DrawN.mk' [] ?_ | fail))); all_goals (conv => whnf)
    (refine ⟨⟨n + 1, by omega, by omega, ?_, .inl ⟨rfl, rfl⟩, rfl, _, rfl, ?_⟩⟩; rotate_left 1; (first | exact .inl rfl | exact .inr ⟨by simp [belowRE, below, belowL, tr, mpB_belowK, mpB_belowV, encS_below, ixV_below, tabB_below, cells_below], by simp [belowH, Blk.below, belowL, below, mpB_belowK, mpB_belowV, encS_below, ixV_below, tabB_below, cells_below]⟩ | fail); (repeat' (first | exact trivial | refine ⟨⟨_, rfl, ?_⟩, ?_⟩ | fail)); all_goals try (first | exact Wk.refl _ | exact Wk.of_eq (congrArg (AV.int _) (by omega)) | fail))
  · have hS : min (64 * n) S = S := by omega
    rw [hS]
    generalize cntS S F = x at *
    (repeat' ((conv => whnf); (first | (refine IfN.id ?_; first | refine IfN.dF (by omega) ?_ | fail) | (refine CallN.id ?_; first | refine CallN.det _ (hsz _) ?_ | fail) | refine DrawN.mk' [] ?_ | fail))); all_goals (conv => whnf)
    exact EndN.det ⟨trivial, trivial, trivial, trivial⟩ (Wk.refl _)
end Go.Proofs.YtekhodpmpjehaaaDoor
/-! text RQ10 -/
namespace Go.Proofs.YtekhodpmpjehaaaDoor
open Go.Vsi
set_option maxHeartbeats 1000000
attribute [local irreducible] VW VCall VO bits mkBits
/-- truth.Follows -/
theorem follows_c (L R : List Fm) (hg : ∀ f ∈ L ++ R, f.Good) (hn : nodesL (L ++ R) ≤ 1000) (hlen : L.length + R.length ≤ 1000) (h12 : (namesL (L ++ R)).length ≤ 12) (H : Heap) :
    VDet Tryd.prog 15 [.agg [.sl none L.length (L.flatMap Fm.cells), .sl none R.length (R.flatMap Fm.cells)]] H (.tup [.bool (falV L R).isNone, .int .i64 0]) := by
  have h1 := falsify_c L R hg hn hlen h12
  have hl := fun n => cells_below n L
  have hr := fun n => cells_below n R
  generalize L.flatMap Fm.cells = lc at *
  generalize R.flatMap Fm.cells = rc at *
  generalize falV L R = o at *
  cases o with
  | none =>
    simp only [falA] at h1
    refine fn_det Tryd.E0 Tryd.mx Tryd.func15 (by kernel_rfl) rfl (Nat.le_of_ble_eq_true rfl) rfl fun hcl hbl => ?_
    (repeat' ((conv => whnf); (first | (refine IfN.id ?_; first | refine IfN.tt rfl ?_ | fail) | (refine CallN.id ?_; first | refine CallN.det _ (h1 _) ?_ | fail) | refine DrawN.mk' [] ?_ | fail))); all_goals (conv => whnf)
    exact EndN.det ⟨trivial, trivial, trivial⟩ (Wk.refl _)
  | some v =>
    simp only [falA] at h1
    refine fn_det Tryd.E0 Tryd.mx Tryd.func15 (by kernel_rfl) rfl (Nat.le_of_ble_eq_true rfl) rfl fun hcl hbl => ?_
    (repeat' ((conv => whnf); (first | (refine IfN.id ?_; first | refine IfN.tt rfl ?_ | fail) | (refine CallN.id ?_; first | refine CallN.det _ (h1 _) ?_ | fail) | refine DrawN.mk' [] ?_ | fail))); all_goals (conv => whnf)
    exact EndN.det ⟨trivial, trivial, trivial⟩ (Wk.refl _)
theorem lets_ok : NmOk lets := nmok_of (by decide) (show ∀ c ∈ lets, 130 ≤ c.toNat ∧ c.toNat ≤ 181 by decide)
/-- lyceumlaw10.value -/
theorem value_c (f : Fm) (hf : f.Good) (hin : f.In lets) (v : Nat) (hv : v < 4096) (H : Heap) : VDet Tryd.prog 12 [.agg f.cells, .int .i64 v] H (.tup [.bool (f.ev (vb lets v)), .bool true]) := by
  have hok := lets_ok
  have h1 := eval_c f hf lets hok (by decide) hin v hv
  have h0 := letters_c
  have hl := fun n => encS_below n lets
  rw [show lets.length = 12 from rfl] at h1
  generalize lets.flatMap encS = lc at *
  have hfb := fun n => f.sc_below n
  have hfc : f.cells = [.int .u8 f.op, .str f.nmB, .sl none 0 [], .sl none f.sn f.sc] := rfl
  generalize f.ev (vb lets v) = b at *
  rw [hfc] at h1 ⊢
  generalize f.op = fo at *
  generalize f.nmB = fn at *
  generalize f.sn = fsn at *
  generalize f.sc = fsc at *
  refine fn_det Tryd.E0 Tryd.mx Tryd.func12 (by kernel_rfl) rfl (Nat.le_of_ble_eq_true rfl) rfl fun hcl hbl => ?_
  (repeat' ((conv => whnf); (first | (refine SideN.mk ?_ ?_; · first | kernel_rfl | omega | exact List.cons_ne_nil _ _ | (simp; done) | (simp; omega) | exact trivial | assumption | fail) | (refine CallD.id ?_; first | refine CallD.det _ (fun _ hq X => h0 _) ?_ | refine CallD.det _ (fun _ hq X => h1 _) ?_ | fail) | refine DrawN.mk' [] ?_ | fail))); all_goals (conv => whnf)
  exact EndN.det ⟨trivial, trivial, trivial⟩ (Wk.refl _)
end Go.Proofs.YtekhodpmpjehaaaDoor
