/- A text of the proof: the parts L14, N14, P14, Q14, S14. -/
import Derived.Test.YtjflngchbeegcaaDoorK7
set_option linter.unusedSimpArgs false
set_option linter.unusedVariables false
/-! text L14 -/
namespace Go.Proofs.YtjflngchbeegcaaDoor
open Go.Vsi
set_option maxHeartbeats 4000000
attribute [local irreducible] VW VCall VO bits

/-! ### TraceSuffix -/
theorem ev_bit {t : Tr} (ht : t.Ok) (f : Fm) (x : Nat) : (evT t f >>> posN t.n t.lp x) &&& 1 = (tm t.n t.lp (evT t f) x).toNat := bit1 _ _
theorem posN_next {n lp : Nat} (hn : n ≤ 5) (hl : lp < n) (x : Nat) : posN n lp (x + 1) = if posN n lp x + 1 < n then posN n lp x + 1 else lp := by
  rw [← posN_add hn hl]
  have hp := posN_lt (x := x) hl
  generalize posN n lp x = p at hp
  by_cases h : p + 1 < n
  · rw [if_pos h]; exact posN_self h
  · rw [if_neg h]
    have : p + 1 = n := by omega
    rw [this]
    unfold posN
    rw [if_neg (Nat.lt_irrefl n), Nat.mod_self]
    rfl
theorem suffix_c (sz lp x y z : Nat) (code : List Nat) (tt u : Nat) (hs : sz ≤ 255) (hl : lp ≤ 255) (hx : x ≤ 255) (hy : y ≤ 255) (hz : z ≤ 255) (hcd : code.length ≤ 9223372036854775807) (hcb : ∀ i, i < code.length → code.getD i 0 ≤ 255) (ht : tt ≤ 65535) (hu : u ≤ 65535) (H : Heap) :
    VDet Tryd.prog 6 [.int .u8 sz, .int .u8 lp, .agg [.int .u8 x, .int .u8 y, .int .u8 z], .sl none code.length (code.flatMap encB), .int .u16 tt, .int .u16 u] H (.bool true) := by
  have hmd := fun H => Made_c sz lp x y z hs hl hx hy hz H
  have hbu := fun H => built_c code hcd hcb H
  obtain ⟨hg, hnd⟩ := blt_ok code
  generalize bltF code = f at hbu hg hnd
  obtain ⟨n, l, a, b, c, he, h1, h5, hln, ha, hb, hc⟩ := made_ex sz lp x y z
  rw [he] at hmd
  have hm := ok3 n l a b c h1 h5 hln ha hb hc
  have hms := miss_pqr n l a b c f hg.pqr
  have hms2 : miss (sufT ⟨n, l, [(80, a), (81, b), (82, c)]⟩ tt) f = false := (miss_taken _ _ _ f).trans hms
  have hAt := fun H => At_c _ hm f hg.ok hg.temp (by omega) H
  rw [hms] at hAt
  have hP := fun H => Position_c _ hm tt (by omega) H
  have hP2 := fun H => Position_c _ hm (tt + 1) (by omega) H
  have hS1 := fun H => Suffix_c _ hm tt (by omega) H
  have hS3 := fun H => Suffix_c _ hm (tt + u) (by omega) H
  have hso := sufT_ok hm tt
  have hS2 := fun H => Suffix_c _ hso u (by omega) H
  have hH := fun H => Holds_c _ hso f hg.ok hg.temp (by omega) hms2 H
  have hV := fun H => valid_t hso H
  have e1 := suf_suf hm tt u
  rw [e1] at hS2
  have hM := fun H => sameModel_c (sufT ⟨n, l, [(80, a), (81, b), (82, c)]⟩ (tt + u)) (sufT ⟨n, l, [(80, a), (81, b), (82, c)]⟩ (tt + u)) (sufT_ok hm (tt + u)).len (sufT_ok hm (tt + u)).len H
  rw [(eqT_iff _ _).2 rfl] at hM
  have hsem := sufT_sem hm tt f 0
  have hb1 := ev_bit hm f tt
  have hb2 : evT (sufT ⟨n, l, [(80, a), (81, b), (82, c)]⟩ tt) f &&& 1 = (tm (sufT ⟨n, l, [(80, a), (81, b), (82, c)]⟩ tt).n (sufT ⟨n, l, [(80, a), (81, b), (82, c)]⟩ tt).lp (evT (sufT ⟨n, l, [(80, a), (81, b), (82, c)]⟩ tt) f) 0).toNat := by
    have := ev_bit hso f 0
    rwa [posN_self hso.n1, Nat.shiftRight_zero] at this
  rw [Nat.zero_add] at hsem
  rw [hsem] at hb1
  rw [hb2] at hH
  have hpq := posN_add h5 hln tt 1
  have hpl : posN n l tt < n := posN_lt hln
  have hsn : (sufT ⟨n, l, [(80, a), (81, b), (82, c)]⟩ tt).n ≤ n := by rw [sufT_n]; exact sufK_le
  have hlt := evT_lt hm f
  have hlt32 := p2_32 hlt h5
  generalize tm (sufT ⟨n, l, [(80, a), (81, b), (82, c)]⟩ tt).n _ _ 0 = B at hb1 hH
  clear hb2 hsem e1
  generalize sufT ⟨n, l, [(80, a), (81, b), (82, c)]⟩ (tt + u) = S3 at *
  generalize sufT ⟨n, l, [(80, a), (81, b), (82, c)]⟩ tt = S at *
  generalize evT ⟨n, l, [(80, a), (81, b), (82, c)]⟩ f = E at *
  simp only [Bool.false_eq_true, if_false] at hAt
  have hnext := posN_next h5 hln tt
  simp only at hb1 hP hP2
  generalize posN n l (tt + 1) = q at *
  generalize posN n l tt = p at *
  unfold Tr.cells at hmd hAt hP hP2 hS1 hS2 hS3 hH hV hM
  unfold Fm.cells at hbu hAt hH
  simp only at hmd hAt hP hP2 hS1 hS2 hS3 hH hV hM hbu
  refine fn_det Tryd.E0 Tryd.mx Tryd.func6 (by kernel_rfl) rfl (Nat.le_of_ble_eq_true rfl) rfl fun hcl hbl => ?_
  (repeat' ((conv => whnf); (first | (refine IfN.id ?_; first | refine IfN.not ?_ | refine IfN.tt rfl ?_ | refine IfN.dT (by omega) ?_ | refine IfN.dF (by omega) ?_ | refine IfN.dec (fun _ => ?_) (fun _ => ?_) | fail) | (refine EqN.id ?_; first | (refine EqN.and _ _ (by first | with_reducible rfl | with_reducible exact cst1 | with_reducible exact cst0 | with_reducible exact cst2 | with_reducible exact cst3 | with_reducible exact cst4 | with_reducible exact cst5 | with_reducible exact cst6 | with_reducible exact cst7 | with_reducible exact cst8 | with_reducible exact cst14 | with_reducible exact cst15 | with_reducible exact cst25 | with_reducible exact cst30 | with_reducible exact cst31 | fail) (by first | with_reducible rfl | with_reducible exact cst1 | with_reducible exact cst0 | with_reducible exact cst2 | with_reducible exact cst3 | with_reducible exact cst4 | with_reducible exact cst5 | with_reducible exact cst6 | with_reducible exact cst7 | with_reducible exact cst8 | with_reducible exact cst14 | with_reducible exact cst15 | with_reducible exact cst25 | with_reducible exact cst30 | with_reducible exact cst31 | fail) ?_ ?_; · (repeat' (first | omega | refine And.intro ?_ ?_ | exact bnd_andl (by omega) | exact bnd_andr (by omega) | refine bnd_or ?_ ?_ | refine bnd_or31 ?_ ?_ | refine bnd_xor ?_ ?_ | refine bnd_xor31 ?_ ?_ | refine bnd_shr ?_ | refine bnd_shl ?_ ?_ | refine bnd_mod ?_ | refine bnd_andl ?_ | fail))) | (refine EqN.shrN _ _ (by first | with_reducible rfl | with_reducible exact cst1 | with_reducible exact cst0 | with_reducible exact cst2 | with_reducible exact cst3 | with_reducible exact cst4 | with_reducible exact cst5 | with_reducible exact cst6 | with_reducible exact cst7 | with_reducible exact cst8 | with_reducible exact cst14 | with_reducible exact cst15 | with_reducible exact cst25 | with_reducible exact cst30 | with_reducible exact cst31 | fail) (by first | with_reducible rfl | with_reducible exact cst1 | with_reducible exact cst0 | with_reducible exact cst2 | with_reducible exact cst3 | with_reducible exact cst4 | with_reducible exact cst5 | with_reducible exact cst6 | with_reducible exact cst7 | with_reducible exact cst8 | with_reducible exact cst14 | with_reducible exact cst15 | with_reducible exact cst25 | with_reducible exact cst30 | with_reducible exact cst31 | fail) rfl ?_ ?_; · (repeat' (first | omega | refine And.intro ?_ ?_ | exact bnd_andl (by omega) | exact bnd_andr (by omega) | refine bnd_or ?_ ?_ | refine bnd_or31 ?_ ?_ | refine bnd_xor ?_ ?_ | refine bnd_xor31 ?_ ?_ | refine bnd_shr ?_ | refine bnd_shl ?_ ?_ | refine bnd_mod ?_ | refine bnd_andl ?_ | fail))) | (refine EqN.addN _ _ (by first | with_reducible rfl | with_reducible exact cst1 | with_reducible exact cst0 | with_reducible exact cst2 | with_reducible exact cst3 | with_reducible exact cst4 | with_reducible exact cst5 | with_reducible exact cst6 | with_reducible exact cst7 | with_reducible exact cst8 | with_reducible exact cst14 | with_reducible exact cst15 | with_reducible exact cst25 | with_reducible exact cst30 | with_reducible exact cst31 | fail) (by first | with_reducible rfl | with_reducible exact cst1 | with_reducible exact cst0 | with_reducible exact cst2 | with_reducible exact cst3 | with_reducible exact cst4 | with_reducible exact cst5 | with_reducible exact cst6 | with_reducible exact cst7 | with_reducible exact cst8 | with_reducible exact cst14 | with_reducible exact cst15 | with_reducible exact cst25 | with_reducible exact cst30 | with_reducible exact cst31 | fail) ?_ ?_; · (repeat' (first | omega | refine And.intro ?_ ?_ | exact bnd_andl (by omega) | exact bnd_andr (by omega) | refine bnd_or ?_ ?_ | refine bnd_or31 ?_ ?_ | refine bnd_xor ?_ ?_ | refine bnd_xor31 ?_ ?_ | refine bnd_shr ?_ | refine bnd_shl ?_ ?_ | refine bnd_mod ?_ | refine bnd_andl ?_ | fail))) | (refine EqN.subN _ _ (by first | with_reducible rfl | with_reducible exact cst1 | with_reducible exact cst0 | with_reducible exact cst2 | with_reducible exact cst3 | with_reducible exact cst4 | with_reducible exact cst5 | with_reducible exact cst6 | with_reducible exact cst7 | with_reducible exact cst8 | with_reducible exact cst14 | with_reducible exact cst15 | with_reducible exact cst25 | with_reducible exact cst30 | with_reducible exact cst31 | fail) (by first | with_reducible rfl | with_reducible exact cst1 | with_reducible exact cst0 | with_reducible exact cst2 | with_reducible exact cst3 | with_reducible exact cst4 | with_reducible exact cst5 | with_reducible exact cst6 | with_reducible exact cst7 | with_reducible exact cst8 | with_reducible exact cst14 | with_reducible exact cst15 | with_reducible exact cst25 | with_reducible exact cst30 | with_reducible exact cst31 | fail) ?_ ?_; · (repeat' (first | omega | refine And.intro ?_ ?_ | exact bnd_andl (by omega) | exact bnd_andr (by omega) | refine bnd_or ?_ ?_ | refine bnd_or31 ?_ ?_ | refine bnd_xor ?_ ?_ | refine bnd_xor31 ?_ ?_ | refine bnd_shr ?_ | refine bnd_shl ?_ ?_ | refine bnd_mod ?_ | refine bnd_andl ?_ | fail))) | refine EqN.i64 (by omega) ?_ | fail) | (refine SideN.mk ?_ ?_; · first | kernel_rfl | omega | exact List.cons_ne_nil _ _ | (simp; done) | (simp; omega) | exact trivial | assumption | fail) | (refine CallN.id ?_; first | refine CallN.det _ (awake_c _) ?_ | refine CallN.det _ (hmd _) ?_ | refine CallN.det _ (hbu _) ?_ | refine CallN.det _ (hAt _) ?_ | refine CallN.det _ (hP _) ?_ | refine CallN.det _ (hP2 _) ?_ | refine CallN.det _ (hS1 _) ?_ | refine CallN.det _ (hS2 _) ?_ | refine CallN.det _ (hS3 _) ?_ | refine CallN.det _ (hH _) ?_ | refine CallN.det _ (hV _) ?_ | refine CallN.det _ (hM _) ?_ | fail) | refine DrawN.mk' [] ?_ | fail))); all_goals (conv => whnf)
  all_goals first
    | exact EndN.det trivial (Wk.refl _)
    | (exfalso; split at hnext; all_goals omega)
    | (rename_i hx; exact absurd (by rw [hb1]) hx)
    | fail
end Go.Proofs.YtjflngchbeegcaaDoor
/-! text N14 -/
namespace Go.Proofs.YtjflngchbeegcaaDoor
open Go.Vsi
set_option maxHeartbeats 4000000
attribute [local irreducible] VW VCall VO bits

/-! ### lyceumkit.CopyModel: a copy of one's own -/
theorem copyInts_c (H : Heap) : VDet Tryd.prog 44 [.sl none 0 []] H .nils := by
  refine fn_det Tryd.E0 Tryd.mx Tryd.func44 (by kernel_rfl) rfl (Nat.le_of_ble_eq_true rfl) rfl fun hcl hbl => ?_
  (repeat' ((conv => whnf); (first | (refine SideN.mk ?_ ?_; · first | kernel_rfl | omega | exact List.cons_ne_nil _ _ | (simp; done) | (simp; omega) | exact trivial | assumption | fail) | refine OrN.r (OrN.l ?_) | refine DrawN.mk' [] ?_ | fail))); all_goals (conv => whnf)
  exact EndN.det trivial (Wk.refl _)
theorem copyBinds_c (H : Heap) : VDet Tryd.prog 47 [.sl none 0 []] H .nils := by
  refine fn_det Tryd.E0 Tryd.mx Tryd.func47 (by kernel_rfl) rfl (Nat.le_of_ble_eq_true rfl) rfl fun hcl hbl => ?_
  (repeat' ((conv => whnf); (first | (refine SideN.mk ?_ ?_; · first | kernel_rfl | omega | exact List.cons_ne_nil _ _ | (simp; done) | (simp; omega) | exact trivial | assumption | fail) | refine OrN.r (OrN.l ?_) | refine DrawN.mk' [] ?_ | fail))); all_goals (conv => whnf)
  exact EndN.det trivial (Wk.refl _)
theorem copyFuncs_c (H : Heap) : VDet Tryd.prog 46 [.sl none 0 []] H .nils := by
  refine fn_det Tryd.E0 Tryd.mx Tryd.func46 (by kernel_rfl) rfl (Nat.le_of_ble_eq_true rfl) rfl fun hcl hbl => ?_
  (repeat' ((conv => whnf); (first | refine DrawN.mk' [] ?_ | fail))); all_goals (conv => whnf)
  refine LoopN.rounds Tryd.E0 Tryd.mx 1 rfl ?_
  (repeat' ((conv => whnf); (first | (refine IfN.id ?_; first | refine IfN.ff rfl ?_ | fail) | refine DrawN.mk' [] ?_ | fail))); all_goals (conv => whnf)
  exact EndN.det trivial (Wk.refl _)
def cel3 (a b c : Nat) : List AV := [.str (nm 80), .int .i64 0, .int .i64 a, .str (nm 81), .int .i64 0, .int .i64 b, .str (nm 82), .int .i64 0, .int .i64 c]
theorem copyFacts_c (a b c : Nat) (H : Heap) (i : Nat) (hi : H.length = i) : VCall Tryd.prog 45 [.sl none 3 (cel3 a b c)] H (fun r H' => ∃ s, r = .ms i 0 3 ∧ H' = H ++ [.box 49 (cel3 a b c ++ List.replicate s .junk)]) := by
  subst hi
  unfold cel3
  refine fn_gen Tryd.E0 Tryd.mx Tryd.func45 (by kernel_rfl) rfl (Nat.le_of_ble_eq_true rfl) rfl fun hcl hbl => ?_
  (repeat' ((conv => whnf); (first | refine OrN.r (OrN.r ?_) | refine SideN.mk ⟨Nat.le_of_ble_eq_true rfl, rfl, rfl, by simp, by simp [maxLen]⟩ ?_ | refine BlkUN.box fun s => ?_ | refine DrawN.mk' [] ?_ | fail))); all_goals (conv => whnf)
  exact EndN.keep _ (Wk.refl _) ⟨_, rfl, rfl⟩
def cpy (n l i : Nat) : List AV := [.int .u8 5, .int .i64 n, .nils, .int .i64 l, .ms i 0 3, .nils, .nils]
theorem copyModel_c (n l a b c : Nat) (H : Heap) (i : Nat) (hi : H.length + 2 = i) : VCall Tryd.prog 18 [.agg (Tr.cells ⟨n, l, [(80, a), (81, b), (82, c)]⟩)] H (fun r H' => ∃ s, r = .agg (cpy n l i) ∧ H' = H ++ [.box 30 (cpy n l i), .box 30 (cpy n l i), .box 49 (cel3 a b c ++ List.replicate s .junk)]) := by
  subst hi
  have hf := fun H i hi => copyFacts_c a b c H i hi
  unfold cpy
  unfold Tr.cells
  refine fn_gen Tryd.E0 Tryd.mx Tryd.func18 (by kernel_rfl) rfl (Nat.le_of_ble_eq_true rfl) rfl fun hcl hbl => ?_
  (repeat' ((conv => whnf); (first | (refine CallN.id ?_; first | refine CallN.det _ (copyInts_c _) ?_ | refine CallN.det _ (copyFuncs_c _) ?_ | refine CallN.det _ (copyBinds_c _) ?_ | fail) | refine CallN.more (fun _ => .ms (H.length + 2) 0 3) (fun s => [.box 49 (cel3 a b c ++ List.replicate s AV.junk)]) (hf _ (H.length + 2) (by simp)) rfl _ (fun _ => rfl) 3 (fun _ => rfl) fun s => ?_ | refine DrawN.mk' [] ?_ | fail))); all_goals (conv => whnf)
  exact EndN.keep _ (Wk.refl _) ⟨s, rfl, rfl⟩
end Go.Proofs.YtjflngchbeegcaaDoor
/-! text P14 -/
namespace Go.Proofs.YtjflngchbeegcaaDoor
open Go.Vsi
set_option maxHeartbeats 8000000
attribute [local irreducible] VW VCall VO bits

/-! ### what is no trace is rejected -/
def zmod : AV := .agg [.int .u8 0, .int .i64 0, .nils, .int .i64 0, .nils, .nils, .nils]
structure Bad (A : AV) : Prop where
  h : ∃ t : Md, A = .agg t.cells ∧ ∀ H, VDet Tryd.prog 15 [.agg t.cells] H (.bool false)
theorem bad_of (t : Md) (hl : t.fs.length ≤ 1000) (hc : ∀ i, i < t.fs.length → cap (fa t.fs i).c) (hv : validB t = false) : Bad (.agg t.cells) :=
  ⟨t, rfl, fun H => by have := valid_c t hl hc H; rwa [hv] at this⟩
theorem atE (A : AV) (hA : Bad A) (f : Fm) (H : Heap) : VDet Tryd.prog 14 [A, .agg f.cells] H (.tup [.int .i64 0, .int .i64 2]) := by
  obtain ⟨t, rfl, hv⟩ := hA
  unfold Md.cells at hv ⊢
  unfold Fm.cells
  refine fn_det Tryd.E0 Tryd.mx Tryd.func14 (by kernel_rfl) rfl (Nat.le_of_ble_eq_true rfl) rfl fun hcl hbl => ?_
  (repeat' ((conv => whnf); (first | (refine IfN.id ?_; first | refine IfN.not ?_ | refine IfN.ff rfl ?_ | fail) | (refine CallN.id ?_; first | refine CallN.det _ (hv _) ?_ | fail) | refine DrawN.mk' [] ?_ | fail))); all_goals (conv => whnf)
  exact EndN.det (by simp [below, belowL]) (Wk.refl _)
theorem holdsE (A : AV) (hA : Bad A) (f : Fm) (H : Heap) : VDet Tryd.prog 28 [A, .agg f.cells] H (.tup [.bool false, .int .i64 2]) := by
  have ha := fun H => atE A hA f H
  obtain ⟨t, rfl, hv⟩ := hA
  unfold Md.cells at ha ⊢
  unfold Fm.cells at ha ⊢
  refine fn_det Tryd.E0 Tryd.mx Tryd.func28 (by kernel_rfl) rfl (Nat.le_of_ble_eq_true rfl) rfl fun hcl hbl => ?_
  (repeat' ((conv => whnf); (first | (refine IfN.id ?_; first | refine IfN.ff rfl ?_ | fail) | (refine CallN.id ?_; first | refine CallN.det _ (ha _) ?_ | fail) | refine DrawN.mk' [] ?_ | fail))); all_goals (conv => whnf)
  exact EndN.det (by simp [below, belowL]) (Wk.refl _)
theorem posE (A : AV) (hA : Bad A) (x : Int) (H : Heap) : VDet Tryd.prog 17 [A, .int .i64 x] H (.tup [.int .i64 0, .int .i64 2]) := by
  obtain ⟨t, rfl, hv⟩ := hA
  unfold Md.cells at hv ⊢
  refine fn_det Tryd.E0 Tryd.mx Tryd.func17 (by kernel_rfl) rfl (Nat.le_of_ble_eq_true rfl) rfl fun hcl hbl => ?_
  (repeat' ((conv => whnf); (first | (refine IfN.id ?_; first | refine IfN.not ?_ | refine IfN.ff rfl ?_ | fail) | (refine CallN.id ?_; first | refine CallN.det _ (hv _) ?_ | fail) | refine DrawN.mk' [] ?_ | fail))); all_goals (conv => whnf)
  exact EndN.det (by simp [below, belowL]) (Wk.refl _)
theorem sufE (A : AV) (hA : Bad A) (x : Int) (H : Heap) : VDet Tryd.prog 27 [A, .int .i64 x] H (.tup [zmod, .int .i64 2]) := by
  obtain ⟨t, rfl, hv⟩ := hA
  unfold Md.cells at hv ⊢
  unfold zmod
  refine fn_det Tryd.E0 Tryd.mx Tryd.func27 (by kernel_rfl) rfl (Nat.le_of_ble_eq_true rfl) rfl fun hcl hbl => ?_
  (repeat' ((conv => whnf); (first | (refine IfN.id ?_; first | refine IfN.not ?_ | refine IfN.ff rfl ?_ | fail) | (refine CallN.id ?_; first | refine CallN.det _ (hv _) ?_ | fail) | refine DrawN.mk' [] ?_ | fail))); all_goals (conv => whnf)
  exact EndN.det (by simp [below, belowL]) (Wk.refl _)
theorem sameE (A B : AV) (hA : Bad A) (hB : ∃ l, B = .agg l) (H : Heap) : VDet Tryd.prog 13 [A, B] H (.tup [.bool false, .int .i64 2]) := by
  obtain ⟨t, rfl, hv⟩ := hA
  obtain ⟨l, rfl⟩ := hB
  unfold Md.cells at hv ⊢
  refine fn_det Tryd.E0 Tryd.mx Tryd.func13 (by kernel_rfl) rfl (Nat.le_of_ble_eq_true rfl) rfl fun hcl hbl => ?_
  (repeat' ((conv => whnf); (first | (refine IfN.id ?_; first | refine IfN.not ?_ | refine IfN.ff rfl ?_ | fail) | (refine CallN.id ?_; first | refine CallN.det _ (hv _) ?_ | fail) | refine DrawN.mk' [] ?_ | fail))); all_goals (conv => whnf)
  exact EndN.det (by simp [below, belowL]) (Wk.refl _)
theorem sameE2 (t : Tr) (ht : t.Ok) (B : AV) (hB : Bad B) (H : Heap) : VDet Tryd.prog 13 [.agg t.cells, B] H (.tup [.bool false, .int .i64 2]) := by
  have hm := fun H => valid_t ht H
  obtain ⟨u, rfl, hv⟩ := hB
  unfold Md.cells at hv ⊢
  unfold Tr.cells at hm ⊢
  refine fn_det Tryd.E0 Tryd.mx Tryd.func13 (by kernel_rfl) rfl (Nat.le_of_ble_eq_true rfl) rfl fun hcl hbl => ?_
  (repeat' ((conv => whnf); (first | (refine IfN.id ?_; first | refine IfN.not ?_ | refine IfN.tt rfl ?_ | refine IfN.ff rfl ?_ | fail) | (refine CallN.id ?_; first | refine CallN.det _ (hm _) ?_ | refine CallN.det _ (hv _) ?_ | fail) | refine DrawN.mk' [] ?_ | fail))); all_goals (conv => whnf)
  exact EndN.det (by simp [below, belowL]) (Wk.refl _)
theorem shortE (A : AV) (hA : Bad A) (H : Heap) : VDet Tryd.prog 12 [A] H (.tup [zmod, .int .i64 2]) := by
  obtain ⟨t, rfl, hv⟩ := hA
  unfold Md.cells at hv ⊢
  unfold zmod
  refine fn_det Tryd.E0 Tryd.mx Tryd.func12 (by kernel_rfl) rfl (Nat.le_of_ble_eq_true rfl) rfl fun hcl hbl => ?_
  (repeat' ((conv => whnf); (first | (refine IfN.id ?_; first | refine IfN.not ?_ | refine IfN.ff rfl ?_ | fail) | (refine CallN.id ?_; first | refine CallN.det _ (hv _) ?_ | fail) | refine DrawN.mk' [] ?_ | fail))); all_goals (conv => whnf)
  exact EndN.det (by simp [below, belowL]) (Wk.refl _)
theorem numE (A : AV) (hA : Bad A) (H : Heap) : VDet Tryd.prog 29 [A] H (.tup [.int .i64 0, .int .i64 2]) := by
  obtain ⟨t, rfl, hv⟩ := hA
  unfold Md.cells at hv ⊢
  refine fn_det Tryd.E0 Tryd.mx Tryd.func29 (by kernel_rfl) rfl (Nat.le_of_ble_eq_true rfl) rfl fun hcl hbl => ?_
  (repeat' ((conv => whnf); (first | (refine IfN.id ?_; first | refine IfN.not ?_ | refine IfN.ff rfl ?_ | fail) | (refine CallN.id ?_; first | refine CallN.det _ (hv _) ?_ | fail) | refine DrawN.mk' [] ?_ | fail))); all_goals (conv => whnf)
  exact EndN.det (by simp [below, belowL]) (Wk.refl _)
/-! ### times, names, sizes that there are not -/
theorem posN_c (t : Tr) (ht : t.Ok) (x : Int) (hx : x < 0) (H : Heap) : VDet Tryd.prog 17 [.agg t.cells, .int .i64 x] H (.tup [.int .i64 0, .int .i64 2]) := by
  have hm := fun H => valid_t ht H
  unfold Tr.cells at hm ⊢
  refine fn_det Tryd.E0 Tryd.mx Tryd.func17 (by kernel_rfl) rfl (Nat.le_of_ble_eq_true rfl) rfl fun hcl hbl => ?_
  (repeat' ((conv => whnf); (first | (refine IfN.id ?_; first | refine IfN.not ?_ | refine IfN.tt rfl ?_ | refine IfN.dT (by omega) ?_ | fail) | (refine CallN.id ?_; first | refine CallN.det _ (hm _) ?_ | fail) | refine DrawN.mk' [] ?_ | fail))); all_goals (conv => whnf)
  all_goals exact EndN.det (by simp [below, belowL]) (Wk.refl _)
theorem sufN_c (t : Tr) (ht : t.Ok) (x : Int) (hx : x < 0) (H : Heap) : VDet Tryd.prog 27 [.agg t.cells, .int .i64 x] H (.tup [zmod, .int .i64 2]) := by
  have hm := fun H => valid_t ht H
  unfold Tr.cells at hm ⊢
  unfold zmod
  refine fn_det Tryd.E0 Tryd.mx Tryd.func27 (by kernel_rfl) rfl (Nat.le_of_ble_eq_true rfl) rfl fun hcl hbl => ?_
  (repeat' ((conv => whnf); (first | (refine IfN.id ?_; first | refine IfN.not ?_ | refine IfN.tt rfl ?_ | refine IfN.dT (by omega) ?_ | fail) | (refine CallN.id ?_; first | refine CallN.det _ (hm _) ?_ | fail) | refine DrawN.mk' [] ?_ | fail))); all_goals (conv => whnf)
  all_goals exact EndN.det (by simp [below, belowL]) (Wk.refl _)
theorem countQP (H : Heap) : VDet Tryd.prog 19 [.sl none 2 [.str (nm 81), .str (nm 80)], .int .i64 1] H (.tup [.int .i64 0, .int .i64 2]) := by
  have h81 := fun H => predicate_c 81 (⟨by decide, by decide⟩ : cap 81) H
  have h80 := fun H => predicate_c 80 (⟨by decide, by decide⟩ : cap 80) H
  refine fn_det Tryd.E0 Tryd.mx Tryd.func19 (by kernel_rfl) rfl (Nat.le_of_ble_eq_true rfl) rfl fun hcl hbl => ?_
  (repeat' ((conv => whnf); (first | (refine IfN.id ?_; first | refine IfN.ff rfl ?_ | fail) | refine DrawN.mk' [] ?_ | fail))); all_goals (conv => whnf)
  refine LoopN.rounds Tryd.E0 Tryd.mx 2 rfl ?_
  (repeat' ((conv => whnf); (first | (refine IfN.id ?_; first | refine IfN.ff (by rw [nm_lt]; decide) ?_ | refine IfN.not ?_ | refine IfN.tt rfl ?_ | refine IfN.ff rfl ?_ | fail) | (refine EqN.id ?_; first | (refine EqN.addN _ _ (by first | with_reducible rfl | with_reducible exact cst1 | with_reducible exact cst0 | with_reducible exact cst2 | with_reducible exact cst3 | with_reducible exact cst4 | with_reducible exact cst5 | with_reducible exact cst6 | with_reducible exact cst7 | with_reducible exact cst8 | with_reducible exact cst14 | with_reducible exact cst15 | with_reducible exact cst25 | with_reducible exact cst30 | with_reducible exact cst31 | fail) (by first | with_reducible rfl | with_reducible exact cst1 | with_reducible exact cst0 | with_reducible exact cst2 | with_reducible exact cst3 | with_reducible exact cst4 | with_reducible exact cst5 | with_reducible exact cst6 | with_reducible exact cst7 | with_reducible exact cst8 | with_reducible exact cst14 | with_reducible exact cst15 | with_reducible exact cst25 | with_reducible exact cst30 | with_reducible exact cst31 | fail) ?_ ?_; · (repeat' (first | omega | refine And.intro ?_ ?_ | exact bnd_andl (by omega) | exact bnd_andr (by omega) | refine bnd_or ?_ ?_ | refine bnd_or31 ?_ ?_ | refine bnd_xor ?_ ?_ | refine bnd_xor31 ?_ ?_ | refine bnd_shr ?_ | refine bnd_shl ?_ ?_ | refine bnd_mod ?_ | refine bnd_andl ?_ | fail))) | (refine EqN.subN _ _ (by first | with_reducible rfl | with_reducible exact cst1 | with_reducible exact cst0 | with_reducible exact cst2 | with_reducible exact cst3 | with_reducible exact cst4 | with_reducible exact cst5 | with_reducible exact cst6 | with_reducible exact cst7 | with_reducible exact cst8 | with_reducible exact cst14 | with_reducible exact cst15 | with_reducible exact cst25 | with_reducible exact cst30 | with_reducible exact cst31 | fail) (by first | with_reducible rfl | with_reducible exact cst1 | with_reducible exact cst0 | with_reducible exact cst2 | with_reducible exact cst3 | with_reducible exact cst4 | with_reducible exact cst5 | with_reducible exact cst6 | with_reducible exact cst7 | with_reducible exact cst8 | with_reducible exact cst14 | with_reducible exact cst15 | with_reducible exact cst25 | with_reducible exact cst30 | with_reducible exact cst31 | fail) ?_ ?_; · (repeat' (first | omega | refine And.intro ?_ ?_ | exact bnd_andl (by omega) | exact bnd_andr (by omega) | refine bnd_or ?_ ?_ | refine bnd_or31 ?_ ?_ | refine bnd_xor ?_ ?_ | refine bnd_xor31 ?_ ?_ | refine bnd_shr ?_ | refine bnd_shl ?_ ?_ | refine bnd_mod ?_ | refine bnd_andl ?_ | fail))) | fail) | (refine SideN.mk ?_ ?_; · first | kernel_rfl | omega | exact List.cons_ne_nil _ _ | (simp; done) | (simp; omega) | exact trivial | assumption | fail) | (refine CallN.id ?_; first | refine CallN.det _ (h81 _) ?_ | refine CallN.det _ (h80 _) ?_ | fail) | refine SegN.mk _ (seg_rfl rfl) ?_ | refine DrawN.mk' [] ?_ | fail))); all_goals (conv => whnf)
  all_goals exact EndN.det (by simp [below, belowL]) (Wk.refl _)
theorem countBig (n : Int) (hn : 6 ≤ n) (H : Heap) : VDet Tryd.prog 19 [.nils, .int .i64 n] H (.tup [.int .i64 0, .int .i64 2]) := by
  refine fn_det Tryd.E0 Tryd.mx Tryd.func19 (by kernel_rfl) rfl (Nat.le_of_ble_eq_true rfl) rfl fun hcl hbl => ?_
  (repeat' ((conv => whnf); (first | (refine IfN.id ?_; first | refine IfN.dT (by omega) ?_ | refine IfN.dF (by omega) ?_ | fail) | refine DrawN.mk' [] ?_ | fail))); all_goals (conv => whnf)
  all_goals exact EndN.det (by simp [below, belowL]) (Wk.refl _)
theorem nthBig (n : Int) (hn : 6 ≤ n) (H : Heap) : VDet Tryd.prog 20 [.nils, .int .i64 n, .int .i64 0] H (.tup [zmod, .int .i64 2]) := by
  have hc := fun H => countBig n hn H
  unfold zmod
  refine fn_det Tryd.E0 Tryd.mx Tryd.func20 (by kernel_rfl) rfl (Nat.le_of_ble_eq_true rfl) rfl fun hcl hbl => ?_
  (repeat' ((conv => whnf); (first | (refine IfN.id ?_; first | refine IfN.not ?_ | refine IfN.ff rfl ?_ | fail) | (refine CallN.id ?_; first | refine CallN.det _ (hc _) ?_ | fail) | refine DrawN.mk' [] ?_ | fail))); all_goals (conv => whnf)
  all_goals exact EndN.det (by simp [below, belowL]) (Wk.refl _)
theorem atBox (t : Tr) (ht : t.Ok) (f : Fm) (hf : f.Ok) (hn : (Fm.f1 10 f).Small) (H : Heap) : VDet Tryd.prog 14 [.agg t.cells, .agg (Fm.f1 10 f).cells] H (.tup [.int .i64 0, .int .i64 2]) := by
  have hm := fun H => valid_t ht H
  have hr := fun H => right_box f hf hn H
  unfold Tr.cells at hm ⊢
  unfold Fm.cells at hr ⊢
  refine fn_det Tryd.E0 Tryd.mx Tryd.func14 (by kernel_rfl) rfl (Nat.le_of_ble_eq_true rfl) rfl fun hcl hbl => ?_
  (repeat' ((conv => whnf); (first | (refine IfN.id ?_; first | refine IfN.not ?_ | refine IfN.tt rfl ?_ | refine IfN.ff rfl ?_ | fail) | (refine CallN.id ?_; first | refine CallN.det _ (hm _) ?_ | refine CallN.det _ (hr _) ?_ | fail) | refine DrawN.mk' [] ?_ | fail))); all_goals (conv => whnf)
  exact EndN.det (by simp [below, belowL]) (Wk.refl _)
end Go.Proofs.YtjflngchbeegcaaDoor
/-! text Q14 -/
namespace Go.Proofs.YtjflngchbeegcaaDoor
open Go.Vsi
set_option maxHeartbeats 8000000
attribute [local irreducible] VW VCall VO bits

/-! ### a formula with an argument is not temporal -/
def tA : List AV := [.bool false, .str (nm 97), .nils]
def pA : List AV := [.int .u8 1, .str (nm 80), .sx 1 tA, .nils]
def xA (f : Fm) : List AV := [.int .u8 14, .str .empty, .nils, .sl none 2 (f.cells ++ pA)]
theorem small_a (H : Heap) : VDet Tryd.prog 88 [.int .u8 97] H (.bool true) := by
  refine fn_det Tryd.E0 Tryd.mx Tryd.func88 (by kernel_rfl) rfl (Nat.le_of_ble_eq_true rfl) rfl fun hcl hbl => ?_
  (repeat' ((conv => whnf); (first | (refine IfN.id ?_; first | refine IfN.tt rfl ?_ | fail) | refine DrawN.mk' [] ?_ | fail))); all_goals (conv => whnf)
  exact EndN.det trivial (Wk.refl _)
theorem checkerF_c (H : Heap) : VDet Tryd.prog 66 [.clo (.func 88) [] [], .clo (.func 68) [] []] H (.clo (.func 72) [] [.rptr [.clo (.func 88) [] []], .rptr [.clo (.func 68) [] []]]) := by
  refine fn_det Tryd.E0 Tryd.mx Tryd.func66 (by kernel_rfl) rfl (Nat.le_of_ble_eq_true rfl) rfl fun hcl hbl => ?_
  (repeat' ((conv => whnf); (first | refine DrawN.mk' [] ?_ | fail))); all_goals (conv => whnf)
  refine EndN.detF ?_ ?_ (Wk.refl _)
  · simp [below, belowL, fnBelow]
  · repeat' (first | exact FrzL.nil | refine FrzL.cons ?_ ?_ | refine Frz.sx ?_ | refine Frz.clo ?_ ?_ | refine Frz.agg ?_ | refine Frz.tup ?_ | refine Frz.ptr rfl rfl (FrzL.refl _) | refine Frz.ms (by exact rfl) (by exact rfl) (FrzL.refl _) | exact Frz.refl _ | fail)
theorem checkF_c (H : Heap) : VDet Tryd.prog 72 [.str (nm 97), .rptr [.clo (.func 88) [] []], .rptr [.clo (.func 68) [] []]] H (.bool true) := by
  refine fn_det Tryd.E0 Tryd.mx Tryd.func72 (by kernel_rfl) rfl (Nat.le_of_ble_eq_true rfl) rfl fun hcl hbl => ?_
  (repeat' ((conv => whnf); (first | (refine IfN.id ?_; first | refine IfN.not ?_ | refine IfN.tt rfl ?_ | refine IfN.ff rfl ?_ | fail) | (refine SideN.mk ?_ ?_; · first | kernel_rfl | omega | exact List.cons_ne_nil _ _ | (simp; done) | (simp; omega) | exact trivial | assumption | fail) | (refine CallD.id ?_; first | refine CallD.det _ (fun _ hq X => reserved_c _ _) ?_ | refine CallD.det _ (fun _ hq X => small_a _) ?_ | fail) | refine ByteN.mk 97 rfl ?_ | refine DrawN.mk' [] ?_ | fail))); all_goals (conv => whnf)
  refine LoopN.rounds Tryd.E0 Tryd.mx 2 rfl ?_
  (repeat' ((conv => whnf); (first | (refine IfN.id ?_; first | refine IfN.ff rfl ?_ | fail) | refine DrawN.mk' [] ?_ | fail))); all_goals (conv => whnf)
  exact EndN.det trivial (Wk.refl _)
theorem function_c (H : Heap) : VDet Tryd.prog 86 [.str (nm 97)] H (.bool true) := by
  refine fn_det Tryd.E0 Tryd.mx Tryd.func86 (by kernel_rfl) rfl (Nat.le_of_ble_eq_true rfl) rfl fun hcl hbl => ?_
  (repeat' ((conv => whnf); (first | (refine CallN.id ?_; first | refine CallN.det _ (checkerF_c _) ?_ | refine CallN.det _ (checkF_c _) ?_ | fail) | refine DrawN.mk' [] ?_ | fail))); all_goals (conv => whnf)
  exact EndN.det trivial (Wk.refl _)
theorem term_c (H : Heap) (i L d : Nat) (hi : H[i]? = some (jb L)) (hL : 1 ≤ L ∧ L ≤ 400) (hd : d ≤ 40) : VCall Tryd.prog 83 [.ptr i 0, .agg tA, .int .i64 d] H (setR H i (jb (L - 1)) (.bool true)) := by
  have hn := fun X => node_c (H ++ X) i L d (at_base' hi) hL hd
  unfold jb at hi hn ⊢
  unfold tA
  refine fn_gen Tryd.E0 Tryd.mx Tryd.func83 (by kernel_rfl) rfl (Nat.le_of_ble_eq_true rfl) rfl fun hcl hbl => ?_
  (repeat' ((conv => whnf); (first | (refine IfN.id ?_; first | refine IfN.not ?_ | refine IfN.tt rfl ?_ | refine IfN.ff rfl ?_ | fail) | (refine EqN.id ?_; first | (refine EqN.addN _ _ (by first | with_reducible rfl | with_reducible exact cst1 | with_reducible exact cst0 | with_reducible exact cst2 | with_reducible exact cst3 | with_reducible exact cst4 | with_reducible exact cst5 | with_reducible exact cst6 | with_reducible exact cst7 | with_reducible exact cst8 | with_reducible exact cst14 | with_reducible exact cst15 | with_reducible exact cst25 | with_reducible exact cst30 | with_reducible exact cst31 | fail) (by first | with_reducible rfl | with_reducible exact cst1 | with_reducible exact cst0 | with_reducible exact cst2 | with_reducible exact cst3 | with_reducible exact cst4 | with_reducible exact cst5 | with_reducible exact cst6 | with_reducible exact cst7 | with_reducible exact cst8 | with_reducible exact cst14 | with_reducible exact cst15 | with_reducible exact cst25 | with_reducible exact cst30 | with_reducible exact cst31 | fail) ?_ ?_; · (repeat' (first | omega | refine And.intro ?_ ?_ | exact bnd_andl (by omega) | exact bnd_andr (by omega) | refine bnd_or ?_ ?_ | refine bnd_or31 ?_ ?_ | refine bnd_xor ?_ ?_ | refine bnd_xor31 ?_ ?_ | refine bnd_shr ?_ | refine bnd_shl ?_ ?_ | refine bnd_mod ?_ | refine bnd_andl ?_ | fail))) | fail) | (refine CallN.id ?_; first | refine CallN.det _ (function_c _) ?_ | refine CallN.det _ (VDet.wk (terms_c _ _ _) ⟨Wk.refl _, wk_nils, Wk.refl _, trivial⟩) ?_ | fail) | refine CallN.setB i _ _ _ _ hi rfl rfl (hn _) rfl ?_ | refine DrawN.mk' [] ?_ | fail))); all_goals (conv => whnf)
  exact EndN.setB (by simp [Blk.below, belowL, below]) trivial (Wk.refl _)
theorem terms1_c (H : Heap) (i L d : Nat) (hi : H[i]? = some (jb L)) (hL : 1 ≤ L ∧ L ≤ 400) (hd : d ≤ 40) : VCall Tryd.prog 79 [.ptr i 0, .sx 1 tA, .int .i64 d] H (setR H i (jb (L - 1)) (.bool true)) := by
  have hn := fun X => term_c (H ++ X) i L d (at_base' hi) hL hd
  unfold jb at hi hn ⊢
  unfold tA at hn ⊢
  refine fn_gen Tryd.E0 Tryd.mx Tryd.func79 (by kernel_rfl) rfl (Nat.le_of_ble_eq_true rfl) rfl fun hcl hbl => ?_
  (repeat' ((conv => whnf); (first | refine DrawN.mk' [] ?_ | fail))); all_goals (conv => whnf)
  refine LoopN.rounds Tryd.E0 Tryd.mx 2 (by simp) ?_
  (repeat' ((conv => whnf); (first | (refine IfN.id ?_; first | refine IfN.not ?_ | refine IfN.tt rfl ?_ | refine IfN.ff rfl ?_ | fail) | (refine EqN.id ?_; first | (refine EqN.addN _ _ (by first | with_reducible rfl | with_reducible exact cst1 | with_reducible exact cst0 | with_reducible exact cst2 | with_reducible exact cst3 | with_reducible exact cst4 | with_reducible exact cst5 | with_reducible exact cst6 | with_reducible exact cst7 | with_reducible exact cst8 | with_reducible exact cst14 | with_reducible exact cst15 | with_reducible exact cst25 | with_reducible exact cst30 | with_reducible exact cst31 | fail) (by first | with_reducible rfl | with_reducible exact cst1 | with_reducible exact cst0 | with_reducible exact cst2 | with_reducible exact cst3 | with_reducible exact cst4 | with_reducible exact cst5 | with_reducible exact cst6 | with_reducible exact cst7 | with_reducible exact cst8 | with_reducible exact cst14 | with_reducible exact cst15 | with_reducible exact cst25 | with_reducible exact cst30 | with_reducible exact cst31 | fail) ?_ ?_; · (repeat' (first | omega | refine And.intro ?_ ?_ | exact bnd_andl (by omega) | exact bnd_andr (by omega) | refine bnd_or ?_ ?_ | refine bnd_or31 ?_ ?_ | refine bnd_xor ?_ ?_ | refine bnd_xor31 ?_ ?_ | refine bnd_shr ?_ | refine bnd_shl ?_ ?_ | refine bnd_mod ?_ | refine bnd_andl ?_ | fail))) | fail) | (refine SideN.mk ?_ ?_; · first | kernel_rfl | omega | exact List.cons_ne_nil _ _ | (simp; done) | (simp; omega) | exact trivial | assumption | fail) | refine CallN.setB i _ _ _ _ hi rfl rfl (hn _) rfl ?_ | refine SegN.mk _ (seg_rfl rfl) ?_ | refine DrawN.mk' [] ?_ | fail))); all_goals (conv => whnf)
  exact EndN.setB (by simp [Blk.below, belowL, below]) trivial (Wk.refl _)
theorem formP_c (H : Heap) (i L d : Nat) (hi : H[i]? = some (jb L)) (hL : 2 ≤ L ∧ L ≤ 400) (hd : d ≤ 39) : VCall Tryd.prog 71 [.ptr i 0, .agg pA, .int .i64 d] H (setR H i (jb (L - 2)) (.bool true)) := by
  have hn := fun X => node_c (H ++ X) i L d (at_base' hi) (by omega) (by omega)
  have h1 := fun X => terms1_c (H.set i (jb (L - 1)) ++ X) i (L - 1) (d + 1) (at_base' (at_set hi)) (by omega) (by omega)
  rw [show L - 1 - 1 = L - 2 by omega] at h1
  unfold jb at hi hn h1 ⊢
  unfold pA
  unfold tA at h1 ⊢
  refine fn_gen Tryd.E0 Tryd.mx Tryd.func71 (by kernel_rfl) rfl (Nat.le_of_ble_eq_true rfl) rfl fun hcl hbl => ?_
  (repeat' ((conv => whnf); (first | (refine IfN.id ?_; first | refine IfN.not ?_ | refine IfN.tt rfl ?_ | refine IfN.ff rfl ?_ | fail) | (refine EqN.id ?_; first | (refine EqN.addN _ _ (by first | with_reducible rfl | with_reducible exact cst1 | with_reducible exact cst0 | with_reducible exact cst2 | with_reducible exact cst3 | with_reducible exact cst4 | with_reducible exact cst5 | with_reducible exact cst6 | with_reducible exact cst7 | with_reducible exact cst8 | with_reducible exact cst14 | with_reducible exact cst15 | with_reducible exact cst25 | with_reducible exact cst30 | with_reducible exact cst31 | fail) (by first | with_reducible rfl | with_reducible exact cst1 | with_reducible exact cst0 | with_reducible exact cst2 | with_reducible exact cst3 | with_reducible exact cst4 | with_reducible exact cst5 | with_reducible exact cst6 | with_reducible exact cst7 | with_reducible exact cst8 | with_reducible exact cst14 | with_reducible exact cst15 | with_reducible exact cst25 | with_reducible exact cst30 | with_reducible exact cst31 | fail) ?_ ?_; · (repeat' (first | omega | refine And.intro ?_ ?_ | exact bnd_andl (by omega) | exact bnd_andr (by omega) | refine bnd_or ?_ ?_ | refine bnd_or31 ?_ ?_ | refine bnd_xor ?_ ?_ | refine bnd_xor31 ?_ ?_ | refine bnd_shr ?_ | refine bnd_shl ?_ ?_ | refine bnd_mod ?_ | refine bnd_andl ?_ | fail))) | refine EqN.remN _ _ (by first | with_reducible rfl | with_reducible exact cst1 | with_reducible exact cst0 | with_reducible exact cst2 | with_reducible exact cst3 | with_reducible exact cst4 | with_reducible exact cst5 | with_reducible exact cst6 | with_reducible exact cst7 | with_reducible exact cst8 | with_reducible exact cst14 | with_reducible exact cst15 | with_reducible exact cst25 | with_reducible exact cst30 | with_reducible exact cst31 | fail) (by first | with_reducible rfl | with_reducible exact cst1 | with_reducible exact cst0 | with_reducible exact cst2 | with_reducible exact cst3 | with_reducible exact cst4 | with_reducible exact cst5 | with_reducible exact cst6 | with_reducible exact cst7 | with_reducible exact cst8 | with_reducible exact cst14 | with_reducible exact cst15 | with_reducible exact cst25 | with_reducible exact cst30 | with_reducible exact cst31 | fail) ?_ | fail) | (refine SideN.mk ?_ ?_; · first | kernel_rfl | omega | exact List.cons_ne_nil _ _ | (simp; done) | (simp; omega) | exact trivial | assumption | fail) | (refine CallN.id ?_; first | refine CallN.det _ (named1_c 80 (⟨by decide, by decide⟩ : cap 80) _) ?_ | fail) | refine CallN.setB i _ _ _ _ hi rfl rfl (hn _) rfl ?_ | refine CallN.setB i _ _ _ _ (at_set hi) (by simp) rfl (h1 _) (List.set_set ..) ?_ | refine SegN.mk _ (seg_rfl rfl) ?_ | refine DrawN.mk' [] ?_ | fail))); all_goals (conv => whnf)
  refine LoopN.rounds Tryd.E0 Tryd.mx 1 (by simp) ?_
  (repeat' ((conv => whnf); (first | (refine IfN.id ?_; first | refine IfN.ff rfl ?_ | fail) | refine DrawN.mk' [] ?_ | fail))); all_goals (conv => whnf)
  exact EndN.setB (by simp [Blk.below, belowL, below]) trivial (Wk.refl _)
theorem formX_c (a : Fm) (iha : FormIH a) (H : Heap) (i L d : Nat) (hi : H[i]? = some (jb L)) (hL : a.nodes + 3 ≤ L ∧ L ≤ 400) (hd : d + (max a.depth 2 + 1) ≤ 41) : VCall Tryd.prog 71 [.ptr i 0, .agg (xA a), .int .i64 d] H (setR H i (jb (L - (a.nodes + 3))) (.bool true)) := by
  have hp := a.nodes_pos
  have hpd := a.depth_pos
  have hn := fun X => node_c (H ++ X) i L d (at_base' hi) (by omega) (by omega)
  have h1 := fun X => iha (H.set i (jb (L - 1)) ++ X) i (L - 1) (d + 1) (at_base' (at_set hi)) (by omega) (by omega)
  have h2 := fun X => formP_c (H.set i (jb (L - 1 - a.nodes)) ++ X) i (L - 1 - a.nodes) (d + 1) (at_base' (at_set hi)) (by omega) (by omega)
  rw [show L - 1 - a.nodes - 2 = L - (a.nodes + 3) by omega] at h2
  unfold jb at hi hn h1 h2 ⊢
  rw [show xA a = [.int .u8 14, .str .empty, .nils, .sl none 2 [.int .u8 a.op, .str a.nmB, .sl none 0 [], .sl none a.sn a.sc, .int .u8 1, .str (nm 80), .sx 1 tA, .nils]] from rfl]
  unfold pA at h2
  unfold tA at h2 ⊢
  unfold Fm.cells at h1
  generalize a.op = ao at h1 ⊢
  generalize a.nmB = an at h1 ⊢
  generalize a.sn = asn at h1 ⊢
  generalize a.sc = asc at h1 ⊢
  refine fn_gen Tryd.E0 Tryd.mx Tryd.func71 (by kernel_rfl) rfl (Nat.le_of_ble_eq_true rfl) rfl fun hcl hbl => ?_
  (repeat' ((conv => whnf); (first | (refine IfN.id ?_; first | refine IfN.not ?_ | refine IfN.tt rfl ?_ | refine IfN.ff rfl ?_ | fail) | (refine EqN.id ?_; first | (refine EqN.addN _ _ (by first | with_reducible rfl | with_reducible exact cst1 | with_reducible exact cst0 | with_reducible exact cst2 | with_reducible exact cst3 | with_reducible exact cst4 | with_reducible exact cst5 | with_reducible exact cst6 | with_reducible exact cst7 | with_reducible exact cst8 | with_reducible exact cst14 | with_reducible exact cst15 | with_reducible exact cst25 | with_reducible exact cst30 | with_reducible exact cst31 | fail) (by first | with_reducible rfl | with_reducible exact cst1 | with_reducible exact cst0 | with_reducible exact cst2 | with_reducible exact cst3 | with_reducible exact cst4 | with_reducible exact cst5 | with_reducible exact cst6 | with_reducible exact cst7 | with_reducible exact cst8 | with_reducible exact cst14 | with_reducible exact cst15 | with_reducible exact cst25 | with_reducible exact cst30 | with_reducible exact cst31 | fail) ?_ ?_; · (repeat' (first | omega | refine And.intro ?_ ?_ | exact bnd_andl (by omega) | exact bnd_andr (by omega) | refine bnd_or ?_ ?_ | refine bnd_or31 ?_ ?_ | refine bnd_xor ?_ ?_ | refine bnd_xor31 ?_ ?_ | refine bnd_shr ?_ | refine bnd_shl ?_ ?_ | refine bnd_mod ?_ | refine bnd_andl ?_ | fail))) | refine EqN.remN _ _ (by first | with_reducible rfl | with_reducible exact cst1 | with_reducible exact cst0 | with_reducible exact cst2 | with_reducible exact cst3 | with_reducible exact cst4 | with_reducible exact cst5 | with_reducible exact cst6 | with_reducible exact cst7 | with_reducible exact cst8 | with_reducible exact cst14 | with_reducible exact cst15 | with_reducible exact cst25 | with_reducible exact cst30 | with_reducible exact cst31 | fail) (by first | with_reducible rfl | with_reducible exact cst1 | with_reducible exact cst0 | with_reducible exact cst2 | with_reducible exact cst3 | with_reducible exact cst4 | with_reducible exact cst5 | with_reducible exact cst6 | with_reducible exact cst7 | with_reducible exact cst8 | with_reducible exact cst14 | with_reducible exact cst15 | with_reducible exact cst25 | with_reducible exact cst30 | with_reducible exact cst31 | fail) ?_ | fail) | (refine SideN.mk ?_ ?_; · first | kernel_rfl | omega | exact List.cons_ne_nil _ _ | (simp; done) | (simp; omega) | exact trivial | assumption | fail) | (refine CallN.id ?_; first | refine CallN.det _ (named0_c _) ?_ | refine CallN.det _ (VDet.wk (terms_c _ _ _) ⟨Wk.refl _, wk_nils, Wk.refl _, trivial⟩) ?_ | fail) | refine CallN.setB i _ _ _ _ hi rfl rfl (hn _) rfl ?_ | refine SegN.mk _ (seg_rfl rfl) ?_ | refine DrawN.mk' [] ?_ | fail))); all_goals (conv => whnf)
  refine LoopN.rounds Tryd.E0 Tryd.mx 3 (by simp) ?_
  (repeat' ((conv => whnf); (first | (refine IfN.id ?_; first | refine IfN.not ?_ | refine IfN.tt rfl ?_ | refine IfN.ff rfl ?_ | fail) | (refine EqN.id ?_; first | (refine EqN.addN _ _ (by first | with_reducible rfl | with_reducible exact cst1 | with_reducible exact cst0 | with_reducible exact cst2 | with_reducible exact cst3 | with_reducible exact cst4 | with_reducible exact cst5 | with_reducible exact cst6 | with_reducible exact cst7 | with_reducible exact cst8 | with_reducible exact cst14 | with_reducible exact cst15 | with_reducible exact cst25 | with_reducible exact cst30 | with_reducible exact cst31 | fail) (by first | with_reducible rfl | with_reducible exact cst1 | with_reducible exact cst0 | with_reducible exact cst2 | with_reducible exact cst3 | with_reducible exact cst4 | with_reducible exact cst5 | with_reducible exact cst6 | with_reducible exact cst7 | with_reducible exact cst8 | with_reducible exact cst14 | with_reducible exact cst15 | with_reducible exact cst25 | with_reducible exact cst30 | with_reducible exact cst31 | fail) ?_ ?_; · (repeat' (first | omega | refine And.intro ?_ ?_ | exact bnd_andl (by omega) | exact bnd_andr (by omega) | refine bnd_or ?_ ?_ | refine bnd_or31 ?_ ?_ | refine bnd_xor ?_ ?_ | refine bnd_xor31 ?_ ?_ | refine bnd_shr ?_ | refine bnd_shl ?_ ?_ | refine bnd_mod ?_ | refine bnd_andl ?_ | fail))) | fail) | (refine SideN.mk ?_ ?_; · first | kernel_rfl | omega | exact List.cons_ne_nil _ _ | (simp; done) | (simp; omega) | exact trivial | assumption | fail) | refine CallN.setB i _ _ _ _ (at_set hi) (by simp) rfl (h1 _) (List.set_set ..) ?_ | refine CallN.setB i _ _ _ _ (at_set hi) (by simp) rfl (h2 _) (List.set_set ..) ?_ | refine SegN.mk _ (seg_rfl rfl) ?_ | refine DrawN.mk' [] ?_ | fail))); all_goals (conv => whnf)
  exact EndN.setB (by simp [Blk.below, belowL, below]) trivial (Wk.refl _)
theorem synX_c (f : Fm) (hf : f.Ok) (hn : f.nodes ≤ 39) (H : Heap) : VDet Tryd.prog 50 [.agg (xA f)] H (.bool true) := by
  have hd := f.depth_le
  have h1 := formX_c f (form_c f hf) (H ++ [.box 35 (xA f), jb 400]) (H.length + 1) 400 1 (at_loc0 rfl) (by omega) (by omega)
  unfold jb at h1
  unfold xA at h1 ⊢
  refine fn_det Tryd.E0 Tryd.mx Tryd.func50 (by kernel_rfl) rfl (Nat.le_of_ble_eq_true rfl) rfl fun hcl hbl => ?_
  (repeat' ((conv => whnf); (first | refine CallN.setL 1 _ _ _ rfl rfl h1 rfl ?_ | refine DrawN.mk' [] ?_ | fail))); all_goals (conv => whnf)
  exact EndN.det trivial (Wk.refl _)
theorem tempP_c (H : Heap) : VDet Tryd.prog 51 [.agg pA] H (.bool false) := by
  unfold pA
  refine fn_det Tryd.E0 Tryd.mx Tryd.func51 (by kernel_rfl) rfl (Nat.le_of_ble_eq_true rfl) rfl fun hcl hbl => ?_
  (repeat' ((conv => whnf); (first | (refine IfN.id ?_; first | refine IfN.tt rfl ?_ | refine IfN.ff rfl ?_ | fail) | refine DrawN.mk' [] ?_ | fail))); all_goals (conv => whnf)
  exact EndN.det trivial (Wk.refl _)
theorem tempX_c (f : Fm) (ht : f.Temp) (H : Heap) : VDet Tryd.prog 51 [.agg (xA f)] H (.bool false) := by
  have h1 := fun H => temp_c f ht H
  have h2 := fun H => tempP_c H
  rw [show xA f = [.int .u8 14, .str .empty, .nils, .sl none 2 [.int .u8 f.op, .str f.nmB, .sl none 0 [], .sl none f.sn f.sc, .int .u8 1, .str (nm 80), .sx 1 tA, .nils]] from rfl]
  unfold pA at h2
  unfold Fm.cells at h1
  refine fn_det Tryd.E0 Tryd.mx Tryd.func51 (by kernel_rfl) rfl (Nat.le_of_ble_eq_true rfl) rfl fun hcl hbl => ?_
  (repeat' ((conv => whnf); (first | (refine IfN.id ?_; first | refine IfN.not ?_ | refine IfN.tt rfl ?_ | refine IfN.ff rfl ?_ | fail) | refine DrawN.mk' [] ?_ | fail))); all_goals (conv => whnf)
  refine LoopN.rounds Tryd.E0 Tryd.mx 3 rfl ?_
  (repeat' ((conv => whnf); (first | (refine IfN.id ?_; first | refine IfN.not ?_ | refine IfN.tt rfl ?_ | refine IfN.ff rfl ?_ | fail) | (refine EqN.id ?_; first | (refine EqN.addN _ _ (by first | with_reducible rfl | with_reducible exact cst1 | with_reducible exact cst0 | with_reducible exact cst2 | with_reducible exact cst3 | with_reducible exact cst4 | with_reducible exact cst5 | with_reducible exact cst6 | with_reducible exact cst7 | with_reducible exact cst8 | with_reducible exact cst14 | with_reducible exact cst15 | with_reducible exact cst25 | with_reducible exact cst30 | with_reducible exact cst31 | fail) (by first | with_reducible rfl | with_reducible exact cst1 | with_reducible exact cst0 | with_reducible exact cst2 | with_reducible exact cst3 | with_reducible exact cst4 | with_reducible exact cst5 | with_reducible exact cst6 | with_reducible exact cst7 | with_reducible exact cst8 | with_reducible exact cst14 | with_reducible exact cst15 | with_reducible exact cst25 | with_reducible exact cst30 | with_reducible exact cst31 | fail) ?_ ?_; · (repeat' (first | omega | refine And.intro ?_ ?_ | exact bnd_andl (by omega) | exact bnd_andr (by omega) | refine bnd_or ?_ ?_ | refine bnd_or31 ?_ ?_ | refine bnd_xor ?_ ?_ | refine bnd_xor31 ?_ ?_ | refine bnd_shr ?_ | refine bnd_shl ?_ ?_ | refine bnd_mod ?_ | refine bnd_andl ?_ | fail))) | fail) | (refine SideN.mk ?_ ?_; · first | kernel_rfl | omega | exact List.cons_ne_nil _ _ | (simp; done) | (simp; omega) | exact trivial | assumption | fail) | (refine CallN.id ?_; first | refine CallN.det _ (h1 _) ?_ | refine CallN.det _ (h2 _) ?_ | fail) | refine SegN.mk _ (seg_rfl rfl) ?_ | refine DrawN.mk' [] ?_ | fail))); all_goals (conv => whnf)
  exact EndN.det trivial (Wk.refl _)
theorem rightX_c (f : Fm) (hf : f.Ok) (ht : f.Temp) (hn : f.nodes ≤ 39) (H : Heap) : VDet Tryd.prog 31 [.agg (xA f)] H (.bool false) := by
  have h1 := fun H => synX_c f hf hn H
  have h2 := fun H => tempX_c f ht H
  unfold xA at h1 h2 ⊢
  refine fn_det Tryd.E0 Tryd.mx Tryd.func31 (by kernel_rfl) rfl (Nat.le_of_ble_eq_true rfl) rfl fun hcl hbl => ?_
  (repeat' ((conv => whnf); (first | (refine IfN.id ?_; first | refine IfN.tt rfl ?_ | fail) | (refine CallN.id ?_; first | refine CallN.det _ (h1 _) ?_ | refine CallN.det _ (h2 _) ?_ | fail) | refine DrawN.mk' [] ?_ | fail))); all_goals (conv => whnf)
  exact EndN.det trivial (Wk.refl _)
theorem atX_c (t : Tr) (ht : t.Ok) (f : Fm) (hf : f.Ok) (htf : f.Temp) (hn : f.nodes ≤ 39) (H : Heap) : VDet Tryd.prog 14 [.agg t.cells, .agg (xA f)] H (.tup [.int .i64 0, .int .i64 2]) := by
  have hm := fun H => valid_t ht H
  have hr := fun H => rightX_c f hf htf hn H
  unfold Tr.cells at hm ⊢
  unfold xA at hr ⊢
  refine fn_det Tryd.E0 Tryd.mx Tryd.func14 (by kernel_rfl) rfl (Nat.le_of_ble_eq_true rfl) rfl fun hcl hbl => ?_
  (repeat' ((conv => whnf); (first | (refine IfN.id ?_; first | refine IfN.not ?_ | refine IfN.tt rfl ?_ | refine IfN.ff rfl ?_ | fail) | (refine CallN.id ?_; first | refine CallN.det _ (hm _) ?_ | refine CallN.det _ (hr _) ?_ | fail) | refine DrawN.mk' [] ?_ | fail))); all_goals (conv => whnf)
  exact EndN.det (by simp [below, belowL]) (Wk.refl _)
theorem joinX_c (f : Fm) (H : Heap) : VDet Tryd.prog 23 [.int .u8 14, .sx 2 (f.cells ++ pA)] H (.agg (xA f)) := by
  have hb : ∀ m, belowL m (f.cells ++ pA) := fun m => by simp [Fm.cells, pA, tA, below, belowL, Fm.sc_below]
  unfold xA
  generalize f.cells ++ pA = ac at hb ⊢
  refine fn_det Tryd.E0 Tryd.mx Tryd.func23 (by kernel_rfl) rfl (Nat.le_of_ble_eq_true rfl) rfl fun hcl hbl => ?_
  (repeat' ((conv => whnf); (first | refine DrawN.mk' [] ?_ | fail))); all_goals (conv => whnf)
  exact EndN.det (by simp [below, belowL, hb]) (wk_agg ⟨Wk.refl _, Wk.refl _, Wk.refl _, wk_sx _ _, trivial⟩)
end Go.Proofs.YtjflngchbeegcaaDoor
/-! text S14 -/
namespace Go.Proofs.YtjflngchbeegcaaDoor
open Go.Vsi
set_option maxHeartbeats 8000000
attribute [local irreducible] VW VCall VO bits

/-! ### TraceWrong -/
def celB (c1 : UInt8) (a0 m0 m1 m2 : Int) : List AV := [.str (nm 80), .int .i64 a0, .int .i64 m0, .str (nm c1), .int .i64 0, .int .i64 m1, .str (nm 82), .int .i64 0, .int .i64 m2]
def mdB (k n lp : Int) (c1 : UInt8) (a0 m0 m1 m2 : Int) : Md := ⟨k, n, lp, [⟨80, a0, m0⟩, ⟨c1, 0, m1⟩, ⟨82, 0, m2⟩]⟩
def agB (k n lp : Int) (i : Nat) : AV := .agg [.int .u8 k, .int .i64 n, .nils, .int .i64 lp, .ms i 0 3, .nils, .nils]
theorem mdB_cells (k n lp : Int) (c1 : UInt8) (a0 m0 m1 m2 : Int) : (mdB k n lp c1 a0 m0 m1 m2).cells = [.int .u8 k, .int .i64 n, .sl none 0 [], .int .i64 lp, .sl none 3 (celB c1 a0 m0 m1 m2), .sl none 0 [], .sl none 0 []] := rfl
theorem bad_B {k n lp : Int} {c1 : UInt8} {a0 m0 m1 m2 : Int} (hc : c1 = 80 ∨ c1 = 81) (hv : validB (mdB k n lp c1 a0 m0 m1 m2) = false) : Bad (.agg (mdB k n lp c1 a0 m0 m1 m2).cells) := by
  refine bad_of _ (by simp [mdB]) (fun i hi => ?_) hv
  have : i = 0 ∨ i = 1 ∨ i = 2 := by simp [mdB] at hi; omega
  rcases this with rfl | rfl | rfl
  · exact (⟨by decide, by decide⟩ : cap 80)
  · rcases hc with rfl | rfl
    · exact (⟨by decide, by decide⟩ : cap 80)
    · exact (⟨by decide, by decide⟩ : cap 81)
  · exact (⟨by decide, by decide⟩ : cap 82)
section
variable {k n lp : Int} {c1 : UInt8} {a0 m0 m1 m2 : Int} {F : FuncId} {v : AV}
theorem lendA (hs : ∀ H, VDet Tryd.prog F [.agg (mdB k n lp c1 a0 m0 m1 m2).cells] H v) (hf : flatV v = true) (H : Heap) (i s : Nat) (hi : H[i]? = some (.box 49 (celB c1 a0 m0 m1 m2 ++ List.replicate s .junk))) : VDet Tryd.prog F [agB k n lp i] H v := by
  refine VDet.lend (as' := [.agg [.int .u8 k, .int .i64 n, .nils, .int .i64 lp, .sl none 3 (celB c1 a0 m0 m1 m2 ++ List.replicate s .junk), .nils, .nils]]) (fun H => VDet.wk (hs H) ⟨wk_agg ⟨Wk.refl _, Wk.refl _, wk_nils, Wk.refl _, wk_pre _ _ _, wk_nils, wk_nils, trivial⟩, trivial⟩) ?_ hf
  exact .cons (.agg (.cons (.refl _) (.cons (.refl _) (.cons (.refl _) (.cons (.refl _) (.cons (.ms hi rfl (LendL.refl _)) (.cons (.refl _) (.cons (.refl _) .nil)))))))) .nil
theorem lendAB {B : AV} (hs : ∀ H, VDet Tryd.prog F [.agg (mdB k n lp c1 a0 m0 m1 m2).cells, B] H v) (hf : flatV v = true) (H : Heap) (i s : Nat) (hi : H[i]? = some (.box 49 (celB c1 a0 m0 m1 m2 ++ List.replicate s .junk))) : VDet Tryd.prog F [agB k n lp i, B] H v := by
  refine VDet.lend (as' := [.agg [.int .u8 k, .int .i64 n, .nils, .int .i64 lp, .sl none 3 (celB c1 a0 m0 m1 m2 ++ List.replicate s .junk), .nils, .nils], B]) (fun H => VDet.wk (hs H) ⟨wk_agg ⟨Wk.refl _, Wk.refl _, wk_nils, Wk.refl _, wk_pre _ _ _, wk_nils, wk_nils, trivial⟩, Wk.refl _, trivial⟩) ?_ hf
  exact .cons (.agg (.cons (.refl _) (.cons (.refl _) (.cons (.refl _) (.cons (.refl _) (.cons (.ms hi rfl (LendL.refl _)) (.cons (.refl _) (.cons (.refl _) .nil)))))))) (.cons (.refl _) .nil)
theorem lendBA {B : AV} (hs : ∀ H, VDet Tryd.prog F [B, .agg (mdB k n lp c1 a0 m0 m1 m2).cells] H v) (hf : flatV v = true) (H : Heap) (i s : Nat) (hi : H[i]? = some (.box 49 (celB c1 a0 m0 m1 m2 ++ List.replicate s .junk))) : VDet Tryd.prog F [B, agB k n lp i] H v := by
  refine VDet.lend (as' := [B, .agg [.int .u8 k, .int .i64 n, .nils, .int .i64 lp, .sl none 3 (celB c1 a0 m0 m1 m2 ++ List.replicate s .junk), .nils, .nils]]) (fun H => VDet.wk (hs H) ⟨Wk.refl _, wk_agg ⟨Wk.refl _, Wk.refl _, wk_nils, Wk.refl _, wk_pre _ _ _, wk_nils, wk_nils, trivial⟩, trivial⟩) ?_ hf
  exact .cons (.refl _) (.cons (.agg (.cons (.refl _) (.cons (.refl _) (.cons (.refl _) (.cons (.refl _) (.cons (.ms hi rfl (LendL.refl _)) (.cons (.refl _) (.cons (.refl _) .nil)))))))) .nil)
end
theorem rows4 (n l a b m2 : Int) (h : ¬ m2 < 2 ^ n.toNat) : rowsOK n (mdB 5 n l 81 0 a b m2).fs = false := rows_no (k := 2) (by simp [mdB]) (by
  show (_ && (_ && (_ && decide (m2 < 2 ^ n.toNat)))) = false
  rw [decide_eq_false h]
  simp)
theorem rows5 (n l a b c : Int) : rowsOK n (mdB 5 n l 80 0 a b c).fs = false := rows_no (k := 1) (by simp [mdB]) rfl
theorem rows6 (n l a0 a b c : Int) (h : ¬ a0 = 0) : rowsOK n (mdB 5 n l 81 a0 a b c).fs = false := rows_no (k := 0) (by simp [mdB]) (by
  show (_ && (decide (a0 = 0) && _)) = false
  rw [decide_eq_false h]
  simp)
theorem flat_zmod (e : Int) : flatV (.tup [zmod, .int .i64 e]) = true := rfl
theorem miss_S (n l a b c : Nat) : miss ⟨n, l, [(80, a), (81, b), (82, c)]⟩ (.f1 12 (.at 83)) = true := rfl
theorem wrong_0 (sz lp x y z : Nat) (code : List Nat) (way : Nat) (nn : Int) (hw : way % 8 = 0) (hs : sz ≤ 255) (hl : lp ≤ 255) (hx : x ≤ 255) (hy : y ≤ 255) (hz : z ≤ 255) (hcd : code.length ≤ 9223372036854775807) (hcb : ∀ i, i < code.length → code.getD i 0 ≤ 255) (hnn : -9223372036854775808 ≤ nn ∧ nn ≤ 9223372036854775807) (H : Heap) :
    VDet Tryd.prog 8 [.int .u8 sz, .int .u8 lp, .agg [.int .u8 x, .int .u8 y, .int .u8 z], .sl none code.length (code.flatMap encB), .int .u8 way, .int .i64 nn] H (.bool true) := by
  have hmd := fun H => Made_c sz lp x y z hs hl hx hy hz H
  have hbu := fun H => built_c code hcd hcb H
  obtain ⟨hg, hnd⟩ := blt_ok code
  generalize bltF code = f at hbu hg hnd
  obtain ⟨n, l, a, b, c, he, h1, h5, hln, ha, hb, hc⟩ := made_ex sz lp x y z
  rw [he] at hmd
  have hm := ok3 n l a b c h1 h5 hln ha hb hc
  have hbad : Bad (.agg (mdB (5) (max nn 6) (l) 81 (0) a b (c)).cells) := bad_B (by decide) (by
    simp only [validB, mdB, Bool.and_eq_false_iff]
    first | exact .inl (decide_eq_false (by omega)) | exact .inr (.inl (decide_eq_false (by omega))) | exact .inr (.inr (.inl (decide_eq_false (by omega)))) | exact .inr (.inr (.inr (.inl (decide_eq_false (by omega))))) | exact .inr (.inr (.inr (.inr (.inl (decide_eq_false (by omega)))))) | fail)
  have e14 := lendAB (fun H => atE _ hbad f H) rfl
  have e28 := lendAB (fun H => holdsE _ hbad f H) rfl
  have e17 := lendAB (fun H => posE _ hbad 0 H) rfl
  have e27 := lendAB (fun H => sufE _ hbad 0 H) rfl
  have e13 := lendAB (fun H => sameE _ (.agg (Tr.cells ⟨n, l, [(80, a), (81, b), (82, c)]⟩)) hbad ⟨_, rfl⟩ H) rfl
  have e13' := lendBA (fun H => sameE2 _ hm _ hbad H) rfl
  have e12 := lendA (fun H => shortE _ hbad H) rfl
  have e29 := lendA (fun H => numE _ hbad H) rfl
  have e15 : ∀ (H : Heap) (i s : Nat) (_ : H[i]? = some (.box 49 (celB 81 (0) a b (c) ++ List.replicate s .junk))), VDet Tryd.prog 15 [agB (5) (max nn 6) (l) i] H (.bool false) := lendA (F := 15) (v := .bool false) (fun H => by
    obtain ⟨t, e, h⟩ := hbad
    rw [e]; exact h H) rfl
  have xBox := fun H => atBox _ hm f hg.ok (Fm.small_of (by simp only [Fm.nodes]; omega)) H
  have xArg := fun H => atX_c _ hm f hg.ok hg.temp hnd H
  have xPos := fun H => posN_c _ hm (min nn (-1)) (by omega) H
  have xSuf := fun H => sufN_c _ hm (min nn (-1)) (by omega) H
  have xNth := fun H => nthBig (max nn 6) (by omega) H
  have xS := fun H => At_c _ hm (.f1 12 (.at 83)) ⟨by simp [is1], (⟨by decide, by decide⟩ : cap 83)⟩ ⟨by simp, trivial⟩ (by decide) H
  rw [miss_S] at xS
  simp only [if_true] at xS
  have xN1 := fun H => Nth_none [] nm0_ok 3 (max nn 3) (by decide) (by decide) (by decide) (.inr (by show ((cntN 0 3 : Nat) : Int) ≤ max nn 3; rw [show cntN 0 3 = 3 by decide]; omega)) H
  have xN2 := fun H => Nth_none [] nm0_ok 3 (min nn (-1)) (by decide) (by decide) (by decide) (.inl (by omega)) H
  have hV := fun H => valid_t hm H
  have hR := fun H => right_c f hg.ok hg.temp (Fm.small_of (by omega)) H
  have hcopy := fun H i hi => copyModel_c n l a b c H i hi
  have he32 := every_lt h5
  have h4 : 1 ≤ 1 <<< n := by rw [Nat.shiftLeft_eq]; have := Nat.two_pow_pos n; omega
  have h6 : 1 <<< n < 64 := by unfold every at he32; omega
  have jb1 := fun H => join1_c 10 f H
  have jx := fun H => joinX_c f H
  have js := fun H => join1_c 12 (.at 83) H
  unfold Tr.cells at hmd e13 e13' xBox xArg xPos xSuf xS hV hcopy
  unfold Fm.cells at hbu e14 e28 hR jx
  unfold agB at e14 e28 e17 e27 e13 e13' e12 e29 e15
  unfold zmod at e27 e12 xSuf xNth
  simp only at hmd e13 e13' xBox xArg xPos xSuf xS hV hcopy hbu e14 e28
  refine fn_det Tryd.E0 Tryd.mx Tryd.func8 (by kernel_rfl) rfl (Nat.le_of_ble_eq_true rfl) rfl fun hcl hbl => ?_
  (repeat' ((conv => whnf); (first | (refine IfN.id ?_; first | refine IfN.not ?_ | refine IfN.tt rfl ?_ | fail) | (refine EqN.id ?_; first | refine EqN.remC 0 rfl rfl hw ?_ | fail) | (refine SideN.mk ?_ ?_; · first | kernel_rfl | omega | exact List.cons_ne_nil _ _ | (simp; done) | (simp; omega) | exact trivial | assumption | fail) | (refine CallN.id ?_; first | refine CallN.det _ (awake_c _) ?_ | refine CallN.det _ (hmd _) ?_ | refine CallN.det _ (hbu _) ?_ | fail) | refine CallN.more (fun _ => .agg (cpy n l (H.length + 5))) (fun s => [.box 30 (cpy n l (H.length + 5)), .box 30 (cpy n l (H.length + 5)), .box 49 (cel3 a b c ++ List.replicate s AV.junk)]) (hcopy _ (H.length + 5) (by simp)) rfl _ (fun _ => rfl) 6 (fun _ => rfl) fun s => ?_ | refine DrawN.mk' [] ?_ | fail))); all_goals (conv => whnf)
  (repeat' ((conv => whnf); (first | (refine SideN.mk ?_ ?_; · first | kernel_rfl | omega | exact List.cons_ne_nil _ _ | (simp; done) | (simp; omega) | exact trivial | assumption | fail) | (refine CallN.id ?_; first | refine CallN.det _ (e14 _ (H.length + 5) s (by (repeat' (first | assumption | exact at_loc' _ rfl | exact at_loc0 rfl | refine at_set (B' := ?_) ?_ | refine at_base' ?_ | fail)))) ?_ | refine CallN.det _ (e28 _ (H.length + 5) s (by (repeat' (first | assumption | exact at_loc' _ rfl | exact at_loc0 rfl | refine at_set (B' := ?_) ?_ | refine at_base' ?_ | fail)))) ?_ | refine CallN.det _ (e17 _ (H.length + 5) s (by (repeat' (first | assumption | exact at_loc' _ rfl | exact at_loc0 rfl | refine at_set (B' := ?_) ?_ | refine at_base' ?_ | fail)))) ?_ | refine CallN.det _ (e27 _ (H.length + 5) s (by (repeat' (first | assumption | exact at_loc' _ rfl | exact at_loc0 rfl | refine at_set (B' := ?_) ?_ | refine at_base' ?_ | fail)))) ?_ | refine CallN.det _ (e13 _ (H.length + 5) s (by (repeat' (first | assumption | exact at_loc' _ rfl | exact at_loc0 rfl | refine at_set (B' := ?_) ?_ | refine at_base' ?_ | fail)))) ?_ | refine CallN.det _ (e13' _ (H.length + 5) s (by (repeat' (first | assumption | exact at_loc' _ rfl | exact at_loc0 rfl | refine at_set (B' := ?_) ?_ | refine at_base' ?_ | fail)))) ?_ | refine CallN.det _ (e12 _ (H.length + 5) s (by (repeat' (first | assumption | exact at_loc' _ rfl | exact at_loc0 rfl | refine at_set (B' := ?_) ?_ | refine at_base' ?_ | fail)))) ?_ | refine CallN.det _ (e29 _ (H.length + 5) s (by (repeat' (first | assumption | exact at_loc' _ rfl | exact at_loc0 rfl | refine at_set (B' := ?_) ?_ | refine at_base' ?_ | fail)))) ?_ | refine CallN.det _ (xPos _) ?_ | refine CallN.det _ (xSuf _) ?_ | refine CallN.det _ (VDet.wk (countQP _) ⟨wk_sx _ _, Wk.refl _, trivial⟩) ?_ | refine CallN.det _ (xNth _) ?_ | fail) | (refine CallD.id ?_; first | refine CallD.det _ (fun _ hq X => VDet.wk (jb1 _) ⟨Wk.refl _, wk_sx _ _, trivial⟩) ?_ | refine CallD.det _ (fun _ hq X => xBox _) ?_ | refine CallD.det _ (fun _ hq X => jx _) ?_ | refine CallD.det _ (fun _ hq X => xArg _) ?_ | fail) | refine DrawN.mk' [] ?_ | fail))); all_goals (conv => whnf)
  refine LoopN.rounds Tryd.E0 Tryd.mx 15 rfl ?_
  (repeat' ((conv => whnf); (first | (refine IfN.id ?_; first | refine IfN.not ?_ | refine IfN.tt rfl ?_ | refine IfN.ff rfl ?_ | fail) | (refine EqN.id ?_; first | (refine EqN.addN _ _ (by first | with_reducible rfl | with_reducible exact cst1 | with_reducible exact cst0 | with_reducible exact cst2 | with_reducible exact cst3 | with_reducible exact cst4 | with_reducible exact cst5 | with_reducible exact cst6 | with_reducible exact cst7 | with_reducible exact cst8 | with_reducible exact cst14 | with_reducible exact cst15 | with_reducible exact cst25 | with_reducible exact cst30 | with_reducible exact cst31 | fail) (by first | with_reducible rfl | with_reducible exact cst1 | with_reducible exact cst0 | with_reducible exact cst2 | with_reducible exact cst3 | with_reducible exact cst4 | with_reducible exact cst5 | with_reducible exact cst6 | with_reducible exact cst7 | with_reducible exact cst8 | with_reducible exact cst14 | with_reducible exact cst15 | with_reducible exact cst25 | with_reducible exact cst30 | with_reducible exact cst31 | fail) ?_ ?_; · (repeat' (first | omega | refine And.intro ?_ ?_ | exact bnd_andl (by omega) | exact bnd_andr (by omega) | refine bnd_or ?_ ?_ | refine bnd_or31 ?_ ?_ | refine bnd_xor ?_ ?_ | refine bnd_xor31 ?_ ?_ | refine bnd_shr ?_ | refine bnd_shl ?_ ?_ | refine bnd_mod ?_ | refine bnd_andl ?_ | fail))) | fail) | (refine SideN.mk ?_ ?_; · first | kernel_rfl | omega | exact List.cons_ne_nil _ _ | (simp; done) | (simp; omega) | exact trivial | assumption | fail) | (refine CallN.id ?_; first | refine CallN.det _ (VDet.wk (xN1 _) ⟨wk_nils, Wk.refl _, Wk.refl _, trivial⟩) ?_ | refine CallN.det _ (VDet.wk (xN2 _) ⟨wk_nils, Wk.refl _, Wk.refl _, trivial⟩) ?_ | refine CallN.det _ (e15 _ (H.length + 5) s (by (repeat' (first | assumption | exact at_loc' _ rfl | exact at_loc0 rfl | refine at_set (B' := ?_) ?_ | refine at_base' ?_ | fail)))) ?_ | refine CallN.det _ (hV _) ?_ | refine CallN.det _ (hR _) ?_ | fail) | (refine CallD.id ?_; first | refine CallD.det _ (fun _ hq X => atom_c 83 _) ?_ | refine CallD.det _ (fun _ hq X => VDet.wk (js _) ⟨Wk.refl _, wk_sx _ _, trivial⟩) ?_ | refine CallD.det _ (fun _ hq X => xS _) ?_ | fail) | refine SegN.mk _ (seg_rfl rfl) ?_ | refine DrawN.mk' [] ?_ | fail))); all_goals (conv => whnf)
  all_goals exact EndN.det trivial (Wk.refl _)
theorem wrong_1 (sz lp x y z : Nat) (code : List Nat) (way : Nat) (nn : Int) (hw : way % 8 = 1) (hs : sz ≤ 255) (hl : lp ≤ 255) (hx : x ≤ 255) (hy : y ≤ 255) (hz : z ≤ 255) (hcd : code.length ≤ 9223372036854775807) (hcb : ∀ i, i < code.length → code.getD i 0 ≤ 255) (hnn : -9223372036854775808 ≤ nn ∧ nn ≤ 9223372036854775807) (H : Heap) :
    VDet Tryd.prog 8 [.int .u8 sz, .int .u8 lp, .agg [.int .u8 x, .int .u8 y, .int .u8 z], .sl none code.length (code.flatMap encB), .int .u8 way, .int .i64 nn] H (.bool true) := by
  have hmd := fun H => Made_c sz lp x y z hs hl hx hy hz H
  have hbu := fun H => built_c code hcd hcb H
  obtain ⟨hg, hnd⟩ := blt_ok code
  generalize bltF code = f at hbu hg hnd
  obtain ⟨n, l, a, b, c, he, h1, h5, hln, ha, hb, hc⟩ := made_ex sz lp x y z
  rw [he] at hmd
  have hm := ok3 n l a b c h1 h5 hln ha hb hc
  have hbad : Bad (.agg (mdB (5) (min nn 0) (l) 81 (0) a b (c)).cells) := bad_B (by decide) (by
    simp only [validB, mdB, Bool.and_eq_false_iff]
    first | exact .inl (decide_eq_false (by omega)) | exact .inr (.inl (decide_eq_false (by omega))) | exact .inr (.inr (.inl (decide_eq_false (by omega)))) | exact .inr (.inr (.inr (.inl (decide_eq_false (by omega))))) | exact .inr (.inr (.inr (.inr (.inl (decide_eq_false (by omega)))))) | fail)
  have e14 := lendAB (fun H => atE _ hbad f H) rfl
  have e28 := lendAB (fun H => holdsE _ hbad f H) rfl
  have e17 := lendAB (fun H => posE _ hbad 0 H) rfl
  have e27 := lendAB (fun H => sufE _ hbad 0 H) rfl
  have e13 := lendAB (fun H => sameE _ (.agg (Tr.cells ⟨n, l, [(80, a), (81, b), (82, c)]⟩)) hbad ⟨_, rfl⟩ H) rfl
  have e13' := lendBA (fun H => sameE2 _ hm _ hbad H) rfl
  have e12 := lendA (fun H => shortE _ hbad H) rfl
  have e29 := lendA (fun H => numE _ hbad H) rfl
  have e15 : ∀ (H : Heap) (i s : Nat) (_ : H[i]? = some (.box 49 (celB 81 (0) a b (c) ++ List.replicate s .junk))), VDet Tryd.prog 15 [agB (5) (min nn 0) (l) i] H (.bool false) := lendA (F := 15) (v := .bool false) (fun H => by
    obtain ⟨t, e, h⟩ := hbad
    rw [e]; exact h H) rfl
  have xBox := fun H => atBox _ hm f hg.ok (Fm.small_of (by simp only [Fm.nodes]; omega)) H
  have xArg := fun H => atX_c _ hm f hg.ok hg.temp hnd H
  have xPos := fun H => posN_c _ hm (min nn (-1)) (by omega) H
  have xSuf := fun H => sufN_c _ hm (min nn (-1)) (by omega) H
  have xNth := fun H => nthBig (max nn 6) (by omega) H
  have xS := fun H => At_c _ hm (.f1 12 (.at 83)) ⟨by simp [is1], (⟨by decide, by decide⟩ : cap 83)⟩ ⟨by simp, trivial⟩ (by decide) H
  rw [miss_S] at xS
  simp only [if_true] at xS
  have xN1 := fun H => Nth_none [] nm0_ok 3 (max nn 3) (by decide) (by decide) (by decide) (.inr (by show ((cntN 0 3 : Nat) : Int) ≤ max nn 3; rw [show cntN 0 3 = 3 by decide]; omega)) H
  have xN2 := fun H => Nth_none [] nm0_ok 3 (min nn (-1)) (by decide) (by decide) (by decide) (.inl (by omega)) H
  have hV := fun H => valid_t hm H
  have hR := fun H => right_c f hg.ok hg.temp (Fm.small_of (by omega)) H
  have hcopy := fun H i hi => copyModel_c n l a b c H i hi
  have he32 := every_lt h5
  have h4 : 1 ≤ 1 <<< n := by rw [Nat.shiftLeft_eq]; have := Nat.two_pow_pos n; omega
  have h6 : 1 <<< n < 64 := by unfold every at he32; omega
  have jb1 := fun H => join1_c 10 f H
  have jx := fun H => joinX_c f H
  have js := fun H => join1_c 12 (.at 83) H
  unfold Tr.cells at hmd e13 e13' xBox xArg xPos xSuf xS hV hcopy
  unfold Fm.cells at hbu e14 e28 hR jx
  unfold agB at e14 e28 e17 e27 e13 e13' e12 e29 e15
  unfold zmod at e27 e12 xSuf xNth
  simp only at hmd e13 e13' xBox xArg xPos xSuf xS hV hcopy hbu e14 e28
  refine fn_det Tryd.E0 Tryd.mx Tryd.func8 (by kernel_rfl) rfl (Nat.le_of_ble_eq_true rfl) rfl fun hcl hbl => ?_
  (repeat' ((conv => whnf); (first | (refine IfN.id ?_; first | refine IfN.not ?_ | refine IfN.tt rfl ?_ | refine IfN.ff rfl ?_ | fail) | (refine EqN.id ?_; first | refine EqN.remC 1 rfl rfl hw ?_ | fail) | (refine SideN.mk ?_ ?_; · first | kernel_rfl | omega | exact List.cons_ne_nil _ _ | (simp; done) | (simp; omega) | exact trivial | assumption | fail) | (refine CallN.id ?_; first | refine CallN.det _ (awake_c _) ?_ | refine CallN.det _ (hmd _) ?_ | refine CallN.det _ (hbu _) ?_ | fail) | refine CallN.more (fun _ => .agg (cpy n l (H.length + 5))) (fun s => [.box 30 (cpy n l (H.length + 5)), .box 30 (cpy n l (H.length + 5)), .box 49 (cel3 a b c ++ List.replicate s AV.junk)]) (hcopy _ (H.length + 5) (by simp)) rfl _ (fun _ => rfl) 6 (fun _ => rfl) fun s => ?_ | refine DrawN.mk' [] ?_ | fail))); all_goals (conv => whnf)
  (repeat' ((conv => whnf); (first | (refine SideN.mk ?_ ?_; · first | kernel_rfl | omega | exact List.cons_ne_nil _ _ | (simp; done) | (simp; omega) | exact trivial | assumption | fail) | (refine CallN.id ?_; first | refine CallN.det _ (e14 _ (H.length + 5) s (by (repeat' (first | assumption | exact at_loc' _ rfl | exact at_loc0 rfl | refine at_set (B' := ?_) ?_ | refine at_base' ?_ | fail)))) ?_ | refine CallN.det _ (e28 _ (H.length + 5) s (by (repeat' (first | assumption | exact at_loc' _ rfl | exact at_loc0 rfl | refine at_set (B' := ?_) ?_ | refine at_base' ?_ | fail)))) ?_ | refine CallN.det _ (e17 _ (H.length + 5) s (by (repeat' (first | assumption | exact at_loc' _ rfl | exact at_loc0 rfl | refine at_set (B' := ?_) ?_ | refine at_base' ?_ | fail)))) ?_ | refine CallN.det _ (e27 _ (H.length + 5) s (by (repeat' (first | assumption | exact at_loc' _ rfl | exact at_loc0 rfl | refine at_set (B' := ?_) ?_ | refine at_base' ?_ | fail)))) ?_ | refine CallN.det _ (e13 _ (H.length + 5) s (by (repeat' (first | assumption | exact at_loc' _ rfl | exact at_loc0 rfl | refine at_set (B' := ?_) ?_ | refine at_base' ?_ | fail)))) ?_ | refine CallN.det _ (e13' _ (H.length + 5) s (by (repeat' (first | assumption | exact at_loc' _ rfl | exact at_loc0 rfl | refine at_set (B' := ?_) ?_ | refine at_base' ?_ | fail)))) ?_ | refine CallN.det _ (e12 _ (H.length + 5) s (by (repeat' (first | assumption | exact at_loc' _ rfl | exact at_loc0 rfl | refine at_set (B' := ?_) ?_ | refine at_base' ?_ | fail)))) ?_ | refine CallN.det _ (e29 _ (H.length + 5) s (by (repeat' (first | assumption | exact at_loc' _ rfl | exact at_loc0 rfl | refine at_set (B' := ?_) ?_ | refine at_base' ?_ | fail)))) ?_ | refine CallN.det _ (xPos _) ?_ | refine CallN.det _ (xSuf _) ?_ | refine CallN.det _ (VDet.wk (countQP _) ⟨wk_sx _ _, Wk.refl _, trivial⟩) ?_ | refine CallN.det _ (xNth _) ?_ | fail) | (refine CallD.id ?_; first | refine CallD.det _ (fun _ hq X => VDet.wk (jb1 _) ⟨Wk.refl _, wk_sx _ _, trivial⟩) ?_ | refine CallD.det _ (fun _ hq X => xBox _) ?_ | refine CallD.det _ (fun _ hq X => jx _) ?_ | refine CallD.det _ (fun _ hq X => xArg _) ?_ | fail) | refine DrawN.mk' [] ?_ | fail))); all_goals (conv => whnf)
  refine LoopN.rounds Tryd.E0 Tryd.mx 15 rfl ?_
  (repeat' ((conv => whnf); (first | (refine IfN.id ?_; first | refine IfN.not ?_ | refine IfN.tt rfl ?_ | refine IfN.ff rfl ?_ | fail) | (refine EqN.id ?_; first | (refine EqN.addN _ _ (by first | with_reducible rfl | with_reducible exact cst1 | with_reducible exact cst0 | with_reducible exact cst2 | with_reducible exact cst3 | with_reducible exact cst4 | with_reducible exact cst5 | with_reducible exact cst6 | with_reducible exact cst7 | with_reducible exact cst8 | with_reducible exact cst14 | with_reducible exact cst15 | with_reducible exact cst25 | with_reducible exact cst30 | with_reducible exact cst31 | fail) (by first | with_reducible rfl | with_reducible exact cst1 | with_reducible exact cst0 | with_reducible exact cst2 | with_reducible exact cst3 | with_reducible exact cst4 | with_reducible exact cst5 | with_reducible exact cst6 | with_reducible exact cst7 | with_reducible exact cst8 | with_reducible exact cst14 | with_reducible exact cst15 | with_reducible exact cst25 | with_reducible exact cst30 | with_reducible exact cst31 | fail) ?_ ?_; · (repeat' (first | omega | refine And.intro ?_ ?_ | exact bnd_andl (by omega) | exact bnd_andr (by omega) | refine bnd_or ?_ ?_ | refine bnd_or31 ?_ ?_ | refine bnd_xor ?_ ?_ | refine bnd_xor31 ?_ ?_ | refine bnd_shr ?_ | refine bnd_shl ?_ ?_ | refine bnd_mod ?_ | refine bnd_andl ?_ | fail))) | fail) | (refine SideN.mk ?_ ?_; · first | kernel_rfl | omega | exact List.cons_ne_nil _ _ | (simp; done) | (simp; omega) | exact trivial | assumption | fail) | (refine CallN.id ?_; first | refine CallN.det _ (VDet.wk (xN1 _) ⟨wk_nils, Wk.refl _, Wk.refl _, trivial⟩) ?_ | refine CallN.det _ (VDet.wk (xN2 _) ⟨wk_nils, Wk.refl _, Wk.refl _, trivial⟩) ?_ | refine CallN.det _ (e15 _ (H.length + 5) s (by (repeat' (first | assumption | exact at_loc' _ rfl | exact at_loc0 rfl | refine at_set (B' := ?_) ?_ | refine at_base' ?_ | fail)))) ?_ | refine CallN.det _ (hV _) ?_ | refine CallN.det _ (hR _) ?_ | fail) | (refine CallD.id ?_; first | refine CallD.det _ (fun _ hq X => atom_c 83 _) ?_ | refine CallD.det _ (fun _ hq X => VDet.wk (js _) ⟨Wk.refl _, wk_sx _ _, trivial⟩) ?_ | refine CallD.det _ (fun _ hq X => xS _) ?_ | fail) | refine SegN.mk _ (seg_rfl rfl) ?_ | refine DrawN.mk' [] ?_ | fail))); all_goals (conv => whnf)
  all_goals exact EndN.det trivial (Wk.refl _)
theorem wrong_2 (sz lp x y z : Nat) (code : List Nat) (way : Nat) (nn : Int) (hw : way % 8 = 2) (hs : sz ≤ 255) (hl : lp ≤ 255) (hx : x ≤ 255) (hy : y ≤ 255) (hz : z ≤ 255) (hcd : code.length ≤ 9223372036854775807) (hcb : ∀ i, i < code.length → code.getD i 0 ≤ 255) (hnn : -9223372036854775808 ≤ nn ∧ nn ≤ 9223372036854775807) (H : Heap) :
    VDet Tryd.prog 8 [.int .u8 sz, .int .u8 lp, .agg [.int .u8 x, .int .u8 y, .int .u8 z], .sl none code.length (code.flatMap encB), .int .u8 way, .int .i64 nn] H (.bool true) := by
  have hmd := fun H => Made_c sz lp x y z hs hl hx hy hz H
  have hbu := fun H => built_c code hcd hcb H
  obtain ⟨hg, hnd⟩ := blt_ok code
  generalize bltF code = f at hbu hg hnd
  obtain ⟨n, l, a, b, c, he, h1, h5, hln, ha, hb, hc⟩ := made_ex sz lp x y z
  rw [he] at hmd
  have hm := ok3 n l a b c h1 h5 hln ha hb hc
  have hbad : Bad (.agg (mdB (5) (n) (max nn n) 81 (0) a b (c)).cells) := bad_B (by decide) (by
    simp only [validB, mdB, Bool.and_eq_false_iff]
    first | exact .inl (decide_eq_false (by omega)) | exact .inr (.inl (decide_eq_false (by omega))) | exact .inr (.inr (.inl (decide_eq_false (by omega)))) | exact .inr (.inr (.inr (.inl (decide_eq_false (by omega))))) | exact .inr (.inr (.inr (.inr (.inl (decide_eq_false (by omega)))))) | fail)
  have e14 := lendAB (fun H => atE _ hbad f H) rfl
  have e28 := lendAB (fun H => holdsE _ hbad f H) rfl
  have e17 := lendAB (fun H => posE _ hbad 0 H) rfl
  have e27 := lendAB (fun H => sufE _ hbad 0 H) rfl
  have e13 := lendAB (fun H => sameE _ (.agg (Tr.cells ⟨n, l, [(80, a), (81, b), (82, c)]⟩)) hbad ⟨_, rfl⟩ H) rfl
  have e13' := lendBA (fun H => sameE2 _ hm _ hbad H) rfl
  have e12 := lendA (fun H => shortE _ hbad H) rfl
  have e29 := lendA (fun H => numE _ hbad H) rfl
  have e15 : ∀ (H : Heap) (i s : Nat) (_ : H[i]? = some (.box 49 (celB 81 (0) a b (c) ++ List.replicate s .junk))), VDet Tryd.prog 15 [agB (5) (n) (max nn n) i] H (.bool false) := lendA (F := 15) (v := .bool false) (fun H => by
    obtain ⟨t, e, h⟩ := hbad
    rw [e]; exact h H) rfl
  have xBox := fun H => atBox _ hm f hg.ok (Fm.small_of (by simp only [Fm.nodes]; omega)) H
  have xArg := fun H => atX_c _ hm f hg.ok hg.temp hnd H
  have xPos := fun H => posN_c _ hm (min nn (-1)) (by omega) H
  have xSuf := fun H => sufN_c _ hm (min nn (-1)) (by omega) H
  have xNth := fun H => nthBig (max nn 6) (by omega) H
  have xS := fun H => At_c _ hm (.f1 12 (.at 83)) ⟨by simp [is1], (⟨by decide, by decide⟩ : cap 83)⟩ ⟨by simp, trivial⟩ (by decide) H
  rw [miss_S] at xS
  simp only [if_true] at xS
  have xN1 := fun H => Nth_none [] nm0_ok 3 (max nn 3) (by decide) (by decide) (by decide) (.inr (by show ((cntN 0 3 : Nat) : Int) ≤ max nn 3; rw [show cntN 0 3 = 3 by decide]; omega)) H
  have xN2 := fun H => Nth_none [] nm0_ok 3 (min nn (-1)) (by decide) (by decide) (by decide) (.inl (by omega)) H
  have hV := fun H => valid_t hm H
  have hR := fun H => right_c f hg.ok hg.temp (Fm.small_of (by omega)) H
  have hcopy := fun H i hi => copyModel_c n l a b c H i hi
  have he32 := every_lt h5
  have h4 : 1 ≤ 1 <<< n := by rw [Nat.shiftLeft_eq]; have := Nat.two_pow_pos n; omega
  have h6 : 1 <<< n < 64 := by unfold every at he32; omega
  have jb1 := fun H => join1_c 10 f H
  have jx := fun H => joinX_c f H
  have js := fun H => join1_c 12 (.at 83) H
  unfold Tr.cells at hmd e13 e13' xBox xArg xPos xSuf xS hV hcopy
  unfold Fm.cells at hbu e14 e28 hR jx
  unfold agB at e14 e28 e17 e27 e13 e13' e12 e29 e15
  unfold zmod at e27 e12 xSuf xNth
  simp only at hmd e13 e13' xBox xArg xPos xSuf xS hV hcopy hbu e14 e28
  refine fn_det Tryd.E0 Tryd.mx Tryd.func8 (by kernel_rfl) rfl (Nat.le_of_ble_eq_true rfl) rfl fun hcl hbl => ?_
  (repeat' ((conv => whnf); (first | (refine IfN.id ?_; first | refine IfN.not ?_ | refine IfN.tt rfl ?_ | refine IfN.ff rfl ?_ | fail) | (refine EqN.id ?_; first | refine EqN.remC 2 rfl rfl hw ?_ | fail) | (refine SideN.mk ?_ ?_; · first | kernel_rfl | omega | exact List.cons_ne_nil _ _ | (simp; done) | (simp; omega) | exact trivial | assumption | fail) | (refine CallN.id ?_; first | refine CallN.det _ (awake_c _) ?_ | refine CallN.det _ (hmd _) ?_ | refine CallN.det _ (hbu _) ?_ | fail) | refine CallN.more (fun _ => .agg (cpy n l (H.length + 5))) (fun s => [.box 30 (cpy n l (H.length + 5)), .box 30 (cpy n l (H.length + 5)), .box 49 (cel3 a b c ++ List.replicate s AV.junk)]) (hcopy _ (H.length + 5) (by simp)) rfl _ (fun _ => rfl) 6 (fun _ => rfl) fun s => ?_ | refine DrawN.mk' [] ?_ | fail))); all_goals (conv => whnf)
  (repeat' ((conv => whnf); (first | (refine SideN.mk ?_ ?_; · first | kernel_rfl | omega | exact List.cons_ne_nil _ _ | (simp; done) | (simp; omega) | exact trivial | assumption | fail) | (refine CallN.id ?_; first | refine CallN.det _ (e14 _ (H.length + 5) s (by (repeat' (first | assumption | exact at_loc' _ rfl | exact at_loc0 rfl | refine at_set (B' := ?_) ?_ | refine at_base' ?_ | fail)))) ?_ | refine CallN.det _ (e28 _ (H.length + 5) s (by (repeat' (first | assumption | exact at_loc' _ rfl | exact at_loc0 rfl | refine at_set (B' := ?_) ?_ | refine at_base' ?_ | fail)))) ?_ | refine CallN.det _ (e17 _ (H.length + 5) s (by (repeat' (first | assumption | exact at_loc' _ rfl | exact at_loc0 rfl | refine at_set (B' := ?_) ?_ | refine at_base' ?_ | fail)))) ?_ | refine CallN.det _ (e27 _ (H.length + 5) s (by (repeat' (first | assumption | exact at_loc' _ rfl | exact at_loc0 rfl | refine at_set (B' := ?_) ?_ | refine at_base' ?_ | fail)))) ?_ | refine CallN.det _ (e13 _ (H.length + 5) s (by (repeat' (first | assumption | exact at_loc' _ rfl | exact at_loc0 rfl | refine at_set (B' := ?_) ?_ | refine at_base' ?_ | fail)))) ?_ | refine CallN.det _ (e13' _ (H.length + 5) s (by (repeat' (first | assumption | exact at_loc' _ rfl | exact at_loc0 rfl | refine at_set (B' := ?_) ?_ | refine at_base' ?_ | fail)))) ?_ | refine CallN.det _ (e12 _ (H.length + 5) s (by (repeat' (first | assumption | exact at_loc' _ rfl | exact at_loc0 rfl | refine at_set (B' := ?_) ?_ | refine at_base' ?_ | fail)))) ?_ | refine CallN.det _ (e29 _ (H.length + 5) s (by (repeat' (first | assumption | exact at_loc' _ rfl | exact at_loc0 rfl | refine at_set (B' := ?_) ?_ | refine at_base' ?_ | fail)))) ?_ | refine CallN.det _ (xPos _) ?_ | refine CallN.det _ (xSuf _) ?_ | refine CallN.det _ (VDet.wk (countQP _) ⟨wk_sx _ _, Wk.refl _, trivial⟩) ?_ | refine CallN.det _ (xNth _) ?_ | fail) | (refine CallD.id ?_; first | refine CallD.det _ (fun _ hq X => VDet.wk (jb1 _) ⟨Wk.refl _, wk_sx _ _, trivial⟩) ?_ | refine CallD.det _ (fun _ hq X => xBox _) ?_ | refine CallD.det _ (fun _ hq X => jx _) ?_ | refine CallD.det _ (fun _ hq X => xArg _) ?_ | fail) | refine DrawN.mk' [] ?_ | fail))); all_goals (conv => whnf)
  refine LoopN.rounds Tryd.E0 Tryd.mx 15 rfl ?_
  (repeat' ((conv => whnf); (first | (refine IfN.id ?_; first | refine IfN.not ?_ | refine IfN.tt rfl ?_ | refine IfN.ff rfl ?_ | fail) | (refine EqN.id ?_; first | (refine EqN.addN _ _ (by first | with_reducible rfl | with_reducible exact cst1 | with_reducible exact cst0 | with_reducible exact cst2 | with_reducible exact cst3 | with_reducible exact cst4 | with_reducible exact cst5 | with_reducible exact cst6 | with_reducible exact cst7 | with_reducible exact cst8 | with_reducible exact cst14 | with_reducible exact cst15 | with_reducible exact cst25 | with_reducible exact cst30 | with_reducible exact cst31 | fail) (by first | with_reducible rfl | with_reducible exact cst1 | with_reducible exact cst0 | with_reducible exact cst2 | with_reducible exact cst3 | with_reducible exact cst4 | with_reducible exact cst5 | with_reducible exact cst6 | with_reducible exact cst7 | with_reducible exact cst8 | with_reducible exact cst14 | with_reducible exact cst15 | with_reducible exact cst25 | with_reducible exact cst30 | with_reducible exact cst31 | fail) ?_ ?_; · (repeat' (first | omega | refine And.intro ?_ ?_ | exact bnd_andl (by omega) | exact bnd_andr (by omega) | refine bnd_or ?_ ?_ | refine bnd_or31 ?_ ?_ | refine bnd_xor ?_ ?_ | refine bnd_xor31 ?_ ?_ | refine bnd_shr ?_ | refine bnd_shl ?_ ?_ | refine bnd_mod ?_ | refine bnd_andl ?_ | fail))) | fail) | (refine SideN.mk ?_ ?_; · first | kernel_rfl | omega | exact List.cons_ne_nil _ _ | (simp; done) | (simp; omega) | exact trivial | assumption | fail) | (refine CallN.id ?_; first | refine CallN.det _ (VDet.wk (xN1 _) ⟨wk_nils, Wk.refl _, Wk.refl _, trivial⟩) ?_ | refine CallN.det _ (VDet.wk (xN2 _) ⟨wk_nils, Wk.refl _, Wk.refl _, trivial⟩) ?_ | refine CallN.det _ (e15 _ (H.length + 5) s (by (repeat' (first | assumption | exact at_loc' _ rfl | exact at_loc0 rfl | refine at_set (B' := ?_) ?_ | refine at_base' ?_ | fail)))) ?_ | refine CallN.det _ (hV _) ?_ | refine CallN.det _ (hR _) ?_ | fail) | (refine CallD.id ?_; first | refine CallD.det _ (fun _ hq X => atom_c 83 _) ?_ | refine CallD.det _ (fun _ hq X => VDet.wk (js _) ⟨Wk.refl _, wk_sx _ _, trivial⟩) ?_ | refine CallD.det _ (fun _ hq X => xS _) ?_ | fail) | refine SegN.mk _ (seg_rfl rfl) ?_ | refine DrawN.mk' [] ?_ | fail))); all_goals (conv => whnf)
  all_goals exact EndN.det trivial (Wk.refl _)
theorem wrong_3 (sz lp x y z : Nat) (code : List Nat) (way : Nat) (nn : Int) (hw : way % 8 = 3) (hs : sz ≤ 255) (hl : lp ≤ 255) (hx : x ≤ 255) (hy : y ≤ 255) (hz : z ≤ 255) (hcd : code.length ≤ 9223372036854775807) (hcb : ∀ i, i < code.length → code.getD i 0 ≤ 255) (hnn : -9223372036854775808 ≤ nn ∧ nn ≤ 9223372036854775807) (H : Heap) :
    VDet Tryd.prog 8 [.int .u8 sz, .int .u8 lp, .agg [.int .u8 x, .int .u8 y, .int .u8 z], .sl none code.length (code.flatMap encB), .int .u8 way, .int .i64 nn] H (.bool true) := by
  have hmd := fun H => Made_c sz lp x y z hs hl hx hy hz H
  have hbu := fun H => built_c code hcd hcb H
  obtain ⟨hg, hnd⟩ := blt_ok code
  generalize bltF code = f at hbu hg hnd
  obtain ⟨n, l, a, b, c, he, h1, h5, hln, ha, hb, hc⟩ := made_ex sz lp x y z
  rw [he] at hmd
  have hm := ok3 n l a b c h1 h5 hln ha hb hc
  have hbad : Bad (.agg (mdB (5) (n) (min nn (-1)) 81 (0) a b (c)).cells) := bad_B (by decide) (by
    simp only [validB, mdB, Bool.and_eq_false_iff]
    first | exact .inl (decide_eq_false (by omega)) | exact .inr (.inl (decide_eq_false (by omega))) | exact .inr (.inr (.inl (decide_eq_false (by omega)))) | exact .inr (.inr (.inr (.inl (decide_eq_false (by omega))))) | exact .inr (.inr (.inr (.inr (.inl (decide_eq_false (by omega)))))) | fail)
  have e14 := lendAB (fun H => atE _ hbad f H) rfl
  have e28 := lendAB (fun H => holdsE _ hbad f H) rfl
  have e17 := lendAB (fun H => posE _ hbad 0 H) rfl
  have e27 := lendAB (fun H => sufE _ hbad 0 H) rfl
  have e13 := lendAB (fun H => sameE _ (.agg (Tr.cells ⟨n, l, [(80, a), (81, b), (82, c)]⟩)) hbad ⟨_, rfl⟩ H) rfl
  have e13' := lendBA (fun H => sameE2 _ hm _ hbad H) rfl
  have e12 := lendA (fun H => shortE _ hbad H) rfl
  have e29 := lendA (fun H => numE _ hbad H) rfl
  have e15 : ∀ (H : Heap) (i s : Nat) (_ : H[i]? = some (.box 49 (celB 81 (0) a b (c) ++ List.replicate s .junk))), VDet Tryd.prog 15 [agB (5) (n) (min nn (-1)) i] H (.bool false) := lendA (F := 15) (v := .bool false) (fun H => by
    obtain ⟨t, e, h⟩ := hbad
    rw [e]; exact h H) rfl
  have xBox := fun H => atBox _ hm f hg.ok (Fm.small_of (by simp only [Fm.nodes]; omega)) H
  have xArg := fun H => atX_c _ hm f hg.ok hg.temp hnd H
  have xPos := fun H => posN_c _ hm (min nn (-1)) (by omega) H
  have xSuf := fun H => sufN_c _ hm (min nn (-1)) (by omega) H
  have xNth := fun H => nthBig (max nn 6) (by omega) H
  have xS := fun H => At_c _ hm (.f1 12 (.at 83)) ⟨by simp [is1], (⟨by decide, by decide⟩ : cap 83)⟩ ⟨by simp, trivial⟩ (by decide) H
  rw [miss_S] at xS
  simp only [if_true] at xS
  have xN1 := fun H => Nth_none [] nm0_ok 3 (max nn 3) (by decide) (by decide) (by decide) (.inr (by show ((cntN 0 3 : Nat) : Int) ≤ max nn 3; rw [show cntN 0 3 = 3 by decide]; omega)) H
  have xN2 := fun H => Nth_none [] nm0_ok 3 (min nn (-1)) (by decide) (by decide) (by decide) (.inl (by omega)) H
  have hV := fun H => valid_t hm H
  have hR := fun H => right_c f hg.ok hg.temp (Fm.small_of (by omega)) H
  have hcopy := fun H i hi => copyModel_c n l a b c H i hi
  have he32 := every_lt h5
  have h4 : 1 ≤ 1 <<< n := by rw [Nat.shiftLeft_eq]; have := Nat.two_pow_pos n; omega
  have h6 : 1 <<< n < 64 := by unfold every at he32; omega
  have jb1 := fun H => join1_c 10 f H
  have jx := fun H => joinX_c f H
  have js := fun H => join1_c 12 (.at 83) H
  unfold Tr.cells at hmd e13 e13' xBox xArg xPos xSuf xS hV hcopy
  unfold Fm.cells at hbu e14 e28 hR jx
  unfold agB at e14 e28 e17 e27 e13 e13' e12 e29 e15
  unfold zmod at e27 e12 xSuf xNth
  simp only at hmd e13 e13' xBox xArg xPos xSuf xS hV hcopy hbu e14 e28
  refine fn_det Tryd.E0 Tryd.mx Tryd.func8 (by kernel_rfl) rfl (Nat.le_of_ble_eq_true rfl) rfl fun hcl hbl => ?_
  (repeat' ((conv => whnf); (first | (refine IfN.id ?_; first | refine IfN.not ?_ | refine IfN.tt rfl ?_ | refine IfN.ff rfl ?_ | fail) | (refine EqN.id ?_; first | refine EqN.remC 3 rfl rfl hw ?_ | fail) | (refine SideN.mk ?_ ?_; · first | kernel_rfl | omega | exact List.cons_ne_nil _ _ | (simp; done) | (simp; omega) | exact trivial | assumption | fail) | (refine CallN.id ?_; first | refine CallN.det _ (awake_c _) ?_ | refine CallN.det _ (hmd _) ?_ | refine CallN.det _ (hbu _) ?_ | fail) | refine CallN.more (fun _ => .agg (cpy n l (H.length + 5))) (fun s => [.box 30 (cpy n l (H.length + 5)), .box 30 (cpy n l (H.length + 5)), .box 49 (cel3 a b c ++ List.replicate s AV.junk)]) (hcopy _ (H.length + 5) (by simp)) rfl _ (fun _ => rfl) 6 (fun _ => rfl) fun s => ?_ | refine DrawN.mk' [] ?_ | fail))); all_goals (conv => whnf)
  (repeat' ((conv => whnf); (first | (refine SideN.mk ?_ ?_; · first | kernel_rfl | omega | exact List.cons_ne_nil _ _ | (simp; done) | (simp; omega) | exact trivial | assumption | fail) | (refine CallN.id ?_; first | refine CallN.det _ (e14 _ (H.length + 5) s (by (repeat' (first | assumption | exact at_loc' _ rfl | exact at_loc0 rfl | refine at_set (B' := ?_) ?_ | refine at_base' ?_ | fail)))) ?_ | refine CallN.det _ (e28 _ (H.length + 5) s (by (repeat' (first | assumption | exact at_loc' _ rfl | exact at_loc0 rfl | refine at_set (B' := ?_) ?_ | refine at_base' ?_ | fail)))) ?_ | refine CallN.det _ (e17 _ (H.length + 5) s (by (repeat' (first | assumption | exact at_loc' _ rfl | exact at_loc0 rfl | refine at_set (B' := ?_) ?_ | refine at_base' ?_ | fail)))) ?_ | refine CallN.det _ (e27 _ (H.length + 5) s (by (repeat' (first | assumption | exact at_loc' _ rfl | exact at_loc0 rfl | refine at_set (B' := ?_) ?_ | refine at_base' ?_ | fail)))) ?_ | refine CallN.det _ (e13 _ (H.length + 5) s (by (repeat' (first | assumption | exact at_loc' _ rfl | exact at_loc0 rfl | refine at_set (B' := ?_) ?_ | refine at_base' ?_ | fail)))) ?_ | refine CallN.det _ (e13' _ (H.length + 5) s (by (repeat' (first | assumption | exact at_loc' _ rfl | exact at_loc0 rfl | refine at_set (B' := ?_) ?_ | refine at_base' ?_ | fail)))) ?_ | refine CallN.det _ (e12 _ (H.length + 5) s (by (repeat' (first | assumption | exact at_loc' _ rfl | exact at_loc0 rfl | refine at_set (B' := ?_) ?_ | refine at_base' ?_ | fail)))) ?_ | refine CallN.det _ (e29 _ (H.length + 5) s (by (repeat' (first | assumption | exact at_loc' _ rfl | exact at_loc0 rfl | refine at_set (B' := ?_) ?_ | refine at_base' ?_ | fail)))) ?_ | refine CallN.det _ (xPos _) ?_ | refine CallN.det _ (xSuf _) ?_ | refine CallN.det _ (VDet.wk (countQP _) ⟨wk_sx _ _, Wk.refl _, trivial⟩) ?_ | refine CallN.det _ (xNth _) ?_ | fail) | (refine CallD.id ?_; first | refine CallD.det _ (fun _ hq X => VDet.wk (jb1 _) ⟨Wk.refl _, wk_sx _ _, trivial⟩) ?_ | refine CallD.det _ (fun _ hq X => xBox _) ?_ | refine CallD.det _ (fun _ hq X => jx _) ?_ | refine CallD.det _ (fun _ hq X => xArg _) ?_ | fail) | refine DrawN.mk' [] ?_ | fail))); all_goals (conv => whnf)
  refine LoopN.rounds Tryd.E0 Tryd.mx 15 rfl ?_
  (repeat' ((conv => whnf); (first | (refine IfN.id ?_; first | refine IfN.not ?_ | refine IfN.tt rfl ?_ | refine IfN.ff rfl ?_ | fail) | (refine EqN.id ?_; first | (refine EqN.addN _ _ (by first | with_reducible rfl | with_reducible exact cst1 | with_reducible exact cst0 | with_reducible exact cst2 | with_reducible exact cst3 | with_reducible exact cst4 | with_reducible exact cst5 | with_reducible exact cst6 | with_reducible exact cst7 | with_reducible exact cst8 | with_reducible exact cst14 | with_reducible exact cst15 | with_reducible exact cst25 | with_reducible exact cst30 | with_reducible exact cst31 | fail) (by first | with_reducible rfl | with_reducible exact cst1 | with_reducible exact cst0 | with_reducible exact cst2 | with_reducible exact cst3 | with_reducible exact cst4 | with_reducible exact cst5 | with_reducible exact cst6 | with_reducible exact cst7 | with_reducible exact cst8 | with_reducible exact cst14 | with_reducible exact cst15 | with_reducible exact cst25 | with_reducible exact cst30 | with_reducible exact cst31 | fail) ?_ ?_; · (repeat' (first | omega | refine And.intro ?_ ?_ | exact bnd_andl (by omega) | exact bnd_andr (by omega) | refine bnd_or ?_ ?_ | refine bnd_or31 ?_ ?_ | refine bnd_xor ?_ ?_ | refine bnd_xor31 ?_ ?_ | refine bnd_shr ?_ | refine bnd_shl ?_ ?_ | refine bnd_mod ?_ | refine bnd_andl ?_ | fail))) | fail) | (refine SideN.mk ?_ ?_; · first | kernel_rfl | omega | exact List.cons_ne_nil _ _ | (simp; done) | (simp; omega) | exact trivial | assumption | fail) | (refine CallN.id ?_; first | refine CallN.det _ (VDet.wk (xN1 _) ⟨wk_nils, Wk.refl _, Wk.refl _, trivial⟩) ?_ | refine CallN.det _ (VDet.wk (xN2 _) ⟨wk_nils, Wk.refl _, Wk.refl _, trivial⟩) ?_ | refine CallN.det _ (e15 _ (H.length + 5) s (by (repeat' (first | assumption | exact at_loc' _ rfl | exact at_loc0 rfl | refine at_set (B' := ?_) ?_ | refine at_base' ?_ | fail)))) ?_ | refine CallN.det _ (hV _) ?_ | refine CallN.det _ (hR _) ?_ | fail) | (refine CallD.id ?_; first | refine CallD.det _ (fun _ hq X => atom_c 83 _) ?_ | refine CallD.det _ (fun _ hq X => VDet.wk (js _) ⟨Wk.refl _, wk_sx _ _, trivial⟩) ?_ | refine CallD.det _ (fun _ hq X => xS _) ?_ | fail) | refine SegN.mk _ (seg_rfl rfl) ?_ | refine DrawN.mk' [] ?_ | fail))); all_goals (conv => whnf)
  all_goals exact EndN.det trivial (Wk.refl _)
theorem wrong_4 (sz lp x y z : Nat) (code : List Nat) (way : Nat) (nn : Int) (hw : way % 8 = 4) (hs : sz ≤ 255) (hl : lp ≤ 255) (hx : x ≤ 255) (hy : y ≤ 255) (hz : z ≤ 255) (hcd : code.length ≤ 9223372036854775807) (hcb : ∀ i, i < code.length → code.getD i 0 ≤ 255) (hnn : -9223372036854775808 ≤ nn ∧ nn ≤ 9223372036854775807) (H : Heap) :
    VDet Tryd.prog 8 [.int .u8 sz, .int .u8 lp, .agg [.int .u8 x, .int .u8 y, .int .u8 z], .sl none code.length (code.flatMap encB), .int .u8 way, .int .i64 nn] H (.bool true) := by
  have hmd := fun H => Made_c sz lp x y z hs hl hx hy hz H
  have hbu := fun H => built_c code hcd hcb H
  obtain ⟨hg, hnd⟩ := blt_ok code
  generalize bltF code = f at hbu hg hnd
  obtain ⟨n, l, a, b, c, he, h1, h5, hln, ha, hb, hc⟩ := made_ex sz lp x y z
  rw [he] at hmd
  have hm := ok3 n l a b c h1 h5 hln ha hb hc
  have hbad : Bad (.agg (mdB (5) (n) (l) 81 (0) a b (max nn ((1 <<< n : Nat) : Int))).cells) := bad_B (by decide) (by
    have hr : rowsOK (n : Int) (mdB (5) (n) (l) 81 (0) a b (max nn ((1 <<< n : Nat) : Int))).fs = false := rows4 n l a b _ (by rw [Int.toNat_natCast, show ((2 : Int) ^ n) = ((1 <<< n : Nat) : Int) by rw [one_shl]; simp]; omega)
    unfold validB
    rw [show (mdB (5) (n) (l) 81 (0) a b (max nn ((1 <<< n : Nat) : Int))).n = (n : Int) from rfl, hr]
    simp)
  have e14 := lendAB (fun H => atE _ hbad f H) rfl
  have e28 := lendAB (fun H => holdsE _ hbad f H) rfl
  have e17 := lendAB (fun H => posE _ hbad 0 H) rfl
  have e27 := lendAB (fun H => sufE _ hbad 0 H) rfl
  have e13 := lendAB (fun H => sameE _ (.agg (Tr.cells ⟨n, l, [(80, a), (81, b), (82, c)]⟩)) hbad ⟨_, rfl⟩ H) rfl
  have e13' := lendBA (fun H => sameE2 _ hm _ hbad H) rfl
  have e12 := lendA (fun H => shortE _ hbad H) rfl
  have e29 := lendA (fun H => numE _ hbad H) rfl
  have e15 : ∀ (H : Heap) (i s : Nat) (_ : H[i]? = some (.box 49 (celB 81 (0) a b (max nn ((1 <<< n : Nat) : Int)) ++ List.replicate s .junk))), VDet Tryd.prog 15 [agB (5) (n) (l) i] H (.bool false) := lendA (F := 15) (v := .bool false) (fun H => by
    obtain ⟨t, e, h⟩ := hbad
    rw [e]; exact h H) rfl
  have xBox := fun H => atBox _ hm f hg.ok (Fm.small_of (by simp only [Fm.nodes]; omega)) H
  have xArg := fun H => atX_c _ hm f hg.ok hg.temp hnd H
  have xPos := fun H => posN_c _ hm (min nn (-1)) (by omega) H
  have xSuf := fun H => sufN_c _ hm (min nn (-1)) (by omega) H
  have xNth := fun H => nthBig (max nn 6) (by omega) H
  have xS := fun H => At_c _ hm (.f1 12 (.at 83)) ⟨by simp [is1], (⟨by decide, by decide⟩ : cap 83)⟩ ⟨by simp, trivial⟩ (by decide) H
  rw [miss_S] at xS
  simp only [if_true] at xS
  have xN1 := fun H => Nth_none [] nm0_ok 3 (max nn 3) (by decide) (by decide) (by decide) (.inr (by show ((cntN 0 3 : Nat) : Int) ≤ max nn 3; rw [show cntN 0 3 = 3 by decide]; omega)) H
  have xN2 := fun H => Nth_none [] nm0_ok 3 (min nn (-1)) (by decide) (by decide) (by decide) (.inl (by omega)) H
  have hV := fun H => valid_t hm H
  have hR := fun H => right_c f hg.ok hg.temp (Fm.small_of (by omega)) H
  have hcopy := fun H i hi => copyModel_c n l a b c H i hi
  have he32 := every_lt h5
  have h4 : 1 ≤ 1 <<< n := by rw [Nat.shiftLeft_eq]; have := Nat.two_pow_pos n; omega
  have h6 : 1 <<< n < 64 := by unfold every at he32; omega
  have jb1 := fun H => join1_c 10 f H
  have jx := fun H => joinX_c f H
  have js := fun H => join1_c 12 (.at 83) H
  unfold Tr.cells at hmd e13 e13' xBox xArg xPos xSuf xS hV hcopy
  unfold Fm.cells at hbu e14 e28 hR jx
  unfold agB at e14 e28 e17 e27 e13 e13' e12 e29 e15
  unfold zmod at e27 e12 xSuf xNth
  simp only at hmd e13 e13' xBox xArg xPos xSuf xS hV hcopy hbu e14 e28
  refine fn_det Tryd.E0 Tryd.mx Tryd.func8 (by kernel_rfl) rfl (Nat.le_of_ble_eq_true rfl) rfl fun hcl hbl => ?_
  (repeat' ((conv => whnf); (first | (refine IfN.id ?_; first | refine IfN.not ?_ | refine IfN.tt rfl ?_ | refine IfN.ff rfl ?_ | fail) | (refine EqN.id ?_; first | refine EqN.remC 4 rfl rfl hw ?_ | (refine EqN.shlN _ _ (by first | with_reducible rfl | with_reducible exact cst1 | with_reducible exact cst0 | with_reducible exact cst2 | with_reducible exact cst3 | with_reducible exact cst4 | with_reducible exact cst5 | with_reducible exact cst6 | with_reducible exact cst7 | with_reducible exact cst8 | with_reducible exact cst14 | with_reducible exact cst15 | with_reducible exact cst25 | with_reducible exact cst30 | with_reducible exact cst31 | fail) (by first | with_reducible rfl | with_reducible exact cst1 | with_reducible exact cst0 | with_reducible exact cst2 | with_reducible exact cst3 | with_reducible exact cst4 | with_reducible exact cst5 | with_reducible exact cst6 | with_reducible exact cst7 | with_reducible exact cst8 | with_reducible exact cst14 | with_reducible exact cst15 | with_reducible exact cst25 | with_reducible exact cst30 | with_reducible exact cst31 | fail) rfl ?_ ?_ ?_; (· (repeat' (first | omega | refine And.intro ?_ ?_ | exact bnd_andl (by omega) | exact bnd_andr (by omega) | refine bnd_or ?_ ?_ | refine bnd_or31 ?_ ?_ | refine bnd_xor ?_ ?_ | refine bnd_xor31 ?_ ?_ | refine bnd_shr ?_ | refine bnd_shl ?_ ?_ | refine bnd_mod ?_ | refine bnd_andl ?_ | fail))); (· (repeat' (first | omega | refine And.intro ?_ ?_ | exact bnd_andl (by omega) | exact bnd_andr (by omega) | refine bnd_or ?_ ?_ | refine bnd_or31 ?_ ?_ | refine bnd_xor ?_ ?_ | refine bnd_xor31 ?_ ?_ | refine bnd_shr ?_ | refine bnd_shl ?_ ?_ | refine bnd_mod ?_ | refine bnd_andl ?_ | fail)))) | fail) | (refine SideN.mk ?_ ?_; · first | kernel_rfl | omega | exact List.cons_ne_nil _ _ | (simp; done) | (simp; omega) | exact trivial | assumption | fail) | (refine CallN.id ?_; first | refine CallN.det _ (awake_c _) ?_ | refine CallN.det _ (hmd _) ?_ | refine CallN.det _ (hbu _) ?_ | fail) | refine CallN.more (fun _ => .agg (cpy n l (H.length + 5))) (fun s => [.box 30 (cpy n l (H.length + 5)), .box 30 (cpy n l (H.length + 5)), .box 49 (cel3 a b c ++ List.replicate s AV.junk)]) (hcopy _ (H.length + 5) (by simp)) rfl _ (fun _ => rfl) 6 (fun _ => rfl) fun s => ?_ | (refine PtrN.id ?_; first | refine PtrN.loc _ rfl ?_ | fail) | refine OfsN.at_ (by omega) ?_ | refine DrawN.mk' [] ?_ | fail))); all_goals (conv => whnf)
  (repeat' ((conv => whnf); (first | (refine SideN.mk ?_ ?_; · first | kernel_rfl | omega | exact List.cons_ne_nil _ _ | (simp; done) | (simp; omega) | exact trivial | assumption | fail) | (refine CallN.id ?_; first | refine CallN.det _ (e14 _ (H.length + 5) s (by (repeat' (first | assumption | exact at_loc' _ rfl | exact at_loc0 rfl | refine at_set (B' := ?_) ?_ | refine at_base' ?_ | fail)))) ?_ | refine CallN.det _ (e28 _ (H.length + 5) s (by (repeat' (first | assumption | exact at_loc' _ rfl | exact at_loc0 rfl | refine at_set (B' := ?_) ?_ | refine at_base' ?_ | fail)))) ?_ | refine CallN.det _ (e17 _ (H.length + 5) s (by (repeat' (first | assumption | exact at_loc' _ rfl | exact at_loc0 rfl | refine at_set (B' := ?_) ?_ | refine at_base' ?_ | fail)))) ?_ | refine CallN.det _ (e27 _ (H.length + 5) s (by (repeat' (first | assumption | exact at_loc' _ rfl | exact at_loc0 rfl | refine at_set (B' := ?_) ?_ | refine at_base' ?_ | fail)))) ?_ | refine CallN.det _ (e13 _ (H.length + 5) s (by (repeat' (first | assumption | exact at_loc' _ rfl | exact at_loc0 rfl | refine at_set (B' := ?_) ?_ | refine at_base' ?_ | fail)))) ?_ | refine CallN.det _ (e13' _ (H.length + 5) s (by (repeat' (first | assumption | exact at_loc' _ rfl | exact at_loc0 rfl | refine at_set (B' := ?_) ?_ | refine at_base' ?_ | fail)))) ?_ | refine CallN.det _ (e12 _ (H.length + 5) s (by (repeat' (first | assumption | exact at_loc' _ rfl | exact at_loc0 rfl | refine at_set (B' := ?_) ?_ | refine at_base' ?_ | fail)))) ?_ | refine CallN.det _ (e29 _ (H.length + 5) s (by (repeat' (first | assumption | exact at_loc' _ rfl | exact at_loc0 rfl | refine at_set (B' := ?_) ?_ | refine at_base' ?_ | fail)))) ?_ | refine CallN.det _ (xPos _) ?_ | refine CallN.det _ (xSuf _) ?_ | refine CallN.det _ (VDet.wk (countQP _) ⟨wk_sx _ _, Wk.refl _, trivial⟩) ?_ | refine CallN.det _ (xNth _) ?_ | fail) | (refine CallD.id ?_; first | refine CallD.det _ (fun _ hq X => VDet.wk (jb1 _) ⟨Wk.refl _, wk_sx _ _, trivial⟩) ?_ | refine CallD.det _ (fun _ hq X => xBox _) ?_ | refine CallD.det _ (fun _ hq X => jx _) ?_ | refine CallD.det _ (fun _ hq X => xArg _) ?_ | fail) | refine DrawN.mk' [] ?_ | fail))); all_goals (conv => whnf)
  refine LoopN.rounds Tryd.E0 Tryd.mx 15 rfl ?_
  (repeat' ((conv => whnf); (first | (refine IfN.id ?_; first | refine IfN.not ?_ | refine IfN.tt rfl ?_ | refine IfN.ff rfl ?_ | fail) | (refine EqN.id ?_; first | (refine EqN.addN _ _ (by first | with_reducible rfl | with_reducible exact cst1 | with_reducible exact cst0 | with_reducible exact cst2 | with_reducible exact cst3 | with_reducible exact cst4 | with_reducible exact cst5 | with_reducible exact cst6 | with_reducible exact cst7 | with_reducible exact cst8 | with_reducible exact cst14 | with_reducible exact cst15 | with_reducible exact cst25 | with_reducible exact cst30 | with_reducible exact cst31 | fail) (by first | with_reducible rfl | with_reducible exact cst1 | with_reducible exact cst0 | with_reducible exact cst2 | with_reducible exact cst3 | with_reducible exact cst4 | with_reducible exact cst5 | with_reducible exact cst6 | with_reducible exact cst7 | with_reducible exact cst8 | with_reducible exact cst14 | with_reducible exact cst15 | with_reducible exact cst25 | with_reducible exact cst30 | with_reducible exact cst31 | fail) ?_ ?_; · (repeat' (first | omega | refine And.intro ?_ ?_ | exact bnd_andl (by omega) | exact bnd_andr (by omega) | refine bnd_or ?_ ?_ | refine bnd_or31 ?_ ?_ | refine bnd_xor ?_ ?_ | refine bnd_xor31 ?_ ?_ | refine bnd_shr ?_ | refine bnd_shl ?_ ?_ | refine bnd_mod ?_ | refine bnd_andl ?_ | fail))) | fail) | (refine SideN.mk ?_ ?_; · first | kernel_rfl | omega | exact List.cons_ne_nil _ _ | (simp; done) | (simp; omega) | exact trivial | assumption | fail) | (refine CallN.id ?_; first | refine CallN.det _ (VDet.wk (xN1 _) ⟨wk_nils, Wk.refl _, Wk.refl _, trivial⟩) ?_ | refine CallN.det _ (VDet.wk (xN2 _) ⟨wk_nils, Wk.refl _, Wk.refl _, trivial⟩) ?_ | refine CallN.det _ (e15 _ (H.length + 5) s (by (repeat' (first | assumption | exact at_loc' _ rfl | exact at_loc0 rfl | refine at_set (B' := ?_) ?_ | refine at_base' ?_ | fail)))) ?_ | refine CallN.det _ (hV _) ?_ | refine CallN.det _ (hR _) ?_ | fail) | (refine CallD.id ?_; first | refine CallD.det _ (fun _ hq X => atom_c 83 _) ?_ | refine CallD.det _ (fun _ hq X => VDet.wk (js _) ⟨Wk.refl _, wk_sx _ _, trivial⟩) ?_ | refine CallD.det _ (fun _ hq X => xS _) ?_ | fail) | refine SegN.mk _ (seg_rfl rfl) ?_ | refine DrawN.mk' [] ?_ | fail))); all_goals (conv => whnf)
  all_goals exact EndN.det trivial (Wk.refl _)
theorem wrong_5 (sz lp x y z : Nat) (code : List Nat) (way : Nat) (nn : Int) (hw : way % 8 = 5) (hs : sz ≤ 255) (hl : lp ≤ 255) (hx : x ≤ 255) (hy : y ≤ 255) (hz : z ≤ 255) (hcd : code.length ≤ 9223372036854775807) (hcb : ∀ i, i < code.length → code.getD i 0 ≤ 255) (hnn : -9223372036854775808 ≤ nn ∧ nn ≤ 9223372036854775807) (H : Heap) :
    VDet Tryd.prog 8 [.int .u8 sz, .int .u8 lp, .agg [.int .u8 x, .int .u8 y, .int .u8 z], .sl none code.length (code.flatMap encB), .int .u8 way, .int .i64 nn] H (.bool true) := by
  have hmd := fun H => Made_c sz lp x y z hs hl hx hy hz H
  have hbu := fun H => built_c code hcd hcb H
  obtain ⟨hg, hnd⟩ := blt_ok code
  generalize bltF code = f at hbu hg hnd
  obtain ⟨n, l, a, b, c, he, h1, h5, hln, ha, hb, hc⟩ := made_ex sz lp x y z
  rw [he] at hmd
  have hm := ok3 n l a b c h1 h5 hln ha hb hc
  have hbad : Bad (.agg (mdB (5) (n) (l) 80 (0) a b (c)).cells) := bad_B (by decide) (by
    have hr : rowsOK (n : Int) (mdB (5) (n) (l) 80 (0) a b (c)).fs = false := rows5 n l a b c
    unfold validB
    rw [show (mdB (5) (n) (l) 80 (0) a b (c)).n = (n : Int) from rfl, hr]
    simp)
  have e14 := lendAB (fun H => atE _ hbad f H) rfl
  have e28 := lendAB (fun H => holdsE _ hbad f H) rfl
  have e17 := lendAB (fun H => posE _ hbad 0 H) rfl
  have e27 := lendAB (fun H => sufE _ hbad 0 H) rfl
  have e13 := lendAB (fun H => sameE _ (.agg (Tr.cells ⟨n, l, [(80, a), (81, b), (82, c)]⟩)) hbad ⟨_, rfl⟩ H) rfl
  have e13' := lendBA (fun H => sameE2 _ hm _ hbad H) rfl
  have e12 := lendA (fun H => shortE _ hbad H) rfl
  have e29 := lendA (fun H => numE _ hbad H) rfl
  have e15 : ∀ (H : Heap) (i s : Nat) (_ : H[i]? = some (.box 49 (celB 80 (0) a b (c) ++ List.replicate s .junk))), VDet Tryd.prog 15 [agB (5) (n) (l) i] H (.bool false) := lendA (F := 15) (v := .bool false) (fun H => by
    obtain ⟨t, e, h⟩ := hbad
    rw [e]; exact h H) rfl
  have xBox := fun H => atBox _ hm f hg.ok (Fm.small_of (by simp only [Fm.nodes]; omega)) H
  have xArg := fun H => atX_c _ hm f hg.ok hg.temp hnd H
  have xPos := fun H => posN_c _ hm (min nn (-1)) (by omega) H
  have xSuf := fun H => sufN_c _ hm (min nn (-1)) (by omega) H
  have xNth := fun H => nthBig (max nn 6) (by omega) H
  have xS := fun H => At_c _ hm (.f1 12 (.at 83)) ⟨by simp [is1], (⟨by decide, by decide⟩ : cap 83)⟩ ⟨by simp, trivial⟩ (by decide) H
  rw [miss_S] at xS
  simp only [if_true] at xS
  have xN1 := fun H => Nth_none [] nm0_ok 3 (max nn 3) (by decide) (by decide) (by decide) (.inr (by show ((cntN 0 3 : Nat) : Int) ≤ max nn 3; rw [show cntN 0 3 = 3 by decide]; omega)) H
  have xN2 := fun H => Nth_none [] nm0_ok 3 (min nn (-1)) (by decide) (by decide) (by decide) (.inl (by omega)) H
  have hV := fun H => valid_t hm H
  have hR := fun H => right_c f hg.ok hg.temp (Fm.small_of (by omega)) H
  have hcopy := fun H i hi => copyModel_c n l a b c H i hi
  have he32 := every_lt h5
  have h4 : 1 ≤ 1 <<< n := by rw [Nat.shiftLeft_eq]; have := Nat.two_pow_pos n; omega
  have h6 : 1 <<< n < 64 := by unfold every at he32; omega
  have jb1 := fun H => join1_c 10 f H
  have jx := fun H => joinX_c f H
  have js := fun H => join1_c 12 (.at 83) H
  unfold Tr.cells at hmd e13 e13' xBox xArg xPos xSuf xS hV hcopy
  unfold Fm.cells at hbu e14 e28 hR jx
  unfold agB at e14 e28 e17 e27 e13 e13' e12 e29 e15
  unfold zmod at e27 e12 xSuf xNth
  simp only at hmd e13 e13' xBox xArg xPos xSuf xS hV hcopy hbu e14 e28
  refine fn_det Tryd.E0 Tryd.mx Tryd.func8 (by kernel_rfl) rfl (Nat.le_of_ble_eq_true rfl) rfl fun hcl hbl => ?_
  (repeat' ((conv => whnf); (first | (refine IfN.id ?_; first | refine IfN.not ?_ | refine IfN.tt rfl ?_ | refine IfN.ff rfl ?_ | fail) | (refine EqN.id ?_; first | refine EqN.remC 5 rfl rfl hw ?_ | fail) | (refine SideN.mk ?_ ?_; · first | kernel_rfl | omega | exact List.cons_ne_nil _ _ | (simp; done) | (simp; omega) | exact trivial | assumption | fail) | (refine CallN.id ?_; first | refine CallN.det _ (awake_c _) ?_ | refine CallN.det _ (hmd _) ?_ | refine CallN.det _ (hbu _) ?_ | fail) | refine CallN.more (fun _ => .agg (cpy n l (H.length + 5))) (fun s => [.box 30 (cpy n l (H.length + 5)), .box 30 (cpy n l (H.length + 5)), .box 49 (cel3 a b c ++ List.replicate s AV.junk)]) (hcopy _ (H.length + 5) (by simp)) rfl _ (fun _ => rfl) 6 (fun _ => rfl) fun s => ?_ | (refine PtrN.id ?_; first | refine PtrN.loc _ rfl ?_ | fail) | refine OfsN.at_ (by omega) ?_ | refine DrawN.mk' [] ?_ | fail))); all_goals (conv => whnf)
  (repeat' ((conv => whnf); (first | (refine SideN.mk ?_ ?_; · first | kernel_rfl | omega | exact List.cons_ne_nil _ _ | (simp; done) | (simp; omega) | exact trivial | assumption | fail) | (refine CallN.id ?_; first | refine CallN.det _ (e14 _ (H.length + 5) s (by (repeat' (first | assumption | exact at_loc' _ rfl | exact at_loc0 rfl | refine at_set (B' := ?_) ?_ | refine at_base' ?_ | fail)))) ?_ | refine CallN.det _ (e28 _ (H.length + 5) s (by (repeat' (first | assumption | exact at_loc' _ rfl | exact at_loc0 rfl | refine at_set (B' := ?_) ?_ | refine at_base' ?_ | fail)))) ?_ | refine CallN.det _ (e17 _ (H.length + 5) s (by (repeat' (first | assumption | exact at_loc' _ rfl | exact at_loc0 rfl | refine at_set (B' := ?_) ?_ | refine at_base' ?_ | fail)))) ?_ | refine CallN.det _ (e27 _ (H.length + 5) s (by (repeat' (first | assumption | exact at_loc' _ rfl | exact at_loc0 rfl | refine at_set (B' := ?_) ?_ | refine at_base' ?_ | fail)))) ?_ | refine CallN.det _ (e13 _ (H.length + 5) s (by (repeat' (first | assumption | exact at_loc' _ rfl | exact at_loc0 rfl | refine at_set (B' := ?_) ?_ | refine at_base' ?_ | fail)))) ?_ | refine CallN.det _ (e13' _ (H.length + 5) s (by (repeat' (first | assumption | exact at_loc' _ rfl | exact at_loc0 rfl | refine at_set (B' := ?_) ?_ | refine at_base' ?_ | fail)))) ?_ | refine CallN.det _ (e12 _ (H.length + 5) s (by (repeat' (first | assumption | exact at_loc' _ rfl | exact at_loc0 rfl | refine at_set (B' := ?_) ?_ | refine at_base' ?_ | fail)))) ?_ | refine CallN.det _ (e29 _ (H.length + 5) s (by (repeat' (first | assumption | exact at_loc' _ rfl | exact at_loc0 rfl | refine at_set (B' := ?_) ?_ | refine at_base' ?_ | fail)))) ?_ | refine CallN.det _ (xPos _) ?_ | refine CallN.det _ (xSuf _) ?_ | refine CallN.det _ (VDet.wk (countQP _) ⟨wk_sx _ _, Wk.refl _, trivial⟩) ?_ | refine CallN.det _ (xNth _) ?_ | fail) | (refine CallD.id ?_; first | refine CallD.det _ (fun _ hq X => VDet.wk (jb1 _) ⟨Wk.refl _, wk_sx _ _, trivial⟩) ?_ | refine CallD.det _ (fun _ hq X => xBox _) ?_ | refine CallD.det _ (fun _ hq X => jx _) ?_ | refine CallD.det _ (fun _ hq X => xArg _) ?_ | fail) | refine DrawN.mk' [] ?_ | fail))); all_goals (conv => whnf)
  refine LoopN.rounds Tryd.E0 Tryd.mx 15 rfl ?_
  (repeat' ((conv => whnf); (first | (refine IfN.id ?_; first | refine IfN.not ?_ | refine IfN.tt rfl ?_ | refine IfN.ff rfl ?_ | fail) | (refine EqN.id ?_; first | (refine EqN.addN _ _ (by first | with_reducible rfl | with_reducible exact cst1 | with_reducible exact cst0 | with_reducible exact cst2 | with_reducible exact cst3 | with_reducible exact cst4 | with_reducible exact cst5 | with_reducible exact cst6 | with_reducible exact cst7 | with_reducible exact cst8 | with_reducible exact cst14 | with_reducible exact cst15 | with_reducible exact cst25 | with_reducible exact cst30 | with_reducible exact cst31 | fail) (by first | with_reducible rfl | with_reducible exact cst1 | with_reducible exact cst0 | with_reducible exact cst2 | with_reducible exact cst3 | with_reducible exact cst4 | with_reducible exact cst5 | with_reducible exact cst6 | with_reducible exact cst7 | with_reducible exact cst8 | with_reducible exact cst14 | with_reducible exact cst15 | with_reducible exact cst25 | with_reducible exact cst30 | with_reducible exact cst31 | fail) ?_ ?_; · (repeat' (first | omega | refine And.intro ?_ ?_ | exact bnd_andl (by omega) | exact bnd_andr (by omega) | refine bnd_or ?_ ?_ | refine bnd_or31 ?_ ?_ | refine bnd_xor ?_ ?_ | refine bnd_xor31 ?_ ?_ | refine bnd_shr ?_ | refine bnd_shl ?_ ?_ | refine bnd_mod ?_ | refine bnd_andl ?_ | fail))) | fail) | (refine SideN.mk ?_ ?_; · first | kernel_rfl | omega | exact List.cons_ne_nil _ _ | (simp; done) | (simp; omega) | exact trivial | assumption | fail) | (refine CallN.id ?_; first | refine CallN.det _ (VDet.wk (xN1 _) ⟨wk_nils, Wk.refl _, Wk.refl _, trivial⟩) ?_ | refine CallN.det _ (VDet.wk (xN2 _) ⟨wk_nils, Wk.refl _, Wk.refl _, trivial⟩) ?_ | refine CallN.det _ (e15 _ (H.length + 5) s (by (repeat' (first | assumption | exact at_loc' _ rfl | exact at_loc0 rfl | refine at_set (B' := ?_) ?_ | refine at_base' ?_ | fail)))) ?_ | refine CallN.det _ (hV _) ?_ | refine CallN.det _ (hR _) ?_ | fail) | (refine CallD.id ?_; first | refine CallD.det _ (fun _ hq X => atom_c 83 _) ?_ | refine CallD.det _ (fun _ hq X => VDet.wk (js _) ⟨Wk.refl _, wk_sx _ _, trivial⟩) ?_ | refine CallD.det _ (fun _ hq X => xS _) ?_ | fail) | refine SegN.mk _ (seg_rfl rfl) ?_ | refine DrawN.mk' [] ?_ | fail))); all_goals (conv => whnf)
  all_goals exact EndN.det trivial (Wk.refl _)
theorem wrong_6 (sz lp x y z : Nat) (code : List Nat) (way : Nat) (nn : Int) (hw : way % 8 = 6) (hs : sz ≤ 255) (hl : lp ≤ 255) (hx : x ≤ 255) (hy : y ≤ 255) (hz : z ≤ 255) (hcd : code.length ≤ 9223372036854775807) (hcb : ∀ i, i < code.length → code.getD i 0 ≤ 255) (hnn : -9223372036854775808 ≤ nn ∧ nn ≤ 9223372036854775807) (H : Heap) :
    VDet Tryd.prog 8 [.int .u8 sz, .int .u8 lp, .agg [.int .u8 x, .int .u8 y, .int .u8 z], .sl none code.length (code.flatMap encB), .int .u8 way, .int .i64 nn] H (.bool true) := by
  have hmd := fun H => Made_c sz lp x y z hs hl hx hy hz H
  have hbu := fun H => built_c code hcd hcb H
  obtain ⟨hg, hnd⟩ := blt_ok code
  generalize bltF code = f at hbu hg hnd
  obtain ⟨n, l, a, b, c, he, h1, h5, hln, ha, hb, hc⟩ := made_ex sz lp x y z
  rw [he] at hmd
  have hm := ok3 n l a b c h1 h5 hln ha hb hc
  have hbad : Bad (.agg (mdB (5) (n) (l) 81 (max nn 1) a b (c)).cells) := bad_B (by decide) (by
    have hr : rowsOK (n : Int) (mdB (5) (n) (l) 81 (max nn 1) a b (c)).fs = false := rows6 n l _ a b c (by omega)
    unfold validB
    rw [show (mdB (5) (n) (l) 81 (max nn 1) a b (c)).n = (n : Int) from rfl, hr]
    simp)
  have e14 := lendAB (fun H => atE _ hbad f H) rfl
  have e28 := lendAB (fun H => holdsE _ hbad f H) rfl
  have e17 := lendAB (fun H => posE _ hbad 0 H) rfl
  have e27 := lendAB (fun H => sufE _ hbad 0 H) rfl
  have e13 := lendAB (fun H => sameE _ (.agg (Tr.cells ⟨n, l, [(80, a), (81, b), (82, c)]⟩)) hbad ⟨_, rfl⟩ H) rfl
  have e13' := lendBA (fun H => sameE2 _ hm _ hbad H) rfl
  have e12 := lendA (fun H => shortE _ hbad H) rfl
  have e29 := lendA (fun H => numE _ hbad H) rfl
  have e15 : ∀ (H : Heap) (i s : Nat) (_ : H[i]? = some (.box 49 (celB 81 (max nn 1) a b (c) ++ List.replicate s .junk))), VDet Tryd.prog 15 [agB (5) (n) (l) i] H (.bool false) := lendA (F := 15) (v := .bool false) (fun H => by
    obtain ⟨t, e, h⟩ := hbad
    rw [e]; exact h H) rfl
  have xBox := fun H => atBox _ hm f hg.ok (Fm.small_of (by simp only [Fm.nodes]; omega)) H
  have xArg := fun H => atX_c _ hm f hg.ok hg.temp hnd H
  have xPos := fun H => posN_c _ hm (min nn (-1)) (by omega) H
  have xSuf := fun H => sufN_c _ hm (min nn (-1)) (by omega) H
  have xNth := fun H => nthBig (max nn 6) (by omega) H
  have xS := fun H => At_c _ hm (.f1 12 (.at 83)) ⟨by simp [is1], (⟨by decide, by decide⟩ : cap 83)⟩ ⟨by simp, trivial⟩ (by decide) H
  rw [miss_S] at xS
  simp only [if_true] at xS
  have xN1 := fun H => Nth_none [] nm0_ok 3 (max nn 3) (by decide) (by decide) (by decide) (.inr (by show ((cntN 0 3 : Nat) : Int) ≤ max nn 3; rw [show cntN 0 3 = 3 by decide]; omega)) H
  have xN2 := fun H => Nth_none [] nm0_ok 3 (min nn (-1)) (by decide) (by decide) (by decide) (.inl (by omega)) H
  have hV := fun H => valid_t hm H
  have hR := fun H => right_c f hg.ok hg.temp (Fm.small_of (by omega)) H
  have hcopy := fun H i hi => copyModel_c n l a b c H i hi
  have he32 := every_lt h5
  have h4 : 1 ≤ 1 <<< n := by rw [Nat.shiftLeft_eq]; have := Nat.two_pow_pos n; omega
  have h6 : 1 <<< n < 64 := by unfold every at he32; omega
  have jb1 := fun H => join1_c 10 f H
  have jx := fun H => joinX_c f H
  have js := fun H => join1_c 12 (.at 83) H
  unfold Tr.cells at hmd e13 e13' xBox xArg xPos xSuf xS hV hcopy
  unfold Fm.cells at hbu e14 e28 hR jx
  unfold agB at e14 e28 e17 e27 e13 e13' e12 e29 e15
  unfold zmod at e27 e12 xSuf xNth
  simp only at hmd e13 e13' xBox xArg xPos xSuf xS hV hcopy hbu e14 e28
  refine fn_det Tryd.E0 Tryd.mx Tryd.func8 (by kernel_rfl) rfl (Nat.le_of_ble_eq_true rfl) rfl fun hcl hbl => ?_
  (repeat' ((conv => whnf); (first | (refine IfN.id ?_; first | refine IfN.not ?_ | refine IfN.tt rfl ?_ | refine IfN.ff rfl ?_ | fail) | (refine EqN.id ?_; first | refine EqN.remC 6 rfl rfl hw ?_ | fail) | (refine SideN.mk ?_ ?_; · first | kernel_rfl | omega | exact List.cons_ne_nil _ _ | (simp; done) | (simp; omega) | exact trivial | assumption | fail) | (refine CallN.id ?_; first | refine CallN.det _ (awake_c _) ?_ | refine CallN.det _ (hmd _) ?_ | refine CallN.det _ (hbu _) ?_ | fail) | refine CallN.more (fun _ => .agg (cpy n l (H.length + 5))) (fun s => [.box 30 (cpy n l (H.length + 5)), .box 30 (cpy n l (H.length + 5)), .box 49 (cel3 a b c ++ List.replicate s AV.junk)]) (hcopy _ (H.length + 5) (by simp)) rfl _ (fun _ => rfl) 6 (fun _ => rfl) fun s => ?_ | (refine PtrN.id ?_; first | refine PtrN.loc _ rfl ?_ | fail) | refine OfsN.at_ (by omega) ?_ | refine DrawN.mk' [] ?_ | fail))); all_goals (conv => whnf)
  (repeat' ((conv => whnf); (first | (refine SideN.mk ?_ ?_; · first | kernel_rfl | omega | exact List.cons_ne_nil _ _ | (simp; done) | (simp; omega) | exact trivial | assumption | fail) | (refine CallN.id ?_; first | refine CallN.det _ (e14 _ (H.length + 5) s (by (repeat' (first | assumption | exact at_loc' _ rfl | exact at_loc0 rfl | refine at_set (B' := ?_) ?_ | refine at_base' ?_ | fail)))) ?_ | refine CallN.det _ (e28 _ (H.length + 5) s (by (repeat' (first | assumption | exact at_loc' _ rfl | exact at_loc0 rfl | refine at_set (B' := ?_) ?_ | refine at_base' ?_ | fail)))) ?_ | refine CallN.det _ (e17 _ (H.length + 5) s (by (repeat' (first | assumption | exact at_loc' _ rfl | exact at_loc0 rfl | refine at_set (B' := ?_) ?_ | refine at_base' ?_ | fail)))) ?_ | refine CallN.det _ (e27 _ (H.length + 5) s (by (repeat' (first | assumption | exact at_loc' _ rfl | exact at_loc0 rfl | refine at_set (B' := ?_) ?_ | refine at_base' ?_ | fail)))) ?_ | refine CallN.det _ (e13 _ (H.length + 5) s (by (repeat' (first | assumption | exact at_loc' _ rfl | exact at_loc0 rfl | refine at_set (B' := ?_) ?_ | refine at_base' ?_ | fail)))) ?_ | refine CallN.det _ (e13' _ (H.length + 5) s (by (repeat' (first | assumption | exact at_loc' _ rfl | exact at_loc0 rfl | refine at_set (B' := ?_) ?_ | refine at_base' ?_ | fail)))) ?_ | refine CallN.det _ (e12 _ (H.length + 5) s (by (repeat' (first | assumption | exact at_loc' _ rfl | exact at_loc0 rfl | refine at_set (B' := ?_) ?_ | refine at_base' ?_ | fail)))) ?_ | refine CallN.det _ (e29 _ (H.length + 5) s (by (repeat' (first | assumption | exact at_loc' _ rfl | exact at_loc0 rfl | refine at_set (B' := ?_) ?_ | refine at_base' ?_ | fail)))) ?_ | refine CallN.det _ (xPos _) ?_ | refine CallN.det _ (xSuf _) ?_ | refine CallN.det _ (VDet.wk (countQP _) ⟨wk_sx _ _, Wk.refl _, trivial⟩) ?_ | refine CallN.det _ (xNth _) ?_ | fail) | (refine CallD.id ?_; first | refine CallD.det _ (fun _ hq X => VDet.wk (jb1 _) ⟨Wk.refl _, wk_sx _ _, trivial⟩) ?_ | refine CallD.det _ (fun _ hq X => xBox _) ?_ | refine CallD.det _ (fun _ hq X => jx _) ?_ | refine CallD.det _ (fun _ hq X => xArg _) ?_ | fail) | refine DrawN.mk' [] ?_ | fail))); all_goals (conv => whnf)
  refine LoopN.rounds Tryd.E0 Tryd.mx 15 rfl ?_
  (repeat' ((conv => whnf); (first | (refine IfN.id ?_; first | refine IfN.not ?_ | refine IfN.tt rfl ?_ | refine IfN.ff rfl ?_ | fail) | (refine EqN.id ?_; first | (refine EqN.addN _ _ (by first | with_reducible rfl | with_reducible exact cst1 | with_reducible exact cst0 | with_reducible exact cst2 | with_reducible exact cst3 | with_reducible exact cst4 | with_reducible exact cst5 | with_reducible exact cst6 | with_reducible exact cst7 | with_reducible exact cst8 | with_reducible exact cst14 | with_reducible exact cst15 | with_reducible exact cst25 | with_reducible exact cst30 | with_reducible exact cst31 | fail) (by first | with_reducible rfl | with_reducible exact cst1 | with_reducible exact cst0 | with_reducible exact cst2 | with_reducible exact cst3 | with_reducible exact cst4 | with_reducible exact cst5 | with_reducible exact cst6 | with_reducible exact cst7 | with_reducible exact cst8 | with_reducible exact cst14 | with_reducible exact cst15 | with_reducible exact cst25 | with_reducible exact cst30 | with_reducible exact cst31 | fail) ?_ ?_; · (repeat' (first | omega | refine And.intro ?_ ?_ | exact bnd_andl (by omega) | exact bnd_andr (by omega) | refine bnd_or ?_ ?_ | refine bnd_or31 ?_ ?_ | refine bnd_xor ?_ ?_ | refine bnd_xor31 ?_ ?_ | refine bnd_shr ?_ | refine bnd_shl ?_ ?_ | refine bnd_mod ?_ | refine bnd_andl ?_ | fail))) | fail) | (refine SideN.mk ?_ ?_; · first | kernel_rfl | omega | exact List.cons_ne_nil _ _ | (simp; done) | (simp; omega) | exact trivial | assumption | fail) | (refine CallN.id ?_; first | refine CallN.det _ (VDet.wk (xN1 _) ⟨wk_nils, Wk.refl _, Wk.refl _, trivial⟩) ?_ | refine CallN.det _ (VDet.wk (xN2 _) ⟨wk_nils, Wk.refl _, Wk.refl _, trivial⟩) ?_ | refine CallN.det _ (e15 _ (H.length + 5) s (by (repeat' (first | assumption | exact at_loc' _ rfl | exact at_loc0 rfl | refine at_set (B' := ?_) ?_ | refine at_base' ?_ | fail)))) ?_ | refine CallN.det _ (hV _) ?_ | refine CallN.det _ (hR _) ?_ | fail) | (refine CallD.id ?_; first | refine CallD.det _ (fun _ hq X => atom_c 83 _) ?_ | refine CallD.det _ (fun _ hq X => VDet.wk (js _) ⟨Wk.refl _, wk_sx _ _, trivial⟩) ?_ | refine CallD.det _ (fun _ hq X => xS _) ?_ | fail) | refine SegN.mk _ (seg_rfl rfl) ?_ | refine DrawN.mk' [] ?_ | fail))); all_goals (conv => whnf)
  all_goals exact EndN.det trivial (Wk.refl _)
theorem wrong_7 (sz lp x y z : Nat) (code : List Nat) (way : Nat) (nn : Int) (hw : way % 8 = 7) (hs : sz ≤ 255) (hl : lp ≤ 255) (hx : x ≤ 255) (hy : y ≤ 255) (hz : z ≤ 255) (hcd : code.length ≤ 9223372036854775807) (hcb : ∀ i, i < code.length → code.getD i 0 ≤ 255) (hnn : -9223372036854775808 ≤ nn ∧ nn ≤ 9223372036854775807) (H : Heap) :
    VDet Tryd.prog 8 [.int .u8 sz, .int .u8 lp, .agg [.int .u8 x, .int .u8 y, .int .u8 z], .sl none code.length (code.flatMap encB), .int .u8 way, .int .i64 nn] H (.bool true) := by
  have hmd := fun H => Made_c sz lp x y z hs hl hx hy hz H
  have hbu := fun H => built_c code hcd hcb H
  obtain ⟨hg, hnd⟩ := blt_ok code
  generalize bltF code = f at hbu hg hnd
  obtain ⟨n, l, a, b, c, he, h1, h5, hln, ha, hb, hc⟩ := made_ex sz lp x y z
  rw [he] at hmd
  have hm := ok3 n l a b c h1 h5 hln ha hb hc
  have hbad : Bad (.agg (mdB (3) (n) (l) 81 (0) a b (c)).cells) := bad_B (by decide) (by
    simp only [validB, mdB, Bool.and_eq_false_iff]
    first | exact .inl (decide_eq_false (by omega)) | exact .inr (.inl (decide_eq_false (by omega))) | exact .inr (.inr (.inl (decide_eq_false (by omega)))) | exact .inr (.inr (.inr (.inl (decide_eq_false (by omega))))) | exact .inr (.inr (.inr (.inr (.inl (decide_eq_false (by omega)))))) | fail)
  have e14 := lendAB (fun H => atE _ hbad f H) rfl
  have e28 := lendAB (fun H => holdsE _ hbad f H) rfl
  have e17 := lendAB (fun H => posE _ hbad 0 H) rfl
  have e27 := lendAB (fun H => sufE _ hbad 0 H) rfl
  have e13 := lendAB (fun H => sameE _ (.agg (Tr.cells ⟨n, l, [(80, a), (81, b), (82, c)]⟩)) hbad ⟨_, rfl⟩ H) rfl
  have e13' := lendBA (fun H => sameE2 _ hm _ hbad H) rfl
  have e12 := lendA (fun H => shortE _ hbad H) rfl
  have e29 := lendA (fun H => numE _ hbad H) rfl
  have e15 : ∀ (H : Heap) (i s : Nat) (_ : H[i]? = some (.box 49 (celB 81 (0) a b (c) ++ List.replicate s .junk))), VDet Tryd.prog 15 [agB (3) (n) (l) i] H (.bool false) := lendA (F := 15) (v := .bool false) (fun H => by
    obtain ⟨t, e, h⟩ := hbad
    rw [e]; exact h H) rfl
  have xBox := fun H => atBox _ hm f hg.ok (Fm.small_of (by simp only [Fm.nodes]; omega)) H
  have xArg := fun H => atX_c _ hm f hg.ok hg.temp hnd H
  have xPos := fun H => posN_c _ hm (min nn (-1)) (by omega) H
  have xSuf := fun H => sufN_c _ hm (min nn (-1)) (by omega) H
  have xNth := fun H => nthBig (max nn 6) (by omega) H
  have xS := fun H => At_c _ hm (.f1 12 (.at 83)) ⟨by simp [is1], (⟨by decide, by decide⟩ : cap 83)⟩ ⟨by simp, trivial⟩ (by decide) H
  rw [miss_S] at xS
  simp only [if_true] at xS
  have xN1 := fun H => Nth_none [] nm0_ok 3 (max nn 3) (by decide) (by decide) (by decide) (.inr (by show ((cntN 0 3 : Nat) : Int) ≤ max nn 3; rw [show cntN 0 3 = 3 by decide]; omega)) H
  have xN2 := fun H => Nth_none [] nm0_ok 3 (min nn (-1)) (by decide) (by decide) (by decide) (.inl (by omega)) H
  have hV := fun H => valid_t hm H
  have hR := fun H => right_c f hg.ok hg.temp (Fm.small_of (by omega)) H
  have hcopy := fun H i hi => copyModel_c n l a b c H i hi
  have he32 := every_lt h5
  have h4 : 1 ≤ 1 <<< n := by rw [Nat.shiftLeft_eq]; have := Nat.two_pow_pos n; omega
  have h6 : 1 <<< n < 64 := by unfold every at he32; omega
  have jb1 := fun H => join1_c 10 f H
  have jx := fun H => joinX_c f H
  have js := fun H => join1_c 12 (.at 83) H
  unfold Tr.cells at hmd e13 e13' xBox xArg xPos xSuf xS hV hcopy
  unfold Fm.cells at hbu e14 e28 hR jx
  unfold agB at e14 e28 e17 e27 e13 e13' e12 e29 e15
  unfold zmod at e27 e12 xSuf xNth
  simp only at hmd e13 e13' xBox xArg xPos xSuf xS hV hcopy hbu e14 e28
  refine fn_det Tryd.E0 Tryd.mx Tryd.func8 (by kernel_rfl) rfl (Nat.le_of_ble_eq_true rfl) rfl fun hcl hbl => ?_
  (repeat' ((conv => whnf); (first | (refine IfN.id ?_; first | refine IfN.not ?_ | refine IfN.tt rfl ?_ | refine IfN.ff rfl ?_ | fail) | (refine EqN.id ?_; first | refine EqN.remC 7 rfl rfl hw ?_ | fail) | (refine SideN.mk ?_ ?_; · first | kernel_rfl | omega | exact List.cons_ne_nil _ _ | (simp; done) | (simp; omega) | exact trivial | assumption | fail) | (refine CallN.id ?_; first | refine CallN.det _ (awake_c _) ?_ | refine CallN.det _ (hmd _) ?_ | refine CallN.det _ (hbu _) ?_ | fail) | refine CallN.more (fun _ => .agg (cpy n l (H.length + 5))) (fun s => [.box 30 (cpy n l (H.length + 5)), .box 30 (cpy n l (H.length + 5)), .box 49 (cel3 a b c ++ List.replicate s AV.junk)]) (hcopy _ (H.length + 5) (by simp)) rfl _ (fun _ => rfl) 6 (fun _ => rfl) fun s => ?_ | refine DrawN.mk' [] ?_ | fail))); all_goals (conv => whnf)
  (repeat' ((conv => whnf); (first | (refine SideN.mk ?_ ?_; · first | kernel_rfl | omega | exact List.cons_ne_nil _ _ | (simp; done) | (simp; omega) | exact trivial | assumption | fail) | (refine CallN.id ?_; first | refine CallN.det _ (e14 _ (H.length + 5) s (by (repeat' (first | assumption | exact at_loc' _ rfl | exact at_loc0 rfl | refine at_set (B' := ?_) ?_ | refine at_base' ?_ | fail)))) ?_ | refine CallN.det _ (e28 _ (H.length + 5) s (by (repeat' (first | assumption | exact at_loc' _ rfl | exact at_loc0 rfl | refine at_set (B' := ?_) ?_ | refine at_base' ?_ | fail)))) ?_ | refine CallN.det _ (e17 _ (H.length + 5) s (by (repeat' (first | assumption | exact at_loc' _ rfl | exact at_loc0 rfl | refine at_set (B' := ?_) ?_ | refine at_base' ?_ | fail)))) ?_ | refine CallN.det _ (e27 _ (H.length + 5) s (by (repeat' (first | assumption | exact at_loc' _ rfl | exact at_loc0 rfl | refine at_set (B' := ?_) ?_ | refine at_base' ?_ | fail)))) ?_ | refine CallN.det _ (e13 _ (H.length + 5) s (by (repeat' (first | assumption | exact at_loc' _ rfl | exact at_loc0 rfl | refine at_set (B' := ?_) ?_ | refine at_base' ?_ | fail)))) ?_ | refine CallN.det _ (e13' _ (H.length + 5) s (by (repeat' (first | assumption | exact at_loc' _ rfl | exact at_loc0 rfl | refine at_set (B' := ?_) ?_ | refine at_base' ?_ | fail)))) ?_ | refine CallN.det _ (e12 _ (H.length + 5) s (by (repeat' (first | assumption | exact at_loc' _ rfl | exact at_loc0 rfl | refine at_set (B' := ?_) ?_ | refine at_base' ?_ | fail)))) ?_ | refine CallN.det _ (e29 _ (H.length + 5) s (by (repeat' (first | assumption | exact at_loc' _ rfl | exact at_loc0 rfl | refine at_set (B' := ?_) ?_ | refine at_base' ?_ | fail)))) ?_ | refine CallN.det _ (xPos _) ?_ | refine CallN.det _ (xSuf _) ?_ | refine CallN.det _ (VDet.wk (countQP _) ⟨wk_sx _ _, Wk.refl _, trivial⟩) ?_ | refine CallN.det _ (xNth _) ?_ | fail) | (refine CallD.id ?_; first | refine CallD.det _ (fun _ hq X => VDet.wk (jb1 _) ⟨Wk.refl _, wk_sx _ _, trivial⟩) ?_ | refine CallD.det _ (fun _ hq X => xBox _) ?_ | refine CallD.det _ (fun _ hq X => jx _) ?_ | refine CallD.det _ (fun _ hq X => xArg _) ?_ | fail) | refine DrawN.mk' [] ?_ | fail))); all_goals (conv => whnf)
  refine LoopN.rounds Tryd.E0 Tryd.mx 15 rfl ?_
  (repeat' ((conv => whnf); (first | (refine IfN.id ?_; first | refine IfN.not ?_ | refine IfN.tt rfl ?_ | refine IfN.ff rfl ?_ | fail) | (refine EqN.id ?_; first | (refine EqN.addN _ _ (by first | with_reducible rfl | with_reducible exact cst1 | with_reducible exact cst0 | with_reducible exact cst2 | with_reducible exact cst3 | with_reducible exact cst4 | with_reducible exact cst5 | with_reducible exact cst6 | with_reducible exact cst7 | with_reducible exact cst8 | with_reducible exact cst14 | with_reducible exact cst15 | with_reducible exact cst25 | with_reducible exact cst30 | with_reducible exact cst31 | fail) (by first | with_reducible rfl | with_reducible exact cst1 | with_reducible exact cst0 | with_reducible exact cst2 | with_reducible exact cst3 | with_reducible exact cst4 | with_reducible exact cst5 | with_reducible exact cst6 | with_reducible exact cst7 | with_reducible exact cst8 | with_reducible exact cst14 | with_reducible exact cst15 | with_reducible exact cst25 | with_reducible exact cst30 | with_reducible exact cst31 | fail) ?_ ?_; · (repeat' (first | omega | refine And.intro ?_ ?_ | exact bnd_andl (by omega) | exact bnd_andr (by omega) | refine bnd_or ?_ ?_ | refine bnd_or31 ?_ ?_ | refine bnd_xor ?_ ?_ | refine bnd_xor31 ?_ ?_ | refine bnd_shr ?_ | refine bnd_shl ?_ ?_ | refine bnd_mod ?_ | refine bnd_andl ?_ | fail))) | fail) | (refine SideN.mk ?_ ?_; · first | kernel_rfl | omega | exact List.cons_ne_nil _ _ | (simp; done) | (simp; omega) | exact trivial | assumption | fail) | (refine CallN.id ?_; first | refine CallN.det _ (VDet.wk (xN1 _) ⟨wk_nils, Wk.refl _, Wk.refl _, trivial⟩) ?_ | refine CallN.det _ (VDet.wk (xN2 _) ⟨wk_nils, Wk.refl _, Wk.refl _, trivial⟩) ?_ | refine CallN.det _ (e15 _ (H.length + 5) s (by (repeat' (first | assumption | exact at_loc' _ rfl | exact at_loc0 rfl | refine at_set (B' := ?_) ?_ | refine at_base' ?_ | fail)))) ?_ | refine CallN.det _ (hV _) ?_ | refine CallN.det _ (hR _) ?_ | fail) | (refine CallD.id ?_; first | refine CallD.det _ (fun _ hq X => atom_c 83 _) ?_ | refine CallD.det _ (fun _ hq X => VDet.wk (js _) ⟨Wk.refl _, wk_sx _ _, trivial⟩) ?_ | refine CallD.det _ (fun _ hq X => xS _) ?_ | fail) | refine SegN.mk _ (seg_rfl rfl) ?_ | refine DrawN.mk' [] ?_ | fail))); all_goals (conv => whnf)
  all_goals exact EndN.det trivial (Wk.refl _)
theorem wrong_c (sz lp x y z : Nat) (code : List Nat) (way : Nat) (nn : Int) (hs : sz ≤ 255) (hl : lp ≤ 255) (hx : x ≤ 255) (hy : y ≤ 255) (hz : z ≤ 255) (hcd : code.length ≤ 9223372036854775807) (hcb : ∀ i, i < code.length → code.getD i 0 ≤ 255) (hnn : -9223372036854775808 ≤ nn ∧ nn ≤ 9223372036854775807) (H : Heap) :
    VDet Tryd.prog 8 [.int .u8 sz, .int .u8 lp, .agg [.int .u8 x, .int .u8 y, .int .u8 z], .sl none code.length (code.flatMap encB), .int .u8 way, .int .i64 nn] H (.bool true) := by
  have : way % 8 = 0 ∨ way % 8 = 1 ∨ way % 8 = 2 ∨ way % 8 = 3 ∨ way % 8 = 4 ∨ way % 8 = 5 ∨ way % 8 = 6 ∨ way % 8 = 7 := by omega
  rcases this with h | h | h | h | h | h | h | h
  · exact wrong_0 sz lp x y z code way nn h hs hl hx hy hz hcd hcb hnn H
  · exact wrong_1 sz lp x y z code way nn h hs hl hx hy hz hcd hcb hnn H
  · exact wrong_2 sz lp x y z code way nn h hs hl hx hy hz hcd hcb hnn H
  · exact wrong_3 sz lp x y z code way nn h hs hl hx hy hz hcd hcb hnn H
  · exact wrong_4 sz lp x y z code way nn h hs hl hx hy hz hcd hcb hnn H
  · exact wrong_5 sz lp x y z code way nn h hs hl hx hy hz hcd hcb hnn H
  · exact wrong_6 sz lp x y z code way nn h hs hl hx hy hz hcd hcb hnn H
  · exact wrong_7 sz lp x y z code way nn h hs hl hx hy hz hcd hcb hnn H
end Go.Proofs.YtjflngchbeegcaaDoor
