/- A text of the proof: the parts L14, N14, O14. -/
import Derived.Test.YtjflngchbeegcaaDoorK7
set_option linter.unusedSimpArgs false
set_option linter.unusedVariables false
/-! text L14 -/
namespace Go.Proofs.YtjflngchbeegcaaDoor
open Go.Vsi
set_option maxHeartbeats 4000000
attribute [local irreducible] VW VCall VO bits

/-! ### TraceSuffix -/
theorem ev_bit {t : Tr} (ht : t.Ok) (f : Fm) (x : Nat) : (evT t f >>> posN t.n t.lp x) &&& 1 = (tm t.n t.lp (evT t f) x).toNat := bit1 _ _
theorem posN_next {n lp : Nat} (hn : n ≤ 5) (hl : lp < n) (x : Nat) : posN n lp (x + 1) = if posN n lp x + 1 < n then posN n lp x + 1 else lp := by
  rw [← posN_add hn hl]
  have hp := posN_lt (x := x) hl
  generalize posN n lp x = p at hp
  by_cases h : p + 1 < n
  · rw [if_pos h]; exact posN_self h
  · rw [if_neg h]
    have : p + 1 = n := by omega
    rw [this]
    unfold posN
    rw [if_neg (Nat.lt_irrefl n), Nat.mod_self]
    rfl
theorem suffix_c (sz lp x y z : Nat) (code : List Nat) (tt u : Nat) (hs : sz ≤ 255) (hl : lp ≤ 255) (hx : x ≤ 255) (hy : y ≤ 255) (hz : z ≤ 255) (hcd : code.length ≤ 9223372036854775807) (hcb : ∀ i, i < code.length → code.getD i 0 ≤ 255) (ht : tt ≤ 65535) (hu : u ≤ 65535) (H : Heap) :
    VDet Tryd.prog 6 [.int .u8 sz, .int .u8 lp, .agg [.int .u8 x, .int .u8 y, .int .u8 z], .sl none code.length (code.flatMap encB), .int .u16 tt, .int .u16 u] H (.bool true) := by
  have hmd := fun H => Made_c sz lp x y z hs hl hx hy hz H
  have hbu := fun H => built_c code hcd hcb H
  obtain ⟨hg, hnd⟩ := blt_ok code
  generalize bltF code = f at hbu hg hnd
  obtain ⟨n, l, a, b, c, he, h1, h5, hln, ha, hb, hc⟩ := made_ex sz lp x y z
  rw [he] at hmd
  have hm := ok3 n l a b c h1 h5 hln ha hb hc
  have hms := miss_pqr n l a b c f hg.pqr
  have hms2 : miss (sufT ⟨n, l, [(80, a), (81, b), (82, c)]⟩ tt) f = false := (miss_taken _ _ _ f).trans hms
  have hAt := fun H => At_c _ hm f hg.ok hg.temp (by omega) H
  rw [hms] at hAt
  have hP := fun H => Position_c _ hm tt (by omega) H
  have hP2 := fun H => Position_c _ hm (tt + 1) (by omega) H
  have hS1 := fun H => Suffix_c _ hm tt (by omega) H
  have hS3 := fun H => Suffix_c _ hm (tt + u) (by omega) H
  have hso := sufT_ok hm tt
  have hS2 := fun H => Suffix_c _ hso u (by omega) H
  have hH := fun H => Holds_c _ hso f hg.ok hg.temp (by omega) hms2 H
  have hV := fun H => valid_t hso H
  have e1 := suf_suf hm tt u
  rw [e1] at hS2
  have hM := fun H => sameModel_c (sufT ⟨n, l, [(80, a), (81, b), (82, c)]⟩ (tt + u)) (sufT ⟨n, l, [(80, a), (81, b), (82, c)]⟩ (tt + u)) (sufT_ok hm (tt + u)).len (sufT_ok hm (tt + u)).len H
  rw [(eqT_iff _ _).2 rfl] at hM
  have hsem := sufT_sem hm tt f 0
  have hb1 := ev_bit hm f tt
  have hb2 : evT (sufT ⟨n, l, [(80, a), (81, b), (82, c)]⟩ tt) f &&& 1 = (tm (sufT ⟨n, l, [(80, a), (81, b), (82, c)]⟩ tt).n (sufT ⟨n, l, [(80, a), (81, b), (82, c)]⟩ tt).lp (evT (sufT ⟨n, l, [(80, a), (81, b), (82, c)]⟩ tt) f) 0).toNat := by
    have := ev_bit hso f 0
    rwa [posN_self hso.n1, Nat.shiftRight_zero] at this
  rw [Nat.zero_add] at hsem
  rw [hsem] at hb1
  rw [hb2] at hH
  have hpq := posN_add h5 hln tt 1
  have hpl : posN n l tt < n := posN_lt hln
  have hsn : (sufT ⟨n, l, [(80, a), (81, b), (82, c)]⟩ tt).n ≤ n := by rw [sufT_n]; exact sufK_le
  have hlt := evT_lt hm f
  have hlt32 := p2_32 hlt h5
  generalize tm (sufT ⟨n, l, [(80, a), (81, b), (82, c)]⟩ tt).n _ _ 0 = B at hb1 hH
  clear hb2 hsem e1
  generalize sufT ⟨n, l, [(80, a), (81, b), (82, c)]⟩ (tt + u) = S3 at *
  generalize sufT ⟨n, l, [(80, a), (81, b), (82, c)]⟩ tt = S at *
  generalize evT ⟨n, l, [(80, a), (81, b), (82, c)]⟩ f = E at *
  simp only [Bool.false_eq_true, if_false] at hAt
  have hnext := posN_next h5 hln tt
  simp only at hb1 hP hP2
  generalize posN n l (tt + 1) = q at *
  generalize posN n l tt = p at *
  unfold Tr.cells at hmd hAt hP hP2 hS1 hS2 hS3 hH hV hM
  unfold Fm.cells at hbu hAt hH
  simp only at hmd hAt hP hP2 hS1 hS2 hS3 hH hV hM hbu
  refine fn_det Tryd.E0 Tryd.mx Tryd.func6 (by kernel_rfl) rfl (Nat.le_of_ble_eq_true rfl) rfl fun hcl hbl => ?_
  (repeat' ((conv => whnf); (first | (refine IfN.id ?_; first | refine IfN.not ?_ | refine IfN.tt rfl ?_ | refine IfN.dT (by omega) ?_ | refine IfN.dF (by omega) ?_ | refine IfN.dec (fun _ => ?_) (fun _ => ?_) | fail) | (refine EqN.id ?_; first | (refine EqN.and _ _ (by first | with_reducible rfl | with_reducible exact cst1 | with_reducible exact cst0 | with_reducible exact cst2 | with_reducible exact cst3 | with_reducible exact cst4 | with_reducible exact cst5 | with_reducible exact cst6 | with_reducible exact cst7 | with_reducible exact cst8 | with_reducible exact cst14 | with_reducible exact cst15 | with_reducible exact cst25 | with_reducible exact cst30 | with_reducible exact cst31 | fail) (by first | with_reducible rfl | with_reducible exact cst1 | with_reducible exact cst0 | with_reducible exact cst2 | with_reducible exact cst3 | with_reducible exact cst4 | with_reducible exact cst5 | with_reducible exact cst6 | with_reducible exact cst7 | with_reducible exact cst8 | with_reducible exact cst14 | with_reducible exact cst15 | with_reducible exact cst25 | with_reducible exact cst30 | with_reducible exact cst31 | fail) ?_ ?_; · (repeat' (first | omega | refine And.intro ?_ ?_ | exact bnd_andl (by omega) | exact bnd_andr (by omega) | refine bnd_or ?_ ?_ | refine bnd_or31 ?_ ?_ | refine bnd_xor ?_ ?_ | refine bnd_xor31 ?_ ?_ | refine bnd_shr ?_ | refine bnd_shl ?_ ?_ | refine bnd_mod ?_ | refine bnd_andl ?_ | fail))) | (refine EqN.shrN _ _ (by first | with_reducible rfl | with_reducible exact cst1 | with_reducible exact cst0 | with_reducible exact cst2 | with_reducible exact cst3 | with_reducible exact cst4 | with_reducible exact cst5 | with_reducible exact cst6 | with_reducible exact cst7 | with_reducible exact cst8 | with_reducible exact cst14 | with_reducible exact cst15 | with_reducible exact cst25 | with_reducible exact cst30 | with_reducible exact cst31 | fail) (by first | with_reducible rfl | with_reducible exact cst1 | with_reducible exact cst0 | with_reducible exact cst2 | with_reducible exact cst3 | with_reducible exact cst4 | with_reducible exact cst5 | with_reducible exact cst6 | with_reducible exact cst7 | with_reducible exact cst8 | with_reducible exact cst14 | with_reducible exact cst15 | with_reducible exact cst25 | with_reducible exact cst30 | with_reducible exact cst31 | fail) rfl ?_ ?_; · (repeat' (first | omega | refine And.intro ?_ ?_ | exact bnd_andl (by omega) | exact bnd_andr (by omega) | refine bnd_or ?_ ?_ | refine bnd_or31 ?_ ?_ | refine bnd_xor ?_ ?_ | refine bnd_xor31 ?_ ?_ | refine bnd_shr ?_ | refine bnd_shl ?_ ?_ | refine bnd_mod ?_ | refine bnd_andl ?_ | fail))) | (refine EqN.addN _ _ (by first | with_reducible rfl | with_reducible exact cst1 | with_reducible exact cst0 | with_reducible exact cst2 | with_reducible exact cst3 | with_reducible exact cst4 | with_reducible exact cst5 | with_reducible exact cst6 | with_reducible exact cst7 | with_reducible exact cst8 | with_reducible exact cst14 | with_reducible exact cst15 | with_reducible exact cst25 | with_reducible exact cst30 | with_reducible exact cst31 | fail) (by first | with_reducible rfl | with_reducible exact cst1 | with_reducible exact cst0 | with_reducible exact cst2 | with_reducible exact cst3 | with_reducible exact cst4 | with_reducible exact cst5 | with_reducible exact cst6 | with_reducible exact cst7 | with_reducible exact cst8 | with_reducible exact cst14 | with_reducible exact cst15 | with_reducible exact cst25 | with_reducible exact cst30 | with_reducible exact cst31 | fail) ?_ ?_; · (repeat' (first | omega | refine And.intro ?_ ?_ | exact bnd_andl (by omega) | exact bnd_andr (by omega) | refine bnd_or ?_ ?_ | refine bnd_or31 ?_ ?_ | refine bnd_xor ?_ ?_ | refine bnd_xor31 ?_ ?_ | refine bnd_shr ?_ | refine bnd_shl ?_ ?_ | refine bnd_mod ?_ | refine bnd_andl ?_ | fail))) | (refine EqN.subN _ _ (by first | with_reducible rfl | with_reducible exact cst1 | with_reducible exact cst0 | with_reducible exact cst2 | with_reducible exact cst3 | with_reducible exact cst4 | with_reducible exact cst5 | with_reducible exact cst6 | with_reducible exact cst7 | with_reducible exact cst8 | with_reducible exact cst14 | with_reducible exact cst15 | with_reducible exact cst25 | with_reducible exact cst30 | with_reducible exact cst31 | fail) (by first | with_reducible rfl | with_reducible exact cst1 | with_reducible exact cst0 | with_reducible exact cst2 | with_reducible exact cst3 | with_reducible exact cst4 | with_reducible exact cst5 | with_reducible exact cst6 | with_reducible exact cst7 | with_reducible exact cst8 | with_reducible exact cst14 | with_reducible exact cst15 | with_reducible exact cst25 | with_reducible exact cst30 | with_reducible exact cst31 | fail) ?_ ?_; · (repeat' (first | omega | refine And.intro ?_ ?_ | exact bnd_andl (by omega) | exact bnd_andr (by omega) | refine bnd_or ?_ ?_ | refine bnd_or31 ?_ ?_ | refine bnd_xor ?_ ?_ | refine bnd_xor31 ?_ ?_ | refine bnd_shr ?_ | refine bnd_shl ?_ ?_ | refine bnd_mod ?_ | refine bnd_andl ?_ | fail))) | refine EqN.i64 (by omega) ?_ | fail) | (refine SideN.mk ?_ ?_; · first | kernel_rfl | omega | exact List.cons_ne_nil _ _ | (simp; done) | (simp; omega) | exact trivial | assumption | fail) | (refine CallN.id ?_; first | refine CallN.det _ (awake_c _) ?_ | refine CallN.det _ (hmd _) ?_ | refine CallN.det _ (hbu _) ?_ | refine CallN.det _ (hAt _) ?_ | refine CallN.det _ (hP _) ?_ | refine CallN.det _ (hP2 _) ?_ | refine CallN.det _ (hS1 _) ?_ | refine CallN.det _ (hS2 _) ?_ | refine CallN.det _ (hS3 _) ?_ | refine CallN.det _ (hH _) ?_ | refine CallN.det _ (hV _) ?_ | refine CallN.det _ (hM _) ?_ | fail) | refine DrawN.mk' [] ?_ | fail))); all_goals (conv => whnf)
  all_goals first
    | exact EndN.det trivial (Wk.refl _)
    | (exfalso; split at hnext; all_goals omega)
    | (rename_i hx; exact absurd (by rw [hb1]) hx)
    | fail
end Go.Proofs.YtjflngchbeegcaaDoor
/-! text N14 -/
namespace Go.Proofs.YtjflngchbeegcaaDoor
open Go.Vsi
set_option maxHeartbeats 4000000
attribute [local irreducible] VW VCall VO bits

/-! ### lyceumkit.CopyModel: a copy of one's own -/
theorem copyInts_c (H : Heap) : VDet Tryd.prog 44 [.sl none 0 []] H .nils := by
  refine fn_det Tryd.E0 Tryd.mx Tryd.func44 (by kernel_rfl) rfl (Nat.le_of_ble_eq_true rfl) rfl fun hcl hbl => ?_
  (repeat' ((conv => whnf); (first | (refine SideN.mk ?_ ?_; · first | kernel_rfl | omega | exact List.cons_ne_nil _ _ | (simp; done) | (simp; omega) | exact trivial | assumption | fail) | refine OrN.r (OrN.l ?_) | refine DrawN.mk' [] ?_ | fail))); all_goals (conv => whnf)
  exact EndN.det trivial (Wk.refl _)
theorem copyBinds_c (H : Heap) : VDet Tryd.prog 47 [.sl none 0 []] H .nils := by
  refine fn_det Tryd.E0 Tryd.mx Tryd.func47 (by kernel_rfl) rfl (Nat.le_of_ble_eq_true rfl) rfl fun hcl hbl => ?_
  (repeat' ((conv => whnf); (first | (refine SideN.mk ?_ ?_; · first | kernel_rfl | omega | exact List.cons_ne_nil _ _ | (simp; done) | (simp; omega) | exact trivial | assumption | fail) | refine OrN.r (OrN.l ?_) | refine DrawN.mk' [] ?_ | fail))); all_goals (conv => whnf)
  exact EndN.det trivial (Wk.refl _)
theorem copyFuncs_c (H : Heap) : VDet Tryd.prog 46 [.sl none 0 []] H .nils := by
  refine fn_det Tryd.E0 Tryd.mx Tryd.func46 (by kernel_rfl) rfl (Nat.le_of_ble_eq_true rfl) rfl fun hcl hbl => ?_
  (repeat' ((conv => whnf); (first | refine DrawN.mk' [] ?_ | fail))); all_goals (conv => whnf)
  refine LoopN.rounds Tryd.E0 Tryd.mx 1 rfl ?_
  (repeat' ((conv => whnf); (first | (refine IfN.id ?_; first | refine IfN.ff rfl ?_ | fail) | refine DrawN.mk' [] ?_ | fail))); all_goals (conv => whnf)
  exact EndN.det trivial (Wk.refl _)
def cel3 (a b c : Nat) : List AV := [.str (nm 80), .int .i64 0, .int .i64 a, .str (nm 81), .int .i64 0, .int .i64 b, .str (nm 82), .int .i64 0, .int .i64 c]
theorem copyFacts_c (a b c : Nat) (H : Heap) (i : Nat) (hi : H.length = i) : VCall Tryd.prog 45 [.sl none 3 (cel3 a b c)] H (fun r H' => ∃ s, r = .ms i 0 3 ∧ H' = H ++ [.box 49 (cel3 a b c ++ List.replicate s .junk)]) := by
  subst hi
  unfold cel3
  refine fn_gen Tryd.E0 Tryd.mx Tryd.func45 (by kernel_rfl) rfl (Nat.le_of_ble_eq_true rfl) rfl fun hcl hbl => ?_
  (repeat' ((conv => whnf); (first | refine OrN.r (OrN.r ?_) | refine SideN.mk ⟨Nat.le_of_ble_eq_true rfl, rfl, rfl, by simp, by simp [maxLen]⟩ ?_ | refine BlkUN.box fun s => ?_ | refine DrawN.mk' [] ?_ | fail))); all_goals (conv => whnf)
  exact EndN.keep _ (Wk.refl _) ⟨_, rfl, rfl⟩
def cpy (n l i : Nat) : List AV := [.int .u8 5, .int .i64 n, .nils, .int .i64 l, .ms i 0 3, .nils, .nils]
theorem copyModel_c (n l a b c : Nat) (H : Heap) (i : Nat) (hi : H.length + 2 = i) : VCall Tryd.prog 18 [.agg (Tr.cells ⟨n, l, [(80, a), (81, b), (82, c)]⟩)] H (fun r H' => ∃ s, r = .agg (cpy n l i) ∧ H' = H ++ [.box 30 (cpy n l i), .box 30 (cpy n l i), .box 49 (cel3 a b c ++ List.replicate s .junk)]) := by
  subst hi
  have hf := fun H i hi => copyFacts_c a b c H i hi
  unfold cpy
  unfold Tr.cells
  refine fn_gen Tryd.E0 Tryd.mx Tryd.func18 (by kernel_rfl) rfl (Nat.le_of_ble_eq_true rfl) rfl fun hcl hbl => ?_
  (repeat' ((conv => whnf); (first | (refine CallN.id ?_; first | refine CallN.det _ (copyInts_c _) ?_ | refine CallN.det _ (copyFuncs_c _) ?_ | refine CallN.det _ (copyBinds_c _) ?_ | fail) | refine CallN.more (fun _ => .ms (H.length + 2) 0 3) (fun s => [.box 49 (cel3 a b c ++ List.replicate s AV.junk)]) (hf _ (H.length + 2) (by simp)) rfl _ (fun _ => rfl) 3 (fun _ => rfl) fun s => ?_ | refine DrawN.mk' [] ?_ | fail))); all_goals (conv => whnf)
  exact EndN.keep _ (Wk.refl _) ⟨s, rfl, rfl⟩
end Go.Proofs.YtjflngchbeegcaaDoor
/-! text O14 -/
namespace Go.Proofs.YtjflngchbeegcaaDoor
open Go.Vsi
set_option maxHeartbeats 8000000
attribute [local irreducible] VW VCall VO bits

/-! ### TraceShort -/
theorem lent_c {a' b' c' n l : Nat} {A v : AV} (hs : ∀ H, VDet Tryd.prog 13 [A, .agg [.int .u8 5, .int .i64 (n : Nat), .sl none 0 [], .int .i64 (l : Nat), .sl none 3 (cel3 a' b' c'), .sl none 0 [], .sl none 0 []]] H v) (hf : flatV v = true) (H : Heap) (i s : Nat) (hi : H[i]? = some (.box 49 (cel3 a' b' c' ++ List.replicate s .junk))) :
    VDet Tryd.prog 13 [A, .agg (cpy n l i)] H v := by
  refine VDet.lend (as' := [A, .agg [.int .u8 5, .int .i64 (n : Nat), .nils, .int .i64 (l : Nat), .sl none 3 (cel3 a' b' c' ++ List.replicate s .junk), .nils, .nils]]) (fun H => VDet.wk (hs H) ⟨Wk.refl _, wk_agg ⟨Wk.refl _, Wk.refl _, wk_nils, Wk.refl _, wk_pre _ _ _, wk_nils, wk_nils, trivial⟩, trivial⟩) ?_ hf
  exact .cons (.refl _) (.cons (.agg (.cons (.refl _) (.cons (.refl _) (.cons (.refl _) (.cons (.refl _) (.cons (.ms hi rfl (LendL.refl _)) (.cons (.refl _) (.cons (.refl _) .nil)))))))) .nil)
theorem short_c (sz lp x y z : Nat) (code : List Nat) (time other kx ky kz : Nat) (hs : sz ≤ 255) (hl : lp ≤ 255) (hx : x ≤ 255) (hy : y ≤ 255) (hz : z ≤ 255) (hcd : code.length ≤ 9223372036854775807) (hcb : ∀ i, i < code.length → code.getD i 0 ≤ 255) (ht : time ≤ 255) (ho : other ≤ 255) (hkx : kx ≤ 255) (hky : ky ≤ 255) (hkz : kz ≤ 255) (H : Heap) :
    VDet Tryd.prog 3 [.int .u8 sz, .int .u8 lp, .agg [.int .u8 x, .int .u8 y, .int .u8 z], .sl none code.length (code.flatMap encB), .int .u8 time, .int .u8 other, .agg [.int .u8 kx, .int .u8 ky, .int .u8 kz]] H (.bool true) := by
  have hmd := fun H => Made_c sz lp x y z hs hl hx hy hz H
  have hmd2 := fun H => Made_c other lp kx ky kz ho hl hkx hky hkz H
  have hbu := fun H => built_c code hcd hcb H
  obtain ⟨hg, hnd⟩ := blt_ok code
  generalize bltF code = f at hbu hg hnd
  obtain ⟨n, l, a, b, c, he, h1, h5, hln, ha, hb, hc⟩ := made_ex sz lp x y z
  rw [he] at hmd
  obtain ⟨n', l', a', b', c', he', h1', h5', hln', ha', hb', hc'⟩ := made_ex other lp kx ky kz
  rw [he'] at hmd2
  have hm := ok3 n l a b c h1 h5 hln ha hb hc
  have hm' := ok3 n' l' a' b' c' h1' h5' hln' ha' hb' hc'
  have hms := miss_pqr n l a b c f hg.pqr
  obtain ⟨K, L, hF⟩ := first_ex hm
  obtain ⟨K', L', hF'⟩ := first_ex hm'
  have hso := hF.ok hm
  have hms2 : miss (shT ⟨n, l, [(80, a), (81, b), (82, c)]⟩ K L) f = false := (miss_taken _ _ _ f).trans hms
  have hSh := fun H => Short_c _ hm K L hF.hK hF.hL hF.no hF.no2 hF.yes H
  have hSh' := fun H => Short_c _ hm' K' L' hF'.hK hF'.hL hF'.no hF'.no2 hF'.yes H
  obtain ⟨hA, hA2⟩ := hF.again hm
  have hSS := fun H => Short_c _ hso K L hA.hK hA.hL hA.no hA.no2 hA.yes H
  rw [hA2] at hSS
  have heq := hF.same hm
  have hSm := fun H => Same_c _ _ hm hso H
  rw [(sameB_iff hm hso).2 heq.symm] at hSm
  have hAt := fun H => At_c _ hm f hg.ok hg.temp (by omega) H
  rw [hms] at hAt
  have hAt2 := fun H => At_c _ hso f hg.ok hg.temp (by omega) H
  rw [hms2] at hAt2
  have hV := fun H => valid_t hso H
  have hM := fun H => sameModel_c _ _ hso.len hso.len H
  rw [(eqT_iff _ _).2 rfl] at hM
  have hP := fun H => Position_c _ hm (time % 30) (by omega) H
  have hP2 := fun H => Position_c _ hso (time % 30) (by omega) H
  have hsem := sem_eqv hm hso heq.symm f (time % 30)
  have hb1 := ev_bit hm f (time % 30)
  have hb2 := ev_bit hso f (time % 30)
  rw [hsem] at hb1
  have hbits := hb1.trans hb2.symm
  have hS2 := fun H => Same_c _ _ hm hm' H
  rw [short_iff hm hm' hF hF'] at hS2
  have hM2 := fun H => sameModel_c _ _ hso.len (hF'.ok hm').len H
  have hlong : n ≤ 4 → ∀ H, VDet Tryd.prog 13 [.agg (Tr.cells ⟨n, l, [(80, a), (81, b), (82, c)]⟩), .agg (longT ⟨n, l, [(80, a), (81, b), (82, c)]⟩).cells] H (.tup [.bool true, .int .i64 0]) := fun h4 H => by
    have := Same_c _ _ hm (long_ok hm h4) H
    rwa [(sameB_iff hm (long_ok hm h4)).2 (long_same hm)] at this
  have hlent := fun (h4 : n ≤ 4) H i s hi => lent_c (a' := a ||| ((a >>> l) &&& 1) <<< n) (b' := b ||| ((b >>> l) &&& 1) <<< n) (c' := c ||| ((c >>> l) &&& 1) <<< n) (n := n + 1) (l := l + 1) (hlong h4) rfl H i s hi
  have hcopy := fun H i hi => copyModel_c n l a b c H i hi
  have hSn : (shT ⟨n, l, [(80, a), (81, b), (82, c)]⟩ K L).n ≤ n := by rw [shT_n]; have := hF.hK; simp only at this; omega
  have hpl : posN n l (time % 30) < n := posN_lt hln
  have hql := posN_lt (x := time % 30) hso.lp
  have hq5 := hso.n5
  have h32a := p2_32 ha h5
  have h32b := p2_32 hb h5
  have h32c := p2_32 hc h5
  have hE1 := p2_32 (evT_lt hm f) h5
  have hE2 := p2_32 (evT_lt hso f) hq5
  clear hF hF' hA hA2 heq hsem hb1 hb2 hm hm' hms hms2
  generalize shT ⟨n, l, [(80, a), (81, b), (82, c)]⟩ K L = S at *
  generalize shT ⟨n', l', [(80, a'), (81, b'), (82, c')]⟩ K' L' = S' at *
  generalize evT ⟨n, l, [(80, a), (81, b), (82, c)]⟩ f = E1 at *
  generalize evT S f = E2 at *
  generalize eqT S S' = EQ at *
  simp only [Bool.false_eq_true, if_false] at hAt hAt2
  simp only at hbits hP hP2
  generalize hte : time % 30 = t at *
  generalize posN n l t = p at *
  generalize posN S.n S.lp t = q at *
  clear hso
  unfold Tr.cells at hmd hmd2 hSh hSh' hSS hSm hAt hAt2 hV hM hP hP2 hS2 hM2 hlent hcopy
  unfold Fm.cells at hbu hAt hAt2
  simp only at hmd hmd2 hSh hSh' hSS hSm hAt hAt2 hV hM hP hP2 hS2 hM2 hlent hbu hcopy
  refine fn_det Tryd.E0 Tryd.mx Tryd.func3 (by kernel_rfl) rfl (Nat.le_of_ble_eq_true rfl) rfl fun hcl hbl => ?_
  (repeat' ((conv => whnf); (first | refine DrawN.mk' [9] ?_ | (refine IfN.id ?_; first | refine IfN.not ?_ | refine IfN.tt rfl ?_ | refine IfN.dT (by omega) ?_ | refine IfN.dF (by omega) ?_ | refine IfN.dec (fun _ => ?_) (fun _ => ?_) | fail) | (refine EqN.id ?_; first | refine EqN.remC t rfl rfl hte ?_ | (refine EqN.and _ _ (by first | with_reducible rfl | with_reducible exact cst1 | with_reducible exact cst0 | with_reducible exact cst2 | with_reducible exact cst3 | with_reducible exact cst4 | with_reducible exact cst5 | with_reducible exact cst6 | with_reducible exact cst7 | with_reducible exact cst8 | with_reducible exact cst14 | with_reducible exact cst15 | with_reducible exact cst25 | with_reducible exact cst30 | with_reducible exact cst31 | fail) (by first | with_reducible rfl | with_reducible exact cst1 | with_reducible exact cst0 | with_reducible exact cst2 | with_reducible exact cst3 | with_reducible exact cst4 | with_reducible exact cst5 | with_reducible exact cst6 | with_reducible exact cst7 | with_reducible exact cst8 | with_reducible exact cst14 | with_reducible exact cst15 | with_reducible exact cst25 | with_reducible exact cst30 | with_reducible exact cst31 | fail) ?_ ?_; · (repeat' (first | omega | refine And.intro ?_ ?_ | exact bnd_andl (by omega) | exact bnd_andr (by omega) | refine bnd_or ?_ ?_ | refine bnd_or31 ?_ ?_ | refine bnd_xor ?_ ?_ | refine bnd_xor31 ?_ ?_ | refine bnd_shr ?_ | refine bnd_shl ?_ ?_ | refine bnd_mod ?_ | refine bnd_andl ?_ | fail))) | (refine EqN.shrN _ _ (by first | with_reducible rfl | with_reducible exact cst1 | with_reducible exact cst0 | with_reducible exact cst2 | with_reducible exact cst3 | with_reducible exact cst4 | with_reducible exact cst5 | with_reducible exact cst6 | with_reducible exact cst7 | with_reducible exact cst8 | with_reducible exact cst14 | with_reducible exact cst15 | with_reducible exact cst25 | with_reducible exact cst30 | with_reducible exact cst31 | fail) (by first | with_reducible rfl | with_reducible exact cst1 | with_reducible exact cst0 | with_reducible exact cst2 | with_reducible exact cst3 | with_reducible exact cst4 | with_reducible exact cst5 | with_reducible exact cst6 | with_reducible exact cst7 | with_reducible exact cst8 | with_reducible exact cst14 | with_reducible exact cst15 | with_reducible exact cst25 | with_reducible exact cst30 | with_reducible exact cst31 | fail) rfl ?_ ?_; · (repeat' (first | omega | refine And.intro ?_ ?_ | exact bnd_andl (by omega) | exact bnd_andr (by omega) | refine bnd_or ?_ ?_ | refine bnd_or31 ?_ ?_ | refine bnd_xor ?_ ?_ | refine bnd_xor31 ?_ ?_ | refine bnd_shr ?_ | refine bnd_shl ?_ ?_ | refine bnd_mod ?_ | refine bnd_andl ?_ | fail))) | (refine EqN.addN _ _ (by first | with_reducible rfl | with_reducible exact cst1 | with_reducible exact cst0 | with_reducible exact cst2 | with_reducible exact cst3 | with_reducible exact cst4 | with_reducible exact cst5 | with_reducible exact cst6 | with_reducible exact cst7 | with_reducible exact cst8 | with_reducible exact cst14 | with_reducible exact cst15 | with_reducible exact cst25 | with_reducible exact cst30 | with_reducible exact cst31 | fail) (by first | with_reducible rfl | with_reducible exact cst1 | with_reducible exact cst0 | with_reducible exact cst2 | with_reducible exact cst3 | with_reducible exact cst4 | with_reducible exact cst5 | with_reducible exact cst6 | with_reducible exact cst7 | with_reducible exact cst8 | with_reducible exact cst14 | with_reducible exact cst15 | with_reducible exact cst25 | with_reducible exact cst30 | with_reducible exact cst31 | fail) ?_ ?_; · (repeat' (first | omega | refine And.intro ?_ ?_ | exact bnd_andl (by omega) | exact bnd_andr (by omega) | refine bnd_or ?_ ?_ | refine bnd_or31 ?_ ?_ | refine bnd_xor ?_ ?_ | refine bnd_xor31 ?_ ?_ | refine bnd_shr ?_ | refine bnd_shl ?_ ?_ | refine bnd_mod ?_ | refine bnd_andl ?_ | fail))) | refine EqN.i64 (by omega) ?_ | fail) | (refine SideN.mk ?_ ?_; · first | kernel_rfl | omega | exact List.cons_ne_nil _ _ | (simp; done) | (simp; omega) | exact trivial | assumption | fail) | (refine CallN.id ?_; first | refine CallN.det _ (awake_c _) ?_ | refine CallN.det _ (hmd _) ?_ | refine CallN.det _ (hmd2 _) ?_ | refine CallN.det _ (hbu _) ?_ | refine CallN.det _ (hSh _) ?_ | refine CallN.det _ (hSS _) ?_ | refine CallN.det _ (hSm _) ?_ | refine CallN.det _ (hAt _) ?_ | refine CallN.det _ (hAt2 _) ?_ | refine CallN.det _ (hV _) ?_ | refine CallN.det _ (hM _) ?_ | refine CallN.det _ (hP _) ?_ | refine CallN.det _ (hP2 _) ?_ | refine CallN.det _ (hSh' _) ?_ | refine CallN.det _ (hS2 _) ?_ | refine CallN.det _ (hM2 _) ?_ | fail) | refine CallN.more (fun _ => .agg (cpy n l (H.length + 8))) (fun s => [.box 30 (cpy n l (H.length + 8)), .box 30 (cpy n l (H.length + 8)), .box 49 (cel3 a b c ++ List.replicate s AV.junk)]) (hcopy _ (H.length + 8) (by simp)) rfl _ (fun _ => rfl) 9 (fun _ => rfl) fun s => ?_ | refine DrawN.mk' [] ?_ | fail))); all_goals (conv => whnf)
  · refine LoopN.rounds Tryd.E0 Tryd.mx 4 rfl ?_
    (repeat' ((conv => whnf); (first | (refine IfN.id ?_; first | refine IfN.not ?_ | refine IfN.tt rfl ?_ | refine IfN.ff rfl ?_ | fail) | (refine EqN.id ?_; first | (refine EqN.and _ _ (by first | with_reducible rfl | with_reducible exact cst1 | with_reducible exact cst0 | with_reducible exact cst2 | with_reducible exact cst3 | with_reducible exact cst4 | with_reducible exact cst5 | with_reducible exact cst6 | with_reducible exact cst7 | with_reducible exact cst8 | with_reducible exact cst14 | with_reducible exact cst15 | with_reducible exact cst25 | with_reducible exact cst30 | with_reducible exact cst31 | fail) (by first | with_reducible rfl | with_reducible exact cst1 | with_reducible exact cst0 | with_reducible exact cst2 | with_reducible exact cst3 | with_reducible exact cst4 | with_reducible exact cst5 | with_reducible exact cst6 | with_reducible exact cst7 | with_reducible exact cst8 | with_reducible exact cst14 | with_reducible exact cst15 | with_reducible exact cst25 | with_reducible exact cst30 | with_reducible exact cst31 | fail) ?_ ?_; · (repeat' (first | omega | refine And.intro ?_ ?_ | exact bnd_andl (by omega) | exact bnd_andr (by omega) | refine bnd_or ?_ ?_ | refine bnd_or31 ?_ ?_ | refine bnd_xor ?_ ?_ | refine bnd_xor31 ?_ ?_ | refine bnd_shr ?_ | refine bnd_shl ?_ ?_ | refine bnd_mod ?_ | refine bnd_andl ?_ | fail))) | (refine EqN.or _ _ (by first | with_reducible rfl | with_reducible exact cst1 | with_reducible exact cst0 | with_reducible exact cst2 | with_reducible exact cst3 | with_reducible exact cst4 | with_reducible exact cst5 | with_reducible exact cst6 | with_reducible exact cst7 | with_reducible exact cst8 | with_reducible exact cst14 | with_reducible exact cst15 | with_reducible exact cst25 | with_reducible exact cst30 | with_reducible exact cst31 | fail) (by first | with_reducible rfl | with_reducible exact cst1 | with_reducible exact cst0 | with_reducible exact cst2 | with_reducible exact cst3 | with_reducible exact cst4 | with_reducible exact cst5 | with_reducible exact cst6 | with_reducible exact cst7 | with_reducible exact cst8 | with_reducible exact cst14 | with_reducible exact cst15 | with_reducible exact cst25 | with_reducible exact cst30 | with_reducible exact cst31 | fail) ?_ ?_; · (repeat' (first | omega | refine And.intro ?_ ?_ | exact bnd_andl (by omega) | exact bnd_andr (by omega) | refine bnd_or ?_ ?_ | refine bnd_or31 ?_ ?_ | refine bnd_xor ?_ ?_ | refine bnd_xor31 ?_ ?_ | refine bnd_shr ?_ | refine bnd_shl ?_ ?_ | refine bnd_mod ?_ | refine bnd_andl ?_ | fail))) | (refine EqN.shrN _ _ (by first | with_reducible rfl | with_reducible exact cst1 | with_reducible exact cst0 | with_reducible exact cst2 | with_reducible exact cst3 | with_reducible exact cst4 | with_reducible exact cst5 | with_reducible exact cst6 | with_reducible exact cst7 | with_reducible exact cst8 | with_reducible exact cst14 | with_reducible exact cst15 | with_reducible exact cst25 | with_reducible exact cst30 | with_reducible exact cst31 | fail) (by first | with_reducible rfl | with_reducible exact cst1 | with_reducible exact cst0 | with_reducible exact cst2 | with_reducible exact cst3 | with_reducible exact cst4 | with_reducible exact cst5 | with_reducible exact cst6 | with_reducible exact cst7 | with_reducible exact cst8 | with_reducible exact cst14 | with_reducible exact cst15 | with_reducible exact cst25 | with_reducible exact cst30 | with_reducible exact cst31 | fail) rfl ?_ ?_; · (repeat' (first | omega | refine And.intro ?_ ?_ | exact bnd_andl (by omega) | exact bnd_andr (by omega) | refine bnd_or ?_ ?_ | refine bnd_or31 ?_ ?_ | refine bnd_xor ?_ ?_ | refine bnd_xor31 ?_ ?_ | refine bnd_shr ?_ | refine bnd_shl ?_ ?_ | refine bnd_mod ?_ | refine bnd_andl ?_ | fail))) | (refine EqN.shlN _ _ (by first | with_reducible rfl | with_reducible exact cst1 | with_reducible exact cst0 | with_reducible exact cst2 | with_reducible exact cst3 | with_reducible exact cst4 | with_reducible exact cst5 | with_reducible exact cst6 | with_reducible exact cst7 | with_reducible exact cst8 | with_reducible exact cst14 | with_reducible exact cst15 | with_reducible exact cst25 | with_reducible exact cst30 | with_reducible exact cst31 | fail) (by first | with_reducible rfl | with_reducible exact cst1 | with_reducible exact cst0 | with_reducible exact cst2 | with_reducible exact cst3 | with_reducible exact cst4 | with_reducible exact cst5 | with_reducible exact cst6 | with_reducible exact cst7 | with_reducible exact cst8 | with_reducible exact cst14 | with_reducible exact cst15 | with_reducible exact cst25 | with_reducible exact cst30 | with_reducible exact cst31 | fail) rfl ?_ ?_ ?_; (· (repeat' (first | omega | refine And.intro ?_ ?_ | exact bnd_andl (by omega) | exact bnd_andr (by omega) | refine bnd_or ?_ ?_ | refine bnd_or31 ?_ ?_ | refine bnd_xor ?_ ?_ | refine bnd_xor31 ?_ ?_ | refine bnd_shr ?_ | refine bnd_shl ?_ ?_ | refine bnd_mod ?_ | refine bnd_andl ?_ | fail))); (· (repeat' (first | omega | refine And.intro ?_ ?_ | exact bnd_andl (by omega) | exact bnd_andr (by omega) | refine bnd_or ?_ ?_ | refine bnd_or31 ?_ ?_ | refine bnd_xor ?_ ?_ | refine bnd_xor31 ?_ ?_ | refine bnd_shr ?_ | refine bnd_shl ?_ ?_ | refine bnd_mod ?_ | refine bnd_andl ?_ | fail)))) | (refine EqN.addN _ _ (by first | with_reducible rfl | with_reducible exact cst1 | with_reducible exact cst0 | with_reducible exact cst2 | with_reducible exact cst3 | with_reducible exact cst4 | with_reducible exact cst5 | with_reducible exact cst6 | with_reducible exact cst7 | with_reducible exact cst8 | with_reducible exact cst14 | with_reducible exact cst15 | with_reducible exact cst25 | with_reducible exact cst30 | with_reducible exact cst31 | fail) (by first | with_reducible rfl | with_reducible exact cst1 | with_reducible exact cst0 | with_reducible exact cst2 | with_reducible exact cst3 | with_reducible exact cst4 | with_reducible exact cst5 | with_reducible exact cst6 | with_reducible exact cst7 | with_reducible exact cst8 | with_reducible exact cst14 | with_reducible exact cst15 | with_reducible exact cst25 | with_reducible exact cst30 | with_reducible exact cst31 | fail) ?_ ?_; · (repeat' (first | omega | refine And.intro ?_ ?_ | exact bnd_andl (by omega) | exact bnd_andr (by omega) | refine bnd_or ?_ ?_ | refine bnd_or31 ?_ ?_ | refine bnd_xor ?_ ?_ | refine bnd_xor31 ?_ ?_ | refine bnd_shr ?_ | refine bnd_shl ?_ ?_ | refine bnd_mod ?_ | refine bnd_andl ?_ | fail))) | fail) | (refine SideN.mk ?_ ?_; · first | kernel_rfl | omega | exact List.cons_ne_nil _ _ | (simp; done) | (simp; omega) | exact trivial | assumption | fail) | (refine CallN.id ?_; first | refine CallN.det _ (hlent (by omega) _ _ s (by (repeat' (first | assumption | exact at_loc' _ rfl | exact at_loc0 rfl | refine at_set (B' := ?_) ?_ | refine at_base' ?_ | fail)))) ?_ | refine CallN.det _ (hmd2 _) ?_ | refine CallN.det _ (hSh' _) ?_ | refine CallN.det _ (hS2 _) ?_ | refine CallN.det _ (hM2 _) ?_ | fail) | (refine PtrN.id ?_; first | refine PtrN.loc _ rfl ?_ | fail) | refine SegN.mk _ (seg_rfl rfl) ?_ | refine OfsN.at_ (by omega) ?_ | refine DrawN.mk' [] ?_ | fail))); all_goals (conv => whnf)
    exact EndN.det trivial (Wk.of_eq (congrArg AV.bool (by simp)))
  · exact EndN.det trivial (Wk.of_eq (congrArg AV.bool (by simp)))
end Go.Proofs.YtjflngchbeegcaaDoor
