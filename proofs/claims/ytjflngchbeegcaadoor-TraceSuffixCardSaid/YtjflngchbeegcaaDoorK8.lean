/- A text of the proof: the parts L14. -/
import Derived.Test.YtjflngchbeegcaaDoorK7
set_option linter.unusedSimpArgs false
set_option linter.unusedVariables false
/-! text L14 -/
namespace Go.Proofs.YtjflngchbeegcaaDoor
open Go.Vsi
set_option maxHeartbeats 4000000
attribute [local irreducible] VW VCall VO bits

/-! ### TraceSuffix -/
theorem ev_bit {t : Tr} (ht : t.Ok) (f : Fm) (x : Nat) : (evT t f >>> posN t.n t.lp x) &&& 1 = (tm t.n t.lp (evT t f) x).toNat := bit1 _ _
theorem posN_next {n lp : Nat} (hn : n ≤ 5) (hl : lp < n) (x : Nat) : posN n lp (x + 1) = if posN n lp x + 1 < n then posN n lp x + 1 else lp := by
  rw [← posN_add hn hl]
  have hp := posN_lt (x := x) hl
  generalize posN n lp x = p at hp
  by_cases h : p + 1 < n
  · rw [if_pos h]; exact posN_self h
  · rw [if_neg h]
    have : p + 1 = n := by omega
    rw [this]
    unfold posN
    rw [if_neg (Nat.lt_irrefl n), Nat.mod_self]
    rfl
theorem suffix_c (sz lp x y z : Nat) (code : List Nat) (tt u : Nat) (hs : sz ≤ 255) (hl : lp ≤ 255) (hx : x ≤ 255) (hy : y ≤ 255) (hz : z ≤ 255) (hcd : code.length ≤ 9223372036854775807) (hcb : ∀ i, i < code.length → code.getD i 0 ≤ 255) (ht : tt ≤ 65535) (hu : u ≤ 65535) (H : Heap) :
    VDet Tryd.prog 6 [.int .u8 sz, .int .u8 lp, .agg [.int .u8 x, .int .u8 y, .int .u8 z], .sl none code.length (code.flatMap encB), .int .u16 tt, .int .u16 u] H (.bool true) := by
  have hmd := fun H => Made_c sz lp x y z hs hl hx hy hz H
  have hbu := fun H => built_c code hcd hcb H
  obtain ⟨hg, hnd⟩ := blt_ok code
  generalize bltF code = f at hbu hg hnd
  obtain ⟨n, l, a, b, c, he, h1, h5, hln, ha, hb, hc⟩ := made_ex sz lp x y z
  rw [he] at hmd
  have hm := ok3 n l a b c h1 h5 hln ha hb hc
  have hms := miss_pqr n l a b c f hg.pqr
  have hms2 : miss (sufT ⟨n, l, [(80, a), (81, b), (82, c)]⟩ tt) f = false := (miss_taken _ _ _ f).trans hms
  have hAt := fun H => At_c _ hm f hg.ok hg.temp (by omega) H
  rw [hms] at hAt
  have hP := fun H => Position_c _ hm tt (by omega) H
  have hP2 := fun H => Position_c _ hm (tt + 1) (by omega) H
  have hS1 := fun H => Suffix_c _ hm tt (by omega) H
  have hS3 := fun H => Suffix_c _ hm (tt + u) (by omega) H
  have hso := sufT_ok hm tt
  have hS2 := fun H => Suffix_c _ hso u (by omega) H
  have hH := fun H => Holds_c _ hso f hg.ok hg.temp (by omega) hms2 H
  have hV := fun H => valid_t hso H
  have e1 := suf_suf hm tt u
  rw [e1] at hS2
  have hM := fun H => sameModel_c (sufT ⟨n, l, [(80, a), (81, b), (82, c)]⟩ (tt + u)) (sufT ⟨n, l, [(80, a), (81, b), (82, c)]⟩ (tt + u)) (sufT_ok hm (tt + u)).len (sufT_ok hm (tt + u)).len H
  rw [(eqT_iff _ _).2 rfl] at hM
  have hsem := sufT_sem hm tt f 0
  have hb1 := ev_bit hm f tt
  have hb2 : evT (sufT ⟨n, l, [(80, a), (81, b), (82, c)]⟩ tt) f &&& 1 = (tm (sufT ⟨n, l, [(80, a), (81, b), (82, c)]⟩ tt).n (sufT ⟨n, l, [(80, a), (81, b), (82, c)]⟩ tt).lp (evT (sufT ⟨n, l, [(80, a), (81, b), (82, c)]⟩ tt) f) 0).toNat := by
    have := ev_bit hso f 0
    rwa [posN_self hso.n1, Nat.shiftRight_zero] at this
  rw [Nat.zero_add] at hsem
  rw [hsem] at hb1
  rw [hb2] at hH
  have hpq := posN_add h5 hln tt 1
  have hpl : posN n l tt < n := posN_lt hln
  have hsn : (sufT ⟨n, l, [(80, a), (81, b), (82, c)]⟩ tt).n ≤ n := by rw [sufT_n]; exact sufK_le
  have hlt := evT_lt hm f
  have hlt32 := p2_32 hlt h5
  generalize tm (sufT ⟨n, l, [(80, a), (81, b), (82, c)]⟩ tt).n _ _ 0 = B at hb1 hH
  clear hb2 hsem e1
  generalize sufT ⟨n, l, [(80, a), (81, b), (82, c)]⟩ (tt + u) = S3 at *
  generalize sufT ⟨n, l, [(80, a), (81, b), (82, c)]⟩ tt = S at *
  generalize evT ⟨n, l, [(80, a), (81, b), (82, c)]⟩ f = E at *
  simp only [Bool.false_eq_true, if_false] at hAt
  have hnext := posN_next h5 hln tt
  simp only at hb1 hP hP2
  generalize posN n l (tt + 1) = q at *
  generalize posN n l tt = p at *
  unfold Tr.cells at hmd hAt hP hP2 hS1 hS2 hS3 hH hV hM
  unfold Fm.cells at hbu hAt hH
  simp only at hmd hAt hP hP2 hS1 hS2 hS3 hH hV hM hbu
  refine fn_det Tryd.E0 Tryd.mx Tryd.func6 (by kernel_rfl) rfl (Nat.le_of_ble_eq_true rfl) rfl fun hcl hbl => ?_
  (repeat' ((conv => whnf); (first | (refine IfN.id ?_; first | refine IfN.not ?_ | refine IfN.tt rfl ?_ | refine IfN.dT (by omega) ?_ | refine IfN.dF (by omega) ?_ | refine IfN.dec (fun _ => ?_) (fun _ => ?_) | fail) | (refine EqN.id ?_; first | (refine EqN.and _ _ (by first | with_reducible rfl | with_reducible exact cst1 | with_reducible exact cst0 | with_reducible exact cst2 | with_reducible exact cst3 | with_reducible exact cst4 | with_reducible exact cst5 | with_reducible exact cst6 | with_reducible exact cst7 | with_reducible exact cst8 | with_reducible exact cst14 | with_reducible exact cst15 | with_reducible exact cst25 | with_reducible exact cst30 | with_reducible exact cst31 | fail) (by first | with_reducible rfl | with_reducible exact cst1 | with_reducible exact cst0 | with_reducible exact cst2 | with_reducible exact cst3 | with_reducible exact cst4 | with_reducible exact cst5 | with_reducible exact cst6 | with_reducible exact cst7 | with_reducible exact cst8 | with_reducible exact cst14 | with_reducible exact cst15 | with_reducible exact cst25 | with_reducible exact cst30 | with_reducible exact cst31 | fail) ?_ ?_; · (repeat' (first | omega | refine And.intro ?_ ?_ | exact bnd_andl (by omega) | exact bnd_andr (by omega) | refine bnd_or ?_ ?_ | refine bnd_or31 ?_ ?_ | refine bnd_xor ?_ ?_ | refine bnd_xor31 ?_ ?_ | refine bnd_shr ?_ | refine bnd_shl ?_ ?_ | refine bnd_mod ?_ | refine bnd_andl ?_ | fail))) | (refine EqN.shrN _ _ (by first | with_reducible rfl | with_reducible exact cst1 | with_reducible exact cst0 | with_reducible exact cst2 | with_reducible exact cst3 | with_reducible exact cst4 | with_reducible exact cst5 | with_reducible exact cst6 | with_reducible exact cst7 | with_reducible exact cst8 | with_reducible exact cst14 | with_reducible exact cst15 | with_reducible exact cst25 | with_reducible exact cst30 | with_reducible exact cst31 | fail) (by first | with_reducible rfl | with_reducible exact cst1 | with_reducible exact cst0 | with_reducible exact cst2 | with_reducible exact cst3 | with_reducible exact cst4 | with_reducible exact cst5 | with_reducible exact cst6 | with_reducible exact cst7 | with_reducible exact cst8 | with_reducible exact cst14 | with_reducible exact cst15 | with_reducible exact cst25 | with_reducible exact cst30 | with_reducible exact cst31 | fail) rfl ?_ ?_; · (repeat' (first | omega | refine And.intro ?_ ?_ | exact bnd_andl (by omega) | exact bnd_andr (by omega) | refine bnd_or ?_ ?_ | refine bnd_or31 ?_ ?_ | refine bnd_xor ?_ ?_ | refine bnd_xor31 ?_ ?_ | refine bnd_shr ?_ | refine bnd_shl ?_ ?_ | refine bnd_mod ?_ | refine bnd_andl ?_ | fail))) | (refine EqN.addN _ _ (by first | with_reducible rfl | with_reducible exact cst1 | with_reducible exact cst0 | with_reducible exact cst2 | with_reducible exact cst3 | with_reducible exact cst4 | with_reducible exact cst5 | with_reducible exact cst6 | with_reducible exact cst7 | with_reducible exact cst8 | with_reducible exact cst14 | with_reducible exact cst15 | with_reducible exact cst25 | with_reducible exact cst30 | with_reducible exact cst31 | fail) (by first | with_reducible rfl | with_reducible exact cst1 | with_reducible exact cst0 | with_reducible exact cst2 | with_reducible exact cst3 | with_reducible exact cst4 | with_reducible exact cst5 | with_reducible exact cst6 | with_reducible exact cst7 | with_reducible exact cst8 | with_reducible exact cst14 | with_reducible exact cst15 | with_reducible exact cst25 | with_reducible exact cst30 | with_reducible exact cst31 | fail) ?_ ?_; · (repeat' (first | omega | refine And.intro ?_ ?_ | exact bnd_andl (by omega) | exact bnd_andr (by omega) | refine bnd_or ?_ ?_ | refine bnd_or31 ?_ ?_ | refine bnd_xor ?_ ?_ | refine bnd_xor31 ?_ ?_ | refine bnd_shr ?_ | refine bnd_shl ?_ ?_ | refine bnd_mod ?_ | refine bnd_andl ?_ | fail))) | (refine EqN.subN _ _ (by first | with_reducible rfl | with_reducible exact cst1 | with_reducible exact cst0 | with_reducible exact cst2 | with_reducible exact cst3 | with_reducible exact cst4 | with_reducible exact cst5 | with_reducible exact cst6 | with_reducible exact cst7 | with_reducible exact cst8 | with_reducible exact cst14 | with_reducible exact cst15 | with_reducible exact cst25 | with_reducible exact cst30 | with_reducible exact cst31 | fail) (by first | with_reducible rfl | with_reducible exact cst1 | with_reducible exact cst0 | with_reducible exact cst2 | with_reducible exact cst3 | with_reducible exact cst4 | with_reducible exact cst5 | with_reducible exact cst6 | with_reducible exact cst7 | with_reducible exact cst8 | with_reducible exact cst14 | with_reducible exact cst15 | with_reducible exact cst25 | with_reducible exact cst30 | with_reducible exact cst31 | fail) ?_ ?_; · (repeat' (first | omega | refine And.intro ?_ ?_ | exact bnd_andl (by omega) | exact bnd_andr (by omega) | refine bnd_or ?_ ?_ | refine bnd_or31 ?_ ?_ | refine bnd_xor ?_ ?_ | refine bnd_xor31 ?_ ?_ | refine bnd_shr ?_ | refine bnd_shl ?_ ?_ | refine bnd_mod ?_ | refine bnd_andl ?_ | fail))) | refine EqN.i64 (by omega) ?_ | fail) | (refine SideN.mk ?_ ?_; · first | kernel_rfl | omega | exact List.cons_ne_nil _ _ | (simp; done) | (simp; omega) | exact trivial | assumption | fail) | (refine CallN.id ?_; first | refine CallN.det _ (awake_c _) ?_ | refine CallN.det _ (hmd _) ?_ | refine CallN.det _ (hbu _) ?_ | refine CallN.det _ (hAt _) ?_ | refine CallN.det _ (hP _) ?_ | refine CallN.det _ (hP2 _) ?_ | refine CallN.det _ (hS1 _) ?_ | refine CallN.det _ (hS2 _) ?_ | refine CallN.det _ (hS3 _) ?_ | refine CallN.det _ (hH _) ?_ | refine CallN.det _ (hV _) ?_ | refine CallN.det _ (hM _) ?_ | fail) | fail))); all_goals (conv => whnf)
  all_goals first
    | exact EndN.det trivial (Wk.refl _)
    | (exfalso; split at hnext; all_goals omega)
    | (rename_i hx; exact absurd (by rw [hb1]) hx)
    | fail
end Go.Proofs.YtjflngchbeegcaaDoor
