/- A text of the proof: the parts L14, M14. -/
import Derived.Test.YtjflngchbeegcaaDoorK8
set_option linter.unusedSimpArgs false
set_option linter.unusedVariables false
/-! text L14 -/
namespace Go.Proofs.YtjflngchbeegcaaDoor
open Go.Vsi
set_option maxHeartbeats 4000000
attribute [local irreducible] VW VCall VO bits

/-! ### TraceSuffix -/
theorem ev_bit {t : Tr} (ht : t.Ok) (f : Fm) (x : Nat) : (evT t f >>> posN t.n t.lp x) &&& 1 = (tm t.n t.lp (evT t f) x).toNat := bit1 _ _
theorem posN_next {n lp : Nat} (hn : n ≤ 5) (hl : lp < n) (x : Nat) : posN n lp (x + 1) = if posN n lp x + 1 < n then posN n lp x + 1 else lp := by
  rw [← posN_add hn hl]
  have hp := posN_lt (x := x) hl
  generalize posN n lp x = p at hp
  by_cases h : p + 1 < n
  · rw [if_pos h]; exact posN_self h
  · rw [if_neg h]
    have : p + 1 = n := by omega
    rw [this]
    unfold posN
    rw [if_neg (Nat.lt_irrefl n), Nat.mod_self]
    rfl
theorem suffix_c (sz lp x y z : Nat) (code : List Nat) (tt u : Nat) (hs : sz ≤ 255) (hl : lp ≤ 255) (hx : x ≤ 255) (hy : y ≤ 255) (hz : z ≤ 255) (hcd : code.length ≤ 9223372036854775807) (hcb : ∀ i, i < code.length → code.getD i 0 ≤ 255) (ht : tt ≤ 65535) (hu : u ≤ 65535) (H : Heap) :
    VDet Tryd.prog 6 [.int .u8 sz, .int .u8 lp, .agg [.int .u8 x, .int .u8 y, .int .u8 z], .sl none code.length (code.flatMap encB), .int .u16 tt, .int .u16 u] H (.bool true) := by
  have hmd := fun H => Made_c sz lp x y z hs hl hx hy hz H
  have hbu := fun H => built_c code hcd hcb H
  obtain ⟨hg, hnd⟩ := blt_ok code
  generalize bltF code = f at hbu hg hnd
  obtain ⟨n, l, a, b, c, he, h1, h5, hln, ha, hb, hc⟩ := made_ex sz lp x y z
  rw [he] at hmd
  have hm := ok3 n l a b c h1 h5 hln ha hb hc
  have hms := miss_pqr n l a b c f hg.pqr
  have hms2 : miss (sufT ⟨n, l, [(80, a), (81, b), (82, c)]⟩ tt) f = false := (miss_taken _ _ _ f).trans hms
  have hAt := fun H => At_c _ hm f hg.ok hg.temp (by omega) H
  rw [hms] at hAt
  have hP := fun H => Position_c _ hm tt (by omega) H
  have hP2 := fun H => Position_c _ hm (tt + 1) (by omega) H
  have hS1 := fun H => Suffix_c _ hm tt (by omega) H
  have hS3 := fun H => Suffix_c _ hm (tt + u) (by omega) H
  have hso := sufT_ok hm tt
  have hS2 := fun H => Suffix_c _ hso u (by omega) H
  have hH := fun H => Holds_c _ hso f hg.ok hg.temp (by omega) hms2 H
  have hV := fun H => valid_t hso H
  have e1 := suf_suf hm tt u
  rw [e1] at hS2
  have hM := fun H => sameModel_c (sufT ⟨n, l, [(80, a), (81, b), (82, c)]⟩ (tt + u)) (sufT ⟨n, l, [(80, a), (81, b), (82, c)]⟩ (tt + u)) (sufT_ok hm (tt + u)).len (sufT_ok hm (tt + u)).len H
  rw [(eqT_iff _ _).2 rfl] at hM
  have hsem := sufT_sem hm tt f 0
  have hb1 := ev_bit hm f tt
  have hb2 : evT (sufT ⟨n, l, [(80, a), (81, b), (82, c)]⟩ tt) f &&& 1 = (tm (sufT ⟨n, l, [(80, a), (81, b), (82, c)]⟩ tt).n (sufT ⟨n, l, [(80, a), (81, b), (82, c)]⟩ tt).lp (evT (sufT ⟨n, l, [(80, a), (81, b), (82, c)]⟩ tt) f) 0).toNat := by
    have := ev_bit hso f 0
    rwa [posN_self hso.n1, Nat.shiftRight_zero] at this
  rw [Nat.zero_add] at hsem
  rw [hsem] at hb1
  rw [hb2] at hH
  have hpq := posN_add h5 hln tt 1
  have hpl : posN n l tt < n := posN_lt hln
  have hsn : (sufT ⟨n, l, [(80, a), (81, b), (82, c)]⟩ tt).n ≤ n := by rw [sufT_n]; exact sufK_le
  have hlt := evT_lt hm f
  have hlt32 := p2_32 hlt h5
  generalize tm (sufT ⟨n, l, [(80, a), (81, b), (82, c)]⟩ tt).n _ _ 0 = B at hb1 hH
  clear hb2 hsem e1
  generalize sufT ⟨n, l, [(80, a), (81, b), (82, c)]⟩ (tt + u) = S3 at *
  generalize sufT ⟨n, l, [(80, a), (81, b), (82, c)]⟩ tt = S at *
  generalize evT ⟨n, l, [(80, a), (81, b), (82, c)]⟩ f = E at *
  simp only [Bool.false_eq_true, if_false] at hAt
  have hnext := posN_next h5 hln tt
  simp only at hb1 hP hP2
  generalize posN n l (tt + 1) = q at *
  generalize posN n l tt = p at *
  unfold Tr.cells at hmd hAt hP hP2 hS1 hS2 hS3 hH hV hM
  unfold Fm.cells at hbu hAt hH
  simp only at hmd hAt hP hP2 hS1 hS2 hS3 hH hV hM hbu
  refine fn_det Tryd.E0 Tryd.mx Tryd.func6 (by kernel_rfl) rfl (Nat.le_of_ble_eq_true rfl) rfl fun hcl hbl => ?_
  (repeat' ((conv => whnf); (first | (refine IfN.id ?_; first | refine IfN.not ?_ | refine IfN.tt rfl ?_ | refine IfN.dT (by omega) ?_ | refine IfN.dF (by omega) ?_ | refine IfN.dec (fun _ => ?_) (fun _ => ?_) | fail) | (refine EqN.id ?_; first | (refine EqN.and _ _ (by first | with_reducible rfl | with_reducible exact cst1 | with_reducible exact cst0 | with_reducible exact cst2 | with_reducible exact cst3 | with_reducible exact cst4 | with_reducible exact cst5 | with_reducible exact cst6 | with_reducible exact cst7 | with_reducible exact cst8 | with_reducible exact cst14 | with_reducible exact cst15 | with_reducible exact cst25 | with_reducible exact cst30 | with_reducible exact cst31 | fail) (by first | with_reducible rfl | with_reducible exact cst1 | with_reducible exact cst0 | with_reducible exact cst2 | with_reducible exact cst3 | with_reducible exact cst4 | with_reducible exact cst5 | with_reducible exact cst6 | with_reducible exact cst7 | with_reducible exact cst8 | with_reducible exact cst14 | with_reducible exact cst15 | with_reducible exact cst25 | with_reducible exact cst30 | with_reducible exact cst31 | fail) ?_ ?_; · (repeat' (first | omega | refine And.intro ?_ ?_ | exact bnd_andl (by omega) | exact bnd_andr (by omega) | refine bnd_or ?_ ?_ | refine bnd_or31 ?_ ?_ | refine bnd_xor ?_ ?_ | refine bnd_xor31 ?_ ?_ | refine bnd_shr ?_ | refine bnd_shl ?_ ?_ | refine bnd_mod ?_ | refine bnd_andl ?_ | fail))) | (refine EqN.shrN _ _ (by first | with_reducible rfl | with_reducible exact cst1 | with_reducible exact cst0 | with_reducible exact cst2 | with_reducible exact cst3 | with_reducible exact cst4 | with_reducible exact cst5 | with_reducible exact cst6 | with_reducible exact cst7 | with_reducible exact cst8 | with_reducible exact cst14 | with_reducible exact cst15 | with_reducible exact cst25 | with_reducible exact cst30 | with_reducible exact cst31 | fail) (by first | with_reducible rfl | with_reducible exact cst1 | with_reducible exact cst0 | with_reducible exact cst2 | with_reducible exact cst3 | with_reducible exact cst4 | with_reducible exact cst5 | with_reducible exact cst6 | with_reducible exact cst7 | with_reducible exact cst8 | with_reducible exact cst14 | with_reducible exact cst15 | with_reducible exact cst25 | with_reducible exact cst30 | with_reducible exact cst31 | fail) rfl ?_ ?_; · (repeat' (first | omega | refine And.intro ?_ ?_ | exact bnd_andl (by omega) | exact bnd_andr (by omega) | refine bnd_or ?_ ?_ | refine bnd_or31 ?_ ?_ | refine bnd_xor ?_ ?_ | refine bnd_xor31 ?_ ?_ | refine bnd_shr ?_ | refine bnd_shl ?_ ?_ | refine bnd_mod ?_ | refine bnd_andl ?_ | fail))) | (refine EqN.addN _ _ (by first | with_reducible rfl | with_reducible exact cst1 | with_reducible exact cst0 | with_reducible exact cst2 | with_reducible exact cst3 | with_reducible exact cst4 | with_reducible exact cst5 | with_reducible exact cst6 | with_reducible exact cst7 | with_reducible exact cst8 | with_reducible exact cst14 | with_reducible exact cst15 | with_reducible exact cst25 | with_reducible exact cst30 | with_reducible exact cst31 | fail) (by first | with_reducible rfl | with_reducible exact cst1 | with_reducible exact cst0 | with_reducible exact cst2 | with_reducible exact cst3 | with_reducible exact cst4 | with_reducible exact cst5 | with_reducible exact cst6 | with_reducible exact cst7 | with_reducible exact cst8 | with_reducible exact cst14 | with_reducible exact cst15 | with_reducible exact cst25 | with_reducible exact cst30 | with_reducible exact cst31 | fail) ?_ ?_; · (repeat' (first | omega | refine And.intro ?_ ?_ | exact bnd_andl (by omega) | exact bnd_andr (by omega) | refine bnd_or ?_ ?_ | refine bnd_or31 ?_ ?_ | refine bnd_xor ?_ ?_ | refine bnd_xor31 ?_ ?_ | refine bnd_shr ?_ | refine bnd_shl ?_ ?_ | refine bnd_mod ?_ | refine bnd_andl ?_ | fail))) | (refine EqN.subN _ _ (by first | with_reducible rfl | with_reducible exact cst1 | with_reducible exact cst0 | with_reducible exact cst2 | with_reducible exact cst3 | with_reducible exact cst4 | with_reducible exact cst5 | with_reducible exact cst6 | with_reducible exact cst7 | with_reducible exact cst8 | with_reducible exact cst14 | with_reducible exact cst15 | with_reducible exact cst25 | with_reducible exact cst30 | with_reducible exact cst31 | fail) (by first | with_reducible rfl | with_reducible exact cst1 | with_reducible exact cst0 | with_reducible exact cst2 | with_reducible exact cst3 | with_reducible exact cst4 | with_reducible exact cst5 | with_reducible exact cst6 | with_reducible exact cst7 | with_reducible exact cst8 | with_reducible exact cst14 | with_reducible exact cst15 | with_reducible exact cst25 | with_reducible exact cst30 | with_reducible exact cst31 | fail) ?_ ?_; · (repeat' (first | omega | refine And.intro ?_ ?_ | exact bnd_andl (by omega) | exact bnd_andr (by omega) | refine bnd_or ?_ ?_ | refine bnd_or31 ?_ ?_ | refine bnd_xor ?_ ?_ | refine bnd_xor31 ?_ ?_ | refine bnd_shr ?_ | refine bnd_shl ?_ ?_ | refine bnd_mod ?_ | refine bnd_andl ?_ | fail))) | refine EqN.i64 (by omega) ?_ | fail) | (refine SideN.mk ?_ ?_; · first | kernel_rfl | omega | exact List.cons_ne_nil _ _ | (simp; done) | (simp; omega) | exact trivial | assumption | fail) | (refine CallN.id ?_; first | refine CallN.det _ (awake_c _) ?_ | refine CallN.det _ (hmd _) ?_ | refine CallN.det _ (hbu _) ?_ | refine CallN.det _ (hAt _) ?_ | refine CallN.det _ (hP _) ?_ | refine CallN.det _ (hP2 _) ?_ | refine CallN.det _ (hS1 _) ?_ | refine CallN.det _ (hS2 _) ?_ | refine CallN.det _ (hS3 _) ?_ | refine CallN.det _ (hH _) ?_ | refine CallN.det _ (hV _) ?_ | refine CallN.det _ (hM _) ?_ | fail) | fail))); all_goals (conv => whnf)
  all_goals first
    | exact EndN.det trivial (Wk.refl _)
    | (exfalso; split at hnext; all_goals omega)
    | (rename_i hx; exact absurd (by rw [hb1]) hx)
    | fail
end Go.Proofs.YtjflngchbeegcaaDoor
/-! text M14 -/
namespace Go.Proofs.YtjflngchbeegcaaDoor
open Go.Vsi
set_option maxHeartbeats 8000000
attribute [local irreducible] VW VCall VO bits

/-! ### TraceLaws: the plain laws -/
theorem ev_eq {t : Tr} (ht : t.Ok) {a b : Nat} (ha : a < 2 ^ t.n) (hb : b < 2 ^ t.n) (h : ∀ x, tm t.n t.lp a x = tm t.n t.lp b x) : a = b := eq_of_tm ha hb h
theorem tm_ev_al {t : Tr} (ht : t.Ok) (f : Fm) (x : Nat) : tm t.n t.lp (evT t (.f1 13 f)) x = true ↔ ∀ j, tm t.n t.lp (evT t f) (x + j) = true := tm_al ht.n5 ht.lp (evT_lt ht f) x
theorem tm_ev_un {t : Tr} (ht : t.Ok) (f g : Fm) (x : Nat) : tm t.n t.lp (evT t (.f2 14 f g)) x = true ↔ ∃ j, tm t.n t.lp (evT t g) (x + j) = true ∧ ∀ i, i < j → tm t.n t.lp (evT t f) (x + i) = true := tm_un ht.n5 ht.lp (evT_lt ht f) (evT_lt ht g) x
theorem tm_ev_next {t : Tr} (ht : t.Ok) (f : Fm) (x : Nat) : tm t.n t.lp (evT t (.f1 12 f)) x = tm t.n t.lp (evT t f) (x + 1) := tm_bef ht.n5 ht.lp _ _
theorem tm_ev_not {t : Tr} (ht : t.Ok) (f : Fm) (x : Nat) : tm t.n t.lp (evT t (.f1 3 f)) x = !tm t.n t.lp (evT t f) x := tm_nt ht.lp _ _
theorem tm_ev_and {t : Tr} (f g : Fm) (x : Nat) : tm t.n t.lp (evT t (.f2 4 f g)) x = (tm t.n t.lp (evT t f) x && tm t.n t.lp (evT t g) x) := tm_and ..
theorem tm_ev_or {t : Tr} (f g : Fm) (x : Nat) : tm t.n t.lp (evT t (.f2 5 f g)) x = (tm t.n t.lp (evT t f) x || tm t.n t.lp (evT t g) x) := tm_or ..
theorem tm_ev_imp {t : Tr} (ht : t.Ok) (f g : Fm) (x : Nat) : tm t.n t.lp (evT t (.f2 6 f g)) x = (!tm t.n t.lp (evT t f) x || tm t.n t.lp (evT t g) x) := by
  rw [← tm_nt ht.lp]; exact tm_or ..
theorem tm_ev_iff {t : Tr} (ht : t.Ok) (f g : Fm) (x : Nat) : tm t.n t.lp (evT t (.f2 7 f g)) x = !(tm t.n t.lp (evT t f) x ^^ tm t.n t.lp (evT t g) x) := by
  rw [← tm_xor]; exact tm_nt ht.lp _ _
theorem tm_ev_fa {t : Tr} (x : Nat) : tm t.n t.lp (evT t .fa) x = false := tm_0 x
theorem law1 {t : Tr} (ht : t.Ok) (F : Fm) : evT t (.f1 13 F) = evT t F &&& evT t (.f1 12 (.f1 13 F)) := (al_fix ht.n5 ht.lp (evT_lt ht F)).symm
theorem law2 {t : Tr} (ht : t.Ok) (F G : Fm) : evT t (.f2 14 F G) = evT t G ||| (evT t F &&& evT t (.f1 12 (.f2 14 F G))) := (un_fix ht.n5 ht.lp (evT_lt ht F) (evT_lt ht G)).symm
theorem law3 {t : Tr} (ht : t.Ok) (F : Fm) : evT t (.f1 3 (.f1 13 (.f1 3 F))) = evT t (.f2 14 (.f1 3 .fa) F) := by
  refine ev_eq ht (evT_lt ht _) (evT_lt ht _) fun x => ?_
  rw [tm_ev_not ht]
  cases hA : tm t.n t.lp (evT t (.f1 13 (.f1 3 F))) x with
  | true =>
    rw [tm_ev_al ht] at hA
    symm
    rw [Bool.not_true, ← Bool.not_eq_true, tm_ev_un ht]
    rintro ⟨j, hj, _⟩
    have := hA j
    rw [tm_ev_not ht, hj] at this
    cases this
  | false =>
    symm
    rw [Bool.not_false, tm_ev_un ht]
    apply Classical.byContradiction
    intro hn
    rw [← Bool.not_eq_true, tm_ev_al ht] at hA
    exact hA fun j => by
      rw [tm_ev_not ht]
      cases hc : tm t.n t.lp (evT t F) (x + j) with
      | false => rfl
      | true => exact absurd ⟨j, hc, fun i _ => by rw [tm_ev_not ht, tm_ev_fa]; rfl⟩ hn
theorem law4 {t : Tr} (ht : t.Ok) (F : Fm) : evT t (.f1 12 (.f1 3 F)) = nt (every t.n) (evT t (.f1 12 F)) := by
  refine ev_eq ht (evT_lt ht _) (nt_lt (every_lt2 _)) fun x => ?_
  rw [tm_nt ht.lp, tm_ev_next ht, tm_ev_next ht, tm_ev_not ht]
theorem law5 {t : Tr} (ht : t.Ok) (F G : Fm) (k : Nat) (hk : k = 4 ∨ k = 5 ∨ k = 6 ∨ k = 7) : evT t (.f1 12 (.f2 k F G)) = evT t (.f2 k (.f1 12 F) (.f1 12 G)) := by
  refine ev_eq ht (evT_lt ht _) (evT_lt ht _) fun x => ?_
  rw [tm_ev_next ht]
  rcases hk with rfl | rfl | rfl | rfl
  · rw [tm_ev_and, tm_ev_and, tm_ev_next ht, tm_ev_next ht]
  · rw [tm_ev_or, tm_ev_or, tm_ev_next ht, tm_ev_next ht]
  · rw [tm_ev_imp ht, tm_ev_imp ht, tm_ev_next ht, tm_ev_next ht]
  · rw [tm_ev_iff ht, tm_ev_iff ht, tm_ev_next ht, tm_ev_next ht]
theorem law6 {t : Tr} (ht : t.Ok) (F : Fm) : evT t (.f2 6 (.f2 4 F (.f1 13 (.f2 6 F (.f1 12 F)))) (.f1 13 F)) = every t.n := by
  refine ev_eq ht (evT_lt ht _) (every_lt2 _) fun x => ?_
  rw [tm_every ht.lp, tm_ev_imp ht, tm_ev_and]
  cases h1 : tm t.n t.lp (evT t F) x with
  | false => rfl
  | true =>
    cases h2 : tm t.n t.lp (evT t (.f1 13 (.f2 6 F (.f1 12 F)))) x with
    | false => rfl
    | true =>
      rw [tm_ev_al ht] at h2
      have h3 : tm t.n t.lp (evT t (.f1 13 F)) x = true := by
        rw [tm_ev_al ht]
        intro j
        induction j with
        | zero => exact h1
        | succ j ih =>
          have := h2 j
          rw [tm_ev_imp ht, tm_ev_next ht, ih] at this
          rw [← Nat.add_assoc]
          simpa using this
      rw [h3]; rfl
theorem law7 {t : Tr} (ht : t.Ok) (F G : Fm) : evT t (.f2 6 (.f2 14 F G) (.f2 14 (.f1 3 .fa) G)) = every t.n := by
  refine ev_eq ht (evT_lt ht _) (every_lt2 _) fun x => ?_
  rw [tm_every ht.lp, tm_ev_imp ht]
  cases h1 : tm t.n t.lp (evT t (.f2 14 F G)) x with
  | false => rfl
  | true =>
    rw [tm_ev_un ht] at h1
    obtain ⟨j, hj, _⟩ := h1
    have h3 : tm t.n t.lp (evT t (.f2 14 (.f1 3 .fa) G)) x = true := by
      rw [tm_ev_un ht]
      exact ⟨j, hj, fun i _ => by rw [tm_ev_not ht, tm_ev_fa]; rfl⟩
    rw [h3]; rfl
theorem law8 {t : Tr} (ht : t.Ok) (F : Fm) : evT t (.f1 13 (.f1 13 F)) = evT t (.f1 13 F) := by
  refine ev_eq ht (evT_lt ht _) (evT_lt ht _) fun x => ?_
  rw [Bool.eq_iff_iff, tm_ev_al ht, tm_ev_al ht]
  constructor
  · intro h j
    have := h j
    rw [tm_ev_al ht] at this
    exact this 0
  · intro h j
    rw [tm_ev_al ht]
    intro i
    have := h (j + i)
    rwa [← Nat.add_assoc] at this
theorem law9 {t : Tr} (ht : t.Ok) (F G : Fm) : evT t (.f2 14 F (.f2 14 F G)) = evT t (.f2 14 F G) := by
  refine ev_eq ht (evT_lt ht _) (evT_lt ht _) fun x => ?_
  rw [Bool.eq_iff_iff, tm_ev_un ht, tm_ev_un ht]
  constructor
  · rintro ⟨j, h1, h2⟩
    rw [tm_ev_un ht] at h1
    obtain ⟨i, h3, h4⟩ := h1
    refine ⟨j + i, by rw [← Nat.add_assoc]; exact h3, fun k hk => ?_⟩
    rcases Nat.lt_or_ge k j with h | h
    · exact h2 k h
    · have := h4 (k - j) (by omega)
      rwa [show x + j + (k - j) = x + k by omega] at this
  · rintro ⟨j, h1, h2⟩
    refine ⟨0, ?_, fun i hi => absurd hi (Nat.not_lt_zero i)⟩
    rw [tm_ev_un ht]
    exact ⟨j, h1, h2⟩

/-! ### the closures of TraceLaws -/
theorem not_c (a : Fm) (H : Heap) : VDet Tryd.prog 22 [.agg a.cells] H (.agg (Fm.f1 3 a).cells) := by
  have hj := fun H => join1_c 3 a H
  have hb : ∀ m, belowL m (Fm.f1 3 a).cells := fun m => by simp [Fm.cells, below, belowL, Fm.sc_below]
  generalize (Fm.f1 3 a) = r at hj hb ⊢
  unfold Fm.cells at hj hb ⊢
  refine fn_det Tryd.E0 Tryd.mx Tryd.func22 (by kernel_rfl) rfl (Nat.le_of_ble_eq_true rfl) rfl fun hcl hbl => ?_
  (repeat' ((conv => whnf); (first | (refine CallN.id ?_; first | refine CallN.det _ (VDet.wk (hj _) ⟨Wk.refl _, wk_sx _ _, trivial⟩) ?_ | fail) | fail))); all_goals (conv => whnf)
  exact EndN.det (hb _) (Wk.refl _)
theorem next_c (a : Fm) (H : Heap) : VDet Tryd.prog 24 [.agg a.cells] H (.agg (Fm.f1 12 a).cells) := by
  have hj := fun H => join1_c 12 a H
  have hb : ∀ m, belowL m (Fm.f1 12 a).cells := fun m => by simp [Fm.cells, below, belowL, Fm.sc_below]
  generalize (Fm.f1 12 a) = r at hj hb ⊢
  unfold Fm.cells at hj hb ⊢
  refine fn_det Tryd.E0 Tryd.mx Tryd.func24 (by kernel_rfl) rfl (Nat.le_of_ble_eq_true rfl) rfl fun hcl hbl => ?_
  (repeat' ((conv => whnf); (first | (refine CallN.id ?_; first | refine CallN.det _ (VDet.wk (hj _) ⟨Wk.refl _, wk_sx _ _, trivial⟩) ?_ | fail) | fail))); all_goals (conv => whnf)
  exact EndN.det (hb _) (Wk.refl _)
theorem alw_c (a : Fm) (H : Heap) : VDet Tryd.prog 25 [.agg a.cells] H (.agg (Fm.f1 13 a).cells) := by
  have hj := fun H => join1_c 13 a H
  have hb : ∀ m, belowL m (Fm.f1 13 a).cells := fun m => by simp [Fm.cells, below, belowL, Fm.sc_below]
  generalize (Fm.f1 13 a) = r at hj hb ⊢
  unfold Fm.cells at hj hb ⊢
  refine fn_det Tryd.E0 Tryd.mx Tryd.func25 (by kernel_rfl) rfl (Nat.le_of_ble_eq_true rfl) rfl fun hcl hbl => ?_
  (repeat' ((conv => whnf); (first | (refine CallN.id ?_; first | refine CallN.det _ (VDet.wk (hj _) ⟨Wk.refl _, wk_sx _ _, trivial⟩) ?_ | fail) | fail))); all_goals (conv => whnf)
  exact EndN.det (hb _) (Wk.refl _)
theorem til_c (a b : Fm) (H : Heap) : VDet Tryd.prog 26 [.agg a.cells, .agg b.cells] H (.agg (Fm.f2 14 a b).cells) := by
  have hj := fun H => join2_c 14 a b H
  have hb : ∀ m, belowL m (Fm.f2 14 a b).cells := fun m => by simp [Fm.cells, below, belowL, Fm.sc_below]
  generalize (Fm.f2 14 a b) = r at hj hb ⊢
  unfold Fm.cells at hj hb ⊢
  refine fn_det Tryd.E0 Tryd.mx Tryd.func26 (by kernel_rfl) rfl (Nat.le_of_ble_eq_true rfl) rfl fun hcl hbl => ?_
  (repeat' ((conv => whnf); (first | (refine CallN.id ?_; first | refine CallN.det _ (VDet.wk (hj _) ⟨Wk.refl _, wk_sx _ _, trivial⟩) ?_ | fail) | fail))); all_goals (conv => whnf)
  exact EndN.det (hb _) (Wk.refl _)
/-- the closure at: it writes into ok what is there -/
theorem at21 {t : Tr} (ht : t.Ok) {f : Fm} (hf : f.Ok) (htf : f.Temp) (hn : f.Small) (hm : miss t f = false) (v : Nat) (hv : evT t f = v) (H : Heap) (i1 i2 : Nat) (h1 : H[i1]? = some (.box 30 t.cells)) (h2 : H[i2]? = some (.box 4 [.bool true])) :
    VDet Tryd.prog 21 [.agg f.cells, .ptr i1 0, .ptr i2 0] H (.int .i64 v) := by
  subst hv
  have hA := fun H => At_d t ht f hf htf hn H
  rw [hm] at hA
  simp only [Bool.false_eq_true, if_false] at hA
  have hset : H.set i2 (.box 4 [.bool true]) = H := by
    obtain ⟨q1, q2⟩ := List.getElem?_eq_some_iff.1 h2
    rw [← q2]; exact List.set_getElem_self q1
  suffices h : VCall Tryd.prog 21 [.agg f.cells, .ptr i1 0, .ptr i2 0] H (setR H i2 (.box 4 [.bool true]) (.int .i64 (evT t f : Nat))) from
    VCall.mono h fun r H' hr => ⟨hr.1.trans hset, hr.2⟩
  generalize evT t f = e at hA ⊢
  unfold Tr.cells at hA h1
  unfold Fm.cells at hA ⊢
  refine fn_gen Tryd.E0 Tryd.mx Tryd.func21 (by kernel_rfl) rfl (Nat.le_of_ble_eq_true rfl) rfl fun hcl hbl => ?_
  (repeat' ((conv => whnf); (first | (refine IfN.id ?_; first | refine IfN.tt rfl ?_ | fail) | refine SetN.mk _ rfl ?_ | (refine CallN.id ?_; first | refine CallN.det _ (hA _) ?_ | fail) | (refine PtrN.id ?_; first | refine PtrN.base _ (by (repeat' (first | assumption | exact at_loc' _ rfl | exact at_loc0 rfl | refine at_set (B' := ?_) ?_ | refine at_base' ?_ | fail))) ?_ | fail) | fail))); all_goals (conv => whnf)
  exact EndN.setB (by simp [Blk.below, belowL, below]) trivial (Wk.refl _)
/-! ### small codes -/
theorem blt16 (l : List Nat) (h : l.length ≤ 16) : (bltF l).Good ∧ (bltF l).nodes ≤ 31 := by
  refine ⟨(blt_ok l).1, ?_⟩
  have h1 := bst_ok l l.length
  have h2 := bst_len l l.length
  have he : bst (l.take 20) = bst (l.take l.length) := by rw [List.take_of_length_le (show l.length ≤ 20 by omega), List.take_length]
  unfold bltF finF
  rw [he]
  split
  · simp [Fm.nodes]
  · rename_i hn
    obtain ⟨q1, q2⟩ := orN_ok h1 _ (show (bst (l.take l.length)).length - 1 < (bst (l.take l.length)).length by omega)
    have := sum_le (bst (l.take l.length)) ((bst (l.take l.length)).length - 1 + 1)
    have := h1.sum
    omega
structure Nice (t : Tr) (f : Fm) (N D : Nat) : Prop where
  good : f.Good
  n : f.nodes ≤ N
  d : f.depth ≤ D
theorem nice1 {t : Tr} {a : Fm} {N D : Nat} (h : Nice t a N D) (k : Nat) (hk : k = 3 ∨ k = 12 ∨ k = 13) : Nice t (.f1 k a) (N + 1) (D + 1) :=
  ⟨good_1 h.good k hk, by have := h.n; simp only [Fm.nodes]; omega, by have := h.d; simp only [Fm.depth]; omega⟩
theorem nice2 {t : Tr} {a b : Fm} {N D M E : Nat} (h : Nice t a N D) (g : Nice t b M E) (k : Nat) (hk : k = 4 ∨ k = 5 ∨ k = 6 ∨ k = 7 ∨ k = 14) : Nice t (.f2 k a b) (N + M + 1) (max D E + 1) :=
  ⟨good_2 h.good g.good k hk, by have := h.n; have := g.n; simp only [Fm.nodes]; omega, by have := h.d; have := g.d; simp only [Fm.depth]; omega⟩
theorem nice0 (t : Tr) : Nice t .fa 1 1 := ⟨good_fa, Nat.le_refl _, Nat.le_refl _⟩
theorem at21n {n l a b c : Nat} (ht : Tr.Ok ⟨n, l, [(80, a), (81, b), (82, c)]⟩) {f : Fm} {N D : Nat} (h : Nice ⟨n, l, [(80, a), (81, b), (82, c)]⟩ f N D) (hN : N ≤ 400) (hD : D ≤ 40) (v : Nat) (hv : evT ⟨n, l, [(80, a), (81, b), (82, c)]⟩ f = v) (H : Heap) (i1 i2 : Nat) (h1 : H[i1]? = some (.box 30 (Tr.cells ⟨n, l, [(80, a), (81, b), (82, c)]⟩))) (h2 : H[i2]? = some (.box 4 [.bool true])) :
    VDet Tryd.prog 21 [.agg f.cells, .ptr i1 0, .ptr i2 0] H (.int .i64 v) :=
  at21 ht h.good.ok h.good.temp ⟨Nat.le_trans h.n hN, Nat.le_trans h.d hD⟩ (miss_pqr n l a b c f h.good.pqr) v hv H i1 i2 h1 h2
theorem SubN.min16 {k : List AV → Prop} (l : List Nat) (h : k ((l.take (min l.length 16)).flatMap encB)) : SubN (l.flatMap encB) (0 * 1) (((min (l.length : Int) 16).toNat - 0) * 1) k := by
  refine ⟨_, ⟨⟨(l.drop (min l.length 16)).flatMap encB, ?_⟩, ?_⟩, h⟩
  · rw [Nat.zero_mul, ← List.flatMap_append, List.take_append_drop]
    rfl
  · rw [flat_length (sz := 1) (fun _ => rfl), List.length_take]
    omega
theorem laws_c (sz lp x y z : Nat) (one two : List Nat) (hs : sz ≤ 255) (hl : lp ≤ 255) (hx : x ≤ 255) (hy : y ≤ 255) (hz : z ≤ 255) (h1l : one.length ≤ 9223372036854775807) (h1b : ∀ i, i < one.length → one.getD i 0 ≤ 255) (h2l : two.length ≤ 9223372036854775807) (h2b : ∀ i, i < two.length → two.getD i 0 ≤ 255) (H : Heap) :
    VDet Tryd.prog 5 [.int .u8 sz, .int .u8 lp, .agg [.int .u8 x, .int .u8 y, .int .u8 z], .sl none one.length (one.flatMap encB), .sl none two.length (two.flatMap encB)] H (.bool true) := by
  have hmd := fun H => Made_c sz lp x y z hs hl hx hy hz H
  have tk : ∀ (l : List Nat), l.length ≤ 9223372036854775807 → (∀ i, i < l.length → l.getD i 0 ≤ 255) → ∃ F : Fm, F.Good ∧ F.nodes ≤ 31 ∧ ∀ H, VDet Tryd.prog 11 [.sl none ((min (l.length : Int) 16).toNat - 0) ((l.take (min l.length 16)).flatMap encB)] H (.agg F.cells) := fun l hl hb => by
    have hlen : (l.take (min l.length 16)).length = min l.length 16 := by rw [List.length_take]; omega
    obtain ⟨q1, q2⟩ := blt16 (l.take (min l.length 16)) (by omega)
    refine ⟨_, q1, q2, fun H => ?_⟩
    have := built_c (l.take (min l.length 16)) (by omega) (fun i hi => by
      rw [hlen] at hi
      have := hb i (by omega)
      simpa [List.getD, List.getElem?_take, hi, show i < l.length by omega] using this) H
    rw [hlen] at this
    rw [show (min (l.length : Int) 16).toNat - 0 = min l.length 16 by omega]
    exact this
  obtain ⟨F, hFg, hFn, hbF⟩ := tk one h1l h1b
  obtain ⟨G, hGg, hGn, hbG⟩ := tk two h2l h2b
  obtain ⟨n, l, a, b, c, he, h1, h5, hln, ha, hb, hc⟩ := made_ex sz lp x y z
  rw [he] at hmd
  have hm := ok3 n l a b c h1 h5 hln ha hb hc
  have hF : Nice ⟨n, l, [(80, a), (81, b), (82, c)]⟩ F 31 31 := ⟨hFg, hFn, Nat.le_trans F.depth_le hFn⟩
  have hG : Nice ⟨n, l, [(80, a), (81, b), (82, c)]⟩ G 31 31 := ⟨hGg, hGn, Nat.le_trans G.depth_le hGn⟩
  have bA := evT_lt hm (.f1 13 F)
  have aA := at21n hm (nice1 hF 13 (by decide)) (by decide) (by decide) _ rfl
  have bF := evT_lt hm F
  have aF := at21n hm hF (by decide) (by decide) _ rfl
  have bNA := evT_lt hm (.f1 12 (.f1 13 F))
  have aNA := at21n hm (nice1 (nice1 hF 13 (by decide)) 12 (by decide)) (by decide) (by decide) _ rfl
  have bU := evT_lt hm (.f2 14 F G)
  have aU := at21n hm (nice2 hF hG 14 (by decide)) (by decide) (by decide) _ rfl
  have bG := evT_lt hm G
  have aG := at21n hm hG (by decide) (by decide) _ rfl
  have bNU := evT_lt hm (.f1 12 (.f2 14 F G))
  have aNU := at21n hm (nice1 (nice2 hF hG 14 (by decide)) 12 (by decide)) (by decide) (by decide) _ rfl
  have bL3 := evT_lt hm (.f1 3 (.f1 13 (.f1 3 F)))
  have aL3 := at21n hm (nice1 (nice1 (nice1 hF 3 (by decide)) 13 (by decide)) 3 (by decide)) (by decide) (by decide) _ rfl
  have bR3 := evT_lt hm (.f2 14 (.f1 3 .fa) F)
  have aR3 := at21n hm (nice2 (nice1 (nice0 _) 3 (by decide)) hF 14 (by decide)) (by decide) (by decide) _ rfl
  have bL4 := evT_lt hm (.f1 12 (.f1 3 F))
  have aL4 := at21n hm (nice1 (nice1 hF 3 (by decide)) 12 (by decide)) (by decide) (by decide) _ rfl
  have bNF := evT_lt hm (.f1 12 F)
  have aNF := at21n hm (nice1 hF 12 (by decide)) (by decide) (by decide) _ rfl
  have bJ4 := evT_lt hm (.f1 12 (.f2 4 F G))
  have aJ4 := at21n hm (nice1 (nice2 hF hG 4 (by decide)) 12 (by decide)) (by decide) (by decide) _ rfl
  have bK4 := evT_lt hm (.f2 4 (.f1 12 F) (.f1 12 G))
  have aK4 := at21n hm (nice2 (nice1 hF 12 (by decide)) (nice1 hG 12 (by decide)) 4 (by decide)) (by decide) (by decide) _ rfl
  have bJ5 := evT_lt hm (.f1 12 (.f2 5 F G))
  have aJ5 := at21n hm (nice1 (nice2 hF hG 5 (by decide)) 12 (by decide)) (by decide) (by decide) _ rfl
  have bK5 := evT_lt hm (.f2 5 (.f1 12 F) (.f1 12 G))
  have aK5 := at21n hm (nice2 (nice1 hF 12 (by decide)) (nice1 hG 12 (by decide)) 5 (by decide)) (by decide) (by decide) _ rfl
  have bJ6 := evT_lt hm (.f1 12 (.f2 6 F G))
  have aJ6 := at21n hm (nice1 (nice2 hF hG 6 (by decide)) 12 (by decide)) (by decide) (by decide) _ rfl
  have bK6 := evT_lt hm (.f2 6 (.f1 12 F) (.f1 12 G))
  have aK6 := at21n hm (nice2 (nice1 hF 12 (by decide)) (nice1 hG 12 (by decide)) 6 (by decide)) (by decide) (by decide) _ rfl
  have bJ7 := evT_lt hm (.f1 12 (.f2 7 F G))
  have aJ7 := at21n hm (nice1 (nice2 hF hG 7 (by decide)) 12 (by decide)) (by decide) (by decide) _ rfl
  have bK7 := evT_lt hm (.f2 7 (.f1 12 F) (.f1 12 G))
  have aK7 := at21n hm (nice2 (nice1 hF 12 (by decide)) (nice1 hG 12 (by decide)) 7 (by decide)) (by decide) (by decide) _ rfl
  have bI := evT_lt hm (.f2 6 (.f2 4 F (.f1 13 (.f2 6 F (.f1 12 F)))) (.f1 13 F))
  have aI := at21n hm (nice2 (nice2 hF (nice1 (nice2 hF (nice1 hF 12 (by decide)) 6 (by decide)) 13 (by decide)) 4 (by decide)) (nice1 hF 13 (by decide)) 6 (by decide)) (by decide) (by decide) _ rfl
  have bS := evT_lt hm (.f2 6 (.f2 14 F G) (.f2 14 (.f1 3 .fa) G))
  have aS := at21n hm (nice2 (nice2 hF hG 14 (by decide)) (nice2 (nice1 (nice0 _) 3 (by decide)) hG 14 (by decide)) 6 (by decide)) (by decide) (by decide) _ rfl
  have bAA := evT_lt hm (.f1 13 (.f1 13 F))
  have aAA := at21n hm (nice1 (nice1 hF 13 (by decide)) 13 (by decide)) (by decide) (by decide) _ rfl
  have bUU := evT_lt hm (.f2 14 F (.f2 14 F G))
  have aUU := at21n hm (nice2 hF (nice2 hF hG 14 (by decide)) 14 (by decide)) (by decide) (by decide) _ rfl
  have l1 := law1 hm F
  have l2 := law2 hm F G
  have l3 := law3 hm F
  have l4 := law4 hm F
  have l54 := law5 hm F G 4 (by decide)
  have l55 := law5 hm F G 5 (by decide)
  have l56 := law5 hm F G 6 (by decide)
  have l57 := law5 hm F G 7 (by decide)
  have l6 := law6 hm F
  have l7 := law7 hm F G
  have l8 := law8 hm F
  have l9 := law9 hm F G
  generalize evT ⟨n, l, [(80, a), (81, b), (82, c)]⟩ (.f2 6 (.f2 4 F (.f1 13 (.f2 6 F (.f1 12 F)))) (.f1 13 F)) = vI at *
  generalize evT ⟨n, l, [(80, a), (81, b), (82, c)]⟩ (.f2 6 (.f2 14 F G) (.f2 14 (.f1 3 .fa) G)) = vS at *
  generalize evT ⟨n, l, [(80, a), (81, b), (82, c)]⟩ (.f2 4 (.f1 12 F) (.f1 12 G)) = vK4 at *
  generalize evT ⟨n, l, [(80, a), (81, b), (82, c)]⟩ (.f2 5 (.f1 12 F) (.f1 12 G)) = vK5 at *
  generalize evT ⟨n, l, [(80, a), (81, b), (82, c)]⟩ (.f2 6 (.f1 12 F) (.f1 12 G)) = vK6 at *
  generalize evT ⟨n, l, [(80, a), (81, b), (82, c)]⟩ (.f2 7 (.f1 12 F) (.f1 12 G)) = vK7 at *
  generalize evT ⟨n, l, [(80, a), (81, b), (82, c)]⟩ (.f1 3 (.f1 13 (.f1 3 F))) = vL3 at *
  generalize evT ⟨n, l, [(80, a), (81, b), (82, c)]⟩ (.f2 14 F (.f2 14 F G)) = vUU at *
  generalize evT ⟨n, l, [(80, a), (81, b), (82, c)]⟩ (.f2 14 (.f1 3 .fa) F) = vR3 at *
  generalize evT ⟨n, l, [(80, a), (81, b), (82, c)]⟩ (.f1 12 (.f2 14 F G)) = vNU at *
  generalize evT ⟨n, l, [(80, a), (81, b), (82, c)]⟩ (.f1 12 (.f2 4 F G)) = vJ4 at *
  generalize evT ⟨n, l, [(80, a), (81, b), (82, c)]⟩ (.f1 12 (.f2 5 F G)) = vJ5 at *
  generalize evT ⟨n, l, [(80, a), (81, b), (82, c)]⟩ (.f1 12 (.f2 6 F G)) = vJ6 at *
  generalize evT ⟨n, l, [(80, a), (81, b), (82, c)]⟩ (.f1 12 (.f2 7 F G)) = vJ7 at *
  generalize evT ⟨n, l, [(80, a), (81, b), (82, c)]⟩ (.f1 12 (.f1 13 F)) = vNA at *
  generalize evT ⟨n, l, [(80, a), (81, b), (82, c)]⟩ (.f1 13 (.f1 13 F)) = vAA at *
  generalize evT ⟨n, l, [(80, a), (81, b), (82, c)]⟩ (.f1 12 (.f1 3 F)) = vL4 at *
  generalize evT ⟨n, l, [(80, a), (81, b), (82, c)]⟩ (.f2 14 F G) = vU at *
  generalize evT ⟨n, l, [(80, a), (81, b), (82, c)]⟩ (.f1 13 F) = vA at *
  generalize evT ⟨n, l, [(80, a), (81, b), (82, c)]⟩ (.f1 12 F) = vNF at *
  generalize evT ⟨n, l, [(80, a), (81, b), (82, c)]⟩ F = vF at *
  generalize evT ⟨n, l, [(80, a), (81, b), (82, c)]⟩ G = vG at *
  have he32 := every_lt h5
  have h2n : 2 ^ n ≤ 32 := Nat.pow_le_pow_right (n := 2) (by decide) h5
  simp only at bA bF bNA bU bG bNU bL3 bR3 bL4 bNF bJ4 bK4 bJ5 bK5 bJ6 bK6 bJ7 bK7 bI bS bAA bUU l4 l6 l7
  unfold every at l4 l6 l7 he32
  unfold nt at l4
  have h4 : 1 ≤ 1 <<< n := by rw [Nat.shiftLeft_eq]; have := Nat.two_pow_pos n; omega
  have h6 : 1 <<< n < 64 := by omega
  unfold Tr.cells at hmd
  simp only at hmd
  refine fn_det Tryd.E0 Tryd.mx Tryd.func5 (by kernel_rfl) rfl (Nat.le_of_ble_eq_true rfl) rfl fun hcl hbl => ?_
  (repeat' ((conv => whnf); (first | (refine IfN.id ?_; first | refine IfN.not ?_ | refine IfN.tt rfl ?_ | refine IfN.dT (by omega) ?_ | fail) | (refine EqN.id ?_; first | (refine EqN.and _ _ (by first | with_reducible rfl | with_reducible exact cst1 | with_reducible exact cst0 | with_reducible exact cst2 | with_reducible exact cst3 | with_reducible exact cst4 | with_reducible exact cst5 | with_reducible exact cst6 | with_reducible exact cst7 | with_reducible exact cst8 | with_reducible exact cst14 | with_reducible exact cst15 | with_reducible exact cst25 | with_reducible exact cst30 | with_reducible exact cst31 | fail) (by first | with_reducible rfl | with_reducible exact cst1 | with_reducible exact cst0 | with_reducible exact cst2 | with_reducible exact cst3 | with_reducible exact cst4 | with_reducible exact cst5 | with_reducible exact cst6 | with_reducible exact cst7 | with_reducible exact cst8 | with_reducible exact cst14 | with_reducible exact cst15 | with_reducible exact cst25 | with_reducible exact cst30 | with_reducible exact cst31 | fail) ?_ ?_; · (repeat' (first | omega | refine And.intro ?_ ?_ | exact bnd_andl (by omega) | exact bnd_andr (by omega) | refine bnd_or ?_ ?_ | refine bnd_or31 ?_ ?_ | refine bnd_xor ?_ ?_ | refine bnd_xor31 ?_ ?_ | refine bnd_shr ?_ | refine bnd_shl ?_ ?_ | refine bnd_mod ?_ | refine bnd_andl ?_ | fail))) | (refine EqN.or _ _ (by first | with_reducible rfl | with_reducible exact cst1 | with_reducible exact cst0 | with_reducible exact cst2 | with_reducible exact cst3 | with_reducible exact cst4 | with_reducible exact cst5 | with_reducible exact cst6 | with_reducible exact cst7 | with_reducible exact cst8 | with_reducible exact cst14 | with_reducible exact cst15 | with_reducible exact cst25 | with_reducible exact cst30 | with_reducible exact cst31 | fail) (by first | with_reducible rfl | with_reducible exact cst1 | with_reducible exact cst0 | with_reducible exact cst2 | with_reducible exact cst3 | with_reducible exact cst4 | with_reducible exact cst5 | with_reducible exact cst6 | with_reducible exact cst7 | with_reducible exact cst8 | with_reducible exact cst14 | with_reducible exact cst15 | with_reducible exact cst25 | with_reducible exact cst30 | with_reducible exact cst31 | fail) ?_ ?_; · (repeat' (first | omega | refine And.intro ?_ ?_ | exact bnd_andl (by omega) | exact bnd_andr (by omega) | refine bnd_or ?_ ?_ | refine bnd_or31 ?_ ?_ | refine bnd_xor ?_ ?_ | refine bnd_xor31 ?_ ?_ | refine bnd_shr ?_ | refine bnd_shl ?_ ?_ | refine bnd_mod ?_ | refine bnd_andl ?_ | fail))) | (refine EqN.andNot _ _ (by first | with_reducible rfl | with_reducible exact cst1 | with_reducible exact cst0 | with_reducible exact cst2 | with_reducible exact cst3 | with_reducible exact cst4 | with_reducible exact cst5 | with_reducible exact cst6 | with_reducible exact cst7 | with_reducible exact cst8 | with_reducible exact cst14 | with_reducible exact cst15 | with_reducible exact cst25 | with_reducible exact cst30 | with_reducible exact cst31 | fail) (by first | with_reducible rfl | with_reducible exact cst1 | with_reducible exact cst0 | with_reducible exact cst2 | with_reducible exact cst3 | with_reducible exact cst4 | with_reducible exact cst5 | with_reducible exact cst6 | with_reducible exact cst7 | with_reducible exact cst8 | with_reducible exact cst14 | with_reducible exact cst15 | with_reducible exact cst25 | with_reducible exact cst30 | with_reducible exact cst31 | fail) ?_ ?_; · (repeat' (first | omega | refine And.intro ?_ ?_ | exact bnd_andl (by omega) | exact bnd_andr (by omega) | refine bnd_or ?_ ?_ | refine bnd_or31 ?_ ?_ | refine bnd_xor ?_ ?_ | refine bnd_xor31 ?_ ?_ | refine bnd_shr ?_ | refine bnd_shl ?_ ?_ | refine bnd_mod ?_ | refine bnd_andl ?_ | fail))) | (refine EqN.shlN _ _ (by first | with_reducible rfl | with_reducible exact cst1 | with_reducible exact cst0 | with_reducible exact cst2 | with_reducible exact cst3 | with_reducible exact cst4 | with_reducible exact cst5 | with_reducible exact cst6 | with_reducible exact cst7 | with_reducible exact cst8 | with_reducible exact cst14 | with_reducible exact cst15 | with_reducible exact cst25 | with_reducible exact cst30 | with_reducible exact cst31 | fail) (by first | with_reducible rfl | with_reducible exact cst1 | with_reducible exact cst0 | with_reducible exact cst2 | with_reducible exact cst3 | with_reducible exact cst4 | with_reducible exact cst5 | with_reducible exact cst6 | with_reducible exact cst7 | with_reducible exact cst8 | with_reducible exact cst14 | with_reducible exact cst15 | with_reducible exact cst25 | with_reducible exact cst30 | with_reducible exact cst31 | fail) rfl ?_ ?_ ?_; (· (repeat' (first | omega | refine And.intro ?_ ?_ | exact bnd_andl (by omega) | exact bnd_andr (by omega) | refine bnd_or ?_ ?_ | refine bnd_or31 ?_ ?_ | refine bnd_xor ?_ ?_ | refine bnd_xor31 ?_ ?_ | refine bnd_shr ?_ | refine bnd_shl ?_ ?_ | refine bnd_mod ?_ | refine bnd_andl ?_ | fail))); (· (repeat' (first | omega | refine And.intro ?_ ?_ | exact bnd_andl (by omega) | exact bnd_andr (by omega) | refine bnd_or ?_ ?_ | refine bnd_or31 ?_ ?_ | refine bnd_xor ?_ ?_ | refine bnd_xor31 ?_ ?_ | refine bnd_shr ?_ | refine bnd_shl ?_ ?_ | refine bnd_mod ?_ | refine bnd_andl ?_ | fail)))) | (refine EqN.subN _ _ (by first | with_reducible rfl | with_reducible exact cst1 | with_reducible exact cst0 | with_reducible exact cst2 | with_reducible exact cst3 | with_reducible exact cst4 | with_reducible exact cst5 | with_reducible exact cst6 | with_reducible exact cst7 | with_reducible exact cst8 | with_reducible exact cst14 | with_reducible exact cst15 | with_reducible exact cst25 | with_reducible exact cst30 | with_reducible exact cst31 | fail) (by first | with_reducible rfl | with_reducible exact cst1 | with_reducible exact cst0 | with_reducible exact cst2 | with_reducible exact cst3 | with_reducible exact cst4 | with_reducible exact cst5 | with_reducible exact cst6 | with_reducible exact cst7 | with_reducible exact cst8 | with_reducible exact cst14 | with_reducible exact cst15 | with_reducible exact cst25 | with_reducible exact cst30 | with_reducible exact cst31 | fail) ?_ ?_; · (repeat' (first | omega | refine And.intro ?_ ?_ | exact bnd_andl (by omega) | exact bnd_andr (by omega) | refine bnd_or ?_ ?_ | refine bnd_or31 ?_ ?_ | refine bnd_xor ?_ ?_ | refine bnd_xor31 ?_ ?_ | refine bnd_shr ?_ | refine bnd_shl ?_ ?_ | refine bnd_mod ?_ | refine bnd_andl ?_ | fail))) | fail) | (refine SideN.mk ?_ ?_; · first | kernel_rfl | omega | exact List.cons_ne_nil _ _ | (simp; done) | (simp; omega) | exact trivial | assumption | fail) | refine NatN.at_ (by omega) ?_ | (refine CallN.id ?_; first | refine CallN.det _ (awake_c _) ?_ | refine CallN.det _ (hmd _) ?_ | fail) | (refine CallD.id ?_; first | refine CallD.det _ (fun _ => hbF _) ?_ | refine CallD.det _ (fun _ => hbG _) ?_ | refine CallD.det _ (fun _ => alw_c F _) ?_ | refine CallD.det _ (fun _ => alw_c (.f1 3 F) _) ?_ | refine CallD.det _ (fun _ => next_c (.f1 13 F) _) ?_ | refine CallD.det _ (fun _ => next_c (.f2 14 F G) _) ?_ | refine CallD.det _ (fun _ => next_c (.f1 3 F) _) ?_ | refine CallD.det _ (fun _ => next_c F _) ?_ | refine CallD.det _ (fun _ => not_c F _) ?_ | refine CallD.det _ (fun _ => not_c (.f1 13 (.f1 3 F)) _) ?_ | refine CallD.det _ (fun _ => not_c .fa _) ?_ | refine CallD.det _ (fun _ => til_c F G _) ?_ | refine CallD.det _ (fun _ => til_c (.f1 3 .fa) F _) ?_ | refine CallD.det _ (fun _ => VDet.wk (join0_c _) ⟨Wk.refl _, wk_nils, trivial⟩) ?_ | refine CallD.det _ (fun _ => aA _ _ _ (at_loc' _ rfl) (at_loc' _ rfl)) ?_ | refine CallD.det _ (fun _ => aF _ _ _ (at_loc' _ rfl) (at_loc' _ rfl)) ?_ | refine CallD.det _ (fun _ => aNA _ _ _ (at_loc' _ rfl) (at_loc' _ rfl)) ?_ | refine CallD.det _ (fun _ => aU _ _ _ (at_loc' _ rfl) (at_loc' _ rfl)) ?_ | refine CallD.det _ (fun _ => aG _ _ _ (at_loc' _ rfl) (at_loc' _ rfl)) ?_ | refine CallD.det _ (fun _ => aNU _ _ _ (at_loc' _ rfl) (at_loc' _ rfl)) ?_ | refine CallD.det _ (fun _ => aL3 _ _ _ (at_loc' _ rfl) (at_loc' _ rfl)) ?_ | refine CallD.det _ (fun _ => aR3 _ _ _ (at_loc' _ rfl) (at_loc' _ rfl)) ?_ | refine CallD.det _ (fun _ => aL4 _ _ _ (at_loc' _ rfl) (at_loc' _ rfl)) ?_ | refine CallD.det _ (fun _ => aNF _ _ _ (at_loc' _ rfl) (at_loc' _ rfl)) ?_ | fail) | refine SubN.min16 one ?_ | refine SubN.min16 two ?_ | fail))); all_goals (conv => whnf)
  refine LoopN.rounds Tryd.E0 Tryd.mx 5 rfl ?_
  (repeat' ((conv => whnf); (first | (refine IfN.id ?_; first | refine IfN.not ?_ | refine IfN.tt rfl ?_ | refine IfN.ff rfl ?_ | refine IfN.dT (by omega) ?_ | fail) | (refine EqN.id ?_; first | refine EqN.remN _ _ (by first | with_reducible rfl | with_reducible exact cst1 | with_reducible exact cst0 | with_reducible exact cst2 | with_reducible exact cst3 | with_reducible exact cst4 | with_reducible exact cst5 | with_reducible exact cst6 | with_reducible exact cst7 | with_reducible exact cst8 | with_reducible exact cst14 | with_reducible exact cst15 | with_reducible exact cst25 | with_reducible exact cst30 | with_reducible exact cst31 | fail) (by first | with_reducible rfl | with_reducible exact cst1 | with_reducible exact cst0 | with_reducible exact cst2 | with_reducible exact cst3 | with_reducible exact cst4 | with_reducible exact cst5 | with_reducible exact cst6 | with_reducible exact cst7 | with_reducible exact cst8 | with_reducible exact cst14 | with_reducible exact cst15 | with_reducible exact cst25 | with_reducible exact cst30 | with_reducible exact cst31 | fail) ?_ | fail) | (refine SideN.mk ?_ ?_; · first | kernel_rfl | omega | exact List.cons_ne_nil _ _ | (simp; done) | (simp; omega) | exact trivial | assumption | fail) | (refine CallD.id ?_; first | refine CallD.det _ (fun _ => alw_c F _) ?_ | refine CallD.det _ (fun _ => alw_c (.f2 6 F (.f1 12 F)) _) ?_ | refine CallD.det _ (fun _ => alw_c (.f1 13 F) _) ?_ | refine CallD.det _ (fun _ => next_c F _) ?_ | refine CallD.det _ (fun _ => next_c G _) ?_ | refine CallD.det _ (fun _ => next_c (.f2 4 F G) _) ?_ | refine CallD.det _ (fun _ => next_c (.f2 5 F G) _) ?_ | refine CallD.det _ (fun _ => next_c (.f2 6 F G) _) ?_ | refine CallD.det _ (fun _ => next_c (.f2 7 F G) _) ?_ | refine CallD.det _ (fun _ => not_c .fa _) ?_ | refine CallD.det _ (fun _ => til_c F G _) ?_ | refine CallD.det _ (fun _ => til_c (.f1 3 .fa) G _) ?_ | refine CallD.det _ (fun _ => til_c F (.f2 14 F G) _) ?_ | refine CallD.det _ (fun _ => VDet.wk (join2_c 4 F G _) ⟨Wk.refl _, wk_sx _ _, trivial⟩) ?_ | refine CallD.det _ (fun _ => VDet.wk (join2_c 5 F G _) ⟨Wk.refl _, wk_sx _ _, trivial⟩) ?_ | refine CallD.det _ (fun _ => VDet.wk (join2_c 6 F G _) ⟨Wk.refl _, wk_sx _ _, trivial⟩) ?_ | refine CallD.det _ (fun _ => VDet.wk (join2_c 7 F G _) ⟨Wk.refl _, wk_sx _ _, trivial⟩) ?_ | refine CallD.det _ (fun _ => VDet.wk (join2_c 4 (.f1 12 F) (.f1 12 G) _) ⟨Wk.refl _, wk_sx _ _, trivial⟩) ?_ | refine CallD.det _ (fun _ => VDet.wk (join2_c 5 (.f1 12 F) (.f1 12 G) _) ⟨Wk.refl _, wk_sx _ _, trivial⟩) ?_ | refine CallD.det _ (fun _ => VDet.wk (join2_c 6 (.f1 12 F) (.f1 12 G) _) ⟨Wk.refl _, wk_sx _ _, trivial⟩) ?_ | refine CallD.det _ (fun _ => VDet.wk (join2_c 7 (.f1 12 F) (.f1 12 G) _) ⟨Wk.refl _, wk_sx _ _, trivial⟩) ?_ | refine CallD.det _ (fun _ => VDet.wk (join2_c 6 F (.f1 12 F) _) ⟨Wk.refl _, wk_sx _ _, trivial⟩) ?_ | refine CallD.det _ (fun _ => VDet.wk (join2_c 4 F (.f1 13 (.f2 6 F (.f1 12 F))) _) ⟨Wk.refl _, wk_sx _ _, trivial⟩) ?_ | refine CallD.det _ (fun _ => VDet.wk (join2_c 6 (.f2 4 F (.f1 13 (.f2 6 F (.f1 12 F)))) (.f1 13 F) _) ⟨Wk.refl _, wk_sx _ _, trivial⟩) ?_ | refine CallD.det _ (fun _ => VDet.wk (join2_c 6 (.f2 14 F G) (.f2 14 (.f1 3 .fa) G) _) ⟨Wk.refl _, wk_sx _ _, trivial⟩) ?_ | refine CallD.det _ (fun _ => VDet.wk (join0_c _) ⟨Wk.refl _, wk_nils, trivial⟩) ?_ | refine CallD.det _ (fun _ => aA _ _ _ (at_loc' _ rfl) (at_loc' _ rfl)) ?_ | refine CallD.det _ (fun _ => aU _ _ _ (at_loc' _ rfl) (at_loc' _ rfl)) ?_ | refine CallD.det _ (fun _ => aJ4 _ _ _ (at_loc' _ rfl) (at_loc' _ rfl)) ?_ | refine CallD.det _ (fun _ => aK4 _ _ _ (at_loc' _ rfl) (at_loc' _ rfl)) ?_ | refine CallD.det _ (fun _ => aJ5 _ _ _ (at_loc' _ rfl) (at_loc' _ rfl)) ?_ | refine CallD.det _ (fun _ => aK5 _ _ _ (at_loc' _ rfl) (at_loc' _ rfl)) ?_ | refine CallD.det _ (fun _ => aJ6 _ _ _ (at_loc' _ rfl) (at_loc' _ rfl)) ?_ | refine CallD.det _ (fun _ => aK6 _ _ _ (at_loc' _ rfl) (at_loc' _ rfl)) ?_ | refine CallD.det _ (fun _ => aJ7 _ _ _ (at_loc' _ rfl) (at_loc' _ rfl)) ?_ | refine CallD.det _ (fun _ => aK7 _ _ _ (at_loc' _ rfl) (at_loc' _ rfl)) ?_ | refine CallD.det _ (fun _ => aI _ _ _ (at_loc' _ rfl) (at_loc' _ rfl)) ?_ | refine CallD.det _ (fun _ => aS _ _ _ (at_loc' _ rfl) (at_loc' _ rfl)) ?_ | refine CallD.det _ (fun _ => aAA _ _ _ (at_loc' _ rfl) (at_loc' _ rfl)) ?_ | refine CallD.det _ (fun _ => aUU _ _ _ (at_loc' _ rfl) (at_loc' _ rfl)) ?_ | fail) | fail))); all_goals (conv => whnf)
  exact EndN.det trivial (Wk.refl _)
end Go.Proofs.YtjflngchbeegcaaDoor
