/- A text of the proof: the parts H14. -/
import Derived.Test.YtjflngchbeegcaaDoorK7
set_option linter.unusedSimpArgs false
set_option linter.unusedVariables false
/-! text H14 -/
namespace Go.Proofs.YtjflngchbeegcaaDoor
open Go.Vsi
set_option maxHeartbeats 4000000
attribute [local irreducible] VW VCall VO bits

/-! ### TraceOrder -/
theorem want_cases (k n : Nat) (hk : k ≤ 3) (h1 : 1 ≤ n) (h5 : n ≤ 5) : (cntN k n = 0 ∧ 16384 < n <<< (n * k)) ∨ (cntN k n ≠ 0 ∧ cntN k n = n <<< (n * k) ∧ n <<< (n * k) ≤ 16384 ∧ 1 ≤ n <<< (n * k)) := by
  have hn : n = 1 ∨ n = 2 ∨ n = 3 ∨ n = 4 ∨ n = 5 := by omega
  have hk : k = 0 ∨ k = 1 ∨ k = 2 ∨ k = 3 := by omega
  rcases hn with rfl | rfl | rfl | rfl | rfl <;> rcases hk with rfl | rfl | rfl | rfl <;> decide
def numT (t : Tr) : Nat := t.fs.foldl (fun a p => a <<< t.n ||| p.2) t.lp
theorem foldl_nth (n N : Nat) : ∀ (l : List UInt8), (nthA n l N).1.foldl (fun a p => a <<< n ||| p.2) (nthA n l N).2 = N
  | [] => rfl
  | c :: l => by
    simp only [nthA, List.foldl_cons]
    rw [show (nthA n l N).2 >>> n <<< n ||| (nthA n l N).2 &&& (1 <<< n - 1) = (nthA n l N).2 from ?_]
    · exact foldl_nth n N l
    · apply Nat.eq_of_testBit_eq
      intro i
      simp only [Nat.testBit_or, Nat.testBit_and, Nat.testBit_shiftLeft, Nat.testBit_shiftRight, one_shl, Nat.testBit_two_pow_sub_one]
      by_cases h : i < n
      · simp only [h, decide_true, Bool.and_true, show ¬ i ≥ n by omega, decide_false, Bool.false_and, Bool.false_or]
      · simp [h, show n ≤ i by omega, show n + (i - n) = i by omega]
theorem num_nth (l : List UInt8) (n N : Nat) : numT (nthT l n N) = N := foldl_nth n N l
theorem many_c (l : List UInt8) (hl : NmOk l) (n : Nat) (h1 : 1 ≤ n) (h5 : n ≤ 5) (hc : cntN l.length n = 0) (H : Heap) : VDet Tryd.prog 19 [.sl none l.length (l.flatMap encS), .int .i64 n] H (.tup [.int .i64 0, .int .i64 5]) := by
  have := Count_c l hl n h1 h5 H
  rw [if_pos hc, hc] at this
  exact this
theorem few_c (l : List UInt8) (hl : NmOk l) (n : Nat) (h1 : 1 ≤ n) (h5 : n ≤ 5) (hc : cntN l.length n ≠ 0) (H : Heap) : VDet Tryd.prog 19 [.sl none l.length (l.flatMap encS), .int .i64 n] H (.tup [.int .i64 (cntN l.length n : Nat), .int .i64 0]) := by
  have := Count_c l hl n h1 h5 H
  rwa [if_neg hc] at this





theorem nmo0 : NmOk ([] : List UInt8) := ⟨by decide, fun i hi => by
  simp at hi,
  fun i h0 hi => by
  simp at hi⟩
theorem dig_0 (n N : Nat) : ∃ lp, nthT [] n N = (⟨n, lp, []⟩ : Tr) ∧ N = lp := by
  exact ⟨N, rfl, rfl⟩
theorem got_0 (n : Nat) (h1 : 1 ≤ n) (h5 : n ≤ 5) (N : Nat) (hN : N < cntN 0 n) : ∃ lp, (∀ H, VDet Tryd.prog 20 [.sl none 0 [], .int .i64 n, .int .i64 N] H (.tup [.agg (⟨n, lp, []⟩ : Tr).cells, .int .i64 0])) ∧ (∀ H, VDet Tryd.prog 29 [.agg (⟨n, lp, []⟩ : Tr).cells] H (.tup [.int .i64 N, .int .i64 0])) ∧ (∀ H, VDet Tryd.prog 15 [.agg (⟨n, lp, []⟩ : Tr).cells] H (.bool true)) ∧ N = lp := by
  obtain ⟨lp, e, h⟩ := dig_0 n N
  have hok := nthT_ok nmo0 h1 h5 hN
  have h2 := num_nth ([] : List UInt8) n N
  have h3 := fun H => Nth_0 nmo0 n N h1 h5 (by omega) hN H
  rw [e] at hok h2
  simp only [e] at h3
  refine ⟨lp, h3, fun H => ?_, fun H => valid_t hok H, h⟩
  have := Number_c _ hok (by simp) (by show cntN 0 n ≠ 0; omega) H
  unfold numT at h2
  rw [h2] at this
  exact this
theorem order_0 (names size a b : Nat) (h0 : names % 4 = 0) (hs : size ≤ 255) (ha : a ≤ 65535) (hb : b ≤ 65535) (H : Heap) : VDet Tryd.prog 7 [.int .u8 names, .int .u8 size, .int .u16 a, .int .u16 b] H (.bool true) := by
  refine fn_det Tryd.E0 Tryd.mx Tryd.func7 (by kernel_rfl) rfl (Nat.le_of_ble_eq_true rfl) rfl fun hcl hbl => ?_
  have hn1 : 1 ≤ 1 + size % 5 := by omega
  have hn5 : 1 + size % 5 ≤ 5 := by omega
  generalize hn : 1 + size % 5 = n at hn1 hn5
  have hcs := want_cases 0 n (by decide) hn1 hn5
  have hsm : n <<< (n * (0 - 0)) < 9223372036854775808 := bnd_shl (by omega) (by omega)
  generalize hWe : n <<< (n * (0 - 0)) = W at hsm
  rw [show n * 0 = n * (0 - 0) from rfl, hWe] at hcs
  rcases hcs with ⟨hc, hW⟩ | ⟨hc, hcW, hW, hW1⟩
  · have hC : ∀ H, VDet Tryd.prog 19 [.sl none 0 [], .int .i64 n] H (.tup [.int .i64 0, .int .i64 5]) := many_c ([] : List UInt8) nmo0 n hn1 hn5 hc
    have hM : ∀ (N : Nat) H, VDet Tryd.prog 20 [.sl none 0 [], .int .i64 n, .int .i64 N] H (.tup [.agg [.int .u8 0, .int .i64 0, .nils, .int .i64 0, .nils, .nils, .nils], .int .i64 5]) := fun N H => Nth_many ([] : List UInt8) nmo0 n N hn1 hn5 hc H
    (repeat' ((conv => whnf); (first | (refine IfN.id ?_; first | refine IfN.dT (by omega) ?_ | refine IfN.not ?_ | refine IfN.tt rfl ?_ | fail) | (refine EqN.id ?_; first | refine EqN.addC 1 (size % 5) n rfl rfl hn (by omega) ?_ | refine EqN.remC 0 rfl rfl h0 ?_ | refine EqN.shlC n (n * (0 - 0)) W rfl rfl rfl hWe (by omega) hsm ?_ | (refine EqN.mulN _ _ (by first | with_reducible rfl | with_reducible exact cst1 | with_reducible exact cst0 | with_reducible exact cst2 | with_reducible exact cst3 | with_reducible exact cst4 | with_reducible exact cst5 | with_reducible exact cst6 | with_reducible exact cst7 | with_reducible exact cst8 | with_reducible exact cst14 | with_reducible exact cst15 | with_reducible exact cst25 | with_reducible exact cst30 | with_reducible exact cst31 | fail) (by first | with_reducible rfl | with_reducible exact cst1 | with_reducible exact cst0 | with_reducible exact cst2 | with_reducible exact cst3 | with_reducible exact cst4 | with_reducible exact cst5 | with_reducible exact cst6 | with_reducible exact cst7 | with_reducible exact cst8 | with_reducible exact cst14 | with_reducible exact cst15 | with_reducible exact cst25 | with_reducible exact cst30 | with_reducible exact cst31 | fail) ?_ ?_; · (repeat' (first | omega | refine And.intro ?_ ?_ | exact bnd_andl (by omega) | exact bnd_andr (by omega) | refine bnd_or ?_ ?_ | refine bnd_or31 ?_ ?_ | refine bnd_xor ?_ ?_ | refine bnd_xor31 ?_ ?_ | refine bnd_shr ?_ | refine bnd_shl ?_ ?_ | refine bnd_mod ?_ | refine bnd_andl ?_ | fail))) | refine EqN.remN _ _ (by first | with_reducible rfl | with_reducible exact cst1 | with_reducible exact cst0 | with_reducible exact cst2 | with_reducible exact cst3 | with_reducible exact cst4 | with_reducible exact cst5 | with_reducible exact cst6 | with_reducible exact cst7 | with_reducible exact cst8 | with_reducible exact cst14 | with_reducible exact cst15 | with_reducible exact cst25 | with_reducible exact cst30 | with_reducible exact cst31 | fail) (by first | with_reducible rfl | with_reducible exact cst1 | with_reducible exact cst0 | with_reducible exact cst2 | with_reducible exact cst3 | with_reducible exact cst4 | with_reducible exact cst5 | with_reducible exact cst6 | with_reducible exact cst7 | with_reducible exact cst8 | with_reducible exact cst14 | with_reducible exact cst15 | with_reducible exact cst25 | with_reducible exact cst30 | with_reducible exact cst31 | fail) ?_ | refine EqN.i64 (by omega) ?_ | fail) | (refine SideN.mk ?_ ?_; · first | kernel_rfl | omega | exact List.cons_ne_nil _ _ | (simp; done) | (simp; omega) | exact trivial | assumption | fail) | refine NatN.mk _ rfl ?_ | (refine CallN.id ?_; first | refine CallN.det _ (awake_c _) ?_ | refine CallN.det _ (hC _) ?_ | refine CallN.det _ (hM _ _) ?_ | fail) | refine SubN.mk [] ⟨⟨_, rfl⟩, rfl⟩ ?_ | fail))); all_goals (conv => whnf)
    exact EndN.det trivial (Wk.refl _)
  · have hC : ∀ H, VDet Tryd.prog 19 [.sl none 0 [], .int .i64 n] H (.tup [.int .i64 W, .int .i64 0]) := fun H => by rw [← hcW]; exact few_c ([] : List UInt8) nmo0 n hn1 hn5 hc H
    have hM : ∀ H, VDet Tryd.prog 20 [.sl none 0 [], .int .i64 n, .int .i64 W] H (.tup [.agg [.int .u8 0, .int .i64 0, .nils, .int .i64 0, .nils, .nils, .nils], .int .i64 6]) := fun H => Nth_none ([] : List UInt8) nmo0 n W hn1 hn5 hc (.inr (by show ((cntN 0 n : Nat) : Int) ≤ W; omega)) H
    have hi := Nat.mod_lt a (show W > 0 by omega)
    have hj := Nat.mod_lt b (show W > 0 by omega)
    generalize hie : a % W = i at hi
    generalize hje : b % W = j at hj
    obtain ⟨lp, p1, p2, p3, p4⟩ := got_0 n hn1 hn5 i (by omega)
    obtain ⟨lq, q1, q2, q3, q4⟩ := got_0 n hn1 hn5 j (by omega)
    have hB : 2 ^ n = 2 ∨ 2 ^ n = 4 ∨ 2 ^ n = 8 ∨ 2 ^ n = 16 ∨ 2 ^ n = 32 := by
      have : n = 1 ∨ n = 2 ∨ n = 3 ∨ n = 4 ∨ n = 5 := by omega
      rcases this with rfl | rfl | rfl | rfl | rfl <;> decide
    generalize 2 ^ n = B at p4 q4 hB
    unfold Tr.cells at p1 p2 p3 q1 q2 q3
    simp only [List.flatMap_cons, List.flatMap_nil, encT, List.cons_append, List.nil_append, List.append_nil] at p1 p2 p3 q1 q2 q3
    (repeat' ((conv => whnf); (first | (refine IfN.id ?_; first | refine IfN.not ?_ | refine IfN.tt rfl ?_ | refine IfN.dT (by omega) ?_ | refine IfN.dF (by omega) ?_ | fail) | (refine EqN.id ?_; first | refine EqN.addC 1 (size % 5) n rfl rfl hn (by omega) ?_ | refine EqN.remC 0 rfl rfl h0 ?_ | refine EqN.remC i rfl rfl hie ?_ | refine EqN.remC j rfl rfl hje ?_ | refine EqN.shlC n (n * (0 - 0)) W rfl rfl rfl hWe (by omega) hsm ?_ | (refine EqN.addN _ _ (by first | with_reducible rfl | with_reducible exact cst1 | with_reducible exact cst0 | with_reducible exact cst2 | with_reducible exact cst3 | with_reducible exact cst4 | with_reducible exact cst5 | with_reducible exact cst6 | with_reducible exact cst7 | with_reducible exact cst8 | with_reducible exact cst14 | with_reducible exact cst15 | with_reducible exact cst25 | with_reducible exact cst30 | with_reducible exact cst31 | fail) (by first | with_reducible rfl | with_reducible exact cst1 | with_reducible exact cst0 | with_reducible exact cst2 | with_reducible exact cst3 | with_reducible exact cst4 | with_reducible exact cst5 | with_reducible exact cst6 | with_reducible exact cst7 | with_reducible exact cst8 | with_reducible exact cst14 | with_reducible exact cst15 | with_reducible exact cst25 | with_reducible exact cst30 | with_reducible exact cst31 | fail) ?_ ?_; · (repeat' (first | omega | refine And.intro ?_ ?_ | exact bnd_andl (by omega) | exact bnd_andr (by omega) | refine bnd_or ?_ ?_ | refine bnd_or31 ?_ ?_ | refine bnd_xor ?_ ?_ | refine bnd_xor31 ?_ ?_ | refine bnd_shr ?_ | refine bnd_shl ?_ ?_ | refine bnd_mod ?_ | refine bnd_andl ?_ | fail))) | (refine EqN.mulN _ _ (by first | with_reducible rfl | with_reducible exact cst1 | with_reducible exact cst0 | with_reducible exact cst2 | with_reducible exact cst3 | with_reducible exact cst4 | with_reducible exact cst5 | with_reducible exact cst6 | with_reducible exact cst7 | with_reducible exact cst8 | with_reducible exact cst14 | with_reducible exact cst15 | with_reducible exact cst25 | with_reducible exact cst30 | with_reducible exact cst31 | fail) (by first | with_reducible rfl | with_reducible exact cst1 | with_reducible exact cst0 | with_reducible exact cst2 | with_reducible exact cst3 | with_reducible exact cst4 | with_reducible exact cst5 | with_reducible exact cst6 | with_reducible exact cst7 | with_reducible exact cst8 | with_reducible exact cst14 | with_reducible exact cst15 | with_reducible exact cst25 | with_reducible exact cst30 | with_reducible exact cst31 | fail) ?_ ?_; · (repeat' (first | omega | refine And.intro ?_ ?_ | exact bnd_andl (by omega) | exact bnd_andr (by omega) | refine bnd_or ?_ ?_ | refine bnd_or31 ?_ ?_ | refine bnd_xor ?_ ?_ | refine bnd_xor31 ?_ ?_ | refine bnd_shr ?_ | refine bnd_shl ?_ ?_ | refine bnd_mod ?_ | refine bnd_andl ?_ | fail))) | refine EqN.remN _ _ (by first | with_reducible rfl | with_reducible exact cst1 | with_reducible exact cst0 | with_reducible exact cst2 | with_reducible exact cst3 | with_reducible exact cst4 | with_reducible exact cst5 | with_reducible exact cst6 | with_reducible exact cst7 | with_reducible exact cst8 | with_reducible exact cst14 | with_reducible exact cst15 | with_reducible exact cst25 | with_reducible exact cst30 | with_reducible exact cst31 | fail) (by first | with_reducible rfl | with_reducible exact cst1 | with_reducible exact cst0 | with_reducible exact cst2 | with_reducible exact cst3 | with_reducible exact cst4 | with_reducible exact cst5 | with_reducible exact cst6 | with_reducible exact cst7 | with_reducible exact cst8 | with_reducible exact cst14 | with_reducible exact cst15 | with_reducible exact cst25 | with_reducible exact cst30 | with_reducible exact cst31 | fail) ?_ | refine EqN.i64 (by omega) ?_ | fail) | (refine SideN.mk ?_ ?_; · first | kernel_rfl | omega | exact List.cons_ne_nil _ _ | (simp; done) | (simp; omega) | exact trivial | assumption | fail) | refine NatN.mk _ rfl ?_ | (refine CallN.id ?_; first | refine CallN.det _ (awake_c _) ?_ | refine CallN.det _ (hC _) ?_ | refine CallN.det _ (hM _) ?_ | refine CallN.det _ (p1 _) ?_ | refine CallN.det _ (p2 _) ?_ | refine CallN.det _ (p3 _) ?_ | refine CallN.det _ (q1 _) ?_ | refine CallN.det _ (q2 _) ?_ | fail) | refine SubN.mk [] ⟨⟨_, rfl⟩, rfl⟩ ?_ | fail))); all_goals (conv => whnf)
    refine LoopN.rounds Tryd.E0 Tryd.mx 1 rfl ?_
    (repeat' ((conv => whnf); (first | (refine IfN.id ?_; first | refine IfN.ff rfl ?_ | fail) | fail))); all_goals (conv => whnf)
    refine LoopN.rounds Tryd.E0 Tryd.mx 2 rfl ?_
    (repeat' ((conv => whnf); (first | (refine IfN.id ?_; first | refine IfN.not ?_ | refine IfN.tt rfl ?_ | refine IfN.ff rfl ?_ | refine IfN.dec (fun _ => ?_) (fun _ => ?_) | fail) | (refine EqN.id ?_; first | (refine EqN.addN _ _ (by first | with_reducible rfl | with_reducible exact cst1 | with_reducible exact cst0 | with_reducible exact cst2 | with_reducible exact cst3 | with_reducible exact cst4 | with_reducible exact cst5 | with_reducible exact cst6 | with_reducible exact cst7 | with_reducible exact cst8 | with_reducible exact cst14 | with_reducible exact cst15 | with_reducible exact cst25 | with_reducible exact cst30 | with_reducible exact cst31 | fail) (by first | with_reducible rfl | with_reducible exact cst1 | with_reducible exact cst0 | with_reducible exact cst2 | with_reducible exact cst3 | with_reducible exact cst4 | with_reducible exact cst5 | with_reducible exact cst6 | with_reducible exact cst7 | with_reducible exact cst8 | with_reducible exact cst14 | with_reducible exact cst15 | with_reducible exact cst25 | with_reducible exact cst30 | with_reducible exact cst31 | fail) ?_ ?_; · (repeat' (first | omega | refine And.intro ?_ ?_ | exact bnd_andl (by omega) | exact bnd_andr (by omega) | refine bnd_or ?_ ?_ | refine bnd_or31 ?_ ?_ | refine bnd_xor ?_ ?_ | refine bnd_xor31 ?_ ?_ | refine bnd_shr ?_ | refine bnd_shl ?_ ?_ | refine bnd_mod ?_ | refine bnd_andl ?_ | fail))) | fail) | (refine SideN.mk ?_ ?_; · first | kernel_rfl | omega | exact List.cons_ne_nil _ _ | (simp; done) | (simp; omega) | exact trivial | assumption | fail) | refine SegN.mk _ (seg_rfl rfl) ?_ | fail))); all_goals (conv => whnf)
    all_goals refine EndN.det trivial (Wk.of_eq (congrArg AV.bool ?_))
    all_goals first
      | (rw [beq_iff_eq]; rcases hB with rfl | rfl | rfl | rfl | rfl; all_goals omega)
      | (rw [beq_iff_eq, decide_eq_decide]; rcases hB with rfl | rfl | rfl | rfl | rfl; all_goals omega)
      | fail
theorem nmo1 : NmOk [65] := ⟨by decide, fun i hi => by
  have : i = 0 := by simp at hi; omega
  subst this
  · exact (⟨by decide, by decide⟩ : cap 65),
  fun i h0 hi => by
  have : i = 0 := by simp at hi; omega
  subst this
  all_goals first | (exact absurd h0 (Nat.lt_irrefl 0)) | decide | fail⟩
theorem dig_1 (n N : Nat) : ∃ lp u, nthT [65] n N = (⟨n, lp, [(65, u)]⟩ : Tr) ∧ N = (lp) * 2 ^ n + u ∧ u < 2 ^ n := by
  have hm : ∀ m : Nat, m &&& (1 <<< n - 1) = m % 2 ^ n := fun m => by rw [one_shl]; exact Nat.and_two_pow_sub_one_eq_mod m n
  have hd : ∀ m : Nat, m >>> n = m / 2 ^ n := fun m => Nat.shiftRight_eq_div_pow m n
  have hp := Nat.two_pow_pos n
  refine ⟨(N / 2 ^ n), N % 2 ^ n, ?_, ?_, Nat.mod_lt _ hp⟩
  · simp only [nthT, nthA, hm, hd]
  · generalize 2 ^ n = B at *
    have := Nat.div_add_mod N B; have hc := Nat.mul_comm B (N / B)
    rw [Nat.mul_comm (N / B) B, Nat.div_add_mod N B]
theorem got_1 (n : Nat) (h1 : 1 ≤ n) (h5 : n ≤ 5) (N : Nat) (hN : N < cntN 1 n) : ∃ lp u, (∀ H, VDet Tryd.prog 20 [.sl none 1 [.str (nm 65)], .int .i64 n, .int .i64 N] H (.tup [.agg (⟨n, lp, [(65, u)]⟩ : Tr).cells, .int .i64 0])) ∧ (∀ H, VDet Tryd.prog 29 [.agg (⟨n, lp, [(65, u)]⟩ : Tr).cells] H (.tup [.int .i64 N, .int .i64 0])) ∧ (∀ H, VDet Tryd.prog 15 [.agg (⟨n, lp, [(65, u)]⟩ : Tr).cells] H (.bool true)) ∧ N = (lp) * 2 ^ n + u ∧ u < 2 ^ n := by
  obtain ⟨lp, u, e, h⟩ := dig_1 n N
  have hok := nthT_ok nmo1 h1 h5 hN
  have h2 := num_nth [65] n N
  have h3 := fun H => Nth_1 65 nmo1 n N h1 h5 (by omega) hN H
  rw [e] at hok h2
  simp only [e] at h3
  refine ⟨lp, u, h3, fun H => ?_, fun H => valid_t hok H, h⟩
  have := Number_c _ hok (by simp) (by show cntN 1 n ≠ 0; omega) H
  unfold numT at h2
  rw [h2] at this
  exact this
theorem order_1 (names size a b : Nat) (h0 : names % 4 = 1) (hs : size ≤ 255) (ha : a ≤ 65535) (hb : b ≤ 65535) (H : Heap) : VDet Tryd.prog 7 [.int .u8 names, .int .u8 size, .int .u16 a, .int .u16 b] H (.bool true) := by
  refine fn_det Tryd.E0 Tryd.mx Tryd.func7 (by kernel_rfl) rfl (Nat.le_of_ble_eq_true rfl) rfl fun hcl hbl => ?_
  have hn1 : 1 ≤ 1 + size % 5 := by omega
  have hn5 : 1 + size % 5 ≤ 5 := by omega
  generalize hn : 1 + size % 5 = n at hn1 hn5
  have hcs := want_cases 1 n (by decide) hn1 hn5
  have hsm : n <<< (n * (1 - 0)) < 9223372036854775808 := bnd_shl (by omega) (by omega)
  generalize hWe : n <<< (n * (1 - 0)) = W at hsm
  rw [show n * 1 = n * (1 - 0) from rfl, hWe] at hcs
  rcases hcs with ⟨hc, hW⟩ | ⟨hc, hcW, hW, hW1⟩
  · have hC : ∀ H, VDet Tryd.prog 19 [.sl none 1 [.str (nm 65)], .int .i64 n] H (.tup [.int .i64 0, .int .i64 5]) := many_c [65] nmo1 n hn1 hn5 hc
    have hM : ∀ (N : Nat) H, VDet Tryd.prog 20 [.sl none 1 [.str (nm 65)], .int .i64 n, .int .i64 N] H (.tup [.agg [.int .u8 0, .int .i64 0, .nils, .int .i64 0, .nils, .nils, .nils], .int .i64 5]) := fun N H => Nth_many [65] nmo1 n N hn1 hn5 hc H
    (repeat' ((conv => whnf); (first | (refine IfN.id ?_; first | refine IfN.dT (by omega) ?_ | refine IfN.not ?_ | refine IfN.tt rfl ?_ | fail) | (refine EqN.id ?_; first | refine EqN.addC 1 (size % 5) n rfl rfl hn (by omega) ?_ | refine EqN.remC 1 rfl rfl h0 ?_ | refine EqN.shlC n (n * (1 - 0)) W rfl rfl rfl hWe (by omega) hsm ?_ | (refine EqN.mulN _ _ (by first | with_reducible rfl | with_reducible exact cst1 | with_reducible exact cst0 | with_reducible exact cst2 | with_reducible exact cst3 | with_reducible exact cst4 | with_reducible exact cst5 | with_reducible exact cst6 | with_reducible exact cst7 | with_reducible exact cst8 | with_reducible exact cst14 | with_reducible exact cst15 | with_reducible exact cst25 | with_reducible exact cst30 | with_reducible exact cst31 | fail) (by first | with_reducible rfl | with_reducible exact cst1 | with_reducible exact cst0 | with_reducible exact cst2 | with_reducible exact cst3 | with_reducible exact cst4 | with_reducible exact cst5 | with_reducible exact cst6 | with_reducible exact cst7 | with_reducible exact cst8 | with_reducible exact cst14 | with_reducible exact cst15 | with_reducible exact cst25 | with_reducible exact cst30 | with_reducible exact cst31 | fail) ?_ ?_; · (repeat' (first | omega | refine And.intro ?_ ?_ | exact bnd_andl (by omega) | exact bnd_andr (by omega) | refine bnd_or ?_ ?_ | refine bnd_or31 ?_ ?_ | refine bnd_xor ?_ ?_ | refine bnd_xor31 ?_ ?_ | refine bnd_shr ?_ | refine bnd_shl ?_ ?_ | refine bnd_mod ?_ | refine bnd_andl ?_ | fail))) | refine EqN.remN _ _ (by first | with_reducible rfl | with_reducible exact cst1 | with_reducible exact cst0 | with_reducible exact cst2 | with_reducible exact cst3 | with_reducible exact cst4 | with_reducible exact cst5 | with_reducible exact cst6 | with_reducible exact cst7 | with_reducible exact cst8 | with_reducible exact cst14 | with_reducible exact cst15 | with_reducible exact cst25 | with_reducible exact cst30 | with_reducible exact cst31 | fail) (by first | with_reducible rfl | with_reducible exact cst1 | with_reducible exact cst0 | with_reducible exact cst2 | with_reducible exact cst3 | with_reducible exact cst4 | with_reducible exact cst5 | with_reducible exact cst6 | with_reducible exact cst7 | with_reducible exact cst8 | with_reducible exact cst14 | with_reducible exact cst15 | with_reducible exact cst25 | with_reducible exact cst30 | with_reducible exact cst31 | fail) ?_ | refine EqN.i64 (by omega) ?_ | fail) | (refine SideN.mk ?_ ?_; · first | kernel_rfl | omega | exact List.cons_ne_nil _ _ | (simp; done) | (simp; omega) | exact trivial | assumption | fail) | refine NatN.mk _ rfl ?_ | (refine CallN.id ?_; first | refine CallN.det _ (awake_c _) ?_ | refine CallN.det _ (hC _) ?_ | refine CallN.det _ (hM _ _) ?_ | fail) | refine SubN.mk [.str (nm 65)] ⟨⟨_, rfl⟩, rfl⟩ ?_ | fail))); all_goals (conv => whnf)
    exact EndN.det trivial (Wk.refl _)
  · have hC : ∀ H, VDet Tryd.prog 19 [.sl none 1 [.str (nm 65)], .int .i64 n] H (.tup [.int .i64 W, .int .i64 0]) := fun H => by rw [← hcW]; exact few_c [65] nmo1 n hn1 hn5 hc H
    have hM : ∀ H, VDet Tryd.prog 20 [.sl none 1 [.str (nm 65)], .int .i64 n, .int .i64 W] H (.tup [.agg [.int .u8 0, .int .i64 0, .nils, .int .i64 0, .nils, .nils, .nils], .int .i64 6]) := fun H => Nth_none [65] nmo1 n W hn1 hn5 hc (.inr (by show ((cntN 1 n : Nat) : Int) ≤ W; omega)) H
    have hi := Nat.mod_lt a (show W > 0 by omega)
    have hj := Nat.mod_lt b (show W > 0 by omega)
    generalize hie : a % W = i at hi
    generalize hje : b % W = j at hj
    obtain ⟨lp, u, p1, p2, p3, p4⟩ := got_1 n hn1 hn5 i (by omega)
    obtain ⟨lq, u', q1, q2, q3, q4⟩ := got_1 n hn1 hn5 j (by omega)
    have hB : 2 ^ n = 2 ∨ 2 ^ n = 4 ∨ 2 ^ n = 8 ∨ 2 ^ n = 16 ∨ 2 ^ n = 32 := by
      have : n = 1 ∨ n = 2 ∨ n = 3 ∨ n = 4 ∨ n = 5 := by omega
      rcases this with rfl | rfl | rfl | rfl | rfl <;> decide
    generalize 2 ^ n = B at p4 q4 hB
    unfold Tr.cells at p1 p2 p3 q1 q2 q3
    simp only [List.flatMap_cons, List.flatMap_nil, encT, List.cons_append, List.nil_append, List.append_nil] at p1 p2 p3 q1 q2 q3
    (repeat' ((conv => whnf); (first | (refine IfN.id ?_; first | refine IfN.not ?_ | refine IfN.tt rfl ?_ | refine IfN.dT (by omega) ?_ | refine IfN.dF (by omega) ?_ | fail) | (refine EqN.id ?_; first | refine EqN.addC 1 (size % 5) n rfl rfl hn (by omega) ?_ | refine EqN.remC 1 rfl rfl h0 ?_ | refine EqN.remC i rfl rfl hie ?_ | refine EqN.remC j rfl rfl hje ?_ | refine EqN.shlC n (n * (1 - 0)) W rfl rfl rfl hWe (by omega) hsm ?_ | (refine EqN.addN _ _ (by first | with_reducible rfl | with_reducible exact cst1 | with_reducible exact cst0 | with_reducible exact cst2 | with_reducible exact cst3 | with_reducible exact cst4 | with_reducible exact cst5 | with_reducible exact cst6 | with_reducible exact cst7 | with_reducible exact cst8 | with_reducible exact cst14 | with_reducible exact cst15 | with_reducible exact cst25 | with_reducible exact cst30 | with_reducible exact cst31 | fail) (by first | with_reducible rfl | with_reducible exact cst1 | with_reducible exact cst0 | with_reducible exact cst2 | with_reducible exact cst3 | with_reducible exact cst4 | with_reducible exact cst5 | with_reducible exact cst6 | with_reducible exact cst7 | with_reducible exact cst8 | with_reducible exact cst14 | with_reducible exact cst15 | with_reducible exact cst25 | with_reducible exact cst30 | with_reducible exact cst31 | fail) ?_ ?_; · (repeat' (first | omega | refine And.intro ?_ ?_ | exact bnd_andl (by omega) | exact bnd_andr (by omega) | refine bnd_or ?_ ?_ | refine bnd_or31 ?_ ?_ | refine bnd_xor ?_ ?_ | refine bnd_xor31 ?_ ?_ | refine bnd_shr ?_ | refine bnd_shl ?_ ?_ | refine bnd_mod ?_ | refine bnd_andl ?_ | fail))) | (refine EqN.mulN _ _ (by first | with_reducible rfl | with_reducible exact cst1 | with_reducible exact cst0 | with_reducible exact cst2 | with_reducible exact cst3 | with_reducible exact cst4 | with_reducible exact cst5 | with_reducible exact cst6 | with_reducible exact cst7 | with_reducible exact cst8 | with_reducible exact cst14 | with_reducible exact cst15 | with_reducible exact cst25 | with_reducible exact cst30 | with_reducible exact cst31 | fail) (by first | with_reducible rfl | with_reducible exact cst1 | with_reducible exact cst0 | with_reducible exact cst2 | with_reducible exact cst3 | with_reducible exact cst4 | with_reducible exact cst5 | with_reducible exact cst6 | with_reducible exact cst7 | with_reducible exact cst8 | with_reducible exact cst14 | with_reducible exact cst15 | with_reducible exact cst25 | with_reducible exact cst30 | with_reducible exact cst31 | fail) ?_ ?_; · (repeat' (first | omega | refine And.intro ?_ ?_ | exact bnd_andl (by omega) | exact bnd_andr (by omega) | refine bnd_or ?_ ?_ | refine bnd_or31 ?_ ?_ | refine bnd_xor ?_ ?_ | refine bnd_xor31 ?_ ?_ | refine bnd_shr ?_ | refine bnd_shl ?_ ?_ | refine bnd_mod ?_ | refine bnd_andl ?_ | fail))) | refine EqN.remN _ _ (by first | with_reducible rfl | with_reducible exact cst1 | with_reducible exact cst0 | with_reducible exact cst2 | with_reducible exact cst3 | with_reducible exact cst4 | with_reducible exact cst5 | with_reducible exact cst6 | with_reducible exact cst7 | with_reducible exact cst8 | with_reducible exact cst14 | with_reducible exact cst15 | with_reducible exact cst25 | with_reducible exact cst30 | with_reducible exact cst31 | fail) (by first | with_reducible rfl | with_reducible exact cst1 | with_reducible exact cst0 | with_reducible exact cst2 | with_reducible exact cst3 | with_reducible exact cst4 | with_reducible exact cst5 | with_reducible exact cst6 | with_reducible exact cst7 | with_reducible exact cst8 | with_reducible exact cst14 | with_reducible exact cst15 | with_reducible exact cst25 | with_reducible exact cst30 | with_reducible exact cst31 | fail) ?_ | refine EqN.i64 (by omega) ?_ | fail) | (refine SideN.mk ?_ ?_; · first | kernel_rfl | omega | exact List.cons_ne_nil _ _ | (simp; done) | (simp; omega) | exact trivial | assumption | fail) | refine NatN.mk _ rfl ?_ | (refine CallN.id ?_; first | refine CallN.det _ (awake_c _) ?_ | refine CallN.det _ (hC _) ?_ | refine CallN.det _ (hM _) ?_ | refine CallN.det _ (p1 _) ?_ | refine CallN.det _ (p2 _) ?_ | refine CallN.det _ (p3 _) ?_ | refine CallN.det _ (q1 _) ?_ | refine CallN.det _ (q2 _) ?_ | fail) | refine SubN.mk [.str (nm 65)] ⟨⟨_, rfl⟩, rfl⟩ ?_ | fail))); all_goals (conv => whnf)
    refine LoopN.rounds Tryd.E0 Tryd.mx 2 rfl ?_
    (repeat' ((conv => whnf); (first | (refine IfN.id ?_; first | refine IfN.tt rfl ?_ | refine IfN.ff rfl ?_ | fail) | (refine EqN.id ?_; first | (refine EqN.addN _ _ (by first | with_reducible rfl | with_reducible exact cst1 | with_reducible exact cst0 | with_reducible exact cst2 | with_reducible exact cst3 | with_reducible exact cst4 | with_reducible exact cst5 | with_reducible exact cst6 | with_reducible exact cst7 | with_reducible exact cst8 | with_reducible exact cst14 | with_reducible exact cst15 | with_reducible exact cst25 | with_reducible exact cst30 | with_reducible exact cst31 | fail) (by first | with_reducible rfl | with_reducible exact cst1 | with_reducible exact cst0 | with_reducible exact cst2 | with_reducible exact cst3 | with_reducible exact cst4 | with_reducible exact cst5 | with_reducible exact cst6 | with_reducible exact cst7 | with_reducible exact cst8 | with_reducible exact cst14 | with_reducible exact cst15 | with_reducible exact cst25 | with_reducible exact cst30 | with_reducible exact cst31 | fail) ?_ ?_; · (repeat' (first | omega | refine And.intro ?_ ?_ | exact bnd_andl (by omega) | exact bnd_andr (by omega) | refine bnd_or ?_ ?_ | refine bnd_or31 ?_ ?_ | refine bnd_xor ?_ ?_ | refine bnd_xor31 ?_ ?_ | refine bnd_shr ?_ | refine bnd_shl ?_ ?_ | refine bnd_mod ?_ | refine bnd_andl ?_ | fail))) | fail) | (refine SideN.mk ?_ ?_; · first | kernel_rfl | omega | exact List.cons_ne_nil _ _ | (simp; done) | (simp; omega) | exact trivial | assumption | fail) | refine OrN.l ?_ | refine SideN.mk ⟨Nat.le_of_ble_eq_true rfl, rfl, rfl, by simp, by simp [maxLen]⟩ ?_ | refine SegN.mk _ (seg_rfl rfl) ?_ | fail))); all_goals (conv => whnf)
    refine LoopN.rounds Tryd.E0 Tryd.mx 3 rfl ?_
    (repeat' ((conv => whnf); (first | (refine IfN.id ?_; first | refine IfN.not ?_ | refine IfN.tt rfl ?_ | refine IfN.ff rfl ?_ | refine IfN.dec (fun _ => ?_) (fun _ => ?_) | fail) | (refine EqN.id ?_; first | (refine EqN.addN _ _ (by first | with_reducible rfl | with_reducible exact cst1 | with_reducible exact cst0 | with_reducible exact cst2 | with_reducible exact cst3 | with_reducible exact cst4 | with_reducible exact cst5 | with_reducible exact cst6 | with_reducible exact cst7 | with_reducible exact cst8 | with_reducible exact cst14 | with_reducible exact cst15 | with_reducible exact cst25 | with_reducible exact cst30 | with_reducible exact cst31 | fail) (by first | with_reducible rfl | with_reducible exact cst1 | with_reducible exact cst0 | with_reducible exact cst2 | with_reducible exact cst3 | with_reducible exact cst4 | with_reducible exact cst5 | with_reducible exact cst6 | with_reducible exact cst7 | with_reducible exact cst8 | with_reducible exact cst14 | with_reducible exact cst15 | with_reducible exact cst25 | with_reducible exact cst30 | with_reducible exact cst31 | fail) ?_ ?_; · (repeat' (first | omega | refine And.intro ?_ ?_ | exact bnd_andl (by omega) | exact bnd_andr (by omega) | refine bnd_or ?_ ?_ | refine bnd_or31 ?_ ?_ | refine bnd_xor ?_ ?_ | refine bnd_xor31 ?_ ?_ | refine bnd_shr ?_ | refine bnd_shl ?_ ?_ | refine bnd_mod ?_ | refine bnd_andl ?_ | fail))) | fail) | (refine SideN.mk ?_ ?_; · first | kernel_rfl | omega | exact List.cons_ne_nil _ _ | (simp; done) | (simp; omega) | exact trivial | assumption | fail) | refine SegN.mk _ (seg_rfl rfl) ?_ | fail))); all_goals (conv => whnf)
    all_goals refine EndN.det trivial (Wk.of_eq (congrArg AV.bool ?_))
    all_goals first
      | (rw [beq_iff_eq]; rcases hB with rfl | rfl | rfl | rfl | rfl; all_goals omega)
      | (rw [beq_iff_eq, decide_eq_decide]; rcases hB with rfl | rfl | rfl | rfl | rfl; all_goals omega)
      | fail
theorem nmo2 : NmOk [65, 66] := ⟨by decide, fun i hi => by
  have : i = 0 ∨ i = 1 := by simp at hi; omega
  rcases this with rfl | rfl
  · exact (⟨by decide, by decide⟩ : cap 65)
  · exact (⟨by decide, by decide⟩ : cap 66),
  fun i h0 hi => by
  have : i = 0 ∨ i = 1 := by simp at hi; omega
  rcases this with rfl | rfl
  all_goals first | (exact absurd h0 (Nat.lt_irrefl 0)) | decide | fail⟩
theorem dig_2 (n N : Nat) : ∃ lp u v, nthT [65, 66] n N = (⟨n, lp, [(65, u), (66, v)]⟩ : Tr) ∧ N = ((lp) * 2 ^ n + u) * 2 ^ n + v ∧ u < 2 ^ n ∧ v < 2 ^ n := by
  have hm : ∀ m : Nat, m &&& (1 <<< n - 1) = m % 2 ^ n := fun m => by rw [one_shl]; exact Nat.and_two_pow_sub_one_eq_mod m n
  have hd : ∀ m : Nat, m >>> n = m / 2 ^ n := fun m => Nat.shiftRight_eq_div_pow m n
  have hp := Nat.two_pow_pos n
  refine ⟨((N / 2 ^ n) / 2 ^ n), (N / 2 ^ n) % 2 ^ n, N % 2 ^ n, ?_, ?_, Nat.mod_lt _ hp, Nat.mod_lt _ hp⟩
  · simp only [nthT, nthA, hm, hd]
  · generalize 2 ^ n = B at *
    have := Nat.div_add_mod N B; have hc := Nat.mul_comm B (N / B)
    have := Nat.div_add_mod (N / B) B; have hc := Nat.mul_comm B ((N / B) / B)
    rw [Nat.mul_comm ((N / B) / B) B, Nat.div_add_mod (N / B) B]
    rw [Nat.mul_comm (N / B) B, Nat.div_add_mod N B]
theorem got_2 (n : Nat) (h1 : 1 ≤ n) (h5 : n ≤ 5) (N : Nat) (hN : N < cntN 2 n) : ∃ lp u v, (∀ H, VDet Tryd.prog 20 [.sl none 2 [.str (nm 65), .str (nm 66)], .int .i64 n, .int .i64 N] H (.tup [.agg (⟨n, lp, [(65, u), (66, v)]⟩ : Tr).cells, .int .i64 0])) ∧ (∀ H, VDet Tryd.prog 29 [.agg (⟨n, lp, [(65, u), (66, v)]⟩ : Tr).cells] H (.tup [.int .i64 N, .int .i64 0])) ∧ (∀ H, VDet Tryd.prog 15 [.agg (⟨n, lp, [(65, u), (66, v)]⟩ : Tr).cells] H (.bool true)) ∧ N = ((lp) * 2 ^ n + u) * 2 ^ n + v ∧ u < 2 ^ n ∧ v < 2 ^ n := by
  obtain ⟨lp, u, v, e, h⟩ := dig_2 n N
  have hok := nthT_ok nmo2 h1 h5 hN
  have h2 := num_nth [65, 66] n N
  have h3 := fun H => Nth_2 65 66 nmo2 n N h1 h5 (by omega) hN H
  rw [e] at hok h2
  simp only [e] at h3
  refine ⟨lp, u, v, h3, fun H => ?_, fun H => valid_t hok H, h⟩
  have := Number_c _ hok (by simp) (by show cntN 2 n ≠ 0; omega) H
  unfold numT at h2
  rw [h2] at this
  exact this
theorem order_2 (names size a b : Nat) (h0 : names % 4 = 2) (hs : size ≤ 255) (ha : a ≤ 65535) (hb : b ≤ 65535) (H : Heap) : VDet Tryd.prog 7 [.int .u8 names, .int .u8 size, .int .u16 a, .int .u16 b] H (.bool true) := by
  refine fn_det Tryd.E0 Tryd.mx Tryd.func7 (by kernel_rfl) rfl (Nat.le_of_ble_eq_true rfl) rfl fun hcl hbl => ?_
  have hn1 : 1 ≤ 1 + size % 5 := by omega
  have hn5 : 1 + size % 5 ≤ 5 := by omega
  generalize hn : 1 + size % 5 = n at hn1 hn5
  have hcs := want_cases 2 n (by decide) hn1 hn5
  have hsm : n <<< (n * (2 - 0)) < 9223372036854775808 := bnd_shl (by omega) (by omega)
  generalize hWe : n <<< (n * (2 - 0)) = W at hsm
  rw [show n * 2 = n * (2 - 0) from rfl, hWe] at hcs
  rcases hcs with ⟨hc, hW⟩ | ⟨hc, hcW, hW, hW1⟩
  · have hC : ∀ H, VDet Tryd.prog 19 [.sl none 2 [.str (nm 65), .str (nm 66)], .int .i64 n] H (.tup [.int .i64 0, .int .i64 5]) := many_c [65, 66] nmo2 n hn1 hn5 hc
    have hM : ∀ (N : Nat) H, VDet Tryd.prog 20 [.sl none 2 [.str (nm 65), .str (nm 66)], .int .i64 n, .int .i64 N] H (.tup [.agg [.int .u8 0, .int .i64 0, .nils, .int .i64 0, .nils, .nils, .nils], .int .i64 5]) := fun N H => Nth_many [65, 66] nmo2 n N hn1 hn5 hc H
    (repeat' ((conv => whnf); (first | (refine IfN.id ?_; first | refine IfN.dT (by omega) ?_ | refine IfN.not ?_ | refine IfN.tt rfl ?_ | fail) | (refine EqN.id ?_; first | refine EqN.addC 1 (size % 5) n rfl rfl hn (by omega) ?_ | refine EqN.remC 2 rfl rfl h0 ?_ | refine EqN.shlC n (n * (2 - 0)) W rfl rfl rfl hWe (by omega) hsm ?_ | (refine EqN.mulN _ _ (by first | with_reducible rfl | with_reducible exact cst1 | with_reducible exact cst0 | with_reducible exact cst2 | with_reducible exact cst3 | with_reducible exact cst4 | with_reducible exact cst5 | with_reducible exact cst6 | with_reducible exact cst7 | with_reducible exact cst8 | with_reducible exact cst14 | with_reducible exact cst15 | with_reducible exact cst25 | with_reducible exact cst30 | with_reducible exact cst31 | fail) (by first | with_reducible rfl | with_reducible exact cst1 | with_reducible exact cst0 | with_reducible exact cst2 | with_reducible exact cst3 | with_reducible exact cst4 | with_reducible exact cst5 | with_reducible exact cst6 | with_reducible exact cst7 | with_reducible exact cst8 | with_reducible exact cst14 | with_reducible exact cst15 | with_reducible exact cst25 | with_reducible exact cst30 | with_reducible exact cst31 | fail) ?_ ?_; · (repeat' (first | omega | refine And.intro ?_ ?_ | exact bnd_andl (by omega) | exact bnd_andr (by omega) | refine bnd_or ?_ ?_ | refine bnd_or31 ?_ ?_ | refine bnd_xor ?_ ?_ | refine bnd_xor31 ?_ ?_ | refine bnd_shr ?_ | refine bnd_shl ?_ ?_ | refine bnd_mod ?_ | refine bnd_andl ?_ | fail))) | refine EqN.remN _ _ (by first | with_reducible rfl | with_reducible exact cst1 | with_reducible exact cst0 | with_reducible exact cst2 | with_reducible exact cst3 | with_reducible exact cst4 | with_reducible exact cst5 | with_reducible exact cst6 | with_reducible exact cst7 | with_reducible exact cst8 | with_reducible exact cst14 | with_reducible exact cst15 | with_reducible exact cst25 | with_reducible exact cst30 | with_reducible exact cst31 | fail) (by first | with_reducible rfl | with_reducible exact cst1 | with_reducible exact cst0 | with_reducible exact cst2 | with_reducible exact cst3 | with_reducible exact cst4 | with_reducible exact cst5 | with_reducible exact cst6 | with_reducible exact cst7 | with_reducible exact cst8 | with_reducible exact cst14 | with_reducible exact cst15 | with_reducible exact cst25 | with_reducible exact cst30 | with_reducible exact cst31 | fail) ?_ | refine EqN.i64 (by omega) ?_ | fail) | (refine SideN.mk ?_ ?_; · first | kernel_rfl | omega | exact List.cons_ne_nil _ _ | (simp; done) | (simp; omega) | exact trivial | assumption | fail) | refine NatN.mk _ rfl ?_ | (refine CallN.id ?_; first | refine CallN.det _ (awake_c _) ?_ | refine CallN.det _ (hC _) ?_ | refine CallN.det _ (hM _ _) ?_ | fail) | refine SubN.mk [.str (nm 65), .str (nm 66)] ⟨⟨_, rfl⟩, rfl⟩ ?_ | fail))); all_goals (conv => whnf)
    exact EndN.det trivial (Wk.refl _)
  · have hC : ∀ H, VDet Tryd.prog 19 [.sl none 2 [.str (nm 65), .str (nm 66)], .int .i64 n] H (.tup [.int .i64 W, .int .i64 0]) := fun H => by rw [← hcW]; exact few_c [65, 66] nmo2 n hn1 hn5 hc H
    have hM : ∀ H, VDet Tryd.prog 20 [.sl none 2 [.str (nm 65), .str (nm 66)], .int .i64 n, .int .i64 W] H (.tup [.agg [.int .u8 0, .int .i64 0, .nils, .int .i64 0, .nils, .nils, .nils], .int .i64 6]) := fun H => Nth_none [65, 66] nmo2 n W hn1 hn5 hc (.inr (by show ((cntN 2 n : Nat) : Int) ≤ W; omega)) H
    have hi := Nat.mod_lt a (show W > 0 by omega)
    have hj := Nat.mod_lt b (show W > 0 by omega)
    generalize hie : a % W = i at hi
    generalize hje : b % W = j at hj
    obtain ⟨lp, u, v, p1, p2, p3, p4⟩ := got_2 n hn1 hn5 i (by omega)
    obtain ⟨lq, u', v', q1, q2, q3, q4⟩ := got_2 n hn1 hn5 j (by omega)
    have hB : 2 ^ n = 2 ∨ 2 ^ n = 4 ∨ 2 ^ n = 8 ∨ 2 ^ n = 16 ∨ 2 ^ n = 32 := by
      have : n = 1 ∨ n = 2 ∨ n = 3 ∨ n = 4 ∨ n = 5 := by omega
      rcases this with rfl | rfl | rfl | rfl | rfl <;> decide
    generalize 2 ^ n = B at p4 q4 hB
    unfold Tr.cells at p1 p2 p3 q1 q2 q3
    simp only [List.flatMap_cons, List.flatMap_nil, encT, List.cons_append, List.nil_append, List.append_nil] at p1 p2 p3 q1 q2 q3
    (repeat' ((conv => whnf); (first | (refine IfN.id ?_; first | refine IfN.not ?_ | refine IfN.tt rfl ?_ | refine IfN.dT (by omega) ?_ | refine IfN.dF (by omega) ?_ | fail) | (refine EqN.id ?_; first | refine EqN.addC 1 (size % 5) n rfl rfl hn (by omega) ?_ | refine EqN.remC 2 rfl rfl h0 ?_ | refine EqN.remC i rfl rfl hie ?_ | refine EqN.remC j rfl rfl hje ?_ | refine EqN.shlC n (n * (2 - 0)) W rfl rfl rfl hWe (by omega) hsm ?_ | (refine EqN.addN _ _ (by first | with_reducible rfl | with_reducible exact cst1 | with_reducible exact cst0 | with_reducible exact cst2 | with_reducible exact cst3 | with_reducible exact cst4 | with_reducible exact cst5 | with_reducible exact cst6 | with_reducible exact cst7 | with_reducible exact cst8 | with_reducible exact cst14 | with_reducible exact cst15 | with_reducible exact cst25 | with_reducible exact cst30 | with_reducible exact cst31 | fail) (by first | with_reducible rfl | with_reducible exact cst1 | with_reducible exact cst0 | with_reducible exact cst2 | with_reducible exact cst3 | with_reducible exact cst4 | with_reducible exact cst5 | with_reducible exact cst6 | with_reducible exact cst7 | with_reducible exact cst8 | with_reducible exact cst14 | with_reducible exact cst15 | with_reducible exact cst25 | with_reducible exact cst30 | with_reducible exact cst31 | fail) ?_ ?_; · (repeat' (first | omega | refine And.intro ?_ ?_ | exact bnd_andl (by omega) | exact bnd_andr (by omega) | refine bnd_or ?_ ?_ | refine bnd_or31 ?_ ?_ | refine bnd_xor ?_ ?_ | refine bnd_xor31 ?_ ?_ | refine bnd_shr ?_ | refine bnd_shl ?_ ?_ | refine bnd_mod ?_ | refine bnd_andl ?_ | fail))) | (refine EqN.mulN _ _ (by first | with_reducible rfl | with_reducible exact cst1 | with_reducible exact cst0 | with_reducible exact cst2 | with_reducible exact cst3 | with_reducible exact cst4 | with_reducible exact cst5 | with_reducible exact cst6 | with_reducible exact cst7 | with_reducible exact cst8 | with_reducible exact cst14 | with_reducible exact cst15 | with_reducible exact cst25 | with_reducible exact cst30 | with_reducible exact cst31 | fail) (by first | with_reducible rfl | with_reducible exact cst1 | with_reducible exact cst0 | with_reducible exact cst2 | with_reducible exact cst3 | with_reducible exact cst4 | with_reducible exact cst5 | with_reducible exact cst6 | with_reducible exact cst7 | with_reducible exact cst8 | with_reducible exact cst14 | with_reducible exact cst15 | with_reducible exact cst25 | with_reducible exact cst30 | with_reducible exact cst31 | fail) ?_ ?_; · (repeat' (first | omega | refine And.intro ?_ ?_ | exact bnd_andl (by omega) | exact bnd_andr (by omega) | refine bnd_or ?_ ?_ | refine bnd_or31 ?_ ?_ | refine bnd_xor ?_ ?_ | refine bnd_xor31 ?_ ?_ | refine bnd_shr ?_ | refine bnd_shl ?_ ?_ | refine bnd_mod ?_ | refine bnd_andl ?_ | fail))) | refine EqN.remN _ _ (by first | with_reducible rfl | with_reducible exact cst1 | with_reducible exact cst0 | with_reducible exact cst2 | with_reducible exact cst3 | with_reducible exact cst4 | with_reducible exact cst5 | with_reducible exact cst6 | with_reducible exact cst7 | with_reducible exact cst8 | with_reducible exact cst14 | with_reducible exact cst15 | with_reducible exact cst25 | with_reducible exact cst30 | with_reducible exact cst31 | fail) (by first | with_reducible rfl | with_reducible exact cst1 | with_reducible exact cst0 | with_reducible exact cst2 | with_reducible exact cst3 | with_reducible exact cst4 | with_reducible exact cst5 | with_reducible exact cst6 | with_reducible exact cst7 | with_reducible exact cst8 | with_reducible exact cst14 | with_reducible exact cst15 | with_reducible exact cst25 | with_reducible exact cst30 | with_reducible exact cst31 | fail) ?_ | refine EqN.i64 (by omega) ?_ | fail) | (refine SideN.mk ?_ ?_; · first | kernel_rfl | omega | exact List.cons_ne_nil _ _ | (simp; done) | (simp; omega) | exact trivial | assumption | fail) | refine NatN.mk _ rfl ?_ | (refine CallN.id ?_; first | refine CallN.det _ (awake_c _) ?_ | refine CallN.det _ (hC _) ?_ | refine CallN.det _ (hM _) ?_ | refine CallN.det _ (p1 _) ?_ | refine CallN.det _ (p2 _) ?_ | refine CallN.det _ (p3 _) ?_ | refine CallN.det _ (q1 _) ?_ | refine CallN.det _ (q2 _) ?_ | fail) | refine SubN.mk [.str (nm 65), .str (nm 66)] ⟨⟨_, rfl⟩, rfl⟩ ?_ | fail))); all_goals (conv => whnf)
    refine LoopN.rounds Tryd.E0 Tryd.mx 3 rfl ?_
    (repeat' ((conv => whnf); (first | (refine IfN.id ?_; first | refine IfN.tt rfl ?_ | refine IfN.ff rfl ?_ | fail) | (refine EqN.id ?_; first | (refine EqN.addN _ _ (by first | with_reducible rfl | with_reducible exact cst1 | with_reducible exact cst0 | with_reducible exact cst2 | with_reducible exact cst3 | with_reducible exact cst4 | with_reducible exact cst5 | with_reducible exact cst6 | with_reducible exact cst7 | with_reducible exact cst8 | with_reducible exact cst14 | with_reducible exact cst15 | with_reducible exact cst25 | with_reducible exact cst30 | with_reducible exact cst31 | fail) (by first | with_reducible rfl | with_reducible exact cst1 | with_reducible exact cst0 | with_reducible exact cst2 | with_reducible exact cst3 | with_reducible exact cst4 | with_reducible exact cst5 | with_reducible exact cst6 | with_reducible exact cst7 | with_reducible exact cst8 | with_reducible exact cst14 | with_reducible exact cst15 | with_reducible exact cst25 | with_reducible exact cst30 | with_reducible exact cst31 | fail) ?_ ?_; · (repeat' (first | omega | refine And.intro ?_ ?_ | exact bnd_andl (by omega) | exact bnd_andr (by omega) | refine bnd_or ?_ ?_ | refine bnd_or31 ?_ ?_ | refine bnd_xor ?_ ?_ | refine bnd_xor31 ?_ ?_ | refine bnd_shr ?_ | refine bnd_shl ?_ ?_ | refine bnd_mod ?_ | refine bnd_andl ?_ | fail))) | fail) | (refine SideN.mk ?_ ?_; · first | kernel_rfl | omega | exact List.cons_ne_nil _ _ | (simp; done) | (simp; omega) | exact trivial | assumption | fail) | refine OrN.l ?_ | refine SideN.mk ⟨Nat.le_of_ble_eq_true rfl, rfl, rfl, by simp, by simp [maxLen]⟩ ?_ | refine SideN.mk ⟨rfl, rfl, rfl, by simp, by simp [maxLen]⟩ ?_ | (refine PtrN.id ?_; first | refine PtrN.loc _ rfl ?_ | fail) | refine SegN.mk _ (seg_rfl rfl) ?_ | fail))); all_goals (conv => whnf)
    refine LoopN.rounds Tryd.E0 Tryd.mx 4 rfl ?_
    (repeat' ((conv => whnf); (first | (refine IfN.id ?_; first | refine IfN.not ?_ | refine IfN.tt rfl ?_ | refine IfN.ff rfl ?_ | refine IfN.dec (fun _ => ?_) (fun _ => ?_) | fail) | (refine EqN.id ?_; first | (refine EqN.addN _ _ (by first | with_reducible rfl | with_reducible exact cst1 | with_reducible exact cst0 | with_reducible exact cst2 | with_reducible exact cst3 | with_reducible exact cst4 | with_reducible exact cst5 | with_reducible exact cst6 | with_reducible exact cst7 | with_reducible exact cst8 | with_reducible exact cst14 | with_reducible exact cst15 | with_reducible exact cst25 | with_reducible exact cst30 | with_reducible exact cst31 | fail) (by first | with_reducible rfl | with_reducible exact cst1 | with_reducible exact cst0 | with_reducible exact cst2 | with_reducible exact cst3 | with_reducible exact cst4 | with_reducible exact cst5 | with_reducible exact cst6 | with_reducible exact cst7 | with_reducible exact cst8 | with_reducible exact cst14 | with_reducible exact cst15 | with_reducible exact cst25 | with_reducible exact cst30 | with_reducible exact cst31 | fail) ?_ ?_; · (repeat' (first | omega | refine And.intro ?_ ?_ | exact bnd_andl (by omega) | exact bnd_andr (by omega) | refine bnd_or ?_ ?_ | refine bnd_or31 ?_ ?_ | refine bnd_xor ?_ ?_ | refine bnd_xor31 ?_ ?_ | refine bnd_shr ?_ | refine bnd_shl ?_ ?_ | refine bnd_mod ?_ | refine bnd_andl ?_ | fail))) | fail) | (refine SideN.mk ?_ ?_; · first | kernel_rfl | omega | exact List.cons_ne_nil _ _ | (simp; done) | (simp; omega) | exact trivial | assumption | fail) | refine SegN.mk _ (seg_rfl rfl) ?_ | fail))); all_goals (conv => whnf)
    all_goals refine EndN.det trivial (Wk.of_eq (congrArg AV.bool ?_))
    all_goals first
      | (rw [beq_iff_eq]; rcases hB with rfl | rfl | rfl | rfl | rfl; all_goals omega)
      | (rw [beq_iff_eq, decide_eq_decide]; rcases hB with rfl | rfl | rfl | rfl | rfl; all_goals omega)
      | fail
theorem nmo3 : NmOk [65, 66, 67] := ⟨by decide, fun i hi => by
  have : i = 0 ∨ i = 1 ∨ i = 2 := by simp at hi; omega
  rcases this with rfl | rfl | rfl
  · exact (⟨by decide, by decide⟩ : cap 65)
  · exact (⟨by decide, by decide⟩ : cap 66)
  · exact (⟨by decide, by decide⟩ : cap 67),
  fun i h0 hi => by
  have : i = 0 ∨ i = 1 ∨ i = 2 := by simp at hi; omega
  rcases this with rfl | rfl | rfl
  all_goals first | (exact absurd h0 (Nat.lt_irrefl 0)) | decide | fail⟩
theorem dig_3 (n N : Nat) : ∃ lp u v w, nthT [65, 66, 67] n N = (⟨n, lp, [(65, u), (66, v), (67, w)]⟩ : Tr) ∧ N = (((lp) * 2 ^ n + u) * 2 ^ n + v) * 2 ^ n + w ∧ u < 2 ^ n ∧ v < 2 ^ n ∧ w < 2 ^ n := by
  have hm : ∀ m : Nat, m &&& (1 <<< n - 1) = m % 2 ^ n := fun m => by rw [one_shl]; exact Nat.and_two_pow_sub_one_eq_mod m n
  have hd : ∀ m : Nat, m >>> n = m / 2 ^ n := fun m => Nat.shiftRight_eq_div_pow m n
  have hp := Nat.two_pow_pos n
  refine ⟨(((N / 2 ^ n) / 2 ^ n) / 2 ^ n), ((N / 2 ^ n) / 2 ^ n) % 2 ^ n, (N / 2 ^ n) % 2 ^ n, N % 2 ^ n, ?_, ?_, Nat.mod_lt _ hp, Nat.mod_lt _ hp, Nat.mod_lt _ hp⟩
  · simp only [nthT, nthA, hm, hd]
  · generalize 2 ^ n = B at *
    have := Nat.div_add_mod N B; have hc := Nat.mul_comm B (N / B)
    have := Nat.div_add_mod (N / B) B; have hc := Nat.mul_comm B ((N / B) / B)
    have := Nat.div_add_mod ((N / B) / B) B; have hc := Nat.mul_comm B (((N / B) / B) / B)
    rw [Nat.mul_comm (((N / B) / B) / B) B, Nat.div_add_mod ((N / B) / B) B]
    rw [Nat.mul_comm ((N / B) / B) B, Nat.div_add_mod (N / B) B]
    rw [Nat.mul_comm (N / B) B, Nat.div_add_mod N B]
theorem got_3 (n : Nat) (h1 : 1 ≤ n) (h5 : n ≤ 5) (N : Nat) (hN : N < cntN 3 n) : ∃ lp u v w, (∀ H, VDet Tryd.prog 20 [.sl none 3 [.str (nm 65), .str (nm 66), .str (nm 67)], .int .i64 n, .int .i64 N] H (.tup [.agg (⟨n, lp, [(65, u), (66, v), (67, w)]⟩ : Tr).cells, .int .i64 0])) ∧ (∀ H, VDet Tryd.prog 29 [.agg (⟨n, lp, [(65, u), (66, v), (67, w)]⟩ : Tr).cells] H (.tup [.int .i64 N, .int .i64 0])) ∧ (∀ H, VDet Tryd.prog 15 [.agg (⟨n, lp, [(65, u), (66, v), (67, w)]⟩ : Tr).cells] H (.bool true)) ∧ N = (((lp) * 2 ^ n + u) * 2 ^ n + v) * 2 ^ n + w ∧ u < 2 ^ n ∧ v < 2 ^ n ∧ w < 2 ^ n := by
  obtain ⟨lp, u, v, w, e, h⟩ := dig_3 n N
  have hok := nthT_ok nmo3 h1 h5 hN
  have h2 := num_nth [65, 66, 67] n N
  have h3 := fun H => Nth_3 65 66 67 nmo3 n N h1 h5 (by omega) hN H
  rw [e] at hok h2
  simp only [e] at h3
  refine ⟨lp, u, v, w, h3, fun H => ?_, fun H => valid_t hok H, h⟩
  have := Number_c _ hok (by simp) (by show cntN 3 n ≠ 0; omega) H
  unfold numT at h2
  rw [h2] at this
  exact this
theorem order_3 (names size a b : Nat) (h0 : names % 4 = 3) (hs : size ≤ 255) (ha : a ≤ 65535) (hb : b ≤ 65535) (H : Heap) : VDet Tryd.prog 7 [.int .u8 names, .int .u8 size, .int .u16 a, .int .u16 b] H (.bool true) := by
  refine fn_det Tryd.E0 Tryd.mx Tryd.func7 (by kernel_rfl) rfl (Nat.le_of_ble_eq_true rfl) rfl fun hcl hbl => ?_
  have hn1 : 1 ≤ 1 + size % 5 := by omega
  have hn5 : 1 + size % 5 ≤ 5 := by omega
  generalize hn : 1 + size % 5 = n at hn1 hn5
  have hcs := want_cases 3 n (by decide) hn1 hn5
  have hsm : n <<< (n * (3 - 0)) < 9223372036854775808 := bnd_shl (by omega) (by omega)
  generalize hWe : n <<< (n * (3 - 0)) = W at hsm
  rw [show n * 3 = n * (3 - 0) from rfl, hWe] at hcs
  rcases hcs with ⟨hc, hW⟩ | ⟨hc, hcW, hW, hW1⟩
  · have hC : ∀ H, VDet Tryd.prog 19 [.sl none 3 [.str (nm 65), .str (nm 66), .str (nm 67)], .int .i64 n] H (.tup [.int .i64 0, .int .i64 5]) := many_c [65, 66, 67] nmo3 n hn1 hn5 hc
    have hM : ∀ (N : Nat) H, VDet Tryd.prog 20 [.sl none 3 [.str (nm 65), .str (nm 66), .str (nm 67)], .int .i64 n, .int .i64 N] H (.tup [.agg [.int .u8 0, .int .i64 0, .nils, .int .i64 0, .nils, .nils, .nils], .int .i64 5]) := fun N H => Nth_many [65, 66, 67] nmo3 n N hn1 hn5 hc H
    (repeat' ((conv => whnf); (first | (refine IfN.id ?_; first | refine IfN.dT (by omega) ?_ | refine IfN.not ?_ | refine IfN.tt rfl ?_ | fail) | (refine EqN.id ?_; first | refine EqN.addC 1 (size % 5) n rfl rfl hn (by omega) ?_ | refine EqN.remC 3 rfl rfl h0 ?_ | refine EqN.shlC n (n * (3 - 0)) W rfl rfl rfl hWe (by omega) hsm ?_ | (refine EqN.mulN _ _ (by first | with_reducible rfl | with_reducible exact cst1 | with_reducible exact cst0 | with_reducible exact cst2 | with_reducible exact cst3 | with_reducible exact cst4 | with_reducible exact cst5 | with_reducible exact cst6 | with_reducible exact cst7 | with_reducible exact cst8 | with_reducible exact cst14 | with_reducible exact cst15 | with_reducible exact cst25 | with_reducible exact cst30 | with_reducible exact cst31 | fail) (by first | with_reducible rfl | with_reducible exact cst1 | with_reducible exact cst0 | with_reducible exact cst2 | with_reducible exact cst3 | with_reducible exact cst4 | with_reducible exact cst5 | with_reducible exact cst6 | with_reducible exact cst7 | with_reducible exact cst8 | with_reducible exact cst14 | with_reducible exact cst15 | with_reducible exact cst25 | with_reducible exact cst30 | with_reducible exact cst31 | fail) ?_ ?_; · (repeat' (first | omega | refine And.intro ?_ ?_ | exact bnd_andl (by omega) | exact bnd_andr (by omega) | refine bnd_or ?_ ?_ | refine bnd_or31 ?_ ?_ | refine bnd_xor ?_ ?_ | refine bnd_xor31 ?_ ?_ | refine bnd_shr ?_ | refine bnd_shl ?_ ?_ | refine bnd_mod ?_ | refine bnd_andl ?_ | fail))) | refine EqN.remN _ _ (by first | with_reducible rfl | with_reducible exact cst1 | with_reducible exact cst0 | with_reducible exact cst2 | with_reducible exact cst3 | with_reducible exact cst4 | with_reducible exact cst5 | with_reducible exact cst6 | with_reducible exact cst7 | with_reducible exact cst8 | with_reducible exact cst14 | with_reducible exact cst15 | with_reducible exact cst25 | with_reducible exact cst30 | with_reducible exact cst31 | fail) (by first | with_reducible rfl | with_reducible exact cst1 | with_reducible exact cst0 | with_reducible exact cst2 | with_reducible exact cst3 | with_reducible exact cst4 | with_reducible exact cst5 | with_reducible exact cst6 | with_reducible exact cst7 | with_reducible exact cst8 | with_reducible exact cst14 | with_reducible exact cst15 | with_reducible exact cst25 | with_reducible exact cst30 | with_reducible exact cst31 | fail) ?_ | refine EqN.i64 (by omega) ?_ | fail) | (refine SideN.mk ?_ ?_; · first | kernel_rfl | omega | exact List.cons_ne_nil _ _ | (simp; done) | (simp; omega) | exact trivial | assumption | fail) | refine NatN.mk _ rfl ?_ | (refine CallN.id ?_; first | refine CallN.det _ (awake_c _) ?_ | refine CallN.det _ (hC _) ?_ | refine CallN.det _ (hM _ _) ?_ | fail) | refine SubN.mk [.str (nm 65), .str (nm 66), .str (nm 67)] ⟨⟨_, rfl⟩, rfl⟩ ?_ | fail))); all_goals (conv => whnf)
    exact EndN.det trivial (Wk.refl _)
  · have hC : ∀ H, VDet Tryd.prog 19 [.sl none 3 [.str (nm 65), .str (nm 66), .str (nm 67)], .int .i64 n] H (.tup [.int .i64 W, .int .i64 0]) := fun H => by rw [← hcW]; exact few_c [65, 66, 67] nmo3 n hn1 hn5 hc H
    have hM : ∀ H, VDet Tryd.prog 20 [.sl none 3 [.str (nm 65), .str (nm 66), .str (nm 67)], .int .i64 n, .int .i64 W] H (.tup [.agg [.int .u8 0, .int .i64 0, .nils, .int .i64 0, .nils, .nils, .nils], .int .i64 6]) := fun H => Nth_none [65, 66, 67] nmo3 n W hn1 hn5 hc (.inr (by show ((cntN 3 n : Nat) : Int) ≤ W; omega)) H
    have hi := Nat.mod_lt a (show W > 0 by omega)
    have hj := Nat.mod_lt b (show W > 0 by omega)
    generalize hie : a % W = i at hi
    generalize hje : b % W = j at hj
    obtain ⟨lp, u, v, w, p1, p2, p3, p4⟩ := got_3 n hn1 hn5 i (by omega)
    obtain ⟨lq, u', v', w', q1, q2, q3, q4⟩ := got_3 n hn1 hn5 j (by omega)
    have hB : 2 ^ n = 2 ∨ 2 ^ n = 4 ∨ 2 ^ n = 8 ∨ 2 ^ n = 16 ∨ 2 ^ n = 32 := by
      have : n = 1 ∨ n = 2 ∨ n = 3 ∨ n = 4 ∨ n = 5 := by omega
      rcases this with rfl | rfl | rfl | rfl | rfl <;> decide
    generalize 2 ^ n = B at p4 q4 hB
    unfold Tr.cells at p1 p2 p3 q1 q2 q3
    simp only [List.flatMap_cons, List.flatMap_nil, encT, List.cons_append, List.nil_append, List.append_nil] at p1 p2 p3 q1 q2 q3
    (repeat' ((conv => whnf); (first | (refine IfN.id ?_; first | refine IfN.not ?_ | refine IfN.tt rfl ?_ | refine IfN.dT (by omega) ?_ | refine IfN.dF (by omega) ?_ | fail) | (refine EqN.id ?_; first | refine EqN.addC 1 (size % 5) n rfl rfl hn (by omega) ?_ | refine EqN.remC 3 rfl rfl h0 ?_ | refine EqN.remC i rfl rfl hie ?_ | refine EqN.remC j rfl rfl hje ?_ | refine EqN.shlC n (n * (3 - 0)) W rfl rfl rfl hWe (by omega) hsm ?_ | (refine EqN.addN _ _ (by first | with_reducible rfl | with_reducible exact cst1 | with_reducible exact cst0 | with_reducible exact cst2 | with_reducible exact cst3 | with_reducible exact cst4 | with_reducible exact cst5 | with_reducible exact cst6 | with_reducible exact cst7 | with_reducible exact cst8 | with_reducible exact cst14 | with_reducible exact cst15 | with_reducible exact cst25 | with_reducible exact cst30 | with_reducible exact cst31 | fail) (by first | with_reducible rfl | with_reducible exact cst1 | with_reducible exact cst0 | with_reducible exact cst2 | with_reducible exact cst3 | with_reducible exact cst4 | with_reducible exact cst5 | with_reducible exact cst6 | with_reducible exact cst7 | with_reducible exact cst8 | with_reducible exact cst14 | with_reducible exact cst15 | with_reducible exact cst25 | with_reducible exact cst30 | with_reducible exact cst31 | fail) ?_ ?_; · (repeat' (first | omega | refine And.intro ?_ ?_ | exact bnd_andl (by omega) | exact bnd_andr (by omega) | refine bnd_or ?_ ?_ | refine bnd_or31 ?_ ?_ | refine bnd_xor ?_ ?_ | refine bnd_xor31 ?_ ?_ | refine bnd_shr ?_ | refine bnd_shl ?_ ?_ | refine bnd_mod ?_ | refine bnd_andl ?_ | fail))) | (refine EqN.mulN _ _ (by first | with_reducible rfl | with_reducible exact cst1 | with_reducible exact cst0 | with_reducible exact cst2 | with_reducible exact cst3 | with_reducible exact cst4 | with_reducible exact cst5 | with_reducible exact cst6 | with_reducible exact cst7 | with_reducible exact cst8 | with_reducible exact cst14 | with_reducible exact cst15 | with_reducible exact cst25 | with_reducible exact cst30 | with_reducible exact cst31 | fail) (by first | with_reducible rfl | with_reducible exact cst1 | with_reducible exact cst0 | with_reducible exact cst2 | with_reducible exact cst3 | with_reducible exact cst4 | with_reducible exact cst5 | with_reducible exact cst6 | with_reducible exact cst7 | with_reducible exact cst8 | with_reducible exact cst14 | with_reducible exact cst15 | with_reducible exact cst25 | with_reducible exact cst30 | with_reducible exact cst31 | fail) ?_ ?_; · (repeat' (first | omega | refine And.intro ?_ ?_ | exact bnd_andl (by omega) | exact bnd_andr (by omega) | refine bnd_or ?_ ?_ | refine bnd_or31 ?_ ?_ | refine bnd_xor ?_ ?_ | refine bnd_xor31 ?_ ?_ | refine bnd_shr ?_ | refine bnd_shl ?_ ?_ | refine bnd_mod ?_ | refine bnd_andl ?_ | fail))) | refine EqN.remN _ _ (by first | with_reducible rfl | with_reducible exact cst1 | with_reducible exact cst0 | with_reducible exact cst2 | with_reducible exact cst3 | with_reducible exact cst4 | with_reducible exact cst5 | with_reducible exact cst6 | with_reducible exact cst7 | with_reducible exact cst8 | with_reducible exact cst14 | with_reducible exact cst15 | with_reducible exact cst25 | with_reducible exact cst30 | with_reducible exact cst31 | fail) (by first | with_reducible rfl | with_reducible exact cst1 | with_reducible exact cst0 | with_reducible exact cst2 | with_reducible exact cst3 | with_reducible exact cst4 | with_reducible exact cst5 | with_reducible exact cst6 | with_reducible exact cst7 | with_reducible exact cst8 | with_reducible exact cst14 | with_reducible exact cst15 | with_reducible exact cst25 | with_reducible exact cst30 | with_reducible exact cst31 | fail) ?_ | refine EqN.i64 (by omega) ?_ | fail) | (refine SideN.mk ?_ ?_; · first | kernel_rfl | omega | exact List.cons_ne_nil _ _ | (simp; done) | (simp; omega) | exact trivial | assumption | fail) | refine NatN.mk _ rfl ?_ | (refine CallN.id ?_; first | refine CallN.det _ (awake_c _) ?_ | refine CallN.det _ (hC _) ?_ | refine CallN.det _ (hM _) ?_ | refine CallN.det _ (p1 _) ?_ | refine CallN.det _ (p2 _) ?_ | refine CallN.det _ (p3 _) ?_ | refine CallN.det _ (q1 _) ?_ | refine CallN.det _ (q2 _) ?_ | fail) | refine SubN.mk [.str (nm 65), .str (nm 66), .str (nm 67)] ⟨⟨_, rfl⟩, rfl⟩ ?_ | fail))); all_goals (conv => whnf)
    refine LoopN.rounds Tryd.E0 Tryd.mx 4 rfl ?_
    (repeat' ((conv => whnf); (first | (refine IfN.id ?_; first | refine IfN.tt rfl ?_ | refine IfN.ff rfl ?_ | fail) | (refine EqN.id ?_; first | (refine EqN.addN _ _ (by first | with_reducible rfl | with_reducible exact cst1 | with_reducible exact cst0 | with_reducible exact cst2 | with_reducible exact cst3 | with_reducible exact cst4 | with_reducible exact cst5 | with_reducible exact cst6 | with_reducible exact cst7 | with_reducible exact cst8 | with_reducible exact cst14 | with_reducible exact cst15 | with_reducible exact cst25 | with_reducible exact cst30 | with_reducible exact cst31 | fail) (by first | with_reducible rfl | with_reducible exact cst1 | with_reducible exact cst0 | with_reducible exact cst2 | with_reducible exact cst3 | with_reducible exact cst4 | with_reducible exact cst5 | with_reducible exact cst6 | with_reducible exact cst7 | with_reducible exact cst8 | with_reducible exact cst14 | with_reducible exact cst15 | with_reducible exact cst25 | with_reducible exact cst30 | with_reducible exact cst31 | fail) ?_ ?_; · (repeat' (first | omega | refine And.intro ?_ ?_ | exact bnd_andl (by omega) | exact bnd_andr (by omega) | refine bnd_or ?_ ?_ | refine bnd_or31 ?_ ?_ | refine bnd_xor ?_ ?_ | refine bnd_xor31 ?_ ?_ | refine bnd_shr ?_ | refine bnd_shl ?_ ?_ | refine bnd_mod ?_ | refine bnd_andl ?_ | fail))) | fail) | (refine SideN.mk ?_ ?_; · first | kernel_rfl | omega | exact List.cons_ne_nil _ _ | (simp; done) | (simp; omega) | exact trivial | assumption | fail) | refine OrN.l ?_ | refine SideN.mk ⟨Nat.le_of_ble_eq_true rfl, rfl, rfl, by simp, by simp [maxLen]⟩ ?_ | refine SideN.mk ⟨rfl, rfl, rfl, by simp, by simp [maxLen]⟩ ?_ | (refine PtrN.id ?_; first | refine PtrN.loc _ rfl ?_ | fail) | refine SegN.mk _ (seg_rfl rfl) ?_ | fail))); all_goals (conv => whnf)
    refine LoopN.rounds Tryd.E0 Tryd.mx 5 rfl ?_
    (repeat' ((conv => whnf); (first | (refine IfN.id ?_; first | refine IfN.not ?_ | refine IfN.tt rfl ?_ | refine IfN.ff rfl ?_ | refine IfN.dec (fun _ => ?_) (fun _ => ?_) | fail) | (refine EqN.id ?_; first | (refine EqN.addN _ _ (by first | with_reducible rfl | with_reducible exact cst1 | with_reducible exact cst0 | with_reducible exact cst2 | with_reducible exact cst3 | with_reducible exact cst4 | with_reducible exact cst5 | with_reducible exact cst6 | with_reducible exact cst7 | with_reducible exact cst8 | with_reducible exact cst14 | with_reducible exact cst15 | with_reducible exact cst25 | with_reducible exact cst30 | with_reducible exact cst31 | fail) (by first | with_reducible rfl | with_reducible exact cst1 | with_reducible exact cst0 | with_reducible exact cst2 | with_reducible exact cst3 | with_reducible exact cst4 | with_reducible exact cst5 | with_reducible exact cst6 | with_reducible exact cst7 | with_reducible exact cst8 | with_reducible exact cst14 | with_reducible exact cst15 | with_reducible exact cst25 | with_reducible exact cst30 | with_reducible exact cst31 | fail) ?_ ?_; · (repeat' (first | omega | refine And.intro ?_ ?_ | exact bnd_andl (by omega) | exact bnd_andr (by omega) | refine bnd_or ?_ ?_ | refine bnd_or31 ?_ ?_ | refine bnd_xor ?_ ?_ | refine bnd_xor31 ?_ ?_ | refine bnd_shr ?_ | refine bnd_shl ?_ ?_ | refine bnd_mod ?_ | refine bnd_andl ?_ | fail))) | fail) | (refine SideN.mk ?_ ?_; · first | kernel_rfl | omega | exact List.cons_ne_nil _ _ | (simp; done) | (simp; omega) | exact trivial | assumption | fail) | refine SegN.mk _ (seg_rfl rfl) ?_ | fail))); all_goals (conv => whnf)
    all_goals refine EndN.det trivial (Wk.of_eq (congrArg AV.bool ?_))
    all_goals first
      | (rw [beq_iff_eq]; rcases hB with rfl | rfl | rfl | rfl | rfl; all_goals omega)
      | (rw [beq_iff_eq, decide_eq_decide]; rcases hB with rfl | rfl | rfl | rfl | rfl; all_goals omega)
      | fail
theorem order_c (names size a b : Nat) (hs : size ≤ 255) (ha : a ≤ 65535) (hb : b ≤ 65535) (H : Heap) : VDet Tryd.prog 7 [.int .u8 names, .int .u8 size, .int .u16 a, .int .u16 b] H (.bool true) := by
  have : names % 4 = 0 ∨ names % 4 = 1 ∨ names % 4 = 2 ∨ names % 4 = 3 := by omega
  rcases this with h | h | h | h
  · exact order_0 names size a b h hs ha hb H
  · exact order_1 names size a b h hs ha hb H
  · exact order_2 names size a b h hs ha hb H
  · exact order_3 names size a b h hs ha hb H
end Go.Proofs.YtjflngchbeegcaaDoor
