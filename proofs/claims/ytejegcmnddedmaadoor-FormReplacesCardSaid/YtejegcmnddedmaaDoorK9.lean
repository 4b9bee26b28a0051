/- A text of the proof: the parts UF02, UG02, DY02. -/
import Derived.ProofKit
import Derived.LaidMore
import Derived.OpenShut
import Derived.Test.YtejegcmnddedmaaDoorK8
set_option linter.unusedSimpArgs false
set_option linter.unusedVariables false
/-! text UF02 -/
namespace Go.Proofs.YtejegcmnddedmaaDoor
open Go.Vsi
set_option maxHeartbeats 2000000

/-! ### what With does: plain laws -/
theorem wI_eq (n : Int) : wI n = (n + 9223372036854775808) % 18446744073709551616 - 9223372036854775808 := by
  unfold wI
  rw [IntKind.wrap_i64]
theorem wI_addl (a b : Int) : wI (wI a + b) = wI (a + b) := by simp only [wI_eq]; omega
theorem wI_le (a : Int) : wI a ≤ 9223372036854775807 := by simp only [wI_eq]; omega
/-- nodes -/
def tmsN (l : List Tm) : Nat := (tparts l).length
def nodesL : List Fo → Nat
  | [] => 0
  | x :: l => (tmsN (targs x) + 1) + nodesL l
theorem nodesL_app : ∀ a b : List Fo, nodesL (a ++ b) = nodesL a + nodesL b
  | [], b => by simp [nodesL]
  | x :: a, b => by simp only [List.cons_append, nodesL, nodesL_app a b]; omega
def nodesN (f : Fo) : Nat := nodesL (fpart f)
theorem foldE_cnt : ∀ (l : List Tm) (a : Int), foldE (stepT 9223372036854775807) (wI a) l = (wI (a + l.length), true)
  | [], a => by simp [foldE]
  | x :: l, a => by
    rw [foldE_cons]
    have e : stepT 9223372036854775807 (wI a) x = (wI (a + 1), true) := by
      unfold stepT
      rw [wI_addl]
      simp [wI_le]
    rw [e]
    simp only [if_true]
    rw [foldE_cnt l (a + 1)]
    congr 2
    simp only [List.length_cons]
    omega
theorem foldB_cnt : ∀ (l : List Fo) (a : Int), foldB (stepC 9223372036854775807) (wI a) l = (wI (a + nodesL l), none)
  | [], a => by simp [foldB, nodesL]
  | x :: l, a => by
    have e0 : cntT 9223372036854775807 (wI a) (targs x) = wI (a + (tmsN (targs x) + 1 : Nat)) := by
      unfold cntT
      rw [wI_addl, foldE_cnt]
      unfold tmsN
      have e : a + 1 + ((tparts (targs x)).length : Int) = a + (((tparts (targs x)).length + 1 : Nat) : Int) := by omega
      simp only [e]
    have e : stepC 9223372036854775807 (wI a) x = (wI (a + (tmsN (targs x) + 1 : Nat)), none) := by
      unfold stepC
      rw [e0, if_neg (by have := wI_le (a + (tmsN (targs x) + 1 : Nat)); omega)]
    rw [foldB_cons, e]
    simp only
    rw [foldB_cnt l]
    have e : a + ((tmsN (targs x) + 1 : Nat) : Int) + (nodesL l : Int) = a + ((nodesL (x :: l) : Nat) : Int) := by simp only [nodesL]; omega
    simp only [e]; try rfl
theorem cntF_nodes (f : Fo) : cntF 9223372036854775807 f = wI (nodesN f) := by
  have := foldB_cnt (fpart f) 0
  rw [show wI 0 = 0 from by rw [wI_eq]; rfl] at this
  unfold cntF nodesN
  rw [this]
  simp
theorem nodesN_mk (o : Nat) (s : ByteArray) (l : List Tm) (m : List Fo) : nodesN (.mk o s l m) = tmsN l + 1 + nodesL (fparts m) := by
  unfold nodesN
  rw [fpart_mk]
  rfl
def sumN (m : List Fo) : Nat := (m.map nodesN).sum
theorem nodesL_parts : ∀ m : List Fo, nodesL (fparts m) = sumN m
  | [] => by rw [fparts_nil]; rfl
  | x :: l => by
    rw [fparts_cons, nodesL_app, nodesL_parts l]
    simp [sumN, nodesN]
theorem sumN_set (x : Fo) : ∀ (m : List Fo) (i : Nat), i < m.length → sumN (m.set i x) + nodesN (m.getD i fo0) = sumN m + nodesN x
  | [], i, h => absurd h (Nat.not_lt_zero _)
  | y :: m, 0, _ => by simp [sumN]; omega
  | y :: m, i + 1, h => by
    have := sumN_set x m i (by simpa using h)
    simp only [sumN, List.set_cons_succ, List.map_cons, List.sum_cons, List.getD_cons_succ] at this ⊢
    omega
theorem findF_ex {i : Int} {r : List Int} {f g : Fo} (h : findF f (i :: r) = some g) : 0 ≤ i ∧ i.toNat < (subs f).length ∧ i < ((subs f).length : Int) ∧ findF ((subs f).getD i.toNat fo0) r = some g := by
  rw [findF_cons] at h
  split at h
  · rename_i hi
    exact ⟨hi.1, by omega, hi.2, h⟩
  · cases h
theorem put_nodes : ∀ (pl : List Int) (f p g : Fo), findF f pl = some g → nodesN (putF pl f p) + nodesN g = nodesN f + nodesN p
  | [], f, p, g, h => by
    rw [findF_nil] at h
    cases h
    show nodesN p + nodesN f = _
    omega
  | i :: r, .mk o s l m, p, g, h => by
    obtain ⟨h0, h1, -, h2⟩ := findF_ex h
    have ih := put_nodes r _ p g h2
    have hs := sumN_set (putF r (m.getD i.toNat fo0) p) m i.toNat h1
    rw [putF_cons, nodesN_mk, nodesN_mk, nodesL_parts, nodesL_parts]
    change nodesN (putF r (m.getD i.toNat fo0) p) + nodesN g = nodesN (m.getD i.toNat fo0) + nodesN p at ih
    omega
theorem getD_set_self (m : List Fo) (i : Nat) (x : Fo) (h : i < m.length) : (m.set i x).getD i fo0 = x := by
  simp [List.getD_eq_getElem?_getD, h]
theorem getD_set_ne (m : List Fo) (i j : Nat) (x : Fo) (h : i ≠ j) : (m.set i x).getD j fo0 = m.getD j fo0 := by
  simp [List.getD_eq_getElem?_getD, List.getElem?_set_ne h]
theorem find_put : ∀ (pl : List Int) (f p g : Fo), findF f pl = some g → findF (putF pl f p) pl = some p
  | [], f, p, g, h => by rw [findF_nil]; rfl
  | i :: r, .mk o s l m, p, g, h => by
    obtain ⟨h0, h1, h3, h2⟩ := findF_ex h
    change i.toNat < m.length at h1
    rw [putF_cons, findF_cons]
    have hlen : (subs (Fo.mk o s l (m.set i.toNat (putF r (m.getD i.toNat fo0) p)))).length = m.length := by simp [subs]
    rw [if_pos ⟨h0, by rw [hlen]; exact h3⟩]
    show findF ((m.set i.toNat _).getD i.toNat fo0) r = some p
    rw [getD_set_self _ _ _ h1]
    exact find_put r _ p g h2
theorem put_back : ∀ (pl : List Int) (f p g : Fo), findF f pl = some g → putF pl (putF pl f p) g = f
  | [], f, p, g, h => by rw [findF_nil] at h; cases h; rfl
  | i :: r, .mk o s l m, p, g, h => by
    obtain ⟨h0, h1, h3, h2⟩ := findF_ex h
    change i.toNat < m.length at h1
    rw [putF_cons, putF_cons, getD_set_self _ _ _ h1]
    have ih := put_back r _ p g h2
    change putF r (putF r (m.getD i.toNat fo0) p) g = m.getD i.toNat fo0 at ih
    rw [ih, List.set_set]
    congr 1
    apply List.ext_getElem?
    intro k
    rw [List.getElem?_set]
    split
    · rename_i e
      subst e
      have h1' : i.toNat < m.length := h1
      simp [h1', List.getD_eq_getElem?_getD]
    · rfl
/-- other places -/
theorem find_other : ∀ (c : List Int) (a b : Int) (r1 r2 : List Int) (f p g : Fo), a ≠ b → findF f (c ++ a :: r1) = some g → findF (putF (c ++ a :: r1) f p) (c ++ b :: r2) = findF f (c ++ b :: r2)
  | [], a, b, r1, r2, .mk o s l m, p, g, hab, h => by
    obtain ⟨h0, h1, h3, h2⟩ := findF_ex h
    show findF (putF (a :: r1) _ p) (b :: r2) = findF _ (b :: r2)
    rw [putF_cons, findF_cons, findF_cons]
    have hlen : (subs (Fo.mk o s l (m.set a.toNat (putF r1 (m.getD a.toNat fo0) p)))).length = m.length := by simp [subs]
    rw [hlen]
    show (if 0 ≤ b ∧ b < (m.length : Int) then findF ((m.set a.toNat _).getD b.toNat fo0) r2 else none) = (if 0 ≤ b ∧ b < (m.length : Int) then findF (m.getD b.toNat fo0) r2 else none)
    split
    · rw [getD_set_ne _ _ _ _ (by omega)]
    · rfl
  | i :: c, a, b, r1, r2, .mk o s l m, p, g, hab, h => by
    obtain ⟨h0, h1, h3, h2⟩ := findF_ex h
    change i.toNat < m.length at h1
    show findF (putF (i :: (c ++ a :: r1)) _ p) (i :: (c ++ b :: r2)) = findF _ (i :: (c ++ b :: r2))
    have hlen : (subs (Fo.mk o s l (m.set i.toNat (putF (c ++ a :: r1) (m.getD i.toNat fo0) p)))).length = m.length := by simp [subs]
    rw [putF_cons, findF_cons, findF_cons, if_pos ⟨h0, by rw [hlen]; exact h3⟩, if_pos ⟨h0, h3⟩]
    show findF ((m.set i.toNat _).getD i.toNat fo0) _ = _
    rw [getD_set_self _ _ _ h1]
    exact find_other c a b r1 r2 _ p g hab h2
theorem Fo.fitL_of : ∀ l : List Fo, (∀ x ∈ l, x.fit) → Fo.fitL l
  | [], _ => trivial
  | x :: l, h => ⟨h x (List.mem_cons_self ..), Fo.fitL_of l fun y hy => h y (List.mem_cons_of_mem _ hy)⟩
theorem mem_set {m : List Fo} {i : Nat} {x y : Fo} (h : y ∈ m.set i x) : y = x ∨ y ∈ m := by
  rcases List.mem_or_eq_of_mem_set h with h | h
  · exact .inr h
  · exact .inl h
theorem put_fit : ∀ (pl : List Int) (f p g : Fo), f.fit → p.fit → findF f pl = some g → (putF pl f p).fit
  | [], f, p, g, _, hp, _ => hp
  | i :: r, .mk o s l m, p, g, hf, hp, h => by
    obtain ⟨h0, h1, h3, h2⟩ := findF_ex h
    change i.toNat < m.length at h1
    rw [putF_cons]
    refine ⟨hf.1, hf.2.1, hf.2.2.1, by rw [List.length_set]; exact hf.2.2.2.1, Fo.fitL_of _ fun y hy => ?_⟩
    rcases mem_set hy with rfl | hy
    · exact put_fit r _ p g (Fo.fitL_mem hf.2.2.2.2 _ (getD_memT m i.toNat fo0 h1)) hp h2
    · exact Fo.fitL_mem hf.2.2.2.2 _ hy
theorem put_good : ∀ (pl : List Int) (f p g : Fo), f.good → p.good → findF f pl = some g → (putF pl f p).good
  | [], f, p, g, _, hp, _ => hp
  | i :: r, .mk o s l m, p, g, hf, hp, h => by
    obtain ⟨h0, h1, h3, h2⟩ := findF_ex h
    change i.toNat < m.length at h1
    rw [putF_cons]
    refine ⟨hf.1, hf.2.1, hf.2.2.1, hf.2.2.2.1, by rw [List.length_set]; exact hf.2.2.2.2.1, Fo.goodL_of _ fun y hy => ?_⟩
    rcases mem_set hy with rfl | hy
    · exact put_good r _ p g (Fo.goodL_mem hf.2.2.2.2.2 _ (getD_memT m i.toNat fo0 h1)) hp h2
    · exact Fo.goodL_mem hf.2.2.2.2.2 _ hy
theorem put_nodesI (pl : List Int) (f p g : Fo) (h : findF f pl = some g) : wI (wI (wI (nodesN f) - wI (nodesN g)) + wI (nodesN p)) = wI (nodesN (putF pl f p)) := by
  have := put_nodes pl f p g h
  simp only [wI_eq]
  omega
theorem eqFo_self (x : Fo) : eqFo x x = true := (eqFo_iff x x).2 rfl
end Go.Proofs.YtejegcmnddedmaaDoor
/-! text UG02 -/
namespace Go.Proofs.YtejegcmnddedmaaDoor
open Go.Vsi
set_option maxHeartbeats 4000000
attribute [local irreducible] VW VCall VO bits

/-! ### FormReplaces -/
theorem fo_exq (x : Fo) : ∃ o s ln lc mn mc, x.cells = [.int .u8 (o : Nat), .str s, .sl none ln lc, .sl none mn mc] := by
  obtain ⟨o, s, l, m, rfl⟩ := fo_ex x
  rw [Fo.cells_mk]
  exact ⟨_, _, _, _, _, _, rfl⟩
theorem samR (x : Fo) (h : x.good) (H : Heap) : VDet Tryd.prog 9 [.agg x.cells, .agg x.cells] H (.bool true) := by
  have := samF_g x h x h H
  rwa [eqFo_self] at this
theorem fo0_good : fo0.good := by
  unfold fo0
  simp [Fo.good, Fo.goodL, Tm.goodL]
/-- what At returns, whole -/
def atX : Option Fo → Fo
  | some g => g
  | none => fo0
def atE : Option Fo → Nat
  | some _ => 0
  | none => 6
theorem atA_eq (r : Option Fo) : atA r = .tup [.agg (atX r).cells, .int .i64 (atE r)] := by cases r <;> rfl
theorem atX_good {f : Fo} {pl : List Int} (hg : f.good) : (atX (findF f pl)).good := by
  cases h : findF f pl with
  | none => exact fo0_good
  | some g => exact findF_good pl f g hg h
/-- the first index where two places differ -/
theorem first_ne (pl ot : List Int) (k : Nat) (h : ∀ j, j < k → pl.getD j 0 = ot.getD j 0) (h1 : k < pl.length) (h2 : k < ot.length) : ∃ c r1 r2, pl = c ++ pl.getD k 0 :: r1 ∧ ot = c ++ ot.getD k 0 :: r2 := by
  have e : pl.take k = ot.take k := by
    apply List.ext_getElem?
    intro j
    rw [List.getElem?_take, List.getElem?_take]
    split
    · rename_i hj
      have := h j hj
      simp only [List.getD_eq_getElem?_getD, List.getElem?_eq_getElem (show j < pl.length by omega), List.getElem?_eq_getElem (show j < ot.length by omega), Option.getD_some] at this ⊢
      rw [this]
    · rfl
  refine ⟨pl.take k, pl.drop (k + 1), ot.drop (k + 1), ?_, ?_⟩
  · rw [← drop_cons pl 0 k h1, List.take_append_drop]
  · rw [e, ← drop_cons ot 0 k h2, List.take_append_drop]
theorem formReplaces_c (f p : Fo) (pl ot : List Int) (hf : f.good) (hp : p.good) (hff : f.fit) (hpf : p.fit) (hpl : pl.length ≤ 9223372036854775807) (hot : ot.length ≤ 9223372036854775807) (H : Heap) : VDet Tryd.prog 4 [.agg f.cells, .agg p.cells, .sl none pl.length (pl.flatMap encI), .sl none ot.length (ot.flatMap encI)] H (.bool true) := by
  have haw := awake_c
  have hsm := fun H => (small_c [f, p] (by show 2 ≤ _; omega) ⟨hf, hp, trivial⟩ H)
  generalize smallB [f, p] = sm at *
  simp only [List.flatMap_cons, List.flatMap_nil, List.append_nil, List.length_cons, List.length_nil] at hsm
  have h1 := at_c f hf hff pl hpl
  have h2 := with_c f hf hff p hpf pl hpl
  obtain ⟨fo, fs1, fl, flc, fm, fmc, ef⟩ := fo_exq f
  obtain ⟨po, ps1, pal, plc, pm, pmc, ep⟩ := fo_exq p
  unfold withA at h2
  cases hfd : findF f pl with
  | none =>
    rw [hfd] at h1 h2
    unfold atA at h1
    simp only at h1 h2
    have h3 : ∀ H, VDet Tryd.prog 9 [.agg fo0.cells, .agg [.int .u8 0, .str .empty, .nils, .nils]] H (.bool true) := fun H => (samR fo0 fo0_good H).wk ⟨Wk.refl _, by rw [fo0_cells]; exact wk_agg ⟨Wk.refl _, Wk.refl _, wk_nils, wk_nils, trivial⟩, trivial⟩
    have h4 := samR fo0 fo0_good
    rw [ef, ep] at hsm
    rw [ef] at h1
    rw [ef, ep] at h2
    rw [fo0_cells] at h1 h2 h3 h4
    rw [ef, ep]
    clear ef ep
    simp only [List.cons_append, List.nil_append] at hsm
    have hsm : ∀ H, VDet Tryd.prog 7 [.sx 2 [.int .u8 fo, .str fs1, .sl none fl flc, .sl none fm fmc, .int .u8 po, .str ps1, .sl none pal plc, .sl none pm pmc]] H (.bool sm) := fun H => (hsm H).wk (by (repeat' (first | exact trivial | refine And.intro ?_ ?_ | exact Wk.refl _ | exact wk_sl _ _ _ | exact wk_sx _ _ | exact wk_nils | refine wk_agg ?_ | refine wk_tup ?_ | fail)); done)
    generalize pl.flatMap encI = plc at *
    generalize ot.flatMap encI = otc at *
    refine fn_det Tryd.E0 Tryd.mx Tryd.func4 (by kernel_rfl) rfl (Nat.le_of_ble_eq_true rfl) rfl fun hcl hbl => ?_
    (repeat' ((conv => whnf); (first | (refine IfN.id ?_; first | refine IfN.not ?_ | refine IfN.tt rfl ?_ | refine IfN.ff rfl ?_ | refine IfN.dec (fun _ => ?_) (fun _ => ?_) | (refine IfN.mk ?_ ?_ <;> intro _) | fail) | (refine CallN.id ?_; first | refine CallN.det _ (haw _) ?_ | refine CallN.det _ (hsm _) ?_ | refine CallN.det _ (h1 _) ?_ | refine CallN.det _ (h2 _) ?_ | refine CallN.det _ (h3 _) ?_ | refine CallN.det _ (h4 _) ?_ | fail) | refine DrawN.mk' [] ?_ | fail))); all_goals (conv => whnf)
    all_goals exact EndN.det trivial (Wk.refl _)
  | some old =>
    have hog := findF_good pl f old hf hfd
    have hof := findF_fit pl f old hff hfd
    have hgg := put_good pl f p old hf hp hfd
    have hgf := put_fit pl f p old hff hpf hfd
    have hfp := find_put pl f p old hfd
    have hbk := put_back pl f p old hfd
    have hnd := put_nodesI pl f p old hfd
    have h3 := at_c (putF pl f p) hgg hgf pl hpl
    have h4 := with_c (putF pl f p) hgg hgf old hof pl hpl
    unfold withA at h4
    rw [hfp] at h3 h4
    simp only [hbk] at h4
    have h5 := samR p hp
    have h6 := samR f hf
    have n1 := nodes_c (putF pl f p) hgg
    have n2 := nodes_c f hf
    have n3 := nodes_c old hog
    have n4 := nodes_c p hp
    have h7 := at_c f hf hff ot hot
    have h8 := at_c (putF pl f p) hgg hgf ot hot
    have h9 := samR (atX (findF f ot)) (atX_good hf)
    rw [cntF_nodes] at n1 n2 n3 n4
    rw [hfd] at h1 h2
    unfold atA at h1 h3
    simp only at h1 h2 h3
    rw [atA_eq] at h7 h8
    have hoth : ∀ k, k < pl.length → k < ot.length → (∀ j, j < k → pl.getD j 0 = ot.getD j 0) → pl.getD k 0 ≠ ot.getD k 0 → findF (putF pl f p) ot = findF f ot := fun k k1 k2 k3 k4 => by
      obtain ⟨c, r1, r2, e1, e2⟩ := first_ne pl ot k k3 k1 k2
      rw [e1] at hfd
      have := find_other c _ _ r1 r2 f p old k4 hfd
      rw [← e1, ← e2] at this
      exact this
    generalize hgp : putF pl f p = g at *
    have h8' : findF g ot = findF f ot → ∀ H, VDet Tryd.prog 12 [.agg g.cells, .sl none ot.length (ot.flatMap encI)] H (.tup [.agg (atX (findF f ot)).cells, .int .i64 (atE (findF f ot))]) := fun e => by rw [e] at h8; exact h8
    clear h8
    generalize hxx : atX (findF f ot) = X at *
    generalize hee : atE (findF f ot) = E at *
    obtain ⟨oo, os1, ol, olc, om, omc, eo⟩ := fo_exq old
    obtain ⟨go, gs1, gl, glc, gm, gmc, eg⟩ := fo_exq g
    obtain ⟨xo, xs1, xl, xlc, xm, xmc, ex⟩ := fo_exq X
    rw [ef, ep] at hsm
    rw [ef, eo] at h1
    rw [ef, ep, eg] at h2
    rw [eg, ep] at h3
    rw [eg, eo, ef] at h4
    rw [ep] at h5
    rw [ef] at h6
    rw [eg] at n1
    rw [ef] at n2
    rw [eo] at n3
    rw [ep] at n4
    rw [ef, ex] at h7
    rw [eg, ex] at h8'
    rw [ex] at h9
    rw [ef, ep]
    clear ef ep eo eg ex
    simp only [List.cons_append, List.nil_append] at hsm
    have hsm : ∀ H, VDet Tryd.prog 7 [.sx 2 [.int .u8 fo, .str fs1, .sl none fl flc, .sl none fm fmc, .int .u8 po, .str ps1, .sl none pal plc, .sl none pm pmc]] H (.bool sm) := fun H => (hsm H).wk (by (repeat' (first | exact trivial | refine And.intro ?_ ?_ | exact Wk.refl _ | exact wk_sl _ _ _ | exact wk_sx _ _ | exact wk_nils | refine wk_agg ?_ | refine wk_tup ?_ | fail)); done)
    have e1 : IntKind.i64.wrap (wI (nodesN f) - wI (nodesN old)) = wI (wI (nodesN f) - wI (nodesN old)) := rfl
    generalize wI (nodesN f) = N1 at *
    generalize wI (nodesN old) = N2 at *
    generalize wI (nodesN p) = N3 at *
    generalize wI (nodesN g) = N4 at *
    refine fn_det Tryd.E0 Tryd.mx Tryd.func4 (by kernel_rfl) rfl (Nat.le_of_ble_eq_true rfl) rfl fun hcl hbl => ?_
    (repeat' ((conv => whnf); (first | (refine IfN.id ?_; first | refine IfN.not ?_ | refine IfN.tt rfl ?_ | refine IfN.dT (by omega) ?_ | refine IfN.dec (fun _ => ?_) (fun _ => ?_) | (refine IfN.mk ?_ ?_ <;> intro _) | fail) | (refine EqN.id ?_; first | refine EqN.mk (wI (N1 - N2)) rfl ?_ | refine EqN.mk N4 hnd ?_ | fail) | (refine SideN.mk ?_ ?_; · first | kernel_rfl | omega | exact List.cons_ne_nil _ _ | (simp; done) | (simp; omega) | exact trivial | assumption | fail) | (refine CallN.id ?_; first | refine CallN.det _ (haw _) ?_ | refine CallN.det _ (hsm _) ?_ | refine CallN.det _ (h1 _) ?_ | refine CallN.det _ (h2 _) ?_ | refine CallN.det _ (h3 _) ?_ | refine CallN.det _ (h4 _) ?_ | fail) | (refine CallD.id ?_; first | refine CallD.det _ (fun _ hq X => h5 _) ?_ | refine CallD.det _ (fun _ hq X => h6 _) ?_ | refine CallD.det _ (fun _ hq X => n1 _) ?_ | refine CallD.det _ (fun _ hq X => n2 _) ?_ | refine CallD.det _ (fun _ hq X => n3 _) ?_ | refine CallD.det _ (fun _ hq X => n4 _) ?_ | fail) | refine DrawN.mk' [] ?_ | fail))); all_goals (conv => whnf)
    all_goals first | exact EndN.det trivial (Wk.refl _) | skip
    refine loop_R Tryd.E0 Tryd.mx (σ := Nat) (fun k => k ≤ pl.length ∧ k ≤ ot.length ∧ ∀ j, j < k → pl.getD j 0 = ot.getD j 0) (fun k => pl.length - k) (fun k => [(17, .v (.int .i64 k))]) (fun _ => _) _ 0 rfl hcl [2, 3, 4, 11] rfl ⟨Nat.zero_le _, Nat.zero_le _, fun j hj => absurd hj (Nat.not_lt_zero _)⟩ ⟨⟨_, rfl, Wk.refl _⟩, trivial⟩ rfl (fun _ _ => rfl) ?_
    rintro k ⟨hk1, hk2, hk3⟩
    clear hbl
    by_cases hl1 : k < pl.length
    · by_cases hl2 : k < ot.length
      · have hoo := hoth k hl1 hl2 hk3
        have hk3' : pl.getD k 0 = ot.getD k 0 → ∀ j, j < k + 1 → pl.getD j 0 = ot.getD j 0 := fun e j hj => by
          rcases Nat.lt_or_ge j k with h | h
          · exact hk3 j h
          · obtain rfl : j = k := by omega
            exact e
        obtain ⟨a, qa⟩ : ∃ a, a = pl.getD k 0 := ⟨_, rfl⟩
        obtain ⟨b, qb⟩ : ∃ b, b = ot.getD k 0 := ⟨_, rfl⟩
        have q1 : encI (pl.getD k 0) = [.int .i64 a] := by rw [← qa]; rfl
        have q2 : encI (ot.getD k 0) = [.int .i64 b] := by rw [← qb]; rfl
        rw [← qa, ← qb] at hoo hk3'
        clear qa qb hoth
        by_cases hab : a = b
        · have hk4 := hk3' hab
          clear hoo hk3'
          (repeat' ((conv => whnf); (first | (refine IfN.id ?_; first | refine IfN.not ?_ | refine IfN.dT (by omega) ?_ | fail) | (refine EqN.id ?_; first | (refine EqN.addN _ _ (by first | with_reducible rfl | with_reducible exact cst1 | with_reducible exact cst0 | with_reducible exact cst2 | with_reducible exact cst3 | with_reducible exact cst4 | with_reducible exact cst5 | with_reducible exact cst6 | with_reducible exact cst7 | with_reducible exact cst8 | with_reducible exact cst14 | with_reducible exact cst15 | with_reducible exact cst25 | with_reducible exact cst30 | with_reducible exact cst31 | fail) (by first | with_reducible rfl | with_reducible exact cst1 | with_reducible exact cst0 | with_reducible exact cst2 | with_reducible exact cst3 | with_reducible exact cst4 | with_reducible exact cst5 | with_reducible exact cst6 | with_reducible exact cst7 | with_reducible exact cst8 | with_reducible exact cst14 | with_reducible exact cst15 | with_reducible exact cst25 | with_reducible exact cst30 | with_reducible exact cst31 | fail) ?_ ?_; · (repeat' (first | omega | refine And.intro ?_ ?_ | exact bnd_andl (by omega) | exact bnd_andr (by omega) | refine bnd_or ?_ ?_ | refine bnd_or31 ?_ ?_ | refine bnd_xor ?_ ?_ | refine bnd_xor31 ?_ ?_ | refine bnd_shr ?_ | refine bnd_shl ?_ ?_ | refine bnd_mod ?_ | refine bnd_andl ?_ | fail))) | fail) | (refine SideN.mk ?_ ?_; · first | kernel_rfl | omega | exact List.cons_ne_nil _ _ | (simp; done) | (simp; omega) | exact trivial | assumption | fail) | refine SegN.nthE 0 k rfl hl1 (fun _ => rfl) q1 ?_ | refine SegN.nthE 0 k rfl hl2 (fun _ => rfl) q2 ?_ | refine DrawN.mk' [] ?_ | fail))); all_goals (conv => whnf)
          (refine ⟨⟨k + 1, ⟨by omega, by omega, hk4⟩, by omega, ?_, .inl ⟨rfl, rfl⟩, rfl, _, rfl, ?_⟩⟩; rotate_left 1; (first | exact .inl rfl | exact .inr ⟨by simp [belowRE, below, belowL, tr, tms_below, fos_below, encI_below], by simp [belowH, Blk.below, belowL, below, tms_below, fos_below, encI_below]⟩ | fail); (repeat' (first | exact trivial | refine ⟨⟨_, rfl, ?_⟩, ?_⟩ | fail)); all_goals try (first | exact Wk.refl _ | exact Wk.of_eq (congrArg (AV.int _) (by omega)) | fail))
        · have h8 := h8' (hoo hab)
          clear h8' hk3' hoo
          (repeat' ((conv => whnf); (first | (refine IfN.id ?_; first | refine IfN.not ?_ | refine IfN.dT (by omega) ?_ | refine IfN.dF (by omega) ?_ | fail) | (refine SideN.mk ?_ ?_; · first | kernel_rfl | omega | exact List.cons_ne_nil _ _ | (simp; done) | (simp; omega) | exact trivial | assumption | fail) | (refine CallN.id ?_; first | refine CallN.det _ (h7 _) ?_ | refine CallN.det _ (h8 _) ?_ | refine CallN.det _ (h9 _) ?_ | fail) | refine SegN.nthE 0 k rfl hl1 (fun _ => rfl) q1 ?_ | refine SegN.nthE 0 k rfl hl2 (fun _ => rfl) q2 ?_ | refine DrawN.mk' [] ?_ | fail))); all_goals (conv => whnf)
          exact EndN.det trivial (Wk.refl _)
      · (repeat' ((conv => whnf); (first | (refine IfN.id ?_; first | refine IfN.dT (by omega) ?_ | refine IfN.dF (by omega) ?_ | fail) | refine DrawN.mk' [] ?_ | fail))); all_goals (conv => whnf)
        exact EndN.det trivial (Wk.refl _)
    · (repeat' ((conv => whnf); (first | (refine IfN.id ?_; first | refine IfN.dF (by omega) ?_ | fail) | refine DrawN.mk' [] ?_ | fail))); all_goals (conv => whnf)
      exact EndN.det trivial (Wk.refl _)
end Go.Proofs.YtejegcmnddedmaaDoor
/-! text DY02 -/
namespace Go.Proofs.YtejegcmnddedmaaDoor
open Go.ChangeShapes Go.WideShapes Go.ChangeAt Go.RowKit Go.Vsi

theorem mrel_of {g : G} {W : World} {b : Nat} (hg : ∀ b o, ¬ g.own b o) : ∀ (l : List AV) (cs : List Value) (o : Nat), LRel g W l cs → (∀ (i : Nat) c, cs[i]? = some c → W.cell? ⟨b, o + i, .none⟩ = some c) → MRel g W l b o
  | [], _, _, _, _ => trivial
  | v :: l, cs, o, h, hc => by
    simp only [LRel] at h
    obtain ⟨c, r, rfl, h1, h2⟩ := h
    refine ⟨⟨c, by simpa using hc 0 c rfl, h1, hg _ _⟩, ?_⟩
    exact mrel_of hg l r (o + 1) h2 fun i c' hi => by
      have := hc (i + 1) c' (by simpa using hi)
      rwa [show o + (i + 1) = o + 1 + i by omega] at this
theorem mone {W : World} {n : String} {gi : Nat} {ty : TypeId} {T : Ty} {D : DataW Unit} {cells : List AV} {g0 : Nat} {t0 : TypeId} {cs0 : Array Value} {f0 : Nat} {p0 : List MemPlace}
    (hg : Tryd.prog.globalNamed n = some gi) (ht : (Tryd.prog.globals[gi]?).map (·.type) = some ty) (hty : TyOk Tryd.prog ty T) (hpl : PlTy T) (hD : ∃ l', DatOf (H := Unit) D l' ∧ l' = cells)
    (hg0 : Tryd.prog.globalNamed n = some g0) (ht0 : (Tryd.prog.globals[g0]?).map (·.type) = some t0) (hv0 : W.var? Tryd.prog n = some cs0) (hd0 : DataW.trod (fun _ => ()) Tryd.prog W 0 (fun _ => true) false f0 t0 cs0.toList = some (D, p0)) : MRel G.none W cells gi 0 := by
  obtain rfl := Option.some.inj (hg.symm.trans hg0)
  obtain rfl := Option.some.inj (ht.symm.trans ht0)
  obtain ⟨l, h1, h2⟩ := trod_dat (g := G.none) _ hpl hty hd0
  obtain ⟨l', hl1, hl2⟩ := hD
  have hll : l = cells := (DatOf.det h1 hl1).trans hl2
  rw [← hll]
  refine mrel_of (fun _ _ h => h) l cs0.toList 0 h2 fun i c hi => ?_
  have := World.var?_cell hg0 hv0 i
  rw [Nat.zero_add, this]
  simpa using hi
theorem gl_of_laid {W : World} (h : laidMetH Tryd.prog [("lyceum/syntax.rows", Rows.laid_lyceum_syntax_rows)] W) : ∀ p ∈ Glob.gl, MRel G.none W p.2 p.1 0 := by
  rw [MakeChecks.laidMetH_plain _ _ _ (by kernel_rfl)] at h
  obtain ⟨ps, ⟨g0, t0, cs0, f0, p0, q0, hg0, ht0, hv0, hd0, _⟩, _⟩ := h
  have m0 : MRel G.none W (Tryd.gl[0]).2 0 0 := mone (T := repTy 17 (.pair .bool (.pair .bool (.pair (.int .u8) (.pair (.int .i64) (.pair (.int .i64) .unit)))))) (ty := 94) (by kernel_rfl) (by kernel_rfl) (tyOf_ok Tryd.T_ok 12 94 _ (by kernel_rfl)) (by simp [repTy, PlTy]) ⟨_, by unfold Rows.laid_lyceum_syntax_rows; repeat constructor, by kernel_rfl⟩ hg0 ht0 hv0 hd0
  intro p hp
  have hp0 : p = Tryd.gl[0] := by
    have : p ∈ Tryd.gl := hp
    simpa [Tryd.gl] using this
  subst hp0
  · exact m0
theorem u8_nat {n : Int} (h : (Lit.int .u8 n).wf = true) : ∃ m : Nat, n = m ∧ m ≤ 255 := ⟨n.toNat, by have := wf_u8 h; omega, by have := wf_u8 h; omega⟩
theorem u16_nat {n : Int} (h : (Lit.int .u16 n).wf = true) : ∃ m : Nat, n = m ∧ m ≤ 65535 := ⟨n.toNat, by have := wf_u16 h; omega, by have := wf_u16 h; omega⟩
theorem bytes_nat {l : List Int} (h : l.length ≤ maxLen ∧ ∀ x ∈ l, (Lit.int .u8 x).wf = true) : ∃ c : List Nat, l = c.map (fun n : Nat => (n : Int)) ∧ c.length ≤ 9223372036854775807 ∧ ∀ i, i < c.length → c.getD i 0 ≤ 255 := by
  refine ⟨l.map Int.toNat, ?_, by simpa using maxLen_le h.1, fun i hi => ?_⟩
  · rw [List.map_map]
    refine (List.map_id' l).symm.trans (List.map_congr_left fun x hx => ?_)
    have := wf_u8 (h.2 x hx)
    simp only [Function.comp]
    omega
  · have hi' : i < l.length := by simpa using hi
    have := wf_u8 (h.2 _ (List.getElem_mem hi'))
    simp only [List.getD_eq_getElem?_getD, List.getElem?_map, List.getElem?_eq_getElem hi', Option.map_some, Option.getD_some]
    omega
theorem bytes_len (c : List Nat) : List.length (α := Ty.I (.int .u8)) (c.map fun n : Nat => (n : Int)) = c.length := List.length_map ..
theorem bytes_enc (c : List Nat) : List.flatMap (α := Ty.I (.int .u8)) (Ty.enc (.int .u8)) (c.map fun n : Nat => (n : Int)) = c.flatMap fun n : Nat => [.int .u8 (n : Int)] := by
  induction c with
  | nil => rfl
  | cons x c ih => rw [List.flatMap_cons, ← ih]; rfl
theorem bytes_cast (c : List Nat) (p : AV → Prop) (h : p (.sl none c.length (c.flatMap fun n : Nat => [.int .u8 (n : Int)]))) : p (.sl none (List.length (α := Ty.I (.int .u8)) (c.map fun n : Nat => (n : Int))) (List.flatMap (α := Ty.I (.int .u8)) (Ty.enc (.int .u8)) (c.map fun n : Nat => (n : Int)))) := by
  rw [bytes_len, bytes_enc]; exact h
end Go.Proofs.YtejegcmnddedmaaDoor
