/- A text of the proof: the parts G14, D14, I14, J14, K14. -/
import Derived.ProofKit
import Derived.LaidMore
import Derived.OpenShut
import Derived.Test.YtjflngchbeegcaaDoorK6
set_option linter.unusedSimpArgs false
set_option linter.unusedVariables false
/-! text G14 -/
namespace Go.Proofs.YtjflngchbeegcaaDoor
open Go.Vsi

/-! ### parts of traces -/
theorem tkK_0 (old : List Nat) : ∀ k, tkK old 0 k = 0
  | 0 => rfl
  | k + 1 => by simp [tkK, tkK_0 old k]
theorem fnd_tk (c : UInt8) (old : List Nat) : ∀ l : List (UInt8 × Nat), (fnd c (l.map (tkF old))).getD 0 = tkK old ((fnd c l).getD 0) old.length
  | [] => by simp [fnd, tkK_0]
  | p :: l => by
    simp only [List.map_cons, fnd, tkF]
    cases c == p.1 with
    | true => rfl
    | false => exact fnd_tk c old l
theorem ev_taken (t : Tr) (old : List Nat) (lp : Nat) (c : UInt8) : evT (takenT t old lp) (.at c) = tkK old (evT t (.at c)) old.length := fnd_tk c old t.fs
theorem tk_comp {old old2 old3 : List Nat} (h3 : old3.length = old2.length) (h : ∀ i, i < old2.length → old2.getD i 0 < old.length ∧ old3.getD i 0 = old.getD (old2.getD i 0) 0) (m : Nat) : tkK old2 (tkK old m old.length) old2.length = tkK old3 m old3.length := by
  apply Nat.eq_of_testBit_eq
  intro i
  rw [tkK_bit, tkK_bit, tkK_bit, h3]
  by_cases hi : i < old2.length
  · obtain ⟨h1, h2⟩ := h i hi
    rw [decide_eq_true hi, decide_eq_true h1, h2]
    simp
  · rw [decide_eq_false hi]
    simp

theorem sufI_lt {n lp p0 : Nat} (hl : lp < n) (hp : p0 < n) : sufI lp p0 < sufK n lp p0 := by unfold sufI sufK; omega
theorem sufK_le {n lp p0 : Nat} : sufK n lp p0 ≤ n := Nat.sub_le ..
theorem suf_pos {n lp p0 : Nat} (hn : n ≤ 5) (hl : lp < n) (hp : p0 < n) (u : Nat) : posN n lp (p0 + posN (sufK n lp p0) (sufI lp p0) u) = posN n lp (p0 + u) := by
  obtain ⟨d, hd, rfl⟩ : ∃ d, 1 ≤ d ∧ n = lp + d := ⟨n - lp, by omega, by omega⟩
  rw [show sufK (lp + d) lp p0 = sufI lp p0 + d by unfold sufK sufI; omega]
  unfold sufI
  have h1 := posN_cases d (lp - p0) u
  have h2 := posN_cases d lp (p0 + u)
  have h3 := posN_cases d lp (p0 + posN (lp - p0 + d) (lp - p0) u)
  have : d = 1 ∨ d = 2 ∨ d = 3 ∨ d = 4 ∨ d = 5 := by omega
  rcases this with rfl | rfl | rfl | rfl | rfl <;> omega
theorem suf_old {n lp p0 : Nat} (hn : n ≤ 5) (hl : lp < n) (hp : p0 < n) {k i : Nat} (hi : i < k) : (olds n lp p0 k).getD i 0 = posN n lp (p0 + i) := by
  rw [olds_get _ _ _ hi, pth_eq hn hl hp]
theorem sufT_n (t : Tr) (x : Nat) : (sufT t x).n = sufK t.n t.lp (posN t.n t.lp x) := olds_len ..
theorem sufT_ok {t : Tr} (ht : t.Ok) (x : Nat) : (sufT t x).Ok := by
  have hp := posN_lt (x := x) ht.lp
  refine taken_ok ht _ _ ?_ ?_ ?_
  · rw [olds_len]; have := sufI_lt ht.lp hp; omega
  · rw [olds_len]; exact Nat.le_trans sufK_le ht.n5
  · rw [olds_len]; exact sufI_lt ht.lp hp
theorem suf_tm {t : Tr} (ht : t.Ok) (x : Nat) (m u : Nat) : tm (sufT t x).n (sufT t x).lp (tkK (olds t.n t.lp (posN t.n t.lp x) (sufK t.n t.lp (posN t.n t.lp x))) m (olds t.n t.lp (posN t.n t.lp x) (sufK t.n t.lp (posN t.n t.lp x))).length) u = tm t.n t.lp m (u + x) := by
  have hp := posN_lt (x := x) ht.lp
  have hq : posN (sufK t.n t.lp (posN t.n t.lp x)) (sufI t.lp (posN t.n t.lp x)) u < sufK t.n t.lp (posN t.n t.lp x) := posN_lt (sufI_lt ht.lp hp)
  unfold tm
  rw [sufT_n, show (sufT t x).lp = sufI t.lp (posN t.n t.lp x) from rfl, tkK_bit, olds_len, decide_eq_true hq, suf_old ht.n5 ht.lp hp hq, suf_pos ht.n5 ht.lp hp, posN_add ht.n5 ht.lp, Nat.add_comm x u]
  rfl
theorem sufT_sem {t : Tr} (ht : t.Ok) (x : Nat) (f : Fm) (u : Nat) : tm t.n t.lp (evT t f) (u + x) = tm (sufT t x).n (sufT t x).lp (evT (sufT t x) f) u := by
  refine sem_shift ht (sufT_ok ht x) x (fun c u => ?_) f u
  unfold sufT
  rw [ev_taken]
  exact (suf_tm ht x _ u).symm
theorem takenT_eq {t : Tr} {old old2 old3 : List Nat} {lp lp2 lp3 : Nat} (h3 : old3.length = old2.length) (hl : lp3 = lp2) (h : ∀ i, i < old2.length → old2.getD i 0 < old.length ∧ old3.getD i 0 = old.getD (old2.getD i 0) 0) : takenT (takenT t old lp) old2 lp2 = takenT t old3 lp3 := by
  unfold takenT
  simp only [List.map_map, Tr.mk.injEq]
  refine ⟨h3.symm, hl.symm, List.map_congr_left fun p _ => ?_⟩
  simp only [Function.comp, tkF]
  rw [tk_comp h3 h]
theorem suf_suf {t : Tr} (ht : t.Ok) (x u : Nat) : sufT (sufT t x) u = sufT t (x + u) := by
  have hs := sufT_ok ht x
  have hp := posN_lt (x := x) ht.lp
  have hn5 := ht.n5
  have hl := ht.lp
  have e1 := sufT_n t x
  have e2 : (sufT t x).lp = sufI t.lp (posN t.n t.lp x) := rfl
  have hq := posN_lt (x := u) hs.lp
  rw [show sufT (sufT t x) u = takenT (sufT t x) (olds (sufT t x).n (sufT t x).lp (posN (sufT t x).n (sufT t x).lp u) (sufK (sufT t x).n (sufT t x).lp (posN (sufT t x).n (sufT t x).lp u))) (sufI (sufT t x).lp (posN (sufT t x).n (sufT t x).lp u)) from rfl]
  rw [show sufT t (x + u) = takenT t (olds t.n t.lp (posN t.n t.lp (x + u)) (sufK t.n t.lp (posN t.n t.lp (x + u)))) (sufI t.lp (posN t.n t.lp (x + u))) from rfl]
  have e3 : posN t.n t.lp (x + u) = posN t.n t.lp (posN t.n t.lp x + posN (sufT t x).n (sufT t x).lp u) := by
    rw [e1, e2, suf_pos hn5 hl hp, posN_add hn5 hl]
  have hsn5 := hs.n5
  have hsl := hs.lp
  rw [e1, e2] at hq hsl
  rw [e1] at hsn5
  rw [e3, e1, e2]
  rw [show sufT t x = takenT t (olds t.n t.lp (posN t.n t.lp x) (sufK t.n t.lp (posN t.n t.lp x))) (sufI t.lp (posN t.n t.lp x)) from rfl]
  clear e1 e2 e3 hs
  generalize posN t.n t.lp x = p0 at *
  generalize hq0 : posN (sufK t.n t.lp p0) (sufI t.lp p0) u = q0 at *
  have hc : sufK (sufK t.n t.lp p0) (sufI t.lp p0) q0 = sufK t.n t.lp (posN t.n t.lp (p0 + q0)) ∧ sufI (sufI t.lp p0) q0 = sufI t.lp (posN t.n t.lp (p0 + q0)) := by
    obtain ⟨d, hd, hnd⟩ : ∃ d, 1 ≤ d ∧ t.n = t.lp + d := ⟨t.n - t.lp, by omega, by omega⟩
    rw [hnd] at hq hp ⊢
    have h1 := posN_cases d t.lp (p0 + q0)
    generalize posN (t.lp + d) t.lp (p0 + q0) = p1 at *
    unfold sufK sufI at *
    have : d = 1 ∨ d = 2 ∨ d = 3 ∨ d = 4 ∨ d = 5 := by omega
    rcases this with rfl | rfl | rfl | rfl | rfl <;> omega
  refine takenT_eq ?_ ?_ ?_
  · rw [olds_len, olds_len, hc.1]
  · exact hc.2.symm
  · intro i hi
    rw [olds_len] at hi
    have hr : posN (sufK t.n t.lp p0) (sufI t.lp p0) (q0 + i) < sufK t.n t.lp p0 := posN_lt hsl
    rw [suf_old hsn5 hsl hq hi, olds_len]
    refine ⟨hr, ?_⟩
    rw [suf_old hn5 hl (posN_lt hl) (by rw [← hc.1]; exact hi), suf_old hn5 hl hp hr, suf_pos hn5 hl hp, posN_add hn5 hl, Nat.add_assoc]

/-! ### traces that tell the same -/
theorem eqF_iff (a b : List (UInt8 × Nat)) : eqF a b = true ↔ a = b := by
  unfold eqF
  rw [Bool.and_eq_true, beq_iff_eq, List.all_eq_true]
  constructor
  · rintro ⟨h1, h2⟩
    refine List.ext_getElem h1 fun i hi hi' => ?_
    have := h2 i (List.mem_range.2 hi)
    simpa [ft, List.getD, hi, hi'] using this
  · rintro rfl
    exact ⟨rfl, fun i _ => by simp⟩
theorem eqT_iff (a b : Tr) : eqT a b = true ↔ a = b := by
  obtain ⟨n, lp, fs⟩ := a
  obtain ⟨n', lp', fs'⟩ := b
  unfold eqT
  simp only [Bool.and_eq_true, beq_iff_eq, eqF_iff, Tr.mk.injEq]

structure Eqv (a b : Tr) : Prop where
  len : a.fs.length = b.fs.length
  nm : ∀ i, i < a.fs.length → (ft a.fs i).1 = (ft b.fs i).1
  bit : ∀ i, i < a.fs.length → ∀ x, tm a.n a.lp (ft a.fs i).2 x = tm b.n b.lp (ft b.fs i).2 x
theorem Eqv.refl (a : Tr) : Eqv a a := ⟨rfl, fun _ _ => rfl, fun _ _ _ => rfl⟩
theorem Eqv.symm {a b : Tr} (h : Eqv a b) : Eqv b a := ⟨h.len.symm, fun i hi => (h.nm i (by rw [h.len]; exact hi)).symm, fun i hi x => (h.bit i (by rw [h.len]; exact hi) x).symm⟩
theorem Eqv.trans {a b c : Tr} (h : Eqv a b) (h2 : Eqv b c) : Eqv a c := ⟨h.len.trans h2.len, fun i hi => (h.nm i hi).trans (h2.nm i (by rw [← h.len]; exact hi)), fun i hi x => (h.bit i hi x).trans (h2.bit i (by rw [← h.len]; exact hi) x)⟩
theorem bitAt_tm (t : Tr) (i x : Nat) : bitAt t i x = (tm t.n t.lp (ft t.fs i).2 x).toNat := bit1 _ _
theorem posN_per {la da : Nat} (h5 : la + da ≤ 5) (r m : Nat) : posN (la + da) la (5 + r + da * m) = posN (la + da) la (5 + r) := by
  unfold posN
  rw [if_neg (by omega), if_neg (by omega), Nat.add_sub_cancel_left, show 5 + r + da * m - la = 5 + r - la + da * m by omega, Nat.add_mul_mod_self_left]
theorem common {na la nb lb : Nat} (ha : la < na) (hb : lb < nb) (ha5 : na ≤ 5) (hb5 : nb ≤ 5) (x : Nat) : ∃ y, y < 25 ∧ posN na la y = posN na la x ∧ posN nb lb y = posN nb lb x := by
  obtain ⟨da, hda, rfl⟩ : ∃ d, 1 ≤ d ∧ na = la + d := ⟨na - la, by omega, by omega⟩
  obtain ⟨db, hdb, rfl⟩ : ∃ d, 1 ≤ d ∧ nb = lb + d := ⟨nb - lb, by omega, by omega⟩
  by_cases hx : x < 25
  · exact ⟨x, hx, rfl, rfl⟩
  obtain ⟨L, h1, h20, ⟨k, hk⟩, ⟨k', hk'⟩⟩ : ∃ L, 1 ≤ L ∧ L ≤ 20 ∧ (∃ k, L = da * k) ∧ (∃ k, L = db * k) := by
    by_cases e : da = db
    · exact ⟨da, hda, by omega, ⟨1, by omega⟩, ⟨1, by omega⟩⟩
    · refine ⟨da * db, Nat.mul_pos hda hdb, ?_, ⟨db, rfl⟩, ⟨da, Nat.mul_comm ..⟩⟩
      have : da = 1 ∨ da = 2 ∨ da = 3 ∨ da = 4 ∨ da = 5 := by omega
      rcases this with rfl | rfl | rfl | rfl | rfl <;> omega
  have hr := Nat.mod_lt (x - 5) h1
  have hd := Nat.div_add_mod (x - 5) L
  have hxe : x = 5 + (x - 5) % L + L * ((x - 5) / L) := by omega
  refine ⟨5 + (x - 5) % L, by omega, ?_, ?_⟩
  · conv => rhs; rw [hxe, hk, Nat.mul_assoc, ← hk, posN_per ha5]
  · conv => rhs; rw [hxe, hk', Nat.mul_assoc, ← hk', posN_per hb5]
theorem sameB_iff {a b : Tr} (ha : a.Ok) (hb : b.Ok) : sameB a b = true ↔ Eqv a b := by
  unfold sameB
  rw [Bool.and_eq_true, beq_iff_eq, List.all_eq_true]
  unfold rowS
  simp only [List.mem_range, Bool.and_eq_true, beq_iff_eq, List.all_eq_true]
  have hb1 : ∀ x y : Bool, x.toNat = y.toNat → x = y := by decide
  constructor
  · rintro ⟨h1, h2⟩
    refine ⟨h1, fun i hi => (h2 i hi).1, fun i hi x => ?_⟩
    obtain ⟨y, hy, e1, e2⟩ := common ha.lp hb.lp ha.n5 hb.n5 x
    have := (h2 i hi).2 y hy
    rw [bitAt_tm, bitAt_tm] at this
    have := hb1 _ _ this
    unfold tm at this ⊢
    rwa [e1, e2] at this
  · intro h
    refine ⟨h.len, fun i hi => ⟨h.nm i hi, fun x _ => ?_⟩⟩
    rw [bitAt_tm, bitAt_tm, h.bit i hi x]

/-! ### the shortest trace -/
theorem shT_ok {t : Tr} (ht : t.Ok) {j x : Nat} (hj : j ≤ 4) (hx : x ≤ j) : (shT t j x).Ok := taken_ok ht _ _ (by rw [olds_len]; omega) (by rw [olds_len]; omega) (by rw [olds_len]; omega)
theorem shT_n (t : Tr) (j x : Nat) : (shT t j x).n = j + 1 := olds_len ..
theorem tk_tm {t : Tr} (ht : t.Ok) (m j i : Nat) (hi : i < j) : (tkK (olds t.n t.lp 0 j) m (olds t.n t.lp 0 j).length).testBit i = tm t.n t.lp m i := by
  have h0 : 0 < t.n := ht.n1
  rw [tkK_bit, olds_len, decide_eq_true hi, suf_old ht.n5 ht.lp h0 hi, Nat.zero_add]
  rfl
theorem tk_hi (old : List Nat) (m i : Nat) (hi : old.length ≤ i) : (tkK old m old.length).testBit i = false := by
  rw [tkK_bit, decide_eq_false (by omega), Bool.false_and]
theorem ft_map (g : UInt8 × Nat → UInt8 × Nat) (l : List (UInt8 × Nat)) (i : Nat) (hi : i < l.length) : ft (l.map g) i = g (ft l i) := by simp [ft, hi]
theorem ft_get (l : List (UInt8 × Nat)) (i : Nat) (hi : i < l.length) : ft l i = l[i] := by simp [ft, hi]
theorem shT_eqv {a b : Tr} (ha : a.Ok) (hb : b.Ok) (h : Eqv a b) (j x : Nat) : shT a j x = shT b j x := by
  unfold shT takenT
  simp only [Tr.mk.injEq]
  refine ⟨by rw [olds_len, olds_len], trivial, List.ext_getElem (by simpa using h.len) fun i hi hi' => ?_⟩
  have hia : i < a.fs.length := by simpa using hi
  have hib : i < b.fs.length := by simpa using hi'
  rw [← ft_get, ← ft_get, ft_map _ _ _ hia, ft_map _ _ _ hib]
  unfold tkF
  simp only [Prod.mk.injEq]
  refine ⟨h.nm i hia, Nat.eq_of_testBit_eq fun k => ?_⟩
  by_cases hk : k < j + 1
  · rw [tk_tm ha _ _ _ hk, tk_tm hb _ _ _ hk]
    exact h.bit i hia k
  · rw [tk_hi _ _ _ (by rw [olds_len]; omega), tk_hi _ _ _ (by rw [olds_len]; omega)]
theorem shB_eqv {a b : Tr} (ha : a.Ok) (hb : b.Ok) (h : Eqv a b) {j x : Nat} (hj : j ≤ 4) (hx : x ≤ j) : shB a j x = shB b j x := by
  unfold shB
  rw [Bool.eq_iff_iff, sameB_iff (shT_ok ha hj hx) ha, sameB_iff (shT_ok hb hj hx) hb, shT_eqv ha hb h]
  exact ⟨fun q => q.trans h, fun q => q.trans h.symm⟩
structure First (t : Tr) (K L : Nat) : Prop where
  hK : K < t.n
  hL : L ≤ K
  no : ∀ j, j < K → ∀ x, x ≤ j → shB t j x = false
  no2 : ∀ x, x < L → shB t K x = false
  yes : shB t K L = true
theorem sh_last {t : Tr} (ht : t.Ok) : shB t (t.n - 1) t.lp = true := by
  have h1 := ht.n1
  have h2 := ht.lp
  have h5 := ht.n5
  have hok := shT_ok ht (show t.n - 1 ≤ 4 by omega) (show t.lp ≤ t.n - 1 by omega)
  unfold shB
  rw [sameB_iff hok ht]
  refine ⟨by simp [shT, takenT], fun i hi => ?_, fun i hi x => ?_⟩
  · have hi' : i < t.fs.length := by simpa [shT, takenT] using hi
    rw [show ft (shT t (t.n - 1) t.lp).fs i = tkF _ (ft t.fs i) from ft_map _ _ _ hi']
    rfl
  · have hi' : i < t.fs.length := by simpa [shT, takenT] using hi
    rw [show ft (shT t (t.n - 1) t.lp).fs i = tkF _ (ft t.fs i) from ft_map _ _ _ hi']
    have hp := posN_lt (x := x) ht.lp
    unfold tm
    rw [shT_n, show (shT t (t.n - 1) t.lp).lp = t.lp from rfl, show t.n - 1 + 1 = t.n by omega]
    unfold tkF
    rw [tk_tm ht _ _ _ (by omega)]
    unfold tm
    rw [posN_self hp]
theorem first_ex {t : Tr} (ht : t.Ok) : ∃ K L, First t K L := by
  have h1 := ht.n1
  have h2 := ht.lp
  obtain ⟨K, ⟨x, hxK, hx⟩, hmin⟩ := least (p := fun j => ∃ x, x ≤ j ∧ shB t j x = true) ⟨t.n - 1, t.lp, by omega, sh_last ht⟩
  obtain ⟨L, ⟨hLK, hL⟩, hminL⟩ := least (p := fun x => x ≤ K ∧ shB t K x = true) ⟨x, hxK, hx⟩
  refine ⟨K, L, ?_, hLK, fun j hj x hx => ?_, fun x hx => ?_, hL⟩
  · have := hmin (t.n - 1) ⟨t.lp, by omega, sh_last ht⟩
    omega
  · cases hb : shB t j x with
    | false => rfl
    | true => have := hmin j ⟨x, hx, hb⟩; omega
  · cases hb : shB t K x with
    | false => rfl
    | true => have := hminL x ⟨by omega, hb⟩; omega
theorem First.eqv {a b : Tr} (ha : a.Ok) (hb : b.Ok) (h : Eqv a b) {K L K' L' : Nat} (f : First a K L) (g : First b K' L') : K = K' ∧ L = L' := by
  have h1 := ha.n5
  have h2 := hb.n5
  have h3 := f.hK
  have h4 := g.hK
  have h5 := f.hL
  have h6 := g.hL
  have hKK : K = K' := by
    rcases Nat.lt_trichotomy K K' with hlt | e | hlt
    · have e1 := g.no K hlt L h5
      rw [← shB_eqv ha hb h (by omega) h5, f.yes] at e1
      cases e1
    · exact e
    · have e1 := f.no K' hlt L' h6
      rw [shB_eqv ha hb h (by omega) h6, g.yes] at e1
      cases e1
  subst hKK
  refine ⟨rfl, ?_⟩
  rcases Nat.lt_trichotomy L L' with hlt | e | hlt
  · have e1 := g.no2 L hlt
    rw [← shB_eqv ha hb h (by omega) h5, f.yes] at e1
    cases e1
  · exact e
  · have e1 := f.no2 L' hlt
    rw [shB_eqv ha hb h (by omega) h6, g.yes] at e1
    cases e1
theorem First.ok {t : Tr} {K L : Nat} (ht : t.Ok) (f : First t K L) : (shT t K L).Ok := shT_ok ht (by have := ht.n5; have := f.hK; omega) f.hL
theorem First.same {t : Tr} {K L : Nat} (ht : t.Ok) (f : First t K L) : Eqv (shT t K L) t := (sameB_iff (f.ok ht) ht).1 f.yes
theorem First.again {t : Tr} {K L : Nat} (ht : t.Ok) (f : First t K L) : First (shT t K L) K L ∧ shT (shT t K L) K L = shT t K L := by
  have h5 := ht.n5
  have hK := f.hK
  have hs := f.same ht
  have hok := f.ok ht
  refine ⟨⟨by rw [shT_n]; omega, f.hL, fun j hj x hx => ?_, fun x hx => ?_, ?_⟩, shT_eqv hok ht hs K L⟩
  · rw [shB_eqv hok ht hs (by omega) hx]; exact f.no j hj x hx
  · rw [shB_eqv hok ht hs (by omega) (by have := f.hL; omega)]; exact f.no2 x hx
  · rw [shB_eqv hok ht hs (by omega) f.hL]; exact f.yes
theorem short_iff {a b : Tr} (ha : a.Ok) (hb : b.Ok) {K L K' L' : Nat} (f : First a K L) (g : First b K' L') : sameB a b = eqT (shT a K L) (shT b K' L') := by
  rw [Bool.eq_iff_iff, sameB_iff ha hb, eqT_iff]
  constructor
  · intro h
    obtain ⟨rfl, rfl⟩ := f.eqv ha hb h g
    exact shT_eqv ha hb h _ _
  · intro h
    exact (f.same ha).symm.trans (h ▸ g.same hb)
/-- nothing shorter than the shortest trace tells the same -/
theorem short_least {a b : Tr} (ha : a.Ok) (hb : b.Ok) {K L : Nat} (f : First a K L) (h : b.n < (shT a K L).n) : sameB a b = false := by
  cases hs : sameB a b with
  | false => rfl
  | true =>
    obtain ⟨K', L', g⟩ := first_ex hb
    have := f.eqv ha hb ((sameB_iff ha hb).1 hs) g
    have h1 := g.hK
    rw [shT_n] at h
    omega
theorem ev_at_eqv {a b : Tr} (h : Eqv a b) (c : UInt8) (x : Nat) : tm a.n a.lp (evT a (.at c)) x = tm b.n b.lp (evT b (.at c)) x := by
  obtain ⟨na, la, fa⟩ := a
  obtain ⟨nb, lb, fb⟩ := b
  obtain ⟨h1, h2, h3⟩ := h
  simp only at h1 h2 h3
  simp only [evT]
  induction fa generalizing fb with
  | nil =>
    match fb, h1 with
    | [], _ => simp [fnd, tm_0]
  | cons p fa ih =>
    match fb, h1 with
    | q :: fb, h1 =>
      have e0 : p.1 = q.1 := h2 0 (by simp)
      have e1 := h3 0 (by simp) x
      simp only [fnd, e0]
      cases c == q.1 with
      | true => exact e1
      | false => exact ih fb (by simpa using h1) (fun i hi => h2 (i + 1) (by simpa using hi)) (fun i hi => h3 (i + 1) (by simpa using hi))
theorem sem_eqv {a b : Tr} (ha : a.Ok) (hb : b.Ok) (h : Eqv a b) (f : Fm) (x : Nat) : tm a.n a.lp (evT a f) x = tm b.n b.lp (evT b f) x :=
  sem_shift ha hb 0 (fun c x => ev_at_eqv h c x) f x
/-- the position of the loop once more, behind the last one -/
def longT (t : Tr) : Tr := ⟨t.n + 1, t.lp + 1, t.fs.map fun p => (p.1, p.2 ||| ((p.2 >>> t.lp) &&& 1) <<< t.n)⟩
theorem long_same {t : Tr} (ht : t.Ok) : Eqv t (longT t) := by
  have h1 := ht.lp
  have h5 := ht.n5
  refine ⟨by simp [longT], fun i hi => ?_, fun i hi x => ?_⟩
  · unfold longT
    rw [ft_map _ _ _ hi]
  · unfold longT
    simp only
    rw [ft_map _ _ _ hi]
    have hm := ht.mask i hi
    have hp := posN_lt (x := x) h1
    unfold tm
    simp only [Nat.testBit_or, bit1, bitTo]
    have key : (posN (t.n + 1) (t.lp + 1) x = posN t.n t.lp x ∧ posN t.n t.lp x < t.n) ∨ (posN (t.n + 1) (t.lp + 1) x = t.n ∧ posN t.n t.lp x = t.lp) := by
      obtain ⟨d, hd, hnd⟩ : ∃ d, 1 ≤ d ∧ t.n = t.lp + d := ⟨t.n - t.lp, by omega, by omega⟩
      rw [hnd, show t.lp + d + 1 = t.lp + 1 + d by omega]
      have h1 := posN_cases d t.lp x
      have h2 := posN_cases d (t.lp + 1) x
      have : d = 1 ∨ d = 2 ∨ d = 3 ∨ d = 4 ∨ d = 5 := by omega
      rcases this with rfl | rfl | rfl | rfl | rfl <;> omega
    rcases key with ⟨e1, e2⟩ | ⟨e1, e2⟩
    · rw [e1, decide_eq_false (by omega), Bool.and_false, Bool.or_false]
    · rw [e1, e2, decide_eq_true rfl, Bool.and_true, Nat.testBit_lt_two_pow hm, Bool.false_or]
theorem long_ok {t : Tr} (ht : t.Ok) (h4 : t.n ≤ 4) : (longT t).Ok := by
  have h1 := ht.lp
  refine ⟨by simp [longT], by simp [longT]; omega, by simp [longT]; omega, by simpa [longT] using ht.len, fun i hi => ?_, fun i hi => ?_, fun i hi => ?_⟩
  · have hi' : i < t.fs.length := by simpa [longT] using hi
    unfold longT
    rw [ft_map _ _ _ hi']
    exact ht.cap i hi'
  · have hi' : i + 1 < t.fs.length := by simpa [longT] using hi
    unfold longT
    rw [ft_map _ _ _ (by omega), ft_map _ _ _ hi']
    exact ht.inc i hi'
  · have hi' : i < t.fs.length := by simpa [longT] using hi
    unfold longT
    rw [ft_map _ _ _ hi']
    exact Nat.or_lt_two_pow (Nat.lt_trans (ht.mask i hi') (Nat.pow_lt_pow_right (by decide) (by simp))) bit_lt
end Go.Proofs.YtjflngchbeegcaaDoor
/-! text D14 -/
namespace Go.Proofs.YtjflngchbeegcaaDoor
open Go.ChangeShapes Go.WideShapes Go.ChangeAt Go.RowKit Go.Vsi

theorem mrel_of {g : G} {W : World} {b : Nat} (hg : ∀ b o, ¬ g.own b o) : ∀ (l : List AV) (cs : List Value) (o : Nat), LRel g W l cs → (∀ (i : Nat) c, cs[i]? = some c → W.cell? ⟨b, o + i, .none⟩ = some c) → MRel g W l b o
  | [], _, _, _, _ => trivial
  | v :: l, cs, o, h, hc => by
    simp only [LRel] at h
    obtain ⟨c, r, rfl, h1, h2⟩ := h
    refine ⟨⟨c, by simpa using hc 0 c rfl, h1, hg _ _⟩, ?_⟩
    exact mrel_of hg l r (o + 1) h2 fun i c' hi => by
      have := hc (i + 1) c' (by simpa using hi)
      rwa [show o + (i + 1) = o + 1 + i by omega] at this
theorem gRows : Tryd.prog.globalNamed "lyceum/syntax.rows" = some 0 := by kernel_rfl
theorem tRows : (Tryd.prog.globals[0]?).map (·.type) = some 113 := by kernel_rfl
theorem gl_of_laid {W : World} (h : laidMetH Tryd.prog [("lyceum/syntax.rows", Rows.laid_lyceum_syntax_rows)] W) : ∀ p ∈ Glob.gl, MRel G.none W p.2 p.1 0 := by
  rw [MakeChecks.laidMetH_plain _ _ _ (by kernel_rfl)] at h
  obtain ⟨ps, ⟨g0, t0, cs0, f0, p0, q0, hg0, ht0, hv0, hd0, _⟩, _⟩ := h
  obtain rfl := Option.some.inj (gRows.symm.trans hg0)
  obtain rfl := Option.some.inj (tRows.symm.trans ht0)
  have hty : TyOk Tryd.prog 113 (repTy 17 (.pair .bool (.pair .bool (.pair (.int .u8) (.pair (.int .i64) (.pair (.int .i64) .unit)))))) := tyOf_ok Tryd.T_ok 12 113 _ (by kernel_rfl)
  obtain ⟨l, h1, h2⟩ := trod_dat (g := G.none) _ (by simp [repTy, PlTy]) hty hd0
  obtain ⟨l', hl'⟩ : ∃ l', DatOf (H := Unit) Rows.laid_lyceum_syntax_rows l' ∧ l' = (Tryd.gl[0]).2 := ⟨_, by unfold Rows.laid_lyceum_syntax_rows; repeat constructor, by kernel_rfl⟩
  have hll : l = (Tryd.gl[0]).2 := (DatOf.det h1 hl'.1).trans hl'.2
  intro p hp
  have hp0 : p = Tryd.gl[0] := by
    have : p ∈ Tryd.gl := hp
    simpa [Tryd.gl] using this
  subst hp0
  have hb : (Tryd.gl[0]).1 = 0 := rfl
  rw [hb, ← hll]
  refine mrel_of (fun _ _ h => h) l cs0.toList 0 h2 fun i c hi => ?_
  have := World.var?_cell hg0 hv0 i
  rw [Nat.zero_add, this]
  simpa using hi
theorem u8_nat {n : Int} (h : (Lit.int .u8 n).wf = true) : ∃ m : Nat, n = m ∧ m ≤ 255 := ⟨n.toNat, by have := wf_u8 h; omega, by have := wf_u8 h; omega⟩
theorem u16_nat {n : Int} (h : (Lit.int .u16 n).wf = true) : ∃ m : Nat, n = m ∧ m ≤ 65535 := ⟨n.toNat, by have := wf_u16 h; omega, by have := wf_u16 h; omega⟩
theorem bytes_nat {l : List Int} (h : l.length ≤ maxLen ∧ ∀ x ∈ l, (Lit.int .u8 x).wf = true) : ∃ c : List Nat, l = c.map (fun n : Nat => (n : Int)) ∧ c.length ≤ 9223372036854775807 ∧ ∀ i, i < c.length → c.getD i 0 ≤ 255 := by
  refine ⟨l.map Int.toNat, ?_, by simpa using maxLen_le h.1, fun i hi => ?_⟩
  · rw [List.map_map]
    refine (List.map_id' l).symm.trans (List.map_congr_left fun x hx => ?_)
    have := wf_u8 (h.2 x hx)
    simp only [Function.comp]
    omega
  · have hi' : i < l.length := by simpa using hi
    have := wf_u8 (h.2 _ (List.getElem_mem hi'))
    simp only [List.getD_eq_getElem?_getD, List.getElem?_map, List.getElem?_eq_getElem hi', Option.map_some, Option.getD_some]
    omega
theorem bytes_len (c : List Nat) : List.length (α := Ty.I (.int .u8)) (c.map fun n : Nat => (n : Int)) = c.length := List.length_map ..
theorem bytes_enc (c : List Nat) : List.flatMap (α := Ty.I (.int .u8)) (Ty.enc (.int .u8)) (c.map fun n : Nat => (n : Int)) = c.flatMap fun n : Nat => [.int .u8 (n : Int)] := by
  induction c with
  | nil => rfl
  | cons x c ih => rw [List.flatMap_cons, ← ih]; rfl
theorem bytes_cast (c : List Nat) (p : AV → Prop) (h : p (.sl none c.length (c.flatMap fun n : Nat => [.int .u8 (n : Int)]))) : p (.sl none (List.length (α := Ty.I (.int .u8)) (c.map fun n : Nat => (n : Int))) (List.flatMap (α := Ty.I (.int .u8)) (Ty.enc (.int .u8)) (c.map fun n : Nat => (n : Int)))) := by
  rw [bytes_len, bytes_enc]; exact h
end Go.Proofs.YtjflngchbeegcaaDoor
/-! text I14 -/
namespace Go.Proofs.YtjflngchbeegcaaDoor
open Go.Vsi
set_option maxHeartbeats 4000000
attribute [local irreducible] VW VCall VO bits

/-! ### the traces by their numbers are traces -/
theorem nthA_names (n : Nat) : ∀ (l : List UInt8) (N : Nat), (nthA n l N).1.map (·.1) = l
  | [], _ => rfl
  | c :: l, N => by simp only [nthA, List.map_cons, nthA_names n l N]
theorem nthA_masks (n : Nat) : ∀ (l : List UInt8) (N : Nat), ∀ p ∈ (nthA n l N).1, p.2 < 2 ^ n
  | [], _ => fun p hp => by cases hp
  | c :: l, N => fun p hp => by
    simp only [nthA, List.mem_cons] at hp
    rcases hp with rfl | hp
    · exact Nat.lt_of_le_of_lt Nat.and_le_right (every_lt2 n)
    · exact nthA_masks n l N p hp
theorem nthA_lp (n : Nat) : ∀ (l : List UInt8) (N : Nat), (nthA n l N).2 = N >>> (n * l.length)
  | [], N => by simp [nthA]
  | c :: l, N => by
    simp only [nthA, nthA_lp n l N, List.length_cons, Nat.mul_add, Nat.mul_one, Nat.shiftRight_add]
theorem cntN_eq {k n : Nat} (h : cntN k n ≠ 0) : cntN k n = n <<< (n * k) := by
  unfold cntN at h ⊢
  split at h
  · exact absurd rfl h
  · rename_i h1
    rw [if_neg h1]
    split at h
    · exact absurd rfl h
    · rename_i h2
      rw [if_neg h2]
theorem nthT_ok {l : List UInt8} (hl : NmOk l) {n N : Nat} (h1 : 1 ≤ n) (h5 : n ≤ 5) (hN : N < cntN l.length n) : (nthT l n N).Ok := by
  have hlen : (nthT l n N).fs.length = l.length := by
    have := congrArg List.length (nthA_names n l N)
    simpa [nthT] using this
  have hnm : ∀ i, i < l.length → (ft (nthT l n N).fs i).1 = l.getD i 0 := fun i hi => by
    have h : ((nthA n l N).1.map (·.1))[i]? = l[i]? := by rw [nthA_names]
    rw [List.getElem?_map] at h
    have hi' : i < (nthA n l N).1.length := by simpa [nthT] using hlen.symm ▸ hi
    simp only [List.getElem?_eq_getElem hi', List.getElem?_eq_getElem hi, Option.map_some, Option.some.injEq] at h
    simpa [ft, nthT, hi', hi] using h
  refine ⟨h1, h5, ?_, by rw [hlen]; exact hl.len, fun i hi => ?_, fun i hi => ?_, fun i hi => ?_⟩
  · show (nthA n l N).2 < n
    rw [nthA_lp, Nat.shiftRight_eq_div_pow, Nat.div_lt_iff_lt_mul (Nat.two_pow_pos _)]
    rw [cntN_eq (by omega), Nat.shiftLeft_eq] at hN
    exact hN
  · rw [hlen] at hi
    rw [hnm i hi]; exact hl.cap i hi
  · rw [hlen] at hi
    rw [hnm i (by omega), hnm (i + 1) hi]
    have := hl.inc (i + 1) (by omega) hi
    simpa using this
  · have hi2 : i < (nthA n l N).1.length := hi
    have hm : ft (nthT l n N).fs i ∈ (nthA n l N).1 := by
      rw [show ft (nthT l n N).fs i = (nthA n l N).1[i] from ft_get _ _ _]
      exact List.getElem_mem hi2
    exact nthA_masks n l N _ hm

/-! ### the traces of Made -/
theorem one_shl (n : Nat) : 1 <<< n = 2 ^ n := by rw [Nat.shiftLeft_eq, Nat.one_mul]
theorem ok3 (n lp a b c : Nat) (h1 : 1 ≤ n) (h5 : n ≤ 5) (hl : lp < n) (ha : a < 2 ^ n) (hb : b < 2 ^ n) (hc : c < 2 ^ n) : Tr.Ok ⟨n, lp, [(80, a), (81, b), (82, c)]⟩ := by
  refine ⟨h1, h5, hl, by simp, fun i hi => ?_, fun i hi => ?_, fun i hi => ?_⟩
  · have : i = 0 ∨ i = 1 ∨ i = 2 := by simp at hi; omega
    rcases this with rfl | rfl | rfl
    · exact (⟨by decide, by decide⟩ : cap 80)
    · exact (⟨by decide, by decide⟩ : cap 81)
    · exact (⟨by decide, by decide⟩ : cap 82)
  · have : i = 0 ∨ i = 1 := by simp at hi; omega
    rcases this with rfl | rfl
    · show (80 : UInt8).toNat < (81 : UInt8).toNat
      decide
    · show (81 : UInt8).toNat < (82 : UInt8).toNat
      decide
  · have : i = 0 ∨ i = 1 ∨ i = 2 := by simp at hi; omega
    rcases this with rfl | rfl | rfl
    · exact ha
    · exact hb
    · exact hc
theorem ok1 (n lp a : Nat) (h1 : 1 ≤ n) (h5 : n ≤ 5) (hl : lp < n) (ha : a < 2 ^ n) : Tr.Ok ⟨n, lp, [(80, a)]⟩ := by
  refine ⟨h1, h5, hl, by simp, fun i hi => ?_, fun i hi => ?_, fun i hi => ?_⟩
  · have : i = 0 := by simp at hi; omega
    subst this
    exact (⟨by decide, by decide⟩ : cap 80)
  · simp at hi
  · have : i = 0 := by simp at hi; omega
    subst this
    exact ha
theorem made_ex (sz lp x y z : Nat) : ∃ n l a b c, mdT sz lp x y z = ⟨n, l, [(80, a), (81, b), (82, c)]⟩ ∧ 1 ≤ n ∧ n ≤ 5 ∧ l < n ∧ a < 2 ^ n ∧ b < 2 ^ n ∧ c < 2 ^ n := by
  have h2 := Nat.two_pow_pos (1 + sz % 5)
  refine ⟨1 + sz % 5, lp % (1 + sz % 5), _, _, _, rfl, by omega, by omega, Nat.mod_lt _ (by omega), ?_, ?_, ?_⟩
  all_goals rw [one_shl]; exact Nat.mod_lt _ h2

/-! ### TraceLeast -/
theorem least_c (sz lp x y z : Nat) (hs : sz ≤ 255) (hl : lp ≤ 255) (hx : x ≤ 255) (hy : y ≤ 255) (hz : z ≤ 255) (H : Heap) : VDet Tryd.prog 4 [.int .u8 sz, .int .u8 lp, .agg [.int .u8 x, .int .u8 y, .int .u8 z]] H (.bool true) := by
  have hmd := fun H => Made_c sz lp x y z hs hl hx hy hz H
  obtain ⟨n, l, a, b, c, he, h1, h5, hln, ha, hb, hc⟩ := made_ex sz lp x y z
  rw [he] at hmd
  have hm := ok1 n l a h1 h5 hln ha
  obtain ⟨K, L, hF⟩ := first_ex hm
  have hsh := fun H => Short_c _ hm K L hF.hK hF.hL hF.no hF.no2 hF.yes H
  have hleast : ∀ j i, 1 ≤ j → j < (shT ⟨n, l, [(80, a)]⟩ K L).n → i < cntN 1 j → ∀ H, VDet Tryd.prog 13 [.agg (Tr.cells ⟨n, l, [(80, a)]⟩), .agg (nthT [80] j i).cells] H (.tup [.bool false, .int .i64 0]) := fun j i hj1 hj hi H => by
    have hok := nthT_ok nm1_ok hj1 (Nat.le_trans (Nat.le_of_lt hj) ((hF.ok hm).n5)) hi
    have := Same_c _ _ hm hok H
    rwa [short_least hm hok hF hj] at this
  have hS1 : 1 ≤ (shT ⟨n, l, [(80, a)]⟩ K L).n := (hF.ok hm).n1
  have hS5 : (shT ⟨n, l, [(80, a)]⟩ K L).n ≤ 5 := (hF.ok hm).n5
  generalize shT ⟨n, l, [(80, a)]⟩ K L = S at hsh hleast hS1 hS5
  have hcn : ∀ j, 1 ≤ j → j ≤ 5 → cntN 1 j ≠ 0 := fun j h1 h5 => by
    have : j = 1 ∨ j = 2 ∨ j = 3 ∨ j = 4 ∨ j = 5 := by omega
    rcases this with rfl | rfl | rfl | rfl | rfl <;> decide
  have hC : ∀ j : Nat, 1 ≤ j → j ≤ 5 → ∀ H, VDet Tryd.prog 19 [.sl none 1 [.str (nm 80)], .int .i64 j] H (.tup [.int .i64 (cntN 1 j : Nat), .int .i64 0]) := fun j h1 h5 H => by
    have := Count_c [80] nm1_ok j h1 h5 H
    rw [show ([80] : List UInt8).length = 1 from rfl, if_neg (hcn j h1 h5)] at this
    exact this
  have hN := fun j i h1 h5 hi H => Nth_1 80 nm1_ok j i h1 h5 (hcn j h1 h5) hi H
  unfold Tr.cells at hmd hsh hleast hN
  simp only at hmd hsh hleast hN
  refine fn_det Tryd.E0 Tryd.mx Tryd.func4 (by kernel_rfl) rfl (Nat.le_of_ble_eq_true rfl) rfl fun hcl hbl => ?_
  (repeat' ((conv => whnf); (first | (refine IfN.id ?_; first | refine IfN.not ?_ | refine IfN.tt rfl ?_ | fail) | (refine SideN.mk ?_ ?_; · first | kernel_rfl | omega | exact List.cons_ne_nil _ _ | (simp; done) | (simp; omega) | exact trivial | assumption | fail) | refine NatN.mk _ rfl ?_ | (refine CallN.id ?_; first | refine CallN.det _ (awake_c _) ?_ | refine CallN.det _ (hmd _) ?_ | refine CallN.det _ (hsh _) ?_ | fail) | refine SubN.mk [.str (nm 80), .int .i64 0, .int .i64 a] ⟨⟨_, rfl⟩, rfl⟩ ?_ | refine DrawN.mk' [] ?_ | fail))); all_goals (conv => whnf)
  refine loop_R Tryd.E0 Tryd.mx (σ := Nat) (fun j => 1 ≤ j ∧ j ≤ S.n) (fun j => S.n - j) (fun j => [(10, .v (.int .i64 j))]) (fun _ => _) _ 1 rfl hcl [7, 8] rfl ⟨Nat.le_refl _, hS1⟩ ⟨⟨_, rfl, Wk.refl _⟩, trivial⟩ rfl (fun _ _ => rfl) ?_
  rintro j ⟨hj1, hj⟩
  clear hbl
  (repeat' ((conv => whnf); (first | (refine IfN.id ?_; first | refine IfN.not ?_ | refine IfN.tt rfl ?_ | refine IfN.dec (fun _ => ?_) (fun _ => ?_) | fail) | (refine CallN.id ?_; first | refine CallN.det _ (VDet.wk (hC j hj1 (by omega) _) ⟨wk_sx _ _, Wk.refl _, trivial⟩) ?_ | fail) | refine DrawN.mk' [] ?_ | fail))); all_goals (conv => whnf)
  · refine loop_R Tryd.E0 Tryd.mx (σ := Nat) (fun i => i ≤ cntN 1 j) (fun i => cntN 1 j - i) (fun i => [(13, .v (.int .i64 i))]) (fun _ => _) _ 0 rfl hcl [7, 8, 10, 11] rfl (Nat.zero_le _) ⟨⟨_, rfl, Wk.refl _⟩, trivial⟩ rfl (fun _ _ => rfl) ?_
    intro i hi
    have h16 := cntN_le 1 j
    (repeat' ((conv => whnf); (first | (refine IfN.id ?_; first | refine IfN.not ?_ | refine IfN.tt rfl ?_ | refine IfN.ff rfl ?_ | refine IfN.dec (fun _ => ?_) (fun _ => ?_) | fail) | (refine EqN.id ?_; first | (refine EqN.addN _ _ (by first | with_reducible rfl | with_reducible exact cst1 | with_reducible exact cst0 | with_reducible exact cst2 | with_reducible exact cst3 | with_reducible exact cst4 | with_reducible exact cst5 | with_reducible exact cst6 | with_reducible exact cst7 | with_reducible exact cst8 | with_reducible exact cst14 | with_reducible exact cst15 | with_reducible exact cst25 | with_reducible exact cst30 | with_reducible exact cst31 | fail) (by first | with_reducible rfl | with_reducible exact cst1 | with_reducible exact cst0 | with_reducible exact cst2 | with_reducible exact cst3 | with_reducible exact cst4 | with_reducible exact cst5 | with_reducible exact cst6 | with_reducible exact cst7 | with_reducible exact cst8 | with_reducible exact cst14 | with_reducible exact cst15 | with_reducible exact cst25 | with_reducible exact cst30 | with_reducible exact cst31 | fail) ?_ ?_; · (repeat' (first | omega | refine And.intro ?_ ?_ | exact bnd_andl (by omega) | exact bnd_andr (by omega) | refine bnd_or ?_ ?_ | refine bnd_or31 ?_ ?_ | refine bnd_xor ?_ ?_ | refine bnd_xor31 ?_ ?_ | refine bnd_shr ?_ | refine bnd_shl ?_ ?_ | refine bnd_mod ?_ | refine bnd_andl ?_ | fail))) | fail) | (refine CallN.id ?_; first | refine CallN.det _ (VDet.wk (hN j i hj1 (by omega) (by omega) _) ⟨wk_sx _ _, Wk.refl _, Wk.refl _, trivial⟩) ?_ | refine CallN.det _ (hleast j i hj1 (by omega) (by omega) _) ?_ | fail) | refine DrawN.mk' [] ?_ | fail))); all_goals (conv => whnf)
    · (refine ⟨⟨i + 1, by omega, by omega, ?_, .inl ⟨rfl, rfl⟩, rfl, _, rfl, ?_⟩⟩; rotate_left 1; (first | exact .inl rfl | exact .inr ⟨by simp [belowRE, below, belowL, tr, encT_below], by simp [belowH, Blk.below, belowL, below, encT_below]⟩ | fail); (repeat' (first | exact trivial | refine ⟨⟨_, rfl, ?_⟩, ?_⟩ | fail)); all_goals try (first | exact Wk.refl _ | exact Wk.of_eq (congrArg (AV.int _) (by omega)) | fail))
    · (refine ⟨⟨j + 1, by omega, by omega, ?_, .inr ?_, rfl, _, rfl, ?_⟩⟩; rotate_left 2; (first | exact .inl rfl | exact .inr ⟨by simp [belowRE, below, belowL, tr, encT_below], by simp [belowH, Blk.below, belowL, below, encT_below]⟩ | fail); all_goals (repeat' (first | exact trivial | refine ⟨⟨_, rfl, ?_⟩, ?_⟩ | fail)); all_goals try (first | exact Wk.refl _ | exact Wk.of_eq (congrArg (AV.int _) (by omega)) | fail))
  · exact EndN.det trivial (Wk.refl _)
end Go.Proofs.YtjflngchbeegcaaDoor
/-! text J14 -/
namespace Go.Proofs.YtjflngchbeegcaaDoor
open Go.Vsi
set_option maxHeartbeats 4000000
attribute [local irreducible] VW VCall VO bits

/-! ### Built -/
def encB (x : Nat) : List AV := [.int .u8 x]
theorem encB_below (n : Nat) (l : List Nat) : belowL n (l.flatMap encB) := belowL_flat _ fun x => by simp [encB, belowL, below]
theorem fms_below (n : Nat) (l : List Fm) : belowL n (l.flatMap Fm.cells) := belowL_flat _ fun x => by simp [Fm.cells, belowL, below, Fm.sc_below]
def gF (S : List Fm) (i : Nat) : Fm := S.getD i .fa
def stp (S : List Fm) (b : Nat) : List Fm := match b with
  | 0 => S ++ [.at 80]
  | 1 => S ++ [.at 81]
  | 2 => S ++ [.at 82]
  | 3 => S ++ [.fa]
  | 4 => if 1 ≤ S.length then S.take (S.length - 1) ++ [.f1 3 (gF S (S.length - 1))] else S
  | 5 => if 2 ≤ S.length then S.take (S.length - 2) ++ [.f2 4 (gF S (S.length - 2)) (gF S (S.length - 1))] else S
  | 6 => if 2 ≤ S.length then S.take (S.length - 2) ++ [.f2 5 (gF S (S.length - 2)) (gF S (S.length - 1))] else S
  | 7 => if 2 ≤ S.length then S.take (S.length - 2) ++ [.f2 6 (gF S (S.length - 2)) (gF S (S.length - 1))] else S
  | 8 => if 2 ≤ S.length then S.take (S.length - 2) ++ [.f2 7 (gF S (S.length - 2)) (gF S (S.length - 1))] else S
  | 9 => if 1 ≤ S.length then S.take (S.length - 1) ++ [.f1 12 (gF S (S.length - 1))] else S
  | 10 => if 1 ≤ S.length then S.take (S.length - 1) ++ [.f1 13 (gF S (S.length - 1))] else S
  | 11 => if 2 ≤ S.length then S.take (S.length - 2) ++ [.f2 14 (gF S (S.length - 2)) (gF S (S.length - 1))] else S
  | _ => S
def bst (l : List Nat) : List Fm := l.foldl (fun S x => stp S (x % 12)) []
theorem stp_len (S : List Fm) (b : Nat) : (stp S b).length ≤ S.length + 1 := by
  unfold stp
  split
  all_goals try split
  all_goals try simp only [List.length_append, List.length_take, List.length_cons, List.length_nil]
  all_goals omega
theorem bst_succ (l : List Nat) (k : Nat) (h : k < l.length) : bst (l.take (k + 1)) = stp (bst (l.take k)) (l.getD k 0 % 12) := foldl_take _ _ _ 0 k h
theorem bst_len (l : List Nat) : ∀ k, (bst (l.take k)).length ≤ k
  | 0 => by simp [bst]
  | k + 1 => by
    by_cases h : k < l.length
    · rw [bst_succ l k h]
      have := stp_len (bst (l.take k)) (l.getD k 0 % 12)
      have := bst_len l k
      omega
    · have := bst_len l k
      rw [List.take_of_length_le (by omega)] at this ⊢
      omega
/-- what Built makes of a stack -/
def orN (S : List Fm) : Nat → Fm
  | 0 => gF S 0
  | j + 1 => .f2 5 (orN S j) (gF S (j + 1))
def finF (S : List Fm) : Fm := if S.length = 0 then .fa else orN S (S.length - 1)
def bltF (l : List Nat) : Fm := finF (bst (l.take 20))
theorem built_c (l : List Nat) (hl : l.length ≤ 9223372036854775807) (hb : ∀ i, i < l.length → l.getD i 0 ≤ 255) (H : Heap) : VDet Tryd.prog 11 [.sl none l.length (l.flatMap encB)] H (.agg (bltF l).cells) := by
  refine fn_det Tryd.E0 Tryd.mx Tryd.func11 (by kernel_rfl) rfl (Nat.le_of_ble_eq_true rfl) rfl fun hcl hbl => ?_
  (repeat' ((conv => whnf); (first | refine DrawN.mk' [] ?_ | fail))); all_goals (conv => whnf)
  refine loop_T Tryd.E0 Tryd.mx (σ := Nat) (fun i => i ≤ l.length ∧ i ≤ 20) (fun i => 20 - i) (fun i => [(4, .v (.int .i64 i))]) (fun _ => _) _ 0 3 35 4 (fun i => (bst (l.take i)).length) (fun i => (bst (l.take i)).flatMap Fm.cells) rfl hcl [0, 2] rfl ⟨Nat.zero_le _, Nat.zero_le _⟩ ⟨⟨_, rfl, Wk.refl _⟩, trivial⟩ rfl (fun _ _ => rfl) rfl rfl rfl ?_
  rintro i ⟨hi, hi20⟩
  clear hbl
  have hn := bst_len l i
  by_cases hlt : i < l.length ∧ i < 20
  · obtain ⟨hil, hi2⟩ := hlt
    have hop := hb i hil
    have hS := bst_succ l i hil
    generalize bst (l.take i) = S at hn hS ⊢
    obtain ⟨c, hc, hc12⟩ : ∃ c, l.getD i 0 % 12 = c ∧ c < 12 := ⟨_, rfl, Nat.mod_lt _ (by decide)⟩
    rw [hc] at hS
    have : c = 0 ∨ c = 1 ∨ c = 2 ∨ c = 3 ∨ c = 4 ∨ c = 5 ∨ c = 6 ∨ c = 7 ∨ c = 8 ∨ c = 9 ∨ c = 10 ∨ c = 11 := by omega
    rcases this with rfl | rfl | rfl | rfl | rfl | rfl | rfl | rfl | rfl | rfl | rfl | rfl
    · (repeat' ((conv => whnf); (first | (refine IfN.id ?_; first | refine IfN.tt rfl ?_ | refine IfN.dT (by omega) ?_ | fail) | (refine EqN.id ?_; first | refine EqN.remC _ rfl rfl hc ?_ | (refine EqN.addN _ _ (by first | with_reducible rfl | with_reducible exact cst1 | with_reducible exact cst0 | with_reducible exact cst2 | with_reducible exact cst3 | with_reducible exact cst4 | with_reducible exact cst5 | with_reducible exact cst6 | with_reducible exact cst7 | with_reducible exact cst8 | with_reducible exact cst14 | with_reducible exact cst15 | with_reducible exact cst25 | with_reducible exact cst30 | with_reducible exact cst31 | fail) (by first | with_reducible rfl | with_reducible exact cst1 | with_reducible exact cst0 | with_reducible exact cst2 | with_reducible exact cst3 | with_reducible exact cst4 | with_reducible exact cst5 | with_reducible exact cst6 | with_reducible exact cst7 | with_reducible exact cst8 | with_reducible exact cst14 | with_reducible exact cst15 | with_reducible exact cst25 | with_reducible exact cst30 | with_reducible exact cst31 | fail) ?_ ?_; · (repeat' (first | omega | refine And.intro ?_ ?_ | exact bnd_andl (by omega) | exact bnd_andr (by omega) | refine bnd_or ?_ ?_ | refine bnd_or31 ?_ ?_ | refine bnd_xor ?_ ?_ | refine bnd_xor31 ?_ ?_ | refine bnd_shr ?_ | refine bnd_shl ?_ ?_ | refine bnd_mod ?_ | refine bnd_andl ?_ | fail))) | refine EqN.remN _ _ (by first | with_reducible rfl | with_reducible exact cst1 | with_reducible exact cst0 | with_reducible exact cst2 | with_reducible exact cst3 | with_reducible exact cst4 | with_reducible exact cst5 | with_reducible exact cst6 | with_reducible exact cst7 | with_reducible exact cst8 | with_reducible exact cst14 | with_reducible exact cst15 | with_reducible exact cst25 | with_reducible exact cst30 | with_reducible exact cst31 | fail) (by first | with_reducible rfl | with_reducible exact cst1 | with_reducible exact cst0 | with_reducible exact cst2 | with_reducible exact cst3 | with_reducible exact cst4 | with_reducible exact cst5 | with_reducible exact cst6 | with_reducible exact cst7 | with_reducible exact cst8 | with_reducible exact cst14 | with_reducible exact cst15 | with_reducible exact cst25 | with_reducible exact cst30 | with_reducible exact cst31 | fail) ?_ | fail) | (refine SideN.mk ?_ ?_; · first | kernel_rfl | omega | exact List.cons_ne_nil _ _ | (simp; done) | (simp; omega) | exact trivial | assumption | fail) | (refine CallN.id ?_; first | refine CallN.det _ (atom_c 80 _) ?_ | fail) | refine SegN.nth 0 i rfl (by omega) (fun _ => rfl) ?_ | refine SideN.mk ⟨rfl, rfl, rfl, by dsimp only; omega, by simp only [maxLen]; omega⟩ ?_ | (refine PtrN.id ?_; first | refine PtrN.loc _ rfl ?_ | fail) | refine DrawN.mk' [] ?_ | fail))); all_goals (conv => whnf)
      refine ⟨⟨i + 1, 1, _, _, _, ⟨by omega, by omega⟩, by omega, ⟨⟨_, rfl, Wk.refl _⟩, trivial⟩, ⟨⟨_, rfl, Wk.refl _⟩, ⟨_, rfl, Wk.refl _⟩, trivial⟩, rfl, rfl, ?_, ?_, by omega, rfl, rfl, ⟨_, rfl⟩, by simp [belowRE, below, tr], by simp [belowH, Blk.below, belowL, below], fms_below _ _⟩⟩
      all_goals rw [hS]; simp [stp, gF, Fm.cells]; try omega
    · (repeat' ((conv => whnf); (first | (refine IfN.id ?_; first | refine IfN.tt rfl ?_ | refine IfN.dT (by omega) ?_ | fail) | (refine EqN.id ?_; first | refine EqN.remC _ rfl rfl hc ?_ | (refine EqN.addN _ _ (by first | with_reducible rfl | with_reducible exact cst1 | with_reducible exact cst0 | with_reducible exact cst2 | with_reducible exact cst3 | with_reducible exact cst4 | with_reducible exact cst5 | with_reducible exact cst6 | with_reducible exact cst7 | with_reducible exact cst8 | with_reducible exact cst14 | with_reducible exact cst15 | with_reducible exact cst25 | with_reducible exact cst30 | with_reducible exact cst31 | fail) (by first | with_reducible rfl | with_reducible exact cst1 | with_reducible exact cst0 | with_reducible exact cst2 | with_reducible exact cst3 | with_reducible exact cst4 | with_reducible exact cst5 | with_reducible exact cst6 | with_reducible exact cst7 | with_reducible exact cst8 | with_reducible exact cst14 | with_reducible exact cst15 | with_reducible exact cst25 | with_reducible exact cst30 | with_reducible exact cst31 | fail) ?_ ?_; · (repeat' (first | omega | refine And.intro ?_ ?_ | exact bnd_andl (by omega) | exact bnd_andr (by omega) | refine bnd_or ?_ ?_ | refine bnd_or31 ?_ ?_ | refine bnd_xor ?_ ?_ | refine bnd_xor31 ?_ ?_ | refine bnd_shr ?_ | refine bnd_shl ?_ ?_ | refine bnd_mod ?_ | refine bnd_andl ?_ | fail))) | refine EqN.remN _ _ (by first | with_reducible rfl | with_reducible exact cst1 | with_reducible exact cst0 | with_reducible exact cst2 | with_reducible exact cst3 | with_reducible exact cst4 | with_reducible exact cst5 | with_reducible exact cst6 | with_reducible exact cst7 | with_reducible exact cst8 | with_reducible exact cst14 | with_reducible exact cst15 | with_reducible exact cst25 | with_reducible exact cst30 | with_reducible exact cst31 | fail) (by first | with_reducible rfl | with_reducible exact cst1 | with_reducible exact cst0 | with_reducible exact cst2 | with_reducible exact cst3 | with_reducible exact cst4 | with_reducible exact cst5 | with_reducible exact cst6 | with_reducible exact cst7 | with_reducible exact cst8 | with_reducible exact cst14 | with_reducible exact cst15 | with_reducible exact cst25 | with_reducible exact cst30 | with_reducible exact cst31 | fail) ?_ | fail) | (refine SideN.mk ?_ ?_; · first | kernel_rfl | omega | exact List.cons_ne_nil _ _ | (simp; done) | (simp; omega) | exact trivial | assumption | fail) | (refine CallN.id ?_; first | refine CallN.det _ (atom_c 81 _) ?_ | fail) | refine SegN.nth 0 i rfl (by omega) (fun _ => rfl) ?_ | refine SideN.mk ⟨rfl, rfl, rfl, by dsimp only; omega, by simp only [maxLen]; omega⟩ ?_ | (refine PtrN.id ?_; first | refine PtrN.loc _ rfl ?_ | fail) | refine DrawN.mk' [] ?_ | fail))); all_goals (conv => whnf)
      refine ⟨⟨i + 1, 1, _, _, _, ⟨by omega, by omega⟩, by omega, ⟨⟨_, rfl, Wk.refl _⟩, trivial⟩, ⟨⟨_, rfl, Wk.refl _⟩, ⟨_, rfl, Wk.refl _⟩, trivial⟩, rfl, rfl, ?_, ?_, by omega, rfl, rfl, ⟨_, rfl⟩, by simp [belowRE, below, tr], by simp [belowH, Blk.below, belowL, below], fms_below _ _⟩⟩
      all_goals rw [hS]; simp [stp, gF, Fm.cells]; try omega
    · (repeat' ((conv => whnf); (first | (refine IfN.id ?_; first | refine IfN.tt rfl ?_ | refine IfN.dT (by omega) ?_ | fail) | (refine EqN.id ?_; first | refine EqN.remC _ rfl rfl hc ?_ | (refine EqN.addN _ _ (by first | with_reducible rfl | with_reducible exact cst1 | with_reducible exact cst0 | with_reducible exact cst2 | with_reducible exact cst3 | with_reducible exact cst4 | with_reducible exact cst5 | with_reducible exact cst6 | with_reducible exact cst7 | with_reducible exact cst8 | with_reducible exact cst14 | with_reducible exact cst15 | with_reducible exact cst25 | with_reducible exact cst30 | with_reducible exact cst31 | fail) (by first | with_reducible rfl | with_reducible exact cst1 | with_reducible exact cst0 | with_reducible exact cst2 | with_reducible exact cst3 | with_reducible exact cst4 | with_reducible exact cst5 | with_reducible exact cst6 | with_reducible exact cst7 | with_reducible exact cst8 | with_reducible exact cst14 | with_reducible exact cst15 | with_reducible exact cst25 | with_reducible exact cst30 | with_reducible exact cst31 | fail) ?_ ?_; · (repeat' (first | omega | refine And.intro ?_ ?_ | exact bnd_andl (by omega) | exact bnd_andr (by omega) | refine bnd_or ?_ ?_ | refine bnd_or31 ?_ ?_ | refine bnd_xor ?_ ?_ | refine bnd_xor31 ?_ ?_ | refine bnd_shr ?_ | refine bnd_shl ?_ ?_ | refine bnd_mod ?_ | refine bnd_andl ?_ | fail))) | refine EqN.remN _ _ (by first | with_reducible rfl | with_reducible exact cst1 | with_reducible exact cst0 | with_reducible exact cst2 | with_reducible exact cst3 | with_reducible exact cst4 | with_reducible exact cst5 | with_reducible exact cst6 | with_reducible exact cst7 | with_reducible exact cst8 | with_reducible exact cst14 | with_reducible exact cst15 | with_reducible exact cst25 | with_reducible exact cst30 | with_reducible exact cst31 | fail) (by first | with_reducible rfl | with_reducible exact cst1 | with_reducible exact cst0 | with_reducible exact cst2 | with_reducible exact cst3 | with_reducible exact cst4 | with_reducible exact cst5 | with_reducible exact cst6 | with_reducible exact cst7 | with_reducible exact cst8 | with_reducible exact cst14 | with_reducible exact cst15 | with_reducible exact cst25 | with_reducible exact cst30 | with_reducible exact cst31 | fail) ?_ | fail) | (refine SideN.mk ?_ ?_; · first | kernel_rfl | omega | exact List.cons_ne_nil _ _ | (simp; done) | (simp; omega) | exact trivial | assumption | fail) | (refine CallN.id ?_; first | refine CallN.det _ (atom_c 82 _) ?_ | fail) | refine SegN.nth 0 i rfl (by omega) (fun _ => rfl) ?_ | refine SideN.mk ⟨rfl, rfl, rfl, by dsimp only; omega, by simp only [maxLen]; omega⟩ ?_ | (refine PtrN.id ?_; first | refine PtrN.loc _ rfl ?_ | fail) | refine DrawN.mk' [] ?_ | fail))); all_goals (conv => whnf)
      refine ⟨⟨i + 1, 1, _, _, _, ⟨by omega, by omega⟩, by omega, ⟨⟨_, rfl, Wk.refl _⟩, trivial⟩, ⟨⟨_, rfl, Wk.refl _⟩, ⟨_, rfl, Wk.refl _⟩, trivial⟩, rfl, rfl, ?_, ?_, by omega, rfl, rfl, ⟨_, rfl⟩, by simp [belowRE, below, tr], by simp [belowH, Blk.below, belowL, below], fms_below _ _⟩⟩
      all_goals rw [hS]; simp [stp, gF, Fm.cells]; try omega
    · (repeat' ((conv => whnf); (first | (refine IfN.id ?_; first | refine IfN.tt rfl ?_ | refine IfN.ff rfl ?_ | refine IfN.dT (by omega) ?_ | fail) | (refine EqN.id ?_; first | refine EqN.remC _ rfl rfl hc ?_ | (refine EqN.addN _ _ (by first | with_reducible rfl | with_reducible exact cst1 | with_reducible exact cst0 | with_reducible exact cst2 | with_reducible exact cst3 | with_reducible exact cst4 | with_reducible exact cst5 | with_reducible exact cst6 | with_reducible exact cst7 | with_reducible exact cst8 | with_reducible exact cst14 | with_reducible exact cst15 | with_reducible exact cst25 | with_reducible exact cst30 | with_reducible exact cst31 | fail) (by first | with_reducible rfl | with_reducible exact cst1 | with_reducible exact cst0 | with_reducible exact cst2 | with_reducible exact cst3 | with_reducible exact cst4 | with_reducible exact cst5 | with_reducible exact cst6 | with_reducible exact cst7 | with_reducible exact cst8 | with_reducible exact cst14 | with_reducible exact cst15 | with_reducible exact cst25 | with_reducible exact cst30 | with_reducible exact cst31 | fail) ?_ ?_; · (repeat' (first | omega | refine And.intro ?_ ?_ | exact bnd_andl (by omega) | exact bnd_andr (by omega) | refine bnd_or ?_ ?_ | refine bnd_or31 ?_ ?_ | refine bnd_xor ?_ ?_ | refine bnd_xor31 ?_ ?_ | refine bnd_shr ?_ | refine bnd_shl ?_ ?_ | refine bnd_mod ?_ | refine bnd_andl ?_ | fail))) | fail) | (refine SideN.mk ?_ ?_; · first | kernel_rfl | omega | exact List.cons_ne_nil _ _ | (simp; done) | (simp; omega) | exact trivial | assumption | fail) | (refine CallN.id ?_; first | refine CallN.det _ (VDet.wk (join0_c _) ⟨Wk.refl _, wk_nils, trivial⟩) ?_ | fail) | refine SegN.nth 0 i rfl (by omega) (fun _ => rfl) ?_ | refine SideN.mk ⟨rfl, rfl, rfl, by dsimp only; omega, by simp only [maxLen]; omega⟩ ?_ | (refine PtrN.id ?_; first | refine PtrN.loc _ rfl ?_ | fail) | refine DrawN.mk' [] ?_ | fail))); all_goals (conv => whnf)
      refine ⟨⟨i + 1, 1, _, _, _, ⟨by omega, by omega⟩, by omega, ⟨⟨_, rfl, Wk.refl _⟩, trivial⟩, ⟨⟨_, rfl, Wk.refl _⟩, ⟨_, rfl, Wk.refl _⟩, trivial⟩, rfl, rfl, ?_, ?_, by omega, rfl, rfl, ⟨_, rfl⟩, by simp [belowRE, below, tr], by simp [belowH, Blk.below, belowL, below], fms_below _ _⟩⟩
      all_goals rw [hS]; simp [stp, gF, Fm.cells]; try omega
    · (repeat' ((conv => whnf); (first | (refine IfN.id ?_; first | refine IfN.tt rfl ?_ | refine IfN.ff rfl ?_ | refine IfN.dT (by omega) ?_ | refine IfN.dec (fun _ => ?_) (fun _ => ?_) | fail) | (refine EqN.id ?_; first | refine EqN.remC _ rfl rfl hc ?_ | (refine EqN.addN _ _ (by first | with_reducible rfl | with_reducible exact cst1 | with_reducible exact cst0 | with_reducible exact cst2 | with_reducible exact cst3 | with_reducible exact cst4 | with_reducible exact cst5 | with_reducible exact cst6 | with_reducible exact cst7 | with_reducible exact cst8 | with_reducible exact cst14 | with_reducible exact cst15 | with_reducible exact cst25 | with_reducible exact cst30 | with_reducible exact cst31 | fail) (by first | with_reducible rfl | with_reducible exact cst1 | with_reducible exact cst0 | with_reducible exact cst2 | with_reducible exact cst3 | with_reducible exact cst4 | with_reducible exact cst5 | with_reducible exact cst6 | with_reducible exact cst7 | with_reducible exact cst8 | with_reducible exact cst14 | with_reducible exact cst15 | with_reducible exact cst25 | with_reducible exact cst30 | with_reducible exact cst31 | fail) ?_ ?_; · (repeat' (first | omega | refine And.intro ?_ ?_ | exact bnd_andl (by omega) | exact bnd_andr (by omega) | refine bnd_or ?_ ?_ | refine bnd_or31 ?_ ?_ | refine bnd_xor ?_ ?_ | refine bnd_xor31 ?_ ?_ | refine bnd_shr ?_ | refine bnd_shl ?_ ?_ | refine bnd_mod ?_ | refine bnd_andl ?_ | fail))) | (refine EqN.subN _ _ (by first | with_reducible rfl | with_reducible exact cst1 | with_reducible exact cst0 | with_reducible exact cst2 | with_reducible exact cst3 | with_reducible exact cst4 | with_reducible exact cst5 | with_reducible exact cst6 | with_reducible exact cst7 | with_reducible exact cst8 | with_reducible exact cst14 | with_reducible exact cst15 | with_reducible exact cst25 | with_reducible exact cst30 | with_reducible exact cst31 | fail) (by first | with_reducible rfl | with_reducible exact cst1 | with_reducible exact cst0 | with_reducible exact cst2 | with_reducible exact cst3 | with_reducible exact cst4 | with_reducible exact cst5 | with_reducible exact cst6 | with_reducible exact cst7 | with_reducible exact cst8 | with_reducible exact cst14 | with_reducible exact cst15 | with_reducible exact cst25 | with_reducible exact cst30 | with_reducible exact cst31 | fail) ?_ ?_; · (repeat' (first | omega | refine And.intro ?_ ?_ | exact bnd_andl (by omega) | exact bnd_andr (by omega) | refine bnd_or ?_ ?_ | refine bnd_or31 ?_ ?_ | refine bnd_xor ?_ ?_ | refine bnd_xor31 ?_ ?_ | refine bnd_shr ?_ | refine bnd_shl ?_ ?_ | refine bnd_mod ?_ | refine bnd_andl ?_ | fail))) | fail) | (refine SideN.mk ?_ ?_; · first | kernel_rfl | omega | exact List.cons_ne_nil _ _ | (simp; done) | (simp; omega) | exact trivial | assumption | fail) | refine NatN.mk _ rfl ?_ | (refine CallD.id ?_; first | refine CallD.det _ (fun _ hq X => VDet.wk (join1_c 3 (gF S (S.length - 1)) _) ⟨Wk.refl _, wk_sx _ _, trivial⟩) ?_ | fail) | refine SegN.nth 0 i rfl (by omega) (fun _ => rfl) ?_ | refine SegN.nth Fm.fa (S.length - 1) (by omega) (by omega) (fun _ => rfl) ?_ | refine SubN.flat (lo := 0) (n := S.length - 1 - 0) (fun _ => rfl) (by omega) ?_ | refine OrN.l ?_ | refine SideN.mk ⟨Nat.le_of_ble_eq_true rfl, by rw [flat_length (sz := 4) (fun _ => rfl)]; simp; done, rfl, by dsimp only; omega, by simp only [maxLen]; omega⟩ ?_ | refine DrawN.mk' [] ?_ | fail))); all_goals (conv => whnf)
      · refine ⟨⟨i + 1, 2, _, _, _, ⟨by omega, by omega⟩, by omega, ⟨⟨_, rfl, Wk.refl _⟩, trivial⟩, ⟨⟨_, rfl, Wk.refl _⟩, ⟨_, rfl, Wk.refl _⟩, trivial⟩, rfl, rfl, ?_, ?_, by omega, rfl, rfl, ⟨_, rfl⟩, by simp [belowRE, below, tr], by simp [belowH, Blk.below, belowL, below], fms_below _ _⟩⟩
        all_goals rw [hS]; simp [stp, gF, Fm.cells, show 1 ≤ S.length by omega]; try omega
      · refine ⟨⟨i + 1, 1, _, _, _, ⟨by omega, by omega⟩, by omega, ⟨⟨_, rfl, Wk.refl _⟩, trivial⟩, ⟨⟨_, rfl, Wk.refl _⟩, ⟨_, rfl, Wk.refl _⟩, trivial⟩, rfl, rfl, ?_, ?_, by omega, rfl, rfl, ⟨_, rfl⟩, by simp [belowRE, below, tr], by simp [belowH, Blk.below, belowL, below], fms_below _ _⟩⟩
        all_goals rw [hS]; simp [stp, gF, Fm.cells, show ¬ 1 ≤ S.length by omega]; try omega
    · (repeat' ((conv => whnf); (first | (refine IfN.id ?_; first | refine IfN.tt rfl ?_ | refine IfN.ff rfl ?_ | refine IfN.dT (by omega) ?_ | refine IfN.dec (fun _ => ?_) (fun _ => ?_) | fail) | (refine EqN.id ?_; first | refine EqN.remC _ rfl rfl hc ?_ | (refine EqN.addN _ _ (by first | with_reducible rfl | with_reducible exact cst1 | with_reducible exact cst0 | with_reducible exact cst2 | with_reducible exact cst3 | with_reducible exact cst4 | with_reducible exact cst5 | with_reducible exact cst6 | with_reducible exact cst7 | with_reducible exact cst8 | with_reducible exact cst14 | with_reducible exact cst15 | with_reducible exact cst25 | with_reducible exact cst30 | with_reducible exact cst31 | fail) (by first | with_reducible rfl | with_reducible exact cst1 | with_reducible exact cst0 | with_reducible exact cst2 | with_reducible exact cst3 | with_reducible exact cst4 | with_reducible exact cst5 | with_reducible exact cst6 | with_reducible exact cst7 | with_reducible exact cst8 | with_reducible exact cst14 | with_reducible exact cst15 | with_reducible exact cst25 | with_reducible exact cst30 | with_reducible exact cst31 | fail) ?_ ?_; · (repeat' (first | omega | refine And.intro ?_ ?_ | exact bnd_andl (by omega) | exact bnd_andr (by omega) | refine bnd_or ?_ ?_ | refine bnd_or31 ?_ ?_ | refine bnd_xor ?_ ?_ | refine bnd_xor31 ?_ ?_ | refine bnd_shr ?_ | refine bnd_shl ?_ ?_ | refine bnd_mod ?_ | refine bnd_andl ?_ | fail))) | (refine EqN.subN _ _ (by first | with_reducible rfl | with_reducible exact cst1 | with_reducible exact cst0 | with_reducible exact cst2 | with_reducible exact cst3 | with_reducible exact cst4 | with_reducible exact cst5 | with_reducible exact cst6 | with_reducible exact cst7 | with_reducible exact cst8 | with_reducible exact cst14 | with_reducible exact cst15 | with_reducible exact cst25 | with_reducible exact cst30 | with_reducible exact cst31 | fail) (by first | with_reducible rfl | with_reducible exact cst1 | with_reducible exact cst0 | with_reducible exact cst2 | with_reducible exact cst3 | with_reducible exact cst4 | with_reducible exact cst5 | with_reducible exact cst6 | with_reducible exact cst7 | with_reducible exact cst8 | with_reducible exact cst14 | with_reducible exact cst15 | with_reducible exact cst25 | with_reducible exact cst30 | with_reducible exact cst31 | fail) ?_ ?_; · (repeat' (first | omega | refine And.intro ?_ ?_ | exact bnd_andl (by omega) | exact bnd_andr (by omega) | refine bnd_or ?_ ?_ | refine bnd_or31 ?_ ?_ | refine bnd_xor ?_ ?_ | refine bnd_xor31 ?_ ?_ | refine bnd_shr ?_ | refine bnd_shl ?_ ?_ | refine bnd_mod ?_ | refine bnd_andl ?_ | fail))) | refine EqN.remN _ _ (by first | with_reducible rfl | with_reducible exact cst1 | with_reducible exact cst0 | with_reducible exact cst2 | with_reducible exact cst3 | with_reducible exact cst4 | with_reducible exact cst5 | with_reducible exact cst6 | with_reducible exact cst7 | with_reducible exact cst8 | with_reducible exact cst14 | with_reducible exact cst15 | with_reducible exact cst25 | with_reducible exact cst30 | with_reducible exact cst31 | fail) (by first | with_reducible rfl | with_reducible exact cst1 | with_reducible exact cst0 | with_reducible exact cst2 | with_reducible exact cst3 | with_reducible exact cst4 | with_reducible exact cst5 | with_reducible exact cst6 | with_reducible exact cst7 | with_reducible exact cst8 | with_reducible exact cst14 | with_reducible exact cst15 | with_reducible exact cst25 | with_reducible exact cst30 | with_reducible exact cst31 | fail) ?_ | fail) | (refine SideN.mk ?_ ?_; · first | kernel_rfl | omega | exact List.cons_ne_nil _ _ | (simp; done) | (simp; omega) | exact trivial | assumption | fail) | refine NatN.mk _ rfl ?_ | (refine CallD.id ?_; first | refine CallD.det _ (fun _ hq X => VDet.wk (join2_c 4 (gF S (S.length - 2)) (gF S (S.length - 1)) _) ⟨Wk.refl _, wk_sx _ _, trivial⟩) ?_ | fail) | refine SegN.nth 0 i rfl (by omega) (fun _ => rfl) ?_ | refine SegN.nth Fm.fa (S.length - 2) (by omega) (by omega) (fun _ => rfl) ?_ | refine SegN.nth Fm.fa (S.length - 1) (by omega) (by omega) (fun _ => rfl) ?_ | refine SubN.flat (lo := 0) (n := S.length - 2 - 0) (fun _ => rfl) (by omega) ?_ | refine OrN.l ?_ | refine SideN.mk ⟨Nat.le_of_ble_eq_true rfl, by rw [flat_length (sz := 4) (fun _ => rfl)]; simp; done, rfl, by dsimp only; omega, by simp only [maxLen]; omega⟩ ?_ | refine DrawN.mk' [] ?_ | fail))); all_goals (conv => whnf)
      · refine ⟨⟨i + 1, 2, _, _, _, ⟨by omega, by omega⟩, by omega, ⟨⟨_, rfl, Wk.refl _⟩, trivial⟩, ⟨⟨_, rfl, Wk.refl _⟩, ⟨_, rfl, Wk.refl _⟩, trivial⟩, rfl, rfl, ?_, ?_, by omega, rfl, rfl, ⟨_, rfl⟩, by simp [belowRE, below, tr], by simp [belowH, Blk.below, belowL, below], fms_below _ _⟩⟩
        all_goals rw [hS]; simp [stp, gF, Fm.cells, show 2 ≤ S.length by omega]; try omega
      · refine ⟨⟨i + 1, 1, _, _, _, ⟨by omega, by omega⟩, by omega, ⟨⟨_, rfl, Wk.refl _⟩, trivial⟩, ⟨⟨_, rfl, Wk.refl _⟩, ⟨_, rfl, Wk.refl _⟩, trivial⟩, rfl, rfl, ?_, ?_, by omega, rfl, rfl, ⟨_, rfl⟩, by simp [belowRE, below, tr], by simp [belowH, Blk.below, belowL, below], fms_below _ _⟩⟩
        all_goals rw [hS]; simp [stp, gF, Fm.cells, show ¬ 2 ≤ S.length by omega]; try omega
    · (repeat' ((conv => whnf); (first | (refine IfN.id ?_; first | refine IfN.tt rfl ?_ | refine IfN.ff rfl ?_ | refine IfN.dT (by omega) ?_ | refine IfN.dec (fun _ => ?_) (fun _ => ?_) | fail) | (refine EqN.id ?_; first | refine EqN.remC _ rfl rfl hc ?_ | (refine EqN.addN _ _ (by first | with_reducible rfl | with_reducible exact cst1 | with_reducible exact cst0 | with_reducible exact cst2 | with_reducible exact cst3 | with_reducible exact cst4 | with_reducible exact cst5 | with_reducible exact cst6 | with_reducible exact cst7 | with_reducible exact cst8 | with_reducible exact cst14 | with_reducible exact cst15 | with_reducible exact cst25 | with_reducible exact cst30 | with_reducible exact cst31 | fail) (by first | with_reducible rfl | with_reducible exact cst1 | with_reducible exact cst0 | with_reducible exact cst2 | with_reducible exact cst3 | with_reducible exact cst4 | with_reducible exact cst5 | with_reducible exact cst6 | with_reducible exact cst7 | with_reducible exact cst8 | with_reducible exact cst14 | with_reducible exact cst15 | with_reducible exact cst25 | with_reducible exact cst30 | with_reducible exact cst31 | fail) ?_ ?_; · (repeat' (first | omega | refine And.intro ?_ ?_ | exact bnd_andl (by omega) | exact bnd_andr (by omega) | refine bnd_or ?_ ?_ | refine bnd_or31 ?_ ?_ | refine bnd_xor ?_ ?_ | refine bnd_xor31 ?_ ?_ | refine bnd_shr ?_ | refine bnd_shl ?_ ?_ | refine bnd_mod ?_ | refine bnd_andl ?_ | fail))) | (refine EqN.subN _ _ (by first | with_reducible rfl | with_reducible exact cst1 | with_reducible exact cst0 | with_reducible exact cst2 | with_reducible exact cst3 | with_reducible exact cst4 | with_reducible exact cst5 | with_reducible exact cst6 | with_reducible exact cst7 | with_reducible exact cst8 | with_reducible exact cst14 | with_reducible exact cst15 | with_reducible exact cst25 | with_reducible exact cst30 | with_reducible exact cst31 | fail) (by first | with_reducible rfl | with_reducible exact cst1 | with_reducible exact cst0 | with_reducible exact cst2 | with_reducible exact cst3 | with_reducible exact cst4 | with_reducible exact cst5 | with_reducible exact cst6 | with_reducible exact cst7 | with_reducible exact cst8 | with_reducible exact cst14 | with_reducible exact cst15 | with_reducible exact cst25 | with_reducible exact cst30 | with_reducible exact cst31 | fail) ?_ ?_; · (repeat' (first | omega | refine And.intro ?_ ?_ | exact bnd_andl (by omega) | exact bnd_andr (by omega) | refine bnd_or ?_ ?_ | refine bnd_or31 ?_ ?_ | refine bnd_xor ?_ ?_ | refine bnd_xor31 ?_ ?_ | refine bnd_shr ?_ | refine bnd_shl ?_ ?_ | refine bnd_mod ?_ | refine bnd_andl ?_ | fail))) | refine EqN.remN _ _ (by first | with_reducible rfl | with_reducible exact cst1 | with_reducible exact cst0 | with_reducible exact cst2 | with_reducible exact cst3 | with_reducible exact cst4 | with_reducible exact cst5 | with_reducible exact cst6 | with_reducible exact cst7 | with_reducible exact cst8 | with_reducible exact cst14 | with_reducible exact cst15 | with_reducible exact cst25 | with_reducible exact cst30 | with_reducible exact cst31 | fail) (by first | with_reducible rfl | with_reducible exact cst1 | with_reducible exact cst0 | with_reducible exact cst2 | with_reducible exact cst3 | with_reducible exact cst4 | with_reducible exact cst5 | with_reducible exact cst6 | with_reducible exact cst7 | with_reducible exact cst8 | with_reducible exact cst14 | with_reducible exact cst15 | with_reducible exact cst25 | with_reducible exact cst30 | with_reducible exact cst31 | fail) ?_ | fail) | (refine SideN.mk ?_ ?_; · first | kernel_rfl | omega | exact List.cons_ne_nil _ _ | (simp; done) | (simp; omega) | exact trivial | assumption | fail) | refine NatN.mk _ rfl ?_ | (refine CallD.id ?_; first | refine CallD.det _ (fun _ hq X => VDet.wk (join2_c 5 (gF S (S.length - 2)) (gF S (S.length - 1)) _) ⟨Wk.refl _, wk_sx _ _, trivial⟩) ?_ | fail) | refine SegN.nth 0 i rfl (by omega) (fun _ => rfl) ?_ | refine SegN.nth Fm.fa (S.length - 2) (by omega) (by omega) (fun _ => rfl) ?_ | refine SegN.nth Fm.fa (S.length - 1) (by omega) (by omega) (fun _ => rfl) ?_ | refine SubN.flat (lo := 0) (n := S.length - 2 - 0) (fun _ => rfl) (by omega) ?_ | refine OrN.l ?_ | refine SideN.mk ⟨Nat.le_of_ble_eq_true rfl, by rw [flat_length (sz := 4) (fun _ => rfl)]; simp; done, rfl, by dsimp only; omega, by simp only [maxLen]; omega⟩ ?_ | refine DrawN.mk' [] ?_ | fail))); all_goals (conv => whnf)
      · refine ⟨⟨i + 1, 2, _, _, _, ⟨by omega, by omega⟩, by omega, ⟨⟨_, rfl, Wk.refl _⟩, trivial⟩, ⟨⟨_, rfl, Wk.refl _⟩, ⟨_, rfl, Wk.refl _⟩, trivial⟩, rfl, rfl, ?_, ?_, by omega, rfl, rfl, ⟨_, rfl⟩, by simp [belowRE, below, tr], by simp [belowH, Blk.below, belowL, below], fms_below _ _⟩⟩
        all_goals rw [hS]; simp [stp, gF, Fm.cells, show 2 ≤ S.length by omega]; try omega
      · refine ⟨⟨i + 1, 1, _, _, _, ⟨by omega, by omega⟩, by omega, ⟨⟨_, rfl, Wk.refl _⟩, trivial⟩, ⟨⟨_, rfl, Wk.refl _⟩, ⟨_, rfl, Wk.refl _⟩, trivial⟩, rfl, rfl, ?_, ?_, by omega, rfl, rfl, ⟨_, rfl⟩, by simp [belowRE, below, tr], by simp [belowH, Blk.below, belowL, below], fms_below _ _⟩⟩
        all_goals rw [hS]; simp [stp, gF, Fm.cells, show ¬ 2 ≤ S.length by omega]; try omega
    · (repeat' ((conv => whnf); (first | (refine IfN.id ?_; first | refine IfN.tt rfl ?_ | refine IfN.ff rfl ?_ | refine IfN.dT (by omega) ?_ | refine IfN.dec (fun _ => ?_) (fun _ => ?_) | fail) | (refine EqN.id ?_; first | refine EqN.remC _ rfl rfl hc ?_ | (refine EqN.addN _ _ (by first | with_reducible rfl | with_reducible exact cst1 | with_reducible exact cst0 | with_reducible exact cst2 | with_reducible exact cst3 | with_reducible exact cst4 | with_reducible exact cst5 | with_reducible exact cst6 | with_reducible exact cst7 | with_reducible exact cst8 | with_reducible exact cst14 | with_reducible exact cst15 | with_reducible exact cst25 | with_reducible exact cst30 | with_reducible exact cst31 | fail) (by first | with_reducible rfl | with_reducible exact cst1 | with_reducible exact cst0 | with_reducible exact cst2 | with_reducible exact cst3 | with_reducible exact cst4 | with_reducible exact cst5 | with_reducible exact cst6 | with_reducible exact cst7 | with_reducible exact cst8 | with_reducible exact cst14 | with_reducible exact cst15 | with_reducible exact cst25 | with_reducible exact cst30 | with_reducible exact cst31 | fail) ?_ ?_; · (repeat' (first | omega | refine And.intro ?_ ?_ | exact bnd_andl (by omega) | exact bnd_andr (by omega) | refine bnd_or ?_ ?_ | refine bnd_or31 ?_ ?_ | refine bnd_xor ?_ ?_ | refine bnd_xor31 ?_ ?_ | refine bnd_shr ?_ | refine bnd_shl ?_ ?_ | refine bnd_mod ?_ | refine bnd_andl ?_ | fail))) | (refine EqN.subN _ _ (by first | with_reducible rfl | with_reducible exact cst1 | with_reducible exact cst0 | with_reducible exact cst2 | with_reducible exact cst3 | with_reducible exact cst4 | with_reducible exact cst5 | with_reducible exact cst6 | with_reducible exact cst7 | with_reducible exact cst8 | with_reducible exact cst14 | with_reducible exact cst15 | with_reducible exact cst25 | with_reducible exact cst30 | with_reducible exact cst31 | fail) (by first | with_reducible rfl | with_reducible exact cst1 | with_reducible exact cst0 | with_reducible exact cst2 | with_reducible exact cst3 | with_reducible exact cst4 | with_reducible exact cst5 | with_reducible exact cst6 | with_reducible exact cst7 | with_reducible exact cst8 | with_reducible exact cst14 | with_reducible exact cst15 | with_reducible exact cst25 | with_reducible exact cst30 | with_reducible exact cst31 | fail) ?_ ?_; · (repeat' (first | omega | refine And.intro ?_ ?_ | exact bnd_andl (by omega) | exact bnd_andr (by omega) | refine bnd_or ?_ ?_ | refine bnd_or31 ?_ ?_ | refine bnd_xor ?_ ?_ | refine bnd_xor31 ?_ ?_ | refine bnd_shr ?_ | refine bnd_shl ?_ ?_ | refine bnd_mod ?_ | refine bnd_andl ?_ | fail))) | refine EqN.remN _ _ (by first | with_reducible rfl | with_reducible exact cst1 | with_reducible exact cst0 | with_reducible exact cst2 | with_reducible exact cst3 | with_reducible exact cst4 | with_reducible exact cst5 | with_reducible exact cst6 | with_reducible exact cst7 | with_reducible exact cst8 | with_reducible exact cst14 | with_reducible exact cst15 | with_reducible exact cst25 | with_reducible exact cst30 | with_reducible exact cst31 | fail) (by first | with_reducible rfl | with_reducible exact cst1 | with_reducible exact cst0 | with_reducible exact cst2 | with_reducible exact cst3 | with_reducible exact cst4 | with_reducible exact cst5 | with_reducible exact cst6 | with_reducible exact cst7 | with_reducible exact cst8 | with_reducible exact cst14 | with_reducible exact cst15 | with_reducible exact cst25 | with_reducible exact cst30 | with_reducible exact cst31 | fail) ?_ | fail) | (refine SideN.mk ?_ ?_; · first | kernel_rfl | omega | exact List.cons_ne_nil _ _ | (simp; done) | (simp; omega) | exact trivial | assumption | fail) | refine NatN.mk _ rfl ?_ | (refine CallD.id ?_; first | refine CallD.det _ (fun _ hq X => VDet.wk (join2_c 6 (gF S (S.length - 2)) (gF S (S.length - 1)) _) ⟨Wk.refl _, wk_sx _ _, trivial⟩) ?_ | fail) | refine SegN.nth 0 i rfl (by omega) (fun _ => rfl) ?_ | refine SegN.nth Fm.fa (S.length - 2) (by omega) (by omega) (fun _ => rfl) ?_ | refine SegN.nth Fm.fa (S.length - 1) (by omega) (by omega) (fun _ => rfl) ?_ | refine SubN.flat (lo := 0) (n := S.length - 2 - 0) (fun _ => rfl) (by omega) ?_ | refine OrN.l ?_ | refine SideN.mk ⟨Nat.le_of_ble_eq_true rfl, by rw [flat_length (sz := 4) (fun _ => rfl)]; simp; done, rfl, by dsimp only; omega, by simp only [maxLen]; omega⟩ ?_ | refine DrawN.mk' [] ?_ | fail))); all_goals (conv => whnf)
      · refine ⟨⟨i + 1, 2, _, _, _, ⟨by omega, by omega⟩, by omega, ⟨⟨_, rfl, Wk.refl _⟩, trivial⟩, ⟨⟨_, rfl, Wk.refl _⟩, ⟨_, rfl, Wk.refl _⟩, trivial⟩, rfl, rfl, ?_, ?_, by omega, rfl, rfl, ⟨_, rfl⟩, by simp [belowRE, below, tr], by simp [belowH, Blk.below, belowL, below], fms_below _ _⟩⟩
        all_goals rw [hS]; simp [stp, gF, Fm.cells, show 2 ≤ S.length by omega]; try omega
      · refine ⟨⟨i + 1, 1, _, _, _, ⟨by omega, by omega⟩, by omega, ⟨⟨_, rfl, Wk.refl _⟩, trivial⟩, ⟨⟨_, rfl, Wk.refl _⟩, ⟨_, rfl, Wk.refl _⟩, trivial⟩, rfl, rfl, ?_, ?_, by omega, rfl, rfl, ⟨_, rfl⟩, by simp [belowRE, below, tr], by simp [belowH, Blk.below, belowL, below], fms_below _ _⟩⟩
        all_goals rw [hS]; simp [stp, gF, Fm.cells, show ¬ 2 ≤ S.length by omega]; try omega
    · (repeat' ((conv => whnf); (first | (refine IfN.id ?_; first | refine IfN.tt rfl ?_ | refine IfN.ff rfl ?_ | refine IfN.dT (by omega) ?_ | refine IfN.dec (fun _ => ?_) (fun _ => ?_) | fail) | (refine EqN.id ?_; first | refine EqN.remC _ rfl rfl hc ?_ | (refine EqN.addN _ _ (by first | with_reducible rfl | with_reducible exact cst1 | with_reducible exact cst0 | with_reducible exact cst2 | with_reducible exact cst3 | with_reducible exact cst4 | with_reducible exact cst5 | with_reducible exact cst6 | with_reducible exact cst7 | with_reducible exact cst8 | with_reducible exact cst14 | with_reducible exact cst15 | with_reducible exact cst25 | with_reducible exact cst30 | with_reducible exact cst31 | fail) (by first | with_reducible rfl | with_reducible exact cst1 | with_reducible exact cst0 | with_reducible exact cst2 | with_reducible exact cst3 | with_reducible exact cst4 | with_reducible exact cst5 | with_reducible exact cst6 | with_reducible exact cst7 | with_reducible exact cst8 | with_reducible exact cst14 | with_reducible exact cst15 | with_reducible exact cst25 | with_reducible exact cst30 | with_reducible exact cst31 | fail) ?_ ?_; · (repeat' (first | omega | refine And.intro ?_ ?_ | exact bnd_andl (by omega) | exact bnd_andr (by omega) | refine bnd_or ?_ ?_ | refine bnd_or31 ?_ ?_ | refine bnd_xor ?_ ?_ | refine bnd_xor31 ?_ ?_ | refine bnd_shr ?_ | refine bnd_shl ?_ ?_ | refine bnd_mod ?_ | refine bnd_andl ?_ | fail))) | (refine EqN.subN _ _ (by first | with_reducible rfl | with_reducible exact cst1 | with_reducible exact cst0 | with_reducible exact cst2 | with_reducible exact cst3 | with_reducible exact cst4 | with_reducible exact cst5 | with_reducible exact cst6 | with_reducible exact cst7 | with_reducible exact cst8 | with_reducible exact cst14 | with_reducible exact cst15 | with_reducible exact cst25 | with_reducible exact cst30 | with_reducible exact cst31 | fail) (by first | with_reducible rfl | with_reducible exact cst1 | with_reducible exact cst0 | with_reducible exact cst2 | with_reducible exact cst3 | with_reducible exact cst4 | with_reducible exact cst5 | with_reducible exact cst6 | with_reducible exact cst7 | with_reducible exact cst8 | with_reducible exact cst14 | with_reducible exact cst15 | with_reducible exact cst25 | with_reducible exact cst30 | with_reducible exact cst31 | fail) ?_ ?_; · (repeat' (first | omega | refine And.intro ?_ ?_ | exact bnd_andl (by omega) | exact bnd_andr (by omega) | refine bnd_or ?_ ?_ | refine bnd_or31 ?_ ?_ | refine bnd_xor ?_ ?_ | refine bnd_xor31 ?_ ?_ | refine bnd_shr ?_ | refine bnd_shl ?_ ?_ | refine bnd_mod ?_ | refine bnd_andl ?_ | fail))) | refine EqN.remN _ _ (by first | with_reducible rfl | with_reducible exact cst1 | with_reducible exact cst0 | with_reducible exact cst2 | with_reducible exact cst3 | with_reducible exact cst4 | with_reducible exact cst5 | with_reducible exact cst6 | with_reducible exact cst7 | with_reducible exact cst8 | with_reducible exact cst14 | with_reducible exact cst15 | with_reducible exact cst25 | with_reducible exact cst30 | with_reducible exact cst31 | fail) (by first | with_reducible rfl | with_reducible exact cst1 | with_reducible exact cst0 | with_reducible exact cst2 | with_reducible exact cst3 | with_reducible exact cst4 | with_reducible exact cst5 | with_reducible exact cst6 | with_reducible exact cst7 | with_reducible exact cst8 | with_reducible exact cst14 | with_reducible exact cst15 | with_reducible exact cst25 | with_reducible exact cst30 | with_reducible exact cst31 | fail) ?_ | fail) | (refine SideN.mk ?_ ?_; · first | kernel_rfl | omega | exact List.cons_ne_nil _ _ | (simp; done) | (simp; omega) | exact trivial | assumption | fail) | refine NatN.mk _ rfl ?_ | (refine CallD.id ?_; first | refine CallD.det _ (fun _ hq X => VDet.wk (join2_c 7 (gF S (S.length - 2)) (gF S (S.length - 1)) _) ⟨Wk.refl _, wk_sx _ _, trivial⟩) ?_ | fail) | refine SegN.nth 0 i rfl (by omega) (fun _ => rfl) ?_ | refine SegN.nth Fm.fa (S.length - 2) (by omega) (by omega) (fun _ => rfl) ?_ | refine SegN.nth Fm.fa (S.length - 1) (by omega) (by omega) (fun _ => rfl) ?_ | refine SubN.flat (lo := 0) (n := S.length - 2 - 0) (fun _ => rfl) (by omega) ?_ | refine OrN.l ?_ | refine SideN.mk ⟨Nat.le_of_ble_eq_true rfl, by rw [flat_length (sz := 4) (fun _ => rfl)]; simp; done, rfl, by dsimp only; omega, by simp only [maxLen]; omega⟩ ?_ | refine DrawN.mk' [] ?_ | fail))); all_goals (conv => whnf)
      · refine ⟨⟨i + 1, 2, _, _, _, ⟨by omega, by omega⟩, by omega, ⟨⟨_, rfl, Wk.refl _⟩, trivial⟩, ⟨⟨_, rfl, Wk.refl _⟩, ⟨_, rfl, Wk.refl _⟩, trivial⟩, rfl, rfl, ?_, ?_, by omega, rfl, rfl, ⟨_, rfl⟩, by simp [belowRE, below, tr], by simp [belowH, Blk.below, belowL, below], fms_below _ _⟩⟩
        all_goals rw [hS]; simp [stp, gF, Fm.cells, show 2 ≤ S.length by omega]; try omega
      · refine ⟨⟨i + 1, 1, _, _, _, ⟨by omega, by omega⟩, by omega, ⟨⟨_, rfl, Wk.refl _⟩, trivial⟩, ⟨⟨_, rfl, Wk.refl _⟩, ⟨_, rfl, Wk.refl _⟩, trivial⟩, rfl, rfl, ?_, ?_, by omega, rfl, rfl, ⟨_, rfl⟩, by simp [belowRE, below, tr], by simp [belowH, Blk.below, belowL, below], fms_below _ _⟩⟩
        all_goals rw [hS]; simp [stp, gF, Fm.cells, show ¬ 2 ≤ S.length by omega]; try omega
    · (repeat' ((conv => whnf); (first | (refine IfN.id ?_; first | refine IfN.tt rfl ?_ | refine IfN.ff rfl ?_ | refine IfN.dT (by omega) ?_ | refine IfN.dec (fun _ => ?_) (fun _ => ?_) | fail) | (refine EqN.id ?_; first | refine EqN.remC _ rfl rfl hc ?_ | (refine EqN.addN _ _ (by first | with_reducible rfl | with_reducible exact cst1 | with_reducible exact cst0 | with_reducible exact cst2 | with_reducible exact cst3 | with_reducible exact cst4 | with_reducible exact cst5 | with_reducible exact cst6 | with_reducible exact cst7 | with_reducible exact cst8 | with_reducible exact cst14 | with_reducible exact cst15 | with_reducible exact cst25 | with_reducible exact cst30 | with_reducible exact cst31 | fail) (by first | with_reducible rfl | with_reducible exact cst1 | with_reducible exact cst0 | with_reducible exact cst2 | with_reducible exact cst3 | with_reducible exact cst4 | with_reducible exact cst5 | with_reducible exact cst6 | with_reducible exact cst7 | with_reducible exact cst8 | with_reducible exact cst14 | with_reducible exact cst15 | with_reducible exact cst25 | with_reducible exact cst30 | with_reducible exact cst31 | fail) ?_ ?_; · (repeat' (first | omega | refine And.intro ?_ ?_ | exact bnd_andl (by omega) | exact bnd_andr (by omega) | refine bnd_or ?_ ?_ | refine bnd_or31 ?_ ?_ | refine bnd_xor ?_ ?_ | refine bnd_xor31 ?_ ?_ | refine bnd_shr ?_ | refine bnd_shl ?_ ?_ | refine bnd_mod ?_ | refine bnd_andl ?_ | fail))) | (refine EqN.subN _ _ (by first | with_reducible rfl | with_reducible exact cst1 | with_reducible exact cst0 | with_reducible exact cst2 | with_reducible exact cst3 | with_reducible exact cst4 | with_reducible exact cst5 | with_reducible exact cst6 | with_reducible exact cst7 | with_reducible exact cst8 | with_reducible exact cst14 | with_reducible exact cst15 | with_reducible exact cst25 | with_reducible exact cst30 | with_reducible exact cst31 | fail) (by first | with_reducible rfl | with_reducible exact cst1 | with_reducible exact cst0 | with_reducible exact cst2 | with_reducible exact cst3 | with_reducible exact cst4 | with_reducible exact cst5 | with_reducible exact cst6 | with_reducible exact cst7 | with_reducible exact cst8 | with_reducible exact cst14 | with_reducible exact cst15 | with_reducible exact cst25 | with_reducible exact cst30 | with_reducible exact cst31 | fail) ?_ ?_; · (repeat' (first | omega | refine And.intro ?_ ?_ | exact bnd_andl (by omega) | exact bnd_andr (by omega) | refine bnd_or ?_ ?_ | refine bnd_or31 ?_ ?_ | refine bnd_xor ?_ ?_ | refine bnd_xor31 ?_ ?_ | refine bnd_shr ?_ | refine bnd_shl ?_ ?_ | refine bnd_mod ?_ | refine bnd_andl ?_ | fail))) | refine EqN.remN _ _ (by first | with_reducible rfl | with_reducible exact cst1 | with_reducible exact cst0 | with_reducible exact cst2 | with_reducible exact cst3 | with_reducible exact cst4 | with_reducible exact cst5 | with_reducible exact cst6 | with_reducible exact cst7 | with_reducible exact cst8 | with_reducible exact cst14 | with_reducible exact cst15 | with_reducible exact cst25 | with_reducible exact cst30 | with_reducible exact cst31 | fail) (by first | with_reducible rfl | with_reducible exact cst1 | with_reducible exact cst0 | with_reducible exact cst2 | with_reducible exact cst3 | with_reducible exact cst4 | with_reducible exact cst5 | with_reducible exact cst6 | with_reducible exact cst7 | with_reducible exact cst8 | with_reducible exact cst14 | with_reducible exact cst15 | with_reducible exact cst25 | with_reducible exact cst30 | with_reducible exact cst31 | fail) ?_ | fail) | (refine SideN.mk ?_ ?_; · first | kernel_rfl | omega | exact List.cons_ne_nil _ _ | (simp; done) | (simp; omega) | exact trivial | assumption | fail) | refine NatN.mk _ rfl ?_ | (refine CallD.id ?_; first | refine CallD.det _ (fun _ hq X => VDet.wk (join1_c 12 (gF S (S.length - 1)) _) ⟨Wk.refl _, wk_sx _ _, trivial⟩) ?_ | fail) | refine SegN.nth 0 i rfl (by omega) (fun _ => rfl) ?_ | refine SegN.nth Fm.fa (S.length - 1) (by omega) (by omega) (fun _ => rfl) ?_ | refine SubN.flat (lo := 0) (n := S.length - 1 - 0) (fun _ => rfl) (by omega) ?_ | refine OrN.l ?_ | refine SideN.mk ⟨Nat.le_of_ble_eq_true rfl, by rw [flat_length (sz := 4) (fun _ => rfl)]; simp; done, rfl, by dsimp only; omega, by simp only [maxLen]; omega⟩ ?_ | refine DrawN.mk' [] ?_ | fail))); all_goals (conv => whnf)
      · refine ⟨⟨i + 1, 2, _, _, _, ⟨by omega, by omega⟩, by omega, ⟨⟨_, rfl, Wk.refl _⟩, trivial⟩, ⟨⟨_, rfl, Wk.refl _⟩, ⟨_, rfl, Wk.refl _⟩, trivial⟩, rfl, rfl, ?_, ?_, by omega, rfl, rfl, ⟨_, rfl⟩, by simp [belowRE, below, tr], by simp [belowH, Blk.below, belowL, below], fms_below _ _⟩⟩
        all_goals rw [hS]; simp [stp, gF, Fm.cells, show 1 ≤ S.length by omega]; try omega
      · refine ⟨⟨i + 1, 1, _, _, _, ⟨by omega, by omega⟩, by omega, ⟨⟨_, rfl, Wk.refl _⟩, trivial⟩, ⟨⟨_, rfl, Wk.refl _⟩, ⟨_, rfl, Wk.refl _⟩, trivial⟩, rfl, rfl, ?_, ?_, by omega, rfl, rfl, ⟨_, rfl⟩, by simp [belowRE, below, tr], by simp [belowH, Blk.below, belowL, below], fms_below _ _⟩⟩
        all_goals rw [hS]; simp [stp, gF, Fm.cells, show ¬ 1 ≤ S.length by omega]; try omega
    · (repeat' ((conv => whnf); (first | (refine IfN.id ?_; first | refine IfN.tt rfl ?_ | refine IfN.ff rfl ?_ | refine IfN.dT (by omega) ?_ | refine IfN.dec (fun _ => ?_) (fun _ => ?_) | fail) | (refine EqN.id ?_; first | refine EqN.remC _ rfl rfl hc ?_ | (refine EqN.addN _ _ (by first | with_reducible rfl | with_reducible exact cst1 | with_reducible exact cst0 | with_reducible exact cst2 | with_reducible exact cst3 | with_reducible exact cst4 | with_reducible exact cst5 | with_reducible exact cst6 | with_reducible exact cst7 | with_reducible exact cst8 | with_reducible exact cst14 | with_reducible exact cst15 | with_reducible exact cst25 | with_reducible exact cst30 | with_reducible exact cst31 | fail) (by first | with_reducible rfl | with_reducible exact cst1 | with_reducible exact cst0 | with_reducible exact cst2 | with_reducible exact cst3 | with_reducible exact cst4 | with_reducible exact cst5 | with_reducible exact cst6 | with_reducible exact cst7 | with_reducible exact cst8 | with_reducible exact cst14 | with_reducible exact cst15 | with_reducible exact cst25 | with_reducible exact cst30 | with_reducible exact cst31 | fail) ?_ ?_; · (repeat' (first | omega | refine And.intro ?_ ?_ | exact bnd_andl (by omega) | exact bnd_andr (by omega) | refine bnd_or ?_ ?_ | refine bnd_or31 ?_ ?_ | refine bnd_xor ?_ ?_ | refine bnd_xor31 ?_ ?_ | refine bnd_shr ?_ | refine bnd_shl ?_ ?_ | refine bnd_mod ?_ | refine bnd_andl ?_ | fail))) | (refine EqN.subN _ _ (by first | with_reducible rfl | with_reducible exact cst1 | with_reducible exact cst0 | with_reducible exact cst2 | with_reducible exact cst3 | with_reducible exact cst4 | with_reducible exact cst5 | with_reducible exact cst6 | with_reducible exact cst7 | with_reducible exact cst8 | with_reducible exact cst14 | with_reducible exact cst15 | with_reducible exact cst25 | with_reducible exact cst30 | with_reducible exact cst31 | fail) (by first | with_reducible rfl | with_reducible exact cst1 | with_reducible exact cst0 | with_reducible exact cst2 | with_reducible exact cst3 | with_reducible exact cst4 | with_reducible exact cst5 | with_reducible exact cst6 | with_reducible exact cst7 | with_reducible exact cst8 | with_reducible exact cst14 | with_reducible exact cst15 | with_reducible exact cst25 | with_reducible exact cst30 | with_reducible exact cst31 | fail) ?_ ?_; · (repeat' (first | omega | refine And.intro ?_ ?_ | exact bnd_andl (by omega) | exact bnd_andr (by omega) | refine bnd_or ?_ ?_ | refine bnd_or31 ?_ ?_ | refine bnd_xor ?_ ?_ | refine bnd_xor31 ?_ ?_ | refine bnd_shr ?_ | refine bnd_shl ?_ ?_ | refine bnd_mod ?_ | refine bnd_andl ?_ | fail))) | refine EqN.remN _ _ (by first | with_reducible rfl | with_reducible exact cst1 | with_reducible exact cst0 | with_reducible exact cst2 | with_reducible exact cst3 | with_reducible exact cst4 | with_reducible exact cst5 | with_reducible exact cst6 | with_reducible exact cst7 | with_reducible exact cst8 | with_reducible exact cst14 | with_reducible exact cst15 | with_reducible exact cst25 | with_reducible exact cst30 | with_reducible exact cst31 | fail) (by first | with_reducible rfl | with_reducible exact cst1 | with_reducible exact cst0 | with_reducible exact cst2 | with_reducible exact cst3 | with_reducible exact cst4 | with_reducible exact cst5 | with_reducible exact cst6 | with_reducible exact cst7 | with_reducible exact cst8 | with_reducible exact cst14 | with_reducible exact cst15 | with_reducible exact cst25 | with_reducible exact cst30 | with_reducible exact cst31 | fail) ?_ | fail) | (refine SideN.mk ?_ ?_; · first | kernel_rfl | omega | exact List.cons_ne_nil _ _ | (simp; done) | (simp; omega) | exact trivial | assumption | fail) | refine NatN.mk _ rfl ?_ | (refine CallD.id ?_; first | refine CallD.det _ (fun _ hq X => VDet.wk (join1_c 13 (gF S (S.length - 1)) _) ⟨Wk.refl _, wk_sx _ _, trivial⟩) ?_ | fail) | refine SegN.nth 0 i rfl (by omega) (fun _ => rfl) ?_ | refine SegN.nth Fm.fa (S.length - 1) (by omega) (by omega) (fun _ => rfl) ?_ | refine SubN.flat (lo := 0) (n := S.length - 1 - 0) (fun _ => rfl) (by omega) ?_ | refine OrN.l ?_ | refine SideN.mk ⟨Nat.le_of_ble_eq_true rfl, by rw [flat_length (sz := 4) (fun _ => rfl)]; simp; done, rfl, by dsimp only; omega, by simp only [maxLen]; omega⟩ ?_ | refine DrawN.mk' [] ?_ | fail))); all_goals (conv => whnf)
      · refine ⟨⟨i + 1, 2, _, _, _, ⟨by omega, by omega⟩, by omega, ⟨⟨_, rfl, Wk.refl _⟩, trivial⟩, ⟨⟨_, rfl, Wk.refl _⟩, ⟨_, rfl, Wk.refl _⟩, trivial⟩, rfl, rfl, ?_, ?_, by omega, rfl, rfl, ⟨_, rfl⟩, by simp [belowRE, below, tr], by simp [belowH, Blk.below, belowL, below], fms_below _ _⟩⟩
        all_goals rw [hS]; simp [stp, gF, Fm.cells, show 1 ≤ S.length by omega]; try omega
      · refine ⟨⟨i + 1, 1, _, _, _, ⟨by omega, by omega⟩, by omega, ⟨⟨_, rfl, Wk.refl _⟩, trivial⟩, ⟨⟨_, rfl, Wk.refl _⟩, ⟨_, rfl, Wk.refl _⟩, trivial⟩, rfl, rfl, ?_, ?_, by omega, rfl, rfl, ⟨_, rfl⟩, by simp [belowRE, below, tr], by simp [belowH, Blk.below, belowL, below], fms_below _ _⟩⟩
        all_goals rw [hS]; simp [stp, gF, Fm.cells, show ¬ 1 ≤ S.length by omega]; try omega
    · (repeat' ((conv => whnf); (first | (refine IfN.id ?_; first | refine IfN.tt rfl ?_ | refine IfN.ff rfl ?_ | refine IfN.dT (by omega) ?_ | refine IfN.dec (fun _ => ?_) (fun _ => ?_) | fail) | (refine EqN.id ?_; first | refine EqN.remC _ rfl rfl hc ?_ | (refine EqN.addN _ _ (by first | with_reducible rfl | with_reducible exact cst1 | with_reducible exact cst0 | with_reducible exact cst2 | with_reducible exact cst3 | with_reducible exact cst4 | with_reducible exact cst5 | with_reducible exact cst6 | with_reducible exact cst7 | with_reducible exact cst8 | with_reducible exact cst14 | with_reducible exact cst15 | with_reducible exact cst25 | with_reducible exact cst30 | with_reducible exact cst31 | fail) (by first | with_reducible rfl | with_reducible exact cst1 | with_reducible exact cst0 | with_reducible exact cst2 | with_reducible exact cst3 | with_reducible exact cst4 | with_reducible exact cst5 | with_reducible exact cst6 | with_reducible exact cst7 | with_reducible exact cst8 | with_reducible exact cst14 | with_reducible exact cst15 | with_reducible exact cst25 | with_reducible exact cst30 | with_reducible exact cst31 | fail) ?_ ?_; · (repeat' (first | omega | refine And.intro ?_ ?_ | exact bnd_andl (by omega) | exact bnd_andr (by omega) | refine bnd_or ?_ ?_ | refine bnd_or31 ?_ ?_ | refine bnd_xor ?_ ?_ | refine bnd_xor31 ?_ ?_ | refine bnd_shr ?_ | refine bnd_shl ?_ ?_ | refine bnd_mod ?_ | refine bnd_andl ?_ | fail))) | (refine EqN.subN _ _ (by first | with_reducible rfl | with_reducible exact cst1 | with_reducible exact cst0 | with_reducible exact cst2 | with_reducible exact cst3 | with_reducible exact cst4 | with_reducible exact cst5 | with_reducible exact cst6 | with_reducible exact cst7 | with_reducible exact cst8 | with_reducible exact cst14 | with_reducible exact cst15 | with_reducible exact cst25 | with_reducible exact cst30 | with_reducible exact cst31 | fail) (by first | with_reducible rfl | with_reducible exact cst1 | with_reducible exact cst0 | with_reducible exact cst2 | with_reducible exact cst3 | with_reducible exact cst4 | with_reducible exact cst5 | with_reducible exact cst6 | with_reducible exact cst7 | with_reducible exact cst8 | with_reducible exact cst14 | with_reducible exact cst15 | with_reducible exact cst25 | with_reducible exact cst30 | with_reducible exact cst31 | fail) ?_ ?_; · (repeat' (first | omega | refine And.intro ?_ ?_ | exact bnd_andl (by omega) | exact bnd_andr (by omega) | refine bnd_or ?_ ?_ | refine bnd_or31 ?_ ?_ | refine bnd_xor ?_ ?_ | refine bnd_xor31 ?_ ?_ | refine bnd_shr ?_ | refine bnd_shl ?_ ?_ | refine bnd_mod ?_ | refine bnd_andl ?_ | fail))) | fail) | (refine SideN.mk ?_ ?_; · first | kernel_rfl | omega | exact List.cons_ne_nil _ _ | (simp; done) | (simp; omega) | exact trivial | assumption | fail) | refine NatN.mk _ rfl ?_ | (refine CallD.id ?_; first | refine CallD.det _ (fun _ hq X => VDet.wk (join2_c 14 (gF S (S.length - 2)) (gF S (S.length - 1)) _) ⟨Wk.refl _, wk_sx _ _, trivial⟩) ?_ | fail) | refine SegN.nth 0 i rfl (by omega) (fun _ => rfl) ?_ | refine SegN.nth Fm.fa (S.length - 2) (by omega) (by omega) (fun _ => rfl) ?_ | refine SegN.nth Fm.fa (S.length - 1) (by omega) (by omega) (fun _ => rfl) ?_ | refine SubN.flat (lo := 0) (n := S.length - 2 - 0) (fun _ => rfl) (by omega) ?_ | refine OrN.l ?_ | refine SideN.mk ⟨Nat.le_of_ble_eq_true rfl, by rw [flat_length (sz := 4) (fun _ => rfl)]; simp; done, rfl, by dsimp only; omega, by simp only [maxLen]; omega⟩ ?_ | refine DrawN.mk' [] ?_ | fail))); all_goals (conv => whnf)
      · refine ⟨⟨i + 1, 2, _, _, _, ⟨by omega, by omega⟩, by omega, ⟨⟨_, rfl, Wk.refl _⟩, trivial⟩, ⟨⟨_, rfl, Wk.refl _⟩, ⟨_, rfl, Wk.refl _⟩, trivial⟩, rfl, rfl, ?_, ?_, by omega, rfl, rfl, ⟨_, rfl⟩, by simp [belowRE, below, tr], by simp [belowH, Blk.below, belowL, below], fms_below _ _⟩⟩
        all_goals rw [hS]; simp [stp, gF, Fm.cells, show 2 ≤ S.length by omega]; try omega
      · refine ⟨⟨i + 1, 1, _, _, _, ⟨by omega, by omega⟩, by omega, ⟨⟨_, rfl, Wk.refl _⟩, trivial⟩, ⟨⟨_, rfl, Wk.refl _⟩, ⟨_, rfl, Wk.refl _⟩, trivial⟩, rfl, rfl, ?_, ?_, by omega, rfl, rfl, ⟨_, rfl⟩, by simp [belowRE, below, tr], by simp [belowH, Blk.below, belowL, below], fms_below _ _⟩⟩
        all_goals rw [hS]; simp [stp, gF, Fm.cells, show ¬ 2 ≤ S.length by omega]; try omega
  · have hfin : bst (l.take i) = bst (l.take 20) := by
      by_cases h : l.length ≤ 20
      · rw [List.take_of_length_le h, List.take_of_length_le (show l.length ≤ i by omega)]
      · rw [show i = 20 by omega]
    unfold bltF
    rw [← hfin]
    generalize bst (l.take i) = S at hn ⊢
    by_cases hS : S.length = 0
    · have hfe : finF S = .fa := by unfold finF; rw [if_pos hS]
      rw [hfe]
      (repeat' ((conv => whnf); (first | (refine IfN.id ?_; first | refine IfN.dT (by omega) ?_ | refine IfN.dF (by omega) ?_ | refine IfN.dec (fun _ => ?_) (fun _ => ?_) | fail) | (refine CallN.id ?_; first | refine CallN.det _ (VDet.wk (join0_c _) ⟨Wk.refl _, wk_nils, trivial⟩) ?_ | fail) | refine DrawN.mk' [] ?_ | fail))); all_goals (conv => whnf)
      all_goals exact EndN.det (by simp [Fm.cells, below, belowL, Fm.sc_below]) (Wk.refl _)
    · have hfe : finF S = orN S (S.length - 1) := by unfold finF; rw [if_neg hS]
      rw [hfe]
      (repeat' ((conv => whnf); (first | (refine IfN.id ?_; first | refine IfN.dF (by omega) ?_ | refine IfN.dec (fun _ => ?_) (fun _ => ?_) | fail) | (refine SideN.mk ?_ ?_; · first | kernel_rfl | omega | exact List.cons_ne_nil _ _ | (simp; done) | (simp; omega) | exact trivial | assumption | fail) | refine SegN.nth Fm.fa 0 rfl (by omega) (fun _ => rfl) ?_ | refine DrawN.mk' [] ?_ | fail))); all_goals (conv => whnf)
      all_goals
        refine loop_R Tryd.E0 Tryd.mx (σ := Nat) (fun j => j + 1 ≤ S.length) (fun j => S.length - j) (fun j => [(8, .v (.int .i64 (j + 1 : Nat)))]) (fun j => [.box 35 [.int .u8 0, .str .empty, .nils, .nils], .tok 35 4 (S.flatMap Fm.cells).length, .box 35 [.int .u8 (orN S j).op, .str (orN S j).nmB, .sl none 0 [], .sl none (orN S j).sn (orN S j).sc]]) _ 0 rfl hcl [2, 3, 7] rfl (by omega) ⟨⟨_, rfl, Wk.refl _⟩, trivial⟩ rfl (fun _ _ => rfl) ?_
        intro j hj
        (repeat' ((conv => whnf); (first | (refine IfN.id ?_; first | refine IfN.dec (fun _ => ?_) (fun _ => ?_) | fail) | (refine EqN.id ?_; first | (refine EqN.addN _ _ (by first | with_reducible rfl | with_reducible exact cst1 | with_reducible exact cst0 | with_reducible exact cst2 | with_reducible exact cst3 | with_reducible exact cst4 | with_reducible exact cst5 | with_reducible exact cst6 | with_reducible exact cst7 | with_reducible exact cst8 | with_reducible exact cst14 | with_reducible exact cst15 | with_reducible exact cst25 | with_reducible exact cst30 | with_reducible exact cst31 | fail) (by first | with_reducible rfl | with_reducible exact cst1 | with_reducible exact cst0 | with_reducible exact cst2 | with_reducible exact cst3 | with_reducible exact cst4 | with_reducible exact cst5 | with_reducible exact cst6 | with_reducible exact cst7 | with_reducible exact cst8 | with_reducible exact cst14 | with_reducible exact cst15 | with_reducible exact cst25 | with_reducible exact cst30 | with_reducible exact cst31 | fail) ?_ ?_; · (repeat' (first | omega | refine And.intro ?_ ?_ | exact bnd_andl (by omega) | exact bnd_andr (by omega) | refine bnd_or ?_ ?_ | refine bnd_or31 ?_ ?_ | refine bnd_xor ?_ ?_ | refine bnd_xor31 ?_ ?_ | refine bnd_shr ?_ | refine bnd_shl ?_ ?_ | refine bnd_mod ?_ | refine bnd_andl ?_ | fail))) | fail) | (refine SideN.mk ?_ ?_; · first | kernel_rfl | omega | exact List.cons_ne_nil _ _ | (simp; done) | (simp; omega) | exact trivial | assumption | fail) | (refine CallD.id ?_; first | refine CallD.det _ (fun _ hq X => VDet.wk (join2_c 5 (orN S j) (gF S (j + 1)) _) ⟨Wk.refl _, wk_sx _ _, trivial⟩) ?_ | fail) | refine SegN.nth Fm.fa (j + 1) rfl (by omega) (fun _ => rfl) ?_ | refine DrawN.mk' [] ?_ | fail))); all_goals (conv => whnf)
        · (refine ⟨⟨j + 1, by omega, by omega, ?_, .inl ⟨rfl, rfl⟩, rfl, _, rfl, ?_⟩⟩; rotate_left 1; (first | exact .inl rfl | exact .inr ⟨by simp [belowRE, below, belowL, tr, encB_below, fms_below, Fm.sc_below], by simp [belowH, Blk.below, belowL, below, encB_below, fms_below, Fm.sc_below]⟩ | fail); (repeat' (first | exact trivial | refine ⟨⟨_, rfl, ?_⟩, ?_⟩ | fail)); all_goals try (first | exact Wk.refl _ | exact Wk.of_eq (congrArg (AV.int _) (by omega)) | fail))
        · have hje : S.length - 1 = j := by omega
          rw [hje]
          exact EndN.det (by simp [Fm.cells, below, belowL, Fm.sc_below]) (Wk.refl _)
end Go.Proofs.YtjflngchbeegcaaDoor
/-! text K14 -/
namespace Go.Proofs.YtjflngchbeegcaaDoor
open Go.Vsi

/-! ### what Built makes is a temporal formula of P, Q and R, and small -/
def Fm.pqr : Fm → Prop
  | .at c => c = 80 ∨ c = 81 ∨ c = 82
  | .fa => True
  | .f1 _ a => a.pqr
  | .f2 _ a b => a.pqr ∧ b.pqr
structure Fm.Good (f : Fm) : Prop where
  ok : f.Ok
  temp : f.Temp
  pqr : f.pqr
def sumN : List Fm → Nat
  | [] => 0
  | f :: l => f.nodes + sumN l
theorem sumN_append : ∀ a b : List Fm, sumN (a ++ b) = sumN a + sumN b
  | [], b => by simp [sumN]
  | f :: a, b => by simp only [List.cons_append, sumN, sumN_append a b]; omega
theorem last1 (S : List Fm) (h : 1 ≤ S.length) : S.take (S.length - 1) ++ [gF S (S.length - 1)] = S := by
  have := List.take_add_one (l := S) (i := S.length - 1)
  rw [show S.length - 1 + 1 = S.length by omega, List.take_length] at this
  rw [show ([gF S (S.length - 1)] : List Fm) = S[S.length - 1]?.toList by simp [gF, List.getD, show S.length - 1 < S.length by omega]]
  exact this.symm
theorem last2 (S : List Fm) (h : 2 ≤ S.length) : S.take (S.length - 2) ++ [gF S (S.length - 2), gF S (S.length - 1)] = S := by
  have h1 := last1 S (by omega)
  have h2 := List.take_add_one (l := S) (i := S.length - 2)
  rw [show S.length - 2 + 1 = S.length - 1 by omega] at h2
  rw [show ([gF S (S.length - 2), gF S (S.length - 1)] : List Fm) = S[S.length - 2]?.toList ++ [gF S (S.length - 1)] by simp [gF, List.getD, show S.length - 2 < S.length by omega], ← List.append_assoc, ← h2]
  exact h1
theorem gF_mem (S : List Fm) (i : Nat) (h : i < S.length) : gF S i ∈ S := by
  rw [show gF S i = S[i] by simp [gF, List.getD, h]]; exact List.getElem_mem _
structure StOk (S : List Fm) (m : Nat) : Prop where
  all : ∀ f ∈ S, f.Good
  sum : sumN S ≤ m
theorem StOk.g1 {S : List Fm} {m : Nat} (h : StOk S m) (h1 : 1 ≤ S.length) : (∀ f ∈ S.take (S.length - 1), f.Good) ∧ (gF S (S.length - 1)).Good ∧ sumN (S.take (S.length - 1)) + (gF S (S.length - 1)).nodes ≤ m := by
  have e := last1 S h1
  refine ⟨fun f hf => h.all f (List.mem_of_mem_take hf), h.all _ (gF_mem _ _ (by omega)), ?_⟩
  have := h.sum
  rw [← e, sumN_append] at this
  simpa [sumN, e] using this
theorem StOk.g2 {S : List Fm} {m : Nat} (h : StOk S m) (h1 : 2 ≤ S.length) : (∀ f ∈ S.take (S.length - 2), f.Good) ∧ (gF S (S.length - 2)).Good ∧ (gF S (S.length - 1)).Good ∧ sumN (S.take (S.length - 2)) + (gF S (S.length - 2)).nodes + (gF S (S.length - 1)).nodes ≤ m := by
  have e := last2 S h1
  have q1 : gF S (S.length - 2) ∈ S := by rw [show gF S (S.length - 2) = S[S.length - 2] by simp [gF, List.getD, show S.length - 2 < S.length by omega]]; exact List.getElem_mem _
  have q2 : gF S (S.length - 1) ∈ S := by rw [show gF S (S.length - 1) = S[S.length - 1] by simp [gF, List.getD, show S.length - 1 < S.length by omega]]; exact List.getElem_mem _
  refine ⟨fun f hf => h.all f (List.mem_of_mem_take hf), h.all _ q1, h.all _ q2, ?_⟩
  have e2 : sumN S = sumN (S.take (S.length - 2)) + sumN [gF S (S.length - 2), gF S (S.length - 1)] := by rw [← sumN_append, e]
  have := h.sum
  simp only [sumN] at e2
  omega
theorem stok_snoc {S : List Fm} {f : Fm} {m : Nat} (h : ∀ g ∈ S, g.Good) (hf : f.Good) (hs : sumN S + f.nodes ≤ m) : StOk (S ++ [f]) m :=
  ⟨fun g hg => by
    rcases List.mem_append.1 hg with hg | hg
    · exact h g hg
    · simp only [List.mem_singleton] at hg; exact hg ▸ hf, by rw [sumN_append]; simpa [sumN] using hs⟩
theorem good_at (c : UInt8) (h : c = 80 ∨ c = 81 ∨ c = 82) : (Fm.at c).Good := ⟨by
  rcases h with rfl | rfl | rfl
  · exact (⟨by decide, by decide⟩ : cap 80)
  · exact (⟨by decide, by decide⟩ : cap 81)
  · exact (⟨by decide, by decide⟩ : cap 82), trivial, h⟩
theorem good_fa : Fm.fa.Good := ⟨trivial, trivial, trivial⟩
theorem good_1 {a : Fm} (ha : a.Good) (k : Nat) (hk : k = 3 ∨ k = 12 ∨ k = 13) : (Fm.f1 k a).Good := ⟨⟨by unfold is1; omega, ha.ok⟩, ⟨hk, ha.temp⟩, ha.pqr⟩
theorem good_2 {a b : Fm} (ha : a.Good) (hb : b.Good) (k : Nat) (hk : k = 4 ∨ k = 5 ∨ k = 6 ∨ k = 7 ∨ k = 14) : (Fm.f2 k a b).Good := ⟨⟨hk, ha.ok, hb.ok⟩, ⟨hk, ha.temp, hb.temp⟩, ⟨ha.pqr, hb.pqr⟩⟩
theorem StOk.mono {S : List Fm} {m n : Nat} (h : StOk S m) (hmn : m ≤ n) : StOk S n := ⟨h.all, Nat.le_trans h.sum hmn⟩
theorem stp_ok {S : List Fm} {m : Nat} (h : StOk S m) (b : Nat) : StOk (stp S b) (m + 1) := by
  have hs := h.sum
  have one : ∀ k, (k = 3 ∨ k = 12 ∨ k = 13) → 1 ≤ S.length → StOk (S.take (S.length - 1) ++ [.f1 k (gF S (S.length - 1))]) (m + 1) := fun k hk h1 => by
    obtain ⟨q1, q2, q3⟩ := h.g1 h1
    exact stok_snoc q1 (good_1 q2 k hk) (by simp only [Fm.nodes]; omega)
  have two : ∀ k, (k = 4 ∨ k = 5 ∨ k = 6 ∨ k = 7 ∨ k = 14) → 2 ≤ S.length → StOk (S.take (S.length - 2) ++ [.f2 k (gF S (S.length - 2)) (gF S (S.length - 1))]) (m + 1) := fun k hk h1 => by
    obtain ⟨q1, q2, q3, q4⟩ := h.g2 h1
    exact stok_snoc q1 (good_2 q2 q3 k hk) (by simp only [Fm.nodes]; omega)
  unfold stp
  split
  · exact stok_snoc h.all (good_at 80 (.inl rfl)) (by simp only [Fm.nodes]; omega)
  · exact stok_snoc h.all (good_at 81 (.inr (.inl rfl))) (by simp only [Fm.nodes]; omega)
  · exact stok_snoc h.all (good_at 82 (.inr (.inr rfl))) (by simp only [Fm.nodes]; omega)
  · exact stok_snoc h.all good_fa (by simp only [Fm.nodes]; omega)
  all_goals try split
  all_goals first
    | exact one _ (by omega) (by assumption)
    | exact two _ (by omega) (by assumption)
    | exact h.mono (by omega)
theorem bst_ok (l : List Nat) : ∀ k, StOk (bst (l.take k)) k
  | 0 => ⟨fun f hf => by simp [bst] at hf, by simp [bst, sumN]⟩
  | k + 1 => by
    by_cases h : k < l.length
    · rw [bst_succ l k h]; exact stp_ok (bst_ok l k) _
    · have := bst_ok l k
      rw [List.take_of_length_le (by omega)] at this ⊢
      exact this.mono (by omega)
theorem sum_take (S : List Fm) (i : Nat) (h : i < S.length) : sumN (S.take (i + 1)) = sumN (S.take i) + (gF S i).nodes := by
  rw [List.take_add_one, sumN_append, show S[i]?.toList = [gF S i] by simp [gF, List.getD, h]]
  simp [sumN]
theorem sum_le (S : List Fm) (i : Nat) : sumN (S.take i) ≤ sumN S := by
  have := sumN_append (S.take i) (S.drop i)
  rw [List.take_append_drop] at this
  omega
theorem orN_ok {S : List Fm} {m : Nat} (h : StOk S m) : ∀ j, j < S.length → (orN S j).Good ∧ (orN S j).nodes ≤ sumN (S.take (j + 1)) + j
  | 0, hj => ⟨h.all _ (gF_mem S 0 hj), by rw [sum_take S 0 hj]; simp [orN, sumN]⟩
  | j + 1, hj => by
    obtain ⟨i1, i2⟩ := orN_ok h j (by omega)
    refine ⟨good_2 i1 (h.all _ (gF_mem S (j + 1) hj)) 5 (by omega), ?_⟩
    rw [sum_take S (j + 1) hj]
    simp only [orN, Fm.nodes]
    omega
theorem blt_ok (l : List Nat) : (bltF l).Good ∧ (bltF l).nodes ≤ 39 := by
  have h := bst_ok l 20
  have hl := bst_len l 20
  unfold bltF finF
  split
  · exact ⟨good_fa, by simp [Fm.nodes]⟩
  · rename_i hn
    obtain ⟨q1, q2⟩ := orN_ok h _ (show (bst (l.take 20)).length - 1 < (bst (l.take 20)).length by omega)
    refine ⟨q1, ?_⟩
    have := sum_le (bst (l.take 20)) ((bst (l.take 20)).length - 1 + 1)
    have := h.sum
    omega
/-- traces with the Facts P, Q and R -/
theorem miss_pqr (n lp a b c : Nat) : ∀ f : Fm, f.pqr → miss ⟨n, lp, [(80, a), (81, b), (82, c)]⟩ f = false
  | .at c', h => by
    simp only [Fm.pqr] at h
    rcases h with rfl | rfl | rfl <;> rfl
  | .fa, _ => rfl
  | .f1 _ x, h => miss_pqr n lp a b c x h
  | .f2 _ x y, h => by
    simp only [miss, miss_pqr n lp a b c x h.1, miss_pqr n lp a b c y h.2, Bool.or_self]
theorem fnd_none_tk (c : UInt8) (old : List Nat) : ∀ l : List (UInt8 × Nat), (fnd c (l.map (tkF old))).isNone = (fnd c l).isNone
  | [] => rfl
  | p :: l => by
    simp only [List.map_cons, fnd, tkF]
    cases c == p.1 with
    | true => rfl
    | false => exact fnd_none_tk c old l
theorem miss_taken (t : Tr) (old : List Nat) (lp : Nat) : ∀ f : Fm, miss (takenT t old lp) f = miss t f
  | .at c => fnd_none_tk c old t.fs
  | .fa => rfl
  | .f1 _ a => miss_taken t old lp a
  | .f2 _ a b => by simp only [miss, miss_taken t old lp a, miss_taken t old lp b]
end Go.Proofs.YtjflngchbeegcaaDoor
