/- A text of the proof: the parts WA02z, WB02z, WC02z, UE02z, UF02z, XB02z, DY02z. -/
import Derived.ProofKit
import Derived.LaidMore
import Derived.OpenShut
import Derived.Test.YtejegcmnddedmaaGreatDoorK8
set_option linter.unusedSimpArgs false
set_option linter.unusedVariables false
/-! text WA02z -/
namespace Go.Proofs.YtejegcmnddedmaaGreatDoor
open Go.Vsi
set_option maxHeartbeats 4000000


/-! ### syntax.Schema in general: names -/
def preQ (s : ByteArray) : Bool := decide (1 ≤ s.size) && ((s.extract 0 1).toList == (⟨#[63]⟩ : ByteArray).toList)
def isFM (s : ByteArray) : Bool := decide (s.size ≤ 16) && (preQ s && isPred (s.extract 1 s.size))
def isTM (s : ByteArray) : Bool := decide (s.size ≤ 16) && (preQ s && isFun (s.extract 1 s.size))
def instOk (l : List Tm) : Bool := match l with
  | [.mk v s _, .mk w t _] => v && (isVar s && (w && isTM t))
  | _ => false
def nameK (k : Nat) (s : ByteArray) : Bool := if k = 3 then isFM s else nameOk k s
theorem rowK_ok : ∀ op, op < 17 → ((rowsL.getD op row0).1 || (rowsL.getD op row0).2.1) = true → (rowN op = 0 ∨ rowN op = 1 ∨ rowN op = 2 ∨ rowN op = 3) ∧ rowA op ≤ 4 ∧ rowS op ≤ 2 := by decide
def rowJ (op : Nat) : Bool := (rowsL.getD op row0).1 || (rowsL.getD op row0).2.1
theorem rowJ_sch : ∀ op, op < 17 → (rowsL.getD op row0).2.1 = ((rowsL.getD op row0).1 || (rowsL.getD op row0).2.1) := by decide
/-! terms, formulas -/
def kB (L : Int) : Blk := .box 60 [.bool true, .int .i64 L, .int .i64 40]
theorem kB_below (L : Int) (n : Nat) : (kB L).below n := by simp [kB, Blk.below, belowL, below]
mutual
def kT (d : Nat) : Tm → Int → Int × Bool
  | .mk v s l, L => if ¬ (1 ≤ L ∧ d ≤ 40) then (L - 1, false) else if v then (L - 1, decide (l.length = 0) && (isVar s || isTM s)) else if l.length ≤ 4 ∧ isFun s = true then kTs (d + 1) l (L - 1) else (L - 1, false)
def kTs (d : Nat) : List Tm → Int → Int × Bool
  | [], L => (L, true)
  | x :: l, L => match kT d x L with
    | (M, true) => kTs d l M
    | (M, false) => (M, false)
end
mutual
theorem kT_bd (d : Nat) : ∀ (x : Tm) (L : Int), 0 ≤ L → -1 ≤ (kT d x L).1 ∧ (kT d x L).1 ≤ L ∧ ((kT d x L).2 = true → 0 ≤ (kT d x L).1)
  | .mk v s l, L, h => by
    unfold kT
    split
    · exact ⟨by simp only; omega, by simp only; omega, fun h => by cases h⟩
    · split
      · exact ⟨by simp only; omega, by simp only; omega, fun _ => by simp only; omega⟩
      · split
        · have := kTs_bd (d + 1) l (L - 1) (by omega)
          exact ⟨this.1, by omega, this.2.2⟩
        · exact ⟨by simp only; omega, by simp only; omega, fun h => by cases h⟩
theorem kTs_bd (d : Nat) : ∀ (l : List Tm) (L : Int), 0 ≤ L → -1 ≤ (kTs d l L).1 ∧ (kTs d l L).1 ≤ L ∧ ((kTs d l L).2 = true → 0 ≤ (kTs d l L).1)
  | [], L, h => by unfold kTs; exact ⟨by simp only; omega, by simp only; omega, fun _ => h⟩
  | x :: l, L, h => by
    have h1 := kT_bd d x L h
    unfold kTs
    split
    · rename_i M hM
      rw [hM] at h1
      have h2 := kTs_bd d l M (h1.2.2 rfl)
      exact ⟨h2.1, by have := h1.2.1; simp only at this; omega, h2.2.2⟩
    · rename_i M hM
      rw [hM] at h1
      exact ⟨h1.1, h1.2.1, fun h => by cases h⟩
end
theorem kTs_nil (d : Nat) (L : Int) : kTs d [] L = (L, true) := by unfold kTs; rfl
theorem kTs_cons (d : Nat) (x : Tm) (l : List Tm) (L : Int) : kTs d (x :: l) L = if (kT d x L).2 then kTs d l (kT d x L).1 else ((kT d x L).1, false) := by
  rw [kTs.eq_def]
  simp only
  split
  · rename_i M h; rw [h]; rfl
  · rename_i M h; rw [h]; rfl
mutual
def kF (d : Nat) : Fo → Int → Int × Bool
  | .mk op s l m, L => if ¬ (1 ≤ L ∧ d ≤ 40) ∨ 17 ≤ op then (L - 1, false) else if rowJ op = false then (L - 1, false) else if ¬ (nameK (rowN op) s = true ∧ l.length ≤ rowA op ∧ m.length = rowS op) then (L - 1, false) else if op = 16 ∧ instOk l = false then (L - 1, false) else
    if (kTs (d + 1) l (L - 1)).2 then kFs (d + 1) m (kTs (d + 1) l (L - 1)).1 else ((kTs (d + 1) l (L - 1)).1, false)
def kFs (d : Nat) : List Fo → Int → Int × Bool
  | [], L => (L, true)
  | x :: l, L => if (kF d x L).2 then kFs d l (kF d x L).1 else ((kF d x L).1, false)
end
theorem kFs_nil (d : Nat) (L : Int) : kFs d [] L = (L, true) := by unfold kFs; rfl
theorem kFs_cons (d : Nat) (x : Fo) (l : List Fo) (L : Int) : kFs d (x :: l) L = if (kF d x L).2 then kFs d l (kF d x L).1 else ((kF d x L).1, false) := by rw [kFs.eq_def]
mutual
theorem kF_bd (d : Nat) : ∀ (x : Fo) (L : Int), 0 ≤ L → -1 ≤ (kF d x L).1 ∧ (kF d x L).1 ≤ L ∧ ((kF d x L).2 = true → 0 ≤ (kF d x L).1)
  | .mk op s l m, L, h => by
    unfold kF
    split
    · exact ⟨by simp only; omega, by simp only; omega, fun h => by cases h⟩
    · rename_i h1
      split
      · exact ⟨by simp only; omega, by simp only; omega, fun h => by cases h⟩
      · split
        · exact ⟨by simp only; omega, by simp only; omega, fun h => by cases h⟩
        · split
          · exact ⟨by simp only; omega, by simp only; omega, fun h => by cases h⟩
          · have ht := kTs_bd (d + 1) l (L - 1) (by omega)
            split
            · rename_i hb
              have := kFs_bd (d + 1) m _ (ht.2.2 hb)
              exact ⟨this.1, by omega, this.2.2⟩
            · exact ⟨ht.1, by simp only; omega, fun h => by cases h⟩
theorem kFs_bd (d : Nat) : ∀ (l : List Fo) (L : Int), 0 ≤ L → -1 ≤ (kFs d l L).1 ∧ (kFs d l L).1 ≤ L ∧ ((kFs d l L).2 = true → 0 ≤ (kFs d l L).1)
  | [], L, h => by rw [kFs_nil]; exact ⟨by simp only; omega, by simp only; omega, fun _ => h⟩
  | x :: l, L, h => by
    have h1 := kF_bd d x L h
    rw [kFs_cons]
    split
    · rename_i hb
      have h2 := kFs_bd d l _ (h1.2.2 hb)
      exact ⟨h2.1, by omega, h2.2.2⟩
    · exact ⟨h1.1, h1.2.1, fun h => by cases h⟩
end
attribute [local irreducible] VW VCall VO bits
theorem pre89_g (s : ByteArray) (hs : s.size ≤ 9223372036854775807) (H : Heap) : VDet Tryz.prog 99 [.str s, .str ⟨#[63]⟩] H (.bool (preQ s)) := by
  unfold preQ
  by_cases h : 1 ≤ s.size
  · rw [decide_eq_true h]
    have k1 : ((⟨#[63]⟩ : ByteArray).size : Int) ≤ (s.size : Int) := by show (1 : Int) ≤ _; omega
    refine fn_det Tryz.E0 Tryz.mx Tryz.func99 (by kernel_rfl) rfl (Nat.le_of_ble_eq_true rfl) rfl fun hcl hbl => ?_
    (repeat' ((conv => whnf); (first | (refine IfN.id ?_; first | refine IfN.dT k1 ?_ | fail) | (refine SideN.mk ?_ ?_; · first | kernel_rfl | omega | exact List.cons_ne_nil _ _ | (simp; done) | (simp; omega) | exact trivial | assumption | fail) | refine NatN.mk _ rfl ?_ | refine DrawN.mk' [] ?_ | fail))); all_goals (conv => whnf)
    exact EndN.det trivial (Wk.refl _)
  · rw [decide_eq_false h]
    have k1 : ¬ ((⟨#[63]⟩ : ByteArray).size : Int) ≤ (s.size : Int) := by show ¬ (1 : Int) ≤ _; omega
    refine fn_det Tryz.E0 Tryz.mx Tryz.func99 (by kernel_rfl) rfl (Nat.le_of_ble_eq_true rfl) rfl fun hcl hbl => ?_
    (repeat' ((conv => whnf); (first | (refine IfN.id ?_; first | refine IfN.dF k1 ?_ | fail) | refine DrawN.mk' [] ?_ | fail))); all_goals (conv => whnf)
    exact EndN.det trivial (Wk.refl _)
theorem pre81_g (s : ByteArray) (hs : s.size ≤ 9223372036854775807) (H : Heap) : VDet Tryz.prog 91 [.str s, .str ⟨#[63]⟩] H (.bool (preQ s)) := by
  have h := pre89_g s hs
  generalize preQ s = r at *
  refine fn_det Tryz.E0 Tryz.mx Tryz.func91 (by kernel_rfl) rfl (Nat.le_of_ble_eq_true rfl) rfl fun hcl hbl => ?_
  (repeat' ((conv => whnf); (first | (refine CallN.id ?_; first | refine CallN.det _ (h _) ?_ | fail) | refine DrawN.mk' [] ?_ | fail))); all_goals (conv => whnf)
  exact EndN.det trivial (Wk.refl _)
theorem ext_size (s : ByteArray) : (s.extract 1 s.size).size ≤ s.size := by simp
theorem preQ_size {s : ByteArray} (h : preQ s = true) : 1 ≤ s.size := by
  unfold preQ at h
  simp only [Bool.and_eq_true, decide_eq_true_eq] at h
  exact h.1
theorem fmeta_g (s : ByteArray) (hs : s.size ≤ 9223372036854775807) (H : Heap) : VDet Tryz.prog 68 [.str s] H (.bool (isFM s)) := by
  have h1 := pre81_g s hs
  have h2 := predicate_g (s.extract 1 s.size) (Nat.le_trans (ext_size s) hs)
  have h3 := @preQ_size s
  unfold isFM
  generalize isPred (s.extract 1 s.size) = p at *
  generalize preQ s = q at *
  by_cases h : s.size ≤ 16
  · rw [decide_eq_true h]
    cases q with
    | true =>
      have h4 := h3 rfl
      refine fn_det Tryz.E0 Tryz.mx Tryz.func68 (by kernel_rfl) rfl (Nat.le_of_ble_eq_true rfl) rfl fun hcl hbl => ?_
      (repeat' ((conv => whnf); (first | (refine IfN.id ?_; first | refine IfN.tt rfl ?_ | refine IfN.dT (by omega) ?_ | fail) | (refine SideN.mk ?_ ?_; · first | kernel_rfl | omega | exact List.cons_ne_nil _ _ | (simp; done) | (simp; omega) | exact trivial | assumption | fail) | refine NatN.mk _ rfl ?_ | (refine CallN.id ?_; first | refine CallN.det _ (h1 _) ?_ | refine CallN.det _ (h2 _) ?_ | fail) | refine DrawN.mk' [] ?_ | fail))); all_goals (conv => whnf)
      exact EndN.det trivial (Wk.refl _)
    | false =>
      refine fn_det Tryz.E0 Tryz.mx Tryz.func68 (by kernel_rfl) rfl (Nat.le_of_ble_eq_true rfl) rfl fun hcl hbl => ?_
      (repeat' ((conv => whnf); (first | (refine IfN.id ?_; first | refine IfN.ff rfl ?_ | refine IfN.dT (by omega) ?_ | fail) | (refine CallN.id ?_; first | refine CallN.det _ (h1 _) ?_ | fail) | refine DrawN.mk' [] ?_ | fail))); all_goals (conv => whnf)
      exact EndN.det trivial (Wk.refl _)
  · rw [decide_eq_false h]
    refine fn_det Tryz.E0 Tryz.mx Tryz.func68 (by kernel_rfl) rfl (Nat.le_of_ble_eq_true rfl) rfl fun hcl hbl => ?_
    (repeat' ((conv => whnf); (first | (refine IfN.id ?_; first | refine IfN.dF (by omega) ?_ | fail) | refine DrawN.mk' [] ?_ | fail))); all_goals (conv => whnf)
    exact EndN.det trivial (Wk.refl _)
theorem tmeta_g (s : ByteArray) (hs : s.size ≤ 9223372036854775807) (H : Heap) : VDet Tryz.prog 69 [.str s] H (.bool (isTM s)) := by
  have h1 := pre81_g s hs
  have h2 := function_g (s.extract 1 s.size) (Nat.le_trans (ext_size s) hs)
  have h3 := @preQ_size s
  unfold isTM
  generalize isFun (s.extract 1 s.size) = p at *
  generalize preQ s = q at *
  by_cases h : s.size ≤ 16
  · rw [decide_eq_true h]
    cases q with
    | true =>
      have h4 := h3 rfl
      refine fn_det Tryz.E0 Tryz.mx Tryz.func69 (by kernel_rfl) rfl (Nat.le_of_ble_eq_true rfl) rfl fun hcl hbl => ?_
      (repeat' ((conv => whnf); (first | (refine IfN.id ?_; first | refine IfN.tt rfl ?_ | refine IfN.dT (by omega) ?_ | fail) | (refine SideN.mk ?_ ?_; · first | kernel_rfl | omega | exact List.cons_ne_nil _ _ | (simp; done) | (simp; omega) | exact trivial | assumption | fail) | refine NatN.mk _ rfl ?_ | (refine CallN.id ?_; first | refine CallN.det _ (h1 _) ?_ | refine CallN.det _ (h2 _) ?_ | fail) | refine DrawN.mk' [] ?_ | fail))); all_goals (conv => whnf)
      exact EndN.det trivial (Wk.refl _)
    | false =>
      refine fn_det Tryz.E0 Tryz.mx Tryz.func69 (by kernel_rfl) rfl (Nat.le_of_ble_eq_true rfl) rfl fun hcl hbl => ?_
      (repeat' ((conv => whnf); (first | (refine IfN.id ?_; first | refine IfN.ff rfl ?_ | refine IfN.dT (by omega) ?_ | fail) | (refine CallN.id ?_; first | refine CallN.det _ (h1 _) ?_ | fail) | refine DrawN.mk' [] ?_ | fail))); all_goals (conv => whnf)
      exact EndN.det trivial (Wk.refl _)
  · rw [decide_eq_false h]
    refine fn_det Tryz.E0 Tryz.mx Tryz.func69 (by kernel_rfl) rfl (Nat.le_of_ble_eq_true rfl) rfl fun hcl hbl => ?_
    (repeat' ((conv => whnf); (first | (refine IfN.id ?_; first | refine IfN.dF (by omega) ?_ | fail) | refine DrawN.mk' [] ?_ | fail))); all_goals (conv => whnf)
    exact EndN.det trivial (Wk.refl _)
theorem namedK_g (k : Nat) (hk : k = 0 ∨ k = 1 ∨ k = 2 ∨ k = 3) (s : ByteArray) (hs : s.size ≤ 9223372036854775807) (H : Heap) : VDet Tryz.prog 71 [.int .u8 k, .str s] H (.bool (nameK k s)) := by
  unfold nameK
  by_cases h3 : k = 3
  · subst h3
    have hf := fmeta_g s hs
    rw [if_pos rfl]
    generalize isFM s = r at *
    refine fn_det Tryz.E0 Tryz.mx Tryz.func71 (by kernel_rfl) rfl (Nat.le_of_ble_eq_true rfl) rfl fun hcl hbl => ?_
    (repeat' ((conv => whnf); (first | (refine IfN.id ?_; first | refine IfN.tt rfl ?_ | refine IfN.ff rfl ?_ | fail) | (refine CallN.id ?_; first | refine CallN.det _ (hf _) ?_ | fail) | refine DrawN.mk' [] ?_ | fail))); all_goals (conv => whnf)
    exact EndN.det trivial (Wk.refl _)
  · rw [if_neg h3]
    exact named_g k (by omega) s hs H
theorem nodeK_g (H : Heap) (i : Nat) (L : Int) (d : Nat) (hi : H[i]? = some (kB L)) (hL : 0 ≤ L ∧ L ≤ 400) (hd : d ≤ 41) : VCall Tryz.prog 70 [.ptr i 0, .int .i64 d] H (setR H i (kB (L - 1)) (.bool (decide (1 ≤ L ∧ d ≤ 40)))) := by
  unfold kB at hi ⊢
  by_cases h : 1 ≤ L ∧ d ≤ 40
  · rw [decide_eq_true h]
    refine fn_gen Tryz.E0 Tryz.mx Tryz.func70 (by kernel_rfl) rfl (Nat.le_of_ble_eq_true rfl) rfl fun hcl hbl => ?_
    (repeat' ((conv => whnf); (first | (refine IfN.id ?_; first | refine IfN.dT (by omega) ?_ | fail) | (refine EqN.id ?_; first | refine EqN.i64 (by omega) ?_ | fail) | refine SetN.mk _ rfl ?_ | (refine PtrN.id ?_; first | refine PtrN.base _ (by (repeat' (first | assumption | exact at_loc' _ rfl | exact at_loc0 rfl | refine at_set (B' := ?_) ?_ | refine at_base' ?_ | fail))) ?_ | fail) | refine DrawN.mk' [] ?_ | fail))); all_goals (conv => whnf)
    all_goals exact EndN.setB (by simp [Blk.below, belowL, below]) trivial (Wk.of_eq (by simp; try omega))
  · rw [decide_eq_false h]
    refine fn_gen Tryz.E0 Tryz.mx Tryz.func70 (by kernel_rfl) rfl (Nat.le_of_ble_eq_true rfl) rfl fun hcl hbl => ?_
    (repeat' ((conv => whnf); (first | (refine IfN.id ?_; first | refine IfN.dec (fun _ => ?_) (fun _ => ?_) | fail) | (refine EqN.id ?_; first | refine EqN.i64 (by omega) ?_ | fail) | refine SetN.mk _ rfl ?_ | (refine PtrN.id ?_; first | refine PtrN.base _ (by (repeat' (first | assumption | exact at_loc' _ rfl | exact at_loc0 rfl | refine at_set (B' := ?_) ?_ | refine at_base' ?_ | fail))) ?_ | fail) | refine DrawN.mk' [] ?_ | fail))); all_goals (conv => whnf)
    all_goals exact EndN.setB (by simp [Blk.below, belowL, below]) trivial (Wk.of_eq (by simp; try omega))
def TermK (x : Tm) : Prop := ∀ (H : Heap) (i : Nat) (L : Int) (d : Nat), H[i]? = some (kB L) → 0 ≤ L ∧ L ≤ 400 → d ≤ 41 → VCall Tryz.prog 93 [.ptr i 0, .agg x.cells, .int .i64 d] H (setR H i (kB (kT d x L).1) (.bool (kT d x L).2))
def TermsK (l : List Tm) : Prop := ∀ (H : Heap) (i : Nat) (L : Int) (d : Nat), H[i]? = some (kB L) → 0 ≤ L ∧ L ≤ 400 → d ≤ 41 → VCall Tryz.prog 73 [.ptr i 0, .sl none l.length (l.flatMap Tm.cells), .int .i64 d] H (setR H i (kB (kTs d l L).1) (.bool (kTs d l L).2))
theorem termsK_g (l : List Tm) (hlen : l.length ≤ 9223372036854775807) (hl : ∀ x ∈ l, TermK x) : TermsK l := by
  intro H i L d hi hL hd
  refine fn_gen Tryz.E0 Tryz.mx Tryz.func73 (by kernel_rfl) rfl (Nat.le_of_ble_eq_true rfl) rfl fun hcl hbl => ?_
  (repeat' ((conv => whnf); (first | refine DrawN.mk' [] ?_ | fail))); all_goals (conv => whnf)
  refine loop_B Tryz.E0 Tryz.mx (σ := Nat × Int) (fun p => p.1 ≤ l.length ∧ (0 ≤ p.2 ∧ p.2 ≤ 400) ∧ kTs d l L = kTs d (l.drop p.1) p.2) (fun p => l.length - p.1) (fun p => [(11, .v (.int .i64 p.1))]) (fun p => H.set i (kB p.2)) (fun _ => []) _ (0, L) (fun p _ => by simp) (fun p _ => closed_set hcl i _ (kB_below _ _)) [0, 2, 9, 10] rfl ⟨Nat.zero_le _, hL, rfl⟩ ⟨⟨_, rfl, Wk.refl _⟩, trivial⟩ (set_self hi).symm rfl (fun _ _ => rfl) ?_
  rintro ⟨k, M⟩ ⟨hk, hM, hj⟩
  simp only at hk hM hj
  have hN : (H.set i (kB M)).length = H.length := by simp
  by_cases hlt : k < l.length
  · have hmem := getD_memT l k (Tm.mk false .empty []) hlt
    rw [drop_getD l k (Tm.mk false .empty []) hlt] at hj
    have hx := fun X => hl _ hmem (H.set i (kB M) ++ X) i M d (at_base' (at_set hi)) hM hd
    have hbd := kT_bd d (l.getD k (Tm.mk false .empty [])) M hM.1
    rw [kTs_cons] at hj
    obtain ⟨v, s, ar, hxe⟩ : ∃ v s ar, l.getD k (Tm.mk false .empty []) = Tm.mk v s ar := by
      cases l.getD k (Tm.mk false .empty []) with
      | mk v s ar => exact ⟨v, s, ar, rfl⟩
    have hce : (l.getD k (Tm.mk false .empty [])).cells = [.bool v, .str s, .sl none ar.length (ar.flatMap Tm.cells)] := by rw [hxe, Tm.cells_mk]
    rw [hce] at hx
    generalize hr : kT d (l.getD k (Tm.mk false .empty [])) M = r at *
    obtain ⟨M', b⟩ := r
    simp only at hx hbd hj
    generalize hB2 : kB M' = B2 at *
    cases b with
    | true =>
      (repeat' ((conv => whnf); (first | (refine IfN.id ?_; first | refine IfN.not ?_ | refine IfN.tt rfl ?_ | refine IfN.dT (by omega) ?_ | fail) | (refine EqN.id ?_; first | (refine EqN.addN _ _ (by first | with_reducible rfl | with_reducible exact cst1 | with_reducible exact cst0 | with_reducible exact cst2 | with_reducible exact cst3 | with_reducible exact cst4 | with_reducible exact cst5 | with_reducible exact cst6 | with_reducible exact cst7 | with_reducible exact cst8 | with_reducible exact cst14 | with_reducible exact cst15 | with_reducible exact cst25 | with_reducible exact cst30 | with_reducible exact cst31 | fail) (by first | with_reducible rfl | with_reducible exact cst1 | with_reducible exact cst0 | with_reducible exact cst2 | with_reducible exact cst3 | with_reducible exact cst4 | with_reducible exact cst5 | with_reducible exact cst6 | with_reducible exact cst7 | with_reducible exact cst8 | with_reducible exact cst14 | with_reducible exact cst15 | with_reducible exact cst25 | with_reducible exact cst30 | with_reducible exact cst31 | fail) ?_ ?_; · (repeat' (first | omega | refine And.intro ?_ ?_ | exact bnd_andl (by omega) | exact bnd_andr (by omega) | refine bnd_or ?_ ?_ | refine bnd_or31 ?_ ?_ | refine bnd_xor ?_ ?_ | refine bnd_xor31 ?_ ?_ | refine bnd_shr ?_ | refine bnd_shl ?_ ?_ | refine bnd_mod ?_ | refine bnd_andl ?_ | fail))) | fail) | (refine SideN.mk ?_ ?_; · first | kernel_rfl | omega | exact List.cons_ne_nil _ _ | (simp; done) | (simp; omega) | exact trivial | assumption | fail) | refine SegN.nthE (Tm.mk false .empty []) k rfl hlt tm_size hce ?_ | refine CallN.setB i _ _ _ _ (at_set hi) (by simp) rfl (hx _) (List.set_set ..) ?_ | refine DrawN.mk' [] ?_ | fail))); all_goals (conv => whnf)
      subst hB2
      (refine ⟨⟨(k + 1, M'), ⟨by simp only; omega, ⟨hbd.2.2 rfl, by simp only; omega⟩, by simpa using hj⟩, by omega, ?_, .inl ⟨rfl, rfl⟩, rfl, _, rfl, ?_⟩⟩; rotate_left 1; (first | exact .inl rfl | exact .inr ⟨by simp [belowRE, below, belowL, tr, tms_below, fos_below], by simp [belowH, Blk.below, belowL, below, tms_below, fos_below]⟩ | fail); (repeat' (first | exact trivial | refine ⟨⟨_, rfl, ?_⟩, ?_⟩ | fail)); all_goals try (first | exact Wk.refl _ | exact Wk.of_eq (congrArg (AV.int _) (by omega)) | fail))
    | false =>
      (repeat' ((conv => whnf); (first | (refine IfN.id ?_; first | refine IfN.not ?_ | refine IfN.ff rfl ?_ | refine IfN.dT (by omega) ?_ | fail) | (refine SideN.mk ?_ ?_; · first | kernel_rfl | omega | exact List.cons_ne_nil _ _ | (simp; done) | (simp; omega) | exact trivial | assumption | fail) | refine SegN.nthE (Tm.mk false .empty []) k rfl hlt tm_size hce ?_ | refine CallN.setB i _ _ _ _ (at_set hi) (by simp) rfl (hx _) (List.set_set ..) ?_ | refine DrawN.mk' [] ?_ | fail))); all_goals (conv => whnf)
      subst hB2
      simp only [Bool.false_eq_true, if_false] at hj
      rw [hj]
      exact EndN.setB (kB_below _ _) trivial (Wk.refl _)
  · have hke : k = l.length := by omega
    subst hke
    rw [List.drop_length, kTs_nil] at hj
    rw [hj]
    (repeat' ((conv => whnf); (first | (refine IfN.id ?_; first | refine IfN.dF (by omega) ?_ | fail) | refine DrawN.mk' [] ?_ | fail))); all_goals (conv => whnf)
    exact EndN.setB (kB_below _ _) trivial (Wk.refl _)
theorem termK_step (v : Bool) (s : ByteArray) (l : List Tm) (hs : s.size ≤ 9223372036854775807) (hl : TermsK l) : TermK (.mk v s l) := by
  intro H i L d hi hL hd
  have hn := fun X => nodeK_g (H ++ X) i L d (at_base' hi) hL hd
  have hv := variable_g s hs
  have hf := function_g s hs
  have htm := tmeta_g s hs
  rw [Tm.cells_mk]
  unfold kT
  by_cases h : 1 ≤ L ∧ d ≤ 40
  · rw [if_neg (not_not_intro h)]
    rw [decide_eq_true h] at hn
    have ht := fun X => hl (H.set i (kB (L - 1)) ++ X) i (L - 1) (d + 1) (at_base' (at_set hi)) (by omega) (by omega)
    generalize isVar s = bv at *
    generalize isFun s = bf at *
    generalize isTM s = bt at *
    generalize hr : kTs (d + 1) l (L - 1) = r at *
    obtain ⟨M, b⟩ := r
    simp only at ht
    generalize l.flatMap Tm.cells = lc at *
    generalize l.length = n at *
    unfold kB at hi hn ht ⊢
    cases v with
    | true =>
      simp only [if_true]
      cases bv with
      | true =>
        refine fn_gen Tryz.E0 Tryz.mx Tryz.func93 (by kernel_rfl) rfl (Nat.le_of_ble_eq_true rfl) rfl fun hcl hbl => ?_
        (repeat' ((conv => whnf); (first | (refine IfN.id ?_; first | refine IfN.not ?_ | refine IfN.tt rfl ?_ | refine IfN.dec (fun _ => ?_) (fun _ => ?_) | fail) | (refine CallN.id ?_; first | refine CallN.det _ (hv _) ?_ | fail) | refine CallN.setB i _ _ _ _ hi rfl rfl (hn _) rfl ?_ | refine DrawN.mk' [] ?_ | fail))); all_goals (conv => whnf)
        all_goals exact EndN.setB (by simp [Blk.below, belowL, below]) trivial (Wk.of_eq (by simp; try omega))
      | false =>
        by_cases hn0 : n = 0
        · subst hn0
          refine fn_gen Tryz.E0 Tryz.mx Tryz.func93 (by kernel_rfl) rfl (Nat.le_of_ble_eq_true rfl) rfl fun hcl hbl => ?_
          (repeat' ((conv => whnf); (first | (refine IfN.id ?_; first | refine IfN.not ?_ | refine IfN.tt rfl ?_ | refine IfN.ff rfl ?_ | fail) | (refine CallN.id ?_; first | refine CallN.det _ (hv _) ?_ | refine CallN.det _ (htm _) ?_ | fail) | refine CallN.setB i _ _ _ _ hi rfl rfl (hn _) rfl ?_ | (refine PtrN.id ?_; first | refine PtrN.base _ (by (repeat' (first | assumption | exact at_loc' _ rfl | exact at_loc0 rfl | refine at_set (B' := ?_) ?_ | refine at_base' ?_ | fail))) ?_ | fail) | refine DrawN.mk' [] ?_ | fail))); all_goals (conv => whnf)
          exact EndN.setB (by simp [Blk.below, belowL, below]) trivial (Wk.refl _)
        · rw [decide_eq_false hn0]
          refine fn_gen Tryz.E0 Tryz.mx Tryz.func93 (by kernel_rfl) rfl (Nat.le_of_ble_eq_true rfl) rfl fun hcl hbl => ?_
          (repeat' ((conv => whnf); (first | (refine IfN.id ?_; first | refine IfN.not ?_ | refine IfN.tt rfl ?_ | refine IfN.dF (by omega) ?_ | fail) | refine CallN.setB i _ _ _ _ hi rfl rfl (hn _) rfl ?_ | refine DrawN.mk' [] ?_ | fail))); all_goals (conv => whnf)
          exact EndN.setB (by simp [Blk.below, belowL, below]) trivial (Wk.refl _)
    | false =>
      simp only [Bool.false_eq_true, if_false]
      by_cases h4 : n ≤ 4 ∧ bf = true
      · obtain ⟨h4, rfl⟩ := h4
        rw [if_pos ⟨h4, rfl⟩]
        refine fn_gen Tryz.E0 Tryz.mx Tryz.func93 (by kernel_rfl) rfl (Nat.le_of_ble_eq_true rfl) rfl fun hcl hbl => ?_
        (repeat' ((conv => whnf); (first | (refine IfN.id ?_; first | refine IfN.not ?_ | refine IfN.tt rfl ?_ | refine IfN.ff rfl ?_ | refine IfN.dT (by omega) ?_ | fail) | (refine EqN.id ?_; first | (refine EqN.addN _ _ (by first | with_reducible rfl | with_reducible exact cst1 | with_reducible exact cst0 | with_reducible exact cst2 | with_reducible exact cst3 | with_reducible exact cst4 | with_reducible exact cst5 | with_reducible exact cst6 | with_reducible exact cst7 | with_reducible exact cst8 | with_reducible exact cst14 | with_reducible exact cst15 | with_reducible exact cst25 | with_reducible exact cst30 | with_reducible exact cst31 | fail) (by first | with_reducible rfl | with_reducible exact cst1 | with_reducible exact cst0 | with_reducible exact cst2 | with_reducible exact cst3 | with_reducible exact cst4 | with_reducible exact cst5 | with_reducible exact cst6 | with_reducible exact cst7 | with_reducible exact cst8 | with_reducible exact cst14 | with_reducible exact cst15 | with_reducible exact cst25 | with_reducible exact cst30 | with_reducible exact cst31 | fail) ?_ ?_; · (repeat' (first | omega | refine And.intro ?_ ?_ | exact bnd_andl (by omega) | exact bnd_andr (by omega) | refine bnd_or ?_ ?_ | refine bnd_or31 ?_ ?_ | refine bnd_xor ?_ ?_ | refine bnd_xor31 ?_ ?_ | refine bnd_shr ?_ | refine bnd_shl ?_ ?_ | refine bnd_mod ?_ | refine bnd_andl ?_ | fail))) | fail) | (refine CallN.id ?_; first | refine CallN.det _ (hf _) ?_ | fail) | refine CallN.setB i _ _ _ _ hi rfl rfl (hn _) rfl ?_ | refine CallN.setB i _ _ _ _ (at_set hi) (by simp) rfl (ht _) (List.set_set ..) ?_ | refine DrawN.mk' [] ?_ | fail))); all_goals (conv => whnf)
        all_goals exact EndN.setB (by simp [Blk.below, belowL, below]) trivial (Wk.of_eq (by simp; try omega))
      · rw [if_neg h4]
        cases bf with
        | true =>
          have h4 : ¬ n ≤ 4 := fun e => h4 ⟨e, rfl⟩
          refine fn_gen Tryz.E0 Tryz.mx Tryz.func93 (by kernel_rfl) rfl (Nat.le_of_ble_eq_true rfl) rfl fun hcl hbl => ?_
          (repeat' ((conv => whnf); (first | (refine IfN.id ?_; first | refine IfN.not ?_ | refine IfN.tt rfl ?_ | refine IfN.ff rfl ?_ | refine IfN.dF (by omega) ?_ | fail) | refine CallN.setB i _ _ _ _ hi rfl rfl (hn _) rfl ?_ | refine DrawN.mk' [] ?_ | fail))); all_goals (conv => whnf)
          all_goals exact EndN.setB (by simp [Blk.below, belowL, below]) trivial (Wk.of_eq (by simp; try omega))
        | false =>
          refine fn_gen Tryz.E0 Tryz.mx Tryz.func93 (by kernel_rfl) rfl (Nat.le_of_ble_eq_true rfl) rfl fun hcl hbl => ?_
          (repeat' ((conv => whnf); (first | (refine IfN.id ?_; first | refine IfN.not ?_ | refine IfN.tt rfl ?_ | refine IfN.ff rfl ?_ | refine IfN.dec (fun _ => ?_) (fun _ => ?_) | fail) | (refine CallN.id ?_; first | refine CallN.det _ (hf _) ?_ | fail) | refine CallN.setB i _ _ _ _ hi rfl rfl (hn _) rfl ?_ | refine DrawN.mk' [] ?_ | fail))); all_goals (conv => whnf)
          all_goals exact EndN.setB (by simp [Blk.below, belowL, below]) trivial (Wk.of_eq (by simp; try omega))
  · rw [if_pos h]
    rw [decide_eq_false h] at hn
    unfold kB at hi hn ⊢
    refine fn_gen Tryz.E0 Tryz.mx Tryz.func93 (by kernel_rfl) rfl (Nat.le_of_ble_eq_true rfl) rfl fun hcl hbl => ?_
    (repeat' ((conv => whnf); (first | (refine IfN.id ?_; first | refine IfN.not ?_ | refine IfN.ff rfl ?_ | fail) | refine CallN.setB i _ _ _ _ hi rfl rfl (hn _) rfl ?_ | refine DrawN.mk' [] ?_ | fail))); all_goals (conv => whnf)
    exact EndN.setB (by simp [Blk.below, belowL, below]) trivial (Wk.refl _)
mutual
theorem termK_g : ∀ x : Tm, x.good → TermK x
  | .mk v s l, h => termK_step v s l (by have := h.1; exact maxLen_le this) (termsK_g l (maxLen_le h.2.1) (termsK_all l h.2.2))
theorem termsK_all : ∀ l : List Tm, Tm.goodL l → ∀ x ∈ l, TermK x
  | [], _, x, h => by cases h
  | y :: l, hg, x, h => by
    have h1 := termK_g y hg.1
    have h2 := termsK_all l hg.2
    rcases List.mem_cons.1 h with e | h
    · exact e ▸ h1
    · exact h2 x h
end
theorem inst_g (l : List Tm) (hg : Tm.goodL l) (H : Heap) : VDet Tryz.prog 72 [.sl none l.length (l.flatMap Tm.cells)] H (.bool (instOk l)) := by
  match l, hg with
  | [], _ =>
    refine fn_det Tryz.E0 Tryz.mx Tryz.func72 (by kernel_rfl) rfl (Nat.le_of_ble_eq_true rfl) rfl fun hcl hbl => ?_
    (repeat' ((conv => whnf); (first | (refine IfN.id ?_; first | refine IfN.ff rfl ?_ | fail) | refine DrawN.mk' [] ?_ | fail))); all_goals (conv => whnf)
    exact EndN.det trivial (Wk.refl _)
  | [x], _ =>
    obtain ⟨v, s, a, rfl⟩ := tm_ex x
    simp only [List.flatMap_cons, List.flatMap_nil, List.append_nil, Tm.cells_mk, List.length_cons, List.length_nil]
    generalize a.flatMap Tm.cells = ac at *
    generalize a.length = an at *
    refine fn_det Tryz.E0 Tryz.mx Tryz.func72 (by kernel_rfl) rfl (Nat.le_of_ble_eq_true rfl) rfl fun hcl hbl => ?_
    (repeat' ((conv => whnf); (first | (refine IfN.id ?_; first | refine IfN.ff rfl ?_ | fail) | refine DrawN.mk' [] ?_ | fail))); all_goals (conv => whnf)
    exact EndN.det trivial (Wk.refl _)
  | [x, y], hg =>
    obtain ⟨v, s, a, rfl⟩ := tm_ex x
    obtain ⟨w, t, b, rfl⟩ := tm_ex y
    have h1 := variable_g s (maxLen_le hg.1.1)
    have h2 := tmeta_g t (maxLen_le hg.2.1.1)
    unfold instOk
    simp only [List.flatMap_cons, List.flatMap_nil, List.append_nil, Tm.cells_mk, List.length_cons, List.length_nil, List.cons_append, List.nil_append]
    generalize a.flatMap Tm.cells = ac at *
    generalize a.length = an at *
    generalize b.flatMap Tm.cells = bc at *
    generalize b.length = bn at *
    generalize isVar s = p at *
    generalize isTM t = q at *
    cases v <;> cases w <;> cases p
    all_goals
      refine fn_det Tryz.E0 Tryz.mx Tryz.func72 (by kernel_rfl) rfl (Nat.le_of_ble_eq_true rfl) rfl fun hcl hbl => ?_
      (repeat' ((conv => whnf); (first | (refine IfN.id ?_; first | refine IfN.tt rfl ?_ | refine IfN.ff rfl ?_ | fail) | (refine SideN.mk ?_ ?_; · first | kernel_rfl | omega | exact List.cons_ne_nil _ _ | (simp; done) | (simp; omega) | exact trivial | assumption | fail) | (refine CallN.id ?_; first | refine CallN.det _ (h1 _) ?_ | refine CallN.det _ (h2 _) ?_ | fail) | refine SegN.mk _ (seg_rfl rfl) ?_ | refine DrawN.mk' [] ?_ | fail))); all_goals (conv => whnf)
      exact EndN.det trivial (Wk.refl _)
  | x :: y :: z :: r, _ =>
    have hb : ((x :: y :: z :: r).length : Int) ≠ 2 := by simp only [List.length_cons]; omega
    rw [show instOk (x :: y :: z :: r) = false from by cases x; cases y; rfl]
    generalize (x :: y :: z :: r).flatMap Tm.cells = lc at *
    generalize (x :: y :: z :: r).length = ln at *
    refine fn_det Tryz.E0 Tryz.mx Tryz.func72 (by kernel_rfl) rfl (Nat.le_of_ble_eq_true rfl) rfl fun hcl hbl => ?_
    (repeat' ((conv => whnf); (first | (refine IfN.id ?_; first | refine IfN.dF (by omega) ?_ | fail) | refine DrawN.mk' [] ?_ | fail))); all_goals (conv => whnf)
    exact EndN.det trivial (Wk.refl _)
def FormK (x : Fo) : Prop := ∀ (H : Heap) (i : Nat) (L : Int) (d : Nat), H[i]? = some (kB L) → 0 ≤ L ∧ L ≤ 400 → d ≤ 41 → VCall Tryz.prog 38 [.ptr i 0, .agg x.cells, .int .i64 d] H (setR H i (kB (kF d x L).1) (.bool (kF d x L).2))
theorem formK_step (op : Nat) (s : ByteArray) (l : List Tm) (m : List Fo) (hop : op ≤ 255) (hs : s.size ≤ 9223372036854775807) (hll : l.length ≤ 9223372036854775807) (hml : m.length ≤ 9223372036854775807) (hgl : Tm.goodL l) (hl : TermsK l) (hm : ∀ x ∈ m, FormK x) : FormK (.mk op s l m) := by
  intro H i L d hi hL hd
  have hn := fun X => nodeK_g (H ++ X) i L d (at_base' hi) hL hd
  rw [Fo.cells_mk]
  unfold kF
  by_cases h : ¬ (1 ≤ L ∧ d ≤ 40) ∨ 17 ≤ op
  · rw [if_pos h]
    by_cases h1 : 1 ≤ L ∧ d ≤ 40
    · rw [decide_eq_true h1] at hn
      have h17 : 17 ≤ op := by omega
      generalize l.flatMap Tm.cells = lc at *
      generalize m.flatMap Fo.cells = mc at *
      unfold kB at hi hn ⊢
      refine fn_gen Tryz.E0 Tryz.mx Tryz.func38 (by kernel_rfl) rfl (Nat.le_of_ble_eq_true rfl) rfl fun hcl hbl => ?_
      (repeat' ((conv => whnf); (first | (refine IfN.id ?_; first | refine IfN.not ?_ | refine IfN.tt rfl ?_ | refine IfN.dT (by omega) ?_ | fail) | (refine EqN.id ?_; first | refine EqN.i64 (by omega) ?_ | fail) | refine CallN.setB i _ _ _ _ hi rfl rfl (hn _) rfl ?_ | refine DrawN.mk' [] ?_ | fail))); all_goals (conv => whnf)
      exact EndN.setB (by simp [Blk.below, belowL, below]) trivial (Wk.refl _)
    · rw [decide_eq_false h1] at hn
      generalize l.flatMap Tm.cells = lc at *
      generalize m.flatMap Fo.cells = mc at *
      unfold kB at hi hn ⊢
      refine fn_gen Tryz.E0 Tryz.mx Tryz.func38 (by kernel_rfl) rfl (Nat.le_of_ble_eq_true rfl) rfl fun hcl hbl => ?_
      (repeat' ((conv => whnf); (first | (refine IfN.id ?_; first | refine IfN.not ?_ | refine IfN.ff rfl ?_ | fail) | refine CallN.setB i _ _ _ _ hi rfl rfl (hn _) rfl ?_ | refine DrawN.mk' [] ?_ | fail))); all_goals (conv => whnf)
      exact EndN.setB (by simp [Blk.below, belowL, below]) trivial (Wk.refl _)
  rw [if_neg h]
  have h1 : 1 ≤ L ∧ d ≤ 40 := by omega
  have h17 : op < 17 := by omega
  rw [decide_eq_true h1] at hn
  have hrow := rowK_ok op h17
  have hsch := rowJ_sch op h17
  have hname := fun (hk : rowN op = 0 ∨ rowN op = 1 ∨ rowN op = 2 ∨ rowN op = 3) => namedK_g (rowN op) hk s hs
  have hrc : encR (rowsL.getD op row0) = [.bool (rowK op), .bool (rowsL.getD op row0).2.1, .int .u8 (rowN op), .int .i64 (rowA op), .int .i64 (rowS op)] := rfl
  have hrk : (rowsL.getD op row0).1 = rowK op := rfl
  have hrj : rowJ op = (rowK op || (rowsL.getD op row0).2.1) := rfl
  rw [hrk] at hrow hsch
  have ht := fun X => hl (H.set i (kB (L - 1)) ++ X) i (L - 1) (d + 1) (at_base' (at_set hi)) (by omega) (by omega)
  have htb := kTs_bd (d + 1) l (L - 1) (by omega)
  have hin := inst_g l hgl
  generalize (rowsL.getD op row0).2.1 = rsch at *
  generalize rowK op = rk at *
  generalize rowN op = rn at *
  generalize rowA op = ra at *
  generalize rowS op = rs at *
  generalize nameK rn s = nok at *
  generalize instOk l = iok at *
  generalize hr : kTs (d + 1) l (L - 1) = r at *
  obtain ⟨M, b⟩ := r
  simp only at ht htb
  rw [hrj]
  by_cases hj : (rk || rsch) = true
  case neg =>
    have hj0 : (rk || rsch) = false := by simpa using hj
    rw [if_pos hj0]
    obtain ⟨rfl, rfl⟩ : rk = false ∧ rsch = false := by simpa using hj0
    generalize l.flatMap Tm.cells = lc at *
    generalize m.flatMap Fo.cells = mc at *
    unfold kB at hi hn ⊢
    refine fn_gen Tryz.E0 Tryz.mx Tryz.func38 (by kernel_rfl) rfl (Nat.le_of_ble_eq_true rfl) rfl fun hcl hbl => ?_
    (repeat' ((conv => whnf); (first | (refine IfN.id ?_; first | refine IfN.not ?_ | refine IfN.tt rfl ?_ | refine IfN.ff rfl ?_ | refine IfN.dF (by omega) ?_ | fail) | (refine EqN.id ?_; first | refine EqN.i64 (by omega) ?_ | fail) | (refine SideN.mk ?_ ?_; · first | kernel_rfl | omega | exact List.cons_ne_nil _ _ | (simp; done) | (simp; omega) | exact trivial | assumption | fail) | refine CallN.setB i _ _ _ _ hi rfl rfl (hn _) rfl ?_ | refine SegN.eq0 rows_eq (SegN.nthE row0 op rfl h17 (fun _ => rfl) hrc ?_) | (refine PtrN.id ?_; first | refine PtrN.base _ (by (repeat' (first | assumption | exact at_loc' _ rfl | exact at_loc0 rfl | refine at_set (B' := ?_) ?_ | refine at_base' ?_ | fail))) ?_ | fail) | refine DrawN.mk' [] ?_ | fail))); all_goals (conv => whnf)
    exact EndN.setB (by simp [Blk.below, belowL, below]) trivial (Wk.refl _)
  rw [if_neg (by rw [hj]; simp)]
  have hrow := hrow hj
  have hname := hname hrow.1
  have hra := hrow.2.1
  obtain rfl : rsch = true := hsch.trans hj
  clear hrow hsch hj hrj hrk
  by_cases h2 : nok = true ∧ l.length ≤ ra ∧ m.length = rs
  case neg =>
    rw [if_pos h2]
    generalize l.flatMap Tm.cells = lc at *
    generalize m.flatMap Fo.cells = mc at *
    generalize l.length = ln at *
    generalize m.length = mn at *
    unfold kB at hi hn ⊢
    cases rk <;> cases nok
    case true.false =>
      refine fn_gen Tryz.E0 Tryz.mx Tryz.func38 (by kernel_rfl) rfl (Nat.le_of_ble_eq_true rfl) rfl fun hcl hbl => ?_
      (repeat' ((conv => whnf); (first | (refine IfN.id ?_; first | refine IfN.not ?_ | refine IfN.tt rfl ?_ | refine IfN.ff rfl ?_ | refine IfN.dF (by omega) ?_ | fail) | (refine EqN.id ?_; first | refine EqN.i64 (by omega) ?_ | fail) | (refine SideN.mk ?_ ?_; · first | kernel_rfl | omega | exact List.cons_ne_nil _ _ | (simp; done) | (simp; omega) | exact trivial | assumption | fail) | (refine CallN.id ?_; first | refine CallN.det _ (hname _) ?_ | fail) | refine CallN.setB i _ _ _ _ hi rfl rfl (hn _) rfl ?_ | refine SegN.eq0 rows_eq (SegN.nthE row0 op rfl h17 (fun _ => rfl) hrc ?_) | refine DrawN.mk' [] ?_ | fail))); all_goals (conv => whnf)
      exact EndN.setB (by simp [Blk.below, belowL, below]) trivial (Wk.refl _)
    case false.false =>
      refine fn_gen Tryz.E0 Tryz.mx Tryz.func38 (by kernel_rfl) rfl (Nat.le_of_ble_eq_true rfl) rfl fun hcl hbl => ?_
      (repeat' ((conv => whnf); (first | (refine IfN.id ?_; first | refine IfN.not ?_ | refine IfN.tt rfl ?_ | refine IfN.ff rfl ?_ | refine IfN.dF (by omega) ?_ | fail) | (refine EqN.id ?_; first | refine EqN.i64 (by omega) ?_ | fail) | (refine SideN.mk ?_ ?_; · first | kernel_rfl | omega | exact List.cons_ne_nil _ _ | (simp; done) | (simp; omega) | exact trivial | assumption | fail) | (refine CallN.id ?_; first | refine CallN.det _ (hname _) ?_ | fail) | refine CallN.setB i _ _ _ _ hi rfl rfl (hn _) rfl ?_ | refine SegN.eq0 rows_eq (SegN.nthE row0 op rfl h17 (fun _ => rfl) hrc ?_) | (refine PtrN.id ?_; first | refine PtrN.base _ (by (repeat' (first | assumption | exact at_loc' _ rfl | exact at_loc0 rfl | refine at_set (B' := ?_) ?_ | refine at_base' ?_ | fail))) ?_ | fail) | refine DrawN.mk' [] ?_ | fail))); all_goals (conv => whnf)
      exact EndN.setB (by simp [Blk.below, belowL, below]) trivial (Wk.refl _)
    all_goals
      by_cases h3 : ln ≤ ra
      · have h4 : ¬ mn = rs := fun e => h2 ⟨rfl, h3, e⟩
        refine fn_gen Tryz.E0 Tryz.mx Tryz.func38 (by kernel_rfl) rfl (Nat.le_of_ble_eq_true rfl) rfl fun hcl hbl => ?_
        (repeat' ((conv => whnf); (first | (refine IfN.id ?_; first | refine IfN.not ?_ | refine IfN.tt rfl ?_ | refine IfN.ff rfl ?_ | refine IfN.dF (by omega) ?_ | fail) | (refine EqN.id ?_; first | refine EqN.i64 (by omega) ?_ | fail) | (refine SideN.mk ?_ ?_; · first | kernel_rfl | omega | exact List.cons_ne_nil _ _ | (simp; done) | (simp; omega) | exact trivial | assumption | fail) | (refine CallN.id ?_; first | refine CallN.det _ (hname _) ?_ | fail) | refine CallN.setB i _ _ _ _ hi rfl rfl (hn _) rfl ?_ | refine SegN.eq0 rows_eq (SegN.nthE row0 op rfl h17 (fun _ => rfl) hrc ?_) | (refine PtrN.id ?_; first | refine PtrN.base _ (by (repeat' (first | assumption | exact at_loc' _ rfl | exact at_loc0 rfl | refine at_set (B' := ?_) ?_ | refine at_base' ?_ | fail))) ?_ | fail) | refine DrawN.mk' [] ?_ | fail))); all_goals (conv => whnf)
        exact EndN.setB (by simp [Blk.below, belowL, below]) trivial (Wk.refl _)
      · refine fn_gen Tryz.E0 Tryz.mx Tryz.func38 (by kernel_rfl) rfl (Nat.le_of_ble_eq_true rfl) rfl fun hcl hbl => ?_
        (repeat' ((conv => whnf); (first | (refine IfN.id ?_; first | refine IfN.not ?_ | refine IfN.tt rfl ?_ | refine IfN.ff rfl ?_ | refine IfN.dT (by omega) ?_ | refine IfN.dF (by omega) ?_ | fail) | (refine EqN.id ?_; first | refine EqN.i64 (by omega) ?_ | fail) | (refine SideN.mk ?_ ?_; · first | kernel_rfl | omega | exact List.cons_ne_nil _ _ | (simp; done) | (simp; omega) | exact trivial | assumption | fail) | (refine CallN.id ?_; first | refine CallN.det _ (hname _) ?_ | fail) | refine CallN.setB i _ _ _ _ hi rfl rfl (hn _) rfl ?_ | refine SegN.eq0 rows_eq (SegN.nthE row0 op rfl h17 (fun _ => rfl) hrc ?_) | (refine PtrN.id ?_; first | refine PtrN.base _ (by (repeat' (first | assumption | exact at_loc' _ rfl | exact at_loc0 rfl | refine at_set (B' := ?_) ?_ | refine at_base' ?_ | fail))) ?_ | fail) | refine DrawN.mk' [] ?_ | fail))); all_goals (conv => whnf)
        exact EndN.setB (by simp [Blk.below, belowL, below]) trivial (Wk.refl _)
  rw [if_neg (not_not_intro h2)]
  obtain ⟨rfl, h3, h4⟩ := h2
  by_cases hi16 : op = 16 ∧ iok = false
  case pos =>
    rw [if_pos hi16]
    obtain ⟨h16, rfl⟩ := hi16
    generalize l.flatMap Tm.cells = lc at *
    generalize m.flatMap Fo.cells = mc at *
    unfold kB at hi hn ⊢
    cases rk
    all_goals
      refine fn_gen Tryz.E0 Tryz.mx Tryz.func38 (by kernel_rfl) rfl (Nat.le_of_ble_eq_true rfl) rfl fun hcl hbl => ?_
      (repeat' ((conv => whnf); (first | (refine IfN.id ?_; first | refine IfN.not ?_ | refine IfN.tt rfl ?_ | refine IfN.ff rfl ?_ | refine IfN.dT (by omega) ?_ | refine IfN.dF (by omega) ?_ | fail) | (refine EqN.id ?_; first | refine EqN.i64 (by omega) ?_ | fail) | (refine SideN.mk ?_ ?_; · first | kernel_rfl | omega | exact List.cons_ne_nil _ _ | (simp; done) | (simp; omega) | exact trivial | assumption | fail) | (refine CallN.id ?_; first | refine CallN.det _ (hname _) ?_ | refine CallN.det _ (hin _) ?_ | fail) | refine CallN.setB i _ _ _ _ hi rfl rfl (hn _) rfl ?_ | refine SegN.eq0 rows_eq (SegN.nthE row0 op rfl h17 (fun _ => rfl) hrc ?_) | (refine PtrN.id ?_; first | refine PtrN.base _ (by (repeat' (first | assumption | exact at_loc' _ rfl | exact at_loc0 rfl | refine at_set (B' := ?_) ?_ | refine at_base' ?_ | fail))) ?_ | fail) | refine DrawN.mk' [] ?_ | fail))); all_goals (conv => whnf)
      exact EndN.setB (by simp [Blk.below, belowL, below]) trivial (Wk.refl _)
  rw [if_neg hi16]
  have hcs : (op = 16 ∧ iok = true) ∨ op ≠ 16 := by
    by_cases h : op = 16
    · exact .inl ⟨h, by cases iok <;> simp_all⟩
    · exact .inr h
  cases b with
  | false =>
    simp only [Bool.false_eq_true, if_false]
    generalize l.flatMap Tm.cells = lc at *
    generalize m.flatMap Fo.cells = mc at *
    unfold kB at hi hn ht ⊢
    rcases hcs with ⟨h16, rfl⟩ | h16 <;> cases rk
    all_goals
      refine fn_gen Tryz.E0 Tryz.mx Tryz.func38 (by kernel_rfl) rfl (Nat.le_of_ble_eq_true rfl) rfl fun hcl hbl => ?_
      (repeat' ((conv => whnf); (first | (refine IfN.id ?_; first | refine IfN.not ?_ | refine IfN.tt rfl ?_ | refine IfN.ff rfl ?_ | refine IfN.dT (by omega) ?_ | refine IfN.dF (by omega) ?_ | fail) | (refine EqN.id ?_; first | (refine EqN.addN _ _ (by first | with_reducible rfl | with_reducible exact cst1 | with_reducible exact cst0 | with_reducible exact cst2 | with_reducible exact cst3 | with_reducible exact cst4 | with_reducible exact cst5 | with_reducible exact cst6 | with_reducible exact cst7 | with_reducible exact cst8 | with_reducible exact cst14 | with_reducible exact cst15 | with_reducible exact cst25 | with_reducible exact cst30 | with_reducible exact cst31 | fail) (by first | with_reducible rfl | with_reducible exact cst1 | with_reducible exact cst0 | with_reducible exact cst2 | with_reducible exact cst3 | with_reducible exact cst4 | with_reducible exact cst5 | with_reducible exact cst6 | with_reducible exact cst7 | with_reducible exact cst8 | with_reducible exact cst14 | with_reducible exact cst15 | with_reducible exact cst25 | with_reducible exact cst30 | with_reducible exact cst31 | fail) ?_ ?_; · (repeat' (first | omega | refine And.intro ?_ ?_ | exact bnd_andl (by omega) | exact bnd_andr (by omega) | refine bnd_or ?_ ?_ | refine bnd_or31 ?_ ?_ | refine bnd_xor ?_ ?_ | refine bnd_xor31 ?_ ?_ | refine bnd_shr ?_ | refine bnd_shl ?_ ?_ | refine bnd_mod ?_ | refine bnd_andl ?_ | fail))) | refine EqN.i64 (by omega) ?_ | fail) | (refine SideN.mk ?_ ?_; · first | kernel_rfl | omega | exact List.cons_ne_nil _ _ | (simp; done) | (simp; omega) | exact trivial | assumption | fail) | (refine CallN.id ?_; first | refine CallN.det _ (hname _) ?_ | refine CallN.det _ (hin _) ?_ | fail) | refine CallN.setB i _ _ _ _ hi rfl rfl (hn _) rfl ?_ | refine SegN.eq0 rows_eq (SegN.nthE row0 op rfl h17 (fun _ => rfl) hrc ?_) | refine CallN.setB i _ _ _ _ (at_set hi) (by simp) rfl (ht _) (List.set_set ..) ?_ | (refine PtrN.id ?_; first | refine PtrN.base _ (by (repeat' (first | assumption | exact at_loc' _ rfl | exact at_loc0 rfl | refine at_set (B' := ?_) ?_ | refine at_base' ?_ | fail))) ?_ | fail) | refine DrawN.mk' [] ?_ | fail))); all_goals (conv => whnf)
      exact EndN.setB (by simp [Blk.below, belowL, below]) trivial (Wk.refl _)
  | true =>
    simp only [if_true]
    have hMb := htb.2.2 rfl
    have hmc : ∀ n, belowL n (m.flatMap Fo.cells) := fun n => fos_below n m
    have hi' := hi
    unfold kB at hi hn ht
    rcases hcs with ⟨h16, rfl⟩ | h16 <;> cases rk
    all_goals
      refine fn_gen Tryz.E0 Tryz.mx Tryz.func38 (by kernel_rfl) rfl (Nat.le_of_ble_eq_true rfl) rfl fun hcl hbl => ?_
      (repeat' ((conv => whnf); (first | (refine IfN.id ?_; first | refine IfN.not ?_ | refine IfN.tt rfl ?_ | refine IfN.ff rfl ?_ | refine IfN.dT (by omega) ?_ | refine IfN.dF (by omega) ?_ | fail) | (refine EqN.id ?_; first | (refine EqN.addN _ _ (by first | with_reducible rfl | with_reducible exact cst1 | with_reducible exact cst0 | with_reducible exact cst2 | with_reducible exact cst3 | with_reducible exact cst4 | with_reducible exact cst5 | with_reducible exact cst6 | with_reducible exact cst7 | with_reducible exact cst8 | with_reducible exact cst14 | with_reducible exact cst15 | with_reducible exact cst25 | with_reducible exact cst30 | with_reducible exact cst31 | fail) (by first | with_reducible rfl | with_reducible exact cst1 | with_reducible exact cst0 | with_reducible exact cst2 | with_reducible exact cst3 | with_reducible exact cst4 | with_reducible exact cst5 | with_reducible exact cst6 | with_reducible exact cst7 | with_reducible exact cst8 | with_reducible exact cst14 | with_reducible exact cst15 | with_reducible exact cst25 | with_reducible exact cst30 | with_reducible exact cst31 | fail) ?_ ?_; · (repeat' (first | omega | refine And.intro ?_ ?_ | exact bnd_andl (by omega) | exact bnd_andr (by omega) | refine bnd_or ?_ ?_ | refine bnd_or31 ?_ ?_ | refine bnd_xor ?_ ?_ | refine bnd_xor31 ?_ ?_ | refine bnd_shr ?_ | refine bnd_shl ?_ ?_ | refine bnd_mod ?_ | refine bnd_andl ?_ | fail))) | refine EqN.i64 (by omega) ?_ | fail) | (refine SideN.mk ?_ ?_; · first | kernel_rfl | omega | exact List.cons_ne_nil _ _ | (simp; done) | (simp; omega) | exact trivial | assumption | fail) | (refine CallN.id ?_; first | refine CallN.det _ (hname _) ?_ | refine CallN.det _ (hin _) ?_ | fail) | refine CallN.setB i _ _ _ _ hi rfl rfl (hn _) rfl ?_ | refine SegN.eq0 rows_eq (SegN.nthE row0 op rfl h17 (fun _ => rfl) hrc ?_) | refine CallN.setB i _ _ _ _ (at_set hi) (by simp) rfl (ht _) (List.set_set ..) ?_ | (refine PtrN.id ?_; first | refine PtrN.base _ (by (repeat' (first | assumption | exact at_loc' _ rfl | exact at_loc0 rfl | refine at_set (B' := ?_) ?_ | refine at_base' ?_ | fail))) ?_ | fail) | refine DrawN.mk' [] ?_ | fail))); all_goals (conv => whnf)
      refine loop_B Tryz.E0 Tryz.mx (σ := Nat × Int) (fun p => p.1 ≤ m.length ∧ (0 ≤ p.2 ∧ p.2 ≤ 400) ∧ kFs (d + 1) m M = kFs (d + 1) (m.drop p.1) p.2) (fun p => m.length - p.1) (fun p => [(79, .v (.int .i64 p.1))]) (fun p => H.set i (kB p.2)) (fun _ => _) _ (0, M) (fun p _ => by simp) (fun p _ => closed_set hcl i _ (kB_below _ _)) [0, 2, 77, 78] rfl ⟨Nat.zero_le _, ⟨hMb, by omega⟩, rfl⟩ ⟨⟨_, rfl, Wk.refl _⟩, trivial⟩ rfl rfl (fun _ _ => rfl) ?_
      rintro ⟨k, N⟩ ⟨hk, hN, hj⟩
      simp only at hk hN hj
      have hNl : (H.set i (kB N)).length = H.length := by simp
      by_cases hlt : k < m.length
      · have hmem := getD_memT m k (Fo.mk 0 .empty [] []) hlt
        rw [drop_getD m k (Fo.mk 0 .empty [] []) hlt] at hj
        have hx := fun X => hm _ hmem (H.set i (kB N) ++ X) i N (d + 1) (at_base' (at_set hi')) hN (by omega)
        have hbd := kF_bd (d + 1) (m.getD k (Fo.mk 0 .empty [] [])) N hN.1
        rw [kFs_cons] at hj
        obtain ⟨o2, s2, l2, m2, hxe⟩ : ∃ o2 s2 l2 m2, m.getD k (Fo.mk 0 .empty [] []) = Fo.mk o2 s2 l2 m2 := by
          cases m.getD k (Fo.mk 0 .empty [] []) with
          | mk o2 s2 l2 m2 => exact ⟨o2, s2, l2, m2, rfl⟩
        have hce : (m.getD k (Fo.mk 0 .empty [] [])).cells = [.int .u8 o2, .str s2, .sl none l2.length (l2.flatMap Tm.cells), .sl none m2.length (m2.flatMap Fo.cells)] := by rw [hxe, Fo.cells_mk]
        rw [hce] at hx
        generalize hr2 : kF (d + 1) (m.getD k (Fo.mk 0 .empty [] [])) N = r2 at *
        obtain ⟨N', b2⟩ := r2
        simp only at hx hbd hj
        generalize hB2 : kB N' = B2 at *
        cases b2 with
        | true =>
          (repeat' ((conv => whnf); (first | (refine IfN.id ?_; first | refine IfN.not ?_ | refine IfN.tt rfl ?_ | refine IfN.dT (by omega) ?_ | fail) | (refine EqN.id ?_; first | (refine EqN.addN _ _ (by first | with_reducible rfl | with_reducible exact cst1 | with_reducible exact cst0 | with_reducible exact cst2 | with_reducible exact cst3 | with_reducible exact cst4 | with_reducible exact cst5 | with_reducible exact cst6 | with_reducible exact cst7 | with_reducible exact cst8 | with_reducible exact cst14 | with_reducible exact cst15 | with_reducible exact cst25 | with_reducible exact cst30 | with_reducible exact cst31 | fail) (by first | with_reducible rfl | with_reducible exact cst1 | with_reducible exact cst0 | with_reducible exact cst2 | with_reducible exact cst3 | with_reducible exact cst4 | with_reducible exact cst5 | with_reducible exact cst6 | with_reducible exact cst7 | with_reducible exact cst8 | with_reducible exact cst14 | with_reducible exact cst15 | with_reducible exact cst25 | with_reducible exact cst30 | with_reducible exact cst31 | fail) ?_ ?_; · (repeat' (first | omega | refine And.intro ?_ ?_ | exact bnd_andl (by omega) | exact bnd_andr (by omega) | refine bnd_or ?_ ?_ | refine bnd_or31 ?_ ?_ | refine bnd_xor ?_ ?_ | refine bnd_xor31 ?_ ?_ | refine bnd_shr ?_ | refine bnd_shl ?_ ?_ | refine bnd_mod ?_ | refine bnd_andl ?_ | fail))) | fail) | (refine SideN.mk ?_ ?_; · first | kernel_rfl | omega | exact List.cons_ne_nil _ _ | (simp; done) | (simp; omega) | exact trivial | assumption | fail) | refine SegN.nthE (Fo.mk 0 .empty [] []) k rfl hlt fo_size hce ?_ | refine CallN.setB i _ _ _ _ (at_set hi') (by simp) rfl (hx _) (List.set_set ..) ?_ | refine DrawN.mk' [] ?_ | fail))); all_goals (conv => whnf)
          subst hB2
          (refine ⟨⟨(k + 1, N'), ⟨by simp only; omega, ⟨hbd.2.2 rfl, by simp only; omega⟩, by simpa using hj⟩, by omega, ?_, .inl ⟨rfl, rfl⟩, rfl, _, rfl, ?_⟩⟩; rotate_left 1; (first | exact .inl rfl | exact .inr ⟨by simp [belowRE, below, belowL, tr, tms_below, fos_below], by simp [belowH, Blk.below, belowL, below, tms_below, fos_below]⟩ | fail); (repeat' (first | exact trivial | refine ⟨⟨_, rfl, ?_⟩, ?_⟩ | fail)); all_goals try (first | exact Wk.refl _ | exact Wk.of_eq (congrArg (AV.int _) (by omega)) | fail))
        | false =>
          (repeat' ((conv => whnf); (first | (refine IfN.id ?_; first | refine IfN.not ?_ | refine IfN.ff rfl ?_ | refine IfN.dT (by omega) ?_ | fail) | (refine EqN.id ?_; first | (refine EqN.addN _ _ (by first | with_reducible rfl | with_reducible exact cst1 | with_reducible exact cst0 | with_reducible exact cst2 | with_reducible exact cst3 | with_reducible exact cst4 | with_reducible exact cst5 | with_reducible exact cst6 | with_reducible exact cst7 | with_reducible exact cst8 | with_reducible exact cst14 | with_reducible exact cst15 | with_reducible exact cst25 | with_reducible exact cst30 | with_reducible exact cst31 | fail) (by first | with_reducible rfl | with_reducible exact cst1 | with_reducible exact cst0 | with_reducible exact cst2 | with_reducible exact cst3 | with_reducible exact cst4 | with_reducible exact cst5 | with_reducible exact cst6 | with_reducible exact cst7 | with_reducible exact cst8 | with_reducible exact cst14 | with_reducible exact cst15 | with_reducible exact cst25 | with_reducible exact cst30 | with_reducible exact cst31 | fail) ?_ ?_; · (repeat' (first | omega | refine And.intro ?_ ?_ | exact bnd_andl (by omega) | exact bnd_andr (by omega) | refine bnd_or ?_ ?_ | refine bnd_or31 ?_ ?_ | refine bnd_xor ?_ ?_ | refine bnd_xor31 ?_ ?_ | refine bnd_shr ?_ | refine bnd_shl ?_ ?_ | refine bnd_mod ?_ | refine bnd_andl ?_ | fail))) | fail) | (refine SideN.mk ?_ ?_; · first | kernel_rfl | omega | exact List.cons_ne_nil _ _ | (simp; done) | (simp; omega) | exact trivial | assumption | fail) | refine SegN.nthE (Fo.mk 0 .empty [] []) k rfl hlt fo_size hce ?_ | refine CallN.setB i _ _ _ _ (at_set hi') (by simp) rfl (hx _) (List.set_set ..) ?_ | refine DrawN.mk' [] ?_ | fail))); all_goals (conv => whnf)
          subst hB2
          simp only [Bool.false_eq_true, if_false] at hj
          rw [hj]
          exact EndN.setB (kB_below _ _) trivial (Wk.refl _)
      · have hke : k = m.length := by omega
        subst hke
        rw [List.drop_length, kFs_nil] at hj
        rw [hj]
        (repeat' ((conv => whnf); (first | (refine IfN.id ?_; first | refine IfN.dF (by omega) ?_ | fail) | refine DrawN.mk' [] ?_ | fail))); all_goals (conv => whnf)
        exact EndN.setB (kB_below _ _) trivial (Wk.refl _)
mutual
theorem formK_g : ∀ x : Fo, x.good → FormK x
  | .mk op s l m, h => formK_step op s l m h.1 (maxLen_le h.2.1) (maxLen_le h.2.2.1) (maxLen_le h.2.2.2.2.1) h.2.2.2.1 (termsK_g l (maxLen_le h.2.2.1) (termsK_all l h.2.2.2.1)) (formsK_all m h.2.2.2.2.2)
theorem formsK_all : ∀ l : List Fo, Fo.goodL l → ∀ x ∈ l, FormK x
  | [], _, x, h => by cases h
  | y :: l, hg, x, h => by
    have h1 := formK_g y hg.1
    have h2 := formsK_all l hg.2
    rcases List.mem_cons.1 h with e | h
    · exact e ▸ h1
    · exact h2 x h
end
/-! ### syntax.Schema -/
theorem schema_c (f : Fo) (hg : f.good) (H : Heap) : VDet Tryz.prog 15 [.agg f.cells] H (.bool (kF 1 f 400).2) := by
  have h := formK_g f hg (H ++ [.box 25 f.cells, kB 400]) (H.length + 1) 400 1 (by simp) (by omega) (by omega)
  have hce : ∃ o s ln lc mn mc, f.cells = [.int .u8 (o : Nat), .str s, .sl none ln lc, .sl none mn mc] := by
    obtain ⟨o, s, l, m, rfl⟩ := fo_ex f
    rw [Fo.cells_mk]
    exact ⟨_, _, _, _, _, _, rfl⟩
  obtain ⟨o, s, ln, lc, mn, mc, hce⟩ := hce
  rw [hce] at h ⊢
  generalize kF 1 f 400 = r at *
  obtain ⟨L, b⟩ := r
  simp only at h ⊢
  have h2 : VCall Tryz.prog 38 [.ptr (H.length + 1) 0, .agg [.int .u8 o, .str s, .sl none ln lc, .sl none mn mc], .int .i64 (1 : Nat)] (H ++ [.box 25 [.int .u8 o, .str s, .sl none ln lc, .sl none mn mc], kB 400]) (fun r H' => r = .bool b ∧ H' = H ++ [.box 25 [.int .u8 o, .str s, .sl none ln lc, .sl none mn mc], kB L]) := by
    refine VCall.mono h ?_
    rintro r H' ⟨h4, h3⟩
    rw [set_loc'] at h4
    exact ⟨h3, h4⟩
  unfold kB at h2
  refine fn_det Tryz.E0 Tryz.mx Tryz.func15 (by kernel_rfl) rfl (Nat.le_of_ble_eq_true rfl) rfl fun hcl hbl => ?_
  (repeat' ((conv => whnf); (first | refine CallN.fix _ _ _ 2 h2 rfl rfl ?_ | refine DrawN.mk' [] ?_ | fail))); all_goals (conv => whnf)
  exact EndN.det trivial (Wk.refl _)
end Go.Proofs.YtejegcmnddedmaaGreatDoor
/-! text WB02z -/
namespace Go.Proofs.YtejegcmnddedmaaGreatDoor
open Go.Vsi
set_option maxHeartbeats 2000000

/-! ### what is right stays so with more nodes left, and less deep; parts of what is right are right -/
mutual
theorem jT_mono : ∀ (x : Tm) (d d' : Nat) (L L' : Int), (jT d x L).2 = true → d' ≤ d → L ≤ L' → jT d' x L' = ((jT d x L).1 + (L' - L), true)
  | .mk v s l, d, d', L, L', h, hd, hL => by
    unfold jT at h ⊢
    by_cases h1 : 1 ≤ L ∧ d ≤ 40
    · rw [if_neg (not_not_intro h1)] at h ⊢
      rw [if_neg (not_not_intro (show 1 ≤ L' ∧ d' ≤ 40 by omega))]
      cases v with
      | true =>
        simp only [if_true] at h ⊢
        rw [h]
        simp only [Prod.mk.injEq, and_true]
        omega
      | false =>
        simp only [Bool.false_eq_true, if_false] at h ⊢
        by_cases h2 : l.length ≤ 4 ∧ isFun s = true
        · rw [if_pos h2] at h ⊢
          rw [if_pos h2]
          rw [jTs_mono l (d + 1) (d' + 1) (L - 1) (L' - 1) h (by omega) (by omega)]
          simp only [Prod.mk.injEq, and_true]
          omega
        · rw [if_neg h2] at h
          cases h
    · rw [if_pos h1] at h
      cases h
theorem jTs_mono : ∀ (l : List Tm) (d d' : Nat) (L L' : Int), (jTs d l L).2 = true → d' ≤ d → L ≤ L' → jTs d' l L' = ((jTs d l L).1 + (L' - L), true)
  | [], d, d', L, L', _, _, _ => by
    rw [jTs_nil, jTs_nil]
    simp only [Prod.mk.injEq, and_true]
    omega
  | x :: l, d, d', L, L', h, hd, hL => by
    rw [jTs_cons] at h ⊢
    rw [jTs_cons]
    by_cases h1 : (jT d x L).2 = true
    · rw [if_pos h1] at h ⊢
      rw [jT_mono x d d' L L' h1 hd hL]
      simp only [if_true]
      rw [jTs_mono l d d' _ _ h hd (show (jT d x L).1 ≤ (jT d x L).1 + (L' - L) by omega)]
      simp only [Prod.mk.injEq, and_true]
      omega
    · rw [if_neg h1] at h
      cases h
end
mutual
theorem jF_mono : ∀ (x : Fo) (d d' : Nat) (L L' : Int), (jF d x L).2 = true → d' ≤ d → L ≤ L' → jF d' x L' = ((jF d x L).1 + (L' - L), true)
  | .mk op s l m, d, d', L, L', h, hd, hL => by
    unfold jF at h ⊢
    by_cases h1 : ¬ (1 ≤ L ∧ d ≤ 40) ∨ 17 ≤ op
    · rw [if_pos h1] at h
      cases h
    · rw [if_neg h1] at h ⊢
      rw [if_neg (show ¬ (¬ (1 ≤ L' ∧ d' ≤ 40) ∨ 17 ≤ op) by omega)]
      by_cases h2 : rowK op = false
      · rw [if_pos h2] at h
        cases h
      · rw [if_neg h2] at h ⊢
        rw [if_neg h2]
        by_cases h3 : ¬ (nameOk (rowN op) s = true ∧ l.length ≤ rowA op ∧ m.length = rowS op)
        · rw [if_pos h3] at h
          cases h
        · rw [if_neg h3] at h ⊢
          rw [if_neg h3]
          by_cases h4 : (jTs (d + 1) l (L - 1)).2 = true
          · rw [if_pos h4] at h ⊢
            rw [jTs_mono l (d + 1) (d' + 1) (L - 1) (L' - 1) h4 (by omega) (by omega)]
            simp only [if_true]
            rw [jFs_mono m (d + 1) (d' + 1) _ _ h (by omega) (show (jTs (d + 1) l (L - 1)).1 ≤ (jTs (d + 1) l (L - 1)).1 + (L' - 1 - (L - 1)) by omega)]
            simp only [Prod.mk.injEq, and_true]
            omega
          · rw [if_neg h4] at h
            cases h
theorem jFs_mono : ∀ (l : List Fo) (d d' : Nat) (L L' : Int), (jFs d l L).2 = true → d' ≤ d → L ≤ L' → jFs d' l L' = ((jFs d l L).1 + (L' - L), true)
  | [], d, d', L, L', _, _, _ => by
    rw [jFs_nil, jFs_nil]
    simp only [Prod.mk.injEq, and_true]
    omega
  | x :: l, d, d', L, L', h, hd, hL => by
    rw [jFs_cons] at h ⊢
    rw [jFs_cons]
    by_cases h1 : (jF d x L).2 = true
    · rw [if_pos h1] at h ⊢
      rw [jF_mono x d d' L L' h1 hd hL]
      simp only [if_true]
      rw [jFs_mono l d d' _ _ h hd (show (jF d x L).1 ≤ (jF d x L).1 + (L' - L) by omega)]
      simp only [Prod.mk.injEq, and_true]
      omega
    · rw [if_neg h1] at h
      cases h
end
theorem jFs_mem : ∀ (m : List Fo) (d : Nat) (L : Int), 0 ≤ L → (jFs d m L).2 = true → ∀ y ∈ m, (jF d y L).2 = true
  | [], _, _, _, _, y, hy => by cases hy
  | x :: l, d, L, hL, h, y, hy => by
    rw [jFs_cons] at h
    by_cases h1 : (jF d x L).2 = true
    · rw [if_pos h1] at h
      rcases List.mem_cons.1 hy with rfl | hy
      · exact h1
      · have hb := jF_bd d x L hL
        have := jFs_mem l d _ (hb.2.2 h1) h y hy
        rw [jF_mono y d d _ L this (Nat.le_refl _) hb.2.1]
    · rw [if_neg h1] at h
      cases h
theorem jF_sub (op : Nat) (s : ByteArray) (l : List Tm) (m : List Fo) (d : Nat) (L : Int) (h : (jF d (.mk op s l m) L).2 = true) : ∀ y ∈ m, (jF d y L).2 = true := by
  intro y hy
  unfold jF at h
  by_cases h1 : ¬ (1 ≤ L ∧ d ≤ 40) ∨ 17 ≤ op
  · rw [if_pos h1] at h
    cases h
  rw [if_neg h1] at h
  by_cases h2 : rowK op = false
  · rw [if_pos h2] at h
    cases h
  rw [if_neg h2] at h
  by_cases h3 : ¬ (nameOk (rowN op) s = true ∧ l.length ≤ rowA op ∧ m.length = rowS op)
  · rw [if_pos h3] at h
    cases h
  rw [if_neg h3] at h
  by_cases h4 : (jTs (d + 1) l (L - 1)).2 = true
  · rw [if_pos h4] at h
    have hb := jTs_bd (d + 1) l (L - 1) (by omega)
    have := jFs_mem m (d + 1) _ (hb.2.2 h4) h y hy
    rw [jF_mono y (d + 1) d _ L this (by omega) (by omega)]
  · rw [if_neg h4] at h
    cases h
mutual
theorem jF_part : ∀ (x : Fo) (d : Nat) (L : Int), (jF d x L).2 = true → ∀ y ∈ fpart x, (jF d y L).2 = true
  | .mk op s l m, d, L, h, y, hy => by
    have h1 := jF_sub op s l m d L h
    rw [fpart_mk] at hy
    rcases List.mem_cons.1 hy with rfl | hy
    · exact h
    · exact jF_parts m d L h1 y hy
theorem jF_parts : ∀ (m : List Fo) (d : Nat) (L : Int), (∀ x ∈ m, (jF d x L).2 = true) → ∀ y ∈ fparts m, (jF d y L).2 = true
  | [], _, _, _, y, hy => by rw [fparts_nil] at hy; cases hy
  | x :: l, d, L, h, y, hy => by
    rw [fparts_cons] at hy
    rcases List.mem_append.1 hy with hy | hy
    · exact jF_part x d L (h x (List.mem_cons_self ..)) y hy
    · exact jF_parts l d L (fun z hz => h z (List.mem_cons_of_mem _ hz)) y hy
end

mutual
theorem kT_mono : ∀ (x : Tm) (d d' : Nat) (L L' : Int), (kT d x L).2 = true → d' ≤ d → L ≤ L' → kT d' x L' = ((kT d x L).1 + (L' - L), true)
  | .mk v s l, d, d', L, L', h, hd, hL => by
    unfold kT at h ⊢
    by_cases h1 : 1 ≤ L ∧ d ≤ 40
    · rw [if_neg (not_not_intro h1)] at h ⊢
      rw [if_neg (not_not_intro (show 1 ≤ L' ∧ d' ≤ 40 by omega))]
      cases v with
      | true =>
        simp only [if_true] at h ⊢
        rw [h]
        simp only [Prod.mk.injEq, and_true]
        omega
      | false =>
        simp only [Bool.false_eq_true, if_false] at h ⊢
        by_cases h2 : l.length ≤ 4 ∧ isFun s = true
        · rw [if_pos h2] at h ⊢
          rw [if_pos h2]
          rw [kTs_mono l (d + 1) (d' + 1) (L - 1) (L' - 1) h (by omega) (by omega)]
          simp only [Prod.mk.injEq, and_true]
          omega
        · rw [if_neg h2] at h
          cases h
    · rw [if_pos h1] at h
      cases h
theorem kTs_mono : ∀ (l : List Tm) (d d' : Nat) (L L' : Int), (kTs d l L).2 = true → d' ≤ d → L ≤ L' → kTs d' l L' = ((kTs d l L).1 + (L' - L), true)
  | [], d, d', L, L', _, _, _ => by
    rw [kTs_nil, kTs_nil]
    simp only [Prod.mk.injEq, and_true]
    omega
  | x :: l, d, d', L, L', h, hd, hL => by
    rw [kTs_cons] at h ⊢
    rw [kTs_cons]
    by_cases h1 : (kT d x L).2 = true
    · rw [if_pos h1] at h ⊢
      rw [kT_mono x d d' L L' h1 hd hL]
      simp only [if_true]
      rw [kTs_mono l d d' _ _ h hd (show (kT d x L).1 ≤ (kT d x L).1 + (L' - L) by omega)]
      simp only [Prod.mk.injEq, and_true]
      omega
    · rw [if_neg h1] at h
      cases h
end
mutual
theorem kF_mono : ∀ (x : Fo) (d d' : Nat) (L L' : Int), (kF d x L).2 = true → d' ≤ d → L ≤ L' → kF d' x L' = ((kF d x L).1 + (L' - L), true)
  | .mk op s l m, d, d', L, L', h, hd, hL => by
    unfold kF at h ⊢
    by_cases h1 : ¬ (1 ≤ L ∧ d ≤ 40) ∨ 17 ≤ op
    · rw [if_pos h1] at h
      cases h
    · rw [if_neg h1] at h ⊢
      rw [if_neg (show ¬ (¬ (1 ≤ L' ∧ d' ≤ 40) ∨ 17 ≤ op) by omega)]
      by_cases h2 : rowJ op = false
      · rw [if_pos h2] at h
        cases h
      · rw [if_neg h2] at h ⊢
        rw [if_neg h2]
        by_cases h3 : ¬ (nameK (rowN op) s = true ∧ l.length ≤ rowA op ∧ m.length = rowS op)
        · rw [if_pos h3] at h
          cases h
        · rw [if_neg h3] at h ⊢
          rw [if_neg h3]
          by_cases h5 : op = 16 ∧ instOk l = false
          · rw [if_pos h5] at h
            cases h
          rw [if_neg h5] at h ⊢
          rw [if_neg h5]
          by_cases h4 : (kTs (d + 1) l (L - 1)).2 = true
          · rw [if_pos h4] at h ⊢
            rw [kTs_mono l (d + 1) (d' + 1) (L - 1) (L' - 1) h4 (by omega) (by omega)]
            simp only [if_true]
            rw [kFs_mono m (d + 1) (d' + 1) _ _ h (by omega) (show (kTs (d + 1) l (L - 1)).1 ≤ (kTs (d + 1) l (L - 1)).1 + (L' - 1 - (L - 1)) by omega)]
            simp only [Prod.mk.injEq, and_true]
            omega
          · rw [if_neg h4] at h
            cases h
theorem kFs_mono : ∀ (l : List Fo) (d d' : Nat) (L L' : Int), (kFs d l L).2 = true → d' ≤ d → L ≤ L' → kFs d' l L' = ((kFs d l L).1 + (L' - L), true)
  | [], d, d', L, L', _, _, _ => by
    rw [kFs_nil, kFs_nil]
    simp only [Prod.mk.injEq, and_true]
    omega
  | x :: l, d, d', L, L', h, hd, hL => by
    rw [kFs_cons] at h ⊢
    rw [kFs_cons]
    by_cases h1 : (kF d x L).2 = true
    · rw [if_pos h1] at h ⊢
      rw [kF_mono x d d' L L' h1 hd hL]
      simp only [if_true]
      rw [kFs_mono l d d' _ _ h hd (show (kF d x L).1 ≤ (kF d x L).1 + (L' - L) by omega)]
      simp only [Prod.mk.injEq, and_true]
      omega
    · rw [if_neg h1] at h
      cases h
end
theorem kFs_mem : ∀ (m : List Fo) (d : Nat) (L : Int), 0 ≤ L → (kFs d m L).2 = true → ∀ y ∈ m, (kF d y L).2 = true
  | [], _, _, _, _, y, hy => by cases hy
  | x :: l, d, L, hL, h, y, hy => by
    rw [kFs_cons] at h
    by_cases h1 : (kF d x L).2 = true
    · rw [if_pos h1] at h
      rcases List.mem_cons.1 hy with rfl | hy
      · exact h1
      · have hb := kF_bd d x L hL
        have := kFs_mem l d _ (hb.2.2 h1) h y hy
        rw [kF_mono y d d _ L this (Nat.le_refl _) hb.2.1]
    · rw [if_neg h1] at h
      cases h
theorem kF_sub (op : Nat) (s : ByteArray) (l : List Tm) (m : List Fo) (d : Nat) (L : Int) (h : (kF d (.mk op s l m) L).2 = true) : ∀ y ∈ m, (kF d y L).2 = true := by
  intro y hy
  unfold kF at h
  by_cases h1 : ¬ (1 ≤ L ∧ d ≤ 40) ∨ 17 ≤ op
  · rw [if_pos h1] at h
    cases h
  rw [if_neg h1] at h
  by_cases h2 : rowJ op = false
  · rw [if_pos h2] at h
    cases h
  rw [if_neg h2] at h
  by_cases h3 : ¬ (nameK (rowN op) s = true ∧ l.length ≤ rowA op ∧ m.length = rowS op)
  · rw [if_pos h3] at h
    cases h
  rw [if_neg h3] at h
  by_cases h5 : op = 16 ∧ instOk l = false
  · rw [if_pos h5] at h
    cases h
  rw [if_neg h5] at h
  by_cases h4 : (kTs (d + 1) l (L - 1)).2 = true
  · rw [if_pos h4] at h
    have hb := kTs_bd (d + 1) l (L - 1) (by omega)
    have := kFs_mem m (d + 1) _ (hb.2.2 h4) h y hy
    rw [kF_mono y (d + 1) d _ L this (by omega) (by omega)]
  · rw [if_neg h4] at h
    cases h
mutual
theorem kF_part : ∀ (x : Fo) (d : Nat) (L : Int), (kF d x L).2 = true → ∀ y ∈ fpart x, (kF d y L).2 = true
  | .mk op s l m, d, L, h, y, hy => by
    have h1 := kF_sub op s l m d L h
    rw [fpart_mk] at hy
    rcases List.mem_cons.1 hy with rfl | hy
    · exact h
    · exact kF_parts m d L h1 y hy
theorem kF_parts : ∀ (m : List Fo) (d : Nat) (L : Int), (∀ x ∈ m, (kF d x L).2 = true) → ∀ y ∈ fparts m, (kF d y L).2 = true
  | [], _, _, _, y, hy => by rw [fparts_nil] at hy; cases hy
  | x :: l, d, L, h, y, hy => by
    rw [fparts_cons] at hy
    rcases List.mem_append.1 hy with hy | hy
    · exact kF_part x d L (h x (List.mem_cons_self ..)) y hy
    · exact kF_parts l d L (fun z hz => h z (List.mem_cons_of_mem _ hz)) y hy
end

/-! ### what is right is a right schema -/
theorem row_sch : ∀ op, op < 17 → rowK op = true → rowJ op = true ∧ rowN op ≠ 3 ∧ op ≠ 16 := by decide
mutual
theorem jT_k : ∀ (x : Tm) (d : Nat) (L : Int), (jT d x L).2 = true → kT d x L = jT d x L
  | .mk v s l, d, L, h => by
    unfold jT at h
    unfold jT kT
    by_cases h1 : 1 ≤ L ∧ d ≤ 40
    · rw [if_neg (not_not_intro h1)] at h
      rw [if_neg (not_not_intro h1), if_neg (not_not_intro h1)]
      cases v with
      | true =>
        simp only [if_true, Bool.and_eq_true] at h ⊢
        rw [h.2]
        simp
      | false =>
        simp only [Bool.false_eq_true, if_false] at h ⊢
        by_cases h2 : l.length ≤ 4 ∧ isFun s = true
        · rw [if_pos h2] at h
          rw [if_pos h2, if_pos h2]
          exact jTs_k l (d + 1) (L - 1) h
        · rw [if_neg h2] at h
          cases h
    · rw [if_pos h1] at h
      cases h
theorem jTs_k : ∀ (l : List Tm) (d : Nat) (L : Int), (jTs d l L).2 = true → kTs d l L = jTs d l L
  | [], d, L, _ => by rw [jTs_nil, kTs_nil]
  | x :: l, d, L, h => by
    rw [jTs_cons] at h
    by_cases h1 : (jT d x L).2 = true
    · rw [if_pos h1] at h
      rw [jTs_cons, kTs_cons, jT_k x d L h1, if_pos h1, if_pos h1]
      exact jTs_k l d _ h
    · rw [if_neg h1] at h
      cases h
end
mutual
theorem jF_k : ∀ (x : Fo) (d : Nat) (L : Int), (jF d x L).2 = true → kF d x L = jF d x L
  | .mk op s l m, d, L, h => by
    unfold jF at h
    unfold jF kF
    by_cases h1 : ¬ (1 ≤ L ∧ d ≤ 40) ∨ 17 ≤ op
    · rw [if_pos h1] at h
      cases h
    rw [if_neg h1] at h
    rw [if_neg h1, if_neg h1]
    by_cases h2 : rowK op = false
    · rw [if_pos h2] at h
      cases h
    obtain ⟨q1, q2, q3⟩ := row_sch op (by omega) (by simpa using h2)
    rw [if_neg h2] at h
    rw [if_neg h2, if_neg (by rw [q1]; simp)]
    have hn : nameK (rowN op) s = nameOk (rowN op) s := by unfold nameK; rw [if_neg q2]
    rw [hn]
    by_cases h3 : ¬ (nameOk (rowN op) s = true ∧ l.length ≤ rowA op ∧ m.length = rowS op)
    · rw [if_pos h3] at h
      cases h
    rw [if_neg h3] at h
    rw [if_neg h3, if_neg h3, if_neg (fun e => q3 e.1)]
    by_cases h4 : (jTs (d + 1) l (L - 1)).2 = true
    · rw [if_pos h4] at h
      rw [jTs_k l _ _ h4, if_pos h4, if_pos h4]
      exact jFs_k m _ _ h
    · rw [if_neg h4] at h
      cases h
theorem jFs_k : ∀ (l : List Fo) (d : Nat) (L : Int), (jFs d l L).2 = true → kFs d l L = jFs d l L
  | [], d, L, _ => by rw [jFs_nil, kFs_nil]
  | x :: l, d, L, h => by
    rw [jFs_cons] at h
    by_cases h1 : (jF d x L).2 = true
    · rw [if_pos h1] at h
      rw [jFs_cons, kFs_cons, jF_k x d L h1, if_pos h1, if_pos h1]
      exact jFs_k l d _ h
    · rw [if_neg h1] at h
      cases h
end
theorem right_schema (f : Fo) (h : (jF 1 f 400).2 = true) : (kF 1 f 400).2 = true := by rw [jF_k f 1 400 h]; exact h
end Go.Proofs.YtejegcmnddedmaaGreatDoor
/-! text WC02z -/
namespace Go.Proofs.YtejegcmnddedmaaGreatDoor
open Go.Vsi
set_option maxHeartbeats 2000000

/-! ### a right formula with one fault -/
theorem jF_row {d : Nat} {op : Nat} {s : ByteArray} {l : List Tm} {m : List Fo} {L : Int} (h : (jF d (.mk op s l m) L).2 = true) : op < 17 ∧ rowK op = true ∧ nameOk (rowN op) s = true ∧ l.length ≤ rowA op ∧ m.length = rowS op ∧ 1 ≤ L ∧ d ≤ 40 ∧ (jTs (d + 1) l (L - 1)).2 = true := by
  unfold jF at h
  by_cases h1 : ¬ (1 ≤ L ∧ d ≤ 40) ∨ 17 ≤ op
  · rw [if_pos h1] at h
    cases h
  rw [if_neg h1] at h
  by_cases h2 : rowK op = false
  · rw [if_pos h2] at h
    cases h
  rw [if_neg h2] at h
  by_cases h3 : ¬ (nameOk (rowN op) s = true ∧ l.length ≤ rowA op ∧ m.length = rowS op)
  · rw [if_pos h3] at h
    cases h
  rw [if_neg h3] at h
  by_cases h4 : (jTs (d + 1) l (L - 1)).2 = true
  · have h3 := Decidable.not_not.1 h3
    exact ⟨by omega, by simpa using h2, h3.1, h3.2.1, h3.2.2, by omega, by omega, h4⟩
  · rw [if_neg h4] at h
    cases h
theorem jTs_mem : ∀ (l : List Tm) (d : Nat) (L : Int), 0 ≤ L → (jTs d l L).2 = true → ∀ y ∈ l, (jT d y L).2 = true
  | [], _, _, _, _, y, hy => by cases hy
  | x :: l, d, L, hL, h, y, hy => by
    rw [jTs_cons] at h
    by_cases h1 : (jT d x L).2 = true
    · rw [if_pos h1] at h
      rcases List.mem_cons.1 hy with rfl | hy
      · exact h1
      · have hb := jT_bd d x L hL
        have := jTs_mem l d _ (hb.2.2 h1) h y hy
        rw [jT_mono y d d _ L this (Nat.le_refl _) hb.2.1]
    · rw [if_neg h1] at h
      cases h
def aUnd : ByteArray := ⟨#[95]⟩
def aUntil : ByteArray := ⟨#[117, 110, 116, 105, 108]⟩
def aMeta : ByteArray := ⟨#[63, 65]⟩
def tmA : Tm := .mk false ⟨#[97]⟩ []
def foPq : Fo := .mk 1 ⟨#[80]⟩ [] []
def foMeta : Fo := .mk 15 aMeta [] []
def badF (c : Nat) : Fo → Fo
  | .mk o s l m => match c with
    | 0 => .mk 0 s l m
    | 1 => .mk 17 s l m
    | 2 => .mk o (s ++ aUnd) l m
    | 3 => .mk o s l (m ++ [foPq])
    | 4 => .mk o s (l ++ [tm0]) m
    | 5 => foMeta
    | 6 => .mk o s (l ++ [tmA, tmA, tmA, tmA, tmA]) m
    | _ => .mk o aUntil l m
theorem bt_und (s : ByteArray) : bt (s ++ aUnd) s.size = 95 := by
  unfold bt
  rw [ByteArray.data_append]
  have : s.size = s.data.toList.length := by simp
  rw [this, Array.toList_append]
  simp [aUnd]
theorem size_und (s : ByteArray) : (s ++ aUnd).size = s.size + 1 := by
  rw [ByteArray.size_append]; rfl
theorem nameB_und (p q : UInt8 → Bool) (hq : q 95 = false) (s : ByteArray) (h : 1 ≤ s.size) : nameB p q (s ++ aUnd) = false := by
  cases hb : nameB p q (s ++ aUnd) with
  | false => rfl
  | true =>
    unfold nameB at hb
    simp only [Bool.and_eq_true, List.all_eq_true, List.mem_range'_1] at hb
    have := hb.2.2.2 s.size ⟨h, by rw [size_und]; omega⟩
    rw [bt_und, hq] at this
    cases this
theorem nameB_size {p q : UInt8 → Bool} {s : ByteArray} (h : nameB p q s = true) : 1 ≤ s.size ∧ s.size ≤ 16 := by
  unfold nameB at h
  simp only [Bool.and_eq_true, decide_eq_true_eq] at h
  exact h.1
theorem empty_size {s : ByteArray} (h : emptyB s = true) : s.size = 0 := by
  unfold emptyB at h
  rw [beq_iff_eq, ByteArray.toList_eq, ByteArray.toList_eq] at h
  have := congrArg List.length h
  simpa using this
theorem size_empty {s : ByteArray} (h : s.size ≠ 0) : emptyB s = false := by
  cases hb : emptyB s with
  | false => rfl
  | true => exact absurd (empty_size hb) h
theorem nameOk_size {k : Nat} {s : ByteArray} (h : nameOk k s = true) : s.size ≤ 16 := by
  unfold nameOk at h
  split at h
  · exact (nameB_size h).2
  · split at h
    · exact (nameB_size h).2
    · have := empty_size h; omega
theorem nameOk_und {k : Nat} {s : ByteArray} (h : nameOk k s = true) : nameOk k (s ++ aUnd) = false := by
  unfold nameOk at h ⊢
  split at h
  · rename_i hk
    rw [if_pos hk]
    exact nameB_und _ _ (by decide) s (nameB_size h).1
  · rename_i hk
    rw [if_neg hk]
    split at h
    · rename_i hk2
      rw [if_pos hk2]
      exact nameB_und _ _ (by decide) s (nameB_size h).1
    · rename_i hk2
      rw [if_neg hk2]
      exact size_empty (by rw [size_und]; omega)
theorem nameOk_until (k : Nat) : nameOk k aUntil = false := by
  unfold nameOk
  split
  · decide +kernel
  · split
    · decide +kernel
    · exact size_empty (by decide)
theorem rowA_le : ∀ op, op < 17 → rowA op ≤ 4 := by decide
theorem rowS_le : ∀ op, op < 17 → rowS op ≤ 2 := by decide
theorem bad_wrong (c : Nat) : ∀ (g : Fo) (d : Nat) (L : Int), (jF d g L).2 = true → (jF d (badF c g) L).2 = false
  | .mk o s l m, d, L, h => by
    obtain ⟨h1, h2, h3, h4, h5, h6, h7, h8⟩ := jF_row h
    have no : ∀ x : Fo, ((jF d x L).2 = true → False) → (jF d x L).2 = false := fun x hx => by
      cases hb : (jF d x L).2 with
      | false => rfl
      | true => exact (hx hb).elim
    match c with
    | 0 =>
      exact no (.mk 0 s l m) fun q => by
        have := (jF_row q).2.1
        cases this
    | 1 =>
      exact no (.mk 17 s l m) fun q => by
        have := (jF_row q).1
        omega
    | 2 =>
      exact no (.mk o (s ++ aUnd) l m) fun q => by
        have := (jF_row q).2.2.1
        rw [nameOk_und h3] at this
        cases this
    | 3 =>
      exact no (.mk o s l (m ++ [foPq])) fun q => by
        have := (jF_row q).2.2.2.2.1
        rw [List.length_append, List.length_singleton] at this
        omega
    | 4 =>
      exact no (.mk o s (l ++ [tm0]) m) fun q => by
        obtain ⟨q1, q2, q3, q4, q5, q6, q7, q8⟩ := jF_row q
        have := jTs_mem _ _ _ (by omega) q8 tm0 (by simp)
        unfold jT tm0 at this
        dsimp only at this
        by_cases hc : 1 ≤ L - 1 ∧ d + 1 ≤ 40
        · rw [if_neg (not_not_intro hc)] at this
          simp only [Bool.false_eq_true, if_false] at this
          rw [if_neg (by rintro ⟨-, hf⟩; exact absurd (nameB_size hf).1 (by decide))] at this
          cases this
        · rw [if_pos hc] at this
          cases this
    | 5 =>
      exact no foMeta fun q => by
        have := (jF_row q).2.1
        cases this
    | 6 =>
      exact no (.mk o s (l ++ [tmA, tmA, tmA, tmA, tmA]) m) fun q => by
        have := (jF_row q).2.2.2.1
        have h9 := rowA_le o h1
        rw [List.length_append] at this
        simp only [List.length_cons, List.length_nil] at this
        omega
    | _ + 7 =>
      exact no (.mk o aUntil l m) fun q => by
        have := (jF_row q).2.2.1
        rw [nameOk_until] at this
        cases this
/-! where it stands -/
theorem jF_find : ∀ (pl : List Int) (f g : Fo) (d : Nat) (L : Int), findF f pl = some g → (jF d f L).2 = true → (jF d g L).2 = true
  | [], f, g, d, L, h, hj => by rw [findF_nil] at h; cases h; exact hj
  | i :: r, .mk o s l m, g, d, L, h, hj => by
    rw [findF_cons] at h
    split at h
    · rename_i hi
      have hlt : i.toNat < m.length := by have h1 : i < (m.length : Int) := hi.2; omega
      exact jF_find r _ g d L h (jF_sub o s l m d L hj _ (getD_memT m i.toNat fo0 hlt))
    · cases h
theorem find_put0 : ∀ (pl : List Int) (f p g : Fo), findF f pl = some g → findF (putF pl f p) pl = some p
  | [], f, p, g, h => by rw [findF_nil]; rfl
  | i :: r, .mk o s l m, p, g, h => by
    rw [findF_cons] at h
    split at h
    case isFalse => cases h
    rename_i hi
    have hlt : i.toNat < m.length := by have h1 : i < (m.length : Int) := hi.2; omega
    rw [putF_cons, findF_cons]
    have hlen : (subs (Fo.mk o s l (m.set i.toNat (putF r (m.getD i.toNat fo0) p)))).length = m.length := by simp [subs]
    rw [if_pos ⟨hi.1, by rw [hlen]; exact hi.2⟩]
    show findF ((m.set i.toNat _).getD i.toNat fo0) r = some p
    rw [show (m.set i.toNat (putF r (m.getD i.toNat fo0) p)).getD i.toNat fo0 = putF r (m.getD i.toNat fo0) p from by simp [List.getD_eq_getElem?_getD, hlt]]
    exact find_put0 r _ p g h
theorem wrong_right (c : Nat) (f g : Fo) (pl : List Int) (hf : findF f pl = some g) (hr : (jF 1 f 400).2 = true) : (jF 1 (putF pl f (badF c g)) 400).2 = false := by
  have h1 := bad_wrong c g 1 400 (jF_find pl f g 1 400 hf hr)
  cases hb : (jF 1 (putF pl f (badF c g)) 400).2 with
  | false => rfl
  | true =>
    have := jF_find pl _ _ 1 400 (find_put0 pl f (badF c g) g hf) hb
    rw [h1] at this
    cases this
/-! a schema instead of a part -/
theorem kFs_set : ∀ (m : List Fo) (i : Nat) (x : Fo) (d : Nat) (L : Int), i < m.length → (kFs d m L).2 = true → (∀ L', (kF d (m.getD i fo0) L').2 = true → ∃ N, kF d x L' = (N, true) ∧ (kF d (m.getD i fo0) L').1 ≤ N) → ∃ N, kFs d (m.set i x) L = (N, true) ∧ (kFs d m L).1 ≤ N
  | [], i, x, d, L, hi, _, _ => absurd hi (Nat.not_lt_zero _)
  | y :: m, 0, x, d, L, _, h, hx => by
    rw [kFs_cons] at h ⊢
    by_cases h1 : (kF d y L).2 = true
    · rw [if_pos h1] at h ⊢
      obtain ⟨N, h2, h3⟩ := hx L h1
      change (kF d y L).1 ≤ N at h3
      rw [List.set_cons_zero, kFs_cons, h2]
      simp only [if_true]
      have := kFs_mono m d d (kF d y L).1 N h (Nat.le_refl _) h3
      exact ⟨_, this, by omega⟩
    · rw [if_neg h1] at h
      cases h
  | y :: m, i + 1, x, d, L, hi, h, hx => by
    rw [kFs_cons] at h ⊢
    by_cases h1 : (kF d y L).2 = true
    · rw [if_pos h1] at h ⊢
      rw [List.set_cons_succ, kFs_cons, if_pos h1]
      exact kFs_set m i x d _ (by simpa using hi) h hx
    · rw [if_neg h1] at h
      cases h
theorem kF_put : ∀ (pl : List Int) (f p g : Fo) (d : Nat) (L : Int), findF f pl = some g → (kF d f L).2 = true → (∀ d' L', (kF d' g L').2 = true → ∃ N, kF d' p L' = (N, true) ∧ (kF d' g L').1 ≤ N) → ∃ N, kF d (putF pl f p) L = (N, true) ∧ (kF d f L).1 ≤ N
  | [], f, p, g, d, L, h, hk, hp => by rw [findF_nil] at h; cases h; exact hp d L hk
  | i :: r, .mk op s l m, p, g, d, L, h, hk, hp => by
    rw [findF_cons] at h
    split at h
    case isFalse => cases h
    rename_i hi
    have hlt : i.toNat < m.length := by have h1 : i < (m.length : Int) := hi.2; omega
    have ih := fun d' L' hk' => kF_put r (m.getD i.toNat fo0) p g d' L' h hk' hp
    rw [putF_cons]
    unfold kF at hk ⊢
    rw [List.length_set]
    by_cases h1 : ¬ (1 ≤ L ∧ d ≤ 40) ∨ 17 ≤ op
    · rw [if_pos h1] at hk
      cases hk
    rw [if_neg h1] at hk ⊢
    rw [if_neg h1]
    by_cases h2 : rowJ op = false
    · rw [if_pos h2] at hk
      cases hk
    rw [if_neg h2] at hk ⊢
    rw [if_neg h2]
    by_cases h3 : ¬ (nameK (rowN op) s = true ∧ l.length ≤ rowA op ∧ m.length = rowS op)
    · rw [if_pos h3] at hk
      cases hk
    rw [if_neg h3] at hk ⊢
    rw [if_neg h3]
    by_cases h5 : op = 16 ∧ instOk l = false
    · rw [if_pos h5] at hk
      cases hk
    rw [if_neg h5] at hk ⊢
    rw [if_neg h5]
    by_cases h4 : (kTs (d + 1) l (L - 1)).2 = true
    · rw [if_pos h4] at hk ⊢
      rw [if_pos h4]
      exact kFs_set m i.toNat _ (d + 1) _ hlt hk (fun L' hk' => ih (d + 1) L' hk')
    · rw [if_neg h4] at hk
      cases hk
theorem isFM_meta : isFM aMeta = true := by decide +kernel
theorem kF_meta (d : Nat) (L : Int) (h : 1 ≤ L ∧ d ≤ 40) : kF d foMeta L = (L - 1, true) := by
  unfold foMeta kF
  rw [if_neg (show ¬ (¬ (1 ≤ L ∧ d ≤ 40) ∨ 17 ≤ 15) by omega), if_neg (by decide), if_neg (by
    refine not_not_intro ⟨?_, by decide, by decide⟩
    show nameK 3 aMeta = true
    unfold nameK
    rw [if_pos rfl]
    exact isFM_meta), if_neg (by decide), kTs_nil]
  simp only [if_true]
  rw [kFs_nil]
theorem kF_le {d : Nat} {g : Fo} {L : Int} (h : (kF d g L).2 = true) : 1 ≤ L ∧ d ≤ 40 ∧ (kF d g L).1 ≤ L - 1 := by
  obtain ⟨op, s, l, m, rfl⟩ : ∃ op s l m, g = .mk op s l m := by cases g with | mk o s l m => exact ⟨o, s, l, m, rfl⟩
  unfold kF at h ⊢
  by_cases h1 : ¬ (1 ≤ L ∧ d ≤ 40) ∨ 17 ≤ op
  · rw [if_pos h1] at h
    cases h
  rw [if_neg h1] at h ⊢
  refine ⟨by omega, by omega, ?_⟩
  by_cases h2 : rowJ op = false
  · rw [if_pos h2] at h
    cases h
  rw [if_neg h2] at h ⊢
  by_cases h3 : ¬ (nameK (rowN op) s = true ∧ l.length ≤ rowA op ∧ m.length = rowS op)
  · rw [if_pos h3] at h
    cases h
  rw [if_neg h3] at h ⊢
  by_cases h5 : op = 16 ∧ instOk l = false
  · rw [if_pos h5] at h
    cases h
  rw [if_neg h5] at h ⊢
  have hb := kTs_bd (d + 1) l (L - 1) (by omega)
  by_cases h4 : (kTs (d + 1) l (L - 1)).2 = true
  · rw [if_pos h4] at h ⊢
    have := (kFs_bd (d + 1) m _ (hb.2.2 h4)).2.1
    omega
  · rw [if_neg h4] at h
    cases h
theorem meta_schema (f g : Fo) (pl : List Int) (hf : findF f pl = some g) (hr : (jF 1 f 400).2 = true) : (kF 1 (putF pl f foMeta) 400).2 = true := by
  obtain ⟨N, h1, -⟩ := kF_put pl f foMeta g 1 400 hf (right_schema f hr) fun d' L' hk => by
    obtain ⟨q1, q2, q3⟩ := kF_le hk
    exact ⟨_, kF_meta d' L' ⟨q1, q2⟩, q3⟩
  rw [h1]
end Go.Proofs.YtejegcmnddedmaaGreatDoor
/-! text UE02z -/
namespace Go.Proofs.YtejegcmnddedmaaGreatDoor
open Go.Vsi
set_option maxHeartbeats 4000000
attribute [local irreducible] VW VCall VO bits

/-! ### syntax.With, the walk -/
theorem FW.agg {n0 : Nat} {loc : Heap} {l m : List AV} (h : FWL n0 loc l m) : FW n0 loc (.agg l) (.agg m) := by
  obtain ⟨l', h1, h2⟩ := h
  exact ⟨_, .agg h1, wk_agg h2⟩
theorem FW.tup {n0 : Nat} {loc : Heap} {l m : List AV} (h : FWL n0 loc l m) : FW n0 loc (.tup l) (.tup m) := by
  obtain ⟨l', h1, h2⟩ := h
  exact ⟨_, .tup h1, wk_tup h2⟩
theorem endFW {H loc : Heap} {u v : AV} (hb : below H.length v) (h : FW H.length loc u v) : EndN H H loc u (detR H v) := by
  obtain ⟨u', h1, h2⟩ := h
  exact EndN.detF hb h1 h2
theorem cells4_size (f : Fo) (h : AV) : (cells4 f h).length = 4 := by
  obtain ⟨o, s, l, m, rfl⟩ := fo_ex f
  rfl
/-- the element of a list in the middle of a place -/
theorem mid_nth (n i : Nat) (hi : i < n) (f : Nat → List AV) : f ((List.range n).getD i 0) = f i := by
  congr 1
  rw [List.getD_eq_getElem?_getD, List.getElem?_range hi]
  rfl
theorem withN_c (f : Fo) (hg : f.good) (p : Fo) (pl : List Int) (hl : pl.length ≤ 9223372036854775807) (hn : findF f pl = none) (H : Heap) : VDet Tryz.prog 14 [.agg f.cells, .sl none pl.length (pl.flatMap encI), .agg p.cells] H (.tup [.agg fo0.cells, .int .i64 6]) := by
  have h1 := find_c f hg pl hl
  rw [hn] at h1
  unfold findA at h1
  simp only at h1
  obtain ⟨op, s, l, m, rfl⟩ := fo_ex f
  obtain ⟨po, ps, pa, pm, rfl⟩ := fo_ex p
  rw [fo0_cells] at h1 ⊢
  rw [Fo.cells_mk, Fo.cells_mk]
  rw [Fo.cells_mk] at h1
  refine fn_det Tryz.E0 Tryz.mx Tryz.func14 (by kernel_rfl) rfl (Nat.le_of_ble_eq_true rfl) rfl fun hcl hbl => ?_
  (repeat' ((conv => whnf); (first | (refine IfN.id ?_; first | refine IfN.not ?_ | refine IfN.ff rfl ?_ | fail) | (refine CallN.id ?_; first | refine CallN.det _ (h1 _) ?_ | fail) | refine DrawN.mk' [] ?_ | fail))); all_goals (conv => whnf)
  exact EndN.det (by simp [below, belowL]) (wk_tup ⟨wk_agg ⟨Wk.refl _, Wk.refl _, wk_nils, wk_nils, trivial⟩, Wk.refl _, trivial⟩)
theorem with0_c (f : Fo) (hg : f.good) (hf : f.fit) (p : Fo) (hpf : p.fit) (H : Heap) : VDet Tryz.prog 14 [.agg f.cells, .sl none 0 [], .agg p.cells] H (.tup [.agg p.cells, .int .i64 0]) := by
  have h1 := find_c f hg [] (by simp)
  rw [findF_nil] at h1
  unfold findA at h1
  simp only at h1
  have h2 := syF_g f hf
  have h3 := syF_g p hpf
  unfold SyF at h2 h3
  obtain ⟨op, s, l, m, rfl⟩ := fo_ex f
  obtain ⟨po, ps, pa, pm, rfl⟩ := fo_ex p
  rw [Fo.cells_mk] at h1 h2 h3
  rw [Fo.cells_mk, Fo.cells_mk]
  simp only [List.length_nil, List.flatMap_nil] at h1
  refine fn_det Tryz.E0 Tryz.mx Tryz.func14 (by kernel_rfl) rfl (Nat.le_of_ble_eq_true rfl) rfl fun hcl hbl => ?_
  (repeat' ((conv => whnf); (first | (refine IfN.id ?_; first | refine IfN.not ?_ | refine IfN.tt rfl ?_ | fail) | (refine CallN.id ?_; first | refine CallN.det _ (h1 _) ?_ | refine CallN.det _ (h2 _) ?_ | fail) | refine DrawN.mk' [] ?_ | fail))); all_goals (conv => whnf)
  refine LoopN.rounds Tryz.E0 Tryz.mx 1 rfl ?_
  (repeat' ((conv => whnf); (first | (refine IfN.id ?_; first | refine IfN.ff rfl ?_ | fail) | (refine CallN.id ?_; first | refine CallN.det _ (h3 _) ?_ | fail) | refine DrawN.mk' [] ?_ | fail))); all_goals (conv => whnf)
  exact EndN.det (by simp [below, belowL, tms_below, fos_below]) (Wk.refl _)
theorem pl_drop1 {pl : List Int} {j : Nat} {i : Int} {r : List Int} (h : pl.drop j = i :: r) : pl.drop (j + 1) = r ∧ j < pl.length ∧ pl.getD j 0 = i := by
  have hlt : j < pl.length := by
    rcases Nat.lt_or_ge j pl.length with h1 | h1
    · exact h1
    · rw [List.drop_of_length_le h1] at h; cases h
  rw [drop_cons pl 0 j hlt] at h
  injection h with h1 h2
  exact ⟨h2, hlt, h1⟩
/-- what holds on the way -/
structure MidI (f : Fo) (pl : List Int) (j : Nat) (g : Fo) : Prop where
  ne : pl.drop j ≠ []
  fd : findF g (pl.drop j) ≠ none
  good : g.good
  li : lastI (pl.drop j) = lastI pl
theorem range_getD (n i : Nat) (hi : i < n) : (List.range n).getD i 0 = i := by
  rw [List.getD_eq_getElem?_getD, List.getElem?_range hi]
  rfl
theorem head_cases (q : Nat) (i : Int) (r : List Int) (g : Fo) (hfd : findF g (i :: r) ≠ none) : 0 ≤ i ∧ i < ((subs g).length : Int) ∧ ((r = [] ∧ (headP true (i :: r) g).av true q = .ms q 0 (subs g).length) ∨
    (r ≠ [] ∧ findF ((subs g).getD i.toNat fo0) r ≠ none ∧ ∃ F : Nat → List AV, (headP true (i :: r) g).av true q = .sl none (subs g).length ((List.range (subs g).length).flatMap F) ∧ (∀ k, (F k).length = 4) ∧ F ((List.range (subs g).length).getD i.toNat 0) = cells4 ((subs g).getD i.toNat fo0) ((headP true r ((subs g).getD i.toNat fo0)).av true q))) := by
  rw [findF_cons] at hfd
  split at hfd
  case isFalse => exact absurd rfl hfd
  rename_i hin
  refine ⟨hin.1, hin.2, ?_⟩
  cases r with
  | nil => exact .inl ⟨rfl, rfl⟩
  | cons j r' =>
    refine .inr ⟨by simp, hfd, (fun k => if k = i.toNat then cells4 ((subs g).getD i.toNat fo0) ((headP true (j :: r') ((subs g).getD i.toNat fo0)).av true q) else ((subs g).getD k fo0).cells), rfl, fun k => ?_, ?_⟩
    · dsimp only
      split
      · exact cells4_size _ _
      · exact fo_size _
    · dsimp only
      rw [if_pos (range_getD (subs g).length i.toNat (by omega))]
theorem lastI_cons (i : Int) (r : List Int) (h : r ≠ []) : lastI (i :: r) = lastI r := by
  cases r with
  | nil => exact absurd rfl h
  | cons j r => rfl
theorem with1_c (f : Fo) (hg : f.good) (hf : f.fit) (p : Fo) (hpf : p.fit) (i : Int) (r : List Int) (hl : (i :: r).length ≤ 9223372036854775807) (g0 : Fo) (hn : findF f (i :: r) = some g0) (H : Heap) : VDet Tryz.prog 14 [.agg f.cells, .sl none (i :: r).length ((i :: r).flatMap encI), .agg p.cells] H (.tup [.agg (putF (i :: r) f p).cells, .int .i64 0]) := by
  have h1 := find_c f hg (i :: r) hl
  rw [hn] at h1
  unfold findA at h1
  simp only at h1
  have hi : findF f (i :: r) ≠ none := by rw [hn]; simp
  have h2 := pathW_c (i :: r) f hf (by simp) hi
  have h3 := syF_g p hpf
  unfold SyF at h3
  have hset := fun b => setC_flat (lastL (i :: r) f) (lastI (i :: r)) p b (lastI_lt (i :: r) f (by simp) hi)
  have hfw := fun loc s => head_fw H.length loc 4 s p (i :: r) f (by simp) hi
  have hput : cells4 f (headV (i :: r) f p) = (putF (i :: r) f p).cells := cells4_put i r f p
  have hpb : ∀ n, belowL n (putF (i :: r) f p).cells := fun n => fo_below n _
  obtain ⟨hi0, hi1, hcs⟩ := head_cases (H.length + 4) i r f hi
  obtain ⟨op, s, l, m, rfl⟩ := fo_ex f
  obtain ⟨po, ps, pa, pm, hpe⟩ := fo_ex p
  have hpc : p.cells = [.int .u8 po, .str ps, .sl none pa.length (pa.flatMap Tm.cells), .sl none pm.length (pm.flatMap Fo.cells)] := by rw [hpe, Fo.cells_mk]
  obtain ⟨qo, qs, qa, qm, rfl⟩ := fo_ex g0
  have hml : m.length ≤ 9223372036854775807 := maxLen_le hg.2.2.2.2.1
  have hgm := hg.2.2.2.2.2
  change i < (m.length : Int) at hi1
  change (r = [] ∧ _ = AV.ms (H.length + 4) 0 m.length) ∨ (r ≠ [] ∧ findF (m.getD i.toNat fo0) r ≠ none ∧ ∃ F : Nat → List AV, _ = AV.sl none m.length ((List.range m.length).flatMap F) ∧ _ ∧ F ((List.range m.length).getD i.toNat 0) = cells4 (m.getD i.toNat fo0) ((headP true r (m.getD i.toNat fo0)).av true (H.length + 4))) at hcs
  rw [← hput]
  rw [← hput] at hpb
  rw [hpc] at h3 hset ⊢
  rw [Fo.cells_mk] at h1 h2 ⊢
  rw [Fo.cells_mk] at h1
  have h2' : ∀ B1 B2 B3 B4, VCall Tryz.prog 42 [.agg [.int .u8 op, .str s, .sl none l.length (l.flatMap Tm.cells), .sl none m.length (m.flatMap Fo.cells)]] (H ++ [B1, B2, B3, B4]) (fun r' H' => ∃ z, r' = .agg (cells4 (.mk op s l m) ((headP true (i :: r) (.mk op s l m)).av true (H.length + 4))) ∧ H' = (H ++ [B1, B2, B3, B4]) ++ [.box 25 ((lastL (i :: r) (.mk op s l m)).flatMap Fo.cells ++ List.replicate z .junk)]) := fun B1 B2 B3 B4 => by
    have := h2 (H ++ [B1, B2, B3, B4])
    rwa [List.length_append] at this
  clear h2
  simp only [cells4] at h2' hpb ⊢
  generalize hLL : (lastL (i :: r) (Fo.mk op s l m)).flatMap Fo.cells = LL at *
  generalize hSS : ((lastL (i :: r) (Fo.mk op s l m)).set (lastI (i :: r)) p).flatMap Fo.cells = SS at *
  generalize hHH : (headP true (i :: r) (Fo.mk op s l m)).av true (H.length + 4) = HH at *
  generalize hVV : headV (i :: r) (Fo.mk op s l m) p = VV at *
  generalize hpl : i :: r = pl at *
  have hpl0 : 0 < pl.length := by rw [← hpl]; simp
  have hq0 : pl.getD 0 0 = i := by rw [← hpl]; rfl
  have hlI : r ≠ [] → lastI r = lastI pl := fun h => by rw [← hpl, lastI_cons i r h]
  have hlI2 : r = [] → lastI pl = i.toNat := fun h => by rw [← hpl, h]; rfl
  have hd1 : pl.drop 1 = r := by rw [← hpl]; rfl
  have hlt2 : i.toNat < m.length := by omega
  have hmg := Fo.goodL_mem hgm _ (getD_memT m i.toNat fo0 hlt2)
  have qi0 : encI (pl.getD 0 0) = [.int .i64 i] := by rw [hq0]; rfl
  have hst : ∀ z loc, lget loc 4 = some (.box 25 (LL ++ List.replicate z AV.junk)) → storeS Tryz.T 25 loc (some (.lp 4 (0 + lastI pl * 4))) (some (.agg [.int .u8 po, .str ps, .sl none pa.length (pa.flatMap Tm.cells), .sl none pm.length (pm.flatMap Fo.cells)])) = .upd 4 (.box 25 (SS ++ List.replicate z AV.junk)) none := fun z loc h => storeS_box rfl rfl rfl h (hset _)
  rcases hcs with ⟨hr, rfl⟩ | ⟨hr, hfd, F, rfl, hF4, hFi⟩
  all_goals
    refine fn_det Tryz.E0 Tryz.mx Tryz.func14 (by kernel_rfl) rfl (Nat.le_of_ble_eq_true rfl) rfl fun hcl hbl => ?_
    (repeat' ((conv => whnf); (first | (refine IfN.id ?_; first | refine IfN.not ?_ | refine IfN.tt rfl ?_ | fail) | (refine CallN.id ?_; first | refine CallN.det _ (h1 _) ?_ | fail) | refine CallN.more (fun _ => _) (fun z => [.box 25 (LL ++ List.replicate z AV.junk)]) (h2' _ _ _ _) rfl _ (fun _ => rfl) 5 (fun _ => rfl) fun z => ?_ | refine DrawN.mk' [] ?_ | fail))); all_goals (conv => whnf)
    refine loop_R Tryz.E0 Tryz.mx (σ := Option (Option (Nat × Fo × List AV)))
      (@Option.rec _ (fun _ => Prop) True (@Option.rec _ (fun _ => Prop) True (fun q => q.1 < pl.length ∧ pl.drop q.1 ≠ [] ∧ findF q.2.1 (pl.drop q.1) ≠ none ∧ q.2.1.good ∧ lastI (pl.drop q.1) = lastI pl ∧ q.2.2 = cells4 q.2.1 ((headP true (pl.drop q.1) q.2.1).av true (H.length + 4)))))
      (@Option.rec _ (fun _ => Nat) (pl.length + 1) (@Option.rec _ (fun _ => Nat) 0 (fun q => pl.length - q.1)))
      (@Option.rec _ (fun _ => RE) [(27, .v (.int .i64 (0 : Nat))), (11, .lp 5 0)] (@Option.rec _ (fun _ => RE) [(27, .v (.int .i64 pl.length)), (11, .lp 4 (0 + lastI pl * 4))] (fun q => [(27, .v (.int .i64 q.1)), (11, .v (.rptr q.2.2))])))
      (fun _ => _) _ none rfl hcl [5, 6, 10, 25, 26] rfl trivial ⟨⟨_, rfl, Wk.refl _⟩, ⟨_, rfl, Wk.refl _⟩, trivial⟩ rfl (fun _ _ => rfl) ?_
    clear hbl
    rintro (_ | (_ | ⟨j, g, cs⟩)) hinv
  · -- the place is one index: start
    (repeat' ((conv => whnf); (first | (refine IfN.id ?_; first | refine IfN.dT (by omega) ?_ | fail) | (refine EqN.id ?_; first | (refine EqN.addN _ _ (by first | with_reducible rfl | with_reducible exact cst1 | with_reducible exact cst0 | with_reducible exact cst2 | with_reducible exact cst3 | with_reducible exact cst4 | with_reducible exact cst5 | with_reducible exact cst6 | with_reducible exact cst7 | with_reducible exact cst8 | with_reducible exact cst14 | with_reducible exact cst15 | with_reducible exact cst25 | with_reducible exact cst30 | with_reducible exact cst31 | fail) (by first | with_reducible rfl | with_reducible exact cst1 | with_reducible exact cst0 | with_reducible exact cst2 | with_reducible exact cst3 | with_reducible exact cst4 | with_reducible exact cst5 | with_reducible exact cst6 | with_reducible exact cst7 | with_reducible exact cst8 | with_reducible exact cst14 | with_reducible exact cst15 | with_reducible exact cst25 | with_reducible exact cst30 | with_reducible exact cst31 | fail) ?_ ?_; · (repeat' (first | omega | refine And.intro ?_ ?_ | exact bnd_andl (by omega) | exact bnd_andr (by omega) | refine bnd_or ?_ ?_ | refine bnd_or31 ?_ ?_ | refine bnd_xor ?_ ?_ | refine bnd_xor31 ?_ ?_ | refine bnd_shr ?_ | refine bnd_shl ?_ ?_ | refine bnd_mod ?_ | refine bnd_andl ?_ | fail))) | fail) | (refine SideN.mk ?_ ?_; · first | kernel_rfl | omega | exact List.cons_ne_nil _ _ | (simp; done) | (simp; omega) | exact trivial | assumption | fail) | refine SegN.nthE 0 0 rfl hpl0 (fun _ => rfl) qi0 ?_ | (refine PtrN.id ?_; first | refine PtrN.loc _ rfl ?_ | fail) | refine OfsN.at_ (by omega) ?_ | refine DrawN.mk' [] ?_ | fail))); all_goals (conv => whnf)
    exact ⟨⟨some none, trivial, by show 0 < pl.length + 1; omega, ⟨⟨_, rfl, Wk.of_eq (congrArg (AV.int _) (by have h5 : pl.length = 1 := (by rw [← hpl, hr]; rfl); rw [h5]))⟩, ⟨_, rfl, Wk.of_eq (by rw [hlI2 hr])⟩, trivial⟩, .inl ⟨rfl, rfl⟩, rfl, [], rfl, .inl rfl⟩⟩
  · -- after the loop
    (repeat' ((conv => whnf); (first | (refine IfN.id ?_; first | refine IfN.dF (by omega) ?_ | fail) | (refine CallN.id ?_; first | refine CallN.det _ (h3 _) ?_ | fail) | refine DrawN.mk' [] ?_ | fail))); all_goals (conv => whnf)
    refine Eq.mpr (congrArg (@SR.rec (fun _ => Prop) _ _ _ _ _ _ _ _ _ _ _ _ _ _ _ _ _ _ _ _) (hst z [.box 25 [.int .u8 op, .str s, .sl none l.length (l.flatMap Tm.cells), .sl none m.length (m.flatMap Fo.cells)], .box 25 [.int .u8 po, .str ps, .sl none pa.length (pa.flatMap Tm.cells), .sl none pm.length (pm.flatMap Fo.cells)], .box 25 [.int .u8 0, .str .empty, .nils, .nils], .box 25 [.int .u8 qo, .str qs, .sl none qa.length (qa.flatMap Tm.cells), .sl none qm.length (qm.flatMap Fo.cells)], .box 25 (LL ++ List.replicate z AV.junk), .box 25 [.int .u8 op, .str s, .sl none l.length (l.flatMap Tm.cells), .ms (H.length + 4) 0 m.length]] rfl)) ?_
    (repeat' ((conv => whnf); (first | refine DrawN.mk' [] ?_ | fail))); all_goals (conv => whnf)
    refine endFW ?_ (FW.tup (FWL.cons (FW.agg (FWL.cons (FW.refl _) (FWL.cons (FW.refl _) (FWL.cons (FW.refl _) (FWL.cons (hfw _ _ rfl) (FWL.id [])))))) (FWL.id [_])))
    have := hpb H.length
    simp only [belowL] at this
    simp [below, belowL, this, tms_below]
  · skip
    obtain ⟨hj, hne, hfd2, hgg, hli, hcs⟩ := hinv
    simp only at hj hne hfd2 hgg hli hcs
    obtain ⟨i2, r2, hdr⟩ : ∃ i2 r2, pl.drop j = i2 :: r2 := by
      cases hd : pl.drop j with
      | nil => exact absurd hd hne
      | cons a b => exact ⟨a, b, rfl⟩
    obtain ⟨hr2, -, hq2⟩ := pl_drop1 hdr
    rw [hdr] at hfd2 hli hcs
    have qi2 : encI (pl.getD j 0) = [.int .i64 i2] := by rw [hq2]; rfl
    obtain ⟨k0, k1, hc2⟩ := head_cases (H.length + 4) i2 r2 g hfd2
    obtain ⟨o3, t3, a3, b3, rfl⟩ := fo_ex g
    change i2 < (b3.length : Int) at k1
    change (r2 = [] ∧ _ = AV.ms (H.length + 4) 0 b3.length) ∨ (r2 ≠ [] ∧ findF (b3.getD i2.toNat fo0) r2 ≠ none ∧ ∃ F : Nat → List AV, _ = AV.sl none b3.length ((List.range b3.length).flatMap F) ∧ _ ∧ F ((List.range b3.length).getD i2.toNat 0) = cells4 (b3.getD i2.toNat fo0) ((headP true r2 (b3.getD i2.toNat fo0)).av true (H.length + 4))) at hc2
    have hbl3 : b3.length ≤ 9223372036854775807 := maxLen_le hgg.2.2.2.2.1
    have hlt3 : i2.toNat < b3.length := by omega
    simp only [cells4] at hcs
    rcases hc2 with ⟨hrr, e3⟩ | ⟨hrr, hfd3, F3, e3, hF43, hFi3⟩
    · rw [e3] at hcs
      subst hcs
      (repeat' ((conv => whnf); (first | (refine IfN.id ?_; first | refine IfN.dT (by omega) ?_ | fail) | (refine EqN.id ?_; first | (refine EqN.addN _ _ (by first | with_reducible rfl | with_reducible exact cst1 | with_reducible exact cst0 | with_reducible exact cst2 | with_reducible exact cst3 | with_reducible exact cst4 | with_reducible exact cst5 | with_reducible exact cst6 | with_reducible exact cst7 | with_reducible exact cst8 | with_reducible exact cst14 | with_reducible exact cst15 | with_reducible exact cst25 | with_reducible exact cst30 | with_reducible exact cst31 | fail) (by first | with_reducible rfl | with_reducible exact cst1 | with_reducible exact cst0 | with_reducible exact cst2 | with_reducible exact cst3 | with_reducible exact cst4 | with_reducible exact cst5 | with_reducible exact cst6 | with_reducible exact cst7 | with_reducible exact cst8 | with_reducible exact cst14 | with_reducible exact cst15 | with_reducible exact cst25 | with_reducible exact cst30 | with_reducible exact cst31 | fail) ?_ ?_; · (repeat' (first | omega | refine And.intro ?_ ?_ | exact bnd_andl (by omega) | exact bnd_andr (by omega) | refine bnd_or ?_ ?_ | refine bnd_or31 ?_ ?_ | refine bnd_xor ?_ ?_ | refine bnd_xor31 ?_ ?_ | refine bnd_shr ?_ | refine bnd_shl ?_ ?_ | refine bnd_mod ?_ | refine bnd_andl ?_ | fail))) | fail) | (refine SideN.mk ?_ ?_; · first | kernel_rfl | omega | exact List.cons_ne_nil _ _ | (simp; done) | (simp; omega) | exact trivial | assumption | fail) | refine SegN.nthE 0 j rfl hj (fun _ => rfl) qi2 ?_ | (refine PtrN.id ?_; first | refine PtrN.loc _ rfl ?_ | fail) | refine OfsN.at_ (by omega) ?_ | refine DrawN.mk' [] ?_ | fail))); all_goals (conv => whnf)
      exact ⟨⟨some none, trivial, by show 0 < pl.length - j; omega, ⟨⟨_, rfl, Wk.of_eq (congrArg (AV.int _) (by have h5 : pl.length = j + 1 := (by have := congrArg List.length hdr; rw [hrr, List.length_drop] at this; simp at this; omega); rw [h5]))⟩, ⟨_, rfl, Wk.of_eq (by rw [← hli, hrr]; rfl)⟩, trivial⟩, .inl ⟨rfl, rfl⟩, rfl, [], rfl, .inl rfl⟩⟩
    · rw [e3] at hcs
      subst hcs
      obtain ⟨o4, t4, a4, b4, e4⟩ := fo_ex (b3.getD i2.toNat fo0)
      have hg4 := Fo.goodL_mem hgg.2.2.2.2.2 _ (getD_memT b3 i2.toNat fo0 hlt3)
      have hcs4 : ∃ X, X = (headP true r2 (b3.getD i2.toNat fo0)).av true (H.length + 4) := ⟨_, rfl⟩
      obtain ⟨X, hX⟩ := hcs4
      have q4 : F3 ((List.range b3.length).getD i2.toNat 0) = [.int .u8 o4, .str t4, .sl none a4.length (a4.flatMap Tm.cells), X] := by
        refine hFi3.trans ?_
        show cells4 (b3.getD i2.toNat fo0) ((headP true r2 (b3.getD i2.toNat fo0)).av true (H.length + 4)) = _
        rw [← hX, e4]
        rfl
      have hlr : i2.toNat < (List.range b3.length).length := by simpa using hlt3
      (repeat' ((conv => whnf); (first | (refine IfN.id ?_; first | refine IfN.dT (by omega) ?_ | fail) | (refine EqN.id ?_; first | (refine EqN.addN _ _ (by first | with_reducible rfl | with_reducible exact cst1 | with_reducible exact cst0 | with_reducible exact cst2 | with_reducible exact cst3 | with_reducible exact cst4 | with_reducible exact cst5 | with_reducible exact cst6 | with_reducible exact cst7 | with_reducible exact cst8 | with_reducible exact cst14 | with_reducible exact cst15 | with_reducible exact cst25 | with_reducible exact cst30 | with_reducible exact cst31 | fail) (by first | with_reducible rfl | with_reducible exact cst1 | with_reducible exact cst0 | with_reducible exact cst2 | with_reducible exact cst3 | with_reducible exact cst4 | with_reducible exact cst5 | with_reducible exact cst6 | with_reducible exact cst7 | with_reducible exact cst8 | with_reducible exact cst14 | with_reducible exact cst15 | with_reducible exact cst25 | with_reducible exact cst30 | with_reducible exact cst31 | fail) ?_ ?_; · (repeat' (first | omega | refine And.intro ?_ ?_ | exact bnd_andl (by omega) | exact bnd_andr (by omega) | refine bnd_or ?_ ?_ | refine bnd_or31 ?_ ?_ | refine bnd_xor ?_ ?_ | refine bnd_xor31 ?_ ?_ | refine bnd_shr ?_ | refine bnd_shl ?_ ?_ | refine bnd_mod ?_ | refine bnd_andl ?_ | fail))) | fail) | (refine SideN.mk ?_ ?_; · first | kernel_rfl | omega | exact List.cons_ne_nil _ _ | (simp; done) | (simp; omega) | exact trivial | assumption | fail) | refine SegN.nthE 0 j rfl hj (fun _ => rfl) qi2 ?_ | refine SegN.nthE 0 i2.toNat (by omega) hlr hF43 q4 ?_ | refine DrawN.mk' [] ?_ | fail))); all_goals (conv => whnf)
      have hj1 : j + 1 < pl.length := by
        rcases Nat.lt_or_ge (j + 1) pl.length with h | h
        · exact h
        · rw [List.drop_of_length_le h] at hr2; exact absurd hr2.symm hrr
      refine ⟨⟨some (some (j + 1, b3.getD i2.toNat fo0, _)), ⟨hj1, by rw [hr2]; exact hrr, by rw [hr2]; exact hfd3, hg4, by rw [hr2, ← hli, lastI_cons i2 r2 hrr], ?_⟩, by show pl.length - (j + 1) < pl.length - j; omega, ⟨⟨_, rfl, Wk.of_eq (congrArg (AV.int _) (by show _ = (((j + 1 : Nat)) : Int); omega))⟩, ⟨_, rfl, Wk.refl _⟩, trivial⟩, .inl ⟨rfl, rfl⟩, rfl, [], rfl, .inl rfl⟩⟩
      show _ = cells4 _ _
      rw [hr2, ← hX, e4]
      rfl
  · -- a longer place: start
    obtain ⟨o4, t4, a4, b4, e4⟩ := fo_ex (m.getD i.toNat fo0)
    obtain ⟨X, hX⟩ : ∃ X, X = (headP true r (m.getD i.toNat fo0)).av true (H.length + 4) := ⟨_, rfl⟩
    have q4 : F ((List.range m.length).getD i.toNat 0) = [.int .u8 o4, .str t4, .sl none a4.length (a4.flatMap Tm.cells), X] := by
      refine hFi.trans ?_
      rw [← hX, e4]
      rfl
    have hlr : i.toNat < (List.range m.length).length := by simpa using hlt2
    have hj1 : 1 < pl.length := by
      rcases Nat.lt_or_ge 1 pl.length with h | h
      · exact h
      · rw [List.drop_of_length_le h] at hd1; exact absurd hd1.symm hr
    (repeat' ((conv => whnf); (first | (refine IfN.id ?_; first | refine IfN.dT (by omega) ?_ | fail) | (refine EqN.id ?_; first | (refine EqN.addN _ _ (by first | with_reducible rfl | with_reducible exact cst1 | with_reducible exact cst0 | with_reducible exact cst2 | with_reducible exact cst3 | with_reducible exact cst4 | with_reducible exact cst5 | with_reducible exact cst6 | with_reducible exact cst7 | with_reducible exact cst8 | with_reducible exact cst14 | with_reducible exact cst15 | with_reducible exact cst25 | with_reducible exact cst30 | with_reducible exact cst31 | fail) (by first | with_reducible rfl | with_reducible exact cst1 | with_reducible exact cst0 | with_reducible exact cst2 | with_reducible exact cst3 | with_reducible exact cst4 | with_reducible exact cst5 | with_reducible exact cst6 | with_reducible exact cst7 | with_reducible exact cst8 | with_reducible exact cst14 | with_reducible exact cst15 | with_reducible exact cst25 | with_reducible exact cst30 | with_reducible exact cst31 | fail) ?_ ?_; · (repeat' (first | omega | refine And.intro ?_ ?_ | exact bnd_andl (by omega) | exact bnd_andr (by omega) | refine bnd_or ?_ ?_ | refine bnd_or31 ?_ ?_ | refine bnd_xor ?_ ?_ | refine bnd_xor31 ?_ ?_ | refine bnd_shr ?_ | refine bnd_shl ?_ ?_ | refine bnd_mod ?_ | refine bnd_andl ?_ | fail))) | fail) | (refine SideN.mk ?_ ?_; · first | kernel_rfl | omega | exact List.cons_ne_nil _ _ | (simp; done) | (simp; omega) | exact trivial | assumption | fail) | refine SegN.nthE 0 0 rfl hpl0 (fun _ => rfl) qi0 ?_ | refine SegN.nthE 0 i.toNat (by omega) hlr hF4 q4 ?_ | refine DrawN.mk' [] ?_ | fail))); all_goals (conv => whnf)
    refine ⟨⟨some (some (1, m.getD i.toNat fo0, _)), ⟨hj1, by rw [hd1]; exact hr, by rw [hd1]; exact hfd, hmg, by rw [hd1]; exact hlI hr, ?_⟩, by show pl.length - 1 < pl.length + 1; omega, ⟨⟨_, rfl, Wk.refl _⟩, ⟨_, rfl, Wk.refl _⟩, trivial⟩, .inl ⟨rfl, rfl⟩, rfl, [], rfl, .inl rfl⟩⟩
    show _ = cells4 _ _
    rw [hd1, ← hX, e4]
    rfl
  · -- after the loop
    (repeat' ((conv => whnf); (first | (refine IfN.id ?_; first | refine IfN.dF (by omega) ?_ | fail) | (refine CallN.id ?_; first | refine CallN.det _ (h3 _) ?_ | fail) | refine DrawN.mk' [] ?_ | fail))); all_goals (conv => whnf)
    refine Eq.mpr (congrArg (@SR.rec (fun _ => Prop) _ _ _ _ _ _ _ _ _ _ _ _ _ _ _ _ _ _ _ _) (hst z [.box 25 [.int .u8 op, .str s, .sl none l.length (l.flatMap Tm.cells), .sl none m.length (m.flatMap Fo.cells)], .box 25 [.int .u8 po, .str ps, .sl none pa.length (pa.flatMap Tm.cells), .sl none pm.length (pm.flatMap Fo.cells)], .box 25 [.int .u8 0, .str .empty, .nils, .nils], .box 25 [.int .u8 qo, .str qs, .sl none qa.length (qa.flatMap Tm.cells), .sl none qm.length (qm.flatMap Fo.cells)], .box 25 (LL ++ List.replicate z AV.junk), .box 25 [.int .u8 op, .str s, .sl none l.length (l.flatMap Tm.cells), .sl none m.length ((List.range m.length).flatMap F)]] rfl)) ?_
    (repeat' ((conv => whnf); (first | refine DrawN.mk' [] ?_ | fail))); all_goals (conv => whnf)
    refine endFW ?_ (FW.tup (FWL.cons (FW.agg (FWL.cons (FW.refl _) (FWL.cons (FW.refl _) (FWL.cons (FW.refl _) (FWL.cons (hfw _ _ rfl) (FWL.id [])))))) (FWL.id [_])))
    have := hpb H.length
    simp only [belowL] at this
    simp [below, belowL, this, tms_below]
  · skip
    obtain ⟨hj, hne, hfd2, hgg, hli, hcs⟩ := hinv
    simp only at hj hne hfd2 hgg hli hcs
    obtain ⟨i2, r2, hdr⟩ : ∃ i2 r2, pl.drop j = i2 :: r2 := by
      cases hd : pl.drop j with
      | nil => exact absurd hd hne
      | cons a b => exact ⟨a, b, rfl⟩
    obtain ⟨hr2, -, hq2⟩ := pl_drop1 hdr
    rw [hdr] at hfd2 hli hcs
    have qi2 : encI (pl.getD j 0) = [.int .i64 i2] := by rw [hq2]; rfl
    obtain ⟨k0, k1, hc2⟩ := head_cases (H.length + 4) i2 r2 g hfd2
    obtain ⟨o3, t3, a3, b3, rfl⟩ := fo_ex g
    change i2 < (b3.length : Int) at k1
    change (r2 = [] ∧ _ = AV.ms (H.length + 4) 0 b3.length) ∨ (r2 ≠ [] ∧ findF (b3.getD i2.toNat fo0) r2 ≠ none ∧ ∃ F : Nat → List AV, _ = AV.sl none b3.length ((List.range b3.length).flatMap F) ∧ _ ∧ F ((List.range b3.length).getD i2.toNat 0) = cells4 (b3.getD i2.toNat fo0) ((headP true r2 (b3.getD i2.toNat fo0)).av true (H.length + 4))) at hc2
    have hbl3 : b3.length ≤ 9223372036854775807 := maxLen_le hgg.2.2.2.2.1
    have hlt3 : i2.toNat < b3.length := by omega
    simp only [cells4] at hcs
    rcases hc2 with ⟨hrr, e3⟩ | ⟨hrr, hfd3, F3, e3, hF43, hFi3⟩
    · rw [e3] at hcs
      subst hcs
      (repeat' ((conv => whnf); (first | (refine IfN.id ?_; first | refine IfN.dT (by omega) ?_ | fail) | (refine EqN.id ?_; first | (refine EqN.addN _ _ (by first | with_reducible rfl | with_reducible exact cst1 | with_reducible exact cst0 | with_reducible exact cst2 | with_reducible exact cst3 | with_reducible exact cst4 | with_reducible exact cst5 | with_reducible exact cst6 | with_reducible exact cst7 | with_reducible exact cst8 | with_reducible exact cst14 | with_reducible exact cst15 | with_reducible exact cst25 | with_reducible exact cst30 | with_reducible exact cst31 | fail) (by first | with_reducible rfl | with_reducible exact cst1 | with_reducible exact cst0 | with_reducible exact cst2 | with_reducible exact cst3 | with_reducible exact cst4 | with_reducible exact cst5 | with_reducible exact cst6 | with_reducible exact cst7 | with_reducible exact cst8 | with_reducible exact cst14 | with_reducible exact cst15 | with_reducible exact cst25 | with_reducible exact cst30 | with_reducible exact cst31 | fail) ?_ ?_; · (repeat' (first | omega | refine And.intro ?_ ?_ | exact bnd_andl (by omega) | exact bnd_andr (by omega) | refine bnd_or ?_ ?_ | refine bnd_or31 ?_ ?_ | refine bnd_xor ?_ ?_ | refine bnd_xor31 ?_ ?_ | refine bnd_shr ?_ | refine bnd_shl ?_ ?_ | refine bnd_mod ?_ | refine bnd_andl ?_ | fail))) | fail) | (refine SideN.mk ?_ ?_; · first | kernel_rfl | omega | exact List.cons_ne_nil _ _ | (simp; done) | (simp; omega) | exact trivial | assumption | fail) | refine SegN.nthE 0 j rfl hj (fun _ => rfl) qi2 ?_ | (refine PtrN.id ?_; first | refine PtrN.loc _ rfl ?_ | fail) | refine OfsN.at_ (by omega) ?_ | refine DrawN.mk' [] ?_ | fail))); all_goals (conv => whnf)
      exact ⟨⟨some none, trivial, by show 0 < pl.length - j; omega, ⟨⟨_, rfl, Wk.of_eq (congrArg (AV.int _) (by have h5 : pl.length = j + 1 := (by have := congrArg List.length hdr; rw [hrr, List.length_drop] at this; simp at this; omega); rw [h5]))⟩, ⟨_, rfl, Wk.of_eq (by rw [← hli, hrr]; rfl)⟩, trivial⟩, .inl ⟨rfl, rfl⟩, rfl, [], rfl, .inl rfl⟩⟩
    · rw [e3] at hcs
      subst hcs
      obtain ⟨o4, t4, a4, b4, e4⟩ := fo_ex (b3.getD i2.toNat fo0)
      have hg4 := Fo.goodL_mem hgg.2.2.2.2.2 _ (getD_memT b3 i2.toNat fo0 hlt3)
      have hcs4 : ∃ X, X = (headP true r2 (b3.getD i2.toNat fo0)).av true (H.length + 4) := ⟨_, rfl⟩
      obtain ⟨X, hX⟩ := hcs4
      have q4 : F3 ((List.range b3.length).getD i2.toNat 0) = [.int .u8 o4, .str t4, .sl none a4.length (a4.flatMap Tm.cells), X] := by
        refine hFi3.trans ?_
        show cells4 (b3.getD i2.toNat fo0) ((headP true r2 (b3.getD i2.toNat fo0)).av true (H.length + 4)) = _
        rw [← hX, e4]
        rfl
      have hlr : i2.toNat < (List.range b3.length).length := by simpa using hlt3
      (repeat' ((conv => whnf); (first | (refine IfN.id ?_; first | refine IfN.dT (by omega) ?_ | fail) | (refine EqN.id ?_; first | (refine EqN.addN _ _ (by first | with_reducible rfl | with_reducible exact cst1 | with_reducible exact cst0 | with_reducible exact cst2 | with_reducible exact cst3 | with_reducible exact cst4 | with_reducible exact cst5 | with_reducible exact cst6 | with_reducible exact cst7 | with_reducible exact cst8 | with_reducible exact cst14 | with_reducible exact cst15 | with_reducible exact cst25 | with_reducible exact cst30 | with_reducible exact cst31 | fail) (by first | with_reducible rfl | with_reducible exact cst1 | with_reducible exact cst0 | with_reducible exact cst2 | with_reducible exact cst3 | with_reducible exact cst4 | with_reducible exact cst5 | with_reducible exact cst6 | with_reducible exact cst7 | with_reducible exact cst8 | with_reducible exact cst14 | with_reducible exact cst15 | with_reducible exact cst25 | with_reducible exact cst30 | with_reducible exact cst31 | fail) ?_ ?_; · (repeat' (first | omega | refine And.intro ?_ ?_ | exact bnd_andl (by omega) | exact bnd_andr (by omega) | refine bnd_or ?_ ?_ | refine bnd_or31 ?_ ?_ | refine bnd_xor ?_ ?_ | refine bnd_xor31 ?_ ?_ | refine bnd_shr ?_ | refine bnd_shl ?_ ?_ | refine bnd_mod ?_ | refine bnd_andl ?_ | fail))) | fail) | (refine SideN.mk ?_ ?_; · first | kernel_rfl | omega | exact List.cons_ne_nil _ _ | (simp; done) | (simp; omega) | exact trivial | assumption | fail) | refine SegN.nthE 0 j rfl hj (fun _ => rfl) qi2 ?_ | refine SegN.nthE 0 i2.toNat (by omega) hlr hF43 q4 ?_ | refine DrawN.mk' [] ?_ | fail))); all_goals (conv => whnf)
      have hj1 : j + 1 < pl.length := by
        rcases Nat.lt_or_ge (j + 1) pl.length with h | h
        · exact h
        · rw [List.drop_of_length_le h] at hr2; exact absurd hr2.symm hrr
      refine ⟨⟨some (some (j + 1, b3.getD i2.toNat fo0, _)), ⟨hj1, by rw [hr2]; exact hrr, by rw [hr2]; exact hfd3, hg4, by rw [hr2, ← hli, lastI_cons i2 r2 hrr], ?_⟩, by show pl.length - (j + 1) < pl.length - j; omega, ⟨⟨_, rfl, Wk.of_eq (congrArg (AV.int _) (by show _ = (((j + 1 : Nat)) : Int); omega))⟩, ⟨_, rfl, Wk.refl _⟩, trivial⟩, .inl ⟨rfl, rfl⟩, rfl, [], rfl, .inl rfl⟩⟩
      show _ = cells4 _ _
      rw [hr2, ← hX, e4]
      rfl
theorem with_c (f : Fo) (hg : f.good) (hf : f.fit) (p : Fo) (hpf : p.fit) (pl : List Int) (hl : pl.length ≤ 9223372036854775807) (H : Heap) : VDet Tryz.prog 14 [.agg f.cells, .sl none pl.length (pl.flatMap encI), .agg p.cells] H (withA f pl p) := by
  unfold withA
  cases hn : findF f pl with
  | none => exact withN_c f hg p pl hl hn H
  | some g0 =>
    cases pl with
    | nil => exact with0_c f hg hf p hpf H
    | cons i r => exact with1_c f hg hf p hpf i r hl g0 hn H
end Go.Proofs.YtejegcmnddedmaaGreatDoor
/-! text UF02z -/
namespace Go.Proofs.YtejegcmnddedmaaGreatDoor
open Go.Vsi
set_option maxHeartbeats 2000000

/-! ### what With does: plain laws -/
theorem wI_eq (n : Int) : wI n = (n + 9223372036854775808) % 18446744073709551616 - 9223372036854775808 := by
  unfold wI
  rw [IntKind.wrap_i64]
theorem wI_addl (a b : Int) : wI (wI a + b) = wI (a + b) := by simp only [wI_eq]; omega
theorem wI_le (a : Int) : wI a ≤ 9223372036854775807 := by simp only [wI_eq]; omega
/-- nodes -/
def tmsN (l : List Tm) : Nat := (tparts l).length
def nodesL : List Fo → Nat
  | [] => 0
  | x :: l => (tmsN (targs x) + 1) + nodesL l
theorem nodesL_app : ∀ a b : List Fo, nodesL (a ++ b) = nodesL a + nodesL b
  | [], b => by simp [nodesL]
  | x :: a, b => by simp only [List.cons_append, nodesL, nodesL_app a b]; omega
def nodesN (f : Fo) : Nat := nodesL (fpart f)
theorem foldE_cnt : ∀ (l : List Tm) (a : Int), foldE (stepT 9223372036854775807) (wI a) l = (wI (a + l.length), true)
  | [], a => by simp [foldE]
  | x :: l, a => by
    rw [foldE_cons]
    have e : stepT 9223372036854775807 (wI a) x = (wI (a + 1), true) := by
      unfold stepT
      rw [wI_addl]
      simp [wI_le]
    rw [e]
    simp only [if_true]
    rw [foldE_cnt l (a + 1)]
    congr 2
    simp only [List.length_cons]
    omega
theorem foldB_cnt : ∀ (l : List Fo) (a : Int), foldB (stepC 9223372036854775807) (wI a) l = (wI (a + nodesL l), none)
  | [], a => by simp [foldB, nodesL]
  | x :: l, a => by
    have e0 : cntT 9223372036854775807 (wI a) (targs x) = wI (a + (tmsN (targs x) + 1 : Nat)) := by
      unfold cntT
      rw [wI_addl, foldE_cnt]
      unfold tmsN
      have e : a + 1 + ((tparts (targs x)).length : Int) = a + (((tparts (targs x)).length + 1 : Nat) : Int) := by omega
      simp only [e]
    have e : stepC 9223372036854775807 (wI a) x = (wI (a + (tmsN (targs x) + 1 : Nat)), none) := by
      unfold stepC
      rw [e0, if_neg (by have := wI_le (a + (tmsN (targs x) + 1 : Nat)); omega)]
    rw [foldB_cons, e]
    simp only
    rw [foldB_cnt l]
    have e : a + ((tmsN (targs x) + 1 : Nat) : Int) + (nodesL l : Int) = a + ((nodesL (x :: l) : Nat) : Int) := by simp only [nodesL]; omega
    simp only [e]; try rfl
theorem cntF_nodes (f : Fo) : cntF 9223372036854775807 f = wI (nodesN f) := by
  have := foldB_cnt (fpart f) 0
  rw [show wI 0 = 0 from by rw [wI_eq]; rfl] at this
  unfold cntF nodesN
  rw [this]
  simp
theorem nodesN_mk (o : Nat) (s : ByteArray) (l : List Tm) (m : List Fo) : nodesN (.mk o s l m) = tmsN l + 1 + nodesL (fparts m) := by
  unfold nodesN
  rw [fpart_mk]
  rfl
def sumN (m : List Fo) : Nat := (m.map nodesN).sum
theorem nodesL_parts : ∀ m : List Fo, nodesL (fparts m) = sumN m
  | [] => by rw [fparts_nil]; rfl
  | x :: l => by
    rw [fparts_cons, nodesL_app, nodesL_parts l]
    simp [sumN, nodesN]
theorem sumN_set (x : Fo) : ∀ (m : List Fo) (i : Nat), i < m.length → sumN (m.set i x) + nodesN (m.getD i fo0) = sumN m + nodesN x
  | [], i, h => absurd h (Nat.not_lt_zero _)
  | y :: m, 0, _ => by simp [sumN]; omega
  | y :: m, i + 1, h => by
    have := sumN_set x m i (by simpa using h)
    simp only [sumN, List.set_cons_succ, List.map_cons, List.sum_cons, List.getD_cons_succ] at this ⊢
    omega
theorem findF_ex {i : Int} {r : List Int} {f g : Fo} (h : findF f (i :: r) = some g) : 0 ≤ i ∧ i.toNat < (subs f).length ∧ i < ((subs f).length : Int) ∧ findF ((subs f).getD i.toNat fo0) r = some g := by
  rw [findF_cons] at h
  split at h
  · rename_i hi
    exact ⟨hi.1, by omega, hi.2, h⟩
  · cases h
theorem put_nodes : ∀ (pl : List Int) (f p g : Fo), findF f pl = some g → nodesN (putF pl f p) + nodesN g = nodesN f + nodesN p
  | [], f, p, g, h => by
    rw [findF_nil] at h
    cases h
    show nodesN p + nodesN f = _
    omega
  | i :: r, .mk o s l m, p, g, h => by
    obtain ⟨h0, h1, -, h2⟩ := findF_ex h
    have ih := put_nodes r _ p g h2
    have hs := sumN_set (putF r (m.getD i.toNat fo0) p) m i.toNat h1
    rw [putF_cons, nodesN_mk, nodesN_mk, nodesL_parts, nodesL_parts]
    change nodesN (putF r (m.getD i.toNat fo0) p) + nodesN g = nodesN (m.getD i.toNat fo0) + nodesN p at ih
    omega
theorem getD_set_self (m : List Fo) (i : Nat) (x : Fo) (h : i < m.length) : (m.set i x).getD i fo0 = x := by
  simp [List.getD_eq_getElem?_getD, h]
theorem getD_set_ne (m : List Fo) (i j : Nat) (x : Fo) (h : i ≠ j) : (m.set i x).getD j fo0 = m.getD j fo0 := by
  simp [List.getD_eq_getElem?_getD, List.getElem?_set_ne h]
theorem find_put : ∀ (pl : List Int) (f p g : Fo), findF f pl = some g → findF (putF pl f p) pl = some p
  | [], f, p, g, h => by rw [findF_nil]; rfl
  | i :: r, .mk o s l m, p, g, h => by
    obtain ⟨h0, h1, h3, h2⟩ := findF_ex h
    change i.toNat < m.length at h1
    rw [putF_cons, findF_cons]
    have hlen : (subs (Fo.mk o s l (m.set i.toNat (putF r (m.getD i.toNat fo0) p)))).length = m.length := by simp [subs]
    rw [if_pos ⟨h0, by rw [hlen]; exact h3⟩]
    show findF ((m.set i.toNat _).getD i.toNat fo0) r = some p
    rw [getD_set_self _ _ _ h1]
    exact find_put r _ p g h2
theorem put_back : ∀ (pl : List Int) (f p g : Fo), findF f pl = some g → putF pl (putF pl f p) g = f
  | [], f, p, g, h => by rw [findF_nil] at h; cases h; rfl
  | i :: r, .mk o s l m, p, g, h => by
    obtain ⟨h0, h1, h3, h2⟩ := findF_ex h
    change i.toNat < m.length at h1
    rw [putF_cons, putF_cons, getD_set_self _ _ _ h1]
    have ih := put_back r _ p g h2
    change putF r (putF r (m.getD i.toNat fo0) p) g = m.getD i.toNat fo0 at ih
    rw [ih, List.set_set]
    congr 1
    apply List.ext_getElem?
    intro k
    rw [List.getElem?_set]
    split
    · rename_i e
      subst e
      have h1' : i.toNat < m.length := h1
      simp [h1', List.getD_eq_getElem?_getD]
    · rfl
/-- other places -/
theorem find_other : ∀ (c : List Int) (a b : Int) (r1 r2 : List Int) (f p g : Fo), a ≠ b → findF f (c ++ a :: r1) = some g → findF (putF (c ++ a :: r1) f p) (c ++ b :: r2) = findF f (c ++ b :: r2)
  | [], a, b, r1, r2, .mk o s l m, p, g, hab, h => by
    obtain ⟨h0, h1, h3, h2⟩ := findF_ex h
    show findF (putF (a :: r1) _ p) (b :: r2) = findF _ (b :: r2)
    rw [putF_cons, findF_cons, findF_cons]
    have hlen : (subs (Fo.mk o s l (m.set a.toNat (putF r1 (m.getD a.toNat fo0) p)))).length = m.length := by simp [subs]
    rw [hlen]
    show (if 0 ≤ b ∧ b < (m.length : Int) then findF ((m.set a.toNat _).getD b.toNat fo0) r2 else none) = (if 0 ≤ b ∧ b < (m.length : Int) then findF (m.getD b.toNat fo0) r2 else none)
    split
    · rw [getD_set_ne _ _ _ _ (by omega)]
    · rfl
  | i :: c, a, b, r1, r2, .mk o s l m, p, g, hab, h => by
    obtain ⟨h0, h1, h3, h2⟩ := findF_ex h
    change i.toNat < m.length at h1
    show findF (putF (i :: (c ++ a :: r1)) _ p) (i :: (c ++ b :: r2)) = findF _ (i :: (c ++ b :: r2))
    have hlen : (subs (Fo.mk o s l (m.set i.toNat (putF (c ++ a :: r1) (m.getD i.toNat fo0) p)))).length = m.length := by simp [subs]
    rw [putF_cons, findF_cons, findF_cons, if_pos ⟨h0, by rw [hlen]; exact h3⟩, if_pos ⟨h0, h3⟩]
    show findF ((m.set i.toNat _).getD i.toNat fo0) _ = _
    rw [getD_set_self _ _ _ h1]
    exact find_other c a b r1 r2 _ p g hab h2
theorem Fo.fitL_of : ∀ l : List Fo, (∀ x ∈ l, x.fit) → Fo.fitL l
  | [], _ => trivial
  | x :: l, h => ⟨h x (List.mem_cons_self ..), Fo.fitL_of l fun y hy => h y (List.mem_cons_of_mem _ hy)⟩
theorem mem_set {m : List Fo} {i : Nat} {x y : Fo} (h : y ∈ m.set i x) : y = x ∨ y ∈ m := by
  rcases List.mem_or_eq_of_mem_set h with h | h
  · exact .inr h
  · exact .inl h
theorem put_fit : ∀ (pl : List Int) (f p g : Fo), f.fit → p.fit → findF f pl = some g → (putF pl f p).fit
  | [], f, p, g, _, hp, _ => hp
  | i :: r, .mk o s l m, p, g, hf, hp, h => by
    obtain ⟨h0, h1, h3, h2⟩ := findF_ex h
    change i.toNat < m.length at h1
    rw [putF_cons]
    refine ⟨hf.1, hf.2.1, hf.2.2.1, by rw [List.length_set]; exact hf.2.2.2.1, Fo.fitL_of _ fun y hy => ?_⟩
    rcases mem_set hy with rfl | hy
    · exact put_fit r _ p g (Fo.fitL_mem hf.2.2.2.2 _ (getD_memT m i.toNat fo0 h1)) hp h2
    · exact Fo.fitL_mem hf.2.2.2.2 _ hy
theorem put_good : ∀ (pl : List Int) (f p g : Fo), f.good → p.good → findF f pl = some g → (putF pl f p).good
  | [], f, p, g, _, hp, _ => hp
  | i :: r, .mk o s l m, p, g, hf, hp, h => by
    obtain ⟨h0, h1, h3, h2⟩ := findF_ex h
    change i.toNat < m.length at h1
    rw [putF_cons]
    refine ⟨hf.1, hf.2.1, hf.2.2.1, hf.2.2.2.1, by rw [List.length_set]; exact hf.2.2.2.2.1, Fo.goodL_of _ fun y hy => ?_⟩
    rcases mem_set hy with rfl | hy
    · exact put_good r _ p g (Fo.goodL_mem hf.2.2.2.2.2 _ (getD_memT m i.toNat fo0 h1)) hp h2
    · exact Fo.goodL_mem hf.2.2.2.2.2 _ hy
theorem put_nodesI (pl : List Int) (f p g : Fo) (h : findF f pl = some g) : wI (wI (wI (nodesN f) - wI (nodesN g)) + wI (nodesN p)) = wI (nodesN (putF pl f p)) := by
  have := put_nodes pl f p g h
  simp only [wI_eq]
  omega
theorem eqFo_self (x : Fo) : eqFo x x = true := (eqFo_iff x x).2 rfl
end Go.Proofs.YtejegcmnddedmaaGreatDoor
/-! text XB02z -/
namespace Go.Proofs.YtejegcmnddedmaaGreatDoor
open Go.Vsi
set_option maxHeartbeats 8000000
attribute [local irreducible] VW VCall VO bits

/-! ### FormWrong -/
theorem fo_exw (x : Fo) : ∃ o s ln lc mn mc, x.cells = [.int .u8 (o : Nat), .str s, .sl none ln lc, .sl none mn mc] := by
  obtain ⟨o, s, l, m, rfl⟩ := fo_ex x
  rw [Fo.cells_mk]
  exact ⟨_, _, _, _, _, _, rfl⟩
theorem Tm.fitL_of : ∀ l : List Tm, (∀ x ∈ l, x.fit) → Tm.fitL l
  | [], _ => trivial
  | x :: l, h => ⟨h x (List.mem_cons_self ..), Tm.fitL_of l fun y hy => h y (List.mem_cons_of_mem _ hy)⟩
theorem tm0_good : tm0.good ∧ tm0.fit := ⟨⟨by decide, by decide, trivial⟩, ⟨by decide, by decide, trivial⟩⟩
theorem tmA_good : tmA.good ∧ tmA.fit := ⟨⟨by decide, by decide, trivial⟩, ⟨by decide, by decide, trivial⟩⟩
theorem foPq_good : foPq.good ∧ foPq.fit := ⟨⟨by decide, by decide, by decide, trivial, by decide, trivial⟩, ⟨by decide, by decide, trivial, by decide, trivial⟩⟩
theorem foMeta_good : foMeta.good ∧ foMeta.fit := ⟨⟨by decide, by decide, by decide, trivial, by decide, trivial⟩, ⟨by decide, by decide, trivial, by decide, trivial⟩⟩
theorem mem_app {α : Type} {P : α → Prop} {l m : List α} (h1 : ∀ x ∈ l, P x) (h2 : ∀ x ∈ m, P x) : ∀ x ∈ l ++ m, P x := fun x hx => by
  rcases List.mem_append.1 hx with h | h
  · exact h1 x h
  · exact h2 x h
theorem bad_ok (c : Nat) : ∀ (g : Fo) (d : Nat) (L : Int), (jF d g L).2 = true → g.good → g.fit → (badF c g).good ∧ (badF c g).fit
  | .mk o s l m, d, L, h, hg, hf => by
    obtain ⟨h1, h2, h3, h4, h5, -, -, -⟩ := jF_row h
    have hs := nameOk_size h3
    have ha := rowA_le o h1
    have hb := rowS_le o h1
    have k1 : ∀ n, n ≤ 1000 → n ≤ maxLen := fun n hn => Nat.le_trans hn (by decide)
    have k2 : ∀ n, n ≤ 1000 → n ≤ capB := fun n hn => Nat.le_trans hn (by decide)
    have g1 := Tm.goodL_mem hg.2.2.2.1
    have g2 := Fo.goodL_mem hg.2.2.2.2.2
    have f1 := Tm.fitL_mem hf.2.2.1
    have f2 := Fo.fitL_mem hf.2.2.2.2
    match c with
    | 0 => exact ⟨⟨by omega, hg.2.1, hg.2.2.1, hg.2.2.2.1, hg.2.2.2.2.1, hg.2.2.2.2.2⟩, hf⟩
    | 1 => exact ⟨⟨by omega, hg.2.1, hg.2.2.1, hg.2.2.2.1, hg.2.2.2.2.1, hg.2.2.2.2.2⟩, hf⟩
    | 2 => exact ⟨⟨hg.1, by rw [size_und]; exact k1 _ (by omega), hg.2.2.1, hg.2.2.2.1, hg.2.2.2.2.1, hg.2.2.2.2.2⟩, ⟨by rw [size_und]; exact k2 _ (by omega), hf.2.1, hf.2.2.1, hf.2.2.2.1, hf.2.2.2.2⟩⟩
    | 3 => exact ⟨⟨hg.1, hg.2.1, hg.2.2.1, hg.2.2.2.1, by rw [List.length_append, List.length_singleton]; exact k1 _ (by omega), Fo.goodL_of _ (mem_app g2 fun x hx => by rw [List.mem_singleton.1 hx]; exact foPq_good.1)⟩, ⟨hf.1, hf.2.1, hf.2.2.1, by rw [List.length_append, List.length_singleton]; exact k2 _ (by omega), Fo.fitL_of _ (mem_app f2 fun x hx => by rw [List.mem_singleton.1 hx]; exact foPq_good.2)⟩⟩
    | 4 => exact ⟨⟨hg.1, hg.2.1, by rw [List.length_append, List.length_singleton]; exact k1 _ (by omega), Tm.goodL_of _ (mem_app g1 fun x hx => by rw [List.mem_singleton.1 hx]; exact tm0_good.1), hg.2.2.2.2.1, hg.2.2.2.2.2⟩, ⟨hf.1, by rw [List.length_append, List.length_singleton]; exact k2 _ (by omega), Tm.fitL_of _ (mem_app f1 fun x hx => by rw [List.mem_singleton.1 hx]; exact tm0_good.2), hf.2.2.2.1, hf.2.2.2.2⟩⟩
    | 5 => exact foMeta_good
    | 6 =>
      have e : ∀ x ∈ [tmA, tmA, tmA, tmA, tmA], x = tmA := fun x hx => by simpa using hx
      exact ⟨⟨hg.1, hg.2.1, by rw [List.length_append]; exact k1 _ (by simp only [List.length_cons, List.length_nil]; omega), Tm.goodL_of _ (mem_app g1 fun x hx => by rw [e x hx]; exact tmA_good.1), hg.2.2.2.2.1, hg.2.2.2.2.2⟩, ⟨hf.1, by rw [List.length_append]; exact k2 _ (by simp only [List.length_cons, List.length_nil]; omega), Tm.fitL_of _ (mem_app f1 fun x hx => by rw [e x hx]; exact tmA_good.2), hf.2.2.2.1, hf.2.2.2.2⟩⟩
    | _ + 7 => exact ⟨⟨hg.1, by decide, hg.2.2.1, hg.2.2.2.1, hg.2.2.2.2.1, hg.2.2.2.2.2⟩, ⟨by decide, hf.2.1, hf.2.2.1, hf.2.2.2.1, hf.2.2.2.2⟩⟩
theorem findF_app : ∀ (pl : List Int) (f g : Fo) (i : Int), findF f pl = some g → findF f (pl ++ [i]) = findF g [i]
  | [], f, g, i, h => by rw [findF_nil] at h; cases h; rfl
  | j :: r, f, g, i, h => by
    rw [findF_cons] at h
    split at h
    · rename_i hj
      rw [List.cons_append, findF_cons, if_pos hj]
      exact findF_app r _ g i h
    · cases h
theorem formWrong_c (f : Fo) (hg : f.good) (hf : f.fit) (w : Nat) (hw : w ≤ 65535) (t : Nat) (ht : t ≤ 255) (H : Heap) : VDet Tryz.prog 5 [.agg f.cells, .int .u16 w, .int .u8 t] H (.bool true) := by
  have haw := awake_c
  have hsm := fun H => (small_c [f] (by show 1 ≤ _; omega) ⟨hg, trivial⟩ H)
  have hri := right_c f hg
  generalize smallB [f] = sm at *
  simp only [List.flatMap_cons, List.flatMap_nil, List.append_nil, List.length_cons, List.length_nil] at hsm
  obtain ⟨fo, fs, fl, flc, fm, fmc, ef⟩ := fo_exw f
  rw [ef] at hsm hri
  have hsm : ∀ H, VDet Tryz.prog 6 [.sx 1 [.int .u8 fo, .str fs, .sl none fl flc, .sl none fm fmc]] H (.bool sm) := fun H => (hsm H).wk (by (repeat' (first | exact trivial | refine And.intro ?_ ?_ | exact Wk.refl _ | exact wk_sl _ _ _ | exact wk_sx _ _ | exact wk_nils | refine wk_agg ?_ | refine wk_tup ?_ | fail)); done)
  by_cases hr : (jF 1 f 400).2 = true
  case neg =>
    rw [show (jF 1 f 400).2 = false by simpa using hr] at hri
    rw [ef]
    refine fn_det Tryz.E0 Tryz.mx Tryz.func5 (by kernel_rfl) rfl (Nat.le_of_ble_eq_true rfl) rfl fun hcl hbl => ?_
    (repeat' ((conv => whnf); (first | (refine IfN.id ?_; first | refine IfN.not ?_ | refine IfN.tt rfl ?_ | refine IfN.ff rfl ?_ | (refine IfN.mk ?_ ?_ <;> intro _) | fail) | (refine CallN.id ?_; first | refine CallN.det _ (haw _) ?_ | refine CallN.det _ (hsm _) ?_ | refine CallN.det _ (hri _) ?_ | fail) | refine DrawN.mk' [] ?_ | fail))); all_goals (conv => whnf)
    all_goals exact EndN.det trivial (Wk.refl _)
  rw [hr] at hri
  have hw2 := fun (p : Fo) (hp : p.fit) pl hl => with_c f hg hf p hp pl hl
  have hfx : ∀ pl g, findF f pl = some g → (jF 1 g 400).2 = true := fun pl g h => jF_find pl f g 1 400 h hr
  rw [ef] at hw2 ⊢
  cases sm with
  | false =>
    refine fn_det Tryz.E0 Tryz.mx Tryz.func5 (by kernel_rfl) rfl (Nat.le_of_ble_eq_true rfl) rfl fun hcl hbl => ?_
    (repeat' ((conv => whnf); (first | (refine IfN.id ?_; first | refine IfN.not ?_ | refine IfN.tt rfl ?_ | refine IfN.ff rfl ?_ | fail) | (refine CallN.id ?_; first | refine CallN.det _ (haw _) ?_ | refine CallN.det _ (hsm _) ?_ | fail) | refine DrawN.mk' [] ?_ | fail))); all_goals (conv => whnf)
    exact EndN.det trivial (Wk.refl _)
  | true =>
    refine fn_det Tryz.E0 Tryz.mx Tryz.func5 (by kernel_rfl) rfl (Nat.le_of_ble_eq_true rfl) rfl fun hcl hbl => ?_
    (repeat' ((conv => whnf); (first | (refine IfN.id ?_; first | refine IfN.not ?_ | refine IfN.tt rfl ?_ | fail) | (refine EqN.id ?_; first | refine EqN.i64 (by omega) ?_ | fail) | (refine CallN.id ?_; first | refine CallN.det _ (haw _) ?_ | refine CallN.det _ (hsm _) ?_ | refine CallN.det _ (hri _) ?_ | fail) | refine DrawN.mk' [] ?_ | fail))); all_goals (conv => whnf)
    refine LoopN.tok 7 3 1 rfl rfl rfl ?_
    refine loop_R Tryz.E0 Tryz.mx (σ := Nat × List Int × Fo) (fun p => p.2.1.length + p.1 ≤ 65535 ∧ findF f p.2.1 = some p.2.2) (fun p => p.1) (fun p => [(7, .v (.sl (some (H.length + 2)) p.2.1.length (p.2.1.flatMap encI))), (9, .v (.int .i64 p.1))]) (fun p => [.box 25 [.int .u8 fo, .str fs, .sl none fl flc, .sl none fm fmc], .box 25 p.2.2.cells, .tok 3 1 (p.2.1.flatMap encI).length]) _ (w, [], f) rfl hcl [2, 3, 8] rfl ⟨by simpa using hw, rfl⟩ ⟨⟨_, rfl, Wk.refl _⟩, ⟨_, rfl, Wk.refl _⟩, trivial⟩ (by rw [ef]; rfl) (fun _ _ => rfl) ?_
    rintro ⟨n, pl, g⟩ ⟨hn, hfd⟩
    simp only at hn hfd
    clear hbl
    have hgg := findF_good pl f g hg hfd
    have hgf := findF_fit pl f g hf hfd
    have hgr := hfx pl g hfd
    obtain ⟨go, gs, gl, gm, rfl⟩ := fo_ex g
    have hml := maxLen_le hgg.2.2.2.2.1
    simp only [Fo.cells_mk]
    by_cases hgo : 0 < gm.length ∧ 0 < n % 5
    · obtain ⟨hm0, hn5⟩ := hgo
      have hlt : n % 5 % gm.length < gm.length := Nat.mod_lt _ hm0
      obtain ⟨o2, t2, a2, m2, e2⟩ := fo_ex (gm.getD (n % 5 % gm.length) fo0)
      have q1 : (gm.getD (n % 5 % gm.length) fo0).cells = [.int .u8 o2, .str t2, .sl none a2.length (a2.flatMap Tm.cells), .sl none m2.length (m2.flatMap Fo.cells)] := by rw [e2, Fo.cells_mk]
      have hb1 : (pl.length + 1) * 8 ≤ 140737488355328 := by omega
      have hb2 : pl.length + 1 ≤ maxLen := Nat.le_trans (show pl.length + 1 ≤ 65536 by omega) (by decide)
      have hfl : (pl ++ [((n % 5 % gm.length : Nat) : Int)]).flatMap encI = pl.flatMap encI ++ [.int .i64 ((n % 5 % gm.length : Nat) : Int)] := by rw [List.flatMap_append]; rfl
      have hfd2 : findF f (pl ++ [((n % 5 % gm.length : Nat) : Int)]) = some (gm.getD (n % 5 % gm.length) fo0) := by
        rw [findF_app pl f _ _ hfd, findF_cons, if_pos (by show 0 ≤ ((n % 5 % gm.length : Nat) : Int) ∧ ((n % 5 % gm.length : Nat) : Int) < (gm.length : Int); omega), findF_nil]
        rfl
      (repeat' ((conv => whnf); (first | (refine IfN.id ?_; first | refine IfN.dT (by omega) ?_ | fail) | (refine EqN.id ?_; first | refine EqN.remN _ _ (by first | with_reducible rfl | with_reducible exact cst1 | with_reducible exact cst0 | with_reducible exact cst2 | with_reducible exact cst3 | with_reducible exact cst4 | with_reducible exact cst5 | with_reducible exact cst6 | with_reducible exact cst7 | with_reducible exact cst8 | with_reducible exact cst14 | with_reducible exact cst15 | with_reducible exact cst25 | with_reducible exact cst30 | with_reducible exact cst31 | fail) (by first | with_reducible rfl | with_reducible exact cst1 | with_reducible exact cst0 | with_reducible exact cst2 | with_reducible exact cst3 | with_reducible exact cst4 | with_reducible exact cst5 | with_reducible exact cst6 | with_reducible exact cst7 | with_reducible exact cst8 | with_reducible exact cst14 | with_reducible exact cst15 | with_reducible exact cst25 | with_reducible exact cst30 | with_reducible exact cst31 | fail) ?_ | refine EqN.quo (by omega) ?_ | fail) | (refine SideN.mk ?_ ?_; · first | kernel_rfl | omega | exact List.cons_ne_nil _ _ | (simp; done) | (simp; omega) | exact trivial | assumption | fail) | refine SegN.nthE fo0 (n % 5 % gm.length) rfl hlt fo_size q1 ?_ | refine SideN.mk ⟨rfl, rfl, rfl, hb1, hb2⟩ ?_ | (refine PtrN.id ?_; first | refine PtrN.loc _ rfl ?_ | fail) | refine DrawN.mk' [] ?_ | fail))); all_goals (conv => whnf)
      exact ⟨⟨(n / 5, pl ++ [((n % 5 % gm.length : Nat) : Int)], gm.getD (n % 5 % gm.length) fo0), ⟨by show (pl ++ [_]).length + n / 5 ≤ 65535; rw [List.length_append, List.length_singleton]; omega, hfd2⟩, by show n / 5 < n; omega, ⟨⟨_, rfl, Wk.of_eq (by show AV.sl _ _ _ = AV.sl _ (pl ++ [((n % 5 % gm.length : Nat) : Int)]).length ((pl ++ [((n % 5 % gm.length : Nat) : Int)]).flatMap encI); rw [hfl, List.length_append]; rfl)⟩, ⟨_, rfl, Wk.of_eq (congrArg (AV.int _) (by show (n : Int) / 5 = ((n / 5 : Nat) : Int); omega))⟩, trivial⟩, .inl ⟨rfl, rfl⟩, rfl, [], by rw [hfl, q1]; rfl, .inl rfl⟩⟩
    · have hcp : ∀ B1 B2 B3, VCall Tryz.prog 11 [.agg [.int .u8 go, .str gs, .sl none gl.length (gl.flatMap Tm.cells), .sl none gm.length (gm.flatMap Fo.cells)]] (H ++ [B1, B2, B3]) (fun r H' => r = .agg [.int .u8 go, .str gs, .sl (some (H.length + 5)) gl.length (gl.flatMap Tm.cells), .sl (some (H.length + 6)) gm.length (gm.flatMap Fo.cells)] ∧
          H' = (H ++ [B1, B2, B3]) ++ [.box 25 [.int .u8 go, .str gs, .sl none gl.length (gl.flatMap Tm.cells), .sl none gm.length (gm.flatMap Fo.cells)], .box 25 [.int .u8 go, .str gs, .sl (some (H.length + 5)) gl.length (gl.flatMap Tm.cells), .sl (some (H.length + 6)) gm.length (gm.flatMap Fo.cells)], .tok 36 3 (gl.flatMap Tm.cells).length, .tok 25 4 (gm.flatMap Fo.cells).length]) := fun B1 B2 B3 => by
        have := copyK_c go gs gl gm hgf (H ++ [B1, B2, B3])
        rw [List.length_append] at this
        exact this
      have hpl : pl.length ≤ 9223372036854775807 := by omega
      have hbg := fun c => bad_ok c _ 1 400 hgr hgg hgf
      have hW : ∀ c H, VDet Tryz.prog 14 [.agg [.int .u8 fo, .str fs, .sl none fl flc, .sl none fm fmc], .sl none pl.length (pl.flatMap encI), .agg (badF c (.mk go gs gl gm)).cells] H (.tup [.agg (putF pl f (badF c (.mk go gs gl gm))).cells, .int .i64 0]) := fun c H => by
        have := hw2 (badF c (.mk go gs gl gm)) (hbg c).2 pl hpl H
        unfold withA at this
        rw [hfd] at this
        exact this
      have hR : ∀ c H, VDet Tryz.prog 10 [.agg (putF pl f (badF c (.mk go gs gl gm))).cells] H (.bool false) := fun c H => by
        have := right_c (putF pl f (badF c (.mk go gs gl gm))) (put_good pl f _ _ hg (hbg c).1 hfd) H
        rwa [wrong_right c f _ pl hfd hr] at this
      have hS : ∀ c H, VDet Tryz.prog 15 [.agg (putF pl f (badF c (.mk go gs gl gm))).cells] H (.bool (kF 1 (putF pl f (badF c (.mk go gs gl gm))) 400).2) := fun c H => schema_c _ (put_good pl f _ _ hg (hbg c).1 hfd) H
      have hS5 : (kF 1 (putF pl f (badF 5 (.mk go gs gl gm))) 400).2 = true := meta_schema f _ pl hfd hr
      have hnm : gs.size ≤ 16 := nameOk_size (jF_row hgr).2.2.1
      have hgl4 : gl.length ≤ 4 := Nat.le_trans (jF_row hgr).2.2.2.1 (rowA_le go (jF_row hgr).1)
      have hgm2 : gm.length ≤ 2 := by rw [(jF_row hgr).2.2.2.2.1]; exact rowS_le go (jF_row hgr).1
      clear hw2 hfx hbg hgg hgf hri hsm haw
      have hat : ∀ H, VDet Tryz.prog 12 [.str ⟨#[80]⟩, .nils] H (.agg [.int .u8 1, .str ⟨#[80]⟩, .sl none 0 [], .sl none 0 []]) := fun H => (atom_c ⟨#[80]⟩ 0 [] (fun _ => trivial) H).wk ⟨Wk.refl _, wk_nils, trivial⟩
      have hte : ∀ H, VDet Tryz.prog 13 [.str ⟨#[97]⟩, .nils] H (.agg [.bool false, .str ⟨#[97]⟩, .sl none 0 []]) := fun H => (term_c 97 0 [] (fun _ => trivial) H).wk ⟨Wk.refl _, wk_nils, trivial⟩
      have hc8 : t % 8 = 0 ∨ t % 8 = 1 ∨ t % 8 = 2 ∨ t % 8 = 3 ∨ t % 8 = 4 ∨ t % 8 = 5 ∨ t % 8 = 6 ∨ t % 8 = 7 := by omega
      rcases hc8 with hc | hc | hc | hc | hc | hc | hc | hc
      · have hW := fun HX => (hW 0 HX).wk (show WkL [_, .sl (some (H.length + 2)) pl.length (pl.flatMap encI), .agg [.int .u8 0, .str gs, .sl (some (H.length + 5)) gl.length (gl.flatMap Tm.cells), .sl (some (H.length + 6)) gm.length (gm.flatMap Fo.cells)]] _ from ⟨Wk.refl _, wk_sl _ _ _, by show Wk _ (.agg (Fo.mk 0 gs gl gm).cells); rw [Fo.cells_mk]; exact wk_agg ⟨Wk.refl _, Wk.refl _, wk_sl _ _ _, wk_sl _ _ _, trivial⟩, trivial⟩)
        have hR := hR 0
        have hS := hS 0
        generalize putF pl f (badF 0 (.mk go gs gl gm)) = P at *
        obtain ⟨po, ps, pl1, plc, pm, pmc, ep⟩ := fo_exw P
        rw [ep] at hW hR hS
        clear ep
        generalize (kF 1 P 400).2 = sb at *
        cases sb
        (repeat' ((conv => whnf); (first | (refine IfN.id ?_; first | refine IfN.not ?_ | refine IfN.tt rfl ?_ | refine IfN.ff rfl ?_ | refine IfN.dF (by omega) ?_ | refine IfN.dec (fun _ => ?_) (fun _ => ?_) | fail) | (refine EqN.id ?_; first | refine EqN.remC 0 rfl rfl hc ?_ | refine EqN.remN _ _ (by first | with_reducible rfl | with_reducible exact cst1 | with_reducible exact cst0 | with_reducible exact cst2 | with_reducible exact cst3 | with_reducible exact cst4 | with_reducible exact cst5 | with_reducible exact cst6 | with_reducible exact cst7 | with_reducible exact cst8 | with_reducible exact cst14 | with_reducible exact cst15 | with_reducible exact cst25 | with_reducible exact cst30 | with_reducible exact cst31 | fail) (by first | with_reducible rfl | with_reducible exact cst1 | with_reducible exact cst0 | with_reducible exact cst2 | with_reducible exact cst3 | with_reducible exact cst4 | with_reducible exact cst5 | with_reducible exact cst6 | with_reducible exact cst7 | with_reducible exact cst8 | with_reducible exact cst14 | with_reducible exact cst15 | with_reducible exact cst25 | with_reducible exact cst30 | with_reducible exact cst31 | fail) ?_ | fail) | (refine SideN.mk ?_ ?_; · first | kernel_rfl | omega | exact List.cons_ne_nil _ _ | (simp; done) | (simp; omega) | exact trivial | assumption | fail) | (refine CallN.id ?_; first | refine CallN.det _ (hW _) ?_ | refine CallN.det _ (hR _) ?_ | refine CallN.det _ (hS _) ?_ | fail) | refine CallN.grow _ _ _ 7 (hcp _ _ _) rfl rfl rfl ?_ | refine DrawN.mk' [] ?_ | fail))); all_goals (conv => whnf)
        all_goals exact EndN.det trivial (Wk.refl _)
      · have hW := fun HX => (hW 1 HX).wk (show WkL [_, .sl (some (H.length + 2)) pl.length (pl.flatMap encI), .agg [.int .u8 17, .str gs, .sl (some (H.length + 5)) gl.length (gl.flatMap Tm.cells), .sl (some (H.length + 6)) gm.length (gm.flatMap Fo.cells)]] _ from ⟨Wk.refl _, wk_sl _ _ _, by show Wk _ (.agg (Fo.mk 17 gs gl gm).cells); rw [Fo.cells_mk]; exact wk_agg ⟨Wk.refl _, Wk.refl _, wk_sl _ _ _, wk_sl _ _ _, trivial⟩, trivial⟩)
        have hR := hR 1
        have hS := hS 1
        generalize putF pl f (badF 1 (.mk go gs gl gm)) = P at *
        obtain ⟨po, ps, pl1, plc, pm, pmc, ep⟩ := fo_exw P
        rw [ep] at hW hR hS
        clear ep
        generalize (kF 1 P 400).2 = sb at *
        cases sb
        (repeat' ((conv => whnf); (first | (refine IfN.id ?_; first | refine IfN.not ?_ | refine IfN.tt rfl ?_ | refine IfN.ff rfl ?_ | refine IfN.dF (by omega) ?_ | refine IfN.dec (fun _ => ?_) (fun _ => ?_) | fail) | (refine EqN.id ?_; first | refine EqN.remC 1 rfl rfl hc ?_ | refine EqN.remN _ _ (by first | with_reducible rfl | with_reducible exact cst1 | with_reducible exact cst0 | with_reducible exact cst2 | with_reducible exact cst3 | with_reducible exact cst4 | with_reducible exact cst5 | with_reducible exact cst6 | with_reducible exact cst7 | with_reducible exact cst8 | with_reducible exact cst14 | with_reducible exact cst15 | with_reducible exact cst25 | with_reducible exact cst30 | with_reducible exact cst31 | fail) (by first | with_reducible rfl | with_reducible exact cst1 | with_reducible exact cst0 | with_reducible exact cst2 | with_reducible exact cst3 | with_reducible exact cst4 | with_reducible exact cst5 | with_reducible exact cst6 | with_reducible exact cst7 | with_reducible exact cst8 | with_reducible exact cst14 | with_reducible exact cst15 | with_reducible exact cst25 | with_reducible exact cst30 | with_reducible exact cst31 | fail) ?_ | fail) | (refine SideN.mk ?_ ?_; · first | kernel_rfl | omega | exact List.cons_ne_nil _ _ | (simp; done) | (simp; omega) | exact trivial | assumption | fail) | (refine CallN.id ?_; first | refine CallN.det _ (hW _) ?_ | refine CallN.det _ (hR _) ?_ | refine CallN.det _ (hS _) ?_ | fail) | refine CallN.grow _ _ _ 7 (hcp _ _ _) rfl rfl rfl ?_ | refine DrawN.mk' [] ?_ | fail))); all_goals (conv => whnf)
        all_goals exact EndN.det trivial (Wk.refl _)
      · have hW := fun HX => (hW 2 HX).wk (show WkL [_, .sl (some (H.length + 2)) pl.length (pl.flatMap encI), .agg [.int .u8 go, .str (gs ++ ⟨#[95]⟩), .sl (some (H.length + 5)) gl.length (gl.flatMap Tm.cells), .sl (some (H.length + 6)) gm.length (gm.flatMap Fo.cells)]] _ from ⟨Wk.refl _, wk_sl _ _ _, by show Wk _ (.agg (Fo.mk go (gs ++ aUnd) gl gm).cells); rw [Fo.cells_mk]; exact wk_agg ⟨Wk.refl _, Wk.refl _, wk_sl _ _ _, wk_sl _ _ _, trivial⟩, trivial⟩)
        have hR := hR 2
        have hS := hS 2
        generalize putF pl f (badF 2 (.mk go gs gl gm)) = P at *
        obtain ⟨po, ps, pl1, plc, pm, pmc, ep⟩ := fo_exw P
        rw [ep] at hW hR hS
        clear ep
        generalize (kF 1 P 400).2 = sb at *
        cases sb
        (repeat' ((conv => whnf); (first | (refine IfN.id ?_; first | refine IfN.not ?_ | refine IfN.tt rfl ?_ | refine IfN.ff rfl ?_ | refine IfN.dF (by omega) ?_ | refine IfN.dec (fun _ => ?_) (fun _ => ?_) | fail) | (refine EqN.id ?_; first | refine EqN.remC 2 rfl rfl hc ?_ | refine EqN.remN _ _ (by first | with_reducible rfl | with_reducible exact cst1 | with_reducible exact cst0 | with_reducible exact cst2 | with_reducible exact cst3 | with_reducible exact cst4 | with_reducible exact cst5 | with_reducible exact cst6 | with_reducible exact cst7 | with_reducible exact cst8 | with_reducible exact cst14 | with_reducible exact cst15 | with_reducible exact cst25 | with_reducible exact cst30 | with_reducible exact cst31 | fail) (by first | with_reducible rfl | with_reducible exact cst1 | with_reducible exact cst0 | with_reducible exact cst2 | with_reducible exact cst3 | with_reducible exact cst4 | with_reducible exact cst5 | with_reducible exact cst6 | with_reducible exact cst7 | with_reducible exact cst8 | with_reducible exact cst14 | with_reducible exact cst15 | with_reducible exact cst25 | with_reducible exact cst30 | with_reducible exact cst31 | fail) ?_ | fail) | (refine SideN.mk ?_ ?_; · first | kernel_rfl | omega | exact List.cons_ne_nil _ _ | (simp; done) | (simp; omega) | exact trivial | assumption | fail) | (refine CallN.id ?_; first | refine CallN.det _ (hW _) ?_ | refine CallN.det _ (hR _) ?_ | refine CallN.det _ (hS _) ?_ | fail) | refine CallN.grow _ _ _ 7 (hcp _ _ _) rfl rfl rfl ?_ | refine SideN.mk (by show gs.size + 1 ≤ _; omega) ?_ | refine DrawN.mk' [] ?_ | fail))); all_goals (conv => whnf)
        all_goals exact EndN.det trivial (Wk.refl _)
      · have hW := fun HX => (hW 3 HX).wk (show WkL [_, .sl (some (H.length + 2)) pl.length (pl.flatMap encI), .agg [.int .u8 go, .str gs, .sl (some (H.length + 5)) gl.length (gl.flatMap Tm.cells), .sl (some (H.length + 6)) (gm.length + 1) (gm.flatMap Fo.cells ++ [.int .u8 1, .str ⟨#[80]⟩, .sl none 0 [], .sl none 0 []])]] _ from ⟨Wk.refl _, wk_sl _ _ _, by show Wk _ (.agg (Fo.mk go gs gl (gm ++ [foPq])).cells); rw [Fo.cells_mk, List.length_append, List.flatMap_append]; exact wk_agg ⟨Wk.refl _, Wk.refl _, wk_sl _ _ _, (wk_sl _ _ _ : Wk _ (.sl none (gm.length + 1) (gm.flatMap Fo.cells ++ [.int .u8 1, .str ⟨#[80]⟩, .sl none 0 [], .sl none 0 []]))), trivial⟩, trivial⟩)
        have hR := hR 3
        have hS := hS 3
        generalize putF pl f (badF 3 (.mk go gs gl gm)) = P at *
        obtain ⟨po, ps, pl1, plc, pm, pmc, ep⟩ := fo_exw P
        rw [ep] at hW hR hS
        clear ep
        have hb1 : (gm.length + 1) * 72 ≤ 140737488355328 := by omega
        have hb2 : gm.length + 1 ≤ maxLen := Nat.le_trans (show gm.length + 1 ≤ 3 by omega) (by decide)
        generalize (kF 1 P 400).2 = sb at *
        cases sb
        (repeat' ((conv => whnf); (first | (refine IfN.id ?_; first | refine IfN.not ?_ | refine IfN.tt rfl ?_ | refine IfN.ff rfl ?_ | refine IfN.dF (by omega) ?_ | refine IfN.dec (fun _ => ?_) (fun _ => ?_) | fail) | (refine EqN.id ?_; first | refine EqN.remC 3 rfl rfl hc ?_ | refine EqN.remN _ _ (by first | with_reducible rfl | with_reducible exact cst1 | with_reducible exact cst0 | with_reducible exact cst2 | with_reducible exact cst3 | with_reducible exact cst4 | with_reducible exact cst5 | with_reducible exact cst6 | with_reducible exact cst7 | with_reducible exact cst8 | with_reducible exact cst14 | with_reducible exact cst15 | with_reducible exact cst25 | with_reducible exact cst30 | with_reducible exact cst31 | fail) (by first | with_reducible rfl | with_reducible exact cst1 | with_reducible exact cst0 | with_reducible exact cst2 | with_reducible exact cst3 | with_reducible exact cst4 | with_reducible exact cst5 | with_reducible exact cst6 | with_reducible exact cst7 | with_reducible exact cst8 | with_reducible exact cst14 | with_reducible exact cst15 | with_reducible exact cst25 | with_reducible exact cst30 | with_reducible exact cst31 | fail) ?_ | fail) | (refine SideN.mk ?_ ?_; · first | kernel_rfl | omega | exact List.cons_ne_nil _ _ | (simp; done) | (simp; omega) | exact trivial | assumption | fail) | (refine CallN.id ?_; first | refine CallN.det _ (hW _) ?_ | refine CallN.det _ (hR _) ?_ | refine CallN.det _ (hS _) ?_ | fail) | (refine CallD.id ?_; first | refine CallD.det _ (fun _ hq X => hat _) ?_ | fail) | refine CallN.grow _ _ _ 7 (hcp _ _ _) rfl rfl rfl ?_ | refine SideN.mk ⟨rfl, rfl, rfl, hb1, hb2⟩ ?_ | (refine PtrN.id ?_; first | refine PtrN.loc _ rfl ?_ | fail) | refine DrawN.mk' [] ?_ | fail))); all_goals (conv => whnf)
        all_goals exact EndN.det trivial (Wk.refl _)
      · have hW := fun HX => (hW 4 HX).wk (show WkL [_, .sl (some (H.length + 2)) pl.length (pl.flatMap encI), .agg [.int .u8 go, .str gs, .sl (some (H.length + 5)) (gl.length + 1) (gl.flatMap Tm.cells ++ [.bool false, .str .empty, .nils]), .sl (some (H.length + 6)) gm.length (gm.flatMap Fo.cells)]] _ from ⟨Wk.refl _, wk_sl _ _ _, by show Wk _ (.agg (Fo.mk go gs (gl ++ [tm0]) gm).cells); rw [Fo.cells_mk, List.length_append, List.flatMap_append]; exact wk_agg ⟨Wk.refl _, Wk.refl _, (wk_slL (WkL.app (WkL.id _) (show WkL [AV.bool false, .str .empty, .nils] [.bool false, .str .empty, .sl none 0 []] from ⟨Wk.refl _, Wk.refl _, wk_nils, trivial⟩)) : Wk _ (.sl none (gl.length + 1) (gl.flatMap Tm.cells ++ [.bool false, .str .empty, .sl none 0 []]))), wk_sl _ _ _, trivial⟩, trivial⟩)
        have hR := hR 4
        have hS := hS 4
        generalize putF pl f (badF 4 (.mk go gs gl gm)) = P at *
        obtain ⟨po, ps, pl1, plc, pm, pmc, ep⟩ := fo_exw P
        rw [ep] at hW hR hS
        clear ep
        have hb1 : (gl.length + 1) * 48 ≤ 140737488355328 := by omega
        have hb2 : gl.length + 1 ≤ maxLen := Nat.le_trans (show gl.length + 1 ≤ 5 by omega) (by decide)
        generalize (kF 1 P 400).2 = sb at *
        cases sb
        (repeat' ((conv => whnf); (first | (refine IfN.id ?_; first | refine IfN.not ?_ | refine IfN.tt rfl ?_ | refine IfN.ff rfl ?_ | refine IfN.dF (by omega) ?_ | refine IfN.dec (fun _ => ?_) (fun _ => ?_) | fail) | (refine EqN.id ?_; first | refine EqN.remC 4 rfl rfl hc ?_ | refine EqN.remN _ _ (by first | with_reducible rfl | with_reducible exact cst1 | with_reducible exact cst0 | with_reducible exact cst2 | with_reducible exact cst3 | with_reducible exact cst4 | with_reducible exact cst5 | with_reducible exact cst6 | with_reducible exact cst7 | with_reducible exact cst8 | with_reducible exact cst14 | with_reducible exact cst15 | with_reducible exact cst25 | with_reducible exact cst30 | with_reducible exact cst31 | fail) (by first | with_reducible rfl | with_reducible exact cst1 | with_reducible exact cst0 | with_reducible exact cst2 | with_reducible exact cst3 | with_reducible exact cst4 | with_reducible exact cst5 | with_reducible exact cst6 | with_reducible exact cst7 | with_reducible exact cst8 | with_reducible exact cst14 | with_reducible exact cst15 | with_reducible exact cst25 | with_reducible exact cst30 | with_reducible exact cst31 | fail) ?_ | fail) | (refine SideN.mk ?_ ?_; · first | kernel_rfl | omega | exact List.cons_ne_nil _ _ | (simp; done) | (simp; omega) | exact trivial | assumption | fail) | (refine CallN.id ?_; first | refine CallN.det _ (hW _) ?_ | refine CallN.det _ (hR _) ?_ | refine CallN.det _ (hS _) ?_ | fail) | refine CallN.grow _ _ _ 7 (hcp _ _ _) rfl rfl rfl ?_ | refine SideN.mk ⟨rfl, rfl, rfl, hb1, hb2⟩ ?_ | (refine PtrN.id ?_; first | refine PtrN.loc _ rfl ?_ | fail) | refine DrawN.mk' [] ?_ | fail))); all_goals (conv => whnf)
        all_goals exact EndN.det trivial (Wk.refl _)
      · have hW := fun HX => (hW 5 HX).wk (show WkL [_, .sl (some (H.length + 2)) pl.length (pl.flatMap encI), .agg [.int .u8 15, .str ⟨#[63, 65]⟩, .nils, .nils]] _ from ⟨Wk.refl _, wk_sl _ _ _, by show Wk _ (.agg foMeta.cells); unfold foMeta; rw [Fo.cells_mk]; exact wk_agg ⟨Wk.refl _, Wk.refl _, wk_nils, wk_nils, trivial⟩, trivial⟩)
        have hR := hR 5
        have hS := hS 5
        rw [hS5] at hS
        generalize putF pl f (badF 5 (.mk go gs gl gm)) = P at *
        obtain ⟨po, ps, pl1, plc, pm, pmc, ep⟩ := fo_exw P
        rw [ep] at hW hR hS
        clear ep
        (repeat' ((conv => whnf); (first | (refine IfN.id ?_; first | refine IfN.not ?_ | refine IfN.tt rfl ?_ | refine IfN.ff rfl ?_ | refine IfN.dF (by omega) ?_ | refine IfN.dec (fun _ => ?_) (fun _ => ?_) | fail) | (refine EqN.id ?_; first | refine EqN.remC 5 rfl rfl hc ?_ | refine EqN.remN _ _ (by first | with_reducible rfl | with_reducible exact cst1 | with_reducible exact cst0 | with_reducible exact cst2 | with_reducible exact cst3 | with_reducible exact cst4 | with_reducible exact cst5 | with_reducible exact cst6 | with_reducible exact cst7 | with_reducible exact cst8 | with_reducible exact cst14 | with_reducible exact cst15 | with_reducible exact cst25 | with_reducible exact cst30 | with_reducible exact cst31 | fail) (by first | with_reducible rfl | with_reducible exact cst1 | with_reducible exact cst0 | with_reducible exact cst2 | with_reducible exact cst3 | with_reducible exact cst4 | with_reducible exact cst5 | with_reducible exact cst6 | with_reducible exact cst7 | with_reducible exact cst8 | with_reducible exact cst14 | with_reducible exact cst15 | with_reducible exact cst25 | with_reducible exact cst30 | with_reducible exact cst31 | fail) ?_ | fail) | (refine SideN.mk ?_ ?_; · first | kernel_rfl | omega | exact List.cons_ne_nil _ _ | (simp; done) | (simp; omega) | exact trivial | assumption | fail) | (refine CallN.id ?_; first | refine CallN.det _ (hW _) ?_ | refine CallN.det _ (hR _) ?_ | refine CallN.det _ (hS _) ?_ | fail) | refine CallN.grow _ _ _ 7 (hcp _ _ _) rfl rfl rfl ?_ | refine DrawN.mk' [] ?_ | fail))); all_goals (conv => whnf)
        all_goals exact EndN.det trivial (Wk.refl _)
      · have hW := fun HX => (hW 6 HX).wk (show WkL [_, .sl (some (H.length + 2)) pl.length (pl.flatMap encI), .agg [.int .u8 go, .str gs, .sl (some (H.length + 5)) (gl.length + 5) (gl.flatMap Tm.cells ++ [.bool false, .str ⟨#[97]⟩, .sl none 0 [] , .bool false, .str ⟨#[97]⟩, .sl none 0 [] , .bool false, .str ⟨#[97]⟩, .sl none 0 [] , .bool false, .str ⟨#[97]⟩, .sl none 0 [] , .bool false, .str ⟨#[97]⟩, .sl none 0 []]), .sl (some (H.length + 6)) gm.length (gm.flatMap Fo.cells)]] _ from ⟨Wk.refl _, wk_sl _ _ _, by show Wk _ (.agg (Fo.mk go gs (gl ++ [tmA, tmA, tmA, tmA, tmA]) gm).cells); rw [Fo.cells_mk, List.length_append, List.flatMap_append]; exact wk_agg ⟨Wk.refl _, Wk.refl _, (wk_sl _ _ _ : Wk _ (.sl none (gl.length + 5) (gl.flatMap Tm.cells ++ [.bool false, .str ⟨#[97]⟩, .sl none 0 [] , .bool false, .str ⟨#[97]⟩, .sl none 0 [] , .bool false, .str ⟨#[97]⟩, .sl none 0 [] , .bool false, .str ⟨#[97]⟩, .sl none 0 [] , .bool false, .str ⟨#[97]⟩, .sl none 0 []]))), wk_sl _ _ _, trivial⟩, trivial⟩)
        have hR := hR 6
        have hS := hS 6
        generalize putF pl f (badF 6 (.mk go gs gl gm)) = P at *
        obtain ⟨po, ps, pl1, plc, pm, pmc, ep⟩ := fo_exw P
        rw [ep] at hW hR hS
        clear ep
        have hb1 : (gl.length + 5) * 48 ≤ 140737488355328 := by omega
        have hb2 : gl.length + 5 ≤ maxLen := Nat.le_trans (show gl.length + 5 ≤ 9 by omega) (by decide)
        generalize (kF 1 P 400).2 = sb at *
        cases sb
        (repeat' ((conv => whnf); (first | (refine IfN.id ?_; first | refine IfN.not ?_ | refine IfN.tt rfl ?_ | refine IfN.ff rfl ?_ | refine IfN.dF (by omega) ?_ | refine IfN.dec (fun _ => ?_) (fun _ => ?_) | fail) | (refine EqN.id ?_; first | refine EqN.remC 6 rfl rfl hc ?_ | refine EqN.remN _ _ (by first | with_reducible rfl | with_reducible exact cst1 | with_reducible exact cst0 | with_reducible exact cst2 | with_reducible exact cst3 | with_reducible exact cst4 | with_reducible exact cst5 | with_reducible exact cst6 | with_reducible exact cst7 | with_reducible exact cst8 | with_reducible exact cst14 | with_reducible exact cst15 | with_reducible exact cst25 | with_reducible exact cst30 | with_reducible exact cst31 | fail) (by first | with_reducible rfl | with_reducible exact cst1 | with_reducible exact cst0 | with_reducible exact cst2 | with_reducible exact cst3 | with_reducible exact cst4 | with_reducible exact cst5 | with_reducible exact cst6 | with_reducible exact cst7 | with_reducible exact cst8 | with_reducible exact cst14 | with_reducible exact cst15 | with_reducible exact cst25 | with_reducible exact cst30 | with_reducible exact cst31 | fail) ?_ | fail) | (refine SideN.mk ?_ ?_; · first | kernel_rfl | omega | exact List.cons_ne_nil _ _ | (simp; done) | (simp; omega) | exact trivial | assumption | fail) | (refine CallN.id ?_; first | refine CallN.det _ (hW _) ?_ | refine CallN.det _ (hR _) ?_ | refine CallN.det _ (hS _) ?_ | fail) | (refine CallD.id ?_; first | refine CallD.det _ (fun _ hq X => hte _) ?_ | fail) | refine CallN.grow _ _ _ 7 (hcp _ _ _) rfl rfl rfl ?_ | refine SideN.mk ⟨rfl, rfl, rfl, hb1, hb2⟩ ?_ | (refine PtrN.id ?_; first | refine PtrN.loc _ rfl ?_ | fail) | refine DrawN.mk' [] ?_ | fail))); all_goals (conv => whnf)
        all_goals exact EndN.det trivial (Wk.refl _)
      · have hW := fun HX => (hW 7 HX).wk (show WkL [_, .sl (some (H.length + 2)) pl.length (pl.flatMap encI), .agg [.int .u8 go, .str ⟨#[117, 110, 116, 105, 108]⟩, .sl (some (H.length + 5)) gl.length (gl.flatMap Tm.cells), .sl (some (H.length + 6)) gm.length (gm.flatMap Fo.cells)]] _ from ⟨Wk.refl _, wk_sl _ _ _, by show Wk _ (.agg (Fo.mk go aUntil gl gm).cells); rw [Fo.cells_mk]; exact wk_agg ⟨Wk.refl _, Wk.refl _, wk_sl _ _ _, wk_sl _ _ _, trivial⟩, trivial⟩)
        have hR := hR 7
        have hS := hS 7
        generalize putF pl f (badF 7 (.mk go gs gl gm)) = P at *
        obtain ⟨po, ps, pl1, plc, pm, pmc, ep⟩ := fo_exw P
        rw [ep] at hW hR hS
        clear ep
        generalize (kF 1 P 400).2 = sb at *
        cases sb
        (repeat' ((conv => whnf); (first | (refine IfN.id ?_; first | refine IfN.not ?_ | refine IfN.tt rfl ?_ | refine IfN.ff rfl ?_ | refine IfN.dF (by omega) ?_ | refine IfN.dec (fun _ => ?_) (fun _ => ?_) | fail) | (refine EqN.id ?_; first | refine EqN.remC 7 rfl rfl hc ?_ | refine EqN.remN _ _ (by first | with_reducible rfl | with_reducible exact cst1 | with_reducible exact cst0 | with_reducible exact cst2 | with_reducible exact cst3 | with_reducible exact cst4 | with_reducible exact cst5 | with_reducible exact cst6 | with_reducible exact cst7 | with_reducible exact cst8 | with_reducible exact cst14 | with_reducible exact cst15 | with_reducible exact cst25 | with_reducible exact cst30 | with_reducible exact cst31 | fail) (by first | with_reducible rfl | with_reducible exact cst1 | with_reducible exact cst0 | with_reducible exact cst2 | with_reducible exact cst3 | with_reducible exact cst4 | with_reducible exact cst5 | with_reducible exact cst6 | with_reducible exact cst7 | with_reducible exact cst8 | with_reducible exact cst14 | with_reducible exact cst15 | with_reducible exact cst25 | with_reducible exact cst30 | with_reducible exact cst31 | fail) ?_ | fail) | (refine SideN.mk ?_ ?_; · first | kernel_rfl | omega | exact List.cons_ne_nil _ _ | (simp; done) | (simp; omega) | exact trivial | assumption | fail) | (refine CallN.id ?_; first | refine CallN.det _ (hW _) ?_ | refine CallN.det _ (hR _) ?_ | refine CallN.det _ (hS _) ?_ | fail) | refine CallN.grow _ _ _ 7 (hcp _ _ _) rfl rfl rfl ?_ | refine DrawN.mk' [] ?_ | fail))); all_goals (conv => whnf)
        all_goals exact EndN.det trivial (Wk.refl _)
end Go.Proofs.YtejegcmnddedmaaGreatDoor
/-! text DY02z -/
namespace Go.Proofs.YtejegcmnddedmaaGreatDoor
open Go.ChangeShapes Go.WideShapes Go.ChangeAt Go.RowKit Go.Vsi

theorem mrel_of {g : G} {W : World} {b : Nat} (hg : ∀ b o, ¬ g.own b o) : ∀ (l : List AV) (cs : List Value) (o : Nat), LRel g W l cs → (∀ (i : Nat) c, cs[i]? = some c → W.cell? ⟨b, o + i, .none⟩ = some c) → MRel g W l b o
  | [], _, _, _, _ => trivial
  | v :: l, cs, o, h, hc => by
    simp only [LRel] at h
    obtain ⟨c, r, rfl, h1, h2⟩ := h
    refine ⟨⟨c, by simpa using hc 0 c rfl, h1, hg _ _⟩, ?_⟩
    exact mrel_of hg l r (o + 1) h2 fun i c' hi => by
      have := hc (i + 1) c' (by simpa using hi)
      rwa [show o + (i + 1) = o + 1 + i by omega] at this
theorem mone {W : World} {n : String} {gi : Nat} {ty : TypeId} {T : Ty} {D : DataW Unit} {cells : List AV} {g0 : Nat} {t0 : TypeId} {cs0 : Array Value} {f0 : Nat} {p0 : List MemPlace}
    (hg : Tryz.prog.globalNamed n = some gi) (ht : (Tryz.prog.globals[gi]?).map (·.type) = some ty) (hty : TyOk Tryz.prog ty T) (hpl : PlTy T) (hD : ∃ l', DatOf (H := Unit) D l' ∧ l' = cells)
    (hg0 : Tryz.prog.globalNamed n = some g0) (ht0 : (Tryz.prog.globals[g0]?).map (·.type) = some t0) (hv0 : W.var? Tryz.prog n = some cs0) (hd0 : DataW.trod (fun _ => ()) Tryz.prog W 0 (fun _ => true) false f0 t0 cs0.toList = some (D, p0)) : MRel G.none W cells gi 0 := by
  obtain rfl := Option.some.inj (hg.symm.trans hg0)
  obtain rfl := Option.some.inj (ht.symm.trans ht0)
  obtain ⟨l, h1, h2⟩ := trod_dat (g := G.none) _ hpl hty hd0
  obtain ⟨l', hl1, hl2⟩ := hD
  have hll : l = cells := (DatOf.det h1 hl1).trans hl2
  rw [← hll]
  refine mrel_of (fun _ _ h => h) l cs0.toList 0 h2 fun i c hi => ?_
  have := World.var?_cell hg0 hv0 i
  rw [Nat.zero_add, this]
  simpa using hi
theorem gl_of_laid {W : World} (h : laidMetH Tryz.prog [("lyceum/syntax.rows", Rows.laid_lyceum_syntax_rows)] W) : ∀ p ∈ Glob.gl, MRel G.none W p.2 p.1 0 := by
  rw [MakeChecks.laidMetH_plain _ _ _ (by kernel_rfl)] at h
  obtain ⟨ps, ⟨g0, t0, cs0, f0, p0, q0, hg0, ht0, hv0, hd0, _⟩, _⟩ := h
  have m0 : MRel G.none W (Tryz.gl[0]).2 0 0 := mone (T := repTy 17 (.pair .bool (.pair .bool (.pair (.int .u8) (.pair (.int .i64) (.pair (.int .i64) .unit)))))) (ty := 92) (by kernel_rfl) (by kernel_rfl) (tyOf_ok Tryz.T_ok 12 92 _ (by kernel_rfl)) (by simp [repTy, PlTy]) ⟨_, by unfold Rows.laid_lyceum_syntax_rows; repeat constructor, by kernel_rfl⟩ hg0 ht0 hv0 hd0
  intro p hp
  have hp0 : p = Tryz.gl[0] := by
    have : p ∈ Tryz.gl := hp
    simpa [Tryz.gl] using this
  subst hp0
  · exact m0
theorem u8_nat {n : Int} (h : (Lit.int .u8 n).wf = true) : ∃ m : Nat, n = m ∧ m ≤ 255 := ⟨n.toNat, by have := wf_u8 h; omega, by have := wf_u8 h; omega⟩
theorem u16_nat {n : Int} (h : (Lit.int .u16 n).wf = true) : ∃ m : Nat, n = m ∧ m ≤ 65535 := ⟨n.toNat, by have := wf_u16 h; omega, by have := wf_u16 h; omega⟩
theorem bytes_nat {l : List Int} (h : l.length ≤ maxLen ∧ ∀ x ∈ l, (Lit.int .u8 x).wf = true) : ∃ c : List Nat, l = c.map (fun n : Nat => (n : Int)) ∧ c.length ≤ 9223372036854775807 ∧ ∀ i, i < c.length → c.getD i 0 ≤ 255 := by
  refine ⟨l.map Int.toNat, ?_, by simpa using maxLen_le h.1, fun i hi => ?_⟩
  · rw [List.map_map]
    refine (List.map_id' l).symm.trans (List.map_congr_left fun x hx => ?_)
    have := wf_u8 (h.2 x hx)
    simp only [Function.comp]
    omega
  · have hi' : i < l.length := by simpa using hi
    have := wf_u8 (h.2 _ (List.getElem_mem hi'))
    simp only [List.getD_eq_getElem?_getD, List.getElem?_map, List.getElem?_eq_getElem hi', Option.map_some, Option.getD_some]
    omega
theorem bytes_len (c : List Nat) : List.length (α := Ty.I (.int .u8)) (c.map fun n : Nat => (n : Int)) = c.length := List.length_map ..
theorem bytes_enc (c : List Nat) : List.flatMap (α := Ty.I (.int .u8)) (Ty.enc (.int .u8)) (c.map fun n : Nat => (n : Int)) = c.flatMap fun n : Nat => [.int .u8 (n : Int)] := by
  induction c with
  | nil => rfl
  | cons x c ih => rw [List.flatMap_cons, ← ih]; rfl
theorem bytes_cast (c : List Nat) (p : AV → Prop) (h : p (.sl none c.length (c.flatMap fun n : Nat => [.int .u8 (n : Int)]))) : p (.sl none (List.length (α := Ty.I (.int .u8)) (c.map fun n : Nat => (n : Int))) (List.flatMap (α := Ty.I (.int .u8)) (Ty.enc (.int .u8)) (c.map fun n : Nat => (n : Int)))) := by
  rw [bytes_len, bytes_enc]; exact h
end Go.Proofs.YtejegcmnddedmaaGreatDoor
