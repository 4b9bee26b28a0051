/- A text of the proof: the parts SO10z, SP10z, A10z, J10z, N10z, RA10z, RB10z, RC10z, RD10z, SQ10z, SR10z, RF10z, RG10z, SS10z, ST10z, WA13z, VA13z, DZ13. -/
import Derived.ProofKit
import Derived.LaidMore
import Derived.OpenShut
import Derived.Test.YtjflngchbeegcaaGreatDoorK7
set_option linter.unusedSimpArgs false
set_option linter.unusedVariables false
/-! text SO10z -/
namespace Go.Proofs.YtjflngchbeegcaaGreatDoor.P10
open Go.Vsi
set_option maxHeartbeats 2000000

/-! ### the formulas that truth.Right accepts -/
inductive Fp where
  | at (c : ByteArray)
  | fa
  | f1 (a : Fp)
  | f2 (k : Nat) (a b : Fp)
def Fp.fo : Fp → Fo
  | .at c => .mk 1 c [] []
  | .fa => .mk 2 .empty [] []
  | .f1 a => .mk 3 .empty [] [a.fo]
  | .f2 k a b => .mk k .empty [] [a.fo, b.fo]
def Fp.Ok : Fp → Prop
  | .at c => isPred c = true
  | .fa => True
  | .f1 a => a.Ok
  | .f2 k a b => (k = 4 ∨ k = 5 ∨ k = 6 ∨ k = 7) ∧ a.Ok ∧ b.Ok
theorem emptyB_eq {s : ByteArray} (h : emptyB s = true) : s = .empty := by
  unfold emptyB at h
  rw [beq_iff_eq] at h
  exact ba_eq h
theorem jFs_true {d : Nat} : ∀ {l : List Fo} {L : Int}, (jFs d l L).2 = true → ∀ x ∈ l, ∃ M, (jF d x M).2 = true
  | y :: l, L, h, x, hx => by
    rw [jFs_cons] at h
    split at h
    · rename_i hb
      rcases List.mem_cons.1 hx with e | hx
      · exact ⟨L, e ▸ hb⟩
      · exact jFs_true h x hx
    · cases h
theorem row_fact : ∀ op, 1 ≤ op ∧ op ≤ 7 → rowS op = (if op ≤ 2 then 0 else if op = 3 then 1 else 2) ∧ rowN op = (if op = 1 then 1 else 0) := by
  intro op h
  have : op = 1 ∨ op = 2 ∨ op = 3 ∨ op = 4 ∨ op = 5 ∨ op = 6 ∨ op = 7 := by omega
  rcases this with rfl | rfl | rfl | rfl | rfl | rfl | rfl <;> decide
theorem fp_of : ∀ (f : Fo) (d : Nat) (L : Int), (jF d f L).2 = true → propF f = true → ∃ p : Fp, p.Ok ∧ f = p.fo
  | .mk op s l m, d, L, h1, h2 => by
    unfold propF at h2
    rw [Bool.and_eq_true, decide_eq_true_eq, propFs_all, List.all_eq_true] at h2
    obtain ⟨⟨q1, q2, q3⟩, q4⟩ := h2
    unfold jF at h1
    split at h1
    · cases h1
    · split at h1
      · cases h1
      · split at h1
        · cases h1
        · rename_i h3
          have h3 := Classical.not_not.1 h3
          obtain ⟨r1, r2⟩ := row_fact op ⟨q1, q2⟩
          have hl : l = [] := List.eq_nil_of_length_eq_zero q3
          split at h1
          · have hsub := jFs_true h1
            have hm := h3.2.2
            rw [r1] at hm
            rw [r2] at h3
            have hs : op ≠ 1 → s = .empty := fun e => by
              have := h3.1
              rw [if_neg e] at this
              exact emptyB_eq (by simpa [nameOk] using this)
            have hop : op = 1 ∨ op = 2 ∨ op = 3 ∨ 4 ≤ op := by omega
            rcases hop with rfl | rfl | rfl | h4
            · have hm0 : m = [] := List.eq_nil_of_length_eq_zero (by simpa using hm)
              subst hm0 hl
              exact ⟨.at s, by simpa [nameOk, Fp.Ok] using h3.1, rfl⟩
            · have hm0 : m = [] := List.eq_nil_of_length_eq_zero (by simpa using hm)
              subst hm0 hl
              exact ⟨.fa, trivial, by rw [hs (by omega)]; rfl⟩
            · rw [if_neg (by omega), if_pos rfl] at hm
              match m, hm with
              | [a], _ =>
                obtain ⟨M, hM⟩ := hsub a (by simp)
                obtain ⟨p, hp1, hp2⟩ := fp_of a _ M hM (q4 a (by simp))
                subst hl
                exact ⟨.f1 p, hp1, by rw [hs (by omega), hp2]; rfl⟩
            · rw [if_neg (by omega), if_neg (by omega)] at hm
              match m, hm with
              | [a, b], _ =>
                obtain ⟨M, hM⟩ := hsub a (by simp)
                obtain ⟨N, hN⟩ := hsub b (by simp)
                obtain ⟨p, hp1, hp2⟩ := fp_of a _ M hM (q4 a (by simp))
                obtain ⟨q, hq1, hq2⟩ := fp_of b _ N hN (q4 b (by simp))
                subst hl
                exact ⟨.f2 op p q, ⟨by omega, hp1, hq1⟩, by rw [hs (by omega), hp2, hq2]; rfl⟩
          · cases h1
theorem fp_right {f : Fo} (h : rightF f = true) : ∃ p : Fp, p.Ok ∧ f = p.fo := by
  unfold rightF at h
  rw [Bool.and_eq_true] at h
  exact fp_of f 1 400 h.1 h.2
end Go.Proofs.YtjflngchbeegcaaGreatDoor.P10
/-! text SP10z -/
namespace Go.Proofs.YtjflngchbeegcaaGreatDoor.P10
open Go.Vsi
set_option maxHeartbeats 2000000
attribute [local irreducible] VW VCall VO bits
/-! ### names in order, and the table, in general -/
def eN : ByteArray := .empty
def lessB (a b : ByteArray) : Bool := Op.bytesLess a.toList b.toList
def nmAt (l : List ByteArray) (i : Nat) : Bool := isPred (l.getD i eN) && (decide (i = 0) || lessB (l.getD (i - 1) eN) (l.getD i eN))
def isNmG (l : List ByteArray) : Bool := (List.range l.length).all (nmAt l)
def ixG (n : Nat) : List AV := (List.range n).map fun j : Nat => .int .i64 (j : Int)
theorem ixG_below (n m : Nat) : belowL n (ixG m) := by
  unfold ixG
  induction List.range m with
  | nil => trivial
  | cons x l ih => exact ⟨trivial, ih⟩
theorem isNames_g (l : List ByteArray) (hlen : l.length ≤ 9223372036854775807) (hsz : ∀ c ∈ l, c.size ≤ maxLen) (H : Heap) : VDet Tryz.prog 125 [.sl none l.length (l.flatMap encSG)] H (.bool (isNmG l)) := by
  refine fn_det Tryz.E0 Tryz.mx Tryz.func125 (by kernel_rfl) rfl (Nat.le_of_ble_eq_true rfl) rfl fun hcl hbl => ?_
  (repeat' ((conv => whnf); (first | refine DrawN.mk' [] ?_ | fail))); all_goals (conv => whnf)
  refine loop_R Tryz.E0 Tryz.mx (σ := Nat) (fun k => k ≤ l.length ∧ ∀ i, i < k → nmAt l i = true) (fun k => l.length - k) (fun k => [(7, .v (.int .i64 k))]) (fun _ => []) _ 0 rfl hcl [0, 5, 6] rfl ⟨Nat.zero_le _, fun i hi => by omega⟩ ⟨⟨_, rfl, Wk.refl _⟩, trivial⟩ rfl (fun _ _ => rfl) ?_
  rintro k ⟨hk, hall⟩
  clear hbl
  by_cases hlt : k < l.length
  · have hp := predicate_g (l.getD k eN) (maxLen_le (hsz _ (getD_memT l k eN hlt)))
    have hfalse : nmAt l k = false → isNmG l = false := fun h => by
      apply Bool.eq_false_iff.2
      intro hA
      rw [List.all_eq_true.1 hA k (List.mem_range.2 hlt)] at h
      cases h
    have hdef : nmAt l k = (isPred (l.getD k eN) && (decide (k = 0) || lessB (l.getD (k - 1) eN) (l.getD k eN))) := rfl
    have hlb : Op.bytesLess (l.getD (k - 1) eN).toList (l.getD k eN).toList = lessB (l.getD (k - 1) eN) (l.getD k eN) := rfl
    cases hpb : isPred (l.getD k eN) with
    | false =>
      rw [hpb] at hp hdef
      rw [hfalse (by rw [hdef]; rfl)]
      (repeat' ((conv => whnf); (first | (refine IfN.id ?_; first | refine IfN.not ?_ | refine IfN.ff rfl ?_ | refine IfN.dT (by omega) ?_ | fail) | (refine SideN.mk ?_ ?_; · first | kernel_rfl | omega | exact List.cons_ne_nil _ _ | (simp; done) | (simp; omega) | exact trivial | assumption | fail) | (refine CallN.id ?_; first | refine CallN.det _ (hp _) ?_ | fail) | refine SegN.nth (f := encSG) (l := l) eN k rfl hlt (fun _ => rfl) ?_ | refine DrawN.mk' [] ?_ | fail))); all_goals (conv => whnf)
      exact EndN.det trivial (Wk.refl _)
    | true =>
      rw [hpb] at hp hdef
      cases hlb2 : lessB (l.getD (k - 1) eN) (l.getD k eN) with
      | true =>
        rw [hlb2] at hlb hdef
        have hok : nmAt l k = true := by rw [hdef]; simp
        (repeat' ((conv => whnf); (first | (refine IfN.id ?_; first | refine IfN.tt hlb ?_ | refine IfN.not ?_ | refine IfN.tt rfl ?_ | refine IfN.dT (by omega) ?_ | refine IfN.dec (fun _ => ?_) (fun _ => ?_) | fail) | (refine EqN.id ?_; first | (refine EqN.addN _ _ (by first | with_reducible rfl | with_reducible exact cst1 | with_reducible exact cst0 | with_reducible exact cst2 | with_reducible exact cst3 | with_reducible exact cst4 | with_reducible exact cst5 | with_reducible exact cst6 | with_reducible exact cst7 | with_reducible exact cst8 | with_reducible exact cst14 | with_reducible exact cst15 | with_reducible exact cst25 | with_reducible exact cst30 | with_reducible exact cst31 | fail) (by first | with_reducible rfl | with_reducible exact cst1 | with_reducible exact cst0 | with_reducible exact cst2 | with_reducible exact cst3 | with_reducible exact cst4 | with_reducible exact cst5 | with_reducible exact cst6 | with_reducible exact cst7 | with_reducible exact cst8 | with_reducible exact cst14 | with_reducible exact cst15 | with_reducible exact cst25 | with_reducible exact cst30 | with_reducible exact cst31 | fail) ?_ ?_; · (repeat' (first | omega | refine And.intro ?_ ?_ | exact bnd_andl (by omega) | exact bnd_andr (by omega) | refine bnd_or ?_ ?_ | refine bnd_or31 ?_ ?_ | refine bnd_xor ?_ ?_ | refine bnd_xor31 ?_ ?_ | refine bnd_shr ?_ | refine bnd_shl ?_ ?_ | refine bnd_mod ?_ | refine bnd_andl ?_ | fail))) | (refine EqN.subN _ _ (by first | with_reducible rfl | with_reducible exact cst1 | with_reducible exact cst0 | with_reducible exact cst2 | with_reducible exact cst3 | with_reducible exact cst4 | with_reducible exact cst5 | with_reducible exact cst6 | with_reducible exact cst7 | with_reducible exact cst8 | with_reducible exact cst14 | with_reducible exact cst15 | with_reducible exact cst25 | with_reducible exact cst30 | with_reducible exact cst31 | fail) (by first | with_reducible rfl | with_reducible exact cst1 | with_reducible exact cst0 | with_reducible exact cst2 | with_reducible exact cst3 | with_reducible exact cst4 | with_reducible exact cst5 | with_reducible exact cst6 | with_reducible exact cst7 | with_reducible exact cst8 | with_reducible exact cst14 | with_reducible exact cst15 | with_reducible exact cst25 | with_reducible exact cst30 | with_reducible exact cst31 | fail) ?_ ?_; · (repeat' (first | omega | refine And.intro ?_ ?_ | exact bnd_andl (by omega) | exact bnd_andr (by omega) | refine bnd_or ?_ ?_ | refine bnd_or31 ?_ ?_ | refine bnd_xor ?_ ?_ | refine bnd_xor31 ?_ ?_ | refine bnd_shr ?_ | refine bnd_shl ?_ ?_ | refine bnd_mod ?_ | refine bnd_andl ?_ | fail))) | fail) | (refine SideN.mk ?_ ?_; · first | kernel_rfl | omega | exact List.cons_ne_nil _ _ | (simp; done) | (simp; omega) | exact trivial | assumption | fail) | (refine CallN.id ?_; first | refine CallN.det _ (hp _) ?_ | fail) | refine SegN.nth (f := encSG) (l := l) eN k rfl hlt (fun _ => rfl) ?_ | refine SegN.nth (f := encSG) (l := l) eN (k - 1) (by omega) (by omega) (fun _ => rfl) ?_ | refine DrawN.mk' [] ?_ | fail))); all_goals (conv => whnf)
        all_goals (refine ⟨⟨k + 1, ⟨by omega, fun i hi => by
          by_cases e : i = k
          · rw [e]; exact hok
          · exact hall i (by omega)⟩, by omega, ?_, .inl ⟨rfl, rfl⟩, rfl, _, rfl, ?_⟩⟩; rotate_left 1; (first | exact .inl rfl | exact .inr ⟨by simp [belowRE, below, belowL, tr, tms_below, fos_below, encSG_below, mpG_belowK, mpG_belowV, ixG_below], by simp [belowH, Blk.below, belowL, below, tms_below, fos_below, encSG_below, mpG_belowK, mpG_belowV, ixG_below]⟩ | fail); (repeat' (first | exact trivial | refine ⟨⟨_, rfl, ?_⟩, ?_⟩ | fail)); all_goals try (first | exact Wk.refl _ | exact Wk.of_eq (congrArg (AV.int _) (by omega)) | fail))
      | false =>
        rw [hlb2] at hlb hdef
        by_cases h0 : k = 0
        · have hok : nmAt l k = true := by rw [hdef]; simp [h0]
          (repeat' ((conv => whnf); (first | (refine IfN.id ?_; first | refine IfN.not ?_ | refine IfN.tt rfl ?_ | refine IfN.dT (by omega) ?_ | refine IfN.dF (by omega) ?_ | fail) | (refine EqN.id ?_; first | (refine EqN.addN _ _ (by first | with_reducible rfl | with_reducible exact cst1 | with_reducible exact cst0 | with_reducible exact cst2 | with_reducible exact cst3 | with_reducible exact cst4 | with_reducible exact cst5 | with_reducible exact cst6 | with_reducible exact cst7 | with_reducible exact cst8 | with_reducible exact cst14 | with_reducible exact cst15 | with_reducible exact cst25 | with_reducible exact cst30 | with_reducible exact cst31 | fail) (by first | with_reducible rfl | with_reducible exact cst1 | with_reducible exact cst0 | with_reducible exact cst2 | with_reducible exact cst3 | with_reducible exact cst4 | with_reducible exact cst5 | with_reducible exact cst6 | with_reducible exact cst7 | with_reducible exact cst8 | with_reducible exact cst14 | with_reducible exact cst15 | with_reducible exact cst25 | with_reducible exact cst30 | with_reducible exact cst31 | fail) ?_ ?_; · (repeat' (first | omega | refine And.intro ?_ ?_ | exact bnd_andl (by omega) | exact bnd_andr (by omega) | refine bnd_or ?_ ?_ | refine bnd_or31 ?_ ?_ | refine bnd_xor ?_ ?_ | refine bnd_xor31 ?_ ?_ | refine bnd_shr ?_ | refine bnd_shl ?_ ?_ | refine bnd_mod ?_ | refine bnd_andl ?_ | fail))) | fail) | (refine SideN.mk ?_ ?_; · first | kernel_rfl | omega | exact List.cons_ne_nil _ _ | (simp; done) | (simp; omega) | exact trivial | assumption | fail) | (refine CallN.id ?_; first | refine CallN.det _ (hp _) ?_ | fail) | refine SegN.nth (f := encSG) (l := l) eN k rfl hlt (fun _ => rfl) ?_ | refine DrawN.mk' [] ?_ | fail))); all_goals (conv => whnf)
          all_goals (refine ⟨⟨k + 1, ⟨by omega, fun i hi => by
            by_cases e : i = k
            · rw [e]; exact hok
            · exact hall i (by omega)⟩, by omega, ?_, .inl ⟨rfl, rfl⟩, rfl, _, rfl, ?_⟩⟩; rotate_left 1; (first | exact .inl rfl | exact .inr ⟨by simp [belowRE, below, belowL, tr, tms_below, fos_below, encSG_below, mpG_belowK, mpG_belowV, ixG_below], by simp [belowH, Blk.below, belowL, below, tms_below, fos_below, encSG_below, mpG_belowK, mpG_belowV, ixG_below]⟩ | fail); (repeat' (first | exact trivial | refine ⟨⟨_, rfl, ?_⟩, ?_⟩ | fail)); all_goals try (first | exact Wk.refl _ | exact Wk.of_eq (congrArg (AV.int _) (by omega)) | fail))
        · rw [hfalse (by rw [hdef]; simp [h0])]
          (repeat' ((conv => whnf); (first | (refine IfN.id ?_; first | refine IfN.ff hlb ?_ | refine IfN.not ?_ | refine IfN.tt rfl ?_ | refine IfN.dT (by omega) ?_ | fail) | (refine EqN.id ?_; first | (refine EqN.subN _ _ (by first | with_reducible rfl | with_reducible exact cst1 | with_reducible exact cst0 | with_reducible exact cst2 | with_reducible exact cst3 | with_reducible exact cst4 | with_reducible exact cst5 | with_reducible exact cst6 | with_reducible exact cst7 | with_reducible exact cst8 | with_reducible exact cst14 | with_reducible exact cst15 | with_reducible exact cst25 | with_reducible exact cst30 | with_reducible exact cst31 | fail) (by first | with_reducible rfl | with_reducible exact cst1 | with_reducible exact cst0 | with_reducible exact cst2 | with_reducible exact cst3 | with_reducible exact cst4 | with_reducible exact cst5 | with_reducible exact cst6 | with_reducible exact cst7 | with_reducible exact cst8 | with_reducible exact cst14 | with_reducible exact cst15 | with_reducible exact cst25 | with_reducible exact cst30 | with_reducible exact cst31 | fail) ?_ ?_; · (repeat' (first | omega | refine And.intro ?_ ?_ | exact bnd_andl (by omega) | exact bnd_andr (by omega) | refine bnd_or ?_ ?_ | refine bnd_or31 ?_ ?_ | refine bnd_xor ?_ ?_ | refine bnd_xor31 ?_ ?_ | refine bnd_shr ?_ | refine bnd_shl ?_ ?_ | refine bnd_mod ?_ | refine bnd_andl ?_ | fail))) | fail) | (refine SideN.mk ?_ ?_; · first | kernel_rfl | omega | exact List.cons_ne_nil _ _ | (simp; done) | (simp; omega) | exact trivial | assumption | fail) | (refine CallN.id ?_; first | refine CallN.det _ (hp _) ?_ | fail) | refine SegN.nth (f := encSG) (l := l) eN k rfl hlt (fun _ => rfl) ?_ | refine SegN.nth (f := encSG) (l := l) eN (k - 1) (by omega) (by omega) (fun _ => rfl) ?_ | refine DrawN.mk' [] ?_ | fail))); all_goals (conv => whnf)
          all_goals exact EndN.det trivial (Wk.refl _)
  · have : isNmG l = true := List.all_eq_true.2 fun i hi => hall i (by have := List.mem_range.1 hi; omega)
    rw [this]
    (repeat' ((conv => whnf); (first | (refine IfN.id ?_; first | refine IfN.dF (by omega) ?_ | fail) | refine DrawN.mk' [] ?_ | fail))); all_goals (conv => whnf)
    exact EndN.det trivial (Wk.refl _)
theorem index_g (l : List ByteArray) (c : ByteArray) (hlen : l.length ≤ 9223372036854775807) (H : Heap) : VPure Tryz.prog 151 [.sl none l.length (l.flatMap encSG), .str c] H (fun r => ∃ i : Int, r = .int .i64 i ∧ (0 ≤ i ↔ c ∈ l)) := by
  refine fn_pure Tryz.E0 Tryz.mx Tryz.func151 (by kernel_rfl) rfl (Nat.le_of_ble_eq_true rfl) rfl fun hcl hbl => ?_
  (repeat' ((conv => whnf); (first | refine DrawN.mk' [] ?_ | fail))); all_goals (conv => whnf)
  refine loop_R Tryz.E0 Tryz.mx (σ := Nat) (fun j => j ≤ l.length ∧ ∀ i, i < j → l.getD i eN ≠ c) (fun j => l.length - j) (fun j => [(8, .v (.int .i64 j))]) (fun j => []) _ 0 rfl hcl [0, 1, 7] rfl ⟨Nat.zero_le _, fun i hi => absurd hi (by omega)⟩ ⟨⟨_, rfl, Wk.refl _⟩, trivial⟩ rfl (fun _ _ => rfl) ?_
  intro j hj
  clear hbl
  (repeat' ((conv => whnf); (first | (refine IfN.id ?_; first | refine IfN.dec (fun _ => ?_) (fun _ => ?_) | (refine IfN.mk ?_ ?_ <;> intro _) | fail) | (refine EqN.id ?_; first | (refine EqN.addN _ _ (by first | with_reducible rfl | with_reducible exact cst1 | with_reducible exact cst0 | with_reducible exact cst2 | with_reducible exact cst3 | with_reducible exact cst4 | with_reducible exact cst5 | with_reducible exact cst6 | with_reducible exact cst7 | with_reducible exact cst8 | with_reducible exact cst14 | with_reducible exact cst15 | with_reducible exact cst25 | with_reducible exact cst30 | with_reducible exact cst31 | fail) (by first | with_reducible rfl | with_reducible exact cst1 | with_reducible exact cst0 | with_reducible exact cst2 | with_reducible exact cst3 | with_reducible exact cst4 | with_reducible exact cst5 | with_reducible exact cst6 | with_reducible exact cst7 | with_reducible exact cst8 | with_reducible exact cst14 | with_reducible exact cst15 | with_reducible exact cst25 | with_reducible exact cst30 | with_reducible exact cst31 | fail) ?_ ?_; · (repeat' (first | omega | refine And.intro ?_ ?_ | exact bnd_andl (by omega) | exact bnd_andr (by omega) | refine bnd_or ?_ ?_ | refine bnd_or31 ?_ ?_ | refine bnd_xor ?_ ?_ | refine bnd_xor31 ?_ ?_ | refine bnd_shr ?_ | refine bnd_shl ?_ ?_ | refine bnd_mod ?_ | refine bnd_andl ?_ | fail))) | fail) | (refine SideN.mk ?_ ?_; · first | kernel_rfl | omega | exact List.cons_ne_nil _ _ | (simp; done) | (simp; omega) | exact trivial | assumption | fail) | refine SegN.nth (f := encSG) (l := l) eN j rfl (by omega) (fun _ => rfl) ?_ | refine DrawN.mk' [] ?_ | fail))); all_goals (conv => whnf)
  · rename_i h1 h2
    rw [ba_beq, decide_eq_true_eq] at h2
    refine EndN.pure (v := .int .i64 j) trivial (Wk.refl _) ⟨j, rfl, ⟨fun _ => ?_, fun _ => by omega⟩⟩
    rw [h2]
    exact getD_memT l j eN (by omega)
  · rename_i h1 h2
    rw [ba_beq, decide_eq_false_iff_not] at h2
    (refine ⟨⟨j + 1, ⟨by omega, fun i hi => by
      rcases Nat.lt_or_ge i j with h | h
      · exact hj.2 i h
      · obtain rfl : i = j := by omega
        exact fun e => h2 e.symm⟩, by omega, ?_, .inl ⟨rfl, rfl⟩, rfl, _, rfl, ?_⟩⟩; rotate_left 1; (first | exact .inl rfl | exact .inr ⟨by simp [belowRE, below, belowL, tr, tms_below, fos_below, encSG_below, mpG_belowK, mpG_belowV, ixG_below], by simp [belowH, Blk.below, belowL, below, tms_below, fos_below, encSG_below, mpG_belowK, mpG_belowV, ixG_below]⟩ | fail); (repeat' (first | exact trivial | refine ⟨⟨_, rfl, ?_⟩, ?_⟩ | fail)); all_goals try (first | exact Wk.refl _ | exact Wk.of_eq (congrArg (AV.int _) (by omega)) | fail))
  · refine EndN.pure (v := .int .i64 (-1)) trivial (Wk.refl _) ⟨-1, rfl, ⟨fun h => absurd h (by omega), fun hc => ?_⟩⟩
    obtain ⟨i, hi, e⟩ := List.getElem_of_mem hc
    exact absurd (by simp [List.getD_eq_getElem?_getD, hi, e]) (hj.2 i (by omega))
theorem contains_g (l : List ByteArray) (c : ByteArray) (hlen : l.length ≤ 9223372036854775807) (H : Heap) : VDet Tryz.prog 127 [.sl none l.length (l.flatMap encSG), .str c] H (.bool (memG c l)) := by
  have hm := memG_iff c l
  refine fn_det Tryz.E0 Tryz.mx Tryz.func127 (by kernel_rfl) rfl (Nat.le_of_ble_eq_true rfl) rfl fun hcl hbl => ?_
  (repeat' ((conv => whnf); (first | refine CallN.pure _ rfl rfl (index_g l c hlen _) ?_ | refine DrawN.mk' [] ?_ | fail))); all_goals (conv => whnf)
  rintro r ⟨i, rfl, hi⟩
  (repeat' ((conv => whnf); (first | refine DrawN.mk' [] ?_ | fail))); all_goals (conv => whnf)
  refine EndN.det trivial (Wk.of_eq (congrArg AV.bool (Bool.eq_iff_iff.2 ?_)))
  rw [hm, ← hi]
  simp
end Go.Proofs.YtjflngchbeegcaaGreatDoor.P10
/-! text A10z -/
namespace Go.Proofs.YtjflngchbeegcaaGreatDoor.P10
open Go.Vsi
attribute [local irreducible] VW VCall VO

/-! ### names: the id 2 * c is the letter c, the id 2 * c + 1 is the letter c with "z9" behind it -/
def hdB (c : UInt8) : UInt8 := UInt8.ofNat (c.toNat / 2)
def nmL (c : UInt8) : List UInt8 := if c.toNat % 2 = 0 then [hdB c] else [hdB c, 122, 57]
def nm (c : UInt8) : ByteArray := ⟨(nmL c).toArray⟩
theorem bytesLess_iff : ∀ a b : List UInt8, Op.bytesLess a b = decide (a < b)
  | [], [] => rfl
  | [], b :: m => by simp [Op.bytesLess]
  | a :: l, [] => by simp [Op.bytesLess]
  | a :: l, b :: m => by
    simp only [Op.bytesLess, bytesLess_iff l m]
    apply Bool.eq_iff_iff.2
    simp only [Bool.or_eq_true, Bool.and_eq_true, decide_eq_true_eq, beq_iff_eq, List.cons_lt_cons_iff]
def cap (c : UInt8) : Prop := 130 ≤ c.toNat ∧ c.toNat ≤ 181
end Go.Proofs.YtjflngchbeegcaaGreatDoor.P10
/-! text J10z -/
namespace Go.Proofs.YtjflngchbeegcaaGreatDoor.P10
open Go.Vsi
set_option maxHeartbeats 1000000
attribute [local irreducible] VW VCall VO bits

/-! ### formulas -/
inductive Fm where
  | at (c : UInt8)
  | fa
  | f1 (k : Nat) (a : Fm)
  | f2 (k : Nat) (a b : Fm)
def Fm.op : Fm → Nat
  | .at _ => 1
  | .fa => 2
  | .f1 k _ => k
  | .f2 k _ _ => k
def Fm.nmB : Fm → ByteArray
  | .at c => nm c
  | _ => .empty
def Fm.sn : Fm → Nat
  | .at _ => 0
  | .fa => 0
  | .f1 _ _ => 1
  | .f2 _ _ _ => 2
def Fm.sc : Fm → List AV
  | .at _ => []
  | .fa => []
  | .f1 _ a => [.int .u8 a.op, .str a.nmB, .sl none 0 [], .sl none a.sn a.sc]
  | .f2 _ a b => [.int .u8 a.op, .str a.nmB, .sl none 0 [], .sl none a.sn a.sc, .int .u8 b.op, .str b.nmB, .sl none 0 [], .sl none b.sn b.sc]
def Fm.cells (f : Fm) : List AV := [.int .u8 f.op, .str f.nmB, .sl none 0 [], .sl none f.sn f.sc]
def is1 (k : Nat) : Prop := k = 3 ∨ k = 10 ∨ k = 11 ∨ k = 12 ∨ k = 13
def is2 (k : Nat) : Prop := k = 4 ∨ k = 5 ∨ k = 6 ∨ k = 7 ∨ k = 14
def Fm.Ok : Fm → Prop
  | .at c => cap c
  | .fa => True
  | .f1 k a => is1 k ∧ a.Ok
  | .f2 k a b => is2 k ∧ a.Ok ∧ b.Ok
/-! ### syntax.Right -/
end Go.Proofs.YtjflngchbeegcaaGreatDoor.P10
/-! text N10z -/
namespace Go.Proofs.YtjflngchbeegcaaGreatDoor.P10
open Go.Vsi
set_option maxHeartbeats 1000000
attribute [local irreducible] VW VCall VO bits

/-! ### lists of names -/
structure NmOk (l : List UInt8) : Prop where
  len : l.length ≤ 52
  cap : ∀ i, i < l.length → cap (l.getD i 0)
  inc : ∀ i, 0 < i → i < l.length → (l.getD (i - 1) 0).toNat < (l.getD i 0).toNat
end Go.Proofs.YtjflngchbeegcaaGreatDoor.P10
/-! text RA10z -/
namespace Go.Proofs.YtjflngchbeegcaaGreatDoor.P10
open Go.Vsi
set_option maxHeartbeats 1000000
attribute [local irreducible] VW VCall VO bits
/-! ### allRight -/
/-! ### slices.Contains -/
/-! ### the table -/
def opsK : List AV := [.int .u8 2, .int .u8 3, .int .u8 4, .int .u8 5, .int .u8 6, .int .u8 7]
def opsV : List AV := [.clo (.func 152) [] [], .clo (.func 153) [] [], .clo (.func 154) [] [], .clo (.func 155) [] [], .clo (.func 156) [] [], .clo (.func 157) [] []]
theorem NmOk.lt {l : List UInt8} (h : NmOk l) : ∀ (k i : Nat), i < k → k < l.length → (l.getD i 0).toNat < (l.getD k 0).toNat
  | 0, i, hi, _ => by omega
  | k + 1, i, hi, hk => by
    have h1 := h.inc (k + 1) (by omega) hk
    rw [Nat.add_sub_cancel] at h1
    rcases Nat.lt_or_ge i k with h2 | h2
    · have := NmOk.lt h k i h2 (by omega)
      omega
    · obtain rfl : i = k := by omega
      exact h1
end Go.Proofs.YtjflngchbeegcaaGreatDoor.P10
/-! text RB10z -/
namespace Go.Proofs.YtjflngchbeegcaaGreatDoor.P10
open Go.Vsi
set_option maxHeartbeats 1000000

/-! ### numbers made of bits -/
def mkBits : Nat → (Nat → Bool) → Nat
  | 0, _ => 0
  | n + 1, g => (g 0).toNat + 2 * mkBits n fun i => g (i + 1)
theorem testBit_mk : ∀ (n : Nat) (g : Nat → Bool) (i : Nat), (mkBits n g).testBit i = (decide (i < n) && g i)
  | 0, g, i => by simp [mkBits]
  | n + 1, g, 0 => by
    simp only [mkBits, Nat.testBit_zero]
    cases g 0 <;> simp <;> omega
  | n + 1, g, i + 1 => by
    have h : (mkBits (n + 1) g) / 2 = mkBits n fun i => g (i + 1) := by
      simp only [mkBits]
      cases g 0 <;> simp <;> omega
    rw [Nat.testBit_succ, h, testBit_mk]
    simp
theorem mk_lt : ∀ (n : Nat) (g : Nat → Bool), mkBits n g < 2 ^ n
  | 0, _ => by simp [mkBits]
  | n + 1, g => by
    have := mk_lt n fun i => g (i + 1)
    simp only [mkBits, Nat.pow_succ]
    cases g 0 <;> simp <;> omega
theorem eq_mk {n x : Nat} {g : Nat → Bool} (hx : x < 2 ^ n) (h : ∀ i, i < n → x.testBit i = g i) : x = mkBits n g := by
  apply Nat.eq_of_testBit_eq
  intro i
  rw [testBit_mk]
  by_cases hi : i < n
  · simp [hi, h i hi]
  · rw [Nat.testBit_lt_two_pow (Nat.lt_of_lt_of_le hx (Nat.pow_le_pow_right (by omega) (by omega)))]
    simp [hi]
theorem mk_congr {n : Nat} {g h : Nat → Bool} (e : ∀ i, i < n → g i = h i) : mkBits n g = mkBits n h :=
  eq_mk (mk_lt n g) fun i hi => by rw [testBit_mk]; simp [hi, e i hi]
theorem wu64 {m : Nat} (h : m < 2 ^ 64) : IntKind.u64.wrap (m : Int) = m := IntWalk.u64_in m (by omega)
theorem ofInt64u (m : Nat) (h : m < 2 ^ 64) : (BitVec.ofInt 64 (m : Int)).toNat = m := by
  rw [BitVec.toNat_ofInt, Int.emod_eq_of_lt (by omega) (by omega)]
  simp
theorem bits_u64 (op : BinOp) (x y : Int) : bits op .u64 x y = ((match op with
      | .and => BitVec.ofInt 64 x &&& BitVec.ofInt 64 y
      | .or => BitVec.ofInt 64 x ||| BitVec.ofInt 64 y
      | .xor => BitVec.ofInt 64 x ^^^ BitVec.ofInt 64 y
      | _ => BitVec.ofInt 64 x &&& ~~~BitVec.ofInt 64 y).toNat : Nat) := by
  have : ∀ b : BitVec 64, IntKind.u64.wrap (b.toNat : Int) = b.toNat := fun b => wu64 b.isLt
  unfold bits
  cases op <;> exact this _
theorem tbU (m : Nat) (h : m < 2 ^ 64) (i : Nat) : (BitVec.ofInt 64 (m : Int)).toNat.testBit i = m.testBit i := by rw [ofInt64u m h]
theorem bits_and (g h : Nat → Bool) : bits .and .u64 (mkBits 64 g : Nat) (mkBits 64 h : Nat) = (mkBits 64 fun i => g i && h i : Nat) := by
  rw [bits_u64]
  refine congrArg Int.ofNat (eq_mk (BitVec.isLt _) fun i hi => ?_)
  simp only [BitVec.toNat_and, Nat.testBit_and, tbU _ (mk_lt 64 _), testBit_mk, hi, decide_true, Bool.true_and]
theorem bits_or (g h : Nat → Bool) : bits .or .u64 (mkBits 64 g : Nat) (mkBits 64 h : Nat) = (mkBits 64 fun i => g i || h i : Nat) := by
  rw [bits_u64]
  refine congrArg Int.ofNat (eq_mk (BitVec.isLt _) fun i hi => ?_)
  simp only [BitVec.toNat_or, Nat.testBit_or, tbU _ (mk_lt 64 _), testBit_mk, hi, decide_true, Bool.true_and]
theorem bits_xor (g h : Nat → Bool) : bits .xor .u64 (mkBits 64 g : Nat) (mkBits 64 h : Nat) = (mkBits 64 fun i => g i ^^ h i : Nat) := by
  rw [bits_u64]
  refine congrArg Int.ofNat (eq_mk (BitVec.isLt _) fun i hi => ?_)
  simp only [BitVec.toNat_xor, Nat.testBit_xor, tbU _ (mk_lt 64 _), testBit_mk, hi, decide_true, Bool.true_and]
theorem comU : comK .u64 = ((mkBits 64 fun _ => true : Nat) : Int) := by decide
theorem bits_com (g : Nat → Bool) : bits .xor .u64 (comK .u64) (mkBits 64 g : Nat) = (mkBits 64 fun i => !g i : Nat) := by
  rw [comU, bits_xor]
  exact congrArg _ (mk_congr fun i _ => by simp)

/-! ### the closures of a table -/
attribute [local irreducible] VW VCall VO bits
def U (g : Nat → Bool) : AV := .int .u64 ((mkBits 64 g : Nat) : Int)
theorem op2_c (g h : Nat → Bool) (H : Heap) : VDet Tryz.prog 152 [U g, U h] H (U fun _ => false) := by
  unfold U
  refine fn_det Tryz.E0 Tryz.mx Tryz.func152 (by kernel_rfl) rfl (Nat.le_of_ble_eq_true rfl) rfl fun hcl hbl => ?_
  (repeat' ((conv => whnf); (first | refine DrawN.mk' [] ?_ | fail))); all_goals (conv => whnf)
  exact EndN.det trivial (Wk.of_eq (congrArg (AV.int .u64) (by decide)))
theorem op3_c (g h : Nat → Bool) (H : Heap) : VDet Tryz.prog 153 [U g, U h] H (U fun i => !g i) := by
  unfold U
  refine fn_det Tryz.E0 Tryz.mx Tryz.func153 (by kernel_rfl) rfl (Nat.le_of_ble_eq_true rfl) rfl fun hcl hbl => ?_
  (repeat' ((conv => whnf); (first | (refine EqN.id ?_; first | refine EqN.mk _ rfl ?_ | fail) | refine DrawN.mk' [] ?_ | fail))); all_goals (conv => whnf)
  exact EndN.det trivial (Wk.of_eq (congrArg (AV.int .u64) (bits_com g)))
theorem op4_c (g h : Nat → Bool) (H : Heap) : VDet Tryz.prog 154 [U g, U h] H (U fun i => g i && h i) := by
  unfold U
  refine fn_det Tryz.E0 Tryz.mx Tryz.func154 (by kernel_rfl) rfl (Nat.le_of_ble_eq_true rfl) rfl fun hcl hbl => ?_
  (repeat' ((conv => whnf); (first | (refine EqN.id ?_; first | refine EqN.mk _ rfl ?_ | fail) | refine DrawN.mk' [] ?_ | fail))); all_goals (conv => whnf)
  exact EndN.det trivial (Wk.of_eq (congrArg (AV.int .u64) (bits_and g h)))
theorem op5_c (g h : Nat → Bool) (H : Heap) : VDet Tryz.prog 155 [U g, U h] H (U fun i => g i || h i) := by
  unfold U
  refine fn_det Tryz.E0 Tryz.mx Tryz.func155 (by kernel_rfl) rfl (Nat.le_of_ble_eq_true rfl) rfl fun hcl hbl => ?_
  (repeat' ((conv => whnf); (first | (refine EqN.id ?_; first | refine EqN.mk _ rfl ?_ | fail) | refine DrawN.mk' [] ?_ | fail))); all_goals (conv => whnf)
  exact EndN.det trivial (Wk.of_eq (congrArg (AV.int .u64) (bits_or g h)))
theorem op6_c (g h : Nat → Bool) (H : Heap) : VDet Tryz.prog 156 [U g, U h] H (U fun i => !g i || h i) := by
  unfold U
  refine fn_det Tryz.E0 Tryz.mx Tryz.func156 (by kernel_rfl) rfl (Nat.le_of_ble_eq_true rfl) rfl fun hcl hbl => ?_
  (repeat' ((conv => whnf); (first | (refine EqN.id ?_; first | refine EqN.mk _ rfl ?_ | fail) | refine DrawN.mk' [] ?_ | fail))); all_goals (conv => whnf)
  exact EndN.det trivial (Wk.of_eq (congrArg (AV.int .u64) (by rw [bits_com, bits_or])))
theorem op7_c (g h : Nat → Bool) (H : Heap) : VDet Tryz.prog 157 [U g, U h] H (U fun i => g i == h i) := by
  unfold U
  refine fn_det Tryz.E0 Tryz.mx Tryz.func157 (by kernel_rfl) rfl (Nat.le_of_ble_eq_true rfl) rfl fun hcl hbl => ?_
  (repeat' ((conv => whnf); (first | (refine EqN.id ?_; first | refine EqN.mk _ rfl ?_ | fail) | refine DrawN.mk' [] ?_ | fail))); all_goals (conv => whnf)
  exact EndN.det trivial (Wk.of_eq (congrArg (AV.int .u64) (by
    rw [bits_xor, bits_com]
    exact congrArg _ (mk_congr fun i _ => by cases g i <;> cases h i <;> rfl))))
end Go.Proofs.YtjflngchbeegcaaGreatDoor.P10
/-! text RC10z -/
namespace Go.Proofs.YtjflngchbeegcaaGreatDoor.P10
open Go.Vsi
set_option maxHeartbeats 1000000
attribute [local irreducible] VW VCall VO bits
/-! ### what a formula says under a valuation -/
def Fm.ev (r : UInt8 → Bool) : Fm → Bool
  | .at c => r c
  | .fa => false
  | .f1 _ a => !a.ev r
  | .f2 k a b => if k = 4 then a.ev r && b.ev r else if k = 5 then a.ev r || b.ev r else if k = 6 then !a.ev r || b.ev r else a.ev r == b.ev r
/-- the atoms of a formula are among the names -/
def Fm.In (l : List UInt8) : Fm → Prop
  | .at c => c ∈ l
  | .fa => True
  | .f1 _ a => a.In l
  | .f2 _ a b => a.In l ∧ b.In l
def pats : List Int := [12297829382473034410, 14757395258967641292, 17361641481138401520, 18374966859414961920, 18446462603027742720, 18446744069414584320]
theorem pats_ok : ∀ b, b < 6 → pats.getD b 0 = ((mkBits 64 fun i => i.testBit b : Nat) : Int) := by
  intro b hb
  have : b = 0 ∨ b = 1 ∨ b = 2 ∨ b = 3 ∨ b = 4 ∨ b = 5 := by omega
  rcases this with rfl | rfl | rfl | rfl | rfl | rfl <;> decide
theorem low_bit (n i b : Nat) (hi : i < 64) (hb : b < 6) : (64 * n + i).testBit b = i.testBit b := by
  have := Nat.testBit_two_pow_mul_add n (i := 6) (b := i) (by omega) b
  rw [if_pos hb] at this
  exact this
theorem high_bit (n i b : Nat) (hi : i < 64) (hb : 6 ≤ b) : (64 * n + i).testBit b = n.testBit (b - 6) := by
  have := Nat.testBit_two_pow_mul_add n (i := 6) (b := i) (by omega) b
  rw [if_neg (by omega)] at this
  exact this
theorem neg_bit (m : Nat) (h : m < 2 ^ 64) : IntKind.u64.wrap (0 - bits .and .u64 (m : Int) 1) = ((mkBits 64 fun _ => m.testBit 0 : Nat) : Int) := by
  have h1 : (1 : Int) = ((mkBits 64 fun i => i == 0 : Nat) : Int) := by decide
  have h2 : m = mkBits 64 fun i => m.testBit i := eq_mk h fun _ _ => rfl
  have h3 : bits .and .u64 (m : Int) 1 = ((mkBits 64 fun i => m.testBit i && i == 0 : Nat) : Int) := by
    have := bits_and (fun i => m.testBit i) (fun i => i == 0)
    rw [← h2, ← h1] at this
    exact this
  rw [h3]
  cases hb : m.testBit 0 with
  | true =>
    have : (mkBits 64 fun i => m.testBit i && i == 0) = mkBits 64 fun i => i == 0 := mk_congr fun i _ => by
      cases i with
      | zero => simp [hb]
      | succ i => simp
    rw [this]
    decide
  | false =>
    have : (mkBits 64 fun i => m.testBit i && i == 0) = mkBits 64 fun i => false := mk_congr fun i _ => by
      cases i with
      | zero => simp [hb]
      | succ i => simp
    rw [this]
    decide
def encP (p : Int) : List AV := [.int .u64 p]
end Go.Proofs.YtjflngchbeegcaaGreatDoor.P10
/-! text RD10z -/
namespace Go.Proofs.YtjflngchbeegcaaGreatDoor.P10
open Go.Vsi
set_option maxHeartbeats 1000000
attribute [local irreducible] VW VCall VO bits
/-! ### how many valuations there are -/
theorem EqN.two (l : Nat) {k : Int → Prop} (h : l ≤ 40) (a : k ((2 ^ l : Nat) : Int)) : EqN (IntKind.i64.wrap (1 * 2 ^ min ((l : Nat) : Int).toNat IntKind.i64.bits)) k := by
  refine ⟨_, ?_, a⟩
  have h1 : min ((l : Nat) : Int).toNat IntKind.i64.bits = l := by
    rw [Int.toNat_natCast]
    exact Nat.min_eq_left (by show l ≤ 64; omega)
  rw [h1, Int.one_mul]
  have h2 : (2 : Nat) ^ l ≤ 1099511627776 := Nat.pow_le_pow_right (n := 2) (by omega) h
  have h3 : ((2 : Int) ^ l) = ((2 ^ l : Nat) : Int) := by simp
  rw [h3]
  generalize 2 ^ l = q at *
  exact w64 (by omega)
end Go.Proofs.YtjflngchbeegcaaGreatDoor.P10
/-! text SQ10z -/
namespace Go.Proofs.YtjflngchbeegcaaGreatDoor.P10
open Go.Vsi
set_option maxHeartbeats 2000000
attribute [local irreducible] VW VCall VO bits
/-! ### the table and its blocks, in general -/
def keyG (l : List ByteArray) : List AV := l.map fun c => .str c
def tblG (l : List ByteArray) : AV := .rptr [.rmp (keyG l) (ixG l.length), .rmp opsK opsV]
theorem tblG_below (l : List ByteArray) (n : Nat) : below n (tblG l) := by
  unfold tblG opsK opsV
  simp [below, belowL, fnBelow, mpG_belowK, keyG, ixG_below]
theorem ixG_succ (n : Nat) : ixG (n + 1) = ixG n ++ [.int .i64 n] := by
  unfold ixG
  rw [List.range_succ, List.map_append]
  rfl
theorem take_snocT {α : Type} (l : List α) (j : Nat) (d : α) (h : j < l.length) : l.take (j + 1) = l.take j ++ [l.getD j d] := by
  rw [List.take_add_one, List.getElem?_eq_getElem h]
  simp [List.getD_eq_getElem?_getD, List.getElem?_eq_getElem h]
theorem put_ixG (l : List ByteArray) (hl : l.Nodup) (j : Nat) (h : j < l.length) : MPut (eqV Tryz.kn Tryz.T 20 9) (keyG (l.take j)) (ixG j) (.str (l.getD j eN)) (.int .i64 j) (keyG (l.take (j + 1))) (ixG (j + 1)) := by
  have hno : l.getD j eN ∉ l.take j := fun hm => by
    have hd := hl
    rw [← List.take_append_drop j l] at hd
    have := (List.nodup_append.1 hd).2.2 _ hm (l.getD j eN) (by
      rw [drop_getD l j eN h]
      exact List.mem_cons_self ..)
    exact this rfl
  have := MPut.new (vs := ixG j) (v := .int .i64 j) ((mfindG (l.getD j eN) (l.take j)).2 hno)
  rw [ixG_succ, take_snocT l j eN h]
  unfold keyG
  rw [List.map_append]
  exact this
theorem newTable_g (l : List ByteArray) (hl : l.Nodup) (hlen : l.length ≤ 1000) (H : Heap) : VDet Tryz.prog 128 [.sl none l.length (l.flatMap encSG)] H (tblG l) := by
  refine fn_det Tryz.E0 Tryz.mx Tryz.func128 (by kernel_rfl) rfl (Nat.le_of_ble_eq_true rfl) rfl fun hcl hbl => ?_
  (repeat' ((conv => whnf); (first | refine RelN.mk _ _ ⟨⟨_, rfl⟩, .new (by kernel_rfl)⟩ ?_ | (refine PtrN.id ?_; first | refine PtrN.loc _ rfl ?_ | fail) | refine DrawN.mk' [] ?_ | fail))); all_goals (conv => whnf)
  refine loop_R Tryz.E0 Tryz.mx (σ := Nat) (fun j => j ≤ l.length) (fun j => l.length - j) (fun j => [(13, .v (.int .i64 j))]) (fun j => [.mp (keyG (l.take j)) (ixG j), .mp opsK opsV, .box 139 [.mp (H.length + 0), .mp (H.length + 1)]]) _ 0 rfl hcl [3, 11, 12] rfl (Nat.zero_le _) ⟨⟨_, rfl, Wk.refl _⟩, trivial⟩ rfl (fun _ _ => rfl) ?_
  intro j hj
  clear hbl
  (repeat' ((conv => whnf); (first | (refine IfN.id ?_; first | refine IfN.dec (fun _ => ?_) (fun _ => ?_) | fail) | (refine EqN.id ?_; first | (refine EqN.addN _ _ (by first | with_reducible rfl | with_reducible exact cst1 | with_reducible exact cst0 | with_reducible exact cst2 | with_reducible exact cst3 | with_reducible exact cst4 | with_reducible exact cst5 | with_reducible exact cst6 | with_reducible exact cst7 | with_reducible exact cst8 | with_reducible exact cst14 | with_reducible exact cst15 | with_reducible exact cst25 | with_reducible exact cst30 | with_reducible exact cst31 | fail) (by first | with_reducible rfl | with_reducible exact cst1 | with_reducible exact cst0 | with_reducible exact cst2 | with_reducible exact cst3 | with_reducible exact cst4 | with_reducible exact cst5 | with_reducible exact cst6 | with_reducible exact cst7 | with_reducible exact cst8 | with_reducible exact cst14 | with_reducible exact cst15 | with_reducible exact cst25 | with_reducible exact cst30 | with_reducible exact cst31 | fail) ?_ ?_; · (repeat' (first | omega | refine And.intro ?_ ?_ | exact bnd_andl (by omega) | exact bnd_andr (by omega) | refine bnd_or ?_ ?_ | refine bnd_or31 ?_ ?_ | refine bnd_xor ?_ ?_ | refine bnd_xor31 ?_ ?_ | refine bnd_shr ?_ | refine bnd_shl ?_ ?_ | refine bnd_mod ?_ | refine bnd_andl ?_ | fail))) | fail) | (refine SideN.mk ?_ ?_; · first | kernel_rfl | omega | exact List.cons_ne_nil _ _ | (simp; done) | (simp; omega) | exact trivial | assumption | fail) | refine SegN.nth (f := encSG) (l := l) eN j rfl (by omega) (fun _ => rfl) ?_ | refine RelN.mk _ _ ⟨⟨_, rfl⟩, put_ixG l hl j (by omega)⟩ ?_ | (refine PtrN.id ?_; first | refine PtrN.loc _ rfl ?_ | fail) | refine DrawN.mk' [] ?_ | fail))); all_goals (conv => whnf)
  · (refine ⟨⟨j + 1, by omega, by omega, ?_, .inl ⟨rfl, rfl⟩, rfl, _, rfl, ?_⟩⟩; rotate_left 1; (first | exact .inl rfl | exact .inr ⟨by simp [belowRE, below, belowL, tr, tms_below, fos_below, encSG_below, mpG_belowK, mpG_belowV, ixG_below], by simp [belowH, Blk.below, belowL, below, tms_below, fos_below, encSG_below, mpG_belowK, mpG_belowV, ixG_below]⟩ | fail); (repeat' (first | exact trivial | refine ⟨⟨_, rfl, ?_⟩, ?_⟩ | fail)); all_goals try (first | exact Wk.refl _ | exact Wk.of_eq (congrArg (AV.int _) (by omega)) | fail))
  · obtain rfl : j = l.length := by omega
    rw [List.take_length]
    refine EndN.detF (u' := tblG l) (tblG_below _ _) ?_ (Wk.refl _)
    unfold tblG
    refine Frz.ptr rfl rfl (FrzL.cons (Frz.mp rfl (FrzL.refl _) (FrzL.refl _)) (FrzL.cons (Frz.mp rfl (FrzL.refl _) (FrzL.refl _)) FrzL.nil))
def Fp.ev (r : ByteArray → Bool) : Fp → Bool
  | .at c => r c
  | .fa => false
  | .f1 a => !a.ev r
  | .f2 k a b => if k = 4 then a.ev r && b.ev r else if k = 5 then a.ev r || b.ev r else if k = 6 then !a.ev r || b.ev r else a.ev r == b.ev r
def Fp.In (l : List ByteArray) : Fp → Prop
  | .at c => c ∈ l
  | .fa => True
  | .f1 a => a.In l
  | .f2 _ a b => a.In l ∧ b.In l
def ixP (l : List ByteArray) (c : ByteArray) : Nat := l.findIdx fun d => decide (c = d)
def vbG (l : List ByteArray) (v : Nat) (c : ByteArray) : Bool := v.testBit (l.length - 1 - ixP l c)
def blkG (l : List ByteArray) (n : Nat) (f : Fp) : AV := U fun i => f.ev (vbG l (64 * n + i))
theorem ixP_find (c : ByteArray) : ∀ l : List ByteArray, c ∈ l → ixP l c < l.length ∧ mfind (eqV Tryz.kn Tryz.T 20 9) (.str c) (keyG l) = some (some (ixP l c))
  | d :: l, h => by
    have he : eqV Tryz.kn Tryz.T 20 9 (.str c) (.str d) = some (decide (c = d)) := by
      show some (c.toList == d.toList) = _
      rw [ba_beq]
    unfold ixP keyG
    rw [List.findIdx_cons]
    simp only [List.map_cons, mfind, he]
    by_cases hcd : c = d
    · subst hcd
      simp
    · have hb : decide (c = d) = false := by simpa using hcd
      simp only [hb, cond_false, List.length_cons]
      obtain ⟨h1, h2⟩ := ixP_find c l ((List.mem_cons.1 h).resolve_left hcd)
      unfold ixP at h1 h2
      unfold keyG at h2
      exact ⟨by omega, by rw [h2]⟩
theorem ixG_get (n i : Nat) (h : i < n) : (ixG n)[i]? = some (.int .i64 (i : Nat)) := by
  unfold ixG
  rw [List.getElem?_map, List.getElem?_range h]
  rfl
theorem fp_cells : ∀ p : Fp, ∃ (o : Nat) (s : ByteArray) (n : Nat) (l : List AV), p.fo.cells = [.int .u8 o, .str s, .sl none 0 [], .sl none n l]
  | .at c => ⟨1, c, 0, [], by simp [Fp.fo, Fo.cells_mk]⟩
  | .fa => ⟨2, .empty, 0, [], by simp [Fp.fo, Fo.cells_mk]⟩
  | .f1 a => ⟨3, .empty, 1, a.fo.cells, by simp [Fp.fo, Fo.cells_mk]⟩
  | .f2 k a b => ⟨k, .empty, 2, a.fo.cells ++ b.fo.cells, by simp [Fp.fo, Fo.cells_mk]⟩
theorem blockG_at (l : List ByteArray) (h26 : l.length ≤ 52) (c : ByteArray) (hc : c ∈ l) (n : Nat) (hn : n ≤ 1000000) (H : Heap) : VDet Tryz.prog 82 [tblG l, .agg (Fp.at c).fo.cells, .int .i64 n] H (blkG l n (.at c)) := by
  obtain ⟨h1, h2⟩ := ixP_find c l hc
  have h3 := ixG_get l.length (ixP l c) h1
  have hkl : (keyG l).length = l.length := by unfold keyG; simp
  have hres : blkG l n (.at c) = .int .u64 ((mkBits 64 fun i => (64 * n + i).testBit (l.length - 1 - ixP l c) : Nat) : Int) := rfl
  rw [hres]
  generalize hb : l.length - 1 - ixP l c = b
  have hb2 : (l.length : Int) - 1 - (ixP l c : Nat) = (b : Nat) := by omega
  rw [show (Fp.at c).fo.cells = [.int .u8 (1 : Nat), .str c, .sl none 0 [], .sl none 0 []] by simp [Fp.fo, Fo.cells_mk]]
  unfold tblG
  refine fn_det Tryz.E0 Tryz.mx Tryz.func82 (by kernel_rfl) rfl (Nat.le_of_ble_eq_true rfl) rfl fun hcl hbl => ?_
  (repeat' ((conv => whnf); (first | (refine IfN.id ?_; first | refine IfN.tt rfl ?_ | refine IfN.dec (fun _ => ?_) (fun _ => ?_) | fail) | (refine EqN.id ?_; first | (refine EqN.shrN _ _ (by first | with_reducible rfl | with_reducible exact cst1 | with_reducible exact cst0 | with_reducible exact cst2 | with_reducible exact cst3 | with_reducible exact cst4 | with_reducible exact cst5 | with_reducible exact cst6 | with_reducible exact cst7 | with_reducible exact cst8 | with_reducible exact cst14 | with_reducible exact cst15 | with_reducible exact cst25 | with_reducible exact cst30 | with_reducible exact cst31 | fail) (by first | with_reducible rfl | with_reducible exact cst1 | with_reducible exact cst0 | with_reducible exact cst2 | with_reducible exact cst3 | with_reducible exact cst4 | with_reducible exact cst5 | with_reducible exact cst6 | with_reducible exact cst7 | with_reducible exact cst8 | with_reducible exact cst14 | with_reducible exact cst15 | with_reducible exact cst25 | with_reducible exact cst30 | with_reducible exact cst31 | fail) rfl ?_ ?_; · (repeat' (first | omega | refine And.intro ?_ ?_ | exact bnd_andl (by omega) | exact bnd_andr (by omega) | refine bnd_or ?_ ?_ | refine bnd_or31 ?_ ?_ | refine bnd_xor ?_ ?_ | refine bnd_xor31 ?_ ?_ | refine bnd_shr ?_ | refine bnd_shl ?_ ?_ | refine bnd_mod ?_ | refine bnd_andl ?_ | fail))) | (refine EqN.subN _ _ (by first | with_reducible rfl | with_reducible exact cst1 | with_reducible exact cst0 | with_reducible exact cst2 | with_reducible exact cst3 | with_reducible exact cst4 | with_reducible exact cst5 | with_reducible exact cst6 | with_reducible exact cst7 | with_reducible exact cst8 | with_reducible exact cst14 | with_reducible exact cst15 | with_reducible exact cst25 | with_reducible exact cst30 | with_reducible exact cst31 | fail) (by first | with_reducible rfl | with_reducible exact cst1 | with_reducible exact cst0 | with_reducible exact cst2 | with_reducible exact cst3 | with_reducible exact cst4 | with_reducible exact cst5 | with_reducible exact cst6 | with_reducible exact cst7 | with_reducible exact cst8 | with_reducible exact cst14 | with_reducible exact cst15 | with_reducible exact cst25 | with_reducible exact cst30 | with_reducible exact cst31 | fail) ?_ ?_; · (repeat' (first | omega | refine And.intro ?_ ?_ | exact bnd_andl (by omega) | exact bnd_andr (by omega) | refine bnd_or ?_ ?_ | refine bnd_or31 ?_ ?_ | refine bnd_xor ?_ ?_ | refine bnd_xor31 ?_ ?_ | refine bnd_shr ?_ | refine bnd_shl ?_ ?_ | refine bnd_mod ?_ | refine bnd_andl ?_ | fail))) | refine EqN.remN _ _ (by first | with_reducible rfl | with_reducible exact cst1 | with_reducible exact cst0 | with_reducible exact cst2 | with_reducible exact cst3 | with_reducible exact cst4 | with_reducible exact cst5 | with_reducible exact cst6 | with_reducible exact cst7 | with_reducible exact cst8 | with_reducible exact cst14 | with_reducible exact cst15 | with_reducible exact cst25 | with_reducible exact cst30 | with_reducible exact cst31 | fail) (by first | with_reducible rfl | with_reducible exact cst1 | with_reducible exact cst0 | with_reducible exact cst2 | with_reducible exact cst3 | with_reducible exact cst4 | with_reducible exact cst5 | with_reducible exact cst6 | with_reducible exact cst7 | with_reducible exact cst8 | with_reducible exact cst14 | with_reducible exact cst15 | with_reducible exact cst25 | with_reducible exact cst30 | with_reducible exact cst31 | fail) ?_ | refine EqN.mk _ rfl ?_ | fail) | (refine SideN.mk ?_ ?_; · first | kernel_rfl | omega | exact List.cons_ne_nil _ _ | (simp; done) | (simp; omega) | exact trivial | assumption | fail) | refine RelN.mk [_] [] ⟨⟨_, rfl⟩, _, h2, h3⟩ ?_ | refine DrawN.mk' [] ?_ | fail))); all_goals (conv => whnf)
  · refine SegN.nth (f := encP) (l := pats) 0 ((keyG l).length - 1 - ixP l c) rfl (by show _ < 6; omega) (fun _ => rfl) ?_
    (repeat' ((conv => whnf); (first | refine DrawN.mk' [] ?_ | fail))); all_goals (conv => whnf)
    refine EndN.det trivial (Wk.of_eq (congrArg (AV.int .u64) ?_))
    rw [hkl, hb, pats_ok b (by omega)]
    exact congrArg _ (mk_congr fun i hi => (low_bit n i b hi (by omega)).symm)
  · refine EndN.det trivial (Wk.of_eq (congrArg (AV.int .u64) ?_))
    rw [hkl, hb]
    have hm : n % (2 ^ IntKind.u64.bits : Int).natAbs = n := Nat.mod_eq_of_lt (by show n < 18446744073709551616; omega)
    rw [hm, neg_bit _ (Nat.lt_of_le_of_lt (Nat.shiftRight_le _ _) (by omega))]
    refine congrArg _ (mk_congr fun i hi => ?_)
    rw [high_bit n i b hi (by omega), Nat.testBit_shiftRight, Nat.add_zero]
theorem blockG_fa (l : List ByteArray) (n : Nat) (H : Heap) : VDet Tryz.prog 82 [tblG l, .agg Fp.fa.fo.cells, .int .i64 n] H (blkG l n .fa) := by
  rw [show Fp.fa.fo.cells = [.int .u8 (2 : Nat), .str .empty, .sl none 0 [], .sl none 0 []] by simp [Fp.fo, Fo.cells_mk]]
  unfold blkG tblG opsK opsV
  simp only [Fp.ev]
  have h := op2_c (fun _ => false) (fun _ => false)
  unfold U at h ⊢
  have h0 : ((mkBits 64 fun _ => false : Nat) : Int) = 0 := by decide
  rw [h0] at h ⊢
  generalize keyG l = kl
  generalize ixG l.length = il
  refine fn_det Tryz.E0 Tryz.mx Tryz.func82 (by kernel_rfl) rfl (Nat.le_of_ble_eq_true rfl) rfl fun hcl hbl => ?_
  (repeat' ((conv => whnf); (first | (refine IfN.id ?_; first | refine IfN.ff rfl ?_ | fail) | refine DrawN.mk' [] ?_ | fail))); all_goals (conv => whnf)
  refine LoopN.rounds Tryz.E0 Tryz.mx 1 (by simp) ?_
  (repeat' ((conv => whnf); (first | (refine IfN.id ?_; first | refine IfN.ff rfl ?_ | fail) | (refine SideN.mk ?_ ?_; · first | kernel_rfl | omega | exact List.cons_ne_nil _ _ | (simp; done) | (simp; omega) | exact trivial | assumption | fail) | (refine CallD.id ?_; first | refine CallD.det _ (fun _ hq X => h _) ?_ | fail) | refine RelN.mk [_] [] ⟨⟨_, rfl⟩, 0, by kernel_rfl, rfl⟩ ?_ | refine OfsN.at_ (by omega) ?_ | refine DrawN.mk' [] ?_ | fail))); all_goals (conv => whnf)
  exact EndN.det trivial (Wk.refl _)
theorem blockG_f1 (l : List ByteArray) (n : Nat) (a : Fp) (ih : ∀ H, VDet Tryz.prog 82 [tblG l, .agg a.fo.cells, .int .i64 n] H (blkG l n a)) (H : Heap) : VDet Tryz.prog 82 [tblG l, .agg (Fp.f1 a).fo.cells, .int .i64 n] H (blkG l n (.f1 a)) := by
  have h := op3_c (fun i => a.ev (vbG l (64 * n + i))) (fun _ => false)
  obtain ⟨ao, an, asn, asc, hac⟩ := fp_cells a
  rw [show (Fp.f1 a).fo.cells = [.int .u8 (3 : Nat), .str .empty, .sl none 0 [], .sl none 1 a.fo.cells] by simp [Fp.fo, Fo.cells_mk]]
  rw [hac] at ih ⊢
  unfold blkG tblG opsK opsV U at ih ⊢
  unfold U at h
  have h0 : ((mkBits 64 fun _ => false : Nat) : Int) = 0 := by decide
  rw [h0] at h
  simp only [Fp.ev]
  generalize mkBits 64 (fun i => a.ev (vbG l (64 * n + i))) = ga at h ih
  generalize (mkBits 64 fun i => !a.ev (vbG l (64 * n + i))) = gr at h ⊢
  generalize keyG l = kl at ih ⊢
  generalize ixG l.length = il at ih ⊢
  refine fn_det Tryz.E0 Tryz.mx Tryz.func82 (by kernel_rfl) rfl (Nat.le_of_ble_eq_true rfl) rfl fun hcl hbl => ?_
  (repeat' ((conv => whnf); (first | (refine IfN.id ?_; first | refine IfN.ff rfl ?_ | fail) | refine DrawN.mk' [] ?_ | fail))); all_goals (conv => whnf)
  refine LoopN.rounds Tryz.E0 Tryz.mx 2 (by simp) ?_
  (repeat' ((conv => whnf); (first | (refine IfN.id ?_; first | refine IfN.tt rfl ?_ | refine IfN.ff rfl ?_ | fail) | (refine EqN.id ?_; first | (refine EqN.addN _ _ (by first | with_reducible rfl | with_reducible exact cst1 | with_reducible exact cst0 | with_reducible exact cst2 | with_reducible exact cst3 | with_reducible exact cst4 | with_reducible exact cst5 | with_reducible exact cst6 | with_reducible exact cst7 | with_reducible exact cst8 | with_reducible exact cst14 | with_reducible exact cst15 | with_reducible exact cst25 | with_reducible exact cst30 | with_reducible exact cst31 | fail) (by first | with_reducible rfl | with_reducible exact cst1 | with_reducible exact cst0 | with_reducible exact cst2 | with_reducible exact cst3 | with_reducible exact cst4 | with_reducible exact cst5 | with_reducible exact cst6 | with_reducible exact cst7 | with_reducible exact cst8 | with_reducible exact cst14 | with_reducible exact cst15 | with_reducible exact cst25 | with_reducible exact cst30 | with_reducible exact cst31 | fail) ?_ ?_; · (repeat' (first | omega | refine And.intro ?_ ?_ | exact bnd_andl (by omega) | exact bnd_andr (by omega) | refine bnd_or ?_ ?_ | refine bnd_or31 ?_ ?_ | refine bnd_xor ?_ ?_ | refine bnd_xor31 ?_ ?_ | refine bnd_shr ?_ | refine bnd_shl ?_ ?_ | refine bnd_mod ?_ | refine bnd_andl ?_ | fail))) | fail) | (refine SideN.mk ?_ ?_; · first | kernel_rfl | omega | exact List.cons_ne_nil _ _ | (simp; done) | (simp; omega) | exact trivial | assumption | fail) | (refine CallN.id ?_; first | refine CallN.det _ (ih _) ?_ | fail) | (refine CallD.id ?_; first | refine CallD.det _ (fun _ hq X => h _) ?_ | fail) | refine RelN.mk [_] [] ⟨⟨_, rfl⟩, 1, by kernel_rfl, rfl⟩ ?_ | refine SegN.mk _ (seg_rfl rfl) ?_ | refine OfsN.at_ (by omega) ?_ | refine DrawN.mk' [] ?_ | fail))); all_goals (conv => whnf)
  exact EndN.det trivial (Wk.refl _)
theorem blockG_f2_4 (l : List ByteArray) (n : Nat) (a b : Fp) (iha : ∀ H, VDet Tryz.prog 82 [tblG l, .agg a.fo.cells, .int .i64 n] H (blkG l n a)) (ihb : ∀ H, VDet Tryz.prog 82 [tblG l, .agg b.fo.cells, .int .i64 n] H (blkG l n b)) (H : Heap) : VDet Tryz.prog 82 [tblG l, .agg (Fp.f2 4 a b).fo.cells, .int .i64 n] H (blkG l n (.f2 4 a b)) := by
  have h := op4_c (fun i => a.ev (vbG l (64 * n + i))) (fun i => b.ev (vbG l (64 * n + i)))
  obtain ⟨ao, an, asn, asc, hac⟩ := fp_cells a
  obtain ⟨bo, bn, bsn, bsc, hbc⟩ := fp_cells b
  rw [show (Fp.f2 4 a b).fo.cells = [.int .u8 (4 : Nat), .str .empty, .sl none 0 [], .sl none 2 (a.fo.cells ++ b.fo.cells)] by simp [Fp.fo, Fo.cells_mk]]
  rw [show blkG l n (.f2 4 a b) = U (fun i => a.ev (vbG l (64 * n + i)) && b.ev (vbG l (64 * n + i))) from rfl]
  rw [hac] at iha ⊢
  rw [hbc] at ihb ⊢
  unfold blkG tblG opsK opsV U at iha ihb
  unfold tblG opsK opsV U
  unfold U at h
  generalize mkBits 64 (fun i => a.ev (vbG l (64 * n + i))) = ga at h iha
  generalize mkBits 64 (fun i => b.ev (vbG l (64 * n + i))) = gb at h ihb
  generalize mkBits 64 (fun i => a.ev (vbG l (64 * n + i)) && b.ev (vbG l (64 * n + i))) = gr at h ⊢
  generalize keyG l = kl at iha ihb ⊢
  generalize ixG l.length = il at iha ihb ⊢
  simp only [List.cons_append, List.nil_append]
  refine fn_det Tryz.E0 Tryz.mx Tryz.func82 (by kernel_rfl) rfl (Nat.le_of_ble_eq_true rfl) rfl fun hcl hbl => ?_
  (repeat' ((conv => whnf); (first | (refine IfN.id ?_; first | refine IfN.ff rfl ?_ | fail) | refine DrawN.mk' [] ?_ | fail))); all_goals (conv => whnf)
  refine LoopN.rounds Tryz.E0 Tryz.mx 3 (by simp) ?_
  (repeat' ((conv => whnf); (first | (refine IfN.id ?_; first | refine IfN.tt rfl ?_ | refine IfN.ff rfl ?_ | fail) | (refine EqN.id ?_; first | (refine EqN.addN _ _ (by first | with_reducible rfl | with_reducible exact cst1 | with_reducible exact cst0 | with_reducible exact cst2 | with_reducible exact cst3 | with_reducible exact cst4 | with_reducible exact cst5 | with_reducible exact cst6 | with_reducible exact cst7 | with_reducible exact cst8 | with_reducible exact cst14 | with_reducible exact cst15 | with_reducible exact cst25 | with_reducible exact cst30 | with_reducible exact cst31 | fail) (by first | with_reducible rfl | with_reducible exact cst1 | with_reducible exact cst0 | with_reducible exact cst2 | with_reducible exact cst3 | with_reducible exact cst4 | with_reducible exact cst5 | with_reducible exact cst6 | with_reducible exact cst7 | with_reducible exact cst8 | with_reducible exact cst14 | with_reducible exact cst15 | with_reducible exact cst25 | with_reducible exact cst30 | with_reducible exact cst31 | fail) ?_ ?_; · (repeat' (first | omega | refine And.intro ?_ ?_ | exact bnd_andl (by omega) | exact bnd_andr (by omega) | refine bnd_or ?_ ?_ | refine bnd_or31 ?_ ?_ | refine bnd_xor ?_ ?_ | refine bnd_xor31 ?_ ?_ | refine bnd_shr ?_ | refine bnd_shl ?_ ?_ | refine bnd_mod ?_ | refine bnd_andl ?_ | fail))) | fail) | (refine SideN.mk ?_ ?_; · first | kernel_rfl | omega | exact List.cons_ne_nil _ _ | (simp; done) | (simp; omega) | exact trivial | assumption | fail) | (refine CallN.id ?_; first | refine CallN.det _ (iha _) ?_ | refine CallN.det _ (ihb _) ?_ | fail) | (refine CallD.id ?_; first | refine CallD.det _ (fun _ hq X => h _) ?_ | fail) | refine RelN.mk [_] [] ⟨⟨_, rfl⟩, 2, by kernel_rfl, rfl⟩ ?_ | refine SegN.mk _ (seg_rfl rfl) ?_ | refine OfsN.at_ (by omega) ?_ | refine DrawN.mk' [] ?_ | fail))); all_goals (conv => whnf)
  exact EndN.det trivial (Wk.refl _)
theorem blockG_f2_5 (l : List ByteArray) (n : Nat) (a b : Fp) (iha : ∀ H, VDet Tryz.prog 82 [tblG l, .agg a.fo.cells, .int .i64 n] H (blkG l n a)) (ihb : ∀ H, VDet Tryz.prog 82 [tblG l, .agg b.fo.cells, .int .i64 n] H (blkG l n b)) (H : Heap) : VDet Tryz.prog 82 [tblG l, .agg (Fp.f2 5 a b).fo.cells, .int .i64 n] H (blkG l n (.f2 5 a b)) := by
  have h := op5_c (fun i => a.ev (vbG l (64 * n + i))) (fun i => b.ev (vbG l (64 * n + i)))
  obtain ⟨ao, an, asn, asc, hac⟩ := fp_cells a
  obtain ⟨bo, bn, bsn, bsc, hbc⟩ := fp_cells b
  rw [show (Fp.f2 5 a b).fo.cells = [.int .u8 (5 : Nat), .str .empty, .sl none 0 [], .sl none 2 (a.fo.cells ++ b.fo.cells)] by simp [Fp.fo, Fo.cells_mk]]
  rw [show blkG l n (.f2 5 a b) = U (fun i => a.ev (vbG l (64 * n + i)) || b.ev (vbG l (64 * n + i))) from rfl]
  rw [hac] at iha ⊢
  rw [hbc] at ihb ⊢
  unfold blkG tblG opsK opsV U at iha ihb
  unfold tblG opsK opsV U
  unfold U at h
  generalize mkBits 64 (fun i => a.ev (vbG l (64 * n + i))) = ga at h iha
  generalize mkBits 64 (fun i => b.ev (vbG l (64 * n + i))) = gb at h ihb
  generalize mkBits 64 (fun i => a.ev (vbG l (64 * n + i)) || b.ev (vbG l (64 * n + i))) = gr at h ⊢
  generalize keyG l = kl at iha ihb ⊢
  generalize ixG l.length = il at iha ihb ⊢
  simp only [List.cons_append, List.nil_append]
  refine fn_det Tryz.E0 Tryz.mx Tryz.func82 (by kernel_rfl) rfl (Nat.le_of_ble_eq_true rfl) rfl fun hcl hbl => ?_
  (repeat' ((conv => whnf); (first | (refine IfN.id ?_; first | refine IfN.ff rfl ?_ | fail) | refine DrawN.mk' [] ?_ | fail))); all_goals (conv => whnf)
  refine LoopN.rounds Tryz.E0 Tryz.mx 3 (by simp) ?_
  (repeat' ((conv => whnf); (first | (refine IfN.id ?_; first | refine IfN.tt rfl ?_ | refine IfN.ff rfl ?_ | fail) | (refine EqN.id ?_; first | (refine EqN.addN _ _ (by first | with_reducible rfl | with_reducible exact cst1 | with_reducible exact cst0 | with_reducible exact cst2 | with_reducible exact cst3 | with_reducible exact cst4 | with_reducible exact cst5 | with_reducible exact cst6 | with_reducible exact cst7 | with_reducible exact cst8 | with_reducible exact cst14 | with_reducible exact cst15 | with_reducible exact cst25 | with_reducible exact cst30 | with_reducible exact cst31 | fail) (by first | with_reducible rfl | with_reducible exact cst1 | with_reducible exact cst0 | with_reducible exact cst2 | with_reducible exact cst3 | with_reducible exact cst4 | with_reducible exact cst5 | with_reducible exact cst6 | with_reducible exact cst7 | with_reducible exact cst8 | with_reducible exact cst14 | with_reducible exact cst15 | with_reducible exact cst25 | with_reducible exact cst30 | with_reducible exact cst31 | fail) ?_ ?_; · (repeat' (first | omega | refine And.intro ?_ ?_ | exact bnd_andl (by omega) | exact bnd_andr (by omega) | refine bnd_or ?_ ?_ | refine bnd_or31 ?_ ?_ | refine bnd_xor ?_ ?_ | refine bnd_xor31 ?_ ?_ | refine bnd_shr ?_ | refine bnd_shl ?_ ?_ | refine bnd_mod ?_ | refine bnd_andl ?_ | fail))) | fail) | (refine SideN.mk ?_ ?_; · first | kernel_rfl | omega | exact List.cons_ne_nil _ _ | (simp; done) | (simp; omega) | exact trivial | assumption | fail) | (refine CallN.id ?_; first | refine CallN.det _ (iha _) ?_ | refine CallN.det _ (ihb _) ?_ | fail) | (refine CallD.id ?_; first | refine CallD.det _ (fun _ hq X => h _) ?_ | fail) | refine RelN.mk [_] [] ⟨⟨_, rfl⟩, 3, by kernel_rfl, rfl⟩ ?_ | refine SegN.mk _ (seg_rfl rfl) ?_ | refine OfsN.at_ (by omega) ?_ | refine DrawN.mk' [] ?_ | fail))); all_goals (conv => whnf)
  exact EndN.det trivial (Wk.refl _)
theorem blockG_f2_6 (l : List ByteArray) (n : Nat) (a b : Fp) (iha : ∀ H, VDet Tryz.prog 82 [tblG l, .agg a.fo.cells, .int .i64 n] H (blkG l n a)) (ihb : ∀ H, VDet Tryz.prog 82 [tblG l, .agg b.fo.cells, .int .i64 n] H (blkG l n b)) (H : Heap) : VDet Tryz.prog 82 [tblG l, .agg (Fp.f2 6 a b).fo.cells, .int .i64 n] H (blkG l n (.f2 6 a b)) := by
  have h := op6_c (fun i => a.ev (vbG l (64 * n + i))) (fun i => b.ev (vbG l (64 * n + i)))
  obtain ⟨ao, an, asn, asc, hac⟩ := fp_cells a
  obtain ⟨bo, bn, bsn, bsc, hbc⟩ := fp_cells b
  rw [show (Fp.f2 6 a b).fo.cells = [.int .u8 (6 : Nat), .str .empty, .sl none 0 [], .sl none 2 (a.fo.cells ++ b.fo.cells)] by simp [Fp.fo, Fo.cells_mk]]
  rw [show blkG l n (.f2 6 a b) = U (fun i => !a.ev (vbG l (64 * n + i)) || b.ev (vbG l (64 * n + i))) from rfl]
  rw [hac] at iha ⊢
  rw [hbc] at ihb ⊢
  unfold blkG tblG opsK opsV U at iha ihb
  unfold tblG opsK opsV U
  unfold U at h
  generalize mkBits 64 (fun i => a.ev (vbG l (64 * n + i))) = ga at h iha
  generalize mkBits 64 (fun i => b.ev (vbG l (64 * n + i))) = gb at h ihb
  generalize mkBits 64 (fun i => !a.ev (vbG l (64 * n + i)) || b.ev (vbG l (64 * n + i))) = gr at h ⊢
  generalize keyG l = kl at iha ihb ⊢
  generalize ixG l.length = il at iha ihb ⊢
  simp only [List.cons_append, List.nil_append]
  refine fn_det Tryz.E0 Tryz.mx Tryz.func82 (by kernel_rfl) rfl (Nat.le_of_ble_eq_true rfl) rfl fun hcl hbl => ?_
  (repeat' ((conv => whnf); (first | (refine IfN.id ?_; first | refine IfN.ff rfl ?_ | fail) | refine DrawN.mk' [] ?_ | fail))); all_goals (conv => whnf)
  refine LoopN.rounds Tryz.E0 Tryz.mx 3 (by simp) ?_
  (repeat' ((conv => whnf); (first | (refine IfN.id ?_; first | refine IfN.tt rfl ?_ | refine IfN.ff rfl ?_ | fail) | (refine EqN.id ?_; first | (refine EqN.addN _ _ (by first | with_reducible rfl | with_reducible exact cst1 | with_reducible exact cst0 | with_reducible exact cst2 | with_reducible exact cst3 | with_reducible exact cst4 | with_reducible exact cst5 | with_reducible exact cst6 | with_reducible exact cst7 | with_reducible exact cst8 | with_reducible exact cst14 | with_reducible exact cst15 | with_reducible exact cst25 | with_reducible exact cst30 | with_reducible exact cst31 | fail) (by first | with_reducible rfl | with_reducible exact cst1 | with_reducible exact cst0 | with_reducible exact cst2 | with_reducible exact cst3 | with_reducible exact cst4 | with_reducible exact cst5 | with_reducible exact cst6 | with_reducible exact cst7 | with_reducible exact cst8 | with_reducible exact cst14 | with_reducible exact cst15 | with_reducible exact cst25 | with_reducible exact cst30 | with_reducible exact cst31 | fail) ?_ ?_; · (repeat' (first | omega | refine And.intro ?_ ?_ | exact bnd_andl (by omega) | exact bnd_andr (by omega) | refine bnd_or ?_ ?_ | refine bnd_or31 ?_ ?_ | refine bnd_xor ?_ ?_ | refine bnd_xor31 ?_ ?_ | refine bnd_shr ?_ | refine bnd_shl ?_ ?_ | refine bnd_mod ?_ | refine bnd_andl ?_ | fail))) | fail) | (refine SideN.mk ?_ ?_; · first | kernel_rfl | omega | exact List.cons_ne_nil _ _ | (simp; done) | (simp; omega) | exact trivial | assumption | fail) | (refine CallN.id ?_; first | refine CallN.det _ (iha _) ?_ | refine CallN.det _ (ihb _) ?_ | fail) | (refine CallD.id ?_; first | refine CallD.det _ (fun _ hq X => h _) ?_ | fail) | refine RelN.mk [_] [] ⟨⟨_, rfl⟩, 4, by kernel_rfl, rfl⟩ ?_ | refine SegN.mk _ (seg_rfl rfl) ?_ | refine OfsN.at_ (by omega) ?_ | refine DrawN.mk' [] ?_ | fail))); all_goals (conv => whnf)
  exact EndN.det trivial (Wk.refl _)
theorem blockG_f2_7 (l : List ByteArray) (n : Nat) (a b : Fp) (iha : ∀ H, VDet Tryz.prog 82 [tblG l, .agg a.fo.cells, .int .i64 n] H (blkG l n a)) (ihb : ∀ H, VDet Tryz.prog 82 [tblG l, .agg b.fo.cells, .int .i64 n] H (blkG l n b)) (H : Heap) : VDet Tryz.prog 82 [tblG l, .agg (Fp.f2 7 a b).fo.cells, .int .i64 n] H (blkG l n (.f2 7 a b)) := by
  have h := op7_c (fun i => a.ev (vbG l (64 * n + i))) (fun i => b.ev (vbG l (64 * n + i)))
  obtain ⟨ao, an, asn, asc, hac⟩ := fp_cells a
  obtain ⟨bo, bn, bsn, bsc, hbc⟩ := fp_cells b
  rw [show (Fp.f2 7 a b).fo.cells = [.int .u8 (7 : Nat), .str .empty, .sl none 0 [], .sl none 2 (a.fo.cells ++ b.fo.cells)] by simp [Fp.fo, Fo.cells_mk]]
  rw [show blkG l n (.f2 7 a b) = U (fun i => a.ev (vbG l (64 * n + i)) == b.ev (vbG l (64 * n + i))) from rfl]
  rw [hac] at iha ⊢
  rw [hbc] at ihb ⊢
  unfold blkG tblG opsK opsV U at iha ihb
  unfold tblG opsK opsV U
  unfold U at h
  generalize mkBits 64 (fun i => a.ev (vbG l (64 * n + i))) = ga at h iha
  generalize mkBits 64 (fun i => b.ev (vbG l (64 * n + i))) = gb at h ihb
  generalize mkBits 64 (fun i => a.ev (vbG l (64 * n + i)) == b.ev (vbG l (64 * n + i))) = gr at h ⊢
  generalize keyG l = kl at iha ihb ⊢
  generalize ixG l.length = il at iha ihb ⊢
  simp only [List.cons_append, List.nil_append]
  refine fn_det Tryz.E0 Tryz.mx Tryz.func82 (by kernel_rfl) rfl (Nat.le_of_ble_eq_true rfl) rfl fun hcl hbl => ?_
  (repeat' ((conv => whnf); (first | (refine IfN.id ?_; first | refine IfN.ff rfl ?_ | fail) | refine DrawN.mk' [] ?_ | fail))); all_goals (conv => whnf)
  refine LoopN.rounds Tryz.E0 Tryz.mx 3 (by simp) ?_
  (repeat' ((conv => whnf); (first | (refine IfN.id ?_; first | refine IfN.tt rfl ?_ | refine IfN.ff rfl ?_ | fail) | (refine EqN.id ?_; first | (refine EqN.addN _ _ (by first | with_reducible rfl | with_reducible exact cst1 | with_reducible exact cst0 | with_reducible exact cst2 | with_reducible exact cst3 | with_reducible exact cst4 | with_reducible exact cst5 | with_reducible exact cst6 | with_reducible exact cst7 | with_reducible exact cst8 | with_reducible exact cst14 | with_reducible exact cst15 | with_reducible exact cst25 | with_reducible exact cst30 | with_reducible exact cst31 | fail) (by first | with_reducible rfl | with_reducible exact cst1 | with_reducible exact cst0 | with_reducible exact cst2 | with_reducible exact cst3 | with_reducible exact cst4 | with_reducible exact cst5 | with_reducible exact cst6 | with_reducible exact cst7 | with_reducible exact cst8 | with_reducible exact cst14 | with_reducible exact cst15 | with_reducible exact cst25 | with_reducible exact cst30 | with_reducible exact cst31 | fail) ?_ ?_; · (repeat' (first | omega | refine And.intro ?_ ?_ | exact bnd_andl (by omega) | exact bnd_andr (by omega) | refine bnd_or ?_ ?_ | refine bnd_or31 ?_ ?_ | refine bnd_xor ?_ ?_ | refine bnd_xor31 ?_ ?_ | refine bnd_shr ?_ | refine bnd_shl ?_ ?_ | refine bnd_mod ?_ | refine bnd_andl ?_ | fail))) | fail) | (refine SideN.mk ?_ ?_; · first | kernel_rfl | omega | exact List.cons_ne_nil _ _ | (simp; done) | (simp; omega) | exact trivial | assumption | fail) | (refine CallN.id ?_; first | refine CallN.det _ (iha _) ?_ | refine CallN.det _ (ihb _) ?_ | fail) | (refine CallD.id ?_; first | refine CallD.det _ (fun _ hq X => h _) ?_ | fail) | refine RelN.mk [_] [] ⟨⟨_, rfl⟩, 5, by kernel_rfl, rfl⟩ ?_ | refine SegN.mk _ (seg_rfl rfl) ?_ | refine OfsN.at_ (by omega) ?_ | refine DrawN.mk' [] ?_ | fail))); all_goals (conv => whnf)
  exact EndN.det trivial (Wk.refl _)
theorem blockG_c (l : List ByteArray) (h26 : l.length ≤ 52) (n : Nat) (hn : n ≤ 1000000) : ∀ f : Fp, f.Ok → f.In l → ∀ H, VDet Tryz.prog 82 [tblG l, .agg f.fo.cells, .int .i64 n] H (blkG l n f)
  | .at c, _, h => blockG_at l h26 c h n hn
  | .fa, _, _ => blockG_fa l n
  | .f1 a, hp, h => blockG_f1 l n a (blockG_c l h26 n hn a hp h)
  | .f2 k a b, hp, h => by
    have iha := blockG_c l h26 n hn a hp.2.1 h.1
    have ihb := blockG_c l h26 n hn b hp.2.2 h.2
    rcases hp.1 with rfl | rfl | rfl | rfl
    · exact blockG_f2_4 l n a b iha ihb
    · exact blockG_f2_5 l n a b iha ihb
    · exact blockG_f2_6 l n a b iha ihb
    · exact blockG_f2_7 l n a b iha ihb
end Go.Proofs.YtjflngchbeegcaaGreatDoor.P10
/-! text SR10z -/
namespace Go.Proofs.YtjflngchbeegcaaGreatDoor.P10
open Go.Vsi
set_option maxHeartbeats 2000000
attribute [local irreducible] VW VCall VO bits
/-! ### size, blocks, valid; own and named, in general -/
theorem two_leG (n : Nat) (hl : n ≤ 12) : 2 ^ n ≤ 4096 ∧ 1 ≤ 2 ^ n := by
  have h2 : (2 : Nat) ^ n ≤ 2 ^ 12 := Nat.pow_le_pow_right (by omega) hl
  exact ⟨h2, Nat.pos_of_ne_zero (by simp)⟩
theorem namesG_len (l : List Fo) : (namesG l).length = (addGs [] l).length := by unfold namesG sortG; exact List.length_mergeSort _
end Go.Proofs.YtjflngchbeegcaaGreatDoor.P10
/-! text RF10z -/
namespace Go.Proofs.YtjflngchbeegcaaGreatDoor.P10
open Go.Vsi
set_option maxHeartbeats 1000000

/-! ### the names of formulas, in plain words -/
def Fm.has (c : UInt8) : Fm → Prop
  | .at d => c = d
  | .fa => False
  | .f1 _ a => a.has c
  | .f2 _ a b => a.has c ∨ b.has c
attribute [local irreducible] VW VCall VO bits
/-! ### tables for formulas -/
end Go.Proofs.YtjflngchbeegcaaGreatDoor.P10
/-! text RG10z -/
namespace Go.Proofs.YtjflngchbeegcaaGreatDoor.P10
open Go.Vsi
set_option maxHeartbeats 1000000

/-! ### one bit of a block -/
theorem bit_one (g : Nat → Bool) (k : Nat) (hk : k < 64) : (bits .and .u64 ((mkBits 64 g >>> k : Nat) : Int) 1 == 1) = g k := by
  have h1 : (1 : Int) = ((mkBits 64 fun i => i == 0 : Nat) : Int) := by decide
  have hlt : mkBits 64 g >>> k < 2 ^ 64 := Nat.lt_of_le_of_lt (Nat.shiftRight_le _ _) (mk_lt 64 g)
  have h2 : mkBits 64 g >>> k = mkBits 64 fun i => (mkBits 64 g >>> k).testBit i := eq_mk hlt fun _ _ => rfl
  have h3 : bits .and .u64 ((mkBits 64 g >>> k : Nat) : Int) 1 = ((mkBits 64 fun i => g k && i == 0 : Nat) : Int) := by
    have := bits_and (fun i => (mkBits 64 g >>> k).testBit i) (fun i => i == 0)
    rw [← h2, ← h1] at this
    rw [this]
    refine congrArg _ (mk_congr fun i _ => ?_)
    cases i with
    | zero => rw [Nat.testBit_shiftRight, Nat.add_zero, testBit_mk]; simp [hk]
    | succ i => simp
  rw [h3]
  cases g k <;> decide
theorem fdiv_shr (m k : Nat) (hk : k ≤ 63) : ((m : Nat) : Int).fdiv (2 ^ min ((k : Nat) : Int).toNat IntKind.u64.bits) = ((m >>> k : Nat) : Int) := by
  rw [Int.toNat_natCast, Nat.min_eq_left (by show k ≤ 64; omega), Nat.shiftRight_eq_div_pow]
  rw [Int.fdiv_eq_ediv_of_nonneg _ (Int.pow_nonneg (by omega))]
  simp
attribute [local irreducible] VW VCall VO bits
end Go.Proofs.YtjflngchbeegcaaGreatDoor.P10
/-! text SS10z -/
namespace Go.Proofs.YtjflngchbeegcaaGreatDoor.P10
open Go.Vsi
set_option maxHeartbeats 2000000
attribute [local irreducible] VW VCall VO bits
/-! ### truth.named and truth.Eval, in general -/
theorem lessB_iff (a b : ByteArray) : lessB a b = true ↔ a.toList < b.toList := by
  unfold lessB
  rw [bytesLess_iff, decide_eq_true_eq]
theorem isNm_lt {l : List ByteArray} (h : isNmG l = true) : ∀ (k i : Nat), i < k → k < l.length → (l.getD i eN).toList < (l.getD k eN).toList
  | 0, i, hi, _ => by omega
  | k + 1, i, hi, hk => by
    have h1 := List.all_eq_true.1 h (k + 1) (List.mem_range.2 hk)
    unfold nmAt at h1
    rw [Bool.and_eq_true, Bool.or_eq_true, decide_eq_true_eq, Nat.add_sub_cancel, lessB_iff] at h1
    have h2 := h1.2.resolve_left (by omega)
    rcases Nat.lt_or_ge i k with h3 | h3
    · exact List.lt_trans (isNm_lt h k i h3 (by omega)) h2
    · obtain rfl : i = k := by omega
      exact h2
theorem isNm_nodup {l : List ByteArray} (h : isNmG l = true) : l.Nodup := by
  unfold List.Nodup
  rw [List.pairwise_iff_getElem]
  intro i j hi hj hij e
  have := isNm_lt h j i hij hj
  rw [show l.getD i eN = l[i] by simp [List.getD_eq_getElem?_getD, hi], show l.getD j eN = l[j] by simp [List.getD_eq_getElem?_getD, hj], e] at this
  exact List.lt_irrefl _ this
def inAll (f : Fo) (l : List ByteArray) : Bool := (namesG [f]).all fun c => memG c l
def namedA (f : Fo) (l : List ByteArray) (v : Int) : AV :=
  if 12 < l.length then .tup [.nilp, .int .i64 5] else if ¬ (rightF f = true ∧ isNmG l = true ∧ 0 ≤ v ∧ v < (2 ^ l.length : Nat)) then .tup [.nilp, .int .i64 2] else if inAll f l = false then .tup [.nilp, .int .i64 6] else .tup [tblG l, .int .i64 0]
theorem named_all (f : Fo) (hg : f.good) (hn : (addGs [] [f]).length ≤ 100000) (l : List ByteArray) (hlen : l.length ≤ 9223372036854775807) (hsz : ∀ c ∈ l, c.size ≤ maxLen) (v : Int) (H : Heap) : VDet Tryz.prog 81 [.agg f.cells, .sl none l.length (l.flatMap encSG), .int .i64 v] H (namedA f l v) := by
  have h1 := right_g' f hg
  have h2 := isNames_g l hlen hsz
  have h3 := atoms_g [f] ⟨hg, trivial⟩ (by simp) hn
  have hcon := fun c => contains_g l c hlen
  have h4 := fun (h : isNmG l = true) (h12 : l.length ≤ 1000) => newTable_g l (isNm_nodup h) h12
  have hb := tblG_below l
  have hnl := namesG_len [f]
  rw [show [f].flatMap Fo.cells = f.cells by simp] at h3
  unfold namedA inAll
  obtain ⟨op, s, al, m⟩ := f
  rw [Fo.cells_mk] at h1 h3 ⊢
  generalize rightF (Fo.mk op s al m) = br at *
  generalize namesG [Fo.mk op s al m] = ns at *
  have h3 : ∀ H, VDet Tryz.prog 126 [.sx 1 [.int .u8 op, .str s, .sl none al.length (al.flatMap Tm.cells), .sl none m.length (m.flatMap Fo.cells)]] H (.sl none ns.length (ns.flatMap encSG)) := fun H => VDet.wk (h3 H) ⟨wk_sx _ _, trivial⟩
  generalize tblG l = t at *
  generalize hmb : (fun c => memG c l) = mb at *
  have hcon : ∀ c H, VDet Tryz.prog 127 [.sl none l.length (l.flatMap encSG), .str c] H (.bool (mb c)) := fun c H => by rw [← hmb]; exact hcon c H
  generalize isNmG l = bn at *
  generalize al.flatMap Tm.cells = ac at *
  generalize al.length = an at *
  generalize m.flatMap Fo.cells = mc at *
  generalize m.length = mn at *
  have hlb := encSG_below H.length l
  generalize l.flatMap encSG = lc at *
  clear hsz hg hmb
  by_cases h12 : 12 < l.length
  · rw [if_pos h12]
    generalize l.length = k at *
    refine fn_det Tryz.E0 Tryz.mx Tryz.func81 (by kernel_rfl) rfl (Nat.le_of_ble_eq_true rfl) rfl fun hcl hbl => ?_
    (repeat' ((conv => whnf); (first | (refine IfN.id ?_; first | refine IfN.dT (by omega) ?_ | fail) | refine DrawN.mk' [] ?_ | fail))); all_goals (conv => whnf)
    exact EndN.det ⟨trivial, trivial, trivial⟩ (Wk.refl _)
  · rw [if_neg h12]
    have two : EqN (IntKind.i64.wrap (1 * 2 ^ min ((l.length : Nat) : Int).toNat IntKind.i64.bits)) fun y => y = ((2 ^ l.length : Nat) : Int) := EqN.two l.length (by omega) rfl
    obtain ⟨_, w1, rfl⟩ := two
    have hS := two_leG l.length (by omega)
    generalize 2 ^ l.length = S at *
    have h4 := fun h => h4 h (by omega)
    generalize l.length = k at *
    by_cases hok : br = true ∧ bn = true ∧ 0 ≤ v ∧ v < (S : Nat)
    · rw [if_neg (not_not_intro hok)]
      obtain ⟨rfl, rfl, hv0, hv1⟩ := hok
      have h4 := h4 rfl
      refine fn_det Tryz.E0 Tryz.mx Tryz.func81 (by kernel_rfl) rfl (Nat.le_of_ble_eq_true rfl) rfl fun hcl hbl => ?_
      (repeat' ((conv => whnf); (first | (refine IfN.id ?_; first | refine IfN.not ?_ | refine IfN.tt rfl ?_ | refine IfN.dF (by omega) ?_ | fail) | (refine EqN.id ?_; first | refine EqN.mk _ w1 ?_ | fail) | (refine SideN.mk ?_ ?_; · first | kernel_rfl | omega | exact List.cons_ne_nil _ _ | (simp; done) | (simp; omega) | exact trivial | assumption | fail) | (refine CallN.id ?_; first | refine CallN.det _ (h1 _) ?_ | refine CallN.det _ (h2 _) ?_ | refine CallN.det _ (h3 _) ?_ | fail) | refine DrawN.mk' [] ?_ | fail))); all_goals (conv => whnf)
      refine loop_R Tryz.E0 Tryz.mx (σ := Nat) (fun j => j ≤ ns.length ∧ ∀ i, i < j → mb (ns.getD i eN) = true) (fun j => ns.length - j) (fun j => [(36, .v (.int .i64 j))]) (fun j => _) _ 0 rfl hcl [1, 34, 35] rfl ⟨Nat.zero_le _, fun i hi => by omega⟩ ⟨⟨_, rfl, Wk.refl _⟩, trivial⟩ rfl (fun _ _ => rfl) ?_
      rintro j ⟨hj, hall⟩
      clear hbl
      by_cases hlt : j < ns.length
      · have hc := hcon (ns.getD j eN)
        cases hb2 : mb (ns.getD j eN) with
        | true =>
          rw [hb2] at hc
          (repeat' ((conv => whnf); (first | (refine IfN.id ?_; first | refine IfN.not ?_ | refine IfN.tt rfl ?_ | refine IfN.dT (by omega) ?_ | fail) | (refine EqN.id ?_; first | (refine EqN.addN _ _ (by first | with_reducible rfl | with_reducible exact cst1 | with_reducible exact cst0 | with_reducible exact cst2 | with_reducible exact cst3 | with_reducible exact cst4 | with_reducible exact cst5 | with_reducible exact cst6 | with_reducible exact cst7 | with_reducible exact cst8 | with_reducible exact cst14 | with_reducible exact cst15 | with_reducible exact cst25 | with_reducible exact cst30 | with_reducible exact cst31 | fail) (by first | with_reducible rfl | with_reducible exact cst1 | with_reducible exact cst0 | with_reducible exact cst2 | with_reducible exact cst3 | with_reducible exact cst4 | with_reducible exact cst5 | with_reducible exact cst6 | with_reducible exact cst7 | with_reducible exact cst8 | with_reducible exact cst14 | with_reducible exact cst15 | with_reducible exact cst25 | with_reducible exact cst30 | with_reducible exact cst31 | fail) ?_ ?_; · (repeat' (first | omega | refine And.intro ?_ ?_ | exact bnd_andl (by omega) | exact bnd_andr (by omega) | refine bnd_or ?_ ?_ | refine bnd_or31 ?_ ?_ | refine bnd_xor ?_ ?_ | refine bnd_xor31 ?_ ?_ | refine bnd_shr ?_ | refine bnd_shl ?_ ?_ | refine bnd_mod ?_ | refine bnd_andl ?_ | fail))) | fail) | (refine SideN.mk ?_ ?_; · first | kernel_rfl | omega | exact List.cons_ne_nil _ _ | (simp; done) | (simp; omega) | exact trivial | assumption | fail) | (refine CallN.id ?_; first | refine CallN.det _ (hc _) ?_ | fail) | refine SegN.nth (f := encSG) (l := ns) eN j rfl hlt (fun _ => rfl) ?_ | refine DrawN.mk' [] ?_ | fail))); all_goals (conv => whnf)
          (refine ⟨⟨j + 1, ⟨by omega, fun i hi => by
            by_cases e : i = j
            · rw [e]; exact hb2
            · exact hall i (by omega)⟩, by omega, ?_, .inl ⟨rfl, rfl⟩, rfl, _, rfl, ?_⟩⟩; rotate_left 1; (first | exact .inl rfl | exact .inr ⟨by simp [belowRE, below, belowL, tr, tms_below, fos_below, encSG_below, mpG_belowK, mpG_belowV, ixG_below], by simp [belowH, Blk.below, belowL, below, tms_below, fos_below, encSG_below, mpG_belowK, mpG_belowV, ixG_below]⟩ | fail); (repeat' (first | exact trivial | refine ⟨⟨_, rfl, ?_⟩, ?_⟩ | fail)); all_goals try (first | exact Wk.refl _ | exact Wk.of_eq (congrArg (AV.int _) (by omega)) | fail))
        | false =>
          rw [hb2] at hc
          (repeat' ((conv => whnf); (first | (refine IfN.id ?_; first | refine IfN.not ?_ | refine IfN.ff rfl ?_ | refine IfN.dT (by omega) ?_ | fail) | (refine SideN.mk ?_ ?_; · first | kernel_rfl | omega | exact List.cons_ne_nil _ _ | (simp; done) | (simp; omega) | exact trivial | assumption | fail) | (refine CallN.id ?_; first | refine CallN.det _ (hc _) ?_ | fail) | refine SegN.nth (f := encSG) (l := ns) eN j rfl hlt (fun _ => rfl) ?_ | refine DrawN.mk' [] ?_ | fail))); all_goals (conv => whnf)
          have : ns.all mb = false := by
            apply Bool.eq_false_iff.2
            intro hA
            rw [List.all_eq_true.1 hA _ (getD_memT ns j eN hlt)] at hb2
            cases hb2
          rw [if_pos this]
          exact EndN.det ⟨trivial, trivial, trivial⟩ (Wk.refl _)
      · have : ns.all mb = true := by
          rw [List.all_eq_true]
          intro x hx
          obtain ⟨i, hi, rfl⟩ := List.getElem_of_mem hx
          have := hall i (by omega)
          rwa [show ns.getD i eN = ns[i] by simp [List.getD_eq_getElem?_getD, hi]] at this
        rw [if_neg (by rw [this]; simp)]
        (repeat' ((conv => whnf); (first | (refine IfN.id ?_; first | refine IfN.dF (by omega) ?_ | fail) | (refine CallN.id ?_; first | refine CallN.det _ (h4 _) ?_ | fail) | refine DrawN.mk' [] ?_ | fail))); all_goals (conv => whnf)
        exact EndN.det ⟨hb _, trivial, trivial⟩ (Wk.refl _)
    · rw [if_pos hok]
      cases br with
      | false =>
        refine fn_det Tryz.E0 Tryz.mx Tryz.func81 (by kernel_rfl) rfl (Nat.le_of_ble_eq_true rfl) rfl fun hcl hbl => ?_
        (repeat' ((conv => whnf); (first | (refine IfN.id ?_; first | refine IfN.not ?_ | refine IfN.ff rfl ?_ | refine IfN.dF (by omega) ?_ | fail) | (refine CallN.id ?_; first | refine CallN.det _ (h1 _) ?_ | fail) | refine DrawN.mk' [] ?_ | fail))); all_goals (conv => whnf)
        exact EndN.det ⟨trivial, trivial, trivial⟩ (Wk.refl _)
      | true =>
        cases bn with
        | false =>
          refine fn_det Tryz.E0 Tryz.mx Tryz.func81 (by kernel_rfl) rfl (Nat.le_of_ble_eq_true rfl) rfl fun hcl hbl => ?_
          (repeat' ((conv => whnf); (first | (refine IfN.id ?_; first | refine IfN.not ?_ | refine IfN.tt rfl ?_ | refine IfN.ff rfl ?_ | refine IfN.dF (by omega) ?_ | fail) | (refine CallN.id ?_; first | refine CallN.det _ (h1 _) ?_ | refine CallN.det _ (h2 _) ?_ | fail) | refine DrawN.mk' [] ?_ | fail))); all_goals (conv => whnf)
          exact EndN.det ⟨trivial, trivial, trivial⟩ (Wk.refl _)
        | true =>
          by_cases h0 : v < 0
          · refine fn_det Tryz.E0 Tryz.mx Tryz.func81 (by kernel_rfl) rfl (Nat.le_of_ble_eq_true rfl) rfl fun hcl hbl => ?_
            (repeat' ((conv => whnf); (first | (refine IfN.id ?_; first | refine IfN.not ?_ | refine IfN.tt rfl ?_ | refine IfN.dT (by omega) ?_ | refine IfN.dF (by omega) ?_ | fail) | (refine CallN.id ?_; first | refine CallN.det _ (h1 _) ?_ | refine CallN.det _ (h2 _) ?_ | fail) | refine DrawN.mk' [] ?_ | fail))); all_goals (conv => whnf)
            exact EndN.det ⟨trivial, trivial, trivial⟩ (Wk.refl _)
          · have hge : (S : Int) ≤ v := by
              apply Classical.byContradiction
              intro hh
              exact hok ⟨rfl, rfl, by omega, by omega⟩
            refine fn_det Tryz.E0 Tryz.mx Tryz.func81 (by kernel_rfl) rfl (Nat.le_of_ble_eq_true rfl) rfl fun hcl hbl => ?_
            (repeat' ((conv => whnf); (first | (refine IfN.id ?_; first | refine IfN.not ?_ | refine IfN.tt rfl ?_ | refine IfN.dT (by omega) ?_ | refine IfN.dF (by omega) ?_ | fail) | (refine EqN.id ?_; first | refine EqN.mk _ w1 ?_ | fail) | (refine SideN.mk ?_ ?_; · first | kernel_rfl | omega | exact List.cons_ne_nil _ _ | (simp; done) | (simp; omega) | exact trivial | assumption | fail) | (refine CallN.id ?_; first | refine CallN.det _ (h1 _) ?_ | refine CallN.det _ (h2 _) ?_ | fail) | refine DrawN.mk' [] ?_ | fail))); all_goals (conv => whnf)
            exact EndN.det ⟨trivial, trivial, trivial⟩ (Wk.refl _)
end Go.Proofs.YtjflngchbeegcaaGreatDoor.P10
/-! text ST10z -/
namespace Go.Proofs.YtjflngchbeegcaaGreatDoor.P10
open Go.Vsi
set_option maxHeartbeats 2000000

/-! ### truth.Eval in general -/
def opB (op : Nat) (a b : Bool) : Bool := if op = 2 then false else if op = 3 then !a else if op = 4 then a && b else if op = 5 then a || b else if op = 6 then !a || b else a == b
mutual
def evF (r : ByteArray → Bool) : Fo → Bool
  | .mk op s _ m => if op = 1 then r s else opB op ((evFs r m).getD 0 false) ((evFs r m).getD 1 false)
def evFs (r : ByteArray → Bool) : List Fo → List Bool
  | [] => []
  | x :: l => evF r x :: evFs r l
end
theorem evF_fp (r : ByteArray → Bool) : ∀ p : Fp, p.Ok → evF r p.fo = p.ev r
  | .at c, _ => by unfold Fp.fo evF Fp.ev; rfl
  | .fa, _ => by unfold Fp.fo evF Fp.ev; rfl
  | .f1 a, h => by
    unfold Fp.fo evF evFs Fp.ev
    rw [evF_fp r a h]
    rfl
  | .f2 k a b, h => by
    have h1 := evF_fp r a h.2.1
    have h2 := evF_fp r b h.2.2
    unfold Fp.fo evF evFs Fp.ev
    rw [h1, evFs.eq_def]
    simp only
    rw [h2]
    rcases h.1 with rfl | rfl | rfl | rfl <;> simp [opB]
def Fp.has (c : ByteArray) : Fp → Prop
  | .at d => c = d
  | .fa => False
  | .f1 a => a.has c
  | .f2 _ a b => a.has c ∨ b.has c
theorem mem_insG (ks : List ByteArray) (c d : ByteArray) : c ∈ insG ks d ↔ c ∈ ks ∨ c = d := by
  unfold insG
  split
  · rename_i h
    exact ⟨.inl, fun h2 => h2.elim id fun e => e ▸ (memG_iff d ks).1 h⟩
  · simp
theorem mem_addG (c : ByteArray) : ∀ (p : Fp) (ks : List ByteArray), p.Ok → (c ∈ addG ks p.fo ↔ c ∈ ks ∨ p.has c)
  | .at d, ks, _ => by
    unfold Fp.fo addG
    rw [if_pos rfl, addGs_nil]
    exact mem_insG ks c d
  | .fa, ks, _ => by
    unfold Fp.fo addG
    rw [if_neg (by decide), addGs_nil]
    simp [Fp.has]
  | .f1 a, ks, h => by
    unfold Fp.fo addG
    rw [if_neg (by decide), addGs_cons, addGs_nil]
    exact mem_addG c a ks h
  | .f2 k a b, ks, h => by
    unfold Fp.fo addG
    rw [if_neg (by have := h.1; omega), addGs_cons, addGs_cons, addGs_nil, mem_addG c b _ h.2.2, mem_addG c a ks h.2.1]
    simp only [Fp.has, or_assoc]
theorem in_iffP (l : List ByteArray) : ∀ p : Fp, p.In l ↔ ∀ c, p.has c → c ∈ l
  | .at d => ⟨fun h c e => e ▸ h, fun h => h d rfl⟩
  | .fa => ⟨fun _ _ e => e.elim, fun _ => trivial⟩
  | .f1 a => in_iffP l a
  | .f2 _ a b => by
    simp only [Fp.In, Fp.has, in_iffP l a, in_iffP l b]
    exact ⟨fun h c e => e.elim (h.1 c) (h.2 c), fun h => ⟨fun c e => h c (.inl e), fun c e => h c (.inr e)⟩⟩
theorem mem_namesG1 (c : ByteArray) (l : List Fo) : c ∈ namesG l ↔ c ∈ addGs [] l := by
  unfold namesG sortG
  exact (List.mergeSort_perm _ _).mem_iff
theorem in_of_all {p : Fp} (hp : p.Ok) {l : List ByteArray} (h : inAll p.fo l = true) : p.In l := by
  rw [in_iffP]
  intro c hc
  unfold inAll at h
  have := List.all_eq_true.1 h c ((mem_namesG1 c _).2 (by
    rw [addGs_cons, addGs_nil, mem_addG c p [] hp]
    exact .inr hc))
  exact (memG_iff c l).1 this
def errN (f : Fo) (l : List ByteArray) (v : Int) : Int :=
  if 12 < l.length then 5 else if ¬ (rightF f = true ∧ isNmG l = true ∧ 0 ≤ v ∧ v < (2 ^ l.length : Nat)) then 2 else if inAll f l = false then 6 else 0
theorem namedA_eq (f : Fo) (l : List ByteArray) (v : Int) : namedA f l v = if errN f l v = 0 then .tup [tblG l, .int .i64 0] else .tup [.nilp, .int .i64 (errN f l v)] := by
  unfold namedA errN
  split
  · rfl
  · split
    · rfl
    · split <;> rfl
theorem errN_zero {f : Fo} {l : List ByteArray} {v : Int} (h : errN f l v = 0) : l.length ≤ 12 ∧ rightF f = true ∧ isNmG l = true ∧ (0 ≤ v ∧ v < (2 ^ l.length : Nat)) ∧ inAll f l = true := by
  unfold errN at h
  split at h
  · cases h
  · rename_i h1
    split at h
    · cases h
    · rename_i h2
      have h2 := Classical.not_not.1 h2
      split at h
      · cases h
      · rename_i h3
        exact ⟨by omega, h2.1, h2.2.1, h2.2.2, by simpa using h3⟩
attribute [local irreducible] VW VCall VO bits
def evalA (f : Fo) (l : List ByteArray) (v : Int) : AV := .tup [.bool (decide (errN f l v = 0) && evF (vbG l v.toNat) f), .int .i64 (errN f l v)]
theorem eval_g (f : Fo) (hg : f.good) (hn : (addGs [] [f]).length ≤ 100000) (l : List ByteArray) (hlen : l.length ≤ 9223372036854775807) (hsz : ∀ c ∈ l, c.size ≤ maxLen) (v : Int) (H : Heap) : VDet Tryz.prog 35 [.agg f.cells, .sl none l.length (l.flatMap encSG), .int .i64 v] H (evalA f l v) := by
  have h1 := named_all f hg hn l hlen hsz v
  rw [namedA_eq] at h1
  unfold evalA
  by_cases he : errN f l v = 0
  · obtain ⟨h12, hr, hnm, ⟨hv0, hv1⟩, hin⟩ := errN_zero he
    rw [if_pos he] at h1
    rw [he, decide_eq_true rfl, Bool.true_and]
    obtain ⟨p, hp, rfl⟩ := fp_right hr
    obtain ⟨n, rfl⟩ : ∃ n : Nat, v = n := ⟨v.toNat, by omega⟩
    rw [Int.toNat_natCast, evF_fp _ p hp]
    have h2l := two_leG l.length h12
    have h2 := blockG_c l (by omega) (n / 64) (by omega) p hp (in_of_all hp hin)
    have hres : p.ev (vbG l n) = (fun i => p.ev (vbG l (64 * (n / 64) + i))) (n % 64) := by
      show _ = p.ev (vbG l (64 * (n / 64) + n % 64))
      rw [Nat.div_add_mod]
    rw [hres]
    have h2 : ∀ H, VDet Tryz.prog 82 [tblG l, .agg p.fo.cells, .int .i64 ((n : Int) / 64)] H (blkG l (n / 64) p) := h2
    unfold blkG U at h2
    generalize (fun i => p.ev (vbG l (64 * (n / 64) + i))) = g at *
    have hbit := bit_one g (n % 64) (Nat.mod_lt _ (by omega))
    obtain ⟨fo, fn, fsn, fsc, hfc⟩ := fp_cells p
    generalize mkBits 64 g = gg at *
    generalize tblG l = t at *
    rw [hfc] at h1 h2 ⊢
    generalize l.flatMap encSG = lc at *
    generalize l.length = k at *
    refine fn_det Tryz.E0 Tryz.mx Tryz.func35 (by kernel_rfl) rfl (Nat.le_of_ble_eq_true rfl) rfl fun hcl hbl => ?_
    (repeat' ((conv => whnf); (first | (refine IfN.id ?_; first | refine IfN.not ?_ | refine IfN.tt rfl ?_ | fail) | (refine EqN.id ?_; first | refine EqN.quo (by omega) ?_ | refine EqN.rem (by omega) ?_ | refine EqN.mk _ rfl ?_ | fail) | (refine SideN.mk ?_ ?_; · first | kernel_rfl | omega | exact List.cons_ne_nil _ _ | (simp; done) | (simp; omega) | exact trivial | assumption | fail) | (refine CallN.id ?_; first | refine CallN.det _ (h1 _) ?_ | refine CallN.det _ (h2 _) ?_ | fail) | refine DrawN.mk' [] ?_ | fail))); all_goals (conv => whnf)
    refine EndN.det ⟨trivial, trivial, trivial⟩ (Wk.of_eq ?_)
    rw [← hbit, ← fdiv_shr gg (n % 64) (by omega)]
    rfl
  · rw [if_neg he] at h1
    rw [decide_eq_false he, Bool.false_and]
    generalize errN f l v = e at *
    obtain ⟨op, s, al, m⟩ := f
    rw [Fo.cells_mk] at h1 ⊢
    generalize l.flatMap encSG = lc at *
    generalize l.length = k at *
    generalize al.flatMap Tm.cells = ac at *
    generalize m.flatMap Fo.cells = mc at *
    refine fn_det Tryz.E0 Tryz.mx Tryz.func35 (by kernel_rfl) rfl (Nat.le_of_ble_eq_true rfl) rfl fun hcl hbl => ?_
    (repeat' ((conv => whnf); (first | (refine IfN.id ?_; first | refine IfN.neT he ?_ | fail) | (refine CallN.id ?_; first | refine CallN.det _ (h1 _) ?_ | fail) | refine DrawN.mk' [] ?_ | fail))); all_goals (conv => whnf)
    exact EndN.det ⟨trivial, trivial, trivial⟩ (Wk.refl _)
end Go.Proofs.YtjflngchbeegcaaGreatDoor.P10
/-! text WA13z -/
namespace Go.Proofs.YtjflngchbeegcaaGreatDoor
open Go.Vsi
set_option maxHeartbeats 1000000

/-! ### formulas of P, Q and R as formulas in general -/
def Fm.toFo : Fm → Fo
  | .at c => .mk 1 (nm c) [] []
  | .fa => .mk 2 .empty [] []
  | .f1 k a => .mk k .empty [] [a.toFo]
  | .f2 k a b => .mk k .empty [] [a.toFo, b.toFo]
theorem toFo_cells : ∀ f : Fm, f.toFo.cells = f.cells
  | .at c => by
    unfold Fm.toFo
    rw [Fo.cells_mk]
    rfl
  | .fa => by
    unfold Fm.toFo
    rw [Fo.cells_mk]
    rfl
  | .f1 k a => by
    unfold Fm.toFo
    rw [Fo.cells_mk, List.flatMap_cons, toFo_cells a]
    rfl
  | .f2 k a b => by
    unfold Fm.toFo
    rw [Fo.cells_mk, List.flatMap_cons, List.flatMap_cons, toFo_cells a, toFo_cells b]
    rfl
theorem isPred_pqr (c : UInt8) (h : c = 80 ∨ c = 81 ∨ c = 82) : P10.isPred (nm c) = true := by
  rcases h with rfl | rfl | rfl <;> kernel_rfl
theorem nmOk_e : P10.emptyB .empty = true := by kernel_rfl
theorem ok_jF : ∀ (f : Fm) (d : Nat) (L : Int), f.Prp → f.pqr → (f.nodes : Int) ≤ L → d + f.depth ≤ 41 → P10.jF d f.toFo L = (L - f.nodes, true)
  | .at c, d, L, _, hp, hn, hd => by
    simp only [Fm.nodes, Fm.depth] at hn hd ⊢
    unfold Fm.toFo P10.jF
    rw [if_neg (by omega), if_neg (by decide), if_neg (by
      have : P10.nameOk (P10.rowN 1) (nm c) = true := isPred_pqr c hp
      rw [this]
      decide)]
    rw [P10.jTs_nil, if_pos rfl, P10.jFs_nil]
    rfl
  | .fa, d, L, _, _, hn, hd => by
    simp only [Fm.nodes, Fm.depth] at hn hd ⊢
    unfold Fm.toFo P10.jF
    rw [if_neg (by omega), if_neg (by decide), if_neg (not_not_intro ⟨nmOk_e, Nat.zero_le _, rfl⟩)]
    rw [P10.jTs_nil, if_pos rfl, P10.jFs_nil]
    rfl
  | .f1 k a, d, L, h, hp, hn, hd => by
    simp only [Fm.nodes, Fm.depth] at hn hd
    have h1 := ok_jF a (d + 1) (L - 1) h.2 hp (by omega) (by omega)
    have hk := h.1
    subst hk
    unfold Fm.toFo P10.jF
    rw [if_neg (by omega), if_neg (by decide), if_neg (not_not_intro ⟨nmOk_e, Nat.zero_le _, rfl⟩)]
    rw [P10.jTs_nil, if_pos rfl]
    simp only
    rw [P10.jFs_cons, h1, if_pos rfl, P10.jFs_nil]
    simp only [Fm.nodes, Prod.mk.injEq, and_true]
    omega
  | .f2 k a b, d, L, h, hp, hn, hd => by
    simp only [Fm.nodes, Fm.depth] at hn hd
    have h1 := ok_jF a (d + 1) (L - 1) h.2.1 hp.1 (by omega) (by omega)
    have h2 := ok_jF b (d + 1) (L - 1 - a.nodes) h.2.2 hp.2 (by omega) (by omega)
    have hr : (L - 1 - a.nodes - b.nodes, true) = ((L - (Fm.f2 k a b).nodes, true) : Int × Bool) := by
      simp only [Fm.nodes, Prod.mk.injEq, and_true]
      omega
    rw [← hr]
    unfold Fm.toFo P10.jF
    rcases h.1 with rfl | rfl | rfl | rfl
    all_goals
      rw [if_neg (by omega), if_neg (by decide), if_neg (not_not_intro ⟨nmOk_e, Nat.zero_le _, rfl⟩)]
      rw [P10.jTs_nil, if_pos rfl]
      simp only
      rw [P10.jFs_cons, h1, if_pos rfl, P10.jFs_cons, h2, if_pos rfl, P10.jFs_nil]
theorem propF_fm : ∀ f : Fm, f.Prp → P10.propF f.toFo = true
  | .at c, _ => by unfold Fm.toFo P10.propF P10.propFs; rfl
  | .fa, _ => by unfold Fm.toFo P10.propF P10.propFs; rfl
  | .f1 k a, h => by
    have h1 := propF_fm a h.2
    have hk := h.1
    subst hk
    unfold Fm.toFo P10.propF P10.propFs P10.propFs
    rw [h1]
    rfl
  | .f2 k a b, h => by
    have h1 := propF_fm a h.2.1
    have h2 := propF_fm b h.2.2
    unfold Fm.toFo P10.propF
    rw [P10.propFs_all]
    simp only [List.all_cons, List.all_nil, h1, h2]
    rcases h.1 with rfl | rfl | rfl | rfl <;> rfl
theorem evF_fm (r : ByteArray → Bool) : ∀ f : Fm, f.Prp → P10.evF r f.toFo = evB (fun c => r (nm c)) f
  | .at c, _ => by unfold Fm.toFo P10.evF evB; rfl
  | .fa, _ => by unfold Fm.toFo P10.evF evB; rfl
  | .f1 k a, h => by
    have h1 := evF_fm r a h.2
    have hk := h.1
    subst hk
    unfold Fm.toFo P10.evF P10.evFs evB
    rw [h1]
    rfl
  | .f2 k a b, h => by
    have h1 := evF_fm r a h.2.1
    have h2 := evF_fm r b h.2.2
    unfold Fm.toFo P10.evF evB
    rw [P10.evFs.eq_def]
    simp only
    rw [P10.evFs.eq_def]
    simp only
    rw [h1, h2]
    rcases h.1 with rfl | rfl | rfl | rfl <;> rfl
theorem insG_len (ks : List ByteArray) (c : ByteArray) : (P10.insG ks c).length ≤ ks.length + 1 := by
  unfold P10.insG
  split
  · omega
  · simp
theorem addG_fm : ∀ (f : Fm) (ks : List ByteArray), f.Prp → f.pqr → (P10.addG ks f.toFo).length ≤ ks.length + f.nodes ∧ ∀ c ∈ P10.addG ks f.toFo, c ∈ ks ∨ c = nm 80 ∨ c = nm 81 ∨ c = nm 82
  | .at d, ks, _, hp => by
    unfold Fm.toFo P10.addG
    rw [if_pos rfl, P10.addGs_nil]
    refine ⟨insG_len _ _, fun c hc => ?_⟩
    rcases (P10.mem_insG ks c (nm d)).1 hc with h | h
    · exact .inl h
    · rw [h]
      rcases hp with rfl | rfl | rfl
      · exact .inr (.inl rfl)
      · exact .inr (.inr (.inl rfl))
      · exact .inr (.inr (.inr rfl))
  | .fa, ks, _, _ => by
    unfold Fm.toFo P10.addG
    rw [if_neg (by decide), P10.addGs_nil]
    exact ⟨Nat.le_add_right _ _, fun c hc => .inl hc⟩
  | .f1 k a, ks, h, hp => by
    have h1 := addG_fm a ks h.2 hp
    have hk := h.1
    subst hk
    unfold Fm.toFo P10.addG
    rw [if_neg (by decide), P10.addGs_cons, P10.addGs_nil]
    exact ⟨by simp only [Fm.nodes]; omega, h1.2⟩
  | .f2 k a b, ks, h, hp => by
    have h1 := addG_fm a ks h.2.1 hp.1
    have h2 := addG_fm b (P10.addG ks a.toFo) h.2.2 hp.2
    have hk : k ≠ 1 := by have := h.1; omega
    unfold Fm.toFo P10.addG
    rw [if_neg hk, P10.addGs_cons, P10.addGs_cons, P10.addGs_nil]
    refine ⟨by simp only [Fm.nodes]; omega, fun c hc => ?_⟩
    rcases h2.2 c hc with h | h
    · exact h1.2 c h
    · exact .inr h
def nmsL : List ByteArray := [nm 80, nm 81, nm 82]
theorem err_fm (f : Fm) (h : f.Prp) (hp : f.pqr) (hn : f.nodes ≤ 40) (v : Nat) (hv : v < 8) : P10.errN f.toFo nmsL v = 0 := by
  have hj := ok_jF f 1 400 h hp (by omega) (by have := f.depth_le; omega)
  have h1 : P10.rightF f.toFo = true := by
    unfold P10.rightF P10.synR
    rw [hj, propF_fm f h]
    rfl
  have h2 : P10.isNmG nmsL = true := by kernel_rfl
  have h3 : P10.inAll f.toFo nmsL = true := by
    unfold P10.inAll
    rw [List.all_eq_true]
    intro c hc
    rw [P10.mem_namesG1, P10.addGs_cons, P10.addGs_nil] at hc
    rw [P10.memG_iff]
    rcases (addG_fm f [] h hp).2 c hc with h | rfl | rfl | rfl
    · cases h
    · simp [nmsL]
    · simp [nmsL]
    · simp [nmsL]
  unfold P10.errN
  rw [if_neg (by decide), if_neg (not_not_intro ⟨h1, h2, by omega, by show (v : Int) < (8 : Nat); omega⟩), h3, if_neg (by decide)]
theorem good_fm : ∀ f : Fm, f.Prp → f.toFo.good
  | .at c, _ => by
    unfold Fm.toFo
    exact ⟨by omega, by show 1 ≤ maxLen; unfold maxLen; omega, by simp, trivial, by simp, trivial⟩
  | .fa, _ => by
    unfold Fm.toFo
    exact ⟨by omega, by show 0 ≤ maxLen; omega, by simp, trivial, by simp, trivial⟩
  | .f1 k a, h => by
    have h1 := good_fm a h.2
    have hk := h.1
    unfold Fm.toFo
    exact ⟨by omega, by show 0 ≤ maxLen; omega, by simp, trivial, by simp [maxLen], ⟨h1, trivial⟩⟩
  | .f2 k a b, h => by
    have h1 := good_fm a h.2.1
    have h2 := good_fm b h.2.2
    have hk := h.1
    unfold Fm.toFo
    exact ⟨by omega, by show 0 ≤ maxLen; omega, by simp, trivial, by simp [maxLen], ⟨h1, h2, trivial⟩⟩
theorem eval_fm (f : Fm) (h : f.Prp) (hp : f.pqr) (hn : f.nodes ≤ 40) (v : Nat) (hv : v < 8) (H : Heap) : VDet Tryz.prog 35 [.agg f.cells, .sl none 3 [.str (nm 80), .str (nm 81), .str (nm 82)], .int .i64 v] H (.tup [.bool (evB (fun c => P10.vbG nmsL v (nm c)) f), .int .i64 0]) := by
  have h1 := P10.eval_g f.toFo (good_fm f h) (by
    rw [P10.addGs_cons, P10.addGs_nil]
    have := (addG_fm f [] h hp).1
    simp only [List.length_nil] at this
    omega) nmsL (by simp [nmsL]) (by
    intro c hc
    simp only [nmsL, List.mem_cons, List.not_mem_nil, or_false] at hc
    rcases hc with rfl | rfl | rfl <;> (show 1 ≤ maxLen; unfold maxLen; omega)) v H
  unfold P10.evalA at h1
  rw [err_fm f h hp hn v hv, Int.toNat_natCast, evF_fm _ f h, toFo_cells] at h1
  exact h1
theorem vb_pqr (v : Nat) : P10.vbG nmsL v (nm 80) = v.testBit 2 ∧ P10.vbG nmsL v (nm 81) = v.testBit 1 ∧ P10.vbG nmsL v (nm 82) = v.testBit 0 := by
  have e1 : P10.ixP nmsL (nm 80) = 0 := by kernel_rfl
  have e2 : P10.ixP nmsL (nm 81) = 1 := by kernel_rfl
  have e3 : P10.ixP nmsL (nm 82) = 2 := by kernel_rfl
  unfold P10.vbG
  rw [e1, e2, e3]
  exact ⟨rfl, rfl, rfl⟩
theorem evB_congr {u v : UInt8 → Bool} (h : u 80 = v 80 ∧ u 81 = v 81 ∧ u 82 = v 82) : ∀ f : Fm, f.pqr → evB u f = evB v f
  | .at c, hp => by
    unfold evB
    rcases hp with rfl | rfl | rfl
    · exact h.1
    · exact h.2.1
    · exact h.2.2
  | .fa, _ => rfl
  | .f1 k a, hp => by
    unfold evB
    rw [evB_congr h a hp]
  | .f2 k a b, hp => by
    unfold evB
    rw [evB_congr h a hp.1, evB_congr h b hp.2]
end Go.Proofs.YtjflngchbeegcaaGreatDoor
/-! text VA13z -/
namespace Go.Proofs.YtjflngchbeegcaaGreatDoor
open Go.Vsi
set_option maxHeartbeats 4000000
attribute [local irreducible] VW VCall VO bits

/-! ### TraceProps -/
def vN (A B C : Nat) : Nat := (((0 <<< 1 ||| A) <<< 1 ||| B) <<< 1) ||| C
theorem vN_fact (a b c : Bool) : (vN a.toNat b.toNat c.toNat) < 8 ∧ (vN a.toNat b.toNat c.toNat).testBit 2 = a ∧ (vN a.toNat b.toNat c.toNat).testBit 1 = b ∧ (vN a.toNat b.toNat c.toNat).testBit 0 = c ∧ (vN a.toNat b.toNat c.toNat) >>> 2 = a.toNat ∧ (vN a.toNat b.toNat c.toNat) >>> 1 &&& 1 = b.toNat ∧ (vN a.toNat b.toNat c.toNat) &&& 1 = c.toNat := by
  cases a <;> cases b <;> cases c <;> decide
theorem props_c (sz lp x y z : Nat) (code : List Nat) (tt : Nat) (hs : sz ≤ 255) (hl : lp ≤ 255) (hx : x ≤ 255) (hy : y ≤ 255) (hz : z ≤ 255) (hcd : code.length ≤ 9223372036854775807) (hcb : ∀ i, i < code.length → code.getD i 0 ≤ 255) (ht : tt ≤ 65535) (H : Heap) :
    VDet Tryz.prog 5 [.int .u8 sz, .int .u8 lp, .agg [.int .u8 x, .int .u8 y, .int .u8 z], .sl none code.length (code.flatMap encB), .int .u16 tt] H (.bool true) := by
  have hmd := fun H => Made_c sz lp x y z hs hl hx hy hz H
  have hbu := fun H => built_c code hcd hcb H
  obtain ⟨hg, hnd⟩ := blt_ok code
  generalize bltF code = f at hbu hg hnd
  obtain ⟨n, l, a, b, c, he, h1, h5, hln, ha, hb, hc⟩ := made_ex sz lp x y z
  rw [he] at hmd
  have hm := ok3 n l a b c h1 h5 hln ha hb hc
  have hput := put_c f hg.temp
  obtain ⟨hpg, hpn⟩ := put_good f hg
  have hpp := put_prp f hg.temp
  have hAt := fun H => At_c _ hm (putF f) hpg.ok hpg.temp (by omega) H
  rw [miss_pqr n l a b c (putF f) hpg.pqr] at hAt
  simp only [Bool.false_eq_true, if_false] at hAt
  have hP := fun H => Position_c _ hm tt (by omega) H
  -- the bits of the time
  have ba : (a >>> posN n l tt) &&& 1 = (tm n l a tt).toNat := bit1 _ _
  have bb : (b >>> posN n l tt) &&& 1 = (tm n l b tt).toNat := bit1 _ _
  have bc : (c >>> posN n l tt) &&& 1 = (tm n l c tt).toNat := bit1 _ _
  have be : (evT ⟨n, l, [(80, a), (81, b), (82, c)]⟩ (putF f) >>> posN n l tt) &&& 1 = (tm n l (evT ⟨n, l, [(80, a), (81, b), (82, c)]⟩ (putF f)) tt).toNat := bit1 _ _
  rw [ev_now ⟨n, l, [(80, a), (81, b), (82, c)]⟩ hln tt (putF f) hpp] at be
  have hpl : posN n l tt < n := posN_lt hln
  have a32 := p2_32 ha h5
  have b32 := p2_32 hb h5
  have c32 := p2_32 hc h5
  have e32 := p2_32 (evT_lt hm (putF f)) h5
  -- the valuation
  obtain ⟨v8, v2, v1, v0, w2, w1, w0⟩ := vN_fact (tm n l a tt) (tm n l b tt) (tm n l c tt)
  have hEv := fun H => eval_fm (putF f) hpp hpg.pqr (by omega) _ v8 H
  have hvb := vb_pqr (vN (tm n l a tt).toNat (tm n l b tt).toNat (tm n l c tt).toNat)
  have hB : evB (fun q => P10.vbG nmsL (vN (tm n l a tt).toNat (tm n l b tt).toNat (tm n l c tt).toNat) (nm q)) (putF f) = evB (fun q => tm n l ((fnd q [(80, a), (81, b), (82, c)]).getD 0) tt) (putF f) :=
    evB_congr ⟨by rw [hvb.1, v2]; rfl, by rw [hvb.2.1, v1]; rfl, by rw [hvb.2.2, v0]; rfl⟩ _ hpg.pqr
  rw [hB] at hEv
  -- the trace that does not change
  have s1 : ∀ q : Bool, q.toNat < 2 ^ 1 := by decide
  have hso := ok3 1 0 (tm n l a tt).toNat (tm n l b tt).toNat (tm n l c tt).toNat (by omega) (by omega) (by omega) (s1 _) (s1 _) (s1 _)
  have hH1 := fun H => Holds_c _ hso f hg.ok hg.temp (by omega) (miss_pqr _ _ _ _ _ f hg.pqr) H
  have hH2 := fun H => Holds_c _ hso (putF f) hpg.ok hpg.temp (by omega) (miss_pqr _ _ _ _ _ (putF f) hpg.pqr) H
  have q1 : ∀ g : Fm, (((evT ⟨1, 0, [(80, (tm n l a tt).toNat), (81, (tm n l b tt).toNat), (82, (tm n l c tt).toNat)]⟩ g &&& 1 : Nat) : Int) == 1) = tm 1 0 (evT ⟨1, 0, [(80, (tm n l a tt).toNat), (81, (tm n l b tt).toNat), (82, (tm n l c tt).toNat)]⟩ g) 0 := by
    intro g
    have := bit1 (evT ⟨1, 0, [(80, (tm n l a tt).toNat), (81, (tm n l b tt).toNat), (82, (tm n l c tt).toNat)]⟩ g) (posN 1 0 0)
    rw [pos1, Nat.shiftRight_zero] at this
    rw [this]
    unfold tm
    rw [pos1]
    cases Nat.testBit _ 0 <;> rfl
  rw [q1] at hH1 hH2
  rw [ev_still _ hso 0 f hg.temp] at hH1
  have hT : ∀ q : Bool, tm 1 0 q.toNat 0 = q := by intro q; unfold tm; rw [pos1]; cases q <;> rfl
  have hC : tm 1 0 (evT ⟨1, 0, [(80, (tm n l a tt).toNat), (81, (tm n l b tt).toNat), (82, (tm n l c tt).toNat)]⟩ (putF f)) 0 = evB (fun q => tm n l ((fnd q [(80, a), (81, b), (82, c)]).getD 0) tt) (putF f) :=
    (ev_now ⟨1, 0, [(80, (tm n l a tt).toNat), (81, (tm n l b tt).toNat), (82, (tm n l c tt).toNat)]⟩ (Nat.zero_lt_one) 0 (putF f) hpp).trans (evB_congr ⟨hT _, hT _, hT _⟩ _ hpg.pqr)
  rw [hC] at hH1 hH2
  change (evT ⟨n, l, [(80, a), (81, b), (82, c)]⟩ (putF f) >>> posN n l tt) &&& 1 = (evB (fun q => tm n l ((fnd q [(80, a), (81, b), (82, c)]).getD 0) tt) (putF f)).toNat at be
  have hF := fun A B C H => facts3_c A B C H
  generalize evB (fun q => tm n l ((fnd q [(80, a), (81, b), (82, c)]).getD 0) tt) (putF f) = B at be hEv hH1 hH2
  generalize evT ⟨n, l, [(80, a), (81, b), (82, c)]⟩ (putF f) = E at be hAt e32
  rw [← ba, ← bb, ← bc] at hEv w2 w1 w0 hH1 hH2
  clear hvb hB q1 hC hT s1 hso v2 v1 v0 v8 ba bb bc
  simp only at hP
  generalize posN n l tt = p at *
  unfold vN at hEv w2 w1 w0
  generalize hV : ((0 <<< 1 ||| a >>> p &&& 1) <<< 1 ||| b >>> p &&& 1) <<< 1 ||| c >>> p &&& 1 = V at hEv w2 w1 w0
  rw [← w2, ← w1, ← w0] at hH1 hH2
  unfold PutP at hput
  unfold Tr.cells at hmd hAt hP hH1 hH2
  unfold Fm.cells at hbu hAt hH1 hH2 hEv hput
  simp only at hmd hAt hP hbu hH1 hH2 hEv
  have hH1 : ∀ H, VDet Tryz.prog 36 [.agg [.int .u8 5, .int .i64 1, .nils, .int .i64 0, .sl none 3 (([(80, V >>> 2), (81, V >>> 1 &&& 1), (82, V &&& 1)] : List (UInt8 × Nat)).flatMap encT), .nils, .nils], .agg [.int .u8 f.op, .str f.nmB, .sl none 0 [], .sl none f.sn f.sc]] H _ := fun H => VDet.wk (hH1 H) ⟨wk_agg ⟨Wk.refl _, Wk.refl _, wk_nils, Wk.refl _, Wk.refl _, wk_nils, wk_nils, trivial⟩, Wk.refl _, trivial⟩
  have hH2 : ∀ H, VDet Tryz.prog 36 [.agg [.int .u8 5, .int .i64 1, .nils, .int .i64 0, .sl none 3 (([(80, V >>> 2), (81, V >>> 1 &&& 1), (82, V &&& 1)] : List (UInt8 × Nat)).flatMap encT), .nils, .nils], .agg [.int .u8 (putF f).op, .str (putF f).nmB, .sl none 0 [], .sl none (putF f).sn (putF f).sc]] H _ := fun H => VDet.wk (hH2 H) ⟨wk_agg ⟨Wk.refl _, Wk.refl _, wk_nils, Wk.refl _, Wk.refl _, wk_nils, wk_nils, trivial⟩, Wk.refl _, trivial⟩
  subst hV
  have hA1 : a >>> p &&& 1 ≤ 1 := Nat.and_le_right
  have hB1 : b >>> p &&& 1 ≤ 1 := Nat.and_le_right
  have hC1 : c >>> p &&& 1 ≤ 1 := Nat.and_le_right
  have hs3 : ((0 <<< 1 ||| a >>> p &&& 1) <<< 1 ||| b >>> p &&& 1) <<< 1 < 9223372036854775808 := by
    have : (0 <<< 1 ||| a >>> p &&& 1) <<< 1 ||| b >>> p &&& 1 < 2 ^ 31 := Nat.or_lt_two_pow (by rw [show (0 <<< 1 ||| a >>> p &&& 1) = a >>> p &&& 1 by simp, Nat.shiftLeft_eq]; omega) (by omega)
    rw [Nat.shiftLeft_eq]
    omega
  have hs4 : ((0 <<< 1 ||| a >>> p &&& 1) <<< 1 ||| b >>> p &&& 1) <<< 1 < 9223372036854775808 ∧ c >>> p &&& 1 < 9223372036854775808 := ⟨hs3, by omega⟩
  refine fn_det Tryz.E0 Tryz.mx Tryz.func5 (by kernel_rfl) rfl (Nat.le_of_ble_eq_true rfl) rfl fun hcl hbl => ?_
  (repeat' ((conv => whnf); (first | (refine IfN.id ?_; first | refine IfN.not ?_ | refine IfN.tt rfl ?_ | fail) | (refine EqN.id ?_; first | refine EqN.i64 (by omega) ?_ | fail) | (refine CallN.id ?_; first | refine CallN.det _ (awake_c _) ?_ | refine CallN.det _ (hmd _) ?_ | refine CallN.det _ (hbu _) ?_ | refine CallN.det _ (hput _ _ (at_loc0 rfl)) ?_ | refine CallN.det _ (hP _) ?_ | refine CallN.det _ (hAt _) ?_ | fail) | refine DrawN.mk' [] ?_ | fail))); all_goals (conv => whnf)
  refine LoopN.rounds Tryz.E0 Tryz.mx 4 rfl ?_
  cases B with
  | true =>
    (repeat' ((conv => whnf); (first | (refine IfN.id ?_; first | refine IfN.not ?_ | refine IfN.tt rfl ?_ | refine IfN.ff rfl ?_ | refine IfN.dec (fun _ => ?_) (fun _ => ?_) | fail) | (refine EqN.id ?_; first | (refine EqN.shlN _ _ (by first | with_reducible rfl | with_reducible exact cst1 | with_reducible exact cst0 | with_reducible exact cst2 | with_reducible exact cst3 | with_reducible exact cst4 | with_reducible exact cst5 | with_reducible exact cst6 | with_reducible exact cst7 | with_reducible exact cst8 | with_reducible exact cst14 | with_reducible exact cst15 | with_reducible exact cst25 | with_reducible exact cst30 | with_reducible exact cst31 | fail) (by first | with_reducible rfl | with_reducible exact cst1 | with_reducible exact cst0 | with_reducible exact cst2 | with_reducible exact cst3 | with_reducible exact cst4 | with_reducible exact cst5 | with_reducible exact cst6 | with_reducible exact cst7 | with_reducible exact cst8 | with_reducible exact cst14 | with_reducible exact cst15 | with_reducible exact cst25 | with_reducible exact cst30 | with_reducible exact cst31 | fail) rfl ?_ ?_ ?_; (· (repeat' (first | omega | refine And.intro ?_ ?_ | exact bnd_andl (by omega) | exact bnd_andr (by omega) | refine bnd_or ?_ ?_ | refine bnd_or31 ?_ ?_ | refine bnd_xor ?_ ?_ | refine bnd_xor31 ?_ ?_ | refine bnd_shr ?_ | refine bnd_shl ?_ ?_ | refine bnd_mod ?_ | refine bnd_andl ?_ | fail))); (· exact hs3)) | (refine EqN.or _ _ (by first | with_reducible rfl | with_reducible exact cst1 | with_reducible exact cst0 | with_reducible exact cst2 | with_reducible exact cst3 | with_reducible exact cst4 | with_reducible exact cst5 | with_reducible exact cst6 | with_reducible exact cst7 | with_reducible exact cst8 | with_reducible exact cst14 | with_reducible exact cst15 | with_reducible exact cst25 | with_reducible exact cst30 | with_reducible exact cst31 | fail) (by first | with_reducible rfl | with_reducible exact cst1 | with_reducible exact cst0 | with_reducible exact cst2 | with_reducible exact cst3 | with_reducible exact cst4 | with_reducible exact cst5 | with_reducible exact cst6 | with_reducible exact cst7 | with_reducible exact cst8 | with_reducible exact cst14 | with_reducible exact cst15 | with_reducible exact cst25 | with_reducible exact cst30 | with_reducible exact cst31 | fail) ?_ ?_; · exact hs4) | (refine EqN.and _ _ (by first | with_reducible rfl | with_reducible exact cst1 | with_reducible exact cst0 | with_reducible exact cst2 | with_reducible exact cst3 | with_reducible exact cst4 | with_reducible exact cst5 | with_reducible exact cst6 | with_reducible exact cst7 | with_reducible exact cst8 | with_reducible exact cst14 | with_reducible exact cst15 | with_reducible exact cst25 | with_reducible exact cst30 | with_reducible exact cst31 | fail) (by first | with_reducible rfl | with_reducible exact cst1 | with_reducible exact cst0 | with_reducible exact cst2 | with_reducible exact cst3 | with_reducible exact cst4 | with_reducible exact cst5 | with_reducible exact cst6 | with_reducible exact cst7 | with_reducible exact cst8 | with_reducible exact cst14 | with_reducible exact cst15 | with_reducible exact cst25 | with_reducible exact cst30 | with_reducible exact cst31 | fail) ?_ ?_; · (repeat' (first | omega | refine And.intro ?_ ?_ | exact bnd_andl (by omega) | exact bnd_andr (by omega) | refine bnd_or ?_ ?_ | refine bnd_or31 ?_ ?_ | refine bnd_xor ?_ ?_ | refine bnd_xor31 ?_ ?_ | refine bnd_shr ?_ | refine bnd_shl ?_ ?_ | refine bnd_mod ?_ | refine bnd_andl ?_ | fail))) | (refine EqN.or _ _ (by first | with_reducible rfl | with_reducible exact cst1 | with_reducible exact cst0 | with_reducible exact cst2 | with_reducible exact cst3 | with_reducible exact cst4 | with_reducible exact cst5 | with_reducible exact cst6 | with_reducible exact cst7 | with_reducible exact cst8 | with_reducible exact cst14 | with_reducible exact cst15 | with_reducible exact cst25 | with_reducible exact cst30 | with_reducible exact cst31 | fail) (by first | with_reducible rfl | with_reducible exact cst1 | with_reducible exact cst0 | with_reducible exact cst2 | with_reducible exact cst3 | with_reducible exact cst4 | with_reducible exact cst5 | with_reducible exact cst6 | with_reducible exact cst7 | with_reducible exact cst8 | with_reducible exact cst14 | with_reducible exact cst15 | with_reducible exact cst25 | with_reducible exact cst30 | with_reducible exact cst31 | fail) ?_ ?_; · (repeat' (first | omega | refine And.intro ?_ ?_ | exact bnd_andl (by omega) | exact bnd_andr (by omega) | refine bnd_or ?_ ?_ | refine bnd_or31 ?_ ?_ | refine bnd_xor ?_ ?_ | refine bnd_xor31 ?_ ?_ | refine bnd_shr ?_ | refine bnd_shl ?_ ?_ | refine bnd_mod ?_ | refine bnd_andl ?_ | fail))) | (refine EqN.shrN _ _ (by first | with_reducible rfl | with_reducible exact cst1 | with_reducible exact cst0 | with_reducible exact cst2 | with_reducible exact cst3 | with_reducible exact cst4 | with_reducible exact cst5 | with_reducible exact cst6 | with_reducible exact cst7 | with_reducible exact cst8 | with_reducible exact cst14 | with_reducible exact cst15 | with_reducible exact cst25 | with_reducible exact cst30 | with_reducible exact cst31 | fail) (by first | with_reducible rfl | with_reducible exact cst1 | with_reducible exact cst0 | with_reducible exact cst2 | with_reducible exact cst3 | with_reducible exact cst4 | with_reducible exact cst5 | with_reducible exact cst6 | with_reducible exact cst7 | with_reducible exact cst8 | with_reducible exact cst14 | with_reducible exact cst15 | with_reducible exact cst25 | with_reducible exact cst30 | with_reducible exact cst31 | fail) rfl ?_ ?_; · (repeat' (first | omega | refine And.intro ?_ ?_ | exact bnd_andl (by omega) | exact bnd_andr (by omega) | refine bnd_or ?_ ?_ | refine bnd_or31 ?_ ?_ | refine bnd_xor ?_ ?_ | refine bnd_xor31 ?_ ?_ | refine bnd_shr ?_ | refine bnd_shl ?_ ?_ | refine bnd_mod ?_ | refine bnd_andl ?_ | fail))) | (refine EqN.shlN _ _ (by first | with_reducible rfl | with_reducible exact cst1 | with_reducible exact cst0 | with_reducible exact cst2 | with_reducible exact cst3 | with_reducible exact cst4 | with_reducible exact cst5 | with_reducible exact cst6 | with_reducible exact cst7 | with_reducible exact cst8 | with_reducible exact cst14 | with_reducible exact cst15 | with_reducible exact cst25 | with_reducible exact cst30 | with_reducible exact cst31 | fail) (by first | with_reducible rfl | with_reducible exact cst1 | with_reducible exact cst0 | with_reducible exact cst2 | with_reducible exact cst3 | with_reducible exact cst4 | with_reducible exact cst5 | with_reducible exact cst6 | with_reducible exact cst7 | with_reducible exact cst8 | with_reducible exact cst14 | with_reducible exact cst15 | with_reducible exact cst25 | with_reducible exact cst30 | with_reducible exact cst31 | fail) rfl ?_ ?_ ?_; (· (repeat' (first | omega | refine And.intro ?_ ?_ | exact bnd_andl (by omega) | exact bnd_andr (by omega) | refine bnd_or ?_ ?_ | refine bnd_or31 ?_ ?_ | refine bnd_xor ?_ ?_ | refine bnd_xor31 ?_ ?_ | refine bnd_shr ?_ | refine bnd_shl ?_ ?_ | refine bnd_mod ?_ | refine bnd_andl ?_ | fail))); (· (repeat' (first | omega | refine And.intro ?_ ?_ | exact bnd_andl (by omega) | exact bnd_andr (by omega) | refine bnd_or ?_ ?_ | refine bnd_or31 ?_ ?_ | refine bnd_xor ?_ ?_ | refine bnd_xor31 ?_ ?_ | refine bnd_shr ?_ | refine bnd_shl ?_ ?_ | refine bnd_mod ?_ | refine bnd_andl ?_ | fail)))) | (refine EqN.addN _ _ (by first | with_reducible rfl | with_reducible exact cst1 | with_reducible exact cst0 | with_reducible exact cst2 | with_reducible exact cst3 | with_reducible exact cst4 | with_reducible exact cst5 | with_reducible exact cst6 | with_reducible exact cst7 | with_reducible exact cst8 | with_reducible exact cst14 | with_reducible exact cst15 | with_reducible exact cst25 | with_reducible exact cst30 | with_reducible exact cst31 | fail) (by first | with_reducible rfl | with_reducible exact cst1 | with_reducible exact cst0 | with_reducible exact cst2 | with_reducible exact cst3 | with_reducible exact cst4 | with_reducible exact cst5 | with_reducible exact cst6 | with_reducible exact cst7 | with_reducible exact cst8 | with_reducible exact cst14 | with_reducible exact cst15 | with_reducible exact cst25 | with_reducible exact cst30 | with_reducible exact cst31 | fail) ?_ ?_; · (repeat' (first | omega | refine And.intro ?_ ?_ | exact bnd_andl (by omega) | exact bnd_andr (by omega) | refine bnd_or ?_ ?_ | refine bnd_or31 ?_ ?_ | refine bnd_xor ?_ ?_ | refine bnd_xor31 ?_ ?_ | refine bnd_shr ?_ | refine bnd_shl ?_ ?_ | refine bnd_mod ?_ | refine bnd_andl ?_ | fail))) | fail) | (refine SideN.mk ?_ ?_; · first | kernel_rfl | omega | exact List.cons_ne_nil _ _ | (simp; done) | (simp; omega) | exact trivial | assumption | fail) | (refine CallN.id ?_; first | refine CallN.det _ (VDet.wk (hEv _) (by (repeat' (first | exact trivial | refine And.intro ?_ ?_ | exact Wk.refl _ | exact wk_sl _ _ _ | exact wk_sx _ _ | exact wk_nils | refine wk_agg ?_ | refine wk_tup ?_ | fail)); done)) ?_ | refine CallN.det _ (VDet.wk (hF _ _ _ _) (by (repeat' (first | exact trivial | refine And.intro ?_ ?_ | exact Wk.refl _ | exact wk_sl _ _ _ | exact wk_sx _ _ | exact wk_nils | refine wk_agg ?_ | refine wk_tup ?_ | fail)); done)) ?_ | refine CallN.det _ (hH1 _) ?_ | refine CallN.det _ (hH2 _) ?_ | fail) | refine SegN.mk _ (seg_rfl rfl) ?_ | refine DrawN.mk' [] ?_ | fail))); all_goals (conv => whnf)
    all_goals first
      | exact EndN.det trivial (Wk.refl _)
      | (rename_i hx; exact absurd (by rw [be]; rfl) hx)
      | fail
  | false =>
    (repeat' ((conv => whnf); (first | (refine IfN.id ?_; first | refine IfN.not ?_ | refine IfN.tt rfl ?_ | refine IfN.ff rfl ?_ | refine IfN.dec (fun _ => ?_) (fun _ => ?_) | fail) | (refine EqN.id ?_; first | (refine EqN.shlN _ _ (by first | with_reducible rfl | with_reducible exact cst1 | with_reducible exact cst0 | with_reducible exact cst2 | with_reducible exact cst3 | with_reducible exact cst4 | with_reducible exact cst5 | with_reducible exact cst6 | with_reducible exact cst7 | with_reducible exact cst8 | with_reducible exact cst14 | with_reducible exact cst15 | with_reducible exact cst25 | with_reducible exact cst30 | with_reducible exact cst31 | fail) (by first | with_reducible rfl | with_reducible exact cst1 | with_reducible exact cst0 | with_reducible exact cst2 | with_reducible exact cst3 | with_reducible exact cst4 | with_reducible exact cst5 | with_reducible exact cst6 | with_reducible exact cst7 | with_reducible exact cst8 | with_reducible exact cst14 | with_reducible exact cst15 | with_reducible exact cst25 | with_reducible exact cst30 | with_reducible exact cst31 | fail) rfl ?_ ?_ ?_; (· (repeat' (first | omega | refine And.intro ?_ ?_ | exact bnd_andl (by omega) | exact bnd_andr (by omega) | refine bnd_or ?_ ?_ | refine bnd_or31 ?_ ?_ | refine bnd_xor ?_ ?_ | refine bnd_xor31 ?_ ?_ | refine bnd_shr ?_ | refine bnd_shl ?_ ?_ | refine bnd_mod ?_ | refine bnd_andl ?_ | fail))); (· exact hs3)) | (refine EqN.or _ _ (by first | with_reducible rfl | with_reducible exact cst1 | with_reducible exact cst0 | with_reducible exact cst2 | with_reducible exact cst3 | with_reducible exact cst4 | with_reducible exact cst5 | with_reducible exact cst6 | with_reducible exact cst7 | with_reducible exact cst8 | with_reducible exact cst14 | with_reducible exact cst15 | with_reducible exact cst25 | with_reducible exact cst30 | with_reducible exact cst31 | fail) (by first | with_reducible rfl | with_reducible exact cst1 | with_reducible exact cst0 | with_reducible exact cst2 | with_reducible exact cst3 | with_reducible exact cst4 | with_reducible exact cst5 | with_reducible exact cst6 | with_reducible exact cst7 | with_reducible exact cst8 | with_reducible exact cst14 | with_reducible exact cst15 | with_reducible exact cst25 | with_reducible exact cst30 | with_reducible exact cst31 | fail) ?_ ?_; · exact hs4) | (refine EqN.and _ _ (by first | with_reducible rfl | with_reducible exact cst1 | with_reducible exact cst0 | with_reducible exact cst2 | with_reducible exact cst3 | with_reducible exact cst4 | with_reducible exact cst5 | with_reducible exact cst6 | with_reducible exact cst7 | with_reducible exact cst8 | with_reducible exact cst14 | with_reducible exact cst15 | with_reducible exact cst25 | with_reducible exact cst30 | with_reducible exact cst31 | fail) (by first | with_reducible rfl | with_reducible exact cst1 | with_reducible exact cst0 | with_reducible exact cst2 | with_reducible exact cst3 | with_reducible exact cst4 | with_reducible exact cst5 | with_reducible exact cst6 | with_reducible exact cst7 | with_reducible exact cst8 | with_reducible exact cst14 | with_reducible exact cst15 | with_reducible exact cst25 | with_reducible exact cst30 | with_reducible exact cst31 | fail) ?_ ?_; · (repeat' (first | omega | refine And.intro ?_ ?_ | exact bnd_andl (by omega) | exact bnd_andr (by omega) | refine bnd_or ?_ ?_ | refine bnd_or31 ?_ ?_ | refine bnd_xor ?_ ?_ | refine bnd_xor31 ?_ ?_ | refine bnd_shr ?_ | refine bnd_shl ?_ ?_ | refine bnd_mod ?_ | refine bnd_andl ?_ | fail))) | (refine EqN.or _ _ (by first | with_reducible rfl | with_reducible exact cst1 | with_reducible exact cst0 | with_reducible exact cst2 | with_reducible exact cst3 | with_reducible exact cst4 | with_reducible exact cst5 | with_reducible exact cst6 | with_reducible exact cst7 | with_reducible exact cst8 | with_reducible exact cst14 | with_reducible exact cst15 | with_reducible exact cst25 | with_reducible exact cst30 | with_reducible exact cst31 | fail) (by first | with_reducible rfl | with_reducible exact cst1 | with_reducible exact cst0 | with_reducible exact cst2 | with_reducible exact cst3 | with_reducible exact cst4 | with_reducible exact cst5 | with_reducible exact cst6 | with_reducible exact cst7 | with_reducible exact cst8 | with_reducible exact cst14 | with_reducible exact cst15 | with_reducible exact cst25 | with_reducible exact cst30 | with_reducible exact cst31 | fail) ?_ ?_; · (repeat' (first | omega | refine And.intro ?_ ?_ | exact bnd_andl (by omega) | exact bnd_andr (by omega) | refine bnd_or ?_ ?_ | refine bnd_or31 ?_ ?_ | refine bnd_xor ?_ ?_ | refine bnd_xor31 ?_ ?_ | refine bnd_shr ?_ | refine bnd_shl ?_ ?_ | refine bnd_mod ?_ | refine bnd_andl ?_ | fail))) | (refine EqN.shrN _ _ (by first | with_reducible rfl | with_reducible exact cst1 | with_reducible exact cst0 | with_reducible exact cst2 | with_reducible exact cst3 | with_reducible exact cst4 | with_reducible exact cst5 | with_reducible exact cst6 | with_reducible exact cst7 | with_reducible exact cst8 | with_reducible exact cst14 | with_reducible exact cst15 | with_reducible exact cst25 | with_reducible exact cst30 | with_reducible exact cst31 | fail) (by first | with_reducible rfl | with_reducible exact cst1 | with_reducible exact cst0 | with_reducible exact cst2 | with_reducible exact cst3 | with_reducible exact cst4 | with_reducible exact cst5 | with_reducible exact cst6 | with_reducible exact cst7 | with_reducible exact cst8 | with_reducible exact cst14 | with_reducible exact cst15 | with_reducible exact cst25 | with_reducible exact cst30 | with_reducible exact cst31 | fail) rfl ?_ ?_; · (repeat' (first | omega | refine And.intro ?_ ?_ | exact bnd_andl (by omega) | exact bnd_andr (by omega) | refine bnd_or ?_ ?_ | refine bnd_or31 ?_ ?_ | refine bnd_xor ?_ ?_ | refine bnd_xor31 ?_ ?_ | refine bnd_shr ?_ | refine bnd_shl ?_ ?_ | refine bnd_mod ?_ | refine bnd_andl ?_ | fail))) | (refine EqN.shlN _ _ (by first | with_reducible rfl | with_reducible exact cst1 | with_reducible exact cst0 | with_reducible exact cst2 | with_reducible exact cst3 | with_reducible exact cst4 | with_reducible exact cst5 | with_reducible exact cst6 | with_reducible exact cst7 | with_reducible exact cst8 | with_reducible exact cst14 | with_reducible exact cst15 | with_reducible exact cst25 | with_reducible exact cst30 | with_reducible exact cst31 | fail) (by first | with_reducible rfl | with_reducible exact cst1 | with_reducible exact cst0 | with_reducible exact cst2 | with_reducible exact cst3 | with_reducible exact cst4 | with_reducible exact cst5 | with_reducible exact cst6 | with_reducible exact cst7 | with_reducible exact cst8 | with_reducible exact cst14 | with_reducible exact cst15 | with_reducible exact cst25 | with_reducible exact cst30 | with_reducible exact cst31 | fail) rfl ?_ ?_ ?_; (· (repeat' (first | omega | refine And.intro ?_ ?_ | exact bnd_andl (by omega) | exact bnd_andr (by omega) | refine bnd_or ?_ ?_ | refine bnd_or31 ?_ ?_ | refine bnd_xor ?_ ?_ | refine bnd_xor31 ?_ ?_ | refine bnd_shr ?_ | refine bnd_shl ?_ ?_ | refine bnd_mod ?_ | refine bnd_andl ?_ | fail))); (· (repeat' (first | omega | refine And.intro ?_ ?_ | exact bnd_andl (by omega) | exact bnd_andr (by omega) | refine bnd_or ?_ ?_ | refine bnd_or31 ?_ ?_ | refine bnd_xor ?_ ?_ | refine bnd_xor31 ?_ ?_ | refine bnd_shr ?_ | refine bnd_shl ?_ ?_ | refine bnd_mod ?_ | refine bnd_andl ?_ | fail)))) | (refine EqN.addN _ _ (by first | with_reducible rfl | with_reducible exact cst1 | with_reducible exact cst0 | with_reducible exact cst2 | with_reducible exact cst3 | with_reducible exact cst4 | with_reducible exact cst5 | with_reducible exact cst6 | with_reducible exact cst7 | with_reducible exact cst8 | with_reducible exact cst14 | with_reducible exact cst15 | with_reducible exact cst25 | with_reducible exact cst30 | with_reducible exact cst31 | fail) (by first | with_reducible rfl | with_reducible exact cst1 | with_reducible exact cst0 | with_reducible exact cst2 | with_reducible exact cst3 | with_reducible exact cst4 | with_reducible exact cst5 | with_reducible exact cst6 | with_reducible exact cst7 | with_reducible exact cst8 | with_reducible exact cst14 | with_reducible exact cst15 | with_reducible exact cst25 | with_reducible exact cst30 | with_reducible exact cst31 | fail) ?_ ?_; · (repeat' (first | omega | refine And.intro ?_ ?_ | exact bnd_andl (by omega) | exact bnd_andr (by omega) | refine bnd_or ?_ ?_ | refine bnd_or31 ?_ ?_ | refine bnd_xor ?_ ?_ | refine bnd_xor31 ?_ ?_ | refine bnd_shr ?_ | refine bnd_shl ?_ ?_ | refine bnd_mod ?_ | refine bnd_andl ?_ | fail))) | fail) | (refine SideN.mk ?_ ?_; · first | kernel_rfl | omega | exact List.cons_ne_nil _ _ | (simp; done) | (simp; omega) | exact trivial | assumption | fail) | (refine CallN.id ?_; first | refine CallN.det _ (VDet.wk (hEv _) (by (repeat' (first | exact trivial | refine And.intro ?_ ?_ | exact Wk.refl _ | exact wk_sl _ _ _ | exact wk_sx _ _ | exact wk_nils | refine wk_agg ?_ | refine wk_tup ?_ | fail)); done)) ?_ | refine CallN.det _ (VDet.wk (hF _ _ _ _) (by (repeat' (first | exact trivial | refine And.intro ?_ ?_ | exact Wk.refl _ | exact wk_sl _ _ _ | exact wk_sx _ _ | exact wk_nils | refine wk_agg ?_ | refine wk_tup ?_ | fail)); done)) ?_ | refine CallN.det _ (hH1 _) ?_ | refine CallN.det _ (hH2 _) ?_ | fail) | refine SegN.mk _ (seg_rfl rfl) ?_ | refine DrawN.mk' [] ?_ | fail))); all_goals (conv => whnf)
    all_goals first
      | exact EndN.det trivial (Wk.refl _)
      | (rename_i hx; exact absurd (by rw [be]; rfl) hx)
      | fail
end Go.Proofs.YtjflngchbeegcaaGreatDoor
/-! text DZ13 -/
namespace Go.Proofs.YtjflngchbeegcaaGreatDoor
open Go.ChangeShapes Go.WideShapes Go.ChangeAt Go.RowKit Go.Vsi

theorem mrel_of {g : G} {W : World} {b : Nat} (hg : ∀ b o, ¬ g.own b o) : ∀ (l : List AV) (cs : List Value) (o : Nat), LRel g W l cs → (∀ (i : Nat) c, cs[i]? = some c → W.cell? ⟨b, o + i, .none⟩ = some c) → MRel g W l b o
  | [], _, _, _, _ => trivial
  | v :: l, cs, o, h, hc => by
    simp only [LRel] at h
    obtain ⟨c, r, rfl, h1, h2⟩ := h
    refine ⟨⟨c, by simpa using hc 0 c rfl, h1, hg _ _⟩, ?_⟩
    exact mrel_of hg l r (o + 1) h2 fun i c' hi => by
      have := hc (i + 1) c' (by simpa using hi)
      rwa [show o + (i + 1) = o + 1 + i by omega] at this
theorem mone {W : World} {n : String} {gi : Nat} {ty : TypeId} {T : Ty} {D : DataW Unit} {cells : List AV} {g0 : Nat} {t0 : TypeId} {cs0 : Array Value} {f0 : Nat} {p0 : List MemPlace}
    (hg : Tryz.prog.globalNamed n = some gi) (ht : (Tryz.prog.globals[gi]?).map (·.type) = some ty) (hty : TyOk Tryz.prog ty T) (hpl : PlTy T) (hD : ∃ l', DatOf (H := Unit) D l' ∧ l' = cells)
    (hg0 : Tryz.prog.globalNamed n = some g0) (ht0 : (Tryz.prog.globals[g0]?).map (·.type) = some t0) (hv0 : W.var? Tryz.prog n = some cs0) (hd0 : DataW.trod (fun _ => ()) Tryz.prog W 0 (fun _ => true) false f0 t0 cs0.toList = some (D, p0)) : MRel G.none W cells gi 0 := by
  obtain rfl := Option.some.inj (hg.symm.trans hg0)
  obtain rfl := Option.some.inj (ht.symm.trans ht0)
  obtain ⟨l, h1, h2⟩ := trod_dat (g := G.none) _ hpl hty hd0
  obtain ⟨l', hl1, hl2⟩ := hD
  have hll : l = cells := (DatOf.det h1 hl1).trans hl2
  rw [← hll]
  refine mrel_of (fun _ _ h => h) l cs0.toList 0 h2 fun i c hi => ?_
  have := World.var?_cell hg0 hv0 i
  rw [Nat.zero_add, this]
  simpa using hi
theorem gl_of_laid {W : World} (h : laidMetH Tryz.prog [("lyceum/syntax.rows", Rows.laid_lyceum_syntax_rows), ("lyceum/truth.patterns", Rows.laid_lyceum_truth_patterns)] W) : ∀ p ∈ Glob.gl, MRel G.none W p.2 p.1 0 := by
  rw [MakeChecks.laidMetH_plain _ _ _ (by kernel_rfl)] at h
  obtain ⟨ps, ⟨g0, t0, cs0, f0, p0, q0, hg0, ht0, hv0, hd0, ⟨g1, t1, cs1, f1, p1, q1, hg1, ht1, hv1, hd1, _⟩, _⟩, _⟩ := h
  have m0 : MRel G.none W (Tryz.gl[1]).2 1 0 := mone (T := repTy 17 (.pair .bool (.pair .bool (.pair (.int .u8) (.pair (.int .i64) (.pair (.int .i64) .unit)))))) (ty := 165) (by kernel_rfl) (by kernel_rfl) (tyOf_ok Tryz.T_ok 12 165 _ (by kernel_rfl)) (by simp [repTy, PlTy]) ⟨_, by unfold Rows.laid_lyceum_syntax_rows; repeat constructor, by kernel_rfl⟩ hg0 ht0 hv0 hd0
  have m1 : MRel G.none W (Tryz.gl[0]).2 0 0 := mone (T := repTy 6 (.int .u64)) (ty := 140) (by kernel_rfl) (by kernel_rfl) (tyOf_ok Tryz.T_ok 12 140 _ (by kernel_rfl)) (by simp [repTy, PlTy]) ⟨_, by unfold Rows.laid_lyceum_truth_patterns; repeat constructor, by kernel_rfl⟩ hg1 ht1 hv1 hd1
  intro p hp
  have hp0 : p = Tryz.gl[0] ∨ p = Tryz.gl[1] := by
    have : p ∈ Tryz.gl := hp
    simpa [Tryz.gl] using this
  rcases hp0 with rfl | rfl
  · exact m1
  · exact m0
theorem u8_nat {n : Int} (h : (Lit.int .u8 n).wf = true) : ∃ m : Nat, n = m ∧ m ≤ 255 := ⟨n.toNat, by have := wf_u8 h; omega, by have := wf_u8 h; omega⟩
theorem u16_nat {n : Int} (h : (Lit.int .u16 n).wf = true) : ∃ m : Nat, n = m ∧ m ≤ 65535 := ⟨n.toNat, by have := wf_u16 h; omega, by have := wf_u16 h; omega⟩
theorem bytes_nat {l : List Int} (h : l.length ≤ maxLen ∧ ∀ x ∈ l, (Lit.int .u8 x).wf = true) : ∃ c : List Nat, l = c.map (fun n : Nat => (n : Int)) ∧ c.length ≤ 9223372036854775807 ∧ ∀ i, i < c.length → c.getD i 0 ≤ 255 := by
  refine ⟨l.map Int.toNat, ?_, by simpa using maxLen_le h.1, fun i hi => ?_⟩
  · rw [List.map_map]
    refine (List.map_id' l).symm.trans (List.map_congr_left fun x hx => ?_)
    have := wf_u8 (h.2 x hx)
    simp only [Function.comp]
    omega
  · have hi' : i < l.length := by simpa using hi
    have := wf_u8 (h.2 _ (List.getElem_mem hi'))
    simp only [List.getD_eq_getElem?_getD, List.getElem?_map, List.getElem?_eq_getElem hi', Option.map_some, Option.getD_some]
    omega
theorem bytes_len (c : List Nat) : List.length (α := Ty.I (.int .u8)) (c.map fun n : Nat => (n : Int)) = c.length := List.length_map ..
theorem bytes_enc (c : List Nat) : List.flatMap (α := Ty.I (.int .u8)) (Ty.enc (.int .u8)) (c.map fun n : Nat => (n : Int)) = c.flatMap fun n : Nat => [.int .u8 (n : Int)] := by
  induction c with
  | nil => rfl
  | cons x c ih => rw [List.flatMap_cons, ← ih]; rfl
theorem bytes_cast (c : List Nat) (p : AV → Prop) (h : p (.sl none c.length (c.flatMap fun n : Nat => [.int .u8 (n : Int)]))) : p (.sl none (List.length (α := Ty.I (.int .u8)) (c.map fun n : Nat => (n : Int))) (List.flatMap (α := Ty.I (.int .u8)) (Ty.enc (.int .u8)) (c.map fun n : Nat => (n : Int)))) := by
  rw [bytes_len, bytes_enc]; exact h
end Go.Proofs.YtjflngchbeegcaaGreatDoor
