/- A text of the proof: the parts K02z, L02z, M02z, N02z, O02z, P02z, Q02z, R02dz, R02z, S02z, TA02z, TB02z, TC02z, TD02z, TE02z, TF02z, XA02z, UB02z, UC02z, UD02z. -/
import Derived.Test.YtejegcmnddedmaaGreatDoorK7
set_option linter.unusedSimpArgs false
set_option linter.unusedVariables false
/-! text K02z -/
namespace Go.Proofs.YtejegcmnddedmaaGreatDoor
open Go.Vsi
set_option maxHeartbeats 2000000

/-! ### walks over all parts: visitTerms, visit -/
def foldE {S α : Type} (step : S → α → S × Bool) : S → List α → S × Bool
  | s, [] => (s, true)
  | s, x :: l => if (step s x).2 then foldE step (step s x).1 l else ((step s x).1, false)
theorem foldE_cons {S α : Type} (step : S → α → S × Bool) (s : S) (x : α) (l : List α) : foldE step s (x :: l) = if (step s x).2 then foldE step (step s x).1 l else ((step s x).1, false) := rfl
theorem foldE_append {S α : Type} (step : S → α → S × Bool) : ∀ (l m : List α) (s : S), foldE step s (l ++ m) = if (foldE step s l).2 then foldE step (foldE step s l).1 m else ((foldE step s l).1, false)
  | [], m, s => rfl
  | x :: l, m, s => by
    rw [List.cons_append, foldE_cons, foldE_cons]
    split
    · exact foldE_append step l m _
    · rfl
mutual
def tpart : Tm → List Tm
  | .mk v s l => .mk v s l :: tparts l
def tparts : List Tm → List Tm
  | [] => []
  | x :: l => tpart x ++ tparts l
end
theorem tparts_cons (x : Tm) (l : List Tm) : tparts (x :: l) = tpart x ++ tparts l := by rw [tparts.eq_def]
theorem tparts_nil : tparts [] = [] := by rw [tparts.eq_def]
theorem tpart_mk (v : Bool) (s : ByteArray) (l : List Tm) : tpart (.mk v s l) = .mk v s l :: tparts l := by rw [tpart.eq_def]
mutual
def fpart : Fo → List Fo
  | .mk o s l m => .mk o s l m :: fparts m
def fparts : List Fo → List Fo
  | [] => []
  | x :: l => fpart x ++ fparts l
end
theorem fparts_cons (x : Fo) (l : List Fo) : fparts (x :: l) = fpart x ++ fparts l := by rw [fparts.eq_def]
theorem fparts_nil : fparts [] = [] := by rw [fparts.eq_def]
theorem fpart_mk (o : Nat) (s : ByteArray) (l : List Tm) (m : List Fo) : fpart (.mk o s l m) = .mk o s l m :: fparts m := by rw [fpart.eq_def]
mutual
theorem tpart_good : ∀ x : Tm, x.good → ∀ y ∈ tpart x, y.good
  | .mk v s l, h => by
    have h1 := tparts_good l h.2.2
    intro y hy
    rw [tpart_mk] at hy
    rcases List.mem_cons.1 hy with e | hy
    · exact e ▸ h
    · exact h1 y hy
theorem tparts_good : ∀ l : List Tm, Tm.goodL l → ∀ y ∈ tparts l, y.good
  | [], _, y, hy => by rw [tparts_nil] at hy; cases hy
  | x :: l, h, y, hy => by
    have h1 := tpart_good x h.1
    have h2 := tparts_good l h.2
    rw [tparts_cons] at hy
    rcases List.mem_append.1 hy with hy | hy
    · exact h1 y hy
    · exact h2 y hy
end
mutual
theorem fpart_good : ∀ x : Fo, x.good → ∀ y ∈ fpart x, y.good
  | .mk o s l m, h => by
    have h1 := fparts_good m h.2.2.2.2.2
    intro y hy
    rw [fpart_mk] at hy
    rcases List.mem_cons.1 hy with e | hy
    · exact e ▸ h
    · exact h1 y hy
theorem fparts_good : ∀ l : List Fo, Fo.goodL l → ∀ y ∈ fparts l, y.good
  | [], _, y, hy => by rw [fparts_nil] at hy; cases hy
  | x :: l, h, y, hy => by
    have h1 := fpart_good x h.1
    have h2 := fparts_good l h.2
    rw [fparts_cons] at hy
    rcases List.mem_append.1 hy with hy | hy
    · exact h1 y hy
    · exact h2 y hy
end
/-- a function that is called for one part after the other -/
structure Vis {S α : Type} (F : Fn) (cs : List AV) (cell : α → List AV) (ok : α → Prop) (hp : S → Heap) (N : Nat) (I R : S → Prop) (step : S → α → S × Bool) : Prop where
  ri : ∀ s, R s → I s
  len : ∀ s, I s → (hp s).length = N
  low : ∀ s, I s → ∀ B ∈ hp s, B.below N
  pres : ∀ s x, R s → ok x → I (step s x).1 ∧ ((step s x).2 = true → R (step s x).1)
  call : ∀ s x Y, R s → ok x → VFn Tryz.prog F (.agg (cell x) :: cs) (hp s ++ Y) (fun r H' => r = .bool (step s x).2 ∧ H' = hp (step s x).1 ++ Y)
theorem Vis.fold {S α : Type} {F : Fn} {cs : List AV} {cell : α → List AV} {ok : α → Prop} {hp : S → Heap} {N : Nat} {I R : S → Prop} {step : S → α → S × Bool} (h : Vis F cs cell ok hp N I R step) : ∀ (l : List α) (s : S), (∀ x ∈ l, ok x) → R s → I (foldE step s l).1 ∧ ((foldE step s l).2 = true → R (foldE step s l).1)
  | [], s, _, hs => ⟨h.ri s hs, fun _ => hs⟩
  | x :: l, s, hl, hs => by
    have h1 := h.pres s x hs (hl x (List.mem_cons_self ..))
    rw [foldE_cons]
    split
    · rename_i hb
      exact Vis.fold h l _ (fun y hy => hl y (List.mem_cons_of_mem _ hy)) (h1.2 hb)
    · exact ⟨h1.1, fun h => by cases h⟩
theorem Vis.closed {S α : Type} {F : Fn} {cs : List AV} {cell : α → List AV} {ok : α → Prop} {hp : S → Heap} {N : Nat} {I R : S → Prop} {step : S → α → S × Bool} (h : Vis F cs cell ok hp N I R step) {s0 : S} (h0 : I s0) {X : Heap} (hc : Closed (hp s0 ++ X)) (s : S) (hs : I s) : Closed (hp s ++ X) := fun j B hj => by
  have e : (hp s ++ X).length = (hp s0 ++ X).length := by simp [h.len s hs, h.len s0 h0]
  rcases Nat.lt_or_ge j (hp s).length with hlt | hge
  · rw [List.getElem?_append_left hlt] at hj
    exact Blk.below_mono (by simp [h.len s hs]) (h.low s hs B (List.mem_of_getElem? hj))
  · rw [List.getElem?_append_right hge] at hj
    rw [e]
    refine hc (N + (j - N)) B ?_
    rw [List.getElem?_append_right (by rw [h.len s0 h0]; omega), h.len s0 h0]
    rw [h.len s hs] at hj
    rw [show N + (j - N) - N = j - N by omega]
    exact hj
attribute [local irreducible] VW VCall VO bits

def VisT {S : Type} (k : FuncId) (cs : List AV) (hp : S → Heap) (R : S → Prop) (step : S → Tm → S × Bool) (x : Tm) : Prop := ∀ (v : Bool) (t : ByteArray) (l : List Tm), x = .mk v t l → ∀ s X, R s → VCall Tryz.prog 55 [.sl none l.length (l.flatMap Tm.cells), .clo (.func k) [] cs] (hp s ++ X) (fun r H' => r = .bool (foldE step s (tparts l)).2 ∧ H' = hp (foldE step s (tparts l)).1 ++ X)
theorem visTs_c {S : Type} {k : FuncId} {cs : List AV} {hp : S → Heap} {N : Nat} {I R : S → Prop} {step : S → Tm → S × Bool} (hv : Vis (.func k) cs Tm.cells Tm.good hp N I R step) (hcs : cs.length ≤ 2) (l : List Tm) (hl : l.length ≤ 9223372036854775807) (hg : Tm.goodL l) (h : ∀ x ∈ l, VisT k cs hp R step x) (s0 : S) (X : Heap) (hs0 : R s0) :
    VCall Tryz.prog 55 [.sl none l.length (l.flatMap Tm.cells), .clo (.func k) [] cs] (hp s0 ++ X) (fun r H' => r = .bool (foldE step s0 (tparts l)).2 ∧ H' = hp (foldE step s0 (tparts l)).1 ++ X) := by
  have hI0 := hv.ri s0 hs0
  generalize hr : foldE step s0 (tparts l) = r
  refine fn_gen Tryz.E0 Tryz.mx Tryz.func55 (by kernel_rfl) rfl (Nat.le_of_ble_eq_true rfl) rfl fun hcl hbl => ?_
  (repeat' ((conv => whnf); (first | refine DrawN.mk' [] ?_ | fail))); all_goals (conv => whnf)
  have hlen : ∀ s, I s → (hp s ++ X).length = (hp s0 ++ X).length := fun s hs => by simp [hv.len s hs, hv.len s0 hI0]
  refine loop_B Tryz.E0 Tryz.mx (σ := Nat × S) (fun p => p.1 ≤ l.length ∧ R p.2 ∧ foldE step p.2 (tparts (l.drop p.1)) = r) (fun p => l.length - p.1) (fun p => [(9, .v (.int .i64 p.1))]) (fun p => hp p.2 ++ X) (fun _ => []) _ (0, s0) (fun p hp' => hlen _ (hv.ri _ hp'.2.1)) (fun p hp' => hv.closed hI0 hcl _ (hv.ri _ hp'.2.1)) [1, 7, 8] rfl ⟨Nat.zero_le _, hs0, hr⟩ ⟨⟨_, rfl, Wk.refl _⟩, trivial⟩ rfl rfl (fun _ _ => rfl) ?_
  rintro ⟨j, s⟩ ⟨hj, hs, hinv⟩
  simp only at hj hs hinv
  clear hbl
  by_cases hlt : j < l.length
  · obtain ⟨v, t, a, e1⟩ := tm_ex (l.getD j tm0)
    have hgx := Tm.goodL_mem hg _ (getD_memT l j tm0 hlt)
    have hx := h _ (getD_memT l j tm0 hlt) v t a e1
    have q1 : (l.getD j tm0).cells = [.bool v, .str t, .sl none a.length (a.flatMap Tm.cells)] := by rw [e1, Tm.cells_mk]
    rw [drop_cons l tm0 j hlt, tparts_cons, foldE_append, e1, tpart_mk, foldE_cons] at hinv
    rw [e1] at hgx
    have hc := fun Y => hv.call s (.mk v t a) Y hs hgx
    have hp1 := hv.pres s (.mk v t a) hs hgx
    rw [Tm.cells_mk] at hc
    generalize step s (.mk v t a) = st at *
    obtain ⟨s1, b1⟩ := st
    simp only at hc hp1 hinv
    have hc2 : ∀ Y, VFn Tryz.prog (.func k) (.agg [.bool v, .str t, .sl none a.length (a.flatMap Tm.cells)] :: cs) ((hp s ++ X) ++ Y) (fun r H' => r = .bool b1 ∧ H' = (hp s1 ++ X) ++ Y) := fun Y => by
      have := hc (X ++ Y)
      simpa only [List.append_assoc] using this
    cases b1 with
    | false =>
      simp only [Bool.false_eq_true, if_false] at hinv
      subst hinv
      (repeat' ((conv => whnf); (first | (refine IfN.id ?_; first | refine IfN.not ?_ | refine IfN.ff rfl ?_ | refine IfN.dT (by omega) ?_ | fail) | (refine SideN.mk ?_ ?_; · first | kernel_rfl | omega | exact List.cons_ne_nil _ _ | (simp; done) | (simp; omega) | exact trivial | assumption | fail) | refine SegN.nthE tm0 j rfl hlt tm_size q1 ?_ | refine CallN.fix _ _ _ _ (hc2 _) (hlen _ hp1.1) rfl ?_ | refine DrawN.mk' [] ?_ | fail))); all_goals (conv => whnf)
      refine .cut (hlen _ hp1.1) (fun i B hB => .inr ?_) ⟨_, _, .refl _, Wk.refl _, trivial, rfl, rfl⟩
      rw [← hlen _ hp1.1]
      exact hv.closed hI0 hcl _ hp1.1 i B hB
    | true =>
      simp only [if_true] at hinv
      have hR1 := hp1.2 rfl
      have hfo := hv.fold (tparts a) s1 (tparts_good a hgx.2.2) hR1
      have hx2 : ∀ Y, VCall Tryz.prog 55 [.sl none a.length (a.flatMap Tm.cells), .clo (.func k) [] cs] ((hp s1 ++ X) ++ Y) (fun r H' => r = .bool (foldE step s1 (tparts a)).2 ∧ H' = (hp (foldE step s1 (tparts a)).1 ++ X) ++ Y) := fun Y => by
        have := hx s1 (X ++ Y) hR1
        simpa only [List.append_assoc] using this
      generalize foldE step s1 (tparts a) = st at *
      obtain ⟨s2, b2⟩ := st
      simp only at hx2 hfo hinv
      cases b2 with
      | false =>
        simp only [Bool.false_eq_true, if_false] at hinv
        subst hinv
        (repeat' ((conv => whnf); (first | (refine IfN.id ?_; first | refine IfN.not ?_ | refine IfN.tt rfl ?_ | refine IfN.ff rfl ?_ | refine IfN.dT (by omega) ?_ | fail) | (refine SideN.mk ?_ ?_; · first | kernel_rfl | omega | exact List.cons_ne_nil _ _ | (simp; done) | (simp; omega) | exact trivial | assumption | fail) | refine SegN.nthE tm0 j rfl hlt tm_size q1 ?_ | refine CallN.fix _ _ _ _ (hc2 _) (hlen _ hp1.1) rfl ?_ | refine CallN.fix _ _ _ _ (hx2 _) (hlen _ hfo.1) rfl ?_ | refine DrawN.mk' [] ?_ | fail))); all_goals (conv => whnf)
        refine .cut (hlen _ hfo.1) (fun i B hB => .inr ?_) ⟨_, _, .refl _, Wk.refl _, trivial, rfl, rfl⟩
        rw [← hlen _ hfo.1]
        exact hv.closed hI0 hcl _ hfo.1 i B hB
      | true =>
        simp only [if_true] at hinv
        (repeat' ((conv => whnf); (first | (refine IfN.id ?_; first | refine IfN.not ?_ | refine IfN.tt rfl ?_ | refine IfN.dT (by omega) ?_ | fail) | (refine EqN.id ?_; first | (refine EqN.addN _ _ (by first | with_reducible rfl | with_reducible exact cst1 | with_reducible exact cst0 | with_reducible exact cst2 | with_reducible exact cst3 | with_reducible exact cst4 | with_reducible exact cst5 | with_reducible exact cst6 | with_reducible exact cst7 | with_reducible exact cst8 | with_reducible exact cst14 | with_reducible exact cst15 | with_reducible exact cst25 | with_reducible exact cst30 | with_reducible exact cst31 | fail) (by first | with_reducible rfl | with_reducible exact cst1 | with_reducible exact cst0 | with_reducible exact cst2 | with_reducible exact cst3 | with_reducible exact cst4 | with_reducible exact cst5 | with_reducible exact cst6 | with_reducible exact cst7 | with_reducible exact cst8 | with_reducible exact cst14 | with_reducible exact cst15 | with_reducible exact cst25 | with_reducible exact cst30 | with_reducible exact cst31 | fail) ?_ ?_; · (repeat' (first | omega | refine And.intro ?_ ?_ | exact bnd_andl (by omega) | exact bnd_andr (by omega) | refine bnd_or ?_ ?_ | refine bnd_or31 ?_ ?_ | refine bnd_xor ?_ ?_ | refine bnd_xor31 ?_ ?_ | refine bnd_shr ?_ | refine bnd_shl ?_ ?_ | refine bnd_mod ?_ | refine bnd_andl ?_ | fail))) | fail) | (refine SideN.mk ?_ ?_; · first | kernel_rfl | omega | exact List.cons_ne_nil _ _ | (simp; done) | (simp; omega) | exact trivial | assumption | fail) | refine SegN.nthE tm0 j rfl hlt tm_size q1 ?_ | refine CallN.fix _ _ _ _ (hc2 _) (hlen _ hp1.1) rfl ?_ | refine CallN.fix _ _ _ _ (hx2 _) (hlen _ hfo.1) rfl ?_ | refine DrawN.mk' [] ?_ | fail))); all_goals (conv => whnf)
        (refine ⟨⟨(j + 1, s2), ⟨by show j + 1 ≤ l.length; omega, hfo.2 rfl, hinv⟩, by omega, ?_, .inl ⟨rfl, rfl⟩, rfl, _, rfl, ?_⟩⟩; rotate_left 1; (first | exact .inl rfl | exact .inr ⟨by simp [belowRE, below, belowL, tr, tms_below, fos_below], by simp [belowH, Blk.below, belowL, below, tms_below, fos_below]⟩ | fail); (repeat' (first | exact trivial | refine ⟨⟨_, rfl, ?_⟩, ?_⟩ | fail)); all_goals try (first | exact Wk.refl _ | exact Wk.of_eq (congrArg (AV.int _) (by omega)) | fail))
  · rw [List.drop_of_length_le (by omega), tparts_nil] at hinv
    subst hinv
    (repeat' ((conv => whnf); (first | (refine IfN.id ?_; first | refine IfN.dF (by omega) ?_ | fail) | refine DrawN.mk' [] ?_ | fail))); all_goals (conv => whnf)
    refine .cut (hlen _ (hv.ri _ hs)) (fun i B hB => .inr ?_) ⟨_, _, .refl _, Wk.refl _, trivial, rfl, rfl⟩
    rw [← hlen _ (hv.ri _ hs)]
    exact hv.closed hI0 hcl _ (hv.ri _ hs) i B hB
mutual
theorem visT_g {S : Type} {k : FuncId} {cs : List AV} {hp : S → Heap} {N : Nat} {I R : S → Prop} {step : S → Tm → S × Bool} (hv : Vis (.func k) cs Tm.cells Tm.good hp N I R step) (hcs : cs.length ≤ 2) : ∀ x : Tm, x.good → VisT k cs hp R step x
  | .mk v s l, h => by
    have h1 := visTs_g hv hcs l h.2.2
    intro v' s' l' e st X hs
    cases e
    exact visTs_c hv hcs l (maxLen_le h.2.1) h.2.2 h1 st X hs
theorem visTs_g {S : Type} {k : FuncId} {cs : List AV} {hp : S → Heap} {N : Nat} {I R : S → Prop} {step : S → Tm → S × Bool} (hv : Vis (.func k) cs Tm.cells Tm.good hp N I R step) (hcs : cs.length ≤ 2) : ∀ l : List Tm, Tm.goodL l → ∀ x ∈ l, VisT k cs hp R step x
  | [], _, x, h => by cases h
  | y :: l, hg, x, h => by
    have h1 := visT_g hv hcs y hg.1
    have h2 := visTs_g hv hcs l hg.2
    rcases List.mem_cons.1 h with e | h
    · exact e ▸ h1
    · exact h2 x h
end
/-- visitTerms -/
theorem visitTerms_c {S : Type} {k : FuncId} {cs : List AV} {hp : S → Heap} {N : Nat} {I R : S → Prop} {step : S → Tm → S × Bool} (hv : Vis (.func k) cs Tm.cells Tm.good hp N I R step) (hcs : cs.length ≤ 2) (l : List Tm) (hl : l.length ≤ 9223372036854775807) (hg : Tm.goodL l) (s : S) (X : Heap) (hs : R s) :
    VCall Tryz.prog 55 [.sl none l.length (l.flatMap Tm.cells), .clo (.func k) [] cs] (hp s ++ X) (fun r H' => r = .bool (foldE step s (tparts l)).2 ∧ H' = hp (foldE step s (tparts l)).1 ++ X) :=
  visTs_c hv hcs l hl hg (visTs_g hv hcs l hg) s X hs
/-- what holds of a formula and of its parts -/
structure Clo (ok : Fo → Prop) : Prop where
  good : ∀ x, ok x → x.good
  sub : ∀ o s l m, ok (.mk o s l m) → ∀ y ∈ m, ok y
mutual
theorem Clo.part {ok : Fo → Prop} (hk : Clo ok) : ∀ x : Fo, ok x → ∀ y ∈ fpart x, ok y
  | .mk o s l m, h => by
    have h1 := Clo.parts hk m (hk.sub o s l m h)
    intro y hy
    rw [fpart_mk] at hy
    rcases List.mem_cons.1 hy with e | hy
    · exact e ▸ h
    · exact h1 y hy
theorem Clo.parts {ok : Fo → Prop} (hk : Clo ok) : ∀ l : List Fo, (∀ x ∈ l, ok x) → ∀ y ∈ fparts l, ok y
  | [], _, y, hy => by rw [fparts_nil] at hy; cases hy
  | x :: l, h, y, hy => by
    have h1 := Clo.part hk x (h x (List.mem_cons_self ..))
    have h2 := Clo.parts hk l fun z hz => h z (List.mem_cons_of_mem _ hz)
    rw [fparts_cons] at hy
    rcases List.mem_append.1 hy with hy | hy
    · exact h1 y hy
    · exact h2 y hy
end
theorem clo_good : Clo Fo.good := ⟨fun _ h => h, fun _ _ _ _ h => Fo.goodL_mem h.2.2.2.2.2⟩
/-- visit -/
def VisF {S : Type} (F : Fn) (hp : S → Heap) (R : S → Prop) (step : S → Fo → S × Bool) (x : Fo) : Prop := ∀ s X, R s → VCall Tryz.prog 81 [.agg x.cells, .clo F [] []] (hp s ++ X) (fun r H' => r = .bool (foldE step s (fpart x)).2 ∧ H' = hp (foldE step s (fpart x)).1 ++ X)
theorem visF_step {S : Type} {F : Fn} {hp : S → Heap} {N : Nat} {I R : S → Prop} {step : S → Fo → S × Bool} {ok : Fo → Prop} (hk : Clo ok) (hv : Vis F [] Fo.cells ok hp N I R step) (o : Nat) (t : ByteArray) (a : List Tm) (l : List Fo) (hgk : ok (Fo.mk o t a l)) (h : ∀ x ∈ l, VisF F hp R step x) : VisF F hp R step (.mk o t a l) := by
  intro s0 X hs0
  have hI0 := hv.ri s0 hs0
  have hg := hk.good _ hgk
  have hl := maxLen_le hg.2.2.2.2.1
  have hc := fun Y => hv.call s0 (.mk o t a l) Y hs0 hgk
  have hp1 := hv.pres s0 (.mk o t a l) hs0 hgk
  rw [fpart_mk, foldE_cons]
  rw [Fo.cells_mk] at hc ⊢
  generalize step s0 (.mk o t a l) = st at *
  obtain ⟨s1, b1⟩ := st
  simp only at hc hp1 ⊢
  have hlen : ∀ s, I s → (hp s ++ X).length = (hp s0 ++ X).length := fun s hs => by simp [hv.len s hs, hv.len s0 hI0]
  have hc2 : ∀ Y, VFn Tryz.prog F (.agg [.int .u8 o, .str t, .sl none a.length (a.flatMap Tm.cells), .sl none l.length (l.flatMap Fo.cells)] :: []) ((hp s0 ++ X) ++ Y) (fun r H' => r = .bool b1 ∧ H' = (hp s1 ++ X) ++ Y) := fun Y => by
    have := hc (X ++ Y)
    simpa only [List.append_assoc] using this
  cases b1 with
  | false =>
    rw [if_neg (by simp)]
    simp only
    refine fn_gen Tryz.E0 Tryz.mx Tryz.func81 (by kernel_rfl) rfl (Nat.le_of_ble_eq_true rfl) rfl fun hcl hbl => ?_
    (repeat' ((conv => whnf); (first | (refine IfN.id ?_; first | refine IfN.not ?_ | refine IfN.ff rfl ?_ | fail) | refine CallN.fix _ _ _ _ (hc2 _) (hlen _ hp1.1) rfl ?_ | refine DrawN.mk' [] ?_ | fail))); all_goals (conv => whnf)
    refine .cut (hlen _ hp1.1) (fun i B hB => .inr ?_) ⟨_, _, .refl _, Wk.refl _, trivial, rfl, rfl⟩
    rw [← hlen _ hp1.1]
    exact hv.closed hI0 hcl _ hp1.1 i B hB
  | true =>
    rw [if_pos rfl]
    have hR1 := hp1.2 rfl
    generalize hr : foldE step s1 (fparts l) = r
    refine fn_gen Tryz.E0 Tryz.mx Tryz.func81 (by kernel_rfl) rfl (Nat.le_of_ble_eq_true rfl) rfl fun hcl hbl => ?_
    (repeat' ((conv => whnf); (first | (refine IfN.id ?_; first | refine IfN.not ?_ | refine IfN.tt rfl ?_ | fail) | refine CallN.fix _ _ _ _ (hc2 _) (hlen _ hp1.1) rfl ?_ | refine DrawN.mk' [] ?_ | fail))); all_goals (conv => whnf)
    refine loop_B Tryz.E0 Tryz.mx (σ := Nat × S) (fun p => p.1 ≤ l.length ∧ R p.2 ∧ foldE step p.2 (fparts (l.drop p.1)) = r) (fun p => l.length - p.1) (fun p => [(14, .v (.int .i64 p.1))]) (fun p => hp p.2 ++ X) (fun _ => [.box 25 [.int .u8 o, .str t, .sl none a.length (a.flatMap Tm.cells), .sl none l.length (l.flatMap Fo.cells)]]) _ (0, s1) (fun p hp' => hlen _ (hv.ri _ hp'.2.1)) (fun p hp' => hv.closed hI0 hcl _ (hv.ri _ hp'.2.1)) [1, 12, 13] rfl ⟨Nat.zero_le _, hR1, hr⟩ ⟨⟨_, rfl, Wk.refl _⟩, trivial⟩ rfl rfl (fun _ _ => rfl) ?_
    rintro ⟨j, s⟩ ⟨hj, hs, hinv⟩
    simp only at hj hs hinv
    clear hbl
    by_cases hlt : j < l.length
    · obtain ⟨o2, t2, a2, m2, e1⟩ := fo_ex (l.getD j fo0)
      have hgx := hk.sub _ _ _ _ hgk _ (getD_memT l j fo0 hlt)
      have hx := h _ (getD_memT l j fo0 hlt)
      have q1 : (l.getD j fo0).cells = [.int .u8 o2, .str t2, .sl none a2.length (a2.flatMap Tm.cells), .sl none m2.length (m2.flatMap Fo.cells)] := by rw [e1, Fo.cells_mk]
      rw [drop_cons l fo0 j hlt, fparts_cons, foldE_append] at hinv
      have hfo := hv.fold (fpart (l.getD j fo0)) s (hk.part _ hgx) hs
      have hx2 : ∀ Y, VCall Tryz.prog 81 [.agg (l.getD j fo0).cells, .clo F [] []] ((hp s ++ X) ++ Y) (fun r H' => r = .bool (foldE step s (fpart (l.getD j fo0))).2 ∧ H' = (hp (foldE step s (fpart (l.getD j fo0))).1 ++ X) ++ Y) := fun Y => by
        have := hx s (X ++ Y) hs
        simpa only [List.append_assoc] using this
      rw [q1] at hx2
      generalize foldE step s (fpart (l.getD j fo0)) = st at *
      obtain ⟨s2, b2⟩ := st
      simp only at hx2 hfo hinv
      cases b2 with
      | false =>
        simp only [Bool.false_eq_true, if_false] at hinv
        subst hinv
        (repeat' ((conv => whnf); (first | (refine IfN.id ?_; first | refine IfN.not ?_ | refine IfN.ff rfl ?_ | refine IfN.dT (by omega) ?_ | fail) | (refine SideN.mk ?_ ?_; · first | kernel_rfl | omega | exact List.cons_ne_nil _ _ | (simp; done) | (simp; omega) | exact trivial | assumption | fail) | refine SegN.nthE fo0 j rfl hlt fo_size q1 ?_ | refine CallN.fix _ _ _ _ (hx2 _) (hlen _ hfo.1) rfl ?_ | refine DrawN.mk' [] ?_ | fail))); all_goals (conv => whnf)
        refine .cut (hlen _ hfo.1) (fun i B hB => .inr ?_) ⟨_, _, .refl _, Wk.refl _, trivial, rfl, rfl⟩
        rw [← hlen _ hfo.1]
        exact hv.closed hI0 hcl _ hfo.1 i B hB
      | true =>
        simp only [if_true] at hinv
        (repeat' ((conv => whnf); (first | (refine IfN.id ?_; first | refine IfN.not ?_ | refine IfN.tt rfl ?_ | refine IfN.dT (by omega) ?_ | fail) | (refine EqN.id ?_; first | (refine EqN.addN _ _ (by first | with_reducible rfl | with_reducible exact cst1 | with_reducible exact cst0 | with_reducible exact cst2 | with_reducible exact cst3 | with_reducible exact cst4 | with_reducible exact cst5 | with_reducible exact cst6 | with_reducible exact cst7 | with_reducible exact cst8 | with_reducible exact cst14 | with_reducible exact cst15 | with_reducible exact cst25 | with_reducible exact cst30 | with_reducible exact cst31 | fail) (by first | with_reducible rfl | with_reducible exact cst1 | with_reducible exact cst0 | with_reducible exact cst2 | with_reducible exact cst3 | with_reducible exact cst4 | with_reducible exact cst5 | with_reducible exact cst6 | with_reducible exact cst7 | with_reducible exact cst8 | with_reducible exact cst14 | with_reducible exact cst15 | with_reducible exact cst25 | with_reducible exact cst30 | with_reducible exact cst31 | fail) ?_ ?_; · (repeat' (first | omega | refine And.intro ?_ ?_ | exact bnd_andl (by omega) | exact bnd_andr (by omega) | refine bnd_or ?_ ?_ | refine bnd_or31 ?_ ?_ | refine bnd_xor ?_ ?_ | refine bnd_xor31 ?_ ?_ | refine bnd_shr ?_ | refine bnd_shl ?_ ?_ | refine bnd_mod ?_ | refine bnd_andl ?_ | fail))) | fail) | (refine SideN.mk ?_ ?_; · first | kernel_rfl | omega | exact List.cons_ne_nil _ _ | (simp; done) | (simp; omega) | exact trivial | assumption | fail) | refine SegN.nthE fo0 j rfl hlt fo_size q1 ?_ | refine CallN.fix _ _ _ _ (hx2 _) (hlen _ hfo.1) rfl ?_ | refine DrawN.mk' [] ?_ | fail))); all_goals (conv => whnf)
        (refine ⟨⟨(j + 1, s2), ⟨by show j + 1 ≤ l.length; omega, hfo.2 rfl, hinv⟩, by omega, ?_, .inl ⟨rfl, rfl⟩, rfl, _, rfl, ?_⟩⟩; rotate_left 1; (first | exact .inl rfl | exact .inr ⟨by simp [belowRE, below, belowL, tr, tms_below, fos_below], by simp [belowH, Blk.below, belowL, below, tms_below, fos_below]⟩ | fail); (repeat' (first | exact trivial | refine ⟨⟨_, rfl, ?_⟩, ?_⟩ | fail)); all_goals try (first | exact Wk.refl _ | exact Wk.of_eq (congrArg (AV.int _) (by omega)) | fail))
    · rw [List.drop_of_length_le (by omega), fparts_nil] at hinv
      subst hinv
      (repeat' ((conv => whnf); (first | (refine IfN.id ?_; first | refine IfN.dF (by omega) ?_ | fail) | refine DrawN.mk' [] ?_ | fail))); all_goals (conv => whnf)
      refine .cut (hlen _ (hv.ri _ hs)) (fun i B hB => .inr ?_) ⟨_, _, .refl _, Wk.refl _, trivial, rfl, rfl⟩
      rw [← hlen _ (hv.ri _ hs)]
      exact hv.closed hI0 hcl _ (hv.ri _ hs) i B hB
mutual
theorem visF_g {S : Type} {F : Fn} {hp : S → Heap} {N : Nat} {I R : S → Prop} {step : S → Fo → S × Bool} {ok : Fo → Prop} (hk : Clo ok) (hv : Vis F [] Fo.cells ok hp N I R step) : ∀ x : Fo, ok x → VisF F hp R step x
  | .mk o s l m, h => visF_step hk hv o s l m h (visFs_g hk hv m (hk.sub _ _ _ _ h))
theorem visFs_g {S : Type} {F : Fn} {hp : S → Heap} {N : Nat} {I R : S → Prop} {step : S → Fo → S × Bool} {ok : Fo → Prop} (hk : Clo ok) (hv : Vis F [] Fo.cells ok hp N I R step) : ∀ l : List Fo, (∀ x ∈ l, ok x) → ∀ x ∈ l, VisF F hp R step x
  | [], _, x, h => by cases h
  | y :: l, hg, x, h => by
    have h1 := visF_g hk hv y (hg y (List.mem_cons_self ..))
    have h2 := visFs_g hk hv l fun z hz => hg z (List.mem_cons_of_mem _ hz)
    rcases List.mem_cons.1 h with e | h
    · exact e ▸ h1
    · exact h2 x h
end
end Go.Proofs.YtejegcmnddedmaaGreatDoor
/-! text L02z -/
namespace Go.Proofs.YtejegcmnddedmaaGreatDoor
open Go.Vsi
set_option maxHeartbeats 2000000

/-! ### loops over all parts of a formula -/
def foldB {S α : Type} (step : S → α → S × Option Code) : S → List α → S × Option Code
  | s, [] => (s, none)
  | s, x :: l => if (step s x).2.isNone then foldB step (step s x).1 l else step s x
theorem foldB_cons {S α : Type} (step : S → α → S × Option Code) (s : S) (x : α) (l : List α) : foldB step s (x :: l) = if (step s x).2.isNone then foldB step (step s x).1 l else step s x := rfl
def stepE {S α : Type} (step : S → α → S × Option Code) (p : S × Option Code) (x : α) : (S × Option Code) × Bool := (step p.1 x, (step p.1 x).2.isNone)
theorem foldE_B {S α : Type} (step : S → α → S × Option Code) : ∀ (l : List α) (s : S), foldE (stepE step) (s, none) l = (foldB step s l, (foldB step s l).2.isNone)
  | [], s => rfl
  | x :: l, s => by
    rw [foldE_cons, foldB_cons]
    show (if (step s x).2.isNone = true then foldE (stepE step) (step s x) l else (step s x, false)) = _
    by_cases h : (step s x).2.isNone = true
    · rw [if_pos h, if_pos h]
      have : step s x = ((step s x).1, none) := by
        rw [Option.isNone_iff_eq_none] at h
        exact Prod.ext rfl h
      rw [this]
      exact foldE_B step l _
    · rw [if_neg h, if_neg h]
      simp only [Bool.not_eq_true] at h
      rw [h]
theorem set_loc3 {base loc X : Heap} {j : Nat} {B B' : Blk} (h : lget loc j = some B') : ((base ++ loc) ++ X).set (base.length + j) B = (base ++ loc.set j B) ++ X := by
  have hj : j < loc.length := by
    rw [lget_eq] at h
    exact (List.getElem?_eq_some_iff.1 h).1
  rw [List.set_append_left _ _ (by simp; omega), set_loc']
abbrev lpB (n0 : Nat) (bk : RE) (N : FN) (ps : Array Tmp) (assign body : Code) (st : LoopState) (jp : Option Code) : Blk := .loop st jp (trE n0 bk) ⟨N.n, ps, assign, body⟩
/-- how the loop stands behind a round -/
def stOf : Option Code → LoopState
  | none => .ready
  | some _ => .done
abbrev rndW (n0 k : Nat) (bk : RE) (N : FN) (ps : Array Tmp) (assign body : Code) (H : Heap) (vs1 : List AV) (R : AV → Heap → Prop) : Prop :=
  wpC Tryz.prog Tryz.kn Tryz.T ⟨N.n, some (n0 + k)⟩ H.length assign (fun e top bot base k' loc => match e with
      | .normal => RndB Tryz.prog Tryz.kn Tryz.T H (n0 + k) (trE n0 bk) ⟨N.n, ps, assign, body⟩ R top bot base k' loc
      | _ => False) (parRE ps.toList vs1 (reB n0 bk)) [] H 0 []
theorem get_lo3 {base A Y : Heap} {j : Nat} (h : j < base.length) : ((base ++ A) ++ Y)[j]? = base[j]? := by
  rw [List.append_assoc, List.getElem?_append_left h]
theorem get_hi3 {base A Y : Heap} {j n : Nat} (hn : base.length + A.length = n) (h : n ≤ j) : ((base ++ A) ++ Y)[j]? = Y[j - n]? := by
  rw [List.getElem?_append_right (by rw [List.length_append]; omega), List.length_append, hn]
theorem rnd_end {base l l' Y : Heap} {k : Nat} {bk : RE} {N : FN} {ps : Array Tmp} {assign body : Code} {e : Exit} {jp : Option Code} {jp' : Option Code} {b : Bool} {st : LoopState} (hx : RndEx e jp' b st) (hk : l.length = k) (hk' : l'.length = k) (hb : ∀ B ∈ l', B.below (base.length + (k + 1))) (bbk : belowRE base.length (base.length + (k + 1)) bk) :
    RndEnd ((base ++ (l ++ [lpB base.length bk N ps assign body .ready none])) ++ Y) (base.length + k) (trE base.length bk) ⟨N.n, ps, assign, body⟩ (fun r H' => r = .bool b ∧ H' = (base ++ (l' ++ [lpB base.length bk N ps assign body st jp'])) ++ Y) e ((base ++ (l' ++ [lpB base.length bk N ps assign body .busy jp])) ++ Y) := by
  subst hk
  have hg : lget (l' ++ [lpB base.length bk N ps assign body .busy jp]) l.length = some (lpB base.length bk N ps assign body .busy jp) := by
    rw [lget_eq, List.getElem?_append_right (by omega), hk', Nat.sub_self]
    rfl
  refine ⟨⟨jp, jp', b, st, _, hx, at_loc' Y hg, set_loc3 hg, by simp [hk'], fun j B hj => ?_, rfl, ?_⟩⟩
  · have hs : (l' ++ [lpB base.length bk N ps assign body .busy jp]).set l.length (lpB base.length bk N ps assign body st jp') = l' ++ [lpB base.length bk N ps assign body st jp'] := by
      rw [List.set_append_right _ _ (by omega), hk', Nat.sub_self]
      rfl
    rw [hs] at hj
    rcases Nat.lt_or_ge j base.length with h1 | h1
    · left
      exact (get_lo3 h1).trans ((get_lo3 h1).symm.trans hj)
    · rcases Nat.lt_or_ge j (base.length + (l.length + 1)) with h2 | h2
      · right
        rw [List.getElem?_append_left (by simp [hk']; omega), List.getElem?_append_right h1] at hj
        have hm := List.mem_of_getElem? hj
        have q : B.below (base.length + (l.length + 1)) := by
          rcases List.mem_append.1 hm with h | h
          · exact hb B h
          · simp only [List.mem_singleton] at h
            subst h
            exact get_below bbk
        exact Blk.below_mono (by simp only [List.length_append, List.length_singleton]; omega) q
      · left
        exact (get_hi3 (by simp) h2).trans ((get_hi3 (by simp [hk']) h2).symm.trans hj)
  · have hs : (l' ++ [lpB base.length bk N ps assign body .busy jp]).set l.length (lpB base.length bk N ps assign body st jp') = l' ++ [lpB base.length bk N ps assign body st jp'] := by
      rw [List.set_append_right _ _ (by omega), hk', Nat.sub_self]
      rfl
    rw [hs]
attribute [local irreducible] VW VCall VO bits

theorem walk_c (f : Fo) (H : Heap) : VCall Tryz.prog 53 [.agg f.cells] H (fun r H' => r = .clo (.func 80) [] [.ptr (H.length + 0) 0] ∧ H' = H ++ [.box 25 f.cells]) := by
  obtain ⟨o, s, l, m, rfl⟩ := fo_ex f
  rw [Fo.cells_mk]
  refine fn_gen Tryz.E0 Tryz.mx Tryz.func53 (by kernel_rfl) rfl (Nat.le_of_ble_eq_true rfl) rfl fun hcl hbl => ?_
  (repeat' ((conv => whnf); (first | refine DrawN.mk' [] ?_ | fail))); all_goals (conv => whnf)
  exact EndN.keep _ (Wk.refl _) ⟨rfl, rfl⟩
theorem walk1_c {S : Type} {F : Fn} {hp : S → Heap} {N : Nat} {I R : S → Prop} {step : S → Fo → S × Bool} {ok : Fo → Prop} (hk : Clo ok) (hv : Vis F [] Fo.cells ok hp N I R step) (f : Fo) (hg : ok f) (s : S) (hs : R s) (i : Nat) (hi : (hp s)[i]? = some (.box 25 f.cells)) :
    VCall Tryz.prog 80 [.clo F [] [], .ptr i 0] (hp s) (fun _ H' => H' = hp (foldE step s (fpart f)).1) := by
  have h := visF_g hk hv f hg s [] hs
  have hf := hv.fold (fpart f) s (hk.part f hg) hs
  have hl1 := hv.len s (hv.ri s hs)
  have hl2 := hv.len _ hf.1
  have hc0 := hv.low _ hf.1
  generalize foldE step s (fpart f) = st at *
  obtain ⟨s2, b⟩ := st
  simp only at h hf hl2 hc0 ⊢
  obtain ⟨o, t, a, m, rfl⟩ := fo_ex f
  rw [Fo.cells_mk] at h hi
  have hle : (hp s2).length = (hp s).length := by rw [hl1, hl2]
  refine fn_gen Tryz.E0 Tryz.mx Tryz.func80 (by kernel_rfl) rfl (Nat.le_of_ble_eq_true rfl) rfl fun hcl hbl => ?_
  (repeat' ((conv => whnf); (first | refine CallN.fix _ _ _ _ h hle rfl ?_ | (refine PtrN.id ?_; first | refine PtrN.base _ (by (repeat' (first | assumption | exact at_loc' _ rfl | exact at_loc0 rfl | refine at_set (B' := ?_) ?_ | refine at_base' ?_ | fail))) ?_ | fail) | refine DrawN.mk' [] ?_ | fail))); all_goals (conv => whnf)
  refine .cut hle (fun j B hB => .inr ?_) ⟨_, _, .refl _, Wk.refl _, by simp [below, belowL], rfl⟩
  rw [hl1]
  exact hc0 B (List.mem_of_getElem? hB)
/-- a loop over the parts of a formula: S: what the function's own memory stands for -/
theorem range_walk {S : Type} {ok : Fo → Prop} (hk : Clo ok) (f : Fo) (hg : ok f) {N : FN} {n0 : Nat} {ps : Array Tmp} {assign body : Code} {Q : QR} {top bot : RE} {base : Heap} {k : Nat} {loc : Heap}
    (hbase : base.length = n0) (hcl : Closed base) (hN : N.r = none) (ts : List Nat) (bk : RE) (hbk : pickO ts top bot = some bk)
    (hps : ∀ p ∈ ps.toList, p < N.n) (hps1 : ps.size = 1) (bbk : belowRE n0 (n0 + (k + 1)) bk)
    (ls : S → Heap) (I R : S → Prop) (stepB : S → Fo → S × Option Code) (s0 : S) (hs0 : R s0) (h0 : loc = ls s0) (iw : Nat) (hiw : lget (ls s0) iw = some (.box 25 f.cells))
    (ri : ∀ s, R s → I s) (lens : ∀ s, I s → (ls s).length = k) (bls : ∀ s, I s → ∀ B ∈ ls s, B.below (n0 + (k + 1)))
    (pres : ∀ s x, R s → ok x → I (stepB s x).1 ∧ ((stepB s x).2 = none → R (stepB s x).1))
    (hy : ∀ s x Y, R s → ok x → rndW n0 k bk N ps assign body ((base ++ (ls s ++ [lpB n0 bk N ps assign body .ready none])) ++ Y) [.agg x.cells] (fun r H' => r = .bool (stepB s x).2.isNone ∧ H' = (base ++ (ls (stepB s x).1 ++ [lpB n0 bk N ps assign body (stOf (stepB s x).2) (stepB s x).2])) ++ Y))
    (hQ : jumpN Q top bot base (k + 1) (ls (foldB stepB s0 (fpart f)).1 ++ [.dead]) (foldB stepB s0 (fpart f)).2) :
    RangeN Tryz.prog N n0 80 [] [.ptr (n0 + iw) 0] ps assign body Q top bot base k loc := by
  subst hbase h0
  let hp : S × Option Code → Heap := fun p => base ++ (ls p.1 ++ [lpB base.length bk N ps assign body (stOf p.2) p.2])
  have hloopb : ∀ st jp, (lpB base.length bk N ps assign body st jp).below (base.length + (k + 1)) := fun _ _ => get_below bbk
  have hk0 : (ls s0).length = k := lens s0 (ri s0 hs0)
  have hv : Vis (.yield (base.length + k)) [] Fo.cells ok hp (base.length + (k + 1)) (fun p => I p.1) (fun p => R p.1 ∧ p.2 = none) (stepE stepB) := by
    refine ⟨fun p h => ri _ h.1, fun p h => by simp [hp, lens _ h], fun p h B hB => ?_, fun p x h hx => ?_, fun p x Y h hx => ?_⟩
    · rcases List.mem_append.1 hB with hB | hB
      · obtain ⟨j, hj⟩ := List.getElem?_of_mem hB
        exact Blk.below_mono (by omega) (hcl j B hj)
      · rcases List.mem_append.1 hB with hB | hB
        · exact bls _ h B hB
        · simp only [List.mem_singleton] at hB
          subst hB
          exact hloopb _ _
    · have := pres p.1 x h.1 hx
      refine ⟨this.1, fun hb => ?_⟩
      have hb : (stepB p.1 x).2.isNone = true := hb
      rw [Option.isNone_iff_eq_none] at hb
      exact ⟨this.2 hb, hb⟩
    · obtain ⟨s, jp⟩ := p
      obtain ⟨h1, h2⟩ := h
      simp only at h1 h2
      subst h2
      have h3 := hy s x Y h1 hx
      have hi : ((base ++ (ls s ++ [lpB base.length bk N ps assign body .ready none])) ++ Y)[base.length + k]? = some (lpB base.length bk N ps assign body .ready none) := by
        refine at_loc' Y ?_
        rw [lget_eq, List.getElem?_append_right (by rw [lens s (ri s h1)]; exact Nat.le_refl _), lens s (ri s h1), Nat.sub_self]
        rfl
      exact round_R Tryz.E0 Tryz.mx hi hps (by simp [hps1]) h3
  have hit := walk1_c hk hv f hg (s0, none) ⟨hs0, rfl⟩ (base.length + iw) (by
    show (base ++ (ls s0 ++ [_]))[base.length + iw]? = _
    refine at_loc0 ?_
    rw [lget_eq] at hiw ⊢
    rw [List.getElem?_append_left (List.getElem?_eq_some_iff.1 hiw).1]
    exact hiw)
  rw [foldE_B] at hit
  have hI := hv.fold (fpart f) (s0, none) (hk.part f hg) ⟨hs0, rfl⟩
  rw [foldE_B] at hI
  generalize foldB stepB s0 (fpart f) = res at *
  obtain ⟨s2, jp2⟩ := res
  simp only at hit hI hQ
  have hl2 := lens s2 hI.1
  refine .mk ⟨(fun i hi => by rw [hN] at hi; cases hi), ts, bk, (fun _ H' => H' = hp (s2, jp2)), hbk, ?_, ?_⟩
  · rw [List.append_assoc]
    exact hit
  · rintro r H' rfl
    refine ⟨base, k + 1, ls s2 ++ [lpB base.length bk N ps assign body (stOf jp2) jp2], stOf jp2, jp2, ls s2 ++ [.dead], rfl, by simp [hl2], rfl, ?_, by cases jp2 <;> simp [stOf], ?_, hQ⟩
    · rw [lget_eq, List.getElem?_append_right (by omega), hl2, Nat.sub_self]; rfl
    · rw [lset_some (by simp [hl2])]
      rw [List.set_append_right _ _ (by omega), hl2, Nat.sub_self]
      rfl
end Go.Proofs.YtejegcmnddedmaaGreatDoor
/-! text M02z -/
namespace Go.Proofs.YtejegcmnddedmaaGreatDoor
open Go.Vsi
set_option maxHeartbeats 2000000

/-! ### syntax.count -/
def targs : Fo → List Tm
  | .mk _ _ l _ => l
def stepT (lim : Int) (n : Int) (_ : Tm) : Int × Bool := (wI (n + 1), decide (wI (n + 1) ≤ lim))
def cntT (lim n : Int) (l : List Tm) : Int := (foldE (stepT lim) (wI (n + 1)) (tparts l)).1
def stepC (lim : Int) (n : Int) (x : Fo) : Int × Option Code := (cntT lim n (targs x), if lim < cntT lim n (targs x) then some (.exit 0) else none)
def cntF (lim : Int) (f : Fo) : Int := (foldB (stepC lim) 0 (fpart f)).1
attribute [local irreducible] VW VCall VO bits
theorem count1_c (x : Tm) (n lim : Int) (H : Heap) (i j : Nat) (hi : H[i]? = some (.box 3 [.int .i64 n])) (hj : H[j]? = some (.box 3 [.int .i64 lim])) (hij : i ≠ j) :
    VCall Tryz.prog 85 [.agg x.cells, .ptr i 0, .ptr j 0] H (setR H i (.box 3 [.int .i64 (wI (n + 1))]) (.bool (decide (wI (n + 1) ≤ lim)))) := by
  obtain ⟨v, s, l, rfl⟩ := tm_ex x
  rw [Tm.cells_mk]
  have hj2 : (H.set i (.box 3 [.int .i64 (wI (n + 1))]))[j]? = some (.box 3 [.int .i64 lim]) := by
    rw [List.getElem?_set, if_neg hij]; exact hj
  have hi2 : (H.set i (.box 3 [.int .i64 (wI (n + 1))]))[i]? = some (.box 3 [.int .i64 (wI (n + 1))]) := at_set hi
  refine fn_gen Tryz.E0 Tryz.mx Tryz.func85 (by kernel_rfl) rfl (Nat.le_of_ble_eq_true rfl) rfl fun hcl hbl => ?_
  (repeat' ((conv => whnf); (first | (refine EqN.id ?_; first | refine EqN.mk (wI (n + 1)) rfl ?_ | fail) | refine SetN.mk _ rfl ?_ | (refine PtrN.id ?_; first | refine PtrN.base _ (by (repeat' (first | assumption | exact at_loc' _ rfl | exact at_loc0 rfl | refine at_set (B' := ?_) ?_ | refine at_base' ?_ | fail))) ?_ | fail) | refine DrawN.mk' [] ?_ | fail))); all_goals (conv => whnf)
  exact EndN.setB (by simp [Blk.below, belowL, below]) trivial (Wk.refl _)
theorem count_vis (base : Heap) (ls : Int → Heap) (a b N : Nat) (lim : Int) (hN : ∀ n, (base ++ ls n).length = N) (low : ∀ n, ∀ B ∈ base ++ ls n, B.below N) (ha : ∀ n, lget (ls n) a = some (.box 3 [.int .i64 n])) (hb : ∀ n, lget (ls n) b = some (.box 3 [.int .i64 lim])) (hab : a ≠ b) (hset : ∀ n m, (ls n).set a (.box 3 [.int .i64 m]) = ls m) :
    Vis (.func 85) [.ptr (base.length + a) 0, .ptr (base.length + b) 0] Tm.cells Tm.good (fun n => base ++ ls n) N (fun _ => True) (fun _ => True) (stepT lim) := by
  refine ⟨fun _ _ => trivial, fun n _ => hN n, fun n _ => low n, fun _ _ _ _ => ⟨trivial, fun _ => trivial⟩, fun n x Y _ _ => ?_⟩
  have h := count1_c x n lim ((base ++ ls n) ++ Y) (base.length + a) (base.length + b) (at_loc' Y (ha n)) (at_loc' Y (hb n)) (by omega)
  refine VCall.mono h ?_
  rintro r H' ⟨rfl, rfl⟩
  refine ⟨rfl, ?_⟩
  rw [set_loc3 (ha n), hset]
  rfl
theorem cntF_jp (lim : Int) : ∀ (l : List Fo) (n : Int), (foldB (stepC lim) n l).2 = none ∨ (foldB (stepC lim) n l).2 = some (.exit 0)
  | [], n => .inl rfl
  | x :: l, n => by
    rw [foldB_cons]
    split
    · exact cntF_jp lim l _
    · show (if lim < cntT lim n (targs x) then some (Code.exit 0) else none) = none ∨ _
      split
      · right; unfold stepC; simp [*]
      · left; rfl
theorem count_c (f : Fo) (hg : f.good) (lim : Int) (H : Heap) : VDet Tryz.prog 57 [.agg f.cells, .int .i64 lim] H (.int .i64 (cntF lim f)) := by
  have hw := walk_c f (H ++ [.box 25 f.cells, .box 3 [.int .i64 lim], .box 3 [.int .i64 0]])
  rw [List.length_append] at hw
  have hfb := fun n => fo_below n f
  unfold cntF
  obtain ⟨fc, hfc⟩ : ∃ fc, fc = f.cells := ⟨_, rfl⟩
  have hce : ∃ o s ln lc mn mc, f.cells = [.int .u8 (o : Nat), .str s, .sl none ln lc, .sl none mn mc] := by
    obtain ⟨o, s, l, m, rfl⟩ := fo_ex f
    rw [Fo.cells_mk]
    exact ⟨_, _, _, _, _, _, rfl⟩
  obtain ⟨o, s, ln, lc, mn, mc, hce⟩ := hce
  rw [hce] at hw hfb ⊢
  refine fn_det Tryz.E0 Tryz.mx Tryz.func57 (by kernel_rfl) rfl (Nat.le_of_ble_eq_true rfl) rfl fun hcl hbl => ?_
  (repeat' ((conv => whnf); (first | refine CallN.grow _ _ _ 4 hw rfl rfl rfl ?_ | refine DrawN.mk' [] ?_ | fail))); all_goals (conv => whnf)
  refine range_walk clo_good f hg rfl hcl rfl [3, 5] _ rfl (by decide) rfl (by simp [belowRE, below, tr])
    (fun n : Int => [.box 25 [.int .u8 o, .str s, .sl none ln lc, .sl none mn mc], .box 3 [.int .i64 lim], .box 3 [.int .i64 n], .box 25 [.int .u8 o, .str s, .sl none ln lc, .sl none mn mc]]) (fun _ => True) (fun _ => True) (stepC lim) 0 trivial rfl 3 (by rw [hce]; rfl) (fun _ _ => trivial) (fun _ _ => rfl) ?_ (fun _ _ _ _ => ⟨trivial, fun _ => trivial⟩) ?_ ?_
  · intro n _ B hB
    have := hfb (H.length + (4 + 1))
    simp only [List.mem_cons, List.not_mem_nil, or_false] at hB
    rcases hB with rfl | rfl | rfl | rfl
    · exact this
    · simp [Blk.below, belowL, below]
    · simp [Blk.below, belowL, below]
    · exact this
  · intro n x Y _ hx
    obtain ⟨o2, t2, a2, m2, rfl⟩ := fo_ex x
    rw [Fo.cells_mk]
    (repeat' ((conv => whnf); (first | refine DrawN.mk' [] ?_ | fail))); all_goals (conv => whnf)
    refine ⟨none, _, at_loc' Y rfl, set_loc3 rfl, ?_⟩
    generalize hB : Blk.loop LoopState.busy none _ _ = B
    have hBb : B.below (H.length + 5) := hB ▸ get_below (by simp [belowRE, below, tr])
    have hv := count_vis H (fun n => [.box 25 [.int .u8 o, .str s, .sl none ln lc, .sl none mn mc], .box 3 [.int .i64 lim], .box 3 [.int .i64 n], .box 25 [.int .u8 o, .str s, .sl none ln lc, .sl none mn mc], B]) 2 1 (H.length + 5) lim (fun _ => by simp) (fun n C hC => by
      rcases List.mem_append.1 hC with h | h
      · obtain ⟨j, hj⟩ := List.getElem?_of_mem h
        exact Blk.below_mono (by omega) (hcl j C hj)
      · have := hfb (H.length + 5)
        simp only [List.mem_cons, List.not_mem_nil, or_false] at h
        rcases h with rfl | rfl | rfl | rfl | rfl
        · exact this
        · simp [Blk.below, belowL, below]
        · simp [Blk.below, belowL, below]
        · exact this
        · exact hBb) (fun _ => rfl) (fun _ => rfl) (by decide) (fun _ _ => rfl)
    have hvt := fun X => visitTerms_c hv (by simp) a2 (maxLen_le hx.2.2.1) hx.2.2.2.1 (wI (n + 1)) X trivial
    have hstep : stepC lim n (Fo.mk o2 t2 a2 m2) = (cntT lim n a2, if lim < cntT lim n a2 then some (.exit 0) else none) := rfl
    rw [hstep]
    have hn2 : (foldE (stepT lim) (wI (n + 1)) (tparts a2)).1 = cntT lim n a2 := rfl
    rw [hn2] at hvt
    generalize (foldE (stepT lim) (wI (n + 1)) (tparts a2)).2 = b2 at hvt
    generalize cntT lim n a2 = n2 at hvt ⊢
    have hvt2 : ∀ Z : Heap, VCall Tryz.prog 55 [.sl none a2.length (a2.flatMap Tm.cells), .clo (.func 85) [] [.ptr (H.length + 2) 0, .ptr (H.length + 1) 0]] (((H ++ [.box 25 [.int .u8 o, .str s, .sl none ln lc, .sl none mn mc], .box 3 [.int .i64 lim], .box 3 [.int .i64 (wI (n + 1))], .box 25 [.int .u8 o, .str s, .sl none ln lc, .sl none mn mc], B]) ++ Y) ++ Z) (fun r H' => r = .bool b2 ∧ H' = ((H ++ [.box 25 [.int .u8 o, .str s, .sl none ln lc, .sl none mn mc], .box 3 [.int .i64 lim], .box 3 [.int .i64 n2], .box 25 [.int .u8 o, .str s, .sl none ln lc, .sl none mn mc], B]) ++ Y) ++ Z) := fun Z => by
      have := hvt (Y ++ Z)
      simpa only [List.append_assoc] using this
    clear hvt
    have hbl2 : ∀ C ∈ ([.box 25 [.int .u8 o, .str s, .sl none ln lc, .sl none mn mc], .box 3 [.int .i64 lim], .box 3 [.int .i64 n2], .box 25 [.int .u8 o, .str s, .sl none ln lc, .sl none mn mc]] : Heap), C.below (H.length + (4 + 1)) := by
      intro C hC
      have := hfb (H.length + (4 + 1))
      simp only [List.mem_cons, List.not_mem_nil, or_false] at hC
      rcases hC with rfl | rfl | rfl | rfl
      · exact this
      · simp [Blk.below, belowL, below]
      · simp [Blk.below, belowL, below]
      · exact this
    by_cases hlt : lim < n2
    · rw [if_pos hlt]
      (repeat' ((conv => whnf); (first | refine SetN.mk _ (set_loc3 rfl) ?_ | (refine IfN.id ?_; first | refine IfN.dT (by omega) ?_ | fail) | (refine EqN.id ?_; first | refine EqN.mk (wI (n + 1)) rfl ?_ | fail) | refine CallN.fix _ _ _ _ (hvt2 _) (by simp) rfl ?_ | (refine PtrN.id ?_; first | refine PtrN.base _ (by (repeat' (first | assumption | exact at_loc' _ rfl | exact at_loc0 rfl | refine at_set (B' := ?_) ?_ | refine at_base' ?_ | fail))) ?_ | fail) | refine DrawN.mk' [] ?_ | fail))); all_goals (conv => whnf)
      subst hB
      exact rnd_end (l' := [_, _, _, _]) (.exit 0) rfl rfl hbl2 (by simp [belowRE, below, tr])
    · rw [if_neg hlt]
      (repeat' ((conv => whnf); (first | refine SetN.mk _ (set_loc3 rfl) ?_ | (refine IfN.id ?_; first | refine IfN.dF (by omega) ?_ | fail) | (refine EqN.id ?_; first | refine EqN.mk (wI (n + 1)) rfl ?_ | fail) | refine CallN.fix _ _ _ _ (hvt2 _) (by simp) rfl ?_ | (refine PtrN.id ?_; first | refine PtrN.base _ (by (repeat' (first | assumption | exact at_loc' _ rfl | exact at_loc0 rfl | refine at_set (B' := ?_) ?_ | refine at_base' ?_ | fail))) ?_ | fail) | refine DrawN.mk' [] ?_ | fail))); all_goals (conv => whnf)
      subst hB
      exact rnd_end (l' := [_, _, _, _]) .normal rfl rfl hbl2 (by simp [belowRE, below, tr])
  · have hjp := cntF_jp lim (fpart f) 0
    generalize foldB (stepC lim) 0 (fpart f) = res at *
    obtain ⟨n2, jp⟩ := res
    simp only at hjp ⊢
    rcases hjp with rfl | rfl
    · (repeat' ((conv => whnf); (first | refine DrawN.mk' [] ?_ | fail))); all_goals (conv => whnf)
      exact EndN.det trivial (Wk.refl _)
    · (repeat' ((conv => whnf); (first | refine DrawN.mk' [] ?_ | fail))); all_goals (conv => whnf)
      exact EndN.det trivial (Wk.refl _)
theorem nodes_c (f : Fo) (hg : f.good) (H : Heap) : VDet Tryz.prog 27 [.agg f.cells] H (.int .i64 (cntF 9223372036854775807 f)) := by
  have h1 := count_c f hg 9223372036854775807
  generalize cntF 9223372036854775807 f = r at *
  obtain ⟨o, s, l, m, rfl⟩ := fo_ex f
  rw [Fo.cells_mk] at *
  refine fn_det Tryz.E0 Tryz.mx Tryz.func27 (by kernel_rfl) rfl (Nat.le_of_ble_eq_true rfl) rfl fun hcl hbl => ?_
  (repeat' ((conv => whnf); (first | (refine CallN.id ?_; first | refine CallN.det _ (h1 _) ?_ | fail) | refine DrawN.mk' [] ?_ | fail))); all_goals (conv => whnf)
  exact EndN.det trivial (Wk.refl _)
end Go.Proofs.YtejegcmnddedmaaGreatDoor
/-! text N02z -/
namespace Go.Proofs.YtejegcmnddedmaaGreatDoor
open Go.Vsi
set_option maxHeartbeats 2000000

/-! ### slices.ContainsFunc with syntax.Same -/
def idxP (q : Fo → Bool) : List Fo → Nat → Int
  | [], _ => -1
  | x :: l, j => if q x then (j : Int) else idxP q l (j + 1)
theorem idxP_cons (q : Fo → Bool) (x : Fo) (l : List Fo) (j : Nat) : idxP q (x :: l) j = if q x then (j : Int) else idxP q l (j + 1) := rfl
theorem idxP_any (q : Fo → Bool) : ∀ (l : List Fo) (j : Nat), decide (0 ≤ idxP q l j) = l.any q
  | [], j => by simp [idxP]
  | x :: l, j => by
    rw [idxP_cons, List.any_cons]
    cases hq : q x
    · rw [if_neg (by simp), idxP_any q l (j + 1)]
      rfl
    · rw [if_pos rfl]
      simp
attribute [local irreducible] VW VCall VO bits
abbrev sameB (x y : Fo) : Bool := decide (cF x y = 0)
theorem clo44_c (x y : Fo) (hx : x.good) (hy : y.good) (H : Heap) (p : Nat) (hp : H[p]? = some (.box 25 x.cells)) : VDet Tryz.prog 60 [.agg y.cells, .ptr p 0] H (.bool (sameB x y)) := by
  have h := sameS_c x y hx hy
  unfold sameB
  generalize decide (cF x y = 0) = r at *
  obtain ⟨o, s, l, m, rfl⟩ := fo_ex x
  obtain ⟨o2, s2, l2, m2, rfl⟩ := fo_ex y
  rw [Fo.cells_mk] at *
  rw [Fo.cells_mk] at *
  refine fn_det Tryz.E0 Tryz.mx Tryz.func60 (by kernel_rfl) rfl (Nat.le_of_ble_eq_true rfl) rfl fun hcl hbl => ?_
  (repeat' ((conv => whnf); (first | (refine CallN.id ?_; first | refine CallN.det _ (h _) ?_ | fail) | (refine PtrN.id ?_; first | refine PtrN.base _ (by (repeat' (first | assumption | exact at_loc' _ rfl | exact at_loc0 rfl | refine at_set (B' := ?_) ?_ | refine at_base' ?_ | fail))) ?_ | fail) | refine DrawN.mk' [] ?_ | fail))); all_goals (conv => whnf)
  exact EndN.det trivial (Wk.refl _)
theorem index_c (x : Fo) (hx : x.good) (l : List Fo) (hl : l.length ≤ 9223372036854775807) (hg : Fo.goodL l) (H : Heap) (p : Nat) (hp : H[p]? = some (.box 25 x.cells)) : VDet Tryz.prog 86 [.sl none l.length (l.flatMap Fo.cells), .clo (.func 60) [] [.ptr p 0]] H (.int .i64 (idxP (sameB x) l 0)) := by
  generalize hr : idxP (sameB x) l 0 = r
  refine fn_det Tryz.E0 Tryz.mx Tryz.func86 (by kernel_rfl) rfl (Nat.le_of_ble_eq_true rfl) rfl fun hcl hbl => ?_
  (repeat' ((conv => whnf); (first | refine DrawN.mk' [] ?_ | fail))); all_goals (conv => whnf)
  refine loop_R Tryz.E0 Tryz.mx (σ := Nat) (fun j => j ≤ l.length ∧ idxP (sameB x) (l.drop j) j = r) (fun j => l.length - j) (fun j => [(8, .v (.int .i64 j))]) (fun _ => []) _ 0 rfl hcl [0, 1, 7] rfl ⟨Nat.zero_le _, hr⟩ ⟨⟨_, rfl, Wk.refl _⟩, trivial⟩ rfl (fun _ _ => rfl) ?_
  rintro j ⟨hj, hinv⟩
  clear hbl
  by_cases hlt : j < l.length
  · have hgy := Fo.goodL_mem hg _ (getD_memT l j fo0 hlt)
    have hc := fun X => clo44_c x (l.getD j fo0) hx hgy (H ++ X) p (at_base' hp)
    obtain ⟨o2, t2, a2, m2, e1⟩ := fo_ex (l.getD j fo0)
    have q1 : (l.getD j fo0).cells = [.int .u8 o2, .str t2, .sl none a2.length (a2.flatMap Tm.cells), .sl none m2.length (m2.flatMap Fo.cells)] := by rw [e1, Fo.cells_mk]
    rw [drop_cons l fo0 j hlt, idxP_cons] at hinv
    rw [q1] at hc
    generalize sameB x (l.getD j fo0) = b at *
    cases b with
    | true =>
      rw [if_pos rfl] at hinv
      subst hinv
      (repeat' ((conv => whnf); (first | (refine IfN.id ?_; first | refine IfN.tt rfl ?_ | refine IfN.dT (by omega) ?_ | fail) | (refine SideN.mk ?_ ?_; · first | kernel_rfl | omega | exact List.cons_ne_nil _ _ | (simp; done) | (simp; omega) | exact trivial | assumption | fail) | (refine CallN.id ?_; first | refine CallN.det _ (hc _) ?_ | fail) | refine SegN.nthE fo0 j rfl hlt fo_size q1 ?_ | refine DrawN.mk' [] ?_ | fail))); all_goals (conv => whnf)
      exact EndN.det trivial (Wk.refl _)
    | false =>
      rw [if_neg (by simp)] at hinv
      (repeat' ((conv => whnf); (first | (refine IfN.id ?_; first | refine IfN.ff rfl ?_ | refine IfN.dT (by omega) ?_ | fail) | (refine EqN.id ?_; first | (refine EqN.addN _ _ (by first | with_reducible rfl | with_reducible exact cst1 | with_reducible exact cst0 | with_reducible exact cst2 | with_reducible exact cst3 | with_reducible exact cst4 | with_reducible exact cst5 | with_reducible exact cst6 | with_reducible exact cst7 | with_reducible exact cst8 | with_reducible exact cst14 | with_reducible exact cst15 | with_reducible exact cst25 | with_reducible exact cst30 | with_reducible exact cst31 | fail) (by first | with_reducible rfl | with_reducible exact cst1 | with_reducible exact cst0 | with_reducible exact cst2 | with_reducible exact cst3 | with_reducible exact cst4 | with_reducible exact cst5 | with_reducible exact cst6 | with_reducible exact cst7 | with_reducible exact cst8 | with_reducible exact cst14 | with_reducible exact cst15 | with_reducible exact cst25 | with_reducible exact cst30 | with_reducible exact cst31 | fail) ?_ ?_; · (repeat' (first | omega | refine And.intro ?_ ?_ | exact bnd_andl (by omega) | exact bnd_andr (by omega) | refine bnd_or ?_ ?_ | refine bnd_or31 ?_ ?_ | refine bnd_xor ?_ ?_ | refine bnd_xor31 ?_ ?_ | refine bnd_shr ?_ | refine bnd_shl ?_ ?_ | refine bnd_mod ?_ | refine bnd_andl ?_ | fail))) | fail) | (refine SideN.mk ?_ ?_; · first | kernel_rfl | omega | exact List.cons_ne_nil _ _ | (simp; done) | (simp; omega) | exact trivial | assumption | fail) | (refine CallN.id ?_; first | refine CallN.det _ (hc _) ?_ | fail) | refine SegN.nthE fo0 j rfl hlt fo_size q1 ?_ | refine DrawN.mk' [] ?_ | fail))); all_goals (conv => whnf)
      (refine ⟨⟨j + 1, ⟨by omega, hinv⟩, by omega, ?_, .inl ⟨rfl, rfl⟩, rfl, _, rfl, ?_⟩⟩; rotate_left 1; (first | exact .inl rfl | exact .inr ⟨by simp [belowRE, below, belowL, tr, tms_below, fos_below], by simp [belowH, Blk.below, belowL, below, tms_below, fos_below]⟩ | fail); (repeat' (first | exact trivial | refine ⟨⟨_, rfl, ?_⟩, ?_⟩ | fail)); all_goals try (first | exact Wk.refl _ | exact Wk.of_eq (congrArg (AV.int _) (by omega)) | fail))
  · rw [List.drop_of_length_le (by omega)] at hinv
    subst hinv
    (repeat' ((conv => whnf); (first | (refine IfN.id ?_; first | refine IfN.dF (by omega) ?_ | fail) | refine DrawN.mk' [] ?_ | fail))); all_goals (conv => whnf)
    exact EndN.det trivial (Wk.refl _)
theorem contains_c (x : Fo) (hx : x.good) (l : List Fo) (hl : l.length ≤ 9223372036854775807) (hg : Fo.goodL l) (H : Heap) (p : Nat) (hp : H[p]? = some (.box 25 x.cells)) : VDet Tryz.prog 59 [.sl none l.length (l.flatMap Fo.cells), .clo (.func 60) [] [.ptr p 0]] H (.bool (l.any (sameB x))) := by
  have h := fun X => index_c x hx l hl hg (H ++ X) p (at_base' hp)
  rw [← idxP_any _ l 0]
  generalize idxP (sameB x) l 0 = r at *
  refine fn_det Tryz.E0 Tryz.mx Tryz.func59 (by kernel_rfl) rfl (Nat.le_of_ble_eq_true rfl) rfl fun hcl hbl => ?_
  (repeat' ((conv => whnf); (first | (refine CallN.id ?_; first | refine CallN.det _ (h _) ?_ | fail) | refine DrawN.mk' [] ?_ | fail))); all_goals (conv => whnf)
  exact EndN.det trivial (Wk.refl _)
end Go.Proofs.YtejegcmnddedmaaGreatDoor
/-! text O02z -/
namespace Go.Proofs.YtejegcmnddedmaaGreatDoor
open Go.Vsi
set_option maxHeartbeats 2000000

/-! ### syntax.Parts -/
theorem wI_id {n : Int} (h0 : 0 ≤ n) (h : n ≤ 9223372036854775807) : wI n = n := w64 ⟨by omega, h⟩
theorem stepT_le : ∀ (l : List Tm) (n : Int), 0 ≤ n → n ≤ 1001 → n ≤ (foldE (stepT 1000) n l).1
  | [], n, _, _ => Int.le_refl _
  | x :: l, n, h0, h1 => by
    rw [foldE_cons]
    have hw : wI (n + 1) = n + 1 := wI_id (by omega) (by omega)
    unfold stepT
    simp only [hw]
    split
    · rename_i hd
      have hd : n + 1 ≤ 1000 := by simpa using hd
      have := stepT_le l (n + 1) (by omega) (by omega)
      unfold stepT at this
      omega
    · show n ≤ n + 1
      omega
theorem stepC_le : ∀ (l : List Fo) (n : Int), 0 ≤ n → n ≤ 1000 → (foldB (stepC 1000) n l).1 ≤ 1000 → n + l.length ≤ (foldB (stepC 1000) n l).1
  | [], n, _, _, _ => by simp [foldB]
  | x :: l, n, h0, h1, h2 => by
    rw [foldB_cons] at h2 ⊢
    have hw : wI (n + 1) = n + 1 := wI_id (by omega) (by omega)
    have hc : n + 1 ≤ cntT 1000 n (targs x) := by
      unfold cntT
      rw [hw]
      exact stepT_le _ _ (by omega) (by omega)
    by_cases hb : 1000 < cntT 1000 n (targs x)
    · exfalso
      have : (stepC 1000 n x) = (cntT 1000 n (targs x), some (.exit 0)) := by unfold stepC; rw [if_pos hb]
      rw [this] at h2
      simp at h2
      omega
    · have : (stepC 1000 n x) = (cntT 1000 n (targs x), none) := by unfold stepC; rw [if_neg hb]
      rw [this] at h2 ⊢
      simp only [Option.isNone_none, if_true] at h2 ⊢
      have := stepC_le l _ (by omega) (by omega) h2
      simp only [List.length_cons]
      omega
theorem cntF_le {f : Fo} (h : cntF 1000 f ≤ 1000) : (fpart f).length ≤ 1000 := by
  have := stepC_le (fpart f) 0 (by omega) (by omega) h
  unfold cntF at h
  omega
theorem nodup_le {α : Type} [DecidableEq α] : ∀ {l m : List α}, l.Nodup → (∀ x ∈ l, x ∈ m) → l.length ≤ m.length
  | [], m, _, _ => Nat.zero_le _
  | x :: l, m, hd, hs => by
    obtain ⟨a, b, rfl⟩ := List.append_of_mem (hs x (List.mem_cons_self ..))
    have hd' := List.nodup_cons.1 hd
    have := nodup_le (m := a ++ b) hd'.2 fun y hy => by
      have := hs y (List.mem_cons_of_mem _ hy)
      rcases List.mem_append.1 this with h | h
      · exact List.mem_append.2 (.inl h)
      · rcases List.mem_cons.1 h with e | h
        · exact absurd hy (e ▸ hd'.1)
        · exact List.mem_append.2 (.inr h)
    simp only [List.length_append, List.length_cons] at this ⊢
    omega
theorem sameB_iff {x y : Fo} : sameB x y = true ↔ x = y := by
  unfold sameB
  rw [decide_eq_true_eq]
  exact ⟨fun h => (ordFo x).eq y h, fun h => h ▸ (ordFo x).refl⟩
def stepP (ps : List Fo) (x : Fo) : List Fo × Option Code := (if ps.any (sameB x) then ps else ps ++ [x], none)
/-- the parts of a formula, each once -/
def partsF (f : Fo) : List Fo := if 1000 < cntF 1000 f then [] else (foldB stepP [] (fpart f)).1
def okP (f x : Fo) : Prop := x.good ∧ x.fit ∧ ∀ y ∈ fpart x, y ∈ fpart f
theorem mem_fparts : ∀ (l : List Fo) (y z : Fo), y ∈ l → z ∈ fpart y → z ∈ fparts l
  | x :: l, y, z, h, hz => by
    rw [fparts_cons]
    rcases List.mem_cons.1 h with e | h
    · exact List.mem_append.2 (.inl (e ▸ hz))
    · exact List.mem_append.2 (.inr (mem_fparts l y z h hz))
theorem fpart_self (x : Fo) : x ∈ fpart x := by
  obtain ⟨o, s, l, m, rfl⟩ := fo_ex x
  rw [fpart_mk]
  exact List.mem_cons_self ..
theorem clo_okP (f : Fo) : Clo (okP f) := ⟨fun _ h => h.1, fun o s l m h y hy => ⟨Fo.goodL_mem h.1.2.2.2.2.2 y hy, Fo.fitL_mem h.2.1.2.2.2.2 y hy, fun z hz => h.2.2 z (by
  rw [fpart_mk]
  exact List.mem_cons_of_mem _ (mem_fparts m y z hy hz))⟩⟩
structure PInv (f : Fo) (ps : List Fo) : Prop where
  good : ∀ x ∈ ps, x.good
  sub : ∀ x ∈ ps, x ∈ fpart f
  nd : ps.Nodup
theorem PInv.nil (f : Fo) : PInv f [] := ⟨fun _ h => absurd h (List.not_mem_nil), fun _ h => absurd h (List.not_mem_nil), List.nodup_nil⟩
theorem PInv.step {f : Fo} {ps : List Fo} (h : PInv f ps) {x : Fo} (hx : okP f x) : PInv f (stepP ps x).1 := by
  unfold stepP
  simp only
  split
  · exact h
  · rename_i hn
    have hnot : x ∉ ps := fun hm => hn (List.any_eq_true.2 ⟨x, hm, sameB_iff.2 rfl⟩)
    refine ⟨fun y hy => ?_, fun y hy => ?_, ?_⟩
    · rcases List.mem_append.1 hy with hy | hy
      · exact h.good y hy
      · simp at hy; exact hy ▸ hx.1
    · rcases List.mem_append.1 hy with hy | hy
      · exact h.sub y hy
      · simp at hy; exact hy ▸ hx.2.2 x (fpart_self x)
    · rw [List.nodup_append]
      refine ⟨h.nd, by simp, fun a ha b hb => ?_⟩
      simp at hb
      subst hb
      exact fun e => hnot (e ▸ ha)
noncomputable instance : DecidableEq Fo := fun a b => Classical.propDecidable (a = b)
theorem PInv.len {f : Fo} {ps : List Fo} (h : PInv f ps) (hc : cntF 1000 f ≤ 1000) : ps.length ≤ 1000 := Nat.le_trans (nodup_le h.nd h.sub) (cntF_le hc)
theorem stepP_none (l : List Fo) : ∀ ps, (foldB stepP ps l).2 = none := by
  induction l with
  | nil => intro ps; rfl
  | cons x l ih =>
    intro ps
    rw [foldB_cons]
    have hn : (stepP ps x).2.isNone = true := rfl
    rw [hn, if_pos rfl]
    exact ih _
theorem fos_cells_flat (l : List Fo) (x : Fo) : (l ++ [x]).flatMap Fo.cells = l.flatMap Fo.cells ++ x.cells := by simp
theorem fo_cells_len (x : Fo) : x.cells.length = 4 := by
  obtain ⟨o, s, l, m, rfl⟩ := fo_ex x
  rw [Fo.cells_mk]
  rfl
def lsP (n0 : Nat) (fc : List AV) (n : Nat) (c : List AV) (L : Nat) : Heap := [.box 25 fc, .box 23 [.sl (some (n0 + 3)) n c], .box 25 fc, .tok 25 4 L]
end Go.Proofs.YtejegcmnddedmaaGreatDoor
/-! text P02z -/
namespace Go.Proofs.YtejegcmnddedmaaGreatDoor
open Go.Vsi
set_option maxHeartbeats 2000000
attribute [local irreducible] VW VCall VO bits

/-! ### syntax.Parts -/
theorem at_len {A B X : Heap} {x : Blk} (h : B.length = A.length) : (A ++ (x :: X))[B.length + 0]? = some x := by
  rw [h]
  simp
theorem lsP_below (n0 : Nat) (f : Fo) (n : Nat) (ps : List Fo) (L N : Nat) (h : n0 + 4 ≤ N) : ∀ B ∈ lsP n0 f.cells n (ps.flatMap Fo.cells) L, B.below N := by
  intro B hB
  have := fo_below N f
  simp only [lsP, List.mem_cons, List.not_mem_nil, or_false] at hB
  rcases hB with rfl | rfl | rfl | rfl
  · exact this
  · simp [Blk.below, belowL, below, fos_below]; omega
  · exact this
  · simp [Blk.below]
theorem parts_c (f : Fo) (hg : f.good) (hf : f.fit) (H : Heap) : VDet Tryz.prog 29 [.agg f.cells] H (if 1000 < cntF 1000 f then .nils else .sl none (partsF f).length ((partsF f).flatMap Fo.cells)) := by
  have hw := walk_c f (H ++ [.box 25 f.cells, .box 23 [.nils]])
  rw [List.length_append] at hw
  have hcn := count_c f hg 1000
  have hce : ∃ o s ln lc mn mc, f.cells = [.int .u8 (o : Nat), .str s, .sl none ln lc, .sl none mn mc] := by
    obtain ⟨o, s, l, m, rfl⟩ := fo_ex f
    rw [Fo.cells_mk]
    exact ⟨_, _, _, _, _, _, rfl⟩
  obtain ⟨o, s, ln, lc, mn, mc, hce⟩ := hce
  rw [hce] at hw hcn ⊢
  by_cases hc : 1000 < cntF 1000 f
  · rw [if_pos hc]
    generalize cntF 1000 f = r at *
    refine fn_det Tryz.E0 Tryz.mx Tryz.func29 (by kernel_rfl) rfl (Nat.le_of_ble_eq_true rfl) rfl fun hcl hbl => ?_
    (repeat' ((conv => whnf); (first | (refine IfN.id ?_; first | refine IfN.dT (by omega) ?_ | fail) | (refine CallN.id ?_; first | refine CallN.det _ (hcn _) ?_ | fail) | refine DrawN.mk' [] ?_ | fail))); all_goals (conv => whnf)
    exact EndN.det trivial (Wk.refl _)
  · rw [if_neg hc]
    have hlen := fun ps (h : PInv f ps) => h.len (by omega)
    have hpf : partsF f = (foldB stepP [] (fpart f)).1 := by unfold partsF; rw [if_neg hc]
    rw [hpf]
    have hjp := stepP_none (fpart f) []
    generalize cntF 1000 f = r at *
    refine fn_det Tryz.E0 Tryz.mx Tryz.func29 (by kernel_rfl) rfl (Nat.le_of_ble_eq_true rfl) rfl fun hcl hbl => ?_
    (repeat' ((conv => whnf); (first | (refine IfN.id ?_; first | refine IfN.dF (by omega) ?_ | fail) | (refine CallN.id ?_; first | refine CallN.det _ (hcn _) ?_ | fail) | refine CallN.grow _ _ _ 3 hw rfl rfl rfl ?_ | refine DrawN.mk' [] ?_ | fail))); all_goals (conv => whnf)
    refine RangeN.tokB 1 0 25 4 rfl rfl rfl rfl rfl ?_
    refine range_walk (clo_okP f) f ⟨hg, hf, fun _ h => h⟩ rfl hcl rfl [3] _ rfl (by decide) rfl (by simp [belowRE, below, tr])
      (fun ps : List Fo => lsP H.length [.int .u8 o, .str s, .sl none ln lc, .sl none mn mc] ps.length (ps.flatMap Fo.cells) (ps.flatMap Fo.cells).length) (PInv f) (PInv f) stepP [] (PInv.nil f) rfl 2 (by rw [hce]; rfl) (fun _ h => h) (fun _ _ => rfl) ?_ (fun _ _ h hx => ⟨h.step hx, fun _ => h.step hx⟩) ?_ ?_
    · intro ps _ B hB
      have h := lsP_below H.length f ps.length ps (ps.flatMap Fo.cells).length (H.length + 5) (by omega) B
      rw [hce] at h
      exact h hB
    · intro ps x Y hps hx
      have hb1 : okP f x := hx
      have hgl := Fo.goodL_of ps hps.good
      have hl := hlen ps hps
      obtain ⟨o2, t2, a2, m2, hx2⟩ := fo_ex x
      have q1 : x.cells = [.int .u8 o2, .str t2, .sl none a2.length (a2.flatMap Tm.cells), .sl none m2.length (m2.flatMap Fo.cells)] := by rw [hx2, Fo.cells_mk]
      have hcp : ∀ H, VDet Tryz.prog 42 [.agg x.cells] H (.agg x.cells) := syF_g x hx.2.1
      have hct := fun (Hb : Heap) p => contains_c x hx.1 ps (by omega) hgl Hb p
      have hstep : stepP ps x = (if ps.any (sameB x) then ps else ps ++ [x], none) := rfl
      rw [hstep]
      rw [q1] at hcp hct
      generalize hbv : ps.any (sameB x) = b at hct ⊢
      have hb0 := lsP_below H.length f ps.length ps (ps.flatMap Fo.cells).length (H.length + 5) (by omega)
      have hb2 := lsP_below H.length f (ps ++ [x]).length (ps ++ [x]) ((ps ++ [x]).flatMap Fo.cells).length (H.length + 5) (by omega)
      rw [hce] at hb0 hb2
      have hxb := fo_below (H.length + 5) x
      have hbk : belowRE H.length (H.length + 5) [(3, .lp (0 + 1) 0)] := by simp [belowRE, below, tr]
      have hct2 : ∀ (Hb : Heap) p, Hb[p]? = some (.box 25 [.int .u8 o2, .str t2, .sl none a2.length (a2.flatMap Tm.cells), .sl none m2.length (m2.flatMap Fo.cells)]) → VDet Tryz.prog 59 [.sl (some (H.length + 3)) ps.length (ps.flatMap Fo.cells), .clo (.func 60) [] [.ptr p 0]] Hb (.bool b) := fun Hb p hp => (hct Hb p hp).wk (by (repeat' (first | exact trivial | refine And.intro ?_ ?_ | exact Wk.refl _ | exact wk_sl _ _ _ | exact wk_sx _ _ | exact wk_nils | refine wk_agg ?_ | refine wk_tup ?_ | fail)); done)
      clear hct
      cases b with
      | true =>
        simp only [if_true]
        generalize ps.flatMap Fo.cells = pc at *
        unfold lsP
        rw [q1]
        (repeat' ((conv => whnf); (first | refine DrawN.mk' [] ?_ | fail))); all_goals (conv => whnf)
        refine ⟨none, _, at_loc' Y rfl, set_loc3 rfl, ?_⟩
        generalize hB : Blk.loop LoopState.busy none _ _ = B
        (repeat' ((conv => whnf); (first | (refine PtrN.id ?_; first | refine PtrN.base _ (by (repeat' (first | assumption | exact at_loc' _ rfl | exact at_loc0 rfl | refine at_set (B' := ?_) ?_ | refine at_base' ?_ | fail))) ?_ | fail) | refine DrawN.mk' [] ?_ | fail))); all_goals (conv => whnf)
        refine CallN.det _ (hct2 _ _ (at_len (by simp))) ?_
        (repeat' ((conv => whnf); (first | (refine IfN.id ?_; first | refine IfN.not ?_ | refine IfN.tt rfl ?_ | fail) | refine DrawN.mk' [] ?_ | fail))); all_goals (conv => whnf)
        subst hB
        exact rnd_end (l' := [_, _, _, _]) .normal rfl rfl hb0 hbk
      | false =>
        simp only [Bool.false_eq_true, if_false]
        have hl1 : (ps ++ [x]).length = ps.length + 1 := by simp
        have hmx : ps.length + 1 ≤ maxLen := Nat.le_trans (show ps.length + 1 ≤ 1001 by omega) (by decide)
        have hL : ((ps ++ [x]).flatMap Fo.cells).length = (ps.flatMap Fo.cells).length + 4 := by rw [fos_cells_flat, List.length_append, fo_cells_len]
        rw [hL, fos_cells_flat, hl1] at hb2 ⊢
        generalize ps.flatMap Fo.cells = pc at *
        rw [q1] at hb2
        unfold lsP at hb2 ⊢
        rw [q1]
        (repeat' ((conv => whnf); (first | refine DrawN.mk' [] ?_ | fail))); all_goals (conv => whnf)
        refine ⟨none, _, at_loc' Y rfl, set_loc3 rfl, ?_⟩
        generalize hB : Blk.loop LoopState.busy none _ _ = B
        (repeat' ((conv => whnf); (first | (refine PtrN.id ?_; first | refine PtrN.base _ (by (repeat' (first | assumption | exact at_loc' _ rfl | exact at_loc0 rfl | refine at_set (B' := ?_) ?_ | refine at_base' ?_ | fail))) ?_ | fail) | refine DrawN.mk' [] ?_ | fail))); all_goals (conv => whnf)
        refine CallN.det _ (hct2 _ _ (at_len (by simp))) ?_
        (repeat' ((conv => whnf); (first | refine DrawN.ap 5 [] ?_ | (refine IfN.id ?_; first | refine IfN.not ?_ | refine IfN.ff rfl ?_ | fail) | (refine SideN.mk ?_ ?_; · first | kernel_rfl | omega | exact List.cons_ne_nil _ _ | (simp; done) | (simp; omega) | exact trivial | assumption | fail) | (refine CallD.id ?_; first | refine CallD.det _ (fun _ hq X => hcp _) ?_ | fail) | (refine PtrN.id ?_; first | refine PtrN.base _ (by (repeat' (first | assumption | exact at_loc' _ rfl | exact at_loc0 rfl | refine at_set (B' := ?_) ?_ | refine at_base' ?_ | fail))) ?_ | fail) | refine DrawN.mk' [] ?_ | fail))); all_goals (conv => whnf)
        refine ApE.mk rfl rfl rfl rfl rfl rfl rfl rfl rfl rfl rfl rfl rfl (by kernel_rfl) rfl rfl rfl rfl rfl rfl rfl rfl rfl rfl rfl rfl rfl rfl rfl rfl rfl rfl rfl rfl rfl (by omega) rfl (.base_ (at_loc' Y rfl) (set_loc3 rfl)) (.base_ (at_loc' Y rfl) (set_loc3 rfl)) ?_ hmx ?_
        · show (ps.length + 1) * 72 ≤ 140737488355328
          omega
        (repeat' ((conv => whnf); (first | refine DrawN.mk' [] ?_ | fail))); all_goals (conv => whnf)
        subst hB
        exact rnd_end (l' := [_, _, _, _]) .normal rfl rfl hb2 hbk
    · generalize foldB stepP [] (fpart f) = res at *
      obtain ⟨ps, jp⟩ := res
      simp only at hjp ⊢
      subst hjp
      (repeat' ((conv => whnf); (first | refine DrawN.mk' [] ?_ | fail))); all_goals (conv => whnf)
      refine EndN.detF (u' := .sl none ps.length (ps.flatMap Fo.cells)) ?_ (Frz.sl (FrzL.refl _)) (Wk.refl _)
      simp [below, fos_below]
end Go.Proofs.YtejegcmnddedmaaGreatDoor
/-! text Q02z -/
namespace Go.Proofs.YtejegcmnddedmaaGreatDoor
open Go.Vsi
set_option maxHeartbeats 2000000

/-! ### maps of symbols -/
abbrev Sym := ByteArray × Nat
def symC (x : Sym) : List AV := [.str x.1, .int .i64 (x.2 : Nat)]
def mpY (ks : List Sym) : Blk := .mp (ks.map fun x => .agg (symC x)) (ks.map fun _ => .bool true)
theorem mpY_belowK (n : Nat) : ∀ ks : List Sym, belowL n (ks.map fun x => .agg (symC x))
  | [] => trivial
  | _ :: ks => ⟨by simp [symC, below, belowL], mpY_belowK n ks⟩
theorem mpY_belowV (n : Nat) : ∀ ks : List Sym, belowL n (ks.map fun _ => .bool true)
  | [] => trivial
  | _ :: ks => ⟨trivial, mpY_belowV n ks⟩
theorem mpY_below (n : Nat) (ks : List Sym) : (mpY ks).below n := ⟨mpY_belowK n ks, mpY_belowV n ks⟩
def sym0 : Sym := (.empty, 0)
theorem nodup_lt {l : List Nat} {n : Nat} (h : l.Nodup) (hl : ∀ e ∈ l, e < n) : l.length ≤ n := by
  have := nodup_le (m := List.range n) h fun e he => List.mem_range.2 (hl e he)
  simpa using this
theorem nodup_snoc {α : Type} {l : List α} {e : α} (h : l.Nodup) (he : e ∉ l) : (l ++ [e]).Nodup := by
  rw [List.nodup_append]
  refine ⟨h, by simp, fun a ha b hb => ?_⟩
  simp at hb
  subst hb
  exact fun e => he (e ▸ ha)
theorem map_get_range {α : Type} (d : α) (l : List α) : (List.range l.length).map (fun i => l.getD i d) = l := by
  apply List.ext_getElem?
  intro i
  rw [List.getElem?_map]
  by_cases hi : i < l.length
  · rw [List.getElem?_range hi]
    simp [hi]
  · rw [List.getElem?_eq_none (by simpa using hi), List.getElem?_eq_none (by simpa using hi)]
    rfl
theorem seen_perm {α : Type} (d : α) {l : List α} {seen : List Nat} (h : seen.Nodup) (hlt : ∀ e ∈ seen, e < l.length) (hall : ∀ e, e < l.length → e ∈ seen) : (seen.map fun i => l.getD i d).Perm l := by
  have : seen.Perm (List.range l.length) := (List.perm_ext_iff_of_nodup h List.nodup_range).2 fun e => ⟨fun he => List.mem_range.2 (hlt e he), fun he => hall e (List.mem_range.1 he)⟩
  have h2 := this.map fun i => l.getD i d
  rwa [map_get_range] at h2
attribute [local irreducible] VW VCall VO bits

/-- a function that is called for a map's keys, and never ends the loop: R n s: behind n of them the state is s -/
structure VisK {S : Type} (F : Fn) (hp : S → Heap) (N : Nat) (ks : List Sym) (R : Nat → S → Prop) (step : S → Sym → S) : Prop where
  len : ∀ n s, R n s → (hp s).length = N
  low : ∀ n s, R n s → ∀ B ∈ hp s, B.below N
  pres : ∀ n s x, n < ks.length → R n s → x ∈ ks → R (n + 1) (step s x)
  call : ∀ n s x Y, n < ks.length → R n s → x ∈ ks → VFn Tryz.prog F [.agg (symC x)] (hp s ++ Y) (fun r H' => r = .bool true ∧ H' = hp (step s x) ++ Y)
/-- the iterator over a map's keys: all of them, in some order -/
theorem keysIt_c {S : Type} {F : Fn} {hp : S → Heap} {N : Nat} {R : Nat → S → Prop} {step : S → Sym → S} {ks : List Sym} (hv : VisK F hp N ks R step)
    (s0 : S) (hs0 : R 0 s0) (p i : Nat) (hp1 : ∀ n s, R n s → (hp s)[p]? = some (.box 75 [.mp i])) (hi1 : ∀ n s, R n s → (hp s)[i]? = some (mpY ks)) :
    VCall Tryz.prog 98 [.clo F [] [], .ptr p 0] (hp s0) (fun _ H' => ∃ ord : List Sym, ord.Perm ks ∧ R ord.length (ord.foldl step s0) ∧ H' = hp (ord.foldl step s0)) := by
  have hpp := hp1 0 s0 hs0
  have hii := hi1 0 s0 hs0
  have hii2 : (hp s0)[i]? = some (.mp (ks.map fun x => .agg (symC x)) (ks.map fun _ => .bool true)) := hii
  have hlen : ∀ n s, R n s → (hp s).length = (hp s0).length := fun n s hs => by rw [hv.len n s hs, hv.len 0 s0 hs0]
  have hcl2 : ∀ n s, R n s → Closed (hp s) := fun n s hs j B hj => by
    rw [hv.len n s hs]
    exact hv.low n s hs B (List.mem_of_getElem? hj)
  refine fn_gen Tryz.E0 Tryz.mx Tryz.func98 (by kernel_rfl) rfl (Nat.le_of_ble_eq_true rfl) rfl fun hcl hbl => ?_
  (repeat' ((conv => whnf); (first | (refine PtrN.id ?_; first | refine PtrN.base _ (by (repeat' (first | assumption | exact at_loc' _ rfl | exact at_loc0 rfl | refine at_set (B' := ?_) ?_ | refine at_base' ?_ | fail))) ?_ | fail) | refine DrawN.mk' [] ?_ | fail))); all_goals (conv => whnf)
  refine loop_B Tryz.E0 Tryz.mx (σ := List Nat × S) (fun q => q.1.Nodup ∧ (∀ e ∈ q.1, e < ks.length) ∧ R q.1.length q.2 ∧ q.2 = (q.1.map fun i => ks.getD i sym0).foldl step s0) (fun q => ks.length - q.1.length) (fun _ => []) (fun q => hp q.2) (fun q => [.it (.mp i) (ks.map fun x => AV.agg (symC x)).length q.1]) _ ([], s0) (fun q h => hlen _ _ h.2.2.1) (fun q h => hcl2 _ _ h.2.2.1) [0, 5] rfl ⟨List.nodup_nil, (fun e h => absurd h (List.not_mem_nil)), hs0, rfl⟩ trivial rfl rfl (fun _ _ => rfl) ?_
  rintro ⟨seen, s⟩ ⟨hnd, hlt, hs, hfold⟩
  simp only at hnd hlt hs hfold
  have hii3 : (hp s)[i]? = some (.mp (ks.map fun x => .agg (symC x)) (ks.map fun _ => .bool true)) := hi1 _ s hs
  clear hbl
  (repeat' ((conv => whnf); (first | (refine SideN.mk ?_ ?_; · first | kernel_rfl | omega | exact List.cons_ne_nil _ _ | (simp; done) | (simp; omega) | exact trivial | assumption | fail) | (refine PtrN.id ?_; first | refine PtrN.base _ (by (repeat' (first | assumption | exact at_loc' _ rfl | exact at_loc0 rfl | refine at_set (B' := ?_) ?_ | refine at_base' ?_ | fail))) ?_ | fail) | refine DrawN.mk' [] ?_ | fail))); all_goals (conv => whnf)
  rintro B v (⟨rfl, rfl, hall⟩ | ⟨e, kv, x, he, hn, hk, hx, rfl, rfl⟩)
  · have hall : ∀ e, e < ks.length → e ∈ seen := fun e he => hall e (by simpa using he)
    (repeat' ((conv => whnf); (first | (refine IfN.id ?_; first | refine IfN.ff rfl ?_ | fail) | refine DrawN.mk' [] ?_ | fail))); all_goals (conv => whnf)
    refine .cut (hlen _ _ hs) (fun j B hB => .inr ?_) ⟨_, _, .refl _, Wk.refl _, by simp [below, belowL], seen.map fun i => ks.getD i sym0, seen_perm sym0 hnd hlt hall, by rw [← hfold, List.length_map]; exact hs, by rw [← hfold]⟩
    rw [← hlen _ _ hs]
    exact hcl2 _ _ hs j B hB
  · have he : e < ks.length := by simpa using he
    have hn : e ∉ seen := hn
    have hke : ks[e]? = some (ks.getD e sym0) := by simp [he]
    have hxm : ks.getD e sym0 ∈ ks := List.mem_of_getElem? hke
    have hk2 : kv = .agg (symC (ks.getD e sym0)) := by
      rw [List.getElem?_map, hke] at hk
      simpa using hk.symm
    have hx2 : x = .bool true := by
      rw [List.getElem?_map, hke] at hx
      simpa using hx.symm
    subst hk2 hx2
    have hlt2 : seen.length < ks.length := by
      have := nodup_lt (nodup_snoc hnd hn) (n := ks.length) (fun a ha => by
        rcases List.mem_append.1 ha with h | h
        · exact hlt a h
        · simp at h; exact h ▸ he)
      simp at this
      omega
    have hc := fun Y => hv.call _ s (ks.getD e sym0) Y hlt2 hs hxm
    have hR1 := hv.pres _ s (ks.getD e sym0) hlt2 hs hxm
    have hf2 : step s (ks.getD e sym0) = ((seen ++ [e]).map fun i => ks.getD i sym0).foldl step s0 := by
      rw [List.map_append, List.foldl_append, ← hfold]
      rfl
    generalize step s (ks.getD e sym0) = s1 at *
    generalize hkx : ks.getD e sym0 = kx at *
    obtain ⟨nm, ar⟩ := kx
    unfold symC at *
    have hil : i < (hp s0).length + 1 := by
      have := (List.getElem?_eq_some_iff.1 hii).1
      omega
    have hg1 : ((seen ++ [e], s1) : List Nat × S).fst.length = seen.length + 1 := by simp
    have hg2 : ((seen, s) : List Nat × S).fst.length = seen.length := rfl
    (repeat' ((conv => whnf); (first | (refine IfN.id ?_; first | refine IfN.not ?_ | refine IfN.tt rfl ?_ | fail) | refine RelN.mk [_, _] [] ⟨by simp, rfl, seen, e, _, _, rfl, hk, hx, rfl⟩ ?_ | refine CallN.fix _ _ _ _ (hc _) (hlen _ _ hR1) rfl ?_ | (refine PtrN.id ?_; first | refine PtrN.base _ (by (repeat' (first | assumption | exact at_loc' _ rfl | exact at_loc0 rfl | refine at_set (B' := ?_) ?_ | refine at_base' ?_ | fail))) ?_ | fail) | refine DrawN.mk' [] ?_ | fail))); all_goals (conv => whnf)
    (refine ⟨⟨(seen ++ [e], s1), ⟨nodup_snoc hnd hn, fun a ha => by
        rcases List.mem_append.1 ha with h | h
        · exact hlt a h
        · simp at h; exact h ▸ he, by rw [hg1]; exact hR1, hf2⟩, by omega, ?_, .inl ⟨rfl, rfl⟩, rfl, _, rfl, ?_⟩⟩; rotate_left 1; (first | exact .inl rfl | exact .inr ⟨by simp [belowRE, below, belowL, tr, mpY_below, hil], by simp [belowH, Blk.below, belowL, below, mpY_below, hil]⟩ | fail); (repeat' (first | exact trivial | refine ⟨⟨_, rfl, ?_⟩, ?_⟩ | fail)); all_goals try (first | exact Wk.refl _ | exact Wk.of_eq (congrArg (AV.int _) (by omega)) | fail))
/-- a loop over a map's keys that nothing ends early -/
theorem range_keys {S : Type} {N : FN} {n0 : Nat} {ps : Array Tmp} {assign body : Code} {Q : QR} {top bot : RE} {base : Heap} {k : Nat} {loc : Heap}
    (hbase : base.length = n0) (hcl : Closed base) (hN : N.r = none) (ts : List Nat) (bk : RE) (hbk : pickO ts top bot = some bk)
    (hps : ∀ p ∈ ps.toList, p < N.n) (hps1 : ps.size = 1) (bbk : belowRE n0 (n0 + (k + 1)) bk) (ks : List Sym)
    (ls : S → Heap) (R : Nat → S → Prop) (step : S → Sym → S) (s0 : S) (hs0 : R 0 s0) (h0 : loc = ls s0) (p i : Nat) (hp1 : base[p]? = some (.box 75 [.mp i])) (hi1 : base[i]? = some (mpY ks))
    (lens : ∀ n s, R n s → (ls s).length = k) (bls : ∀ n s, R n s → ∀ B ∈ ls s, B.below (n0 + (k + 1)))
    (pres : ∀ n s x, n < ks.length → R n s → x ∈ ks → R (n + 1) (step s x))
    (hy : ∀ n s x Y, n < ks.length → R n s → x ∈ ks → rndW n0 k bk N ps assign body ((base ++ (ls s ++ [lpB n0 bk N ps assign body .ready none])) ++ Y) [.agg (symC x)] (fun r H' => r = .bool true ∧ H' = (base ++ (ls (step s x) ++ [lpB n0 bk N ps assign body .ready none])) ++ Y))
    (hQ : ∀ ord : List Sym, ord.Perm ks → R ord.length (ord.foldl step s0) → jumpN Q top bot base (k + 1) (ls (ord.foldl step s0) ++ [.dead]) none) :
    RangeN Tryz.prog N n0 98 [] [.ptr p 0] ps assign body Q top bot base k loc := by
  subst hbase h0
  let hp : S → Heap := fun s => base ++ (ls s ++ [lpB base.length bk N ps assign body .ready none])
  have hloopb : (lpB base.length bk N ps assign body .ready none).below (base.length + (k + 1)) := get_below bbk
  have hk0 : (ls s0).length = k := lens 0 s0 hs0
  have hv : VisK (.yield (base.length + k)) hp (base.length + (k + 1)) ks R step := by
    refine ⟨fun n s h => by simp [hp, lens _ _ h], fun n s h B hB => ?_, pres, fun n s x Y hn h hx => ?_⟩
    · rcases List.mem_append.1 hB with hB | hB
      · obtain ⟨j, hj⟩ := List.getElem?_of_mem hB
        exact Blk.below_mono (by omega) (hcl j B hj)
      · rcases List.mem_append.1 hB with hB | hB
        · exact bls _ _ h B hB
        · simp only [List.mem_singleton] at hB
          subst hB
          exact hloopb
    · have h3 := hy n s x Y hn h hx
      have hi : ((base ++ (ls s ++ [lpB base.length bk N ps assign body .ready none])) ++ Y)[base.length + k]? = some (lpB base.length bk N ps assign body .ready none) := by
        refine at_loc' Y ?_
        rw [lget_eq, List.getElem?_append_right (by rw [lens n s h]; exact Nat.le_refl _), lens n s h, Nat.sub_self]
        rfl
      exact round_R Tryz.E0 Tryz.mx hi hps (by simp [hps1]) h3
  have hit := keysIt_c hv s0 hs0 p i (fun n s _ => at_base' hp1) (fun n s _ => at_base' hi1)
  refine .mk ⟨(fun i hi => by rw [hN] at hi; cases hi), ts, bk, (fun _ H' => ∃ ord : List Sym, ord.Perm ks ∧ R ord.length (ord.foldl step s0) ∧ H' = hp (ord.foldl step s0)), hbk, ?_, ?_⟩
  · rw [List.append_assoc]
    exact hit
  · rintro r H' ⟨ord, ho, hR, rfl⟩
    have hl2 := lens _ _ hR
    refine ⟨base, k + 1, ls (ord.foldl step s0) ++ [lpB base.length bk N ps assign body .ready none], .ready, none, ls (ord.foldl step s0) ++ [.dead], rfl, by simp [hl2], rfl, ?_, by simp, ?_, hQ ord ho hR⟩
    · rw [lget_eq, List.getElem?_append_right (by omega), hl2, Nat.sub_self]; rfl
    · rw [lset_some (by simp [hl2])]
      rw [List.set_append_right _ _ (by omega), hl2, Nat.sub_self]
      rfl
end Go.Proofs.YtejegcmnddedmaaGreatDoor
/-! text R02dz -/
namespace Go.Proofs.YtejegcmnddedmaaGreatDoor
open Go.Vsi
open Go.Shelf Go.RowKit Go.Sort
set_option maxHeartbeats 2000000

/-! ### slices.SortFunc at symbols -/
theorem ordSym (x : Sym) : OrdAt cSym x := by
  obtain ⟨a, n⟩ := x
  have h := ordP (c := cmpB) (d := fun p q : Nat => cmpI (p : Nat) (q : Nat)) (a := a) (b := n) (ordB a) (fun a => (ordB a).refl) (ordF (d := cmpI) (fun n : Nat => (n : Int)) (fun x y e => by omega) (fun _ _ => rfl) (ordI n))
  exact h
theorem swoSym : SWO (ltOf cSym) := by
  have ha : ∀ x y, cSym y x = - cSym x y := fun x y => (ordSym x).anti y
  refine ⟨fun x => ?_, fun x y z h1 h2 => ?_, fun x y z h1 h2 => ?_⟩
  · unfold ltOf
    rw [(ordSym x).refl]
    rfl
  · unfold ltOf at *
    simp only [decide_eq_true_eq] at *
    obtain ⟨q1, q2⟩ := (ordSym x).tr y z (by omega) (by omega)
    have : cSym x z ≠ 0 := fun e => by have := (q2 e).1; omega
    omega
  · unfold ltOf at *
    simp only [decide_eq_false_iff_not] at *
    have h3 := ha x y
    have h4 := ha y z
    obtain ⟨q1, -⟩ := (ordSym z).tr y x (by omega) (by omega)
    have h5 := ha x z
    omega
theorem totSym (x y : Sym) (h1 : ltOf cSym x y = false) (h2 : ltOf cSym y x = false) : x = y := by
  unfold ltOf at h1 h2
  simp only [decide_eq_false_iff_not] at h1 h2
  have := (ordSym x).anti y
  exact (ordSym x).eq y (by omega)
def sortY (l : List Sym) : List Sym := l.mergeSort fun x y => !(ltOf cSym) y x
theorem sortY_perm (l : List Sym) : (sortY l).Perm l := List.mergeSort_perm l _
theorem sortY_len (l : List Sym) : (sortY l).length = l.length := (sortY_perm l).length_eq
theorem symC_len (l : List Sym) : (l.flatMap symC).length = l.length * 2 := by
  induction l with
  | nil => rfl
  | cons x l ih => rw [List.flatMap_cons, List.length_append, ih, List.length_cons]; simp only [symC, List.length_cons, List.length_nil]; omega
theorem symV_len (l : List Sym) : (l.flatMap symV).length = l.length * 2 := by
  induction l with
  | nil => rfl
  | cons x l ih => rw [List.flatMap_cons, List.length_append, ih, List.length_cons]; simp only [symV, List.length_cons, List.length_nil]; omega
theorem sym_rel (g : G) (w : World) : ∀ l : List Sym, LRel g w (l.flatMap symC) (l.flatMap symV)
  | [] => by simp [LRel]
  | x :: l => by
    rw [List.flatMap_cons, List.flatMap_cons]
    refine LRel.append ?_ (sym_rel g w l)
    simp [symC, symV, LRel, VRel]
theorem sym_of {g : G} {w : World} : ∀ {l : List Sym} {cs : List Value}, LRel g w (l.flatMap symC) cs → cs = l.flatMap symV
  | [], cs, h => by simpa [LRel] using h
  | x :: l, cs, h => by
    rw [List.flatMap_cons] at h
    simp only [symC, List.cons_append, List.nil_append, LRel, VRel] at h
    obtain ⟨c, r, rfl, rfl, d, r2, rfl, rfl, h⟩ := h
    rw [sym_of h, List.flatMap_cons]
    rfl
theorem flat_get : ∀ (l : List Sym) (t : Nat), t < l.length * 2 → (l.flatMap symV)[t]! = (symV l[t / 2]!)[t % 2]!
  | [], t, h => by simp at h
  | x :: l, t, h => by
    rw [List.flatMap_cons]
    rcases Nat.lt_or_ge t 2 with h2 | h2
    · have : t = 0 ∨ t = 1 := by omega
      rcases this with rfl | rfl <;> rfl
    · obtain ⟨u, rfl⟩ : ∃ u, t = u + 2 := ⟨t - 2, by omega⟩
      have e1 : (u + 2) / 2 = u / 2 + 1 := by omega
      have e2 : (u + 2) % 2 = u % 2 := by omega
      have ih := flat_get l u (by simp at h; omega)
      rw [e1, e2]
      have : (symV x ++ l.flatMap symV)[u + 2]! = (l.flatMap symV)[u]! := rfl
      rw [this, ih]
      rfl
theorem flatK_eq (l : List Sym) : flatK symV 2 l.toArray = (l.flatMap symV).toArray := by
  apply Array.ext
  · rw [size_flatK, List.size_toArray, List.size_toArray, symV_len]
  · intro t h1 h2
    have ht : t < l.length * 2 := by simpa using h1
    have e1 := get_flatK symV 2 l.toArray t (by simpa using ht)
    have e2 := flat_get l t ht
    rw [getElem!_pos _ t h1] at e1
    rw [e1]
    have e3 : (l.flatMap symV)[t]! = (l.flatMap symV).toArray[t]'h2 := by
      have : t < (l.flatMap symV).length := by simpa using h2
      rw [getElem!_pos _ t this]
      simp
    rw [← e3, e2]
    simp
theorem put_take (F cs : Array Value) (h : F.size ≤ cs.size) : (putCells id 0 F cs).toList.take F.size = F.toList ∧ (putCells id 0 F cs).size = cs.size := by
  refine ⟨?_, by simp [putCells]⟩
  apply List.ext_getElem?
  intro t
  rw [List.getElem?_take]
  by_cases ht : t < F.size
  · rw [if_pos ht]
    have h1 : t < cs.size := by omega
    simp [putCells, h1, ht]
  · rw [if_neg ht, List.getElem?_eq_none (by simpa using ht)]
theorem sort87_c (H : Heap) (i : Nat) (l : List Sym) (hl : l.length ≤ 1000000000000) (hi : H[i]? = some (.vec 52 2 (l.flatMap symC))) :
    VCall Tryz.prog 97 [.vs i l.length, .clo (.func 84) [] []] H (fun r H' => r = .tup [] ∧ H' = H.set i (.vec 52 2 ((sortY l).flatMap symC))) := by
  refine ⟨⟨_, Tryz.func97, by kernel_rfl, rfl⟩, fun g w xs hH hL => ?_⟩
  simp only [LRel, VRel, fnG] at hL
  obtain ⟨c, r, has, ⟨hok, hle, A, cap, rfl, hncap, hcur⟩, c2, r2, rfl, ⟨-, f', c', rfl, hf', hc'⟩, rfl⟩ := hL
  have hf' : f' = #[] := by simpa using congrArg List.toArray hf'
  have hc' : c' = #[] := by simpa using congrArg List.toArray hc'
  have has : xs = #[.slice A l.length cap, .func (.func 84) f' c'] := by simpa using congrArg List.toArray has
  subst has hf' hc'
  have hat : Vsi.At (Hp.of H) i (.vec 52 2 (l.flatMap symC)) := by
    show (Hp.of H).all[i]? = _
    simpa [Hp.all, Hp.of] using hi
  obtain ⟨b1, b2, b3⟩ := hH.rel i _ hat
  obtain ⟨hA, hcap⟩ := hcur (by rw [b1, b2, symC_len])
  have hput : Put (Hp.of H) i (.vec 52 2 ((sortY l).flatMap symC)) (Hp.of (H.set i (.vec 52 2 ((sortY l).flatMap symC)))) := ⟨by simp [Hp.all, Hp.of], by simp [Hp.of], rfl, rfl⟩
  rcases b3 with ⟨-, hl0, -⟩ | ⟨b, cs, hbase, hheap, hsize, hcm, hlen, hrel, hown⟩
  · have hz : l = [] := by
      have := symC_len l
      rw [hl0] at this
      exact List.eq_nil_of_length_eq_zero (by simp at this; omega)
    subst hz
    have hc := AnyF.slices_SortFunc_none Tryz.sortf87 A cap (.func (.func 84) #[] #[]) w
    change Calls Tryz.prog 97 _ _ _ at hc
    refine hc.mono ?_
    rintro e w' ⟨rfl, rfl⟩
    have hset : H.set i (.vec 52 2 ((sortY []).flatMap symC)) = H := by
      apply List.ext_getElem?
      intro j
      rw [List.getElem?_set]
      by_cases hij : i = j
      · subst hij
        have := (List.getElem?_eq_some_iff.1 hi).1
        have hs0 : sortY [] = [] := by unfold sortY; simp
        simp only [if_true, this]
        rw [hi, hs0]
      · rw [if_neg hij]
    exact ⟨_, _, g, _, rfl, ⟨rfl, rfl⟩, by rw [hset]; exact hH, by simp [VRel, LRel], Ext.refl _ _⟩
  · rw [hbase] at hA
    simp only [Option.map_some] at hA
    subst hA
    have hpre := sym_of hrel
    have hlen2 : (l.flatMap symC).length = l.length * 2 := symC_len l
    have hH2 : HoldsK symV 2 w b 0 l.toArray := by
      unfold HoldsK
      rw [flatK_eq]
      intro j hj
      have hj2 : j < l.length * 2 := by
        have := symV_len l
        simp only [List.size_toArray] at hj
        omega
      have hjc : j < cs.size := by omega
      have hg : cs[j]? = some ((l.flatMap symV).toArray[j]!) := by
        have h1 : (cs.toList.take (l.flatMap symC).length)[j]? = (l.flatMap symV)[j]? := by rw [hpre]
        rw [List.getElem?_take, if_pos (by omega)] at h1
        have h2 : (l.flatMap symV)[j]? = some ((l.flatMap symV).toArray[j]!) := by
          have : j < (l.flatMap symV).length := by simpa using hj
          rw [getElem!_pos _ j hj]
          simp
        rw [h2] at h1
        simpa using h1
      refine ⟨cell_iff.2 ⟨cs, 52, (0, 0), hheap, by simpa using hg⟩, ?_⟩
      simp [World.frozen?, hheap]
    have hc := AnyQ.slices_SortFunc_total Tryz.sortf87 2 Tryz.isAgg52 Tryz.sizeOf52 symV (fun _ => rfl) (fun x v hv => by simp [symV] at hv; rcases hv with rfl | rfl <;> rfl) cSym swoSym 84 #[] b 0 cap l.toArray w (enters_of Tryz.func84 (by kernel_rfl) rfl) (clo76_lays b 0 _ w) hH2 (lt_size hheap) (by simp; omega) totSym
    change Calls Tryz.prog 97 _ _ _ at hc
    simp only [List.size_toArray] at hc
    refine hc.mono ?_
    rintro e w' ⟨rfl, q, os, rfl⟩
    have hsl : l.mergeSort (fun x y => !(ltOf cSym) y x) = sortY l := rfl
    rw [hsl]
    have hF : flatK symV 2 (sortY l).toArray = ((sortY l).flatMap symV).toArray := flatK_eq _
    have hFs : ((sortY l).flatMap symV).toArray.size ≤ cs.size := by
      rw [List.size_toArray, symV_len, sortY_len, ← hlen2]
      exact hlen
    obtain ⟨p1, p2⟩ := put_take ((sortY l).flatMap symV).toArray cs hFs
    have hw : ∀ k, (sortWorldK symV 2 w b 0 q (sortY l).toArray os).heap[k]? = if k < w.heap.size then (w.heap.modify b (onCells (putCells id 0 ((sortY l).flatMap symV).toArray)))[k]? else (os[k - w.heap.size]?) := by
      intro k
      unfold sortWorldK putRowK putRow mapBlock grow Sort.ahead
      rw [hF]
      simp only [Array.getElem?_append, Array.size_modify]
    obtain ⟨hH3, hX⟩ := hH.setVec (w' := sortWorldK symV 2 w b 0 q (sortY l).toArray os) (cs' := putCells id 0 ((sortY l).flatMap symV).toArray cs) hat hbase hheap (by
        rw [hw, if_pos (lt_size hheap), Array.getElem?_modify, if_pos rfl, hheap]
        rfl) p2 (fun k hk hkb => by
        rw [hw, if_pos hk, Array.getElem?_modify, if_neg (Ne.symm hkb)]) (size_sortWorldK_c symV 2 w b 0 q _ os) rfl rfl rfl (by
        have e1 : ((sortY l).flatMap symC).length = ((sortY l).flatMap symV).toArray.size := by rw [List.size_toArray, symV_len, symC_len]
        rw [e1, p1]
        exact sym_rel g w (sortY l)) (by rw [symC_len, symC_len, sortY_len]) hput
    exact ⟨_, _, g, _, rfl, ⟨rfl, rfl⟩, hH3, by simp [VRel, LRel], hX⟩
end Go.Proofs.YtejegcmnddedmaaGreatDoor
/-! text R02z -/
namespace Go.Proofs.YtejegcmnddedmaaGreatDoor
open Go.Vsi
set_option maxHeartbeats 2000000
attribute [local irreducible] VW VCall VO bits
theorem syms_below (n : Nat) (l : List Sym) : belowL n (l.flatMap symC) := belowL_flat _ fun x => by simp [symC, belowL, below]

/-! ### slices.SortedFunc(maps.Keys(m), ..) at symbols -/
theorem keys75_c (H : Heap) (i : Nat) : VCall Tryz.prog 83 [.mp i] H (fun r H' => r = .clo (.func 98) [] [.ptr (H.length + 0) 0] ∧ H' = H ++ [.box 75 [.mp i]]) := by
  refine fn_gen Tryz.E0 Tryz.mx Tryz.func83 (by kernel_rfl) rfl (Nat.le_of_ble_eq_true rfl) rfl fun hcl hbl => ?_
  (repeat' ((conv => whnf); (first | refine DrawN.mk' [] ?_ | fail))); all_goals (conv => whnf)
  exact EndN.keep _ (Wk.refl _) ⟨rfl, rfl⟩
def lsK (n0 : Nat) (n : Nat) (c : List AV) : Heap := [.box 47 [.vs (n0 + 1) n], .vec 52 2 c]
theorem app90_c (H : Heap) (i p : Nat) (ks : List Sym) (hl : ks.length ≤ 1000000000000) (hi : H[i]? = some (mpY ks)) (hp : H[p]? = some (.box 75 [.mp i])) :
    VCall Tryz.prog 100 [.nils, .clo (.func 98) [] [.ptr p 0]] H (fun r H' => ∃ ord : List Sym, ord.Perm ks ∧ r = .vs (H.length + 1) ord.length ∧ H' = H ++ [.box 47 [.vs (H.length + 1) ord.length], .vec 52 2 (ord.flatMap symC), .dead]) := by
  refine fn_gen Tryz.E0 Tryz.mx Tryz.func100 (by kernel_rfl) rfl (Nat.le_of_ble_eq_true rfl) rfl fun hcl hbl => ?_
  (repeat' ((conv => whnf); (first | refine DrawN.mk' [] ?_ | fail))); all_goals (conv => whnf)
  refine RangeN.vecB 0 0 52 2 rfl rfl rfl rfl rfl ?_
  refine range_keys rfl hcl rfl [2] _ rfl (by decide) rfl (by simp [belowRE, below, tr]) ks
    (fun acc : List Sym => lsK H.length acc.length (acc.flatMap symC)) (fun n acc => acc.length = n) (fun acc x => acc ++ [x]) [] rfl rfl p i hp hi (fun _ _ _ => rfl) ?_ (fun n acc x _ h _ => by simp [h]) ?_ ?_
  · intro n acc _ B hB
    simp only [lsK, List.mem_cons, List.not_mem_nil, or_false] at hB
    rcases hB with rfl | rfl
    · simp [Blk.below, belowL, below]
    · exact syms_below _ acc
  · intro n acc x Y hn hacc _
    obtain ⟨nm, ar⟩ := x
    have hl1 : (acc ++ [(nm, ar)]).length = acc.length + 1 := by simp
    have hf1 : (acc ++ [(nm, ar)]).flatMap symC = acc.flatMap symC ++ [.str nm, .int .i64 (ar : Nat)] := by simp [symC]
    have hb2 : ∀ B ∈ lsK H.length (acc ++ [(nm, ar)]).length ((acc ++ [(nm, ar)]).flatMap symC), B.below (H.length + 3) := by
      intro B hB
      simp only [lsK, List.mem_cons, List.not_mem_nil, or_false] at hB
      rcases hB with rfl | rfl
      · simp [Blk.below, belowL, below]
      · exact syms_below _ _
    have hbk : belowRE H.length (H.length + 3) [(2, .lp 0 0)] := by simp [belowRE, below, tr]
    rw [hl1, hf1] at hb2 ⊢
    have hcl := symC_len acc
    have hmx : acc.length + 1 ≤ maxLen := Nat.le_trans (show acc.length + 1 ≤ 1000000000001 by omega) (by decide)
    have hside : AppV acc.length 1 (1 + 1) 24 (acc.flatMap symC) [.str nm, .int .i64 (ar : Nat)] := ⟨hcl, rfl, rfl, by omega, hmx⟩
    generalize acc.flatMap symC = pc at *
    unfold lsK at hb2 ⊢
    simp only [symC]
    (repeat' ((conv => whnf); (first | refine DrawN.mk' [] ?_ | fail))); all_goals (conv => whnf)
    refine ⟨none, _, at_loc' Y rfl, set_loc3 rfl, ?_⟩
    generalize hB : Blk.loop LoopState.busy none _ _ = B
    (repeat' ((conv => whnf); (first | refine SetN.mk _ (set_loc3 rfl) ?_ | (refine SideN.mk ?_ ?_; · first | kernel_rfl | omega | exact List.cons_ne_nil _ _ | (simp; done) | (simp; omega) | exact trivial | assumption | fail) | (refine PtrN.id ?_; first | refine PtrN.base _ (by (repeat' (first | assumption | exact at_loc' _ rfl | exact at_loc0 rfl | refine at_set (B' := ?_) ?_ | refine at_base' ?_ | fail))) ?_ | fail) | refine DrawN.mk' [] ?_ | fail))); all_goals (conv => whnf)
    subst hB
    exact rnd_end (l' := [_, _]) .normal rfl rfl hb2 hbk
  · intro ord hperm hlen
    have hf : ord.foldl (fun acc x => acc ++ [x]) [] = ord := by
      have : ∀ (l a : List Sym), l.foldl (fun acc x => acc ++ [x]) a = a ++ l := by
        intro l
        induction l with
        | nil => intro a; simp
        | cons x l ih => intro a; rw [List.foldl_cons, ih]; simp
      rw [this]
      rfl
    rw [hf]
    unfold lsK
    (repeat' ((conv => whnf); (first | refine DrawN.mk' [] ?_ | fail))); all_goals (conv => whnf)
    exact EndN.keep _ (Wk.refl _) ⟨ord, hperm, rfl, rfl⟩
end Go.Proofs.YtejegcmnddedmaaGreatDoor
/-! text S02z -/
namespace Go.Proofs.YtejegcmnddedmaaGreatDoor
open Go.Vsi
set_option maxHeartbeats 2000000
attribute [local irreducible] VW VCall VO bits

theorem sortY_eq {l m : List Sym} (h : l.Perm m) : sortY l = sortY m := by
  have hA : ∀ x y, cSym y x = - cSym x y := fun x y => (ordSym x).anti y
  have hle : ∀ x y : Sym, (!(Go.Proofs.ltOf cSym) y x) = decide (cSym x y ≤ 0) := fun x y => by
    unfold Go.Proofs.ltOf
    rw [hA x y]
    by_cases h : cSym x y ≤ 0
    · simp [h]
    · simp [h]; omega
  have hp : (sortY l).Perm (sortY m) := ((sortY_perm l).trans h).trans (sortY_perm m).symm
  have hs : ∀ l : List Sym, (sortY l).Pairwise fun x y => cSym x y ≤ 0 := fun l => by
    have := List.pairwise_mergeSort (le := fun x y => !(Go.Proofs.ltOf cSym) y x) (fun a b c h1 h2 => by
      rw [hle] at h1 h2 ⊢
      simp only [decide_eq_true_eq] at *
      exact ((ordSym a).tr b c h1 h2).1) (fun a b => by
      rw [hle, hle, hA a b]
      simp
      omega) l
    refine this.imp fun {a b} h => ?_
    rw [hle] at h
    simpa using h
  exact hp.eq_of_pairwise (fun a b _ _ h1 h2 => (ordSym a).eq b (by have := hA a b; omega)) (hs l) (hs m)
theorem coll86_c (H : Heap) (i p : Nat) (ks : List Sym) (hl : ks.length ≤ 1000000000000) (hi : H[i]? = some (mpY ks)) (hp : H[p]? = some (.box 75 [.mp i])) :
    VCall Tryz.prog 96 [.clo (.func 98) [] [.ptr p 0]] H (fun r H' => ∃ ord : List Sym, ord.Perm ks ∧ r = .vs (H.length + 1) ord.length ∧ H' = H ++ [.box 47 [.vs (H.length + 1) ord.length], .vec 52 2 (ord.flatMap symC), .dead]) := by
  have h := app90_c H i p ks hl hi hp
  refine fn_gen Tryz.E0 Tryz.mx Tryz.func96 (by kernel_rfl) rfl (Nat.le_of_ble_eq_true rfl) rfl fun hcl hbl => ?_
  (repeat' ((conv => whnf); (first | refine DrawN.mk' [] ?_ | fail))); all_goals (conv => whnf)
  rw [← List.append_nil H] at h
  refine CallN.gen _ h ?_
  rw [List.append_nil]
  rintro r H' ⟨ord, hperm, rfl, rfl⟩
  refine ⟨H, 3, _, rfl, rfl, rfl, ?_⟩
  (repeat' ((conv => whnf); (first | refine DrawN.mk' [] ?_ | fail))); all_goals (conv => whnf)
  exact EndN.keep _ (Wk.refl _) ⟨ord, hperm, rfl, rfl⟩
theorem sf74_c (H : Heap) (i p : Nat) (ks : List Sym) (hl : ks.length ≤ 1000000000000) (hi : H[i]? = some (mpY ks)) (hp : H[p]? = some (.box 75 [.mp i])) :
    VDet Tryz.prog 82 [.clo (.func 98) [] [.ptr p 0], .clo (.func 84) [] []] H (.sl none ks.length ((sortY ks).flatMap symC)) := by
  have h := coll86_c H i p ks hl hi hp
  refine fn_det Tryz.E0 Tryz.mx Tryz.func82 (by kernel_rfl) rfl (Nat.le_of_ble_eq_true rfl) rfl fun hcl hbl => ?_
  (repeat' ((conv => whnf); (first | refine DrawN.mk' [] ?_ | fail))); all_goals (conv => whnf)
  rw [← List.append_nil H] at h
  refine CallN.gen _ h ?_
  rw [List.append_nil]
  rintro r H' ⟨ord, hperm, rfl, rfl⟩
  have hlen := hperm.length_eq
  have hs := sortY_eq hperm
  have h2 := sort87_c (H ++ [.box 47 [.vs (H.length + 1) ord.length], .vec 52 2 (ord.flatMap symC), .dead]) (H.length + 1) ord (by omega) (by simp)
  rw [set_loc'] at h2
  have h2 : VCall Tryz.prog 97 [.vs (H.length + 1) ord.length, .clo (.func 84) [] []] (H ++ [.box 47 [.vs (H.length + 1) ord.length], .vec 52 2 (ord.flatMap symC), .dead]) (fun r H' => r = .tup [] ∧ H' = H ++ [.box 47 [.vs (H.length + 1) ord.length], .vec 52 2 ((sortY ord).flatMap symC), .dead]) := h2
  refine ⟨H, 3, _, rfl, rfl, rfl, ?_⟩
  (repeat' ((conv => whnf); (first | refine CallN.fix _ _ _ 3 h2 rfl rfl ?_ | refine DrawN.mk' [] ?_ | fail))); all_goals (conv => whnf)
  refine EndN.detF (u' := .sl none ord.length ((sortY ord).flatMap symC)) (by simp [below, syms_below]) (Frz.vs rfl (by rw [symC_len, sortY_len]) (FrzL.refl _)) ?_
  rw [hlen, hs]
  exact Wk.refl _
theorem sorted47_c (H : Heap) (i : Nat) (ks : List Sym) (hl : ks.length ≤ 1000000000000) (hi : H[i]? = some (mpY ks)) : VDet Tryz.prog 54 [.mp i] H (.sl none ks.length ((sortY ks).flatMap symC)) := by
  have h1 : VCall Tryz.prog 83 [.mp i] (H ++ []) (fun r H' => r = .clo (.func 98) [] [.ptr (H.length + 0) 0] ∧ H' = (H ++ []) ++ [.box 75 [.mp i]]) := by
    rw [List.append_nil]
    exact keys75_c H i
  have h2 := sf74_c (H ++ [.box 75 [.mp i]]) i (H.length + 0) ks hl (at_base' hi) (by simp)
  refine fn_det Tryz.E0 Tryz.mx Tryz.func54 (by kernel_rfl) rfl (Nat.le_of_ble_eq_true rfl) rfl fun hcl hbl => ?_
  (repeat' ((conv => whnf); (first | (refine CallN.id ?_; first | refine CallN.det _ (h2) ?_ | fail) | refine CallN.grow _ _ _ 1 h1 rfl rfl rfl ?_ | refine DrawN.mk' [] ?_ | fail))); all_goals (conv => whnf)
  refine EndN.det ?_ (Wk.refl _)
  exact ⟨fun _ e => (nomatch e), syms_below _ _⟩
end Go.Proofs.YtejegcmnddedmaaGreatDoor
/-! text TA02z -/
namespace Go.Proofs.YtejegcmnddedmaaGreatDoor
open Go.Vsi
set_option maxHeartbeats 2000000

/-! ### syntax.Predicates -/
def memY (x : Sym) (ks : List Sym) : Bool := ks.any fun y => decide (x = y)
theorem memY_iff (x : Sym) (ks : List Sym) : memY x ks = true ↔ x ∈ ks := by
  unfold memY
  rw [List.any_eq_true]
  constructor
  · rintro ⟨y, h, e⟩
    rw [decide_eq_true_eq] at e
    exact e ▸ h
  · intro h
    exact ⟨x, h, by simp⟩
def insY (ks : List Sym) (x : Sym) : List Sym := if memY x ks = true then ks else ks ++ [x]
theorem ba_beq (a b : ByteArray) : (a.toList == b.toList) = decide (a = b) := by
  have h : a.toList = b.toList ↔ a = b := by
    constructor
    · intro h
      rw [ByteArray.toList_eq, ByteArray.toList_eq] at h
      exact ByteArray.ext (Array.toList_inj.1 h)
    · rintro rfl; rfl
  by_cases hab : a = b
  · subst hab; simp
  · rw [decide_eq_false hab, beq_eq_false_iff_ne]
    exact fun e => hab (h.1 e)
theorem eqSym (x y : Sym) : eqV Tryz.kn Tryz.T 20 52 (.agg (symC x)) (.agg (symC y)) = some (decide (x = y)) := by
  obtain ⟨a, n⟩ := x
  obtain ⟨b, m⟩ := y
  show some (a.toList == b.toList && ((n : Int) == (m : Int) && true)) = _
  rw [ba_beq, Bool.and_true]
  congr 1
  apply Bool.eq_iff_iff.2
  rw [Bool.and_eq_true, decide_eq_true_eq, decide_eq_true_eq, beq_iff_eq, Prod.mk.injEq]
  constructor
  · rintro ⟨h1, h2⟩; exact ⟨h1, by omega⟩
  · rintro ⟨h1, h2⟩; exact ⟨h1, by omega⟩
theorem mfindY (c : Sym) : ∀ ks : List Sym, (c ∈ ks → ∃ j, j < ks.length ∧ ks[j]? = some c ∧ mfind (eqV Tryz.kn Tryz.T 20 52) (.agg (symC c)) (ks.map fun x => .agg (symC x)) = some (some j)) ∧ (c ∉ ks → mfind (eqV Tryz.kn Tryz.T 20 52) (.agg (symC c)) (ks.map fun x => .agg (symC x)) = some none)
  | [] => ⟨fun h => by simp at h, fun _ => rfl⟩
  | d :: ks => by
    have he := eqSym c d
    obtain ⟨h1, h2⟩ := mfindY c ks
    simp only [List.map_cons, mfind, he]
    by_cases hcd : c = d
    · subst hcd
      simp only [decide_true]
      exact ⟨fun _ => ⟨0, by simp, rfl, rfl⟩, fun h => absurd (List.mem_cons_self) h⟩
    · have hb : decide (c = d) = false := by simpa using hcd
      simp only [hb]
      refine ⟨fun h => ?_, fun h => ?_⟩
      · obtain ⟨j, e1, e2, e3⟩ := h1 ((List.mem_cons.1 h).resolve_left hcd)
        exact ⟨j + 1, by simpa using e1, by simpa using e2, by rw [e3]⟩
      · rw [h2 fun q => h (List.mem_cons_of_mem _ q)]
theorem putY (c : Sym) (ks : List Sym) : MPut (eqV Tryz.kn Tryz.T 20 52) (ks.map fun x => .agg (symC x)) (ks.map fun _ => .bool true) (.agg (symC c)) (.bool true) ((insY ks c).map fun x => .agg (symC x)) ((insY ks c).map fun _ => .bool true) := by
  obtain ⟨h1, h2⟩ := mfindY c ks
  unfold insY
  by_cases h : c ∈ ks
  · rw [if_pos ((memY_iff c ks).2 h)]
    obtain ⟨j, e1, e2, e3⟩ := h1 h
    have := MPut.old (vs := ks.map fun _ => AV.bool true) (v := .bool true) j e3 (by rw [List.getElem?_map, e2]; rfl)
    have hs : (ks.map fun _ => AV.bool true).set j (.bool true) = ks.map fun _ => .bool true := by
      apply List.ext_getElem?
      intro i
      rw [List.getElem?_set]
      split
      · rename_i hi
        subst hi
        simp [e1]
      · rfl
    rwa [hs] at this
  · rw [if_neg (fun q => h ((memY_iff c ks).1 q))]
    have := MPut.new (vs := ks.map fun _ => AV.bool true) (v := .bool true) (h2 h)
    simpa using this
attribute [local irreducible] VW VCall VO bits
def stepY (ks : List Sym) (x : Fo) : List Sym × Option Code := match x with
  | .mk op s l _ => (if op = 1 then insY ks (s, l.length) else ks, none)
def predY (f : Fo) : List Sym := (foldB stepY [] (fpart f)).1
theorem stepY_none (l : List Fo) : ∀ ks, (foldB stepY ks l).2 = none := by
  induction l with
  | nil => intro ks; rfl
  | cons x l ih =>
    intro ks
    rw [foldB_cons]
    have hn : (stepY ks x).2.isNone = true := by cases x; rfl
    rw [hn, if_pos rfl]
    exact ih _
def lsY (n0 : Nat) (fc : List AV) (m : Blk) : Heap := [.box 25 fc, m, .box 75 [.mp (n0 + 1)], .box 25 fc]
theorem lsY_below (n0 : Nat) (f : Fo) (ks : List Sym) (N : Nat) (h : n0 + 4 ≤ N) : ∀ B ∈ lsY n0 f.cells (mpY ks), B.below N := by
  intro B hB
  have := fo_below N f
  simp only [lsY, List.mem_cons, List.not_mem_nil, or_false] at hB
  rcases hB with rfl | rfl | rfl | rfl
  · exact this
  · exact mpY_below _ _
  · simp [Blk.below, belowL, below]; omega
  · exact this
theorem pred_c (f : Fo) (hg : f.good) (hn : (predY f).length ≤ 1000000000000) (H : Heap) : VDet Tryz.prog 25 [.agg f.cells] H (.sl none (predY f).length ((sortY (predY f)).flatMap symC)) := by
  have hw := walk_c f (H ++ [.box 25 f.cells, mpY [], .box 75 [.mp (H.length + 1)]])
  rw [List.length_append] at hw
  have hce : ∃ o s ln lc mn mc, f.cells = [.int .u8 (o : Nat), .str s, .sl none ln lc, .sl none mn mc] := by
    obtain ⟨o, s, l, m, rfl⟩ := fo_ex f
    rw [Fo.cells_mk]
    exact ⟨_, _, _, _, _, _, rfl⟩
  obtain ⟨o, s, ln, lc, mn, mc, hce⟩ := hce
  have hjp := stepY_none (fpart f) []
  have hpr : predY f = (foldB stepY [] (fpart f)).1 := rfl
  rw [hce] at hw ⊢
  have hso := fun X => sorted47_c (H ++ (lsY H.length [.int .u8 o, .str s, .sl none ln lc, .sl none mn mc] (mpY (predY f)) ++ X)) (H.length + 1) (predY f) hn (by simp [lsY])
  refine fn_det Tryz.E0 Tryz.mx Tryz.func25 (by kernel_rfl) rfl (Nat.le_of_ble_eq_true rfl) rfl fun hcl hbl => ?_
  (repeat' ((conv => whnf); (first | refine CallN.grow _ _ _ 4 hw rfl rfl rfl ?_ | refine DrawN.mk' [] ?_ | fail))); all_goals (conv => whnf)
  refine range_walk clo_good f hg rfl hcl rfl [3] _ rfl (by decide) rfl (by simp [belowRE, below, tr])
    (fun ks : List Sym => lsY H.length [.int .u8 o, .str s, .sl none ln lc, .sl none mn mc] (mpY ks)) (fun _ => True) (fun _ => True) stepY [] trivial rfl 3 (by rw [hce]; rfl) (fun _ h => h) (fun _ _ => rfl) ?_ (fun _ _ h hx => ⟨trivial, fun _ => trivial⟩) ?_ ?_
  · intro ks _ B hB
    have h := lsY_below H.length f ks (H.length + 5) (by omega) B
    rw [hce] at h
    exact h hB
  · intro ks x Y _ hx
    obtain ⟨o2, t2, a2, m2, rfl⟩ := fo_ex x
    have hstep : stepY ks (.mk o2 t2 a2 m2) = (if o2 = 1 then insY ks (t2, a2.length) else ks, none) := rfl
    rw [hstep, Fo.cells_mk]
    have hb0 := lsY_below H.length f ks (H.length + 5) (by omega)
    have hb2 := lsY_below H.length f (insY ks (t2, a2.length)) (H.length + 5) (by omega)
    rw [hce] at hb0 hb2
    have hbk : belowRE H.length (H.length + 5) [(3, .lp (0 + 1 + 1) 0)] := by simp [belowRE, below, tr]
    have hput := putY (t2, a2.length) ks
    by_cases ho : o2 = 1
    · subst ho
      simp only [if_true]
      unfold lsY mpY at hb2 ⊢
      (repeat' ((conv => whnf); (first | refine DrawN.mk' [] ?_ | fail))); all_goals (conv => whnf)
      refine ⟨none, _, at_loc' Y rfl, set_loc3 rfl, ?_⟩
      generalize hB : Blk.loop LoopState.busy none _ _ = B
      (repeat' ((conv => whnf); (first | refine SetN.mk _ (set_loc3 rfl) ?_ | (refine IfN.id ?_; first | refine IfN.tt rfl ?_ | fail) | refine RelN.mk _ _ ⟨⟨_, rfl⟩, hput⟩ ?_ | (refine PtrN.id ?_; first | refine PtrN.base _ (by (repeat' (first | assumption | exact at_loc' _ rfl | exact at_loc0 rfl | refine at_set (B' := ?_) ?_ | refine at_base' ?_ | fail))) ?_ | fail) | refine DrawN.mk' [] ?_ | fail))); all_goals (conv => whnf)
      subst hB
      exact rnd_end (l' := [_, _, _, _]) .normal rfl rfl hb2 hbk
    · rw [if_neg ho]
      unfold lsY mpY at hb0 ⊢
      (repeat' ((conv => whnf); (first | refine DrawN.mk' [] ?_ | fail))); all_goals (conv => whnf)
      refine ⟨none, _, at_loc' Y rfl, set_loc3 rfl, ?_⟩
      generalize hB : Blk.loop LoopState.busy none _ _ = B
      (repeat' ((conv => whnf); (first | (refine IfN.id ?_; first | refine IfN.dF (by omega) ?_ | fail) | refine DrawN.mk' [] ?_ | fail))); all_goals (conv => whnf)
      subst hB
      exact rnd_end (l' := [_, _, _, _]) .normal rfl rfl hb0 hbk
  · rw [← hpr]
    generalize foldB stepY [] (fpart f) = res at *
    obtain ⟨ps, jp⟩ := res
    simp only at hjp ⊢
    subst hjp
    unfold lsY at hso ⊢
    generalize predY f = pf at *
    (repeat' ((conv => whnf); (first | (refine CallN.id ?_; first | refine CallN.det _ (hso _) ?_ | fail) | refine DrawN.mk' [] ?_ | fail))); all_goals (conv => whnf)
    refine EndN.det ?_ (Wk.refl _)
    exact ⟨fun _ e => (nomatch e), syms_below _ _⟩
end Go.Proofs.YtejegcmnddedmaaGreatDoor
/-! text TB02z -/
namespace Go.Proofs.YtejegcmnddedmaaGreatDoor
open Go.Vsi
set_option maxHeartbeats 2000000

/-! ### syntax.Functions -/
def stepW (ks : List Sym) (x : Tm) : List Sym × Bool := match x with
  | .mk v s l => (if v = true then ks else insY ks (s, l.length), true)
theorem stepW_true (l : List Tm) : ∀ ks, (foldE stepW ks l).2 = true := by
  induction l with
  | nil => intro ks; rfl
  | cons x l ih =>
    intro ks
    rw [foldE_cons]
    have hn : (stepW ks x).2 = true := by cases x; rfl
    rw [hn, if_pos rfl]
    exact ih _
def stepZ (ks : List Sym) (x : Fo) : List Sym × Option Code := ((foldE stepW ks (tparts (targs x))).1, none)
def funY (f : Fo) : List Sym := (foldB stepZ [] (fpart f)).1
theorem stepZ_none (l : List Fo) : ∀ ks, (foldB stepZ ks l).2 = none := by
  induction l with
  | nil => intro ks; rfl
  | cons x l ih =>
    intro ks
    rw [foldB_cons]
    have hn : (stepZ ks x).2.isNone = true := rfl
    rw [hn, if_pos rfl]
    exact ih _
attribute [local irreducible] VW VCall VO bits
theorem clo49_c (x : Tm) (ks : List Sym) (H : Heap) (i p : Nat) (hi : H[i]? = some (mpY ks)) (hp : H[p]? = some (.box 75 [.mp i])) :
    VCall Tryz.prog 56 [.agg x.cells, .ptr p 0] H (setR H i (mpY (stepW ks x).1) (.bool true)) := by
  obtain ⟨v, s, l, rfl⟩ := tm_ex x
  have hst : (stepW ks (.mk v s l)).1 = if v = true then ks else insY ks (s, l.length) := rfl
  rw [Tm.cells_mk, hst]
  have hput := putY (s, l.length) ks
  unfold mpY at hi ⊢
  cases v with
  | true =>
    simp only [if_true]
    refine fn_gen Tryz.E0 Tryz.mx Tryz.func56 (by kernel_rfl) rfl (Nat.le_of_ble_eq_true rfl) rfl fun hcl hbl => ?_
    (repeat' ((conv => whnf); (first | (refine IfN.id ?_; first | refine IfN.not ?_ | refine IfN.tt rfl ?_ | fail) | refine DrawN.mk' [] ?_ | fail))); all_goals (conv => whnf)
    exact EndN.same hi trivial (Wk.refl _)
  | false =>
    simp only [Bool.false_eq_true, if_false]
    refine fn_gen Tryz.E0 Tryz.mx Tryz.func56 (by kernel_rfl) rfl (Nat.le_of_ble_eq_true rfl) rfl fun hcl hbl => ?_
    (repeat' ((conv => whnf); (first | (refine IfN.id ?_; first | refine IfN.not ?_ | refine IfN.ff rfl ?_ | fail) | refine SetN.mk _ rfl ?_ | refine RelN.mk _ _ ⟨⟨_, rfl⟩, hput⟩ ?_ | (refine PtrN.id ?_; first | refine PtrN.base _ (by (repeat' (first | assumption | exact at_loc' _ rfl | exact at_loc0 rfl | refine at_set (B' := ?_) ?_ | refine at_base' ?_ | fail))) ?_ | fail) | refine DrawN.mk' [] ?_ | fail))); all_goals (conv => whnf)
    exact EndN.setB (mpY_below _ _) trivial (Wk.refl _)
theorem fun_vis (base : Heap) (ls : List Sym → Heap) (a b N : Nat) (hN : ∀ n, (base ++ ls n).length = N) (low : ∀ n, ∀ B ∈ base ++ ls n, B.below N) (ha : ∀ n, lget (ls n) a = some (mpY n)) (hb : ∀ n, lget (ls n) b = some (.box 75 [.mp (base.length + a)])) (hset : ∀ n m, (ls n).set a (mpY m) = ls m) :
    Vis (.func 56) [.ptr (base.length + b) 0] Tm.cells Tm.good (fun n => base ++ ls n) N (fun _ => True) (fun _ => True) stepW := by
  refine ⟨fun _ _ => trivial, fun n _ => hN n, fun n _ => low n, fun _ _ _ _ => ⟨trivial, fun _ => trivial⟩, fun n x Y _ _ => ?_⟩
  have h := clo49_c x n ((base ++ ls n) ++ Y) (base.length + a) (base.length + b) (at_loc' Y (ha n)) (at_loc' Y (hb n))
  refine VCall.mono h ?_
  rintro r H' ⟨rfl, rfl⟩
  have ht : (stepW n x).2 = true := by cases x; rfl
  refine ⟨by rw [ht], ?_⟩
  rw [set_loc3 (ha n), hset]
theorem func_c (f : Fo) (hg : f.good) (hn : (funY f).length ≤ 1000000000000) (H : Heap) : VDet Tryz.prog 26 [.agg f.cells] H (.sl none (funY f).length ((sortY (funY f)).flatMap symC)) := by
  have hw := walk_c f (H ++ [.box 25 f.cells, mpY [], .box 75 [.mp (H.length + 1)]])
  rw [List.length_append] at hw
  have hce : ∃ o s ln lc mn mc, f.cells = [.int .u8 (o : Nat), .str s, .sl none ln lc, .sl none mn mc] := by
    obtain ⟨o, s, l, m, rfl⟩ := fo_ex f
    rw [Fo.cells_mk]
    exact ⟨_, _, _, _, _, _, rfl⟩
  obtain ⟨o, s, ln, lc, mn, mc, hce⟩ := hce
  have hjp := stepZ_none (fpart f) []
  have hpr : funY f = (foldB stepZ [] (fpart f)).1 := rfl
  rw [hce] at hw ⊢
  have hso := fun X => sorted47_c (H ++ (lsY H.length [.int .u8 o, .str s, .sl none ln lc, .sl none mn mc] (mpY (funY f)) ++ X)) (H.length + 1) (funY f) hn (by simp [lsY])
  refine fn_det Tryz.E0 Tryz.mx Tryz.func26 (by kernel_rfl) rfl (Nat.le_of_ble_eq_true rfl) rfl fun hcl hbl => ?_
  (repeat' ((conv => whnf); (first | refine CallN.grow _ _ _ 4 hw rfl rfl rfl ?_ | refine DrawN.mk' [] ?_ | fail))); all_goals (conv => whnf)
  refine range_walk clo_good f hg rfl hcl rfl [3] _ rfl (by decide) rfl (by simp [belowRE, below, tr])
    (fun ks : List Sym => lsY H.length [.int .u8 o, .str s, .sl none ln lc, .sl none mn mc] (mpY ks)) (fun _ => True) (fun _ => True) stepZ [] trivial rfl 3 (by rw [hce]; rfl) (fun _ h => h) (fun _ _ => rfl) ?_ (fun _ _ h hx => ⟨trivial, fun _ => trivial⟩) ?_ ?_
  · intro ks _ B hB
    have h := lsY_below H.length f ks (H.length + 5) (by omega) B
    rw [hce] at h
    exact h hB
  · intro ks x Y _ hx
    obtain ⟨o2, t2, a2, m2, rfl⟩ := fo_ex x
    rw [Fo.cells_mk]
    have hb0 := fun ks => lsY_below H.length f ks (H.length + 5) (by omega)
    rw [hce] at hb0
    have hbk : belowRE H.length (H.length + 5) [(3, .lp (0 + 1 + 1) 0)] := by simp [belowRE, below, tr]
    have hst : stepZ ks (.mk o2 t2 a2 m2) = ((foldE stepW ks (tparts a2)).1, none) := rfl
    have htr := stepW_true (tparts a2) ks
    rw [hst]
    unfold lsY at hb0 ⊢
    (repeat' ((conv => whnf); (first | refine DrawN.mk' [] ?_ | fail))); all_goals (conv => whnf)
    refine ⟨none, _, at_loc' Y rfl, set_loc3 rfl, ?_⟩
    generalize hB : Blk.loop LoopState.busy none _ _ = B
    have hBb : B.below (H.length + 5) := hB ▸ get_below hbk
    have hv := fun_vis H (fun n => [.box 25 [.int .u8 o, .str s, .sl none ln lc, .sl none mn mc], mpY n, .box 75 [.mp (H.length + 1)], .box 25 [.int .u8 o, .str s, .sl none ln lc, .sl none mn mc], B]) 1 2 (H.length + 5) (fun _ => by simp) (fun n C hC => by
      rcases List.mem_append.1 hC with h | h
      · obtain ⟨j, hj⟩ := List.getElem?_of_mem h
        exact Blk.below_mono (by omega) (hcl j C hj)
      · have := hb0 n C
        simp only [List.mem_cons, List.not_mem_nil, or_false] at h this
        rcases h with rfl | rfl | rfl | rfl | rfl
        · exact this (.inl rfl)
        · exact mpY_below _ _
        · simp [Blk.below, belowL, below]
        · exact this (.inl rfl)
        · exact hBb) (fun _ => rfl) (fun _ => rfl) (fun _ _ => rfl)
    have hvt := fun X => visitTerms_c hv (by simp) a2 (maxLen_le hx.2.2.1) hx.2.2.2.1 ks X trivial
    rw [htr] at hvt
    generalize (foldE stepW ks (tparts a2)).1 = k2 at hvt ⊢
    have hvt2 : ∀ Z : Heap, VCall Tryz.prog 55 [.sl none a2.length (a2.flatMap Tm.cells), .clo (.func 56) [] [.ptr (H.length + 2) 0]] (((H ++ [.box 25 [.int .u8 o, .str s, .sl none ln lc, .sl none mn mc], mpY ks, .box 75 [.mp (H.length + 1)], .box 25 [.int .u8 o, .str s, .sl none ln lc, .sl none mn mc], B]) ++ Y) ++ Z) (fun r H' => r = .bool true ∧ H' = ((H ++ [.box 25 [.int .u8 o, .str s, .sl none ln lc, .sl none mn mc], mpY k2, .box 75 [.mp (H.length + 1)], .box 25 [.int .u8 o, .str s, .sl none ln lc, .sl none mn mc], B]) ++ Y) ++ Z) := fun Z => by
      have := hvt (Y ++ Z)
      simpa only [List.append_assoc] using this
    clear hvt
    (repeat' ((conv => whnf); (first | refine CallN.fix _ _ _ _ (hvt2 _) (by simp) rfl ?_ | refine DrawN.mk' [] ?_ | fail))); all_goals (conv => whnf)
    subst hB
    exact rnd_end (l' := [_, _, _, _]) .normal rfl rfl (hb0 k2) hbk
  · rw [← hpr]
    generalize foldB stepZ [] (fpart f) = res at *
    obtain ⟨ps, jp⟩ := res
    simp only at hjp ⊢
    subst hjp
    unfold lsY at hso ⊢
    generalize funY f = pf at *
    (repeat' ((conv => whnf); (first | (refine CallN.id ?_; first | refine CallN.det _ (hso _) ?_ | fail) | refine DrawN.mk' [] ?_ | fail))); all_goals (conv => whnf)
    refine EndN.det ?_ (Wk.refl _)
    exact ⟨fun _ e => (nomatch e), syms_below _ _⟩
end Go.Proofs.YtejegcmnddedmaaGreatDoor
/-! text TC02z -/
namespace Go.Proofs.YtejegcmnddedmaaGreatDoor
open Go.Vsi
set_option maxHeartbeats 2000000
attribute [local irreducible] VW VCall VO bits

/-! ### syntax.Meta at the names that the law looks at -/
theorem ext1 : ∀ b : UInt8, (⟨#[63, b]⟩ : ByteArray).extract 0 1 = ⟨#[63]⟩ := fun b => rfl
theorem ext2 : ∀ b : UInt8, (⟨#[63, b]⟩ : ByteArray).extract 1 2 = ⟨#[b]⟩ := fun b => rfl
theorem pre_c (b : UInt8) (H : Heap) : VDet Tryz.prog 99 [.str ⟨#[63, b]⟩, .str ⟨#[63]⟩] H (.bool true) := by
  refine fn_det Tryz.E0 Tryz.mx Tryz.func99 (by kernel_rfl) rfl (Nat.le_of_ble_eq_true rfl) rfl fun hcl hbl => ?_
  (repeat' ((conv => whnf); (first | (refine IfN.id ?_; first | refine IfN.tt rfl ?_ | fail) | refine NatN.mk _ rfl ?_ | refine SideN.mk ⟨Nat.zero_le _, Nat.le_of_ble_eq_true rfl⟩ ?_ | refine DrawN.mk' [] ?_ | fail))); all_goals (conv => whnf)
  refine EndN.det trivial (Wk.of_eq (congrArg AV.bool ?_))
  show ((⟨#[63, b]⟩ : ByteArray).extract 0 1).toList == (⟨#[63]⟩ : ByteArray).toList
  rw [ext1]
  exact beq_self_eq_true _
theorem pre81_c (b : UInt8) (H : Heap) : VDet Tryz.prog 91 [.str ⟨#[63, b]⟩, .str ⟨#[63]⟩] H (.bool true) := by
  have h := pre_c b
  refine fn_det Tryz.E0 Tryz.mx Tryz.func91 (by kernel_rfl) rfl (Nat.le_of_ble_eq_true rfl) rfl fun hcl hbl => ?_
  (repeat' ((conv => whnf); (first | (refine CallN.id ?_; first | refine CallN.det _ (h _) ?_ | fail) | refine DrawN.mk' [] ?_ | fail))); all_goals (conv => whnf)
  exact EndN.det trivial (Wk.refl _)
theorem fmeta_c (b : UInt8) (H : Heap) : VDet Tryz.prog 68 [.str ⟨#[63, b]⟩] H (.bool (isPred ⟨#[b]⟩)) := by
  have h := pre81_c b
  have h2 := predicate_g ⟨#[b]⟩ (by show 1 ≤ _; omega)
  have h2 : ∀ H, VDet Tryz.prog 92 [.str ((⟨#[63, b]⟩ : ByteArray).extract 1 2)] H (.bool (isPred ⟨#[b]⟩)) := fun H => by rw [ext2]; exact h2 H
  generalize isPred ⟨#[b]⟩ = r at *
  refine fn_det Tryz.E0 Tryz.mx Tryz.func68 (by kernel_rfl) rfl (Nat.le_of_ble_eq_true rfl) rfl fun hcl hbl => ?_
  (repeat' ((conv => whnf); (first | (refine IfN.id ?_; first | refine IfN.tt rfl ?_ | fail) | refine NatN.mk _ rfl ?_ | (refine CallN.id ?_; first | refine CallN.det _ (h _) ?_ | refine CallN.det _ (h2 _) ?_ | fail) | refine SideN.mk ⟨Nat.le_of_ble_eq_true rfl, Nat.le_of_ble_eq_true rfl⟩ ?_ | refine DrawN.mk' [] ?_ | fail))); all_goals (conv => whnf)
  all_goals exact EndN.det trivial (Wk.refl _)
theorem tmeta_c (b : UInt8) (H : Heap) : VDet Tryz.prog 69 [.str ⟨#[63, b]⟩] H (.bool (isFun ⟨#[b]⟩)) := by
  have h := pre81_c b
  have h2 := function_g ⟨#[b]⟩ (by show 1 ≤ _; omega)
  have h2 : ∀ H, VDet Tryz.prog 32 [.str ((⟨#[63, b]⟩ : ByteArray).extract 1 2)] H (.bool (isFun ⟨#[b]⟩)) := fun H => by rw [ext2]; exact h2 H
  generalize isFun ⟨#[b]⟩ = r at *
  refine fn_det Tryz.E0 Tryz.mx Tryz.func69 (by kernel_rfl) rfl (Nat.le_of_ble_eq_true rfl) rfl fun hcl hbl => ?_
  (repeat' ((conv => whnf); (first | (refine IfN.id ?_; first | refine IfN.tt rfl ?_ | fail) | refine NatN.mk _ rfl ?_ | (refine CallN.id ?_; first | refine CallN.det _ (h _) ?_ | refine CallN.det _ (h2 _) ?_ | fail) | refine SideN.mk ⟨Nat.le_of_ble_eq_true rfl, Nat.le_of_ble_eq_true rfl⟩ ?_ | refine DrawN.mk' [] ?_ | fail))); all_goals (conv => whnf)
  all_goals exact EndN.det trivial (Wk.refl _)
theorem meta_c (b : UInt8) (H : Heap) : VDet Tryz.prog 33 [.str ⟨#[63, b]⟩] H (.bool (isPred ⟨#[b]⟩ || isFun ⟨#[b]⟩)) := by
  have h1 := fmeta_c b
  have h2 := tmeta_c b
  generalize isPred ⟨#[b]⟩ = r at *
  generalize isFun ⟨#[b]⟩ = q at *
  cases r with
  | true =>
    refine fn_det Tryz.E0 Tryz.mx Tryz.func33 (by kernel_rfl) rfl (Nat.le_of_ble_eq_true rfl) rfl fun hcl hbl => ?_
    (repeat' ((conv => whnf); (first | (refine IfN.id ?_; first | refine IfN.tt rfl ?_ | fail) | (refine CallN.id ?_; first | refine CallN.det _ (h1 _) ?_ | fail) | refine DrawN.mk' [] ?_ | fail))); all_goals (conv => whnf)
    exact EndN.det trivial (Wk.refl _)
  | false =>
    refine fn_det Tryz.E0 Tryz.mx Tryz.func33 (by kernel_rfl) rfl (Nat.le_of_ble_eq_true rfl) rfl fun hcl hbl => ?_
    (repeat' ((conv => whnf); (first | (refine IfN.id ?_; first | refine IfN.ff rfl ?_ | fail) | (refine CallN.id ?_; first | refine CallN.det _ (h1 _) ?_ | refine CallN.det _ (h2 _) ?_ | fail) | refine DrawN.mk' [] ?_ | fail))); all_goals (conv => whnf)
    exact EndN.det trivial (Wk.refl _)
theorem ne_words (s : ByteArray) (h : s.size < 3) : isRes s = false := by
  have key : ∀ l : Array UInt8, 3 ≤ l.size → wordE s l = false := fun l hl => by
    unfold wordE
    rw [ba_beq, decide_eq_false_iff_not]
    rintro rfl
    have : (⟨l⟩ : ByteArray).size = l.size := rfl
    omega
  unfold isRes
  simp only [Bool.or_eq_false_iff]
  exact ⟨key _ (by decide), key _ (by decide), key _ (by decide), key _ (by decide), key _ (by decide), key _ (by decide)⟩
end Go.Proofs.YtejegcmnddedmaaGreatDoor
/-! text TD02z -/
namespace Go.Proofs.YtejegcmnddedmaaGreatDoor
open Go.Vsi
set_option maxHeartbeats 2000000
attribute [local irreducible] VW VCall VO bits

/-! ### the law's example -/
theorem term_c (b : UInt8) (n : Nat) (lc : List AV) (hb : ∀ m, belowL m lc) (H : Heap) : VDet Tryz.prog 13 [.str ⟨#[b]⟩, .sl none n lc] H (.agg [.bool (decide ((117 : Int) ≤ b.toNat)), .str ⟨#[b]⟩, .sl none n lc]) := by
  have hbt : (⟨#[b]⟩ : ByteArray)[(0 : Int).toNat]? = some b := rfl
  refine fn_det Tryz.E0 Tryz.mx Tryz.func13 (by kernel_rfl) rfl (Nat.le_of_ble_eq_true rfl) rfl fun hcl hbl => ?_
  (repeat' ((conv => whnf); (first | (refine SideN.mk ?_ ?_; · first | kernel_rfl | omega | exact List.cons_ne_nil _ _ | (simp; done) | (simp; omega) | exact trivial | assumption | fail) | refine ByteN.mk _ hbt ?_ | refine DrawN.mk' [] ?_ | fail))); all_goals (conv => whnf)
  refine EndN.det ?_ (Wk.refl _)
  exact ⟨trivial, trivial, ⟨fun _ e => (nomatch e), hb _⟩, trivial⟩
theorem atom_c (s : ByteArray) (n : Nat) (lc : List AV) (hb : ∀ m, belowL m lc) (H : Heap) : VDet Tryz.prog 12 [.str s, .sl none n lc] H (.agg [.int .u8 1, .str s, .sl none n lc, .sl none 0 []]) := by
  refine fn_det Tryz.E0 Tryz.mx Tryz.func12 (by kernel_rfl) rfl (Nat.le_of_ble_eq_true rfl) rfl fun hcl hbl => ?_
  (repeat' ((conv => whnf); (first | refine DrawN.mk' [] ?_ | fail))); all_goals (conv => whnf)
  refine EndN.det ?_ (by (repeat' (first | exact trivial | refine And.intro ?_ ?_ | exact Wk.refl _ | exact wk_sl _ _ _ | exact wk_sx _ _ | exact wk_nils | refine wk_agg ?_ | refine wk_tup ?_ | fail)); done)
  exact ⟨trivial, trivial, ⟨fun _ e => (nomatch e), hb _⟩, ⟨fun _ e => (nomatch e), trivial⟩, trivial⟩
theorem of_c (k : Int) (s : ByteArray) (n : Nat) (lc : List AV) (hb : ∀ m, belowL m lc) (H : Heap) : VDet Tryz.prog 52 [.int .u8 k, .str s, .sl none n lc] H (.agg [.int .u8 k, .str s, .sl none 0 [], .sl none n lc]) := by
  refine fn_det Tryz.E0 Tryz.mx Tryz.func52 (by kernel_rfl) rfl (Nat.le_of_ble_eq_true rfl) rfl fun hcl hbl => ?_
  (repeat' ((conv => whnf); (first | refine DrawN.mk' [] ?_ | fail))); all_goals (conv => whnf)
  refine EndN.det ?_ (by (repeat' (first | exact trivial | refine And.intro ?_ ?_ | exact Wk.refl _ | exact wk_sl _ _ _ | exact wk_sx _ _ | exact wk_nils | refine wk_agg ?_ | refine wk_tup ?_ | fail)); done)
  exact ⟨trivial, trivial, ⟨fun _ e => (nomatch e), trivial⟩, ⟨fun _ e => (nomatch e), hb _⟩, trivial⟩
def tX : Tm := .mk true ⟨#[120]⟩ []
def tA : Tm := .mk false ⟨#[97]⟩ []
def tF : Tm := .mk false ⟨#[102]⟩ [tA]
def gP : Fo := .mk 1 ⟨#[80]⟩ [tX, tF] []
def gQ : Fo := .mk 1 ⟨#[81]⟩ [] []
def gN : Fo := .mk 3 ⟨#[]⟩ [] [gQ]
def gA : Fo := .mk 4 ⟨#[]⟩ [] [gP, gN]
def exF : Fo := .mk 9 ⟨#[120]⟩ [] [gA]
theorem tX_c : tX.cells = [.bool true, .str ⟨#[120]⟩, .sl none 0 []] := by unfold tX; rw [Tm.cells_mk]; rfl
theorem tA_c : tA.cells = [.bool false, .str ⟨#[97]⟩, .sl none 0 []] := by unfold tA; rw [Tm.cells_mk]; rfl
theorem tF_c : tF.cells = [.bool false, .str ⟨#[102]⟩, .sl none 1 tA.cells] := by unfold tF; rw [Tm.cells_mk]; simp
theorem gP_c : gP.cells = [.int .u8 1, .str ⟨#[80]⟩, .sl none 2 (tX.cells ++ tF.cells), .sl none 0 []] := by unfold gP; rw [Fo.cells_mk]; simp
theorem gQ_c : gQ.cells = [.int .u8 1, .str ⟨#[81]⟩, .sl none 0 [], .sl none 0 []] := by unfold gQ; rw [Fo.cells_mk]; simp
theorem gN_c : gN.cells = [.int .u8 3, .str ⟨#[]⟩, .sl none 0 [], .sl none 1 gQ.cells] := by unfold gN; rw [Fo.cells_mk]; simp
theorem gA_c : gA.cells = [.int .u8 4, .str ⟨#[]⟩, .sl none 0 [], .sl none 2 (gP.cells ++ gN.cells)] := by unfold gA; rw [Fo.cells_mk]; simp
theorem exF_c : exF.cells = [.int .u8 9, .str ⟨#[120]⟩, .sl none 0 [], .sl none 1 gA.cells] := by unfold exF; rw [Fo.cells_mk]; simp
theorem tm_belowC (n : Nat) (x : Tm) : belowL n x.cells := by
  obtain ⟨v, s, l, rfl⟩ := tm_ex x
  rw [Tm.cells_mk]
  exact ⟨trivial, trivial, ⟨fun _ e => (nomatch e), tms_below _ _⟩, trivial⟩
theorem belowL_app {n : Nat} {l m : List AV} (h1 : belowL n l) (h2 : belowL n m) : belowL n (l ++ m) := (belowL_append _ _).2 ⟨h1, h2⟩
theorem ex_c (H : Heap) : VDet Tryz.prog 23 [] H (.agg exF.cells) := by
  have hx : ∀ H, VDet Tryz.prog 13 [.str ⟨#[120]⟩, .nils] H (.agg [.bool true, .str ⟨#[120]⟩, .sl none 0 []]) := fun H => (term_c 120 0 [] (fun _ => trivial) H).wk (by (repeat' (first | exact trivial | refine And.intro ?_ ?_ | exact Wk.refl _ | exact wk_sl _ _ _ | exact wk_sx _ _ | exact wk_nils | refine wk_agg ?_ | refine wk_tup ?_ | fail)); done)
  have ha : ∀ H, VDet Tryz.prog 13 [.str ⟨#[97]⟩, .nils] H (.agg [.bool false, .str ⟨#[97]⟩, .sl none 0 []]) := fun H => (term_c 97 0 [] (fun _ => trivial) H).wk (by (repeat' (first | exact trivial | refine And.intro ?_ ?_ | exact Wk.refl _ | exact wk_sl _ _ _ | exact wk_sx _ _ | exact wk_nils | refine wk_agg ?_ | refine wk_tup ?_ | fail)); done)
  have hf : ∀ H, VDet Tryz.prog 13 [.str ⟨#[102]⟩, .sx 1 tA.cells] H (.agg [.bool false, .str ⟨#[102]⟩, .sl none 1 tA.cells]) := fun H => (term_c 102 1 tA.cells (fun m => tm_belowC m tA) H).wk (by (repeat' (first | exact trivial | refine And.intro ?_ ?_ | exact Wk.refl _ | exact wk_sl _ _ _ | exact wk_sx _ _ | exact wk_nils | refine wk_agg ?_ | refine wk_tup ?_ | fail)); done)
  have hP : ∀ H, VDet Tryz.prog 12 [.str ⟨#[80]⟩, .sx 2 (tX.cells ++ tF.cells)] H (.agg [.int .u8 1, .str ⟨#[80]⟩, .sl none 2 (tX.cells ++ tF.cells), .sl none 0 []]) := fun H => (atom_c _ 2 _ (fun m => belowL_app (tm_belowC m tX) (tm_belowC m tF)) H).wk (by (repeat' (first | exact trivial | refine And.intro ?_ ?_ | exact Wk.refl _ | exact wk_sl _ _ _ | exact wk_sx _ _ | exact wk_nils | refine wk_agg ?_ | refine wk_tup ?_ | fail)); done)
  have hQ : ∀ H, VDet Tryz.prog 12 [.str ⟨#[81]⟩, .nils] H (.agg [.int .u8 1, .str ⟨#[81]⟩, .sl none 0 [], .sl none 0 []]) := fun H => (atom_c _ 0 [] (fun m => trivial) H).wk (by (repeat' (first | exact trivial | refine And.intro ?_ ?_ | exact Wk.refl _ | exact wk_sl _ _ _ | exact wk_sx _ _ | exact wk_nils | refine wk_agg ?_ | refine wk_tup ?_ | fail)); done)
  have hN : ∀ H, VDet Tryz.prog 52 [.int .u8 3, .str ⟨#[]⟩, .sx 1 gQ.cells] H (.agg [.int .u8 3, .str ⟨#[]⟩, .sl none 0 [], .sl none 1 gQ.cells]) := fun H => (of_c _ _ 1 gQ.cells (fun m => fo_below m gQ) H).wk (by (repeat' (first | exact trivial | refine And.intro ?_ ?_ | exact Wk.refl _ | exact wk_sl _ _ _ | exact wk_sx _ _ | exact wk_nils | refine wk_agg ?_ | refine wk_tup ?_ | fail)); done)
  have hA : ∀ H, VDet Tryz.prog 52 [.int .u8 4, .str ⟨#[]⟩, .sx 2 (gP.cells ++ gN.cells)] H (.agg [.int .u8 4, .str ⟨#[]⟩, .sl none 0 [], .sl none 2 (gP.cells ++ gN.cells)]) := fun H => (of_c _ _ 2 _ (fun m => belowL_app (fo_below m gP) (fo_below m gN)) H).wk (by (repeat' (first | exact trivial | refine And.intro ?_ ?_ | exact Wk.refl _ | exact wk_sl _ _ _ | exact wk_sx _ _ | exact wk_nils | refine wk_agg ?_ | refine wk_tup ?_ | fail)); done)
  have hE : ∀ H, VDet Tryz.prog 52 [.int .u8 9, .str ⟨#[120]⟩, .sx 1 gA.cells] H (.agg [.int .u8 9, .str ⟨#[120]⟩, .sl none 0 [], .sl none 1 gA.cells]) := fun H => (of_c _ _ 1 gA.cells (fun m => fo_below m gA) H).wk (by (repeat' (first | exact trivial | refine And.intro ?_ ?_ | exact Wk.refl _ | exact wk_sl _ _ _ | exact wk_sx _ _ | exact wk_nils | refine wk_agg ?_ | refine wk_tup ?_ | fail)); done)
  have hbel := fo_below H.length exF
  rw [exF_c] at hbel ⊢
  rw [gA_c] at hE hbel ⊢
  rw [gP_c, gN_c] at hA hE hbel ⊢
  rw [gQ_c] at hN hA hE hbel ⊢
  rw [tX_c, tF_c] at hP hA hE hbel ⊢
  rw [tA_c] at hf hP hA hE hbel ⊢
  simp only [List.cons_append, List.nil_append] at hP hA hE hbel ⊢
  refine fn_det Tryz.E0 Tryz.mx Tryz.func23 (by kernel_rfl) rfl (Nat.le_of_ble_eq_true rfl) rfl fun hcl hbl => ?_
  (repeat' ((conv => whnf); (first | (refine CallN.id ?_; first | refine CallN.det _ (hx _) ?_ | refine CallN.det _ (ha _) ?_ | refine CallN.det _ (hf _) ?_ | refine CallN.det _ (hP _) ?_ | refine CallN.det _ (hQ _) ?_ | refine CallN.det _ (hN _) ?_ | refine CallN.det _ (hA _) ?_ | refine CallN.det _ (hE _) ?_ | fail) | refine DrawN.mk' [] ?_ | fail))); all_goals (conv => whnf)
  refine EndN.det ?_ (Wk.refl _)
  exact hbel
end Go.Proofs.YtejegcmnddedmaaGreatDoor
/-! text TE02z -/
namespace Go.Proofs.YtejegcmnddedmaaGreatDoor
open Go.Vsi
set_option maxHeartbeats 2000000

theorem exF_parts : fpart exF = [exF, gA, gP, gN, gQ] := by
  simp [exF, gA, gP, gN, gQ, fpart_mk, fparts_cons, fparts_nil]
theorem exF_good : exF.good := by
  simp [exF, gA, gP, gN, gQ, tX, tF, tA, Fo.good, Fo.goodL, Tm.good, Tm.goodL, maxLen]
  decide
theorem exF_fit : exF.fit := by
  simp [exF, gA, gP, gN, gQ, tX, tF, tA, Fo.fit, Fo.fitL, Tm.fit, Tm.fitL, capB]
  decide
theorem exF_find : findF exF [0, 1, 0] = some gQ := by kernel_rfl
theorem exF_dep : depF exF = 5 := by kernel_rfl
theorem exF_right : (jF 1 exF 400).2 = true := by kernel_rfl
theorem exF_pred : predY exF = [(⟨#[80]⟩, 2), (⟨#[81]⟩, 0)] := by
  unfold predY
  rw [exF_parts]
  rfl
theorem exF_fun : funY exF = [(⟨#[102]⟩, 1), (⟨#[97]⟩, 0)] := by
  unfold funY
  rw [exF_parts]
  kernel_rfl
theorem exF_cnt : cntF 9223372036854775807 exF = 8 := by
  unfold cntF
  rw [exF_parts]
  kernel_rfl
theorem exF_cnt2 : cntF 1000 exF = 8 := by
  unfold cntF
  rw [exF_parts]
  kernel_rfl
theorem exF_partsF : partsF exF = [exF, gA, gP, gN, gQ] := by
  unfold partsF
  rw [exF_cnt2, if_neg (by omega), exF_parts]
  kernel_rfl
theorem sortY_of {l : List Sym} (h : l.Pairwise fun x y => cSym x y ≤ 0) : sortY l = l := by
  refine List.mergeSort_of_pairwise (h.imp fun {a b} hab => ?_)
  unfold Go.Proofs.ltOf
  have := (ordSym a).anti b
  simp
  omega
theorem exF_spred : sortY (predY exF) = [(⟨#[80]⟩, 2), (⟨#[81]⟩, 0)] := by
  rw [exF_pred]
  refine sortY_of ?_
  refine List.pairwise_pair.2 ?_
  decide
theorem exF_sfun : sortY (funY exF) = [(⟨#[97]⟩, 0), (⟨#[102]⟩, 1)] := by
  rw [exF_fun, sortY_eq (List.Perm.swap _ _ _)]
  refine sortY_of ?_
  refine List.pairwise_pair.2 ?_
  decide
theorem vx10 : isVar ⟨#[120, 49, 48]⟩ = true := by kernel_rfl
theorem vxy : isVar ⟨#[120, 121]⟩ = false := by kernel_rfl
theorem fnext1 : isFun ⟨#[110, 101, 120, 116, 49]⟩ = true := by kernel_rfl
theorem fall : isFun ⟨#[97, 108, 108]⟩ = false := by kernel_rfl
theorem mt : (isPred ⟨#[116]⟩ || isFun ⟨#[116]⟩) = true := by kernel_rfl
theorem mu : (isPred ⟨#[117]⟩ || isFun ⟨#[117]⟩) = false := by kernel_rfl
end Go.Proofs.YtejegcmnddedmaaGreatDoor
/-! text TF02z -/
namespace Go.Proofs.YtejegcmnddedmaaGreatDoor
open Go.Vsi
set_option maxHeartbeats 2000000
attribute [local irreducible] VW VCall VO bits

/-! ### syntax.Right, awake -/
theorem right_c (f : Fo) (hg : f.good) (H : Heap) : VDet Tryz.prog 10 [.agg f.cells] H (.bool (jF 1 f 400).2) := by
  have h := form_g f hg (H ++ [.box 25 f.cells, jB 400]) (H.length + 1) 400 1 (by simp) (by omega) (by omega)
  have hce : ∃ o s ln lc mn mc, f.cells = [.int .u8 (o : Nat), .str s, .sl none ln lc, .sl none mn mc] := by
    obtain ⟨o, s, l, m, rfl⟩ := fo_ex f
    rw [Fo.cells_mk]
    exact ⟨_, _, _, _, _, _, rfl⟩
  obtain ⟨o, s, ln, lc, mn, mc, hce⟩ := hce
  rw [hce] at h ⊢
  generalize jF 1 f 400 = r at *
  obtain ⟨L, b⟩ := r
  simp only at h ⊢
  have h2 : VCall Tryz.prog 38 [.ptr (H.length + 1) 0, .agg [.int .u8 o, .str s, .sl none ln lc, .sl none mn mc], .int .i64 (1 : Nat)] (H ++ [.box 25 [.int .u8 o, .str s, .sl none ln lc, .sl none mn mc], jB 400]) (fun r H' => r = .bool b ∧ H' = H ++ [.box 25 [.int .u8 o, .str s, .sl none ln lc, .sl none mn mc], jB L]) := by
    refine VCall.mono h ?_
    rintro r H' ⟨h4, h3⟩
    rw [set_loc'] at h4
    exact ⟨h3, h4⟩
  unfold jB at h2
  refine fn_det Tryz.E0 Tryz.mx Tryz.func10 (by kernel_rfl) rfl (Nat.le_of_ble_eq_true rfl) rfl fun hcl hbl => ?_
  (repeat' ((conv => whnf); (first | refine CallN.fix _ _ _ 2 h2 rfl rfl ?_ | refine DrawN.mk' [] ?_ | fail))); all_goals (conv => whnf)
  exact EndN.det trivial (Wk.refl _)
theorem awake_c (H : Heap) : VDet Tryz.prog 8 [] H (.bool true) := by
  have hEx := ex_c
  have hAt := fun H => (at_c exF exF_good exF_fit [0, 1, 0] (by decide) H)
  have hPr := pred_c exF exF_good (by rw [exF_pred]; decide)
  have hFu := func_c exF exF_good (by rw [exF_fun]; decide)
  have hRi := right_c exF exF_good
  have hNo := nodes_c exF exF_good
  have hDe := depF_g exF exF_good
  have hPa := parts_c exF exF_good exF_fit
  have gQg : gQ.good := by simp [gQ, Fo.good, Fo.goodL, Tm.goodL, maxLen]; decide
  have hSa := samF_g gQ gQg gQ gQg
  have hQ : ∀ H, VDet Tryz.prog 12 [.str ⟨#[81]⟩, .nils] H (.agg [.int .u8 1, .str ⟨#[81]⟩, .sl none 0 [], .sl none 0 []]) := fun H => (atom_c _ 0 [] (fun m => trivial) H).wk (by (repeat' (first | exact trivial | refine And.intro ?_ ?_ | exact Wk.refl _ | exact wk_sl _ _ _ | exact wk_sx _ _ | exact wk_nils | refine wk_agg ?_ | refine wk_tup ?_ | fail)); done)
  have hv1 := variable_g ⟨#[120, 49, 48]⟩ (by show 3 ≤ _; omega)
  have hv2 := variable_g ⟨#[120, 121]⟩ (by show 2 ≤ _; omega)
  have hf1 := function_g ⟨#[110, 101, 120, 116, 49]⟩ (by show 5 ≤ _; omega)
  have hf2 := function_g ⟨#[97, 108, 108]⟩ (by show 3 ≤ _; omega)
  have hm1 := meta_c 116
  have hm2 := meta_c 117
  rw [vx10] at hv1
  rw [vxy] at hv2
  rw [fnext1] at hf1
  rw [fall] at hf2
  rw [mt] at hm1
  rw [mu] at hm2
  rw [exF_right] at hRi
  rw [exF_cnt] at hNo
  rw [exF_spred, exF_pred] at hPr
  rw [exF_sfun, exF_fun] at hFu
  unfold DepF at hDe
  rw [exF_dep] at hDe
  rw [exF_cnt2, if_neg (by omega), exF_partsF] at hPa
  rw [exF_find] at hAt
  rw [show eqFo gQ gQ = true by kernel_rfl] at hSa
  have hAt : ∀ H, VDet Tryz.prog 24 [.agg exF.cells, .sx 3 [.int .i64 0, .int .i64 1, .int .i64 0]] H (.tup [.agg gQ.cells, .int .i64 0]) := fun H => (hAt H).wk ⟨Wk.refl _, wk_sx _ _, trivial⟩
  generalize hgp : List.flatMap Fo.cells [exF, gA, gP, gN, gQ] = pc at *
  rw [gQ_c] at hAt hSa
  have hce : ∃ o s ln lc mn mc, exF.cells = [.int .u8 (o : Nat), .str s, .sl none ln lc, .sl none mn mc] := ⟨9, _, _, _, _, _, exF_c⟩
  obtain ⟨o, s, ln, lc, mn, mc, hce⟩ := hce
  rw [hce] at hEx hAt hPr hFu hRi hNo hDe hPa
  simp only [symC, List.flatMap_cons, List.flatMap_nil, List.cons_append, List.nil_append, List.length_cons, List.length_nil] at hPr hFu hPa
  refine fn_det Tryz.E0 Tryz.mx Tryz.func8 (by kernel_rfl) rfl (Nat.le_of_ble_eq_true rfl) rfl fun hcl hbl => ?_
  (repeat' ((conv => whnf); (first | (refine IfN.id ?_; first | refine IfN.not ?_ | refine IfN.tt rfl ?_ | refine IfN.ff rfl ?_ | (refine IfN.mk ?_ ?_ <;> intro _) | fail) | (refine SideN.mk ?_ ?_; · first | kernel_rfl | omega | exact List.cons_ne_nil _ _ | (simp; done) | (simp; omega) | exact trivial | assumption | fail) | (refine CallN.id ?_; first | refine CallN.det _ (hEx _) ?_ | refine CallN.det _ (hAt _) ?_ | fail) | (refine CallD.id ?_; first | refine CallD.det _ (fun _ hq X => hPr _) ?_ | refine CallD.det _ (fun _ hq X => hFu _) ?_ | refine CallD.det _ (fun _ hq X => hRi _) ?_ | refine CallD.det _ (fun _ hq X => hNo _) ?_ | refine CallD.det _ (fun _ hq X => hDe _) ?_ | refine CallD.det _ (fun _ hq X => hPa _) ?_ | refine CallD.det _ (fun _ hq X => hSa _) ?_ | refine CallD.det _ (fun _ hq X => hQ _) ?_ | refine CallD.det _ (fun _ hq X => hv1 _) ?_ | refine CallD.det _ (fun _ hq X => hv2 _) ?_ | refine CallD.det _ (fun _ hq X => hf1 _) ?_ | refine CallD.det _ (fun _ hq X => hf2 _) ?_ | refine CallD.det _ (fun _ hq X => hm1 _) ?_ | refine CallD.det _ (fun _ hq X => hm2 _) ?_ | fail) | refine SegN.mk _ (seg_rfl rfl) ?_ | refine DrawN.mk' [] ?_ | fail))); all_goals (conv => whnf)
  · exact EndN.det trivial (Wk.refl _)
  all_goals
    exfalso
    rename_i h
    simp at h
end Go.Proofs.YtejegcmnddedmaaGreatDoor
/-! text XA02z -/
namespace Go.Proofs.YtejegcmnddedmaaGreatDoor
open Go.Vsi
set_option maxHeartbeats 2000000
attribute [local irreducible] VW VCall VO bits

/-! ### the law's Copy, with its lists' owners -/
theorem cpyTsK_c (l : List Tm) (hf : l.length * 48 ≤ capB) (h : ∀ x ∈ l, CpyT x) (H : Heap) : VCall Tryz.prog 39 [.sl none l.length (l.flatMap Tm.cells)] H (fun r H' => r = .sl (some (H.length + 0)) l.length (l.flatMap Tm.cells) ∧ H' = H ++ [.tok 36 3 (l.flatMap Tm.cells).length]) := by
  unfold capB at hf
  refine fn_gen Tryz.E0 Tryz.mx Tryz.func39 (by kernel_rfl) rfl (Nat.le_of_ble_eq_true rfl) rfl fun hcl hbl => ?_
  (repeat' ((conv => whnf); (first | refine DrawN.mk' [] ?_ | fail))); all_goals (conv => whnf)
  refine LoopN.tok 3 36 3 rfl rfl rfl ?_
  refine loop_R Tryz.E0 Tryz.mx (σ := Nat) (fun j => j ≤ l.length) (fun j => l.length - j) (fun j => [(3, .v (.sl (some (H.length + 0)) j ((l.take j).flatMap Tm.cells))), (4, .v (.int .i64 j))]) (fun j => [.tok 36 3 ((l.take j).flatMap Tm.cells).length]) _ 0 rfl hcl [0] rfl (Nat.zero_le _) ⟨⟨_, rfl, Wk.refl _⟩, ⟨_, rfl, Wk.refl _⟩, trivial⟩ rfl (fun _ _ => rfl) ?_
  intro j hj
  clear hbl
  by_cases hlt : j < l.length
  · have hx := h _ (getD_memT l j tm0 hlt)
    obtain ⟨v, s, a, e1⟩ := tm_ex (l.getD j tm0)
    have q1 : (l.getD j tm0).cells = [.bool v, .str s, .sl none a.length (a.flatMap Tm.cells)] := by rw [e1, Tm.cells_mk]
    have hx := hx v s a e1
    have hln : ((l.take j).flatMap Tm.cells).length = j * 3 := by rw [flat_length tm_size, List.length_take, Nat.min_eq_left hj]
    have hns := take_flat Tm.cells l tm0 j hlt
    rw [q1] at hns
    have hb1 : (j + 1) * 48 ≤ 140737488355328 := by omega
    have hb2 : j + 1 ≤ maxLen := by unfold maxLen; omega
    (repeat' ((conv => whnf); (first | (refine IfN.id ?_; first | refine IfN.dT (by omega) ?_ | fail) | (refine EqN.id ?_; first | (refine EqN.addN _ _ (by first | with_reducible rfl | with_reducible exact cst1 | with_reducible exact cst0 | with_reducible exact cst2 | with_reducible exact cst3 | with_reducible exact cst4 | with_reducible exact cst5 | with_reducible exact cst6 | with_reducible exact cst7 | with_reducible exact cst8 | with_reducible exact cst14 | with_reducible exact cst15 | with_reducible exact cst25 | with_reducible exact cst30 | with_reducible exact cst31 | fail) (by first | with_reducible rfl | with_reducible exact cst1 | with_reducible exact cst0 | with_reducible exact cst2 | with_reducible exact cst3 | with_reducible exact cst4 | with_reducible exact cst5 | with_reducible exact cst6 | with_reducible exact cst7 | with_reducible exact cst8 | with_reducible exact cst14 | with_reducible exact cst15 | with_reducible exact cst25 | with_reducible exact cst30 | with_reducible exact cst31 | fail) ?_ ?_; · (repeat' (first | omega | refine And.intro ?_ ?_ | exact bnd_andl (by omega) | exact bnd_andr (by omega) | refine bnd_or ?_ ?_ | refine bnd_or31 ?_ ?_ | refine bnd_xor ?_ ?_ | refine bnd_xor31 ?_ ?_ | refine bnd_shr ?_ | refine bnd_shl ?_ ?_ | refine bnd_mod ?_ | refine bnd_andl ?_ | fail))) | fail) | (refine SideN.mk ?_ ?_; · first | kernel_rfl | omega | exact List.cons_ne_nil _ _ | (simp; done) | (simp; omega) | exact trivial | assumption | fail) | (refine CallD.id ?_; first | refine CallD.det _ (fun _ hq X => hx _) ?_ | fail) | refine SegN.nthE tm0 j rfl hlt tm_size q1 ?_ | refine SideN.mk ⟨rfl, rfl, rfl, hb1, hb2⟩ ?_ | (refine PtrN.id ?_; first | refine PtrN.loc _ rfl ?_ | fail) | refine DrawN.mk' [] ?_ | fail))); all_goals (conv => whnf)
    all_goals rw [hns]
    all_goals (refine ⟨⟨j + 1, by omega, by omega, ?_, .inl ⟨rfl, rfl⟩, rfl, _, rfl, ?_⟩⟩; rotate_left 1; (first | exact .inl rfl | exact .inr ⟨by simp [belowRE, below, belowL, tr, tms_below, fos_below], by simp [belowH, Blk.below, belowL, below, tms_below, fos_below]⟩ | fail); (repeat' (first | exact trivial | refine ⟨⟨_, rfl, ?_⟩, ?_⟩ | fail)); all_goals try (first | exact Wk.refl _ | exact Wk.of_eq (congrArg (AV.int _) (by omega)) | fail))
  · obtain rfl : j = l.length := by omega
    rw [List.take_length]
    (repeat' ((conv => whnf); (first | (refine IfN.id ?_; first | refine IfN.dF (by omega) ?_ | fail) | refine DrawN.mk' [] ?_ | fail))); all_goals (conv => whnf)
    exact EndN.keep _ (Wk.refl _) ⟨rfl, rfl⟩
theorem cpyFsK_c (l : List Fo) (hf : l.length * 72 ≤ capB) (h : ∀ x ∈ l, CpyF x) (H : Heap) : VCall Tryz.prog 40 [.sl none l.length (l.flatMap Fo.cells)] H (fun r H' => r = .sl (some (H.length + 0)) l.length (l.flatMap Fo.cells) ∧ H' = H ++ [.tok 25 4 (l.flatMap Fo.cells).length]) := by
  unfold capB at hf
  refine fn_gen Tryz.E0 Tryz.mx Tryz.func40 (by kernel_rfl) rfl (Nat.le_of_ble_eq_true rfl) rfl fun hcl hbl => ?_
  (repeat' ((conv => whnf); (first | refine DrawN.mk' [] ?_ | fail))); all_goals (conv => whnf)
  refine LoopN.tok 3 25 4 rfl rfl rfl ?_
  refine loop_R Tryz.E0 Tryz.mx (σ := Nat) (fun j => j ≤ l.length) (fun j => l.length - j) (fun j => [(3, .v (.sl (some (H.length + 0)) j ((l.take j).flatMap Fo.cells))), (4, .v (.int .i64 j))]) (fun j => [.tok 25 4 ((l.take j).flatMap Fo.cells).length]) _ 0 rfl hcl [0] rfl (Nat.zero_le _) ⟨⟨_, rfl, Wk.refl _⟩, ⟨_, rfl, Wk.refl _⟩, trivial⟩ rfl (fun _ _ => rfl) ?_
  intro j hj
  clear hbl
  by_cases hlt : j < l.length
  · have hx := h _ (getD_memT l j fo0 hlt)
    unfold CpyF at hx
    obtain ⟨o, s, a, b, e1⟩ := fo_ex (l.getD j fo0)
    have q1 : (l.getD j fo0).cells = [.int .u8 o, .str s, .sl none a.length (a.flatMap Tm.cells), .sl none b.length (b.flatMap Fo.cells)] := by rw [e1, Fo.cells_mk]
    rw [q1] at hx
    have hns := take_flat Fo.cells l fo0 j hlt
    rw [q1] at hns
    have hb1 : (j + 1) * 72 ≤ 140737488355328 := by omega
    have hb2 : j + 1 ≤ maxLen := by unfold maxLen; omega
    (repeat' ((conv => whnf); (first | (refine IfN.id ?_; first | refine IfN.dT (by omega) ?_ | fail) | (refine EqN.id ?_; first | (refine EqN.addN _ _ (by first | with_reducible rfl | with_reducible exact cst1 | with_reducible exact cst0 | with_reducible exact cst2 | with_reducible exact cst3 | with_reducible exact cst4 | with_reducible exact cst5 | with_reducible exact cst6 | with_reducible exact cst7 | with_reducible exact cst8 | with_reducible exact cst14 | with_reducible exact cst15 | with_reducible exact cst25 | with_reducible exact cst30 | with_reducible exact cst31 | fail) (by first | with_reducible rfl | with_reducible exact cst1 | with_reducible exact cst0 | with_reducible exact cst2 | with_reducible exact cst3 | with_reducible exact cst4 | with_reducible exact cst5 | with_reducible exact cst6 | with_reducible exact cst7 | with_reducible exact cst8 | with_reducible exact cst14 | with_reducible exact cst15 | with_reducible exact cst25 | with_reducible exact cst30 | with_reducible exact cst31 | fail) ?_ ?_; · (repeat' (first | omega | refine And.intro ?_ ?_ | exact bnd_andl (by omega) | exact bnd_andr (by omega) | refine bnd_or ?_ ?_ | refine bnd_or31 ?_ ?_ | refine bnd_xor ?_ ?_ | refine bnd_xor31 ?_ ?_ | refine bnd_shr ?_ | refine bnd_shl ?_ ?_ | refine bnd_mod ?_ | refine bnd_andl ?_ | fail))) | fail) | (refine SideN.mk ?_ ?_; · first | kernel_rfl | omega | exact List.cons_ne_nil _ _ | (simp; done) | (simp; omega) | exact trivial | assumption | fail) | (refine CallN.id ?_; first | refine CallN.det _ (hx _) ?_ | fail) | refine SegN.nthE fo0 j rfl hlt fo_size q1 ?_ | refine SideN.mk ⟨rfl, rfl, rfl, hb1, hb2⟩ ?_ | (refine PtrN.id ?_; first | refine PtrN.loc _ rfl ?_ | fail) | refine DrawN.mk' [] ?_ | fail))); all_goals (conv => whnf)
    all_goals rw [hns]
    all_goals (refine ⟨⟨j + 1, by omega, by omega, ?_, .inl ⟨rfl, rfl⟩, rfl, _, rfl, ?_⟩⟩; rotate_left 1; (first | exact .inl rfl | exact .inr ⟨by simp [belowRE, below, belowL, tr, tms_below, fos_below], by simp [belowH, Blk.below, belowL, below, tms_below, fos_below]⟩ | fail); (repeat' (first | exact trivial | refine ⟨⟨_, rfl, ?_⟩, ?_⟩ | fail)); all_goals try (first | exact Wk.refl _ | exact Wk.of_eq (congrArg (AV.int _) (by omega)) | fail))
  · obtain rfl : j = l.length := by omega
    rw [List.take_length]
    (repeat' ((conv => whnf); (first | (refine IfN.id ?_; first | refine IfN.dF (by omega) ?_ | fail) | refine DrawN.mk' [] ?_ | fail))); all_goals (conv => whnf)
    exact EndN.keep _ (Wk.refl _) ⟨rfl, rfl⟩
theorem copyK_c (op : Nat) (s : ByteArray) (l : List Tm) (m : List Fo) (hf : (Fo.mk op s l m).fit) (H : Heap) : VCall Tryz.prog 11 [.agg [.int .u8 op, .str s, .sl none l.length (l.flatMap Tm.cells), .sl none m.length (m.flatMap Fo.cells)]] H
    (fun r H' => r = .agg [.int .u8 op, .str s, .sl (some (H.length + 2)) l.length (l.flatMap Tm.cells), .sl (some (H.length + 3)) m.length (m.flatMap Fo.cells)] ∧
      H' = H ++ [.box 25 [.int .u8 op, .str s, .sl none l.length (l.flatMap Tm.cells), .sl none m.length (m.flatMap Fo.cells)], .box 25 [.int .u8 op, .str s, .sl (some (H.length + 2)) l.length (l.flatMap Tm.cells), .sl (some (H.length + 3)) m.length (m.flatMap Fo.cells)], .tok 36 3 (l.flatMap Tm.cells).length, .tok 25 4 (m.flatMap Fo.cells).length]) := by
  have h1 := cpyTsK_c l hf.2.1 (cpyTs_g l hf.2.2.1)
  have h2 := cpyFsK_c m hf.2.2.2.1 (cpyFs_g m hf.2.2.2.2)
  generalize l.flatMap Tm.cells = lc at *
  generalize m.flatMap Fo.cells = mc at *
  generalize l.length = ln at *
  generalize m.length = mn at *
  have h1' : ∀ B1 B2, VCall Tryz.prog 39 [.sl none ln lc] (H ++ [B1, B2]) (fun r H' => r = .sl (some (H.length + 2)) ln lc ∧ H' = (H ++ [B1, B2]) ++ [.tok 36 3 lc.length]) := fun B1 B2 => by
    have := h1 (H ++ [B1, B2])
    rwa [List.length_append] at this
  have h2' : ∀ B1 B2 B3, VCall Tryz.prog 40 [.sl none mn mc] (H ++ [B1, B2, B3]) (fun r H' => r = .sl (some (H.length + 3)) mn mc ∧ H' = (H ++ [B1, B2, B3]) ++ [.tok 25 4 mc.length]) := fun B1 B2 B3 => by
    have := h2 (H ++ [B1, B2, B3])
    rwa [List.length_append] at this
  clear h1 h2
  refine fn_gen Tryz.E0 Tryz.mx Tryz.func11 (by kernel_rfl) rfl (Nat.le_of_ble_eq_true rfl) rfl fun hcl hbl => ?_
  (repeat' ((conv => whnf); (first | (refine SideN.mk ?_ ?_; · first | kernel_rfl | omega | exact List.cons_ne_nil _ _ | (simp; done) | (simp; omega) | exact trivial | assumption | fail) | refine CallD.app1 _ _ _ 1 (h1' _ _) rfl rfl rfl ?_ | refine CallD.app1 _ _ _ 1 (h2' _ _ _) rfl rfl rfl ?_ | refine DrawN.mk' [] ?_ | fail))); all_goals (conv => whnf)
  exact EndN.keep _ (Wk.refl _) ⟨rfl, rfl⟩
end Go.Proofs.YtejegcmnddedmaaGreatDoor
/-! text UB02z -/
namespace Go.Proofs.YtejegcmnddedmaaGreatDoor
open Go.Vsi
set_option maxHeartbeats 4000000
attribute [local irreducible] VW VCall VO bits

/-! ### syntax.Copy, with the list in which a place ends as memory of one's own -/
/-- the header of that list: the place's last list's length, the name -/
inductive HD where
  | vs (n : Nat)
  | sl (n : Nat) (c : Nat → List AV)
def HD.av (w : Bool) (q : Nat) : HD → AV
  | .vs n => (match w with
    | true => .ms q 0 n
    | false => .vs q n)
  | .sl n c => .sl none n (c q)
def headP (w : Bool) : List Int → Fo → HD
  | [], f => .sl (subs f).length fun _ => (subs f).flatMap Fo.cells
  | [_], f => .vs (subs f).length
  | i :: j :: r, f => .sl (subs f).length fun q => (List.range (subs f).length).flatMap fun k =>
      if k = i.toNat then (match (subs f).getD i.toNat fo0 with
        | .mk o s l _ => [.int .u8 (o : Nat), .str s, .sl none l.length (l.flatMap Tm.cells), (headP w (j :: r) ((subs f).getD i.toNat fo0)).av w q]) else ((subs f).getD k fo0).cells
def lastL : List Int → Fo → List Fo
  | [], _ => []
  | [_], f => subs f
  | i :: j :: r, f => lastL (j :: r) ((subs f).getD i.toNat fo0)

def cells4 (f : Fo) (h : AV) : List AV := match f with
  | .mk o s l _ => [.int .u8 (o : Nat), .str s, .sl none l.length (l.flatMap Tm.cells), h]
theorem cells4_id (f : Fo) : cells4 f (.sl none (subs f).length ((subs f).flatMap Fo.cells)) = f.cells := by
  obtain ⟨o, s, l, m, rfl⟩ := fo_ex f
  rw [Fo.cells_mk]
  rfl
theorem headP_cons (w : Bool) (i j : Int) (r : List Int) (f : Fo) : headP w (i :: j :: r) f = .sl (subs f).length fun q => (List.range (subs f).length).flatMap fun k => if k = i.toNat then cells4 ((subs f).getD i.toNat fo0) ((headP w (j :: r) ((subs f).getD i.toNat fo0)).av w q) else ((subs f).getD k fo0).cells := rfl

/-- a list's copy that may be written -/
theorem vecL_c (l : List Fo) (hf : l.length * 72 ≤ capB) (h0 : 0 < l.length) (h : ∀ x ∈ l, SyF x) (H : Heap) : VCall Tryz.prog 76 [.sl none l.length (l.flatMap Fo.cells), .clo (.func 42) [] []] H (fun r H' => r = .vs H.length l.length ∧ H' = H ++ [.vec 25 4 (l.flatMap Fo.cells)]) := by
  unfold capB at hf
  have hb0 : l.length * 72 ≤ 281474976710656 := by omega
  refine fn_gen Tryz.E0 Tryz.mx Tryz.func76 (by kernel_rfl) rfl (Nat.le_of_ble_eq_true rfl) rfl fun hcl hbl => ?_
  (repeat' ((conv => whnf); (first | (refine IfN.id ?_; first | refine IfN.dF (by omega) ?_ | fail) | (refine OrN.natR ?_; refine NatN.mk _ rfl ?_; refine SideN.mk ⟨rfl, ?_, ?_⟩ ?_; (· omega); (· first | omega | assumption | fail)) | refine DrawN.mk' [] ?_ | fail))); all_goals (conv => whnf)
  refine LoopN.tokVec 5 0 25 4 rfl rfl rfl ?_
  refine loop_R Tryz.E0 Tryz.mx (σ := Nat) (fun j => j ≤ l.length) (fun j => l.length - j) (fun j => [(5, .v (.vs (H.length + 0) j)), (16, .v (.int .i64 j))]) (fun j => [.vec 25 4 ((l.take j).flatMap Fo.cells)]) _ 0 rfl hcl [1, 14, 15] rfl (Nat.zero_le _) ⟨⟨_, rfl, Wk.refl _⟩, ⟨_, rfl, Wk.refl _⟩, trivial⟩ rfl (fun _ _ => rfl) ?_
  intro j hj
  clear hbl
  by_cases hlt : j < l.length
  · have hx := h _ (getD_memT l j fo0 hlt)
    unfold SyF at hx
    obtain ⟨o, s, a, b, e1⟩ := fo_ex (l.getD j fo0)
    have q1 : (l.getD j fo0).cells = [.int .u8 o, .str s, .sl none a.length (a.flatMap Tm.cells), .sl none b.length (b.flatMap Fo.cells)] := by rw [e1, Fo.cells_mk]
    rw [q1] at hx
    have hns := take_flat Fo.cells l fo0 j hlt
    rw [q1] at hns
    have hln : ((l.take j).flatMap Fo.cells).length = j * 4 := by rw [flat_length fo_size, List.length_take, Nat.min_eq_left hj]
    have hb1 : (j + 1) * 72 ≤ 140737488355328 := by omega
    have hb2 : j + 1 ≤ maxLen := by unfold maxLen; omega
    (repeat' ((conv => whnf); (first | (refine IfN.id ?_; first | refine IfN.dT (by omega) ?_ | fail) | (refine EqN.id ?_; first | (refine EqN.addN _ _ (by first | with_reducible rfl | with_reducible exact cst1 | with_reducible exact cst0 | with_reducible exact cst2 | with_reducible exact cst3 | with_reducible exact cst4 | with_reducible exact cst5 | with_reducible exact cst6 | with_reducible exact cst7 | with_reducible exact cst8 | with_reducible exact cst14 | with_reducible exact cst15 | with_reducible exact cst25 | with_reducible exact cst30 | with_reducible exact cst31 | fail) (by first | with_reducible rfl | with_reducible exact cst1 | with_reducible exact cst0 | with_reducible exact cst2 | with_reducible exact cst3 | with_reducible exact cst4 | with_reducible exact cst5 | with_reducible exact cst6 | with_reducible exact cst7 | with_reducible exact cst8 | with_reducible exact cst14 | with_reducible exact cst15 | with_reducible exact cst25 | with_reducible exact cst30 | with_reducible exact cst31 | fail) ?_ ?_; · (repeat' (first | omega | refine And.intro ?_ ?_ | exact bnd_andl (by omega) | exact bnd_andr (by omega) | refine bnd_or ?_ ?_ | refine bnd_or31 ?_ ?_ | refine bnd_xor ?_ ?_ | refine bnd_xor31 ?_ ?_ | refine bnd_shr ?_ | refine bnd_shl ?_ ?_ | refine bnd_mod ?_ | refine bnd_andl ?_ | fail))) | fail) | (refine SideN.mk ?_ ?_; · first | kernel_rfl | omega | exact List.cons_ne_nil _ _ | (simp; done) | (simp; omega) | exact trivial | assumption | fail) | (refine CallN.id ?_; first | refine CallN.det _ (hx _) ?_ | fail) | refine SegN.nthE fo0 j rfl hlt fo_size q1 ?_ | refine SideN.mk ⟨hln, rfl, rfl, hb1, hb2⟩ ?_ | (refine PtrN.id ?_; first | refine PtrN.loc _ rfl ?_ | fail) | refine DrawN.mk' [] ?_ | fail))); all_goals (conv => whnf)
    all_goals rw [hns]
    all_goals (refine ⟨⟨j + 1, by omega, by omega, ?_, .inl ⟨rfl, rfl⟩, rfl, _, rfl, ?_⟩⟩; rotate_left 1; (first | exact .inl rfl | exact .inr ⟨by simp [belowRE, below, belowL, tr, tms_below, fos_below, encI_below], by simp [belowH, Blk.below, belowL, below, tms_below, fos_below, encI_below]⟩ | fail); (repeat' (first | exact trivial | refine ⟨⟨_, rfl, ?_⟩, ?_⟩ | fail)); all_goals try (first | exact Wk.refl _ | exact Wk.of_eq (congrArg (AV.int _) (by omega)) | fail))
  · obtain rfl : j = l.length := by omega
    rw [List.take_length]
    (repeat' ((conv => whnf); (first | (refine IfN.id ?_; first | refine IfN.dF (by omega) ?_ | fail) | refine DrawN.mk' [] ?_ | fail))); all_goals (conv => whnf)
    exact EndN.keep _ (Wk.refl _) ⟨rfl, rfl⟩

/-! the list in the middle of a place -/
def midC (l : List Fo) (i : Nat) (pc : List AV) (k : Nat) : List AV := if k = i then pc else (l.getD k fo0).cells
theorem range_flat {α : Type} (f : Nat → List α) (j : Nat) : (List.range (j + 1)).flatMap f = (List.range j).flatMap f ++ f j := by
  rw [List.range_succ, List.flatMap_append]
  simp
theorem midC_len (l : List Fo) (i : Nat) (pc : List AV) (hp : pc.length = 4) (j : Nat) : ((List.range j).flatMap (midC l i pc)).length = j * 4 := by
  induction j with
  | zero => rfl
  | succ j ih =>
    rw [range_flat, List.length_append, ih]
    unfold midC
    split
    · omega
    · rw [fo_size]; omega
theorem midC_below (n : Nat) (l : List Fo) (i : Nat) (pc : List AV) (j : Nat) (h : belowL n pc ∨ j ≤ i) : belowL n ((List.range j).flatMap (midC l i pc)) := by
  induction j with
  | zero => trivial
  | succ j ih =>
    rw [range_flat, belowL_append]
    refine ⟨ih (h.imp (fun x => x) fun x => by omega), ?_⟩
    unfold midC
    split
    · rcases h with h | h
      · exact h
      · omega
    · exact fo_below n _
theorem midL_c (l : List Fo) (hf : l.length * 72 ≤ capB) (i : Nat) (hi : i < l.length) (h : ∀ x ∈ l, SyF x) (hd : HD) (hbd : ∀ n, belowL (n + 1) [hd.av false n]) (lc : List AV) (hlb : ∀ n, belowL n lc)
    (hp : ∀ H, VCall Tryz.prog 42 [.agg (l.getD i fo0).cells] H (fun r H' => r = .agg (cells4 (l.getD i fo0) (hd.av false H.length)) ∧ H' = H ++ [.vec 25 4 lc])) (H : Heap) :
    VCall Tryz.prog 76 [.sl none l.length (l.flatMap Fo.cells), .clo (.func 42) [] []] H (fun r H' => r = .sl (some (H.length + 0)) l.length ((List.range l.length).flatMap (midC l i (cells4 (l.getD i fo0) (hd.av false (H.length + 2))))) ∧ H' = H ++ [.tok 25 4 (l.length * 4), .box 25 (l.getD i fo0).cells, .vec 25 4 lc]) := by
  unfold capB at hf
  have hb0 : l.length * 72 ≤ 281474976710656 := by omega
  have hl0 : 0 < l.length := by omega
  obtain ⟨o1, s1, a1, b1, ei⟩ := fo_ex (l.getD i fo0)
  have qi : (l.getD i fo0).cells = [.int .u8 o1, .str s1, .sl none a1.length (a1.flatMap Tm.cells), .sl none b1.length (b1.flatMap Fo.cells)] := by rw [ei, Fo.cells_mk]
  have hpc : ∀ h, cells4 (l.getD i fo0) h = [.int .u8 o1, .str s1, .sl none a1.length (a1.flatMap Tm.cells), h] := fun h => by rw [ei]; rfl
  simp only [hpc] at hp ⊢
  have hpi : ∀ B1 B2, VCall Tryz.prog 42 [.agg (l.getD i fo0).cells] (H ++ [B1, B2]) (fun r H' => r = .agg [.int .u8 o1, .str s1, .sl none a1.length (a1.flatMap Tm.cells), hd.av false (H.length + 2)] ∧ H' = (H ++ [B1, B2]) ++ [.vec 25 4 lc]) := fun B1 B2 => by
    have := hp (H ++ [B1, B2])
    rwa [List.length_append] at this
  rw [qi] at hpi ⊢
  have hbd2 := hbd (H.length + 2)
  have hcl4 := midC_len l i [.int .u8 o1, .str s1, .sl none a1.length (a1.flatMap Tm.cells), hd.av false (H.length + 2)] rfl
  have hmb := fun n j => midC_below n l i [.int .u8 o1, .str s1, .sl none a1.length (a1.flatMap Tm.cells), hd.av false (H.length + 2)] j
  have hbpc : belowL (H.length + 3) [.int .u8 o1, .str s1, .sl none a1.length (a1.flatMap Tm.cells), hd.av false (H.length + 2)] := by
    simp only [belowL, and_true] at hbd2
    simp [belowL, below, tms_below, hbd2]
  have hms : ∀ j, (List.range (j + 1)).flatMap (midC l i [.int .u8 o1, .str s1, .sl none a1.length (a1.flatMap Tm.cells), hd.av false (H.length + 2)]) = (List.range j).flatMap (midC l i [.int .u8 o1, .str s1, .sl none a1.length (a1.flatMap Tm.cells), hd.av false (H.length + 2)]) ++ (if j = i then [.int .u8 o1, .str s1, .sl none a1.length (a1.flatMap Tm.cells), hd.av false (H.length + 2)] else (l.getD j fo0).cells) := fun j => range_flat _ j
  generalize hM : (fun j => (List.range j).flatMap (midC l i [.int .u8 o1, .str s1, .sl none a1.length (a1.flatMap Tm.cells), hd.av false (H.length + 2)])) = M at *
  have hMj : ∀ j, (List.range j).flatMap (midC l i [.int .u8 o1, .str s1, .sl none a1.length (a1.flatMap Tm.cells), hd.av false (H.length + 2)]) = M j := fun j => by rw [← hM]
  simp only [hMj] at hcl4 hmb hms ⊢
  have hM0 : M 0 = [] := by rw [← hMj]; rfl
  refine fn_gen Tryz.E0 Tryz.mx Tryz.func76 (by kernel_rfl) rfl (Nat.le_of_ble_eq_true rfl) rfl fun hcl hbl => ?_
  (repeat' ((conv => whnf); (first | (refine IfN.id ?_; first | refine IfN.dF (by omega) ?_ | fail) | (refine OrN.natR ?_; refine NatN.mk _ rfl ?_; refine SideN.mk ⟨rfl, ?_, ?_⟩ ?_; (· omega); (· first | omega | assumption | fail)) | refine DrawN.mk' [] ?_ | fail))); all_goals (conv => whnf)
  refine loop_K Tryz.E0 Tryz.mx (σ := Bool × Nat) (fun p => p.2 ≤ l.length ∧ p.1 = decide (i < p.2)) (fun p => l.length - p.2) (fun p => [(5, .v (.sl (some (H.length + 0)) p.2 (M p.2))), (16, .v (.int .i64 p.2))]) (fun _ => H) (fun p => @Bool.rec (fun _ => Heap) [.tok 25 4 (M p.2).length] [.tok 25 4 (M p.2).length, .box 25 [.int .u8 o1, .str s1, .sl none a1.length (a1.flatMap Tm.cells), .sl none b1.length (b1.flatMap Fo.cells)], .vec 25 4 lc] p.1) (fun p => @Bool.rec (fun _ => Nat) 1 3 p.1) _ (false, 0) (fun _ _ => rfl) (fun _ _ => hcl) [1, 14, 15] rfl ⟨Nat.zero_le _, by simp⟩ ⟨⟨_, rfl, by rw [hM0]; exact Wk.refl _⟩, ⟨_, rfl, Wk.refl _⟩, trivial⟩ rfl (by rw [hM0]; rfl) rfl (fun p _ => by obtain ⟨_ | _, _⟩ := p; (· exact Nat.le_refl 1); (· exact (by decide : 1 ≤ 3))) (fun p _ => by obtain ⟨_ | _, _⟩ := p <;> rfl) ?_
  rintro ⟨b, j⟩ ⟨hj, hb⟩
  simp only at hj hb
  clear hbl
  have hns := hms j
  have hb2 : j + 1 ≤ maxLen ∨ l.length ≤ j := by unfold maxLen; omega
  cases b with
  | false =>
    have hij : ¬ i < j := of_decide_eq_false hb.symm
    have hlt : j < l.length := by omega
    have hb1 : (j + 1) * 72 ≤ 140737488355328 := by omega
    have hb2 : j + 1 ≤ maxLen := by unfold maxLen; omega
    by_cases hji : j = i
    · subst hji
      rw [if_pos rfl] at hns
      cases hd with
      | vs n =>
        unfold HD.av at *
        (repeat' ((conv => whnf); (first | (refine IfN.id ?_; first | refine IfN.dT (by omega) ?_ | fail) | (refine EqN.id ?_; first | (refine EqN.addN _ _ (by first | with_reducible rfl | with_reducible exact cst1 | with_reducible exact cst0 | with_reducible exact cst2 | with_reducible exact cst3 | with_reducible exact cst4 | with_reducible exact cst5 | with_reducible exact cst6 | with_reducible exact cst7 | with_reducible exact cst8 | with_reducible exact cst14 | with_reducible exact cst15 | with_reducible exact cst25 | with_reducible exact cst30 | with_reducible exact cst31 | fail) (by first | with_reducible rfl | with_reducible exact cst1 | with_reducible exact cst0 | with_reducible exact cst2 | with_reducible exact cst3 | with_reducible exact cst4 | with_reducible exact cst5 | with_reducible exact cst6 | with_reducible exact cst7 | with_reducible exact cst8 | with_reducible exact cst14 | with_reducible exact cst15 | with_reducible exact cst25 | with_reducible exact cst30 | with_reducible exact cst31 | fail) ?_ ?_; · (repeat' (first | omega | refine And.intro ?_ ?_ | exact bnd_andl (by omega) | exact bnd_andr (by omega) | refine bnd_or ?_ ?_ | refine bnd_or31 ?_ ?_ | refine bnd_xor ?_ ?_ | refine bnd_xor31 ?_ ?_ | refine bnd_shr ?_ | refine bnd_shl ?_ ?_ | refine bnd_mod ?_ | refine bnd_andl ?_ | fail))) | fail) | (refine SideN.mk ?_ ?_; · first | kernel_rfl | omega | exact List.cons_ne_nil _ _ | (simp; done) | (simp; omega) | exact trivial | assumption | fail) | refine SegN.nthE fo0 j rfl hlt fo_size qi ?_ | refine CallN.grow _ _ _ 3 (hpi _ _) rfl rfl rfl ?_ | refine SideN.mk ⟨rfl, rfl, rfl, hb1, hb2⟩ ?_ | (refine PtrN.id ?_; first | refine PtrN.loc _ rfl ?_ | fail) | refine DrawN.mk' [] ?_ | fail))); all_goals (conv => whnf)
        rw [← hns]
        exact ⟨⟨(true, j + 1), ⟨by show j + 1 ≤ l.length; omega, by simp⟩, by show l.length - (j + 1) < l.length - j; omega, ⟨⟨_, rfl, Wk.refl _⟩, ⟨_, rfl, Wk.of_eq (congrArg (AV.int _) (by show _ = (((j + 1 : Nat)) : Int); omega))⟩, trivial⟩, .inl ⟨rfl, rfl⟩, rfl, [], rfl, .inl rfl⟩⟩
      | sl n c =>
        unfold HD.av at *
        (repeat' ((conv => whnf); (first | (refine IfN.id ?_; first | refine IfN.dT (by omega) ?_ | fail) | (refine EqN.id ?_; first | (refine EqN.addN _ _ (by first | with_reducible rfl | with_reducible exact cst1 | with_reducible exact cst0 | with_reducible exact cst2 | with_reducible exact cst3 | with_reducible exact cst4 | with_reducible exact cst5 | with_reducible exact cst6 | with_reducible exact cst7 | with_reducible exact cst8 | with_reducible exact cst14 | with_reducible exact cst15 | with_reducible exact cst25 | with_reducible exact cst30 | with_reducible exact cst31 | fail) (by first | with_reducible rfl | with_reducible exact cst1 | with_reducible exact cst0 | with_reducible exact cst2 | with_reducible exact cst3 | with_reducible exact cst4 | with_reducible exact cst5 | with_reducible exact cst6 | with_reducible exact cst7 | with_reducible exact cst8 | with_reducible exact cst14 | with_reducible exact cst15 | with_reducible exact cst25 | with_reducible exact cst30 | with_reducible exact cst31 | fail) ?_ ?_; · (repeat' (first | omega | refine And.intro ?_ ?_ | exact bnd_andl (by omega) | exact bnd_andr (by omega) | refine bnd_or ?_ ?_ | refine bnd_or31 ?_ ?_ | refine bnd_xor ?_ ?_ | refine bnd_xor31 ?_ ?_ | refine bnd_shr ?_ | refine bnd_shl ?_ ?_ | refine bnd_mod ?_ | refine bnd_andl ?_ | fail))) | fail) | (refine SideN.mk ?_ ?_; · first | kernel_rfl | omega | exact List.cons_ne_nil _ _ | (simp; done) | (simp; omega) | exact trivial | assumption | fail) | refine SegN.nthE fo0 j rfl hlt fo_size qi ?_ | refine CallN.grow _ _ _ 3 (hpi _ _) rfl rfl rfl ?_ | refine SideN.mk ⟨rfl, rfl, rfl, hb1, hb2⟩ ?_ | (refine PtrN.id ?_; first | refine PtrN.loc _ rfl ?_ | fail) | refine DrawN.mk' [] ?_ | fail))); all_goals (conv => whnf)
        rw [← hns]
        exact ⟨⟨(true, j + 1), ⟨by show j + 1 ≤ l.length; omega, by simp⟩, by show l.length - (j + 1) < l.length - j; omega, ⟨⟨_, rfl, Wk.refl _⟩, ⟨_, rfl, Wk.of_eq (congrArg (AV.int _) (by show _ = (((j + 1 : Nat)) : Int); omega))⟩, trivial⟩, .inl ⟨rfl, rfl⟩, rfl, [], rfl, .inl rfl⟩⟩
    · rw [if_neg hji] at hns
      have hx := h _ (getD_memT l j fo0 hlt)
      unfold SyF at hx
      obtain ⟨o, s, a, b, e1⟩ := fo_ex (l.getD j fo0)
      have q1 : (l.getD j fo0).cells = [.int .u8 o, .str s, .sl none a.length (a.flatMap Tm.cells), .sl none b.length (b.flatMap Fo.cells)] := by rw [e1, Fo.cells_mk]
      rw [q1] at hx hns
      have hmb1 := hmb (H.length + 1) (j + 1) (.inr (by omega))
      (repeat' ((conv => whnf); (first | (refine IfN.id ?_; first | refine IfN.dT (by omega) ?_ | fail) | (refine EqN.id ?_; first | (refine EqN.addN _ _ (by first | with_reducible rfl | with_reducible exact cst1 | with_reducible exact cst0 | with_reducible exact cst2 | with_reducible exact cst3 | with_reducible exact cst4 | with_reducible exact cst5 | with_reducible exact cst6 | with_reducible exact cst7 | with_reducible exact cst8 | with_reducible exact cst14 | with_reducible exact cst15 | with_reducible exact cst25 | with_reducible exact cst30 | with_reducible exact cst31 | fail) (by first | with_reducible rfl | with_reducible exact cst1 | with_reducible exact cst0 | with_reducible exact cst2 | with_reducible exact cst3 | with_reducible exact cst4 | with_reducible exact cst5 | with_reducible exact cst6 | with_reducible exact cst7 | with_reducible exact cst8 | with_reducible exact cst14 | with_reducible exact cst15 | with_reducible exact cst25 | with_reducible exact cst30 | with_reducible exact cst31 | fail) ?_ ?_; · (repeat' (first | omega | refine And.intro ?_ ?_ | exact bnd_andl (by omega) | exact bnd_andr (by omega) | refine bnd_or ?_ ?_ | refine bnd_or31 ?_ ?_ | refine bnd_xor ?_ ?_ | refine bnd_xor31 ?_ ?_ | refine bnd_shr ?_ | refine bnd_shl ?_ ?_ | refine bnd_mod ?_ | refine bnd_andl ?_ | fail))) | fail) | (refine SideN.mk ?_ ?_; · first | kernel_rfl | omega | exact List.cons_ne_nil _ _ | (simp; done) | (simp; omega) | exact trivial | assumption | fail) | (refine CallN.id ?_; first | refine CallN.det _ (hx _) ?_ | fail) | refine SegN.nthE fo0 j rfl hlt fo_size q1 ?_ | refine SideN.mk ⟨rfl, rfl, rfl, hb1, hb2⟩ ?_ | (refine PtrN.id ?_; first | refine PtrN.loc _ rfl ?_ | fail) | refine DrawN.mk' [] ?_ | fail))); all_goals (conv => whnf)
      rw [← hns]
      exact ⟨⟨(false, j + 1), ⟨by show j + 1 ≤ l.length; omega, by show false = decide (i < j + 1); rw [eq_comm, decide_eq_false_iff_not]; omega⟩, by show l.length - (j + 1) < l.length - j; omega, ⟨⟨_, rfl, Wk.refl _⟩, ⟨_, rfl, Wk.of_eq (congrArg (AV.int _) (by show _ = (((j + 1 : Nat)) : Int); omega))⟩, trivial⟩, .inl ⟨rfl, rfl⟩, rfl, [_], rfl, .inr ⟨by simp [belowRE, below, tr, hmb1], by simp [belowH, Blk.below]⟩⟩⟩
  | true =>
    have hij : i < j := of_decide_eq_true hb.symm
    by_cases hlt : j < l.length
    · have hb1 : (j + 1) * 72 ≤ 140737488355328 := by omega
      have hb2 : j + 1 ≤ maxLen := by unfold maxLen; omega
      rw [if_neg (by omega)] at hns
      have hx := h _ (getD_memT l j fo0 hlt)
      unfold SyF at hx
      obtain ⟨o, s, a, b, e1⟩ := fo_ex (l.getD j fo0)
      have q1 : (l.getD j fo0).cells = [.int .u8 o, .str s, .sl none a.length (a.flatMap Tm.cells), .sl none b.length (b.flatMap Fo.cells)] := by rw [e1, Fo.cells_mk]
      rw [q1] at hx hns
      have hmb1 := hmb (H.length + 3) (j + 1) (.inl hbpc)
      have hlb1 := hlb (H.length + 3)
      (repeat' ((conv => whnf); (first | (refine IfN.id ?_; first | refine IfN.dT (by omega) ?_ | fail) | (refine EqN.id ?_; first | (refine EqN.addN _ _ (by first | with_reducible rfl | with_reducible exact cst1 | with_reducible exact cst0 | with_reducible exact cst2 | with_reducible exact cst3 | with_reducible exact cst4 | with_reducible exact cst5 | with_reducible exact cst6 | with_reducible exact cst7 | with_reducible exact cst8 | with_reducible exact cst14 | with_reducible exact cst15 | with_reducible exact cst25 | with_reducible exact cst30 | with_reducible exact cst31 | fail) (by first | with_reducible rfl | with_reducible exact cst1 | with_reducible exact cst0 | with_reducible exact cst2 | with_reducible exact cst3 | with_reducible exact cst4 | with_reducible exact cst5 | with_reducible exact cst6 | with_reducible exact cst7 | with_reducible exact cst8 | with_reducible exact cst14 | with_reducible exact cst15 | with_reducible exact cst25 | with_reducible exact cst30 | with_reducible exact cst31 | fail) ?_ ?_; · (repeat' (first | omega | refine And.intro ?_ ?_ | exact bnd_andl (by omega) | exact bnd_andr (by omega) | refine bnd_or ?_ ?_ | refine bnd_or31 ?_ ?_ | refine bnd_xor ?_ ?_ | refine bnd_xor31 ?_ ?_ | refine bnd_shr ?_ | refine bnd_shl ?_ ?_ | refine bnd_mod ?_ | refine bnd_andl ?_ | fail))) | fail) | (refine SideN.mk ?_ ?_; · first | kernel_rfl | omega | exact List.cons_ne_nil _ _ | (simp; done) | (simp; omega) | exact trivial | assumption | fail) | (refine CallN.id ?_; first | refine CallN.det _ (hx _) ?_ | fail) | refine SegN.nthE fo0 j rfl hlt fo_size q1 ?_ | refine SideN.mk ⟨rfl, rfl, rfl, hb1, hb2⟩ ?_ | (refine PtrN.id ?_; first | refine PtrN.loc _ rfl ?_ | fail) | refine DrawN.mk' [] ?_ | fail))); all_goals (conv => whnf)
      rw [← hns]
      exact ⟨⟨(true, j + 1), ⟨by show j + 1 ≤ l.length; omega, by show true = decide (i < j + 1); rw [eq_comm, decide_eq_true_iff]; omega⟩, by show l.length - (j + 1) < l.length - j; omega, ⟨⟨_, rfl, Wk.refl _⟩, ⟨_, rfl, Wk.of_eq (congrArg (AV.int _) (by show _ = (((j + 1 : Nat)) : Int); omega))⟩, trivial⟩, .inl ⟨rfl, rfl⟩, rfl, [_], rfl, .inr ⟨by simp [belowRE, below, tr, hmb1], by simp [belowH, Blk.below, belowL, below, tms_below, fos_below, hlb1]⟩⟩⟩
    · obtain rfl : j = l.length := by omega
      (repeat' ((conv => whnf); (first | (refine IfN.id ?_; first | refine IfN.dF (by omega) ?_ | fail) | refine DrawN.mk' [] ?_ | fail))); all_goals (conv => whnf)
      exact EndN.keep _ (Wk.refl _) ⟨rfl, by rw [hcl4]⟩
end Go.Proofs.YtejegcmnddedmaaGreatDoor
/-! text UC02z -/
namespace Go.Proofs.YtejegcmnddedmaaGreatDoor
open Go.Vsi
set_option maxHeartbeats 4000000
attribute [local irreducible] VW VCall VO bits

theorem KpL.low {n0 : Nat} {loc : Heap} {j : Nat} : ∀ {l : List AV}, belowL n0 l → KpL n0 loc j l l
  | [], _ => .nil
  | v :: l, h => .cons (.low v h.1) (KpL.low h.2)
theorem KpL.app {n0 : Nat} {loc : Heap} {j : Nat} : ∀ {a a' b b' : List AV}, KpL n0 loc j a a' → KpL n0 loc j b b' → KpL n0 loc j (a ++ b) (a' ++ b')
  | _, _, _, _, .nil, h => h
  | _, _, _, _, .cons h1 h2, h => .cons h1 (KpL.app h2 h)
theorem KpL.flat {n0 : Nat} {loc : Heap} {j : Nat} {f g : Nat → List AV} : ∀ l : List Nat, (∀ k, KpL n0 loc j (f k) (g k)) → KpL n0 loc j (l.flatMap f) (l.flatMap g)
  | [], _ => .nil
  | k :: l, h => by
    rw [List.flatMap_cons, List.flatMap_cons]
    exact KpL.app (h k) (KpL.flat l h)
theorem belowL_flatN {n : Nat} {f : Nat → List AV} : ∀ l : List Nat, (∀ k, belowL n (f k)) → belowL n (l.flatMap f)
  | [], _ => trivial
  | k :: l, h => by
    rw [List.flatMap_cons, belowL_append]
    exact ⟨h k, belowL_flatN l h⟩
theorem cells4_below {n : Nat} {h : AV} (hb : below n h) (f : Fo) : belowL n (cells4 f h) := by
  obtain ⟨o, s, l, m, rfl⟩ := fo_ex f
  simp [cells4, belowL, below, tms_below, hb]
theorem head_below (w : Bool) : ∀ (pl : List Int) (f : Fo) (n : Nat), below (n + 1) ((headP w pl f).av w n)
  | [], f, n => by simp [headP, HD.av, below, fos_below]
  | [_], f, n => by cases w <;> simp [headP, HD.av, below]
  | i :: j :: r, f, n => by
    rw [headP_cons]
    refine ⟨(fun t e => by cases e), belowL_flatN _ fun k => ?_⟩
    split
    · exact cells4_below (head_below w (j :: r) _ n) _
    · exact fo_below _ _
theorem cells4_kp {n0 : Nat} {loc : Heap} {j : Nat} {h h' : AV} (hk : Kp n0 loc j h h') (f : Fo) : KpL n0 loc j (cells4 f h) (cells4 f h') := by
  obtain ⟨o, s, l, m, rfl⟩ := fo_ex f
  refine .cons (.low _ trivial) (.cons (.low _ trivial) (.cons (.low _ ?_) (.cons hk .nil)))
  simp [below, tms_below]
/-- the head after the block's move: w': what it becomes -/
theorem head_kp (w : Bool) (n0 : Nat) (loc : Heap) (q : Nat) : ∀ (pl : List Int) (f : Fo), pl ≠ [] → (w = true → 0 < (lastL pl f).length) → loc[q]? = some (.vec 25 4 ((lastL pl f).flatMap Fo.cells)) → Kp n0 loc q ((headP false pl f).av false (n0 + q)) ((headP w pl f).av w n0)
  | [], f, h, _, _ => absurd rfl h
  | [_], f, _, hw, hl => by
    have h4 : ((lastL [‹Int›] f).flatMap Fo.cells).length = (subs f).length * 4 := flat_length fo_size _
    cases w with
    | false => exact .vv hl h4
    | true =>
      have := hw rfl
      exact .vs hl h4 (by show 0 < (subs f).length * 4; have h5 : (lastL [‹Int›] f).length = (subs f).length := rfl; omega)
  | i :: j :: r, f, _, hw, hl => by
    rw [headP_cons, headP_cons]
    refine .sl (KpL.flat _ fun k => ?_)
    split
    · exact cells4_kp (head_kp w n0 loc q (j :: r) _ (by simp) hw hl) _
    · exact KpL.low (fo_below _ _)

def PathC (pl : List Int) (f : Fo) : Prop := ∀ H, VCall Tryz.prog 42 [.agg f.cells] H (fun r H' => r = .agg (cells4 f ((headP false pl f).av false H.length)) ∧ H' = H ++ [.vec 25 4 ((lastL pl f).flatMap Fo.cells)])
theorem copyP_step (o : Nat) (s : ByteArray) (l : List Tm) (m : List Fo) (hl : l.length * 48 ≤ capB) (hlf : Tm.fitL l) (hd : HD) (lc : List AV) (hlc : 0 < lc.length) (hlb : ∀ n, belowL n lc)
    (hk : ∀ n0 loc q, loc[q]? = some (.vec 25 4 lc) → Kp n0 loc q (hd.av false (n0 + q)) (hd.av false n0))
    (h : ∀ H, VCall Tryz.prog 76 [.sl none m.length (m.flatMap Fo.cells), .clo (.func 42) [] []] H (fun r H' => r = hd.av false H.length ∧ H' = H ++ [.vec 25 4 lc])) (H : Heap) :
    VCall Tryz.prog 42 [.agg (Fo.mk o s l m).cells] H (fun r H' => r = .agg (cells4 (.mk o s l m) (hd.av false H.length)) ∧ H' = H ++ [.vec 25 4 lc]) := by
  have h1 := syTs_c l hl (syTs_g l hlf)
  have hb1 := fun n => tms_below n l
  have h2 : ∀ B1 B2, VCall Tryz.prog 76 [.sl none m.length (m.flatMap Fo.cells), .clo (.func 42) [] []] (H ++ [B1, B2]) (fun r H' => r = hd.av false (H.length + 2) ∧ H' = (H ++ [B1, B2]) ++ [.vec 25 4 lc]) := fun B1 B2 => by
    have := h (H ++ [B1, B2])
    rwa [List.length_append] at this
  have hraw : VCall Tryz.prog 42 [.agg (Fo.mk o s l m).cells] H (fun r H' => r = .agg (cells4 (.mk o s l m) (hd.av false (H.length + 2))) ∧ H' = H ++ [.box 25 (Fo.mk o s l m).cells, .box 25 (cells4 (.mk o s l m) (hd.av false (H.length + 2))), .vec 25 4 lc]) := by
    rw [Fo.cells_mk]
    simp only [cells4]
    generalize l.flatMap Tm.cells = tc at *
    generalize m.flatMap Fo.cells = mc at *
    generalize l.length = ln at *
    generalize m.length = mn at *
    cases hd with
    | vs n =>
      unfold HD.av at *
      refine fn_gen Tryz.E0 Tryz.mx Tryz.func42 (by kernel_rfl) rfl (Nat.le_of_ble_eq_true rfl) rfl fun hcl hbl => ?_
      (repeat' ((conv => whnf); (first | (refine SideN.mk ?_ ?_; · first | kernel_rfl | omega | exact List.cons_ne_nil _ _ | (simp; done) | (simp; omega) | exact trivial | assumption | fail) | (refine CallD.id ?_; first | refine CallD.det _ (fun _ hq X => h1 _) ?_ | fail) | refine CallD.app1 _ _ _ 1 (h2 _ _) rfl rfl rfl ?_ | refine DrawN.mk' [] ?_ | fail))); all_goals (conv => whnf)
      exact EndN.keep _ (Wk.refl _) ⟨rfl, rfl⟩
    | sl n c =>
      unfold HD.av at *
      refine fn_gen Tryz.E0 Tryz.mx Tryz.func42 (by kernel_rfl) rfl (Nat.le_of_ble_eq_true rfl) rfl fun hcl hbl => ?_
      (repeat' ((conv => whnf); (first | (refine SideN.mk ?_ ?_; · first | kernel_rfl | omega | exact List.cons_ne_nil _ _ | (simp; done) | (simp; omega) | exact trivial | assumption | fail) | (refine CallD.id ?_; first | refine CallD.det _ (fun _ hq X => h1 _) ?_ | fail) | refine CallD.app1 _ _ _ 1 (h2 _ _) rfl rfl rfl ?_ | refine DrawN.mk' [] ?_ | fail))); all_goals (conv => whnf)
      exact EndN.keep _ (Wk.refl _) ⟨rfl, rfl⟩
  refine VCall.oneV (j := 2) hraw (.agg (cells4_kp (hk _ _ 2 rfl) _)) rfl hlc (KpL.low (hlb _))
theorem lastL_pos : ∀ (pl : List Int) (f : Fo), pl ≠ [] → findF f pl ≠ none → 0 < (lastL pl f).length
  | [], f, h, _ => absurd rfl h
  | [i], f, _, hf => by
    rw [findF_cons] at hf
    split at hf
    · rename_i h
      show 0 < (subs f).length
      omega
    · exact absurd rfl hf
  | i :: j :: r, f, _, hf => by
    rw [findF_cons] at hf
    split at hf
    · exact lastL_pos (j :: r) _ (by simp) hf
    · exact absurd rfl hf
theorem path_c : ∀ (pl : List Int) (f : Fo), f.fit → pl ≠ [] → findF f pl ≠ none → PathC pl f
  | [], f, _, h, _ => absurd rfl h
  | [i], f, hf, _, hi => by
    obtain ⟨o, s, l, m, rfl⟩ := fo_ex f
    intro H
    have hp := lastL_pos [i] (.mk o s l m) (by simp) hi
    refine copyP_step o s l m hf.2.1 hf.2.2.1 (.vs m.length) (m.flatMap Fo.cells) ?_ (fun n => fos_below n _) (fun n0 loc q hq => head_kp false n0 loc q [i] (.mk o s l m) (by simp) (by simp) hq) (vecL_c m hf.2.2.2.1 hp (syFs_g m hf.2.2.2.2)) H
    rw [flat_length fo_size]
    have : 0 < m.length := hp
    omega
  | i :: j :: r, f, hf, _, hi => by
    obtain ⟨o, s, l, m, rfl⟩ := fo_ex f
    rw [findF_cons] at hi
    split at hi
    case isFalse => exact absurd rfl hi
    rename_i hin
    have hlt : i.toNat < m.length := by have : i < (m.length : Int) := hin.2; omega
    have hx : (m.getD i.toNat fo0).fit := Fo.fitL_mem hf.2.2.2.2 _ (getD_memT m i.toNat fo0 hlt)
    have ih := path_c (j :: r) (m.getD i.toNat fo0) hx (by simp) hi
    have hp := lastL_pos (j :: r) (m.getD i.toNat fo0) (by simp) hi
    intro H
    refine copyP_step o s l m hf.2.1 hf.2.2.1 (headP false (i :: j :: r) (.mk o s l m)) ((lastL (j :: r) (m.getD i.toNat fo0)).flatMap Fo.cells) ?_ (fun n => fos_below n _) (fun n0 loc q hq => head_kp false n0 loc q (i :: j :: r) (.mk o s l m) (by simp) (by simp) hq) (fun H => ?_) H
    · rw [flat_length fo_size]; omega
    · have hm := midL_c m hf.2.2.2.1 i.toNat hlt (syFs_g m hf.2.2.2.2) (headP false (j :: r) (m.getD i.toNat fo0)) (fun n => ⟨head_below false _ _ n, trivial⟩) ((lastL (j :: r) (m.getD i.toNat fo0)).flatMap Fo.cells) (fun n => fos_below n _) ih H
      refine VCall.oneV (j := 2) hm ?_ rfl (by rw [flat_length fo_size]; omega) (KpL.low (fos_below _ _))
      rw [headP_cons]
      refine .sl (KpL.flat _ fun k => ?_)
      unfold midC
      show KpL _ _ _ (if k = i.toNat then _ else _) (if k = i.toNat then _ else _)
      split
      · exact cells4_kp (head_kp false _ _ 2 (j :: r) _ (by simp) (by simp) rfl) _
      · exact KpL.low (fo_below _ _)
/-- Copy, for a place's store -/
theorem pathW_c (pl : List Int) (f : Fo) (hf : f.fit) (h0 : pl ≠ []) (hi : findF f pl ≠ none) (H : Heap) : VCall Tryz.prog 42 [.agg f.cells] H (fun r H' => ∃ s, r = .agg (cells4 f ((headP true pl f).av true H.length)) ∧ H' = H ++ [.box 25 ((lastL pl f).flatMap Fo.cells ++ List.replicate s .junk)]) := by
  have hp := lastL_pos pl f h0 hi
  have h1 := VCall.one (ι := Unit) (u := fun _ => .agg (cells4 f ((headP false pl f).av false H.length))) (u' := fun _ => .agg (cells4 f ((headP true pl f).av true H.length))) (loc := fun _ => [.vec 25 4 ((lastL pl f).flatMap Fo.cells)]) (j := 0) (t := 25) (l' := fun _ => (lastL pl f).flatMap Fo.cells)
    (VCall.mono (path_c pl f hf h0 hi H) fun r H' h => ⟨(), h⟩) (fun _ => .agg (cells4_kp (head_kp true _ _ 0 pl f h0 (fun _ => hp) rfl) _)) (fun _ => .vec rfl (by rw [flat_length fo_size]; omega) (KpL.low (fos_below _ _)))
  exact VCall.mono h1 fun r H' ⟨_, s, h2, h3⟩ => ⟨s, h2, h3⟩
end Go.Proofs.YtejegcmnddedmaaGreatDoor
/-! text UD02z -/
namespace Go.Proofs.YtejegcmnddedmaaGreatDoor
open Go.Vsi
set_option maxHeartbeats 4000000
attribute [local irreducible] VW VCall VO bits

/-! ### syntax.With -/
def putF : List Int → Fo → Fo → Fo
  | [], _, p => p
  | i :: r, .mk o s l m, p => .mk o s l (m.set i.toNat (putF r (m.getD i.toNat fo0) p))
theorem putF_cons (i : Int) (r : List Int) (o : Nat) (s : ByteArray) (l : List Tm) (m : List Fo) (p : Fo) : putF (i :: r) (.mk o s l m) p = .mk o s l (m.set i.toNat (putF r (m.getD i.toNat fo0) p)) := rfl
def withA (f : Fo) (pl : List Int) (p : Fo) : AV := match findF f pl with
  | some _ => .tup [.agg (putF pl f p).cells, .int .i64 0]
  | none => .tup [.agg fo0.cells, .int .i64 6]
/-- the last index of a place -/
def lastI : List Int → Nat
  | [] => 0
  | [i] => i.toNat
  | _ :: j :: r => lastI (j :: r)
theorem lastI_lt : ∀ (pl : List Int) (f : Fo), pl ≠ [] → findF f pl ≠ none → lastI pl < (lastL pl f).length
  | [], f, h, _ => absurd rfl h
  | [i], f, _, hf => by
    rw [findF_cons] at hf
    split at hf
    · rename_i h
      show i.toNat < (subs f).length
      omega
    · exact absurd rfl hf
  | i :: j :: r, f, _, hf => by
    rw [findF_cons] at hf
    split at hf
    · exact lastI_lt (j :: r) _ (by simp) hf
    · exact absurd rfl hf

/-! cells of a list that is written at a place -/
theorem replC_app : ∀ (x y b : List AV), x.length = y.length → replC (x ++ b) y = some (y ++ b)
  | [], [], b, _ => by simp [replC]
  | u :: x, v :: y, b, h => by
    rw [List.cons_append, replC_cons, replC_app x y b (by simpa using h)]
    rfl
  | [], _ :: _, _, h => by simp at h
  | _ :: _, [], _, h => by simp at h
theorem setC_app : ∀ (a x y b : List AV), x.length = y.length → setC (a ++ (x ++ b)) a.length y = some (a ++ (y ++ b))
  | [], x, y, b, h => by
    have := replC_app x y b h
    simpa [setC] using this
  | u :: a, x, y, b, h => by
    rw [List.cons_append, List.length_cons, setC_cons, setC_app a x y b h]
    rfl
theorem setC_flat : ∀ (L : List Fo) (i : Nat) (p : Fo) (b : List AV), i < L.length → setC (L.flatMap Fo.cells ++ b) (0 + i * 4) p.cells = some ((L.set i p).flatMap Fo.cells ++ b)
  | L, i, p, b, hi => by
    have e1 : L = L.take i ++ (L.getD i fo0 :: L.drop (i + 1)) := by
      rw [← drop_cons L fo0 i hi, List.take_append_drop]
    have e2 : (L.set i p) = L.take i ++ (p :: L.drop (i + 1)) := by
      rw [List.set_eq_take_append_cons_drop, if_pos hi]
    have h4 : ((L.take i).flatMap Fo.cells).length = 0 + i * 4 := by
      rw [flat_length fo_size, List.length_take, Nat.min_eq_left (Nat.le_of_lt hi), Nat.zero_add]
    have := setC_app ((L.take i).flatMap Fo.cells) (L.getD i fo0).cells p.cells ((L.drop (i + 1)).flatMap Fo.cells ++ b) (by rw [fo_size, fo_size])
    rw [h4] at this
    rw [e2, List.flatMap_append, List.flatMap_cons]
    conv => lhs; rw [e1]
    rw [List.flatMap_append, List.flatMap_cons]
    simpa only [List.append_assoc] using this

/-! what is put at a place, read off the memory -/
theorem frzL_app {n0 : Nat} {loc : Heap} : ∀ {a a' b b' : List AV}, FrzL n0 loc a a' → FrzL n0 loc b b' → FrzL n0 loc (a ++ b) (a' ++ b')
  | _, _, _, _, .nil, h => h
  | _, _, _, _, .cons h1 h2, h => .cons h1 (frzL_app h2 h)
theorem range_set (m : List Fo) (i : Nat) (x : Fo) (h : i < m.length) : (m.set i x).flatMap Fo.cells = (List.range m.length).flatMap fun k => if k = i then x.cells else (m.getD k fo0).cells := by
  have e : m.set i x = (List.range m.length).map fun k => if k = i then x else m.getD k fo0 := by
    apply List.ext_getElem?
    intro k
    rw [List.getElem?_set, List.getElem?_map]
    rcases Nat.lt_or_ge k m.length with hk | hk
    · rw [List.getElem?_range hk]
      by_cases hik : i = k
      · subst hik; simp [h]
      · rw [if_neg hik]; simp [Ne.symm hik, List.getElem?_eq_getElem hk]
    · rw [List.getElem?_eq_none (by simpa using hk), if_neg (by omega)]
      rw [List.getElem?_eq_none (by simpa using hk)]; rfl
  rw [e, List.flatMap_map]
  congr 1
  funext k
  split <;> rfl
/-- frozen and weakened -/
def FW (n0 : Nat) (loc : Heap) (u v : AV) : Prop := ∃ u', Frz n0 loc u u' ∧ Wk u' v
def FWL (n0 : Nat) (loc : Heap) (u v : List AV) : Prop := ∃ u', FrzL n0 loc u u' ∧ WkL u' v
theorem FWL.id {n0 : Nat} {loc : Heap} (l : List AV) : FWL n0 loc l l := ⟨l, FrzL.refl _, WkL.id _⟩
theorem FWL.cons {n0 : Nat} {loc : Heap} {u v : AV} {l m : List AV} (h : FW n0 loc u v) (k : FWL n0 loc l m) : FWL n0 loc (u :: l) (v :: m) := by
  obtain ⟨u', h1, h2⟩ := h
  obtain ⟨l', k1, k2⟩ := k
  exact ⟨u' :: l', .cons h1 k1, h2, k2⟩
theorem FWL.app {n0 : Nat} {loc : Heap} {u v l m : List AV} (h : FWL n0 loc u v) (k : FWL n0 loc l m) : FWL n0 loc (u ++ l) (v ++ m) := by
  obtain ⟨u', h1, h2⟩ := h
  obtain ⟨l', k1, k2⟩ := k
  exact ⟨u' ++ l', frzL_app h1 k1, h2.app k2⟩
theorem FWL.flat {n0 : Nat} {loc : Heap} {f g : Nat → List AV} : ∀ l : List Nat, (∀ k, FWL n0 loc (f k) (g k)) → FWL n0 loc (l.flatMap f) (l.flatMap g)
  | [], _ => FWL.id _
  | k :: l, h => by
    rw [List.flatMap_cons, List.flatMap_cons]
    exact (h k).app (FWL.flat l h)
theorem FW.refl {n0 : Nat} {loc : Heap} (v : AV) : FW n0 loc v v := ⟨v, .refl v, Wk.refl v⟩
theorem FW.sl {n0 : Nat} {loc : Heap} {n : Nat} {l m : List AV} (h : FWL n0 loc l m) : FW n0 loc (.sl none n l) (.sl none n m) := by
  obtain ⟨l', h1, h2⟩ := h
  exact ⟨_, .sl h1, wk_slL h2⟩
/-- the head that a place leaves, when its list has been written -/
def headV : List Int → Fo → Fo → AV
  | [], f, _ => .sl none (subs f).length ((subs f).flatMap Fo.cells)
  | i :: r, f, p => .sl none (subs f).length (((subs f).set i.toNat (putF r ((subs f).getD i.toNat fo0) p)).flatMap Fo.cells)
theorem cells4_put (i : Int) (r : List Int) (f p : Fo) : cells4 f (headV (i :: r) f p) = (putF (i :: r) f p).cells := by
  obtain ⟨o, s, l, m, rfl⟩ := fo_ex f
  rw [putF_cons, Fo.cells_mk, List.length_set]
  rfl
theorem cells4_fw {n0 : Nat} {loc : Heap} {h h' : AV} (hk : FW n0 loc h h') (f : Fo) : FWL n0 loc (cells4 f h) (cells4 f h') := by
  obtain ⟨o, s, l, m, rfl⟩ := fo_ex f
  exact FWL.cons (FW.refl _) (FWL.cons (FW.refl _) (FWL.cons (FW.refl _) (FWL.cons hk (FWL.id []))))
theorem head_fw (n0 : Nat) (loc : Heap) (q s : Nat) (p : Fo) : ∀ (pl : List Int) (f : Fo), pl ≠ [] → findF f pl ≠ none → lget loc q = some (.box 25 (((lastL pl f).set (lastI pl) p).flatMap Fo.cells ++ List.replicate s .junk)) → FW n0 loc ((headP true pl f).av true (n0 + q)) (headV pl f p)
  | [], f, h, _, _ => absurd rfl h
  | [i], f, _, _, hl => ⟨_, .ms hl rfl (FrzL.refl _), wk_pre _ _ _⟩
  | i :: j :: r, f, _, hf, hl => by
    rw [findF_cons] at hf
    split at hf
    case isFalse => exact absurd rfl hf
    rename_i hin
    have hlt : i.toNat < (subs f).length := by omega
    rw [headP_cons]
    show FW n0 loc (.sl none _ _) (.sl none _ _)
    rw [range_set _ _ _ hlt]
    refine FW.sl (FWL.flat _ fun k => ?_)
    split
    · rw [← cells4_put]
      exact cells4_fw (head_fw n0 loc q s p (j :: r) _ (by simp) hf hl) _
    · exact FWL.id _
end Go.Proofs.YtejegcmnddedmaaGreatDoor
