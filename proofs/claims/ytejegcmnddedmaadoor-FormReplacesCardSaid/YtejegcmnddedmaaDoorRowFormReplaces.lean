/- The law FormReplaces: what its walk gives, brought to the row's form. -/
import Derived.Test.YtejegcmnddedmaaDoorRows
import Derived.Test.YtejegcmnddedmaaDoorTie
import Derived.Test.YtejegcmnddedmaaDoorCards
import Derived.SevenTiedAt
import Derived.LaidMore
import Derived.Stop.Joined
import Derived.WalkKit
import Derived.ProofKit
import Derived.OpenShut
import Derived.Test.YtejegcmnddedmaaDoorK9
set_option linter.unusedSimpArgs false
set_option linter.unusedVariables false
namespace Go.Proofs.YtejegcmnddedmaaDoor.formReplaces
open Go.ChangeShapes Go.WideShapes Go.ChangeAt Go.RowKit Go.Vsi
set_option linter.unusedVariables false
theorem own : ownKnob Tryd.prog.godebug = none := by kernel_rfl
def ty25 : Ty := .fo
theorem ty25_ok : TyOk Tryd.prog 25 ty25 := tyOf_ok Tryd.T_ok 12 25 _ (by kernel_rfl)
def ty32 : Ty := (.sl (.int .i64))
theorem ty32_ok : TyOk Tryd.prog 32 ty32 := tyOf_ok Tryd.T_ok 12 32 _ (by kernel_rfl)
theorem fo_tys : FoTys Tryd.prog 25 57 23 22 := ⟨⟨_, _, _, _, _, Tryd.underlying25, rfl, rfl, rfl⟩, ⟨_, _, _, _, Tryd.underlying57, rfl, rfl⟩, Tryd.underlying22, Tryd.underlying23, by kernel_rfl, by kernel_rfl⟩
/-- the walk, over the arguments as they read -/
theorem walk (x0 : ty25.I) (x1 : ty25.I) (x2 : ty32.I) (x3 : ty32.I) (g0 : ty25.good x0) (g1 : ty25.good x1) (g2 : ty32.good x2) (g3 : ty32.good x3) (f0 : Fo.fit x0) (f1 : Fo.fit x1) : VDet Tryd.prog 4 [.agg (ty25.enc x0), .agg (ty25.enc x1), .sl none (List.length (α := Ty.I (.int .i64)) x2) (List.flatMap (α := Ty.I (.int .i64)) (Ty.enc (.int .i64)) x2), .sl none (List.length (α := Ty.I (.int .i64)) x3) (List.flatMap (α := Ty.I (.int .i64)) (Ty.enc (.int .i64)) x3)] [] (.bool true) := by
  exact formReplaces_c x0 x1 x2 x3 g0 g1 f0 f1 (maxLen_le g2.1) (maxLen_le g3.1) []
set_option maxRecDepth 100000 in
theorem contract (H : Type) (enc : TypeId × Value → H) (W : World) (base : Nat) (args : Array Value) (ds gs : List (DataW H)) (before : List MemPlace)
    (hval : ∀ (j : Nat) t v, Tryd.f4.params[j]? = some t → args[j]? = some v → Value.okWide Tryd.prog W .any base t v)
    (hW : DataW.Whole enc Tryd.prog Tryd.f4.params.toList Rows.formReplacesSpec.vars false W args.toList ds gs before) (hL : laidMetH Tryd.prog [("lyceum/syntax.rows", Rows.laid_lyceum_syntax_rows)] W) (hS : (DataW.weightsEach Tryd.prog (Tryd.f4.params.toList ++ Rows.formReplacesSpec.plain.varTypes Tryd.prog) (ds ++ gs)).all (· ≤ reachBytes) = true) :
    Calls Tryd.prog 4 args W fun e W' => ∃ v, e = .returned v ∧ Rows.formReplacesSpec.post enc Tryd.prog Tryd.f4 false true false false W args v W' := by
  have hW' := hW
  obtain ⟨p, q, hA0, hV, rfl, hfz, hnd⟩ := hW
  have hA : DataW.TrodAll enc Tryd.prog W 0 (fun _ => true) true Tryd.f4.params.toList args.toList ds p := hA0
  rw [Tryd.params4] at hA hval hS
  obtain ⟨v0, vs0, d0, ds0, p0, q0, hargs, rfl, rfl, h0, s0⟩ := trodAll_cons hA
  obtain ⟨v1, vs1, d1, ds1, p1, q1, rfl, rfl, rfl, h1, s1⟩ := trodAll_cons s0
  obtain ⟨v2, vs2, d2, ds2, p2, q2, rfl, rfl, rfl, h2, s2⟩ := trodAll_cons s1
  obtain ⟨v3, vs3, d3, ds3, p3, q3, rfl, rfl, rfl, h3, s3⟩ := trodAll_cons s2
  obtain ⟨rfl, rfl, rfl⟩ := trodAll_nil s3
  obtain rfl : args = #[v0, v1, v2, v3] := by cases args; simp_all
  obtain ⟨rfl, rfl⟩ := trodVars_none hV
  obtain ⟨x0, r0, g0, e0⟩ := arg_aggD (g := G.none) (fun _ _ h => h) (.inl ⟨_, Tryd.underlying25⟩) ty25_ok (hval 0 25 v0 rfl rfl) h0
  have f0 : Fo.fit x0 := fo_fit fo_tys e0 fun w hw => by
    have hq := List.all_eq_true.1 hS w (by simp only [List.cons_append, List.nil_append, DataW.weightsEach, List.mem_append]; simp [hw])
    exact of_decide_eq_true hq
  obtain ⟨x1, r1, g1, e1⟩ := arg_aggD (g := G.none) (fun _ _ h => h) (.inl ⟨_, Tryd.underlying25⟩) ty25_ok (hval 1 25 v1 rfl rfl) h1
  have f1 : Fo.fit x1 := fo_fit fo_tys e1 fun w hw => by
    have hq := List.all_eq_true.1 hS w (by simp only [List.cons_append, List.nil_append, DataW.weightsEach, List.mem_append]; simp [hw])
    exact of_decide_eq_true hq
  obtain ⟨x2, r2, g2⟩ := arg_one (g := G.none) (fun _ _ h => h) (.inr (.inr (.inr ⟨_, Tryd.underlying32⟩))) ty32_ok (hval 2 32 v2 rfl rfl) h2
  obtain ⟨x3, r3, g3⟩ := arg_one (g := G.none) (fun _ _ h => h) (.inr (.inr (.inr ⟨_, Tryd.underlying32⟩))) ty32_ok (hval 3 32 v3 rfl rfl) h3
  exact law_calls hW' (walk x0 x1 x2 x3 g0 g1 g2 g3 f0 f1) (LRel.more r0 (.more r1 (.more r2.head1 (.more r3.head1 (LRel.nil))))) (gl_of_laid hL) (by kernel_rfl) (by kernel_rfl) rfl Tryd.underlying4 rfl rfl
set_option maxRecDepth 100000 in
theorem door_met (os : Os) (args : Array Value) : laidMetH Tryd.prog [("lyceum/syntax.rows", Rows.laid_lyceum_syntax_rows)] ((World.doorLaid Tryd.prog 400 os).forCall (fun _ _ => 0) ⟨#[], args, []⟩).memory :=
  laidMetH_of_parts3 (fuel := 8) (laidMet_of_run' 8 (by kernel_rfl) (by kernel_rfl)) (by kernel_rfl) (by kernel_rfl)
set_option maxRecDepth 100000 in
theorem lifted (os : Os) (started : os.Started) (H : Type) (enc : TypeId × Value → H) :
    ReturnsInHanded {} Tryd.checked os 4 .any (fun w args => (Rows.formReplacesSpec.pre enc Tryd.prog Tryd.f4 [] false w args ∧ laidMetH Tryd.prog [("lyceum/syntax.rows", Rows.laid_lyceum_syntax_rows)] w) ∧ sizedMet enc Tryd.prog Tryd.f4 (OpenSpec.ofChange Rows.formReplacesSpec) false w args) (Rows.formReplacesSpec.post enc Tryd.prog Tryd.f4 false true false false) := by
  refine returnsInHanded_of_change_and (C := Tryd.checked) (X := fun w _ => laidMetH Tryd.prog [("lyceum/syntax.rows", Rows.laid_lyceum_syntax_rows)] w) (fun _ _ _ hh h => h.of_heap hh) own started (by kernel_rfl) Tryd.func4
    (ChangeSpec.witness_shaped (enc := enc) (C := Tryd.checked) (os := os) (X := fun w _ => laidMetH Tryd.prog [("lyceum/syntax.rows", Rows.laid_lyceum_syntax_rows)] w) false (World.doorLaid Tryd.prog 400 os) #[.agg #[.int .u8 0, .string .empty, .slice none 0 0, .slice none 0 0], .agg #[.int .u8 0, .string .empty, .slice none 0 0, .slice none 0 0], .slice none 0 0, .slice none 0 0] 8 rfl (World.shaped_of_RefB (by kernel_rfl) (by kernel_rfl)) (by kernel_rfl) (by kernel_rfl) (by kernel_rfl) (door_met os _)) ?_
  intro W base args ds gs before hval hW _ hS hL _
  exact contract H enc W base args ds gs before hval hW hL hS
set_option maxRecDepth 100000 in
theorem over : Rows.formReplacesRow.holds Tryd.pinned (OpenSpec.ofChange Rows.formReplacesSpec) :=
  OpenClaim.holds_of_wide 4 Tryd.f4 rfl rfl rfl rfl rfl rfl rfl ⟨rfl, rfl, rfl, rfl, rfl⟩ rfl rfl rfl rfl rfl (by kernel_rfl) Tryd.func4 (by kernel_rfl) (of_decide_eq_true (by kernel_rfl))
    (by unfold Func.isWrapper; first | (rw [if_pos (by decide +kernel)]; kernel_rfl) | (rw [if_neg (by decide +kernel)]; exact ⟨rfl, rfl⟩))
    (fun os started H enc _ => lifted os started H enc)
set_option maxRecDepth 100000 in
theorem proved : Rows.FormReplacesCardSaid :=
  Claim7.holds_tied_plain_at .later [] [.data] true (true, "a21d596a057142331e9222cda5903ab5932bdefd0dc4cf2b12a1771f52b713b4") false
    over (fun _ h => by cases h) (by kernel_rfl) (fun _ h => by cases h) formReplaces_row_tie rfl ⟨rfl, rfl⟩ (by kernel_rfl) rfl
    (fun f fn hf hfn => by
      obtain rfl : f = 4 := Option.some.inj ((show Tryd.prog.funcNamed "lyceum/lyceumlaw02.FormReplaces" = some 4 by kernel_rfl).symm.trans hf) |>.symm
      obtain rfl : fn = Tryd.f4 := (Option.some.inj (Tryd.func4.symm.trans hfn)).symm
      exact ⟨by kernel_rfl, fun j t ht => by
        rw [Tryd.params4] at ht
        have hm : t ∈ [25, 25, 32, 32] := by simpa using Array.mem_of_getElem? ht
        have hall : ([25, 25, 32, 32].all fun u => !Tryd.prog.wantsStandIn u) = true := by kernel_rfl
        exact (show Tryd.prog.wantsStandIn t = false by simpa using List.all_eq_true.1 hall t hm)⟩)
    (by kernel_rfl)
end Go.Proofs.YtejegcmnddedmaaDoor.formReplaces

