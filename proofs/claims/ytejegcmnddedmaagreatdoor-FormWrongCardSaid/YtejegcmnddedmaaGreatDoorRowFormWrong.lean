/- The law FormWrong: what its walk gives, brought to the row's form. -/
import Derived.Test.YtejegcmnddedmaaGreatDoorRows
import Derived.Test.YtejegcmnddedmaaGreatDoorTie
import Derived.Test.YtejegcmnddedmaaGreatDoorCards
import Derived.SevenTiedAt
import Derived.LaidMore
import Derived.Stop.Joined
import Derived.WalkKit
import Derived.ProofKit
import Derived.OpenShut
import Derived.Test.YtejegcmnddedmaaGreatDoorK9
set_option linter.unusedSimpArgs false
set_option linter.unusedVariables false
namespace Go.Proofs.YtejegcmnddedmaaGreatDoor.formWrong
open Go.ChangeShapes Go.WideShapes Go.ChangeAt Go.RowKit Go.Vsi
set_option linter.unusedVariables false
theorem own : ownKnob Tryz.prog.godebug = none := by kernel_rfl
def ty5 : Ty := (.int .u8)
theorem ty5_ok : TyOk Tryz.prog 5 ty5 := tyOf_ok Tryz.T_ok 12 5 _ (by kernel_rfl)
def ty25 : Ty := .fo
theorem ty25_ok : TyOk Tryz.prog 25 ty25 := tyOf_ok Tryz.T_ok 12 25 _ (by kernel_rfl)
def ty31 : Ty := (.int .u16)
theorem ty31_ok : TyOk Tryz.prog 31 ty31 := tyOf_ok Tryz.T_ok 12 31 _ (by kernel_rfl)
theorem fo_tys : FoTys Tryz.prog 25 36 23 22 := ⟨⟨_, _, _, _, _, Tryz.underlying25, rfl, rfl, rfl⟩, ⟨_, _, _, _, Tryz.underlying36, rfl, rfl⟩, Tryz.underlying22, Tryz.underlying23, by kernel_rfl, by kernel_rfl⟩
/-- the walk, over the arguments as they read -/
theorem walk (x0 : ty25.I) (x1 : ty31.I) (x2 : ty5.I) (g0 : ty25.good x0) (g1 : ty31.good x1) (g2 : ty5.good x2) (f0 : Fo.fit x0) : VDet Tryz.prog 5 [.agg (ty25.enc x0), .int .u16 x1, .int .u8 x2] [] (.bool true) := by
  obtain ⟨w, rfl, hw⟩ := u16_nat g1
  obtain ⟨t, rfl, ht⟩ := u8_nat g2
  exact formWrong_c x0 g0 f0 w hw t ht []
set_option maxRecDepth 100000 in
theorem contract (H : Type) (enc : TypeId × Value → H) (W : World) (base : Nat) (args : Array Value) (ds gs : List (DataW H)) (before : List MemPlace)
    (hval : ∀ (j : Nat) t v, Tryz.f5.params[j]? = some t → args[j]? = some v → Value.okWide Tryz.prog W .any base t v)
    (hW : DataW.Whole enc Tryz.prog Tryz.f5.params.toList Rows.formWrongSpec.vars false W args.toList ds gs before) (hL : laidMetH Tryz.prog [("lyceum/syntax.rows", Rows.laid_lyceum_syntax_rows)] W) (hS : (DataW.weightsEach Tryz.prog (Tryz.f5.params.toList ++ Rows.formWrongSpec.plain.varTypes Tryz.prog) (ds ++ gs)).all (· ≤ reachBytes) = true) :
    Calls Tryz.prog 5 args W fun e W' => ∃ v, e = .returned v ∧ Rows.formWrongSpec.post enc Tryz.prog Tryz.f5 false true false false W args v W' := by
  have hW' := hW
  obtain ⟨p, q, hA0, hV, rfl, hfz, hnd⟩ := hW
  have hA : DataW.TrodAll enc Tryz.prog W 0 (fun _ => true) true Tryz.f5.params.toList args.toList ds p := hA0
  rw [Tryz.params5] at hA hval hS
  obtain ⟨v0, vs0, d0, ds0, p0, q0, hargs, rfl, rfl, h0, s0⟩ := trodAll_cons hA
  obtain ⟨v1, vs1, d1, ds1, p1, q1, rfl, rfl, rfl, h1, s1⟩ := trodAll_cons s0
  obtain ⟨v2, vs2, d2, ds2, p2, q2, rfl, rfl, rfl, h2, s2⟩ := trodAll_cons s1
  obtain ⟨rfl, rfl, rfl⟩ := trodAll_nil s2
  obtain rfl : args = #[v0, v1, v2] := by cases args; simp_all
  obtain ⟨rfl, rfl⟩ := trodVars_none hV
  obtain ⟨x0, r0, g0, e0⟩ := arg_aggD (g := G.none) (fun _ _ h => h) (.inl ⟨_, Tryz.underlying25⟩) ty25_ok (hval 0 25 v0 rfl rfl) h0
  have f0 : Fo.fit x0 := fo_fit fo_tys e0 fun w hw => by
    have hq := List.all_eq_true.1 hS w (by simp only [List.cons_append, List.nil_append, DataW.weightsEach, List.mem_append]; simp [hw])
    exact of_decide_eq_true hq
  obtain ⟨x1, r1, g1⟩ := arg_one (g := G.none) (fun _ _ h => h) (.inl ⟨_, Tryz.underlying31⟩) ty31_ok (hval 1 31 v1 rfl rfl) h1
  obtain ⟨x2, r2, g2⟩ := arg_one (g := G.none) (fun _ _ h => h) (.inl ⟨_, Tryz.underlying5⟩) ty5_ok (hval 2 5 v2 rfl rfl) h2
  exact law_calls hW' (walk x0 x1 x2 g0 g1 g2 f0) (LRel.more r0 (.more r1.head1 (.more r2.head1 (LRel.nil)))) (gl_of_laid hL) (by kernel_rfl) (by kernel_rfl) rfl Tryz.underlying4 rfl rfl
set_option maxRecDepth 100000 in
theorem door_met (os : Os) (args : Array Value) : laidMetH Tryz.prog [("lyceum/syntax.rows", Rows.laid_lyceum_syntax_rows)] ((World.doorLaid Tryz.prog 400 os).forCall (fun _ _ => 0) ⟨#[], args, []⟩).memory :=
  laidMetH_of_parts3 (fuel := 8) (laidMet_of_run' 8 (by kernel_rfl) (by kernel_rfl)) (by kernel_rfl) (by kernel_rfl)
set_option maxRecDepth 100000 in
theorem lifted (os : Os) (started : os.Started) (H : Type) (enc : TypeId × Value → H) :
    ReturnsInHanded {} Tryz.checked os 5 .any (fun w args => (Rows.formWrongSpec.pre enc Tryz.prog Tryz.f5 [] false w args ∧ laidMetH Tryz.prog [("lyceum/syntax.rows", Rows.laid_lyceum_syntax_rows)] w) ∧ sizedMet enc Tryz.prog Tryz.f5 (OpenSpec.ofChange Rows.formWrongSpec) false w args) (Rows.formWrongSpec.post enc Tryz.prog Tryz.f5 false true false false) := by
  refine returnsInHanded_of_change_and (C := Tryz.checked) (X := fun w _ => laidMetH Tryz.prog [("lyceum/syntax.rows", Rows.laid_lyceum_syntax_rows)] w) (fun _ _ _ hh h => h.of_heap hh) own started (by kernel_rfl) Tryz.func5
    (ChangeSpec.witness_shaped (enc := enc) (C := Tryz.checked) (os := os) (X := fun w _ => laidMetH Tryz.prog [("lyceum/syntax.rows", Rows.laid_lyceum_syntax_rows)] w) false (World.doorLaid Tryz.prog 400 os) #[.agg #[.int .u8 0, .string .empty, .slice none 0 0, .slice none 0 0], .int .u16 0, .int .u8 0] 8 rfl (World.shaped_of_RefB (by kernel_rfl) (by kernel_rfl)) (by kernel_rfl) (by kernel_rfl) (by kernel_rfl) (door_met os _)) ?_
  intro W base args ds gs before hval hW _ hS hL _
  exact contract H enc W base args ds gs before hval hW hL hS
set_option maxRecDepth 100000 in
theorem over : Rows.formWrongRow.holds Tryz.pinned (OpenSpec.ofChange Rows.formWrongSpec) :=
  OpenClaim.holds_of_wide 5 Tryz.f5 rfl rfl rfl rfl rfl rfl rfl ⟨rfl, rfl, rfl, rfl, rfl⟩ rfl rfl rfl rfl rfl (by kernel_rfl) Tryz.func5 (by kernel_rfl) (of_decide_eq_true (by kernel_rfl))
    (by unfold Func.isWrapper; first | (rw [if_pos (by decide +kernel)]; kernel_rfl) | (rw [if_neg (by decide +kernel)]; exact ⟨rfl, rfl⟩))
    (fun os started H enc _ => lifted os started H enc)
set_option maxRecDepth 100000 in
theorem proved : Rows.FormWrongCardSaid :=
  Claim7.holds_tied_plain_at .later [] [.data] true (true, "9dd9d1b14c03f26929c627de83a0f21d6f56830cde16cff7cd7f87444910c75f") false
    over (fun _ h => by cases h) (by kernel_rfl) (fun _ h => by cases h) formWrong_row_tie rfl ⟨rfl, rfl⟩ (by kernel_rfl) rfl
    (fun f fn hf hfn => by
      obtain rfl : f = 5 := Option.some.inj ((show Tryz.prog.funcNamed "lyceum/lyceumlaw02.FormWrong" = some 5 by kernel_rfl).symm.trans hf) |>.symm
      obtain rfl : fn = Tryz.f5 := (Option.some.inj (Tryz.func5.symm.trans hfn)).symm
      exact ⟨by kernel_rfl, fun j t ht => by
        rw [Tryz.params5] at ht
        have hm : t ∈ [25, 31, 5] := by simpa using Array.mem_of_getElem? ht
        have hall : ([25, 31, 5].all fun u => !Tryz.prog.wantsStandIn u) = true := by kernel_rfl
        exact (show Tryz.prog.wantsStandIn t = false by simpa using List.all_eq_true.1 hall t hm)⟩)
    (by kernel_rfl)
end Go.Proofs.YtejegcmnddedmaaGreatDoor.formWrong

