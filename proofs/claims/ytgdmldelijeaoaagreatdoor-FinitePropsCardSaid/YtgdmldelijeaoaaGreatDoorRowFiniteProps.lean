/- The law FiniteProps: what its walk gives, brought to the row's form. -/
import Derived.Test.YtgdmldelijeaoaaGreatDoorRows
import Derived.Test.YtgdmldelijeaoaaGreatDoorTie
import Derived.Test.YtgdmldelijeaoaaGreatDoorCards
import Derived.SevenTiedAt
import Derived.LaidMore
import Derived.Stop.Joined
import Derived.WalkKit
import Derived.ProofKit
import Derived.OpenShut
import Derived.Test.YtgdmldelijeaoaaGreatDoorK12
set_option linter.unusedSimpArgs false
set_option linter.unusedVariables false
namespace Go.Proofs.YtgdmldelijeaoaaGreatDoor.finiteProps
open Go.ChangeShapes Go.WideShapes Go.ChangeAt Go.RowKit Go.Vsi
set_option linter.unusedVariables false
theorem own : ownKnob Tryz.prog.godebug = none := by kernel_rfl
def ty5 : Ty := (.int .u8)
theorem ty5_ok : TyOk Tryz.prog 5 ty5 := tyOf_ok Tryz.T_ok 12 5 _ (by kernel_rfl)
def ty22 : Ty := (.sl (.int .u8))
theorem ty22_ok : TyOk Tryz.prog 22 ty22 := tyOf_ok Tryz.T_ok 12 22 _ (by kernel_rfl)
theorem walk (x0 : ty22.I) (x1 : ty5.I) (x2 : ty5.I) (g0 : ty22.good x0) (g1 : ty5.good x1) (g2 : ty5.good x2) : VDet Tryz.prog 3 [.sl none (List.length (α := Ty.I (.int .u8)) x0) (List.flatMap (α := Ty.I (.int .u8)) (Ty.enc (.int .u8)) x0), .int .u8 x1, .int .u8 x2] [] (.bool true) := by
  obtain ⟨l, rfl, hl1, hl2⟩ := bytes_nat g0
  obtain ⟨v, rfl, hv⟩ := u8_nat g1
  obtain ⟨s, rfl, hs⟩ := u8_nat g2
  have := props_law l hl1 hl2 v hv s hs []
  exact bytes_cast l (fun u => VDet Tryz.prog 3 [u, .int .u8 v, .int .u8 s] [] (.bool true)) this
set_option maxRecDepth 100000 in
set_option maxRecDepth 100000 in
theorem contract (H : Type) (enc : TypeId × Value → H) (W : World) (base : Nat) (args : Array Value) (ds gs : List (DataW H)) (before : List MemPlace)
    (hval : ∀ (j : Nat) t v, Tryz.f3.params[j]? = some t → args[j]? = some v → Value.okWide Tryz.prog W .any base t v)
    (hW : DataW.Whole enc Tryz.prog Tryz.f3.params.toList Rows.finitePropsSpec.vars false W args.toList ds gs before) (hL : laidMetH Tryz.prog [("lyceum/syntax.rows", Rows.laid_lyceum_syntax_rows), ("lyceum/truth.patterns", Rows.laid_lyceum_truth_patterns)] W) :
    Calls Tryz.prog 3 args W fun e W' => ∃ v, e = .returned v ∧ Rows.finitePropsSpec.post enc Tryz.prog Tryz.f3 false true false false W args v W' := by
  have hW' := hW
  obtain ⟨p, q, hA0, hV, rfl, hfz, hnd⟩ := hW
  have hA : DataW.TrodAll enc Tryz.prog W 0 (fun _ => true) true Tryz.f3.params.toList args.toList ds p := hA0
  rw [Tryz.params3] at hA hval
  obtain ⟨v0, vs0, d0, ds0, p0, q0, hargs, rfl, rfl, h0, s0⟩ := trodAll_cons hA
  obtain ⟨v1, vs1, d1, ds1, p1, q1, rfl, rfl, rfl, h1, s1⟩ := trodAll_cons s0
  obtain ⟨v2, vs2, d2, ds2, p2, q2, rfl, rfl, rfl, h2, s2⟩ := trodAll_cons s1
  obtain ⟨rfl, rfl, rfl⟩ := trodAll_nil s2
  obtain rfl : args = #[v0, v1, v2] := by cases args; simp_all
  obtain ⟨rfl, rfl⟩ := trodVars_none hV
  obtain ⟨x0, r0, g0⟩ := arg_one (g := G.none) (fun _ _ h => h) (.inr (.inr (.inr ⟨_, Tryz.underlying22⟩))) ty22_ok (hval 0 22 v0 rfl rfl) h0
  obtain ⟨x1, r1, g1⟩ := arg_one (g := G.none) (fun _ _ h => h) (.inl ⟨_, Tryz.underlying5⟩) ty5_ok (hval 1 5 v1 rfl rfl) h1
  obtain ⟨x2, r2, g2⟩ := arg_one (g := G.none) (fun _ _ h => h) (.inl ⟨_, Tryz.underlying5⟩) ty5_ok (hval 2 5 v2 rfl rfl) h2
  exact law_calls hW' (walk x0 x1 x2 g0 g1 g2) (LRel.more r0.head1 (.more r1.head1 (.more r2.head1 (LRel.nil)))) (gl_of_laid hL) (by kernel_rfl) (by kernel_rfl) rfl Tryz.underlying4 rfl rfl
set_option maxRecDepth 100000 in
theorem door_met (os : Os) (args : Array Value) : laidMetH Tryz.prog [("lyceum/syntax.rows", Rows.laid_lyceum_syntax_rows), ("lyceum/truth.patterns", Rows.laid_lyceum_truth_patterns)] ((World.doorLaid Tryz.prog 400 os).forCall (fun _ _ => 0) ⟨#[], args, []⟩).memory :=
  laidMetH_of_parts3 (fuel := 8) (laidMet_of_run' 8 (by kernel_rfl) (by kernel_rfl)) (by kernel_rfl) (by kernel_rfl)
set_option maxRecDepth 100000 in
theorem lifted (os : Os) (started : os.Started) (H : Type) (enc : TypeId × Value → H) :
    ReturnsInHanded {} Tryz.checked os 3 .any (fun w args => (Rows.finitePropsSpec.pre enc Tryz.prog Tryz.f3 [] false w args ∧ laidMetH Tryz.prog [("lyceum/syntax.rows", Rows.laid_lyceum_syntax_rows), ("lyceum/truth.patterns", Rows.laid_lyceum_truth_patterns)] w) ∧ sizedMet enc Tryz.prog Tryz.f3 (OpenSpec.ofChange Rows.finitePropsSpec) false w args) (Rows.finitePropsSpec.post enc Tryz.prog Tryz.f3 false true false false) := by
  refine returnsInHanded_of_change_and (C := Tryz.checked) (X := fun w _ => laidMetH Tryz.prog [("lyceum/syntax.rows", Rows.laid_lyceum_syntax_rows), ("lyceum/truth.patterns", Rows.laid_lyceum_truth_patterns)] w) (fun _ _ _ hh h => h.of_heap hh) own started (by kernel_rfl) Tryz.func3
    (ChangeSpec.witness_shaped (enc := enc) (C := Tryz.checked) (os := os) (X := fun w _ => laidMetH Tryz.prog [("lyceum/syntax.rows", Rows.laid_lyceum_syntax_rows), ("lyceum/truth.patterns", Rows.laid_lyceum_truth_patterns)] w) false (World.doorLaid Tryz.prog 400 os) #[.slice none 0 0, .int .u8 0, .int .u8 0] 8 rfl (World.shaped_of_RefB (by kernel_rfl) (by kernel_rfl)) (by kernel_rfl) (by kernel_rfl) (by kernel_rfl) (door_met os _)) ?_
  intro W base args ds gs before hval hW _ _ hL _
  exact contract H enc W base args ds gs before hval hW hL
set_option maxRecDepth 100000 in
theorem over : Rows.finitePropsRow.holds Tryz.pinned (OpenSpec.ofChange Rows.finitePropsSpec) :=
  OpenClaim.holds_of_wide 3 Tryz.f3 rfl rfl rfl rfl rfl rfl rfl ⟨rfl, rfl, rfl, rfl, rfl⟩ rfl rfl rfl rfl rfl (by kernel_rfl) Tryz.func3 (by kernel_rfl) (of_decide_eq_true (by kernel_rfl))
    (by unfold Func.isWrapper; first | (rw [if_pos (by decide +kernel)]; kernel_rfl) | (rw [if_neg (by decide +kernel)]; exact ⟨rfl, rfl⟩))
    (fun os started H enc _ => lifted os started H enc)
set_option maxRecDepth 100000 in
theorem proved : Rows.FinitePropsCardSaid :=
  Claim7.holds_tied_plain_at .later [] [.data, .data] true (true, "32d8bcf38d8dbb4816f659fbc0a624916388770a4af72ab98c9ec5c1af1897c4") false
    over (fun _ h => by cases h) (by kernel_rfl) (fun _ h => by cases h) finiteProps_row_tie rfl ⟨rfl, rfl⟩ (by kernel_rfl) rfl
    (fun f fn hf hfn => by
      obtain rfl : f = 3 := Option.some.inj ((show Tryz.prog.funcNamed "lyceum/lyceumlaw11.FiniteProps" = some 3 by kernel_rfl).symm.trans hf) |>.symm
      obtain rfl : fn = Tryz.f3 := (Option.some.inj (Tryz.func3.symm.trans hfn)).symm
      exact ⟨by kernel_rfl, fun j t ht => by
        rw [Tryz.params3] at ht
        have hm : t ∈ [22, 5, 5] := by simpa using Array.mem_of_getElem? ht
        have hall : ([22, 5, 5].all fun u => !Tryz.prog.wantsStandIn u) = true := by kernel_rfl
        exact (show Tryz.prog.wantsStandIn t = false by simpa using List.all_eq_true.1 hall t hm)⟩)
    (by kernel_rfl)
end Go.Proofs.YtgdmldelijeaoaaGreatDoor.finiteProps

