/- The law TruthNames: what its walk gives, brought to the row's form. -/
import Derived.Test.YtekhodpmpjehaaaDoorRows
import Derived.Test.YtekhodpmpjehaaaDoorTie
import Derived.Test.YtekhodpmpjehaaaDoorCards
import Derived.SevenTiedAt
import Derived.LaidMore
import Derived.Stop.Joined
import Derived.WalkKit
import Derived.ProofKit
import Derived.OpenShut
import Derived.Test.YtekhodpmpjehaaaDoorK8
set_option linter.unusedSimpArgs false
set_option linter.unusedVariables false
namespace Go.Proofs.YtekhodpmpjehaaaDoor.truthNames
open Go.ChangeShapes Go.WideShapes Go.ChangeAt Go.RowKit Go.Vsi
set_option linter.unusedVariables false
theorem own : ownKnob Tryd.prog.godebug = none := by kernel_rfl
def ty22 : Ty := (.sl (.int .u8))
theorem ty22_ok : TyOk Tryd.prog 22 ty22 := tyOf_ok Tryd.T_ok 12 22 _ (by kernel_rfl)
def ty23 : Ty := (.int .u16)
theorem ty23_ok : TyOk Tryd.prog 23 ty23 := tyOf_ok Tryd.T_ok 12 23 _ (by kernel_rfl)
/-- the walk, over the arguments as they read -/
theorem walk (x0 : ty22.I) (x1 : ty23.I) (g0 : ty22.good x0) (g1 : ty23.good x1) : VDet Tryd.prog 7 [.sl none (List.length (α := Ty.I (.int .u8)) x0) (List.flatMap (α := Ty.I (.int .u8)) (Ty.enc (.int .u8)) x0), .int .u16 x1] [] (.bool true) := by
  obtain ⟨l, rfl, hl, hb⟩ := bytes_nat g0
  obtain ⟨v, rfl, hv⟩ := u16_nat g1
  exact bytes_cast l (fun r => VDet Tryd.prog 7 [r, _] [] _) (names_c l hl hb v hv [])
set_option maxRecDepth 100000 in
theorem contract (H : Type) (enc : TypeId × Value → H) (W : World) (base : Nat) (args : Array Value) (ds gs : List (DataW H)) (before : List MemPlace)
    (hval : ∀ (j : Nat) t v, Tryd.f7.params[j]? = some t → args[j]? = some v → Value.okWide Tryd.prog W .any base t v)
    (hW : DataW.Whole enc Tryd.prog Tryd.f7.params.toList Rows.truthNamesSpec.vars false W args.toList ds gs before) (hL : laidMetH Tryd.prog [("math/bits.deBruijn64tab", Rows.laid_math_bits_deBruijn64tab), ("lyceum/syntax.rows", Rows.laid_lyceum_syntax_rows), ("lyceum/truth.patterns", Rows.laid_lyceum_truth_patterns)] W) :
    Calls Tryd.prog 7 args W fun e W' => ∃ v, e = .returned v ∧ Rows.truthNamesSpec.post enc Tryd.prog Tryd.f7 false true false false W args v W' := by
  have hW' := hW
  obtain ⟨p, q, hA0, hV, rfl, hfz, hnd⟩ := hW
  have hA : DataW.TrodAll enc Tryd.prog W 0 (fun _ => true) true Tryd.f7.params.toList args.toList ds p := hA0
  rw [Tryd.params7] at hA hval
  obtain ⟨v0, vs0, d0, ds0, p0, q0, hargs, rfl, rfl, h0, s0⟩ := trodAll_cons hA
  obtain ⟨v1, vs1, d1, ds1, p1, q1, rfl, rfl, rfl, h1, s1⟩ := trodAll_cons s0
  obtain ⟨rfl, rfl, rfl⟩ := trodAll_nil s1
  obtain rfl : args = #[v0, v1] := by cases args; simp_all
  obtain ⟨rfl, rfl⟩ := trodVars_none hV
  obtain ⟨x0, r0, g0⟩ := arg_one (g := G.none) (fun _ _ h => h) (.inr (.inr (.inr ⟨_, Tryd.underlying22⟩))) ty22_ok (hval 0 22 v0 rfl rfl) h0
  obtain ⟨x1, r1, g1⟩ := arg_one (g := G.none) (fun _ _ h => h) (.inl ⟨_, Tryd.underlying23⟩) ty23_ok (hval 1 23 v1 rfl rfl) h1
  exact law_calls hW' (walk x0 x1 g0 g1) (LRel.more r0.head1 (.more r1.head1 (LRel.nil))) (gl_of_laid hL) (by kernel_rfl) (by kernel_rfl) rfl Tryd.underlying4 rfl rfl
set_option maxRecDepth 100000 in
theorem door_met (os : Os) (args : Array Value) : laidMetH Tryd.prog [("math/bits.deBruijn64tab", Rows.laid_math_bits_deBruijn64tab), ("lyceum/syntax.rows", Rows.laid_lyceum_syntax_rows), ("lyceum/truth.patterns", Rows.laid_lyceum_truth_patterns)] ((World.doorLaid Tryd.prog 400 os).forCall (fun _ _ => 0) ⟨#[], args, []⟩).memory :=
  laidMetH_of_parts3 (fuel := 8) (laidMet_of_run' 8 (by kernel_rfl) (by kernel_rfl)) (by kernel_rfl) (by kernel_rfl)
set_option maxRecDepth 100000 in
theorem lifted (os : Os) (started : os.Started) (H : Type) (enc : TypeId × Value → H) :
    ReturnsInHanded {} Tryd.checked os 7 .any (fun w args => (Rows.truthNamesSpec.pre enc Tryd.prog Tryd.f7 [] false w args ∧ laidMetH Tryd.prog [("math/bits.deBruijn64tab", Rows.laid_math_bits_deBruijn64tab), ("lyceum/syntax.rows", Rows.laid_lyceum_syntax_rows), ("lyceum/truth.patterns", Rows.laid_lyceum_truth_patterns)] w) ∧ sizedMet enc Tryd.prog Tryd.f7 (OpenSpec.ofChange Rows.truthNamesSpec) false w args) (Rows.truthNamesSpec.post enc Tryd.prog Tryd.f7 false true false false) := by
  refine returnsInHanded_of_change_and (C := Tryd.checked) (X := fun w _ => laidMetH Tryd.prog [("math/bits.deBruijn64tab", Rows.laid_math_bits_deBruijn64tab), ("lyceum/syntax.rows", Rows.laid_lyceum_syntax_rows), ("lyceum/truth.patterns", Rows.laid_lyceum_truth_patterns)] w) (fun _ _ _ hh h => h.of_heap hh) own started (by kernel_rfl) Tryd.func7
    (ChangeSpec.witness_shaped (enc := enc) (C := Tryd.checked) (os := os) (X := fun w _ => laidMetH Tryd.prog [("math/bits.deBruijn64tab", Rows.laid_math_bits_deBruijn64tab), ("lyceum/syntax.rows", Rows.laid_lyceum_syntax_rows), ("lyceum/truth.patterns", Rows.laid_lyceum_truth_patterns)] w) false (World.doorLaid Tryd.prog 400 os) #[.slice none 0 0, .int .u16 0] 8 rfl (World.shaped_of_RefB (by kernel_rfl) (by kernel_rfl)) (by kernel_rfl) (by kernel_rfl) (by kernel_rfl) (door_met os _)) ?_
  intro W base args ds gs before hval hW _ _ hL _
  exact contract H enc W base args ds gs before hval hW hL
set_option maxRecDepth 100000 in
theorem over : Rows.truthNamesRow.holds Tryd.pinned (OpenSpec.ofChange Rows.truthNamesSpec) :=
  OpenClaim.holds_of_wide 7 Tryd.f7 rfl rfl rfl rfl rfl rfl rfl ⟨rfl, rfl, rfl, rfl, rfl⟩ rfl rfl rfl rfl rfl (by kernel_rfl) Tryd.func7 (by kernel_rfl) (of_decide_eq_true (by kernel_rfl))
    (by unfold Func.isWrapper; first | (rw [if_pos (by decide +kernel)]; kernel_rfl) | (rw [if_neg (by decide +kernel)]; exact ⟨rfl, rfl⟩))
    (fun os started H enc _ => lifted os started H enc)
set_option maxRecDepth 100000 in
theorem proved : Rows.TruthNamesCardSaid :=
  Claim7.holds_tied_plain_at .later [] [.data, .data, .data] true (true, "ff46cd26c0cc6d5874d34f212227182fa9e88d4cd968913a4fa62d26d4d5745d") false
    over (fun _ h => by cases h) (by kernel_rfl) (fun _ h => by cases h) truthNames_row_tie rfl ⟨rfl, rfl⟩ (by kernel_rfl) rfl
    (fun f fn hf hfn => by
      obtain rfl : f = 7 := Option.some.inj ((show Tryd.prog.funcNamed "lyceum/lyceumlaw10.TruthNames" = some 7 by kernel_rfl).symm.trans hf) |>.symm
      obtain rfl : fn = Tryd.f7 := (Option.some.inj (Tryd.func7.symm.trans hfn)).symm
      exact ⟨by kernel_rfl, fun j t ht => by
        rw [Tryd.params7] at ht
        have hm : t ∈ [22, 23] := by simpa using Array.mem_of_getElem? ht
        have hall : ([22, 23].all fun u => !Tryd.prog.wantsStandIn u) = true := by kernel_rfl
        exact (show Tryd.prog.wantsStandIn t = false by simpa using List.all_eq_true.1 hall t hm)⟩)
    (by kernel_rfl)
end Go.Proofs.YtekhodpmpjehaaaDoor.truthNames

