/- The law RegradeApart: what its walk gives, brought to the row's form. -/
import Derived.Test.YtgopbbkpcjgihaaRows
import Derived.WalkKit
import Derived.ProofKit
import Derived.OpenShut
import Derived.Test.YtgopbbkpcjgihaaK10
set_option linter.unusedSimpArgs false
set_option linter.unusedVariables false
namespace Go.Proofs.Ytgopbbkpcjgihaa.regradeApart
open Go.ChangeShapes Go.WideShapes Go.ChangeAt Go.RowKit Go.Vsi
set_option linter.unusedVariables false
theorem own : ownKnob Try.prog.godebug = none := by kernel_rfl
def ty5 : Ty := (.int .u8)
theorem ty5_ok : TyOk Try.prog 5 ty5 := tyOf_ok Try.T_ok 12 5 _ (by kernel_rfl)
def ty62 : Ty := (.sl (.pair (.int .u8) (.pair (.int .u8) (.pair (.int .u8) (.pair (.int .u8) (.pair (.pair (.int .u16) (.pair (.int .u8) (.pair (.int .u8) (.pair (.int .u8) (.pair (.int .u8) (.pair (.int .u8) (.pair (.sl (.int .u8)) (.pair (.sl (.int .u8)) .unit)))))))) (.pair (.int .u64) (.pair (.int .u8) (.pair (.int .u8) .unit)))))))))
theorem ty62_ok : TyOk Try.prog 62 ty62 := tyOf_ok Try.T_ok 12 62 _ (by kernel_rfl)
theorem walk (x0 : ty62.I) (x1 : ty5.I) (x2 : ty5.I) (x3 : ty5.I) (g0 : ty62.good x0) (g1 : ty5.good x1) (g2 : ty5.good x2) (g3 : ty5.good x3) : VDet Try.prog 5 [.sl none (List.length (α := Ty.I (.pair (.int .u8) (.pair (.int .u8) (.pair (.int .u8) (.pair (.int .u8) (.pair (.pair (.int .u16) (.pair (.int .u8) (.pair (.int .u8) (.pair (.int .u8) (.pair (.int .u8) (.pair (.int .u8) (.pair (.sl (.int .u8)) (.pair (.sl (.int .u8)) .unit)))))))) (.pair (.int .u64) (.pair (.int .u8) (.pair (.int .u8) .unit))))))))) x0) (List.flatMap (α := Ty.I (.pair (.int .u8) (.pair (.int .u8) (.pair (.int .u8) (.pair (.int .u8) (.pair (.pair (.int .u16) (.pair (.int .u8) (.pair (.int .u8) (.pair (.int .u8) (.pair (.int .u8) (.pair (.int .u8) (.pair (.sl (.int .u8)) (.pair (.sl (.int .u8)) .unit)))))))) (.pair (.int .u64) (.pair (.int .u8) (.pair (.int .u8) .unit))))))))) (Ty.enc (.pair (.int .u8) (.pair (.int .u8) (.pair (.int .u8) (.pair (.int .u8) (.pair (.pair (.int .u16) (.pair (.int .u8) (.pair (.int .u8) (.pair (.int .u8) (.pair (.int .u8) (.pair (.int .u8) (.pair (.sl (.int .u8)) (.pair (.sl (.int .u8)) .unit)))))))) (.pair (.int .u64) (.pair (.int .u8) (.pair (.int .u8) .unit))))))))) x0), .int .u8 x1, .int .u8 x2, .int .u8 x3] [] (.bool true) := by
  exact dApart_c x0 x1 x2 x3 g0 g1 g2 g3 []
set_option maxRecDepth 100000 in
theorem contract (H : Type) (enc : TypeId × Value → H) (W : World) (base : Nat) (args : Array Value) (ds gs : List (DataW H)) (before : List MemPlace)
    (hval : ∀ (j : Nat) t v, Try.f5.params[j]? = some t → args[j]? = some v → Value.okWide Try.prog W .any base t v)
    (hW : DataW.Whole enc Try.prog Try.f5.params.toList Rows.regradeApartSpec.vars false W args.toList ds gs before) :
    Calls Try.prog 5 args W fun e W' => ∃ v, e = .returned v ∧ Rows.regradeApartSpec.post enc Try.prog Try.f5 false true false false W args v W' := by
  have hW' := hW
  obtain ⟨p, q, hA0, hV, rfl, hfz, hnd⟩ := hW
  have hA : DataW.TrodAll enc Try.prog W 0 (fun _ => true) true Try.f5.params.toList args.toList ds p := hA0
  rw [Try.params5] at hA hval
  obtain ⟨v0, vs0, d0, ds0, p0, q0, hargs, rfl, rfl, h0, s0⟩ := trodAll_cons hA
  obtain ⟨v1, vs1, d1, ds1, p1, q1, rfl, rfl, rfl, h1, s1⟩ := trodAll_cons s0
  obtain ⟨v2, vs2, d2, ds2, p2, q2, rfl, rfl, rfl, h2, s2⟩ := trodAll_cons s1
  obtain ⟨v3, vs3, d3, ds3, p3, q3, rfl, rfl, rfl, h3, s3⟩ := trodAll_cons s2
  obtain ⟨rfl, rfl, rfl⟩ := trodAll_nil s3
  obtain rfl : args = #[v0, v1, v2, v3] := by cases args; simp_all
  obtain ⟨rfl, rfl⟩ := trodVars_none hV
  obtain ⟨x0, r0, g0⟩ := arg_one (g := G.none) (fun _ _ h => h) (.inr (.inr (.inr ⟨_, Try.underlying62⟩))) ty62_ok (hval 0 62 v0 rfl rfl) h0
  obtain ⟨x1, r1, g1⟩ := arg_one (g := G.none) (fun _ _ h => h) (.inl ⟨_, Try.underlying5⟩) ty5_ok (hval 1 5 v1 rfl rfl) h1
  obtain ⟨x2, r2, g2⟩ := arg_one (g := G.none) (fun _ _ h => h) (.inl ⟨_, Try.underlying5⟩) ty5_ok (hval 2 5 v2 rfl rfl) h2
  obtain ⟨x3, r3, g3⟩ := arg_one (g := G.none) (fun _ _ h => h) (.inl ⟨_, Try.underlying5⟩) ty5_ok (hval 3 5 v3 rfl rfl) h3
  exact law_calls hW' (walk x0 x1 x2 x3 g0 g1 g2 g3) (LRel.more r0.head1 (.more r1.head1 (.more r2.head1 (.more r3.head1 (LRel.nil))))) (fun _ h => by cases h) (by kernel_rfl) (by kernel_rfl) rfl Try.underlying4 rfl rfl
set_option maxRecDepth 100000 in
theorem lifted (os : Os) (started : os.Started) (H : Type) (enc : TypeId × Value → H) :
    ReturnsInHanded {} Try.checked os 5 .any (Rows.regradeApartSpec.pre6 enc Try.prog Try.f5 [] false) (Rows.regradeApartSpec.post enc Try.prog Try.f5 false true false false) := by
  refine returnsInHanded_of_change (C := Try.checked) own started (by kernel_rfl) Try.func5 (ChangeSpec.witness6 (enc := enc) (C := Try.checked) false ⟨#[], #[.slice none 0 0, .int .u8 0, .int .u8 0, .int .u8 0], []⟩ 8 (by kernel_rfl) (by kernel_rfl) (by kernel_rfl) (by kernel_rfl)) ?_
  intro W base args ds gs before hval hW _ _
  exact contract H enc W base args ds gs before hval hW
theorem over : Rows.regradeApartRow.holds Try.pinned (OpenSpec.ofChange Rows.regradeApartSpec) :=
  OpenClaim.holds_of_wide 5 Try.f5 rfl rfl rfl rfl rfl rfl rfl ⟨rfl, rfl, rfl, rfl, rfl⟩ rfl rfl rfl rfl rfl (by kernel_rfl) Try.func5 (by kernel_rfl) (of_decide_eq_true (by kernel_rfl))
    (by unfold Func.isWrapper; first | (rw [if_pos (by decide +kernel)]; kernel_rfl) | (rw [if_neg (by decide +kernel)]; exact ⟨rfl, rfl⟩))
    (fun os started H enc _ => lifted os started H enc)
theorem proved : Rows.RegradeApartSaid := over
end Go.Proofs.Ytgopbbkpcjgihaa.regradeApart
