/- The law RegradeTells: what its walk gives, brought to the row's form. -/
import Derived.Test.YtgopbbkpcjgihaaGreatRows
import Derived.WalkKit
import Derived.ProofKit
import Derived.OpenShut
import Derived.Test.YtgopbbkpcjgihaaGreatK11
set_option linter.unusedSimpArgs false
set_option linter.unusedVariables false
namespace Go.Proofs.YtgopbbkpcjgihaaGreat.regradeTells
open Go.ChangeShapes Go.WideShapes Go.ChangeAt Go.RowKit Go.Vsi
set_option linter.unusedVariables false
theorem own : ownKnob Tryz.prog.godebug = none := by kernel_rfl
def ty3 : Ty := (.int .i64)
theorem ty3_ok : TyOk Tryz.prog 3 ty3 := tyOf_ok zfy 12 3 _ (by kernel_rfl)
def ty9 : Ty := (.str)
theorem ty9_ok : TyOk Tryz.prog 9 ty9 := tyOf_ok zfy 12 9 _ (by kernel_rfl)
def ty25 : Ty := (.pair (.sl (.pair (.str) (.pair (.sl (.pair (.int .i64) (.pair (.pair (.int .i64) (.pair (.int .i64) (.pair (.sl (.pair (.int .i64) (.pair (.int .i64) .unit))) (.pair (.int .i64) (.pair (.int .i64) (.pair (.int .i64) (.pair (.int .u8) .unit))))))) .unit))) .unit))) (.pair (.sl (.pair (.str) (.pair (.str) (.pair (.int .i64) (.pair (.pair (.int .i64) (.pair (.int .i64) (.pair (.int .i64) (.pair (.int .i64) .unit)))) .unit))))) .unit))
theorem ty25_ok : TyOk Tryz.prog 25 ty25 := tyOf_ok zfy 12 25 _ (by kernel_rfl)
theorem walk (x0 : ty25.I) (x1 : ty3.I) (x2 : ty3.I) (x3 : ty9.I) (x4 : ty9.I) (g0 : ty25.good x0) (g1 : ty3.good x1) (g2 : ty3.good x2) (g3 : ty9.good x3) (g4 : ty9.good x4) : VDet Tryz.prog 3 [.agg (ty25.enc x0), .int .i64 x1, .int .i64 x2, .str x3, .str x4] [] (.bool true) := by
  exact dTells_c x0 x1 x2 x3 x4 []
set_option maxRecDepth 100000 in
theorem contract (H : Type) (enc : TypeId × Value → H) (W : World) (base : Nat) (args : Array Value) (ds gs : List (DataW H)) (before : List MemPlace)
    (hval : ∀ (j : Nat) t v, Tryz.f3.params[j]? = some t → args[j]? = some v → Value.okWide Tryz.prog W .any base t v)
    (hW : DataW.Whole enc Tryz.prog Tryz.f3.params.toList Rows.regradeTellsSpec.vars false W args.toList ds gs before) :
    Calls Tryz.prog 3 args W fun e W' => ∃ v, e = .returned v ∧ Rows.regradeTellsSpec.post enc Tryz.prog Tryz.f3 false true false false W args v W' := by
  have hW' := hW
  obtain ⟨p, q, hA0, hV, rfl, hfz, hnd⟩ := hW
  have hA : DataW.TrodAll enc Tryz.prog W 0 (fun _ => true) true Tryz.f3.params.toList args.toList ds p := hA0
  rw [Tryz.params3] at hA hval
  obtain ⟨v0, vs0, d0, ds0, p0, q0, hargs, rfl, rfl, h0, s0⟩ := trodAll_cons hA
  obtain ⟨v1, vs1, d1, ds1, p1, q1, rfl, rfl, rfl, h1, s1⟩ := trodAll_cons s0
  obtain ⟨v2, vs2, d2, ds2, p2, q2, rfl, rfl, rfl, h2, s2⟩ := trodAll_cons s1
  obtain ⟨v3, vs3, d3, ds3, p3, q3, rfl, rfl, rfl, h3, s3⟩ := trodAll_cons s2
  obtain ⟨v4, vs4, d4, ds4, p4, q4, rfl, rfl, rfl, h4, s4⟩ := trodAll_cons s3
  obtain ⟨rfl, rfl, rfl⟩ := trodAll_nil s4
  obtain rfl : args = #[v0, v1, v2, v3, v4] := by cases args; simp_all
  obtain ⟨rfl, rfl⟩ := trodVars_none hV
  obtain ⟨x0, r0, g0⟩ := arg_agg (g := G.none) (fun _ _ h => h) (.inl ⟨_, Tryz.underlying25⟩) ty25_ok (hval 0 25 v0 rfl rfl) h0
  obtain ⟨x1, r1, g1⟩ := arg_one (g := G.none) (fun _ _ h => h) (.inl ⟨_, Tryz.underlying3⟩) ty3_ok (hval 1 3 v1 rfl rfl) h1
  obtain ⟨x2, r2, g2⟩ := arg_one (g := G.none) (fun _ _ h => h) (.inl ⟨_, Tryz.underlying3⟩) ty3_ok (hval 2 3 v2 rfl rfl) h2
  obtain ⟨x3, r3, g3⟩ := arg_one (g := G.none) (fun _ _ h => h) (.inr (.inr (.inl Tryz.underlying9))) ty9_ok (hval 3 9 v3 rfl rfl) h3
  obtain ⟨x4, r4, g4⟩ := arg_one (g := G.none) (fun _ _ h => h) (.inr (.inr (.inl Tryz.underlying9))) ty9_ok (hval 4 9 v4 rfl rfl) h4
  exact law_calls hW' (walk x0 x1 x2 x3 x4 g0 g1 g2 g3 g4) (LRel.more r0 (.more r1.head1 (.more r2.head1 (.more r3.head1 (.more r4.head1 (LRel.nil)))))) (fun _ h => by cases h) (by kernel_rfl) (by kernel_rfl) rfl Tryz.underlying4 rfl rfl
set_option maxRecDepth 100000 in
theorem lifted (os : Os) (started : os.Started) (H : Type) (enc : TypeId × Value → H) :
    ReturnsInHanded {} Tryz.checked os 3 .any (Rows.regradeTellsSpec.pre6 enc Tryz.prog Tryz.f3 [] false) (Rows.regradeTellsSpec.post enc Tryz.prog Tryz.f3 false true false false) := by
  refine returnsInHanded_of_change (C := Tryz.checked) own started (by kernel_rfl) Tryz.func3 (ChangeSpec.witness6 (enc := enc) (C := Tryz.checked) false ⟨#[], #[.agg #[.slice none 0 0, .slice none 0 0], .int .i64 0, .int .i64 0, .string .empty, .string .empty], []⟩ 8 (by kernel_rfl) (by kernel_rfl) (by kernel_rfl) (by kernel_rfl)) ?_
  intro W base args ds gs before hval hW _ _
  exact contract H enc W base args ds gs before hval hW
theorem over : Rows.regradeTellsRow.holds Tryz.pinned (OpenSpec.ofChange Rows.regradeTellsSpec) :=
  OpenClaim.holds_of_wide 3 Tryz.f3 rfl rfl rfl rfl rfl rfl rfl ⟨rfl, rfl, rfl, rfl, rfl⟩ rfl rfl rfl rfl rfl (by kernel_rfl) Tryz.func3 (by kernel_rfl) (of_decide_eq_true (by kernel_rfl))
    (by unfold Func.isWrapper; first | (rw [if_pos (by decide +kernel)]; kernel_rfl) | (rw [if_neg (by decide +kernel)]; exact ⟨rfl, rfl⟩))
    (fun os started H enc _ => lifted os started H enc)
theorem proved : Rows.RegradeTellsSaid := over
end Go.Proofs.YtgopbbkpcjgihaaGreat.regradeTells
