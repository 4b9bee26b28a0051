/- The law TraceWrong: what its walk gives, brought to the row's form. -/
import Derived.Test.YtjflngchbeegcaaDoorRows
import Derived.Test.YtjflngchbeegcaaDoorTie
import Derived.Test.YtjflngchbeegcaaDoorCards
import Derived.SevenTiedAt
import Derived.LaidMore
import Derived.Stop.Joined
import Derived.WalkKit
import Derived.ProofKit
import Derived.OpenShut
import Derived.Test.YtjflngchbeegcaaDoorK8
set_option linter.unusedSimpArgs false
set_option linter.unusedVariables false
namespace Go.Proofs.YtjflngchbeegcaaDoor.traceWrong
open Go.ChangeShapes Go.WideShapes Go.ChangeAt Go.RowKit Go.Vsi
set_option linter.unusedVariables false
theorem own : ownKnob Tryd.prog.godebug = none := by kernel_rfl
def ty3 : Ty := (.int .i64)
theorem ty3_ok : TyOk Tryd.prog 3 ty3 := tyOf_ok Tryd.T_ok 12 3 _ (by kernel_rfl)
def ty5 : Ty := (.int .u8)
theorem ty5_ok : TyOk Tryd.prog 5 ty5 := tyOf_ok Tryd.T_ok 12 5 _ (by kernel_rfl)
def ty22 : Ty := (repTy 3 (.int .u8))
theorem ty22_ok : TyOk Tryd.prog 22 ty22 := tyOf_ok Tryd.T_ok 12 22 _ (by kernel_rfl)
def ty23 : Ty := (.sl (.int .u8))
theorem ty23_ok : TyOk Tryd.prog 23 ty23 := tyOf_ok Tryd.T_ok 12 23 _ (by kernel_rfl)
/-- the walk, over the arguments as they read -/
theorem walk (x0 : ty5.I) (x1 : ty5.I) (x2 : ty22.I) (x3 : ty23.I) (x4 : ty5.I) (x5 : ty3.I) (g0 : ty5.good x0) (g1 : ty5.good x1) (g2 : ty22.good x2) (g3 : ty23.good x3) (g4 : ty5.good x4) (g5 : ty3.good x5) : VDet Tryd.prog 8 [.int .u8 x0, .int .u8 x1, .agg (ty22.enc x2), .sl none (List.length (α := Ty.I (.int .u8)) x3) (List.flatMap (α := Ty.I (.int .u8)) (Ty.enc (.int .u8)) x3), .int .u8 x4, .int .i64 x5] [] (.bool true) := by
  obtain ⟨a, rfl, ha⟩ := u8_nat g0
  obtain ⟨b, rfl, hb⟩ := u8_nat g1
  obtain ⟨x, hx, hx'⟩ := u8_nat g2.1
  obtain ⟨y, hy, hy'⟩ := u8_nat g2.2.1
  obtain ⟨z, hz, hz'⟩ := u8_nat g2.2.2.1
  obtain ⟨c, rfl, hc1, hc2⟩ := bytes_nat g3
  obtain ⟨w, rfl, hw⟩ := u8_nat g4
  have := wrong_c a b x y z c w x5 ha hb hx' hy' hz' hc1 hc2 (wf_i64 g5) []
  rw [← hx, ← hy, ← hz] at this
  exact bytes_cast c (fun v => VDet Tryd.prog 8 [.int .u8 a, .int .u8 b, .agg (ty22.enc x2), v, .int .u8 w, .int .i64 x5] [] (.bool true)) this
set_option maxRecDepth 100000 in
theorem contract (H : Type) (enc : TypeId × Value → H) (W : World) (base : Nat) (args : Array Value) (ds gs : List (DataW H)) (before : List MemPlace)
    (hval : ∀ (j : Nat) t v, Tryd.f8.params[j]? = some t → args[j]? = some v → Value.okWide Tryd.prog W .any base t v)
    (hW : DataW.Whole enc Tryd.prog Tryd.f8.params.toList Rows.traceWrongSpec.vars false W args.toList ds gs before) (hL : laidMetH Tryd.prog [("lyceum/syntax.rows", Rows.laid_lyceum_syntax_rows)] W) :
    Calls Tryd.prog 8 args W fun e W' => ∃ v, e = .returned v ∧ Rows.traceWrongSpec.post enc Tryd.prog Tryd.f8 false true false false W args v W' := by
  have hW' := hW
  obtain ⟨p, q, hA0, hV, rfl, hfz, hnd⟩ := hW
  have hA : DataW.TrodAll enc Tryd.prog W 0 (fun _ => true) true Tryd.f8.params.toList args.toList ds p := hA0
  rw [Tryd.params8] at hA hval
  obtain ⟨v0, vs0, d0, ds0, p0, q0, hargs, rfl, rfl, h0, s0⟩ := trodAll_cons hA
  obtain ⟨v1, vs1, d1, ds1, p1, q1, rfl, rfl, rfl, h1, s1⟩ := trodAll_cons s0
  obtain ⟨v2, vs2, d2, ds2, p2, q2, rfl, rfl, rfl, h2, s2⟩ := trodAll_cons s1
  obtain ⟨v3, vs3, d3, ds3, p3, q3, rfl, rfl, rfl, h3, s3⟩ := trodAll_cons s2
  obtain ⟨v4, vs4, d4, ds4, p4, q4, rfl, rfl, rfl, h4, s4⟩ := trodAll_cons s3
  obtain ⟨v5, vs5, d5, ds5, p5, q5, rfl, rfl, rfl, h5, s5⟩ := trodAll_cons s4
  obtain ⟨rfl, rfl, rfl⟩ := trodAll_nil s5
  obtain rfl : args = #[v0, v1, v2, v3, v4, v5] := by cases args; simp_all
  obtain ⟨rfl, rfl⟩ := trodVars_none hV
  obtain ⟨x0, r0, g0⟩ := arg_one (g := G.none) (fun _ _ h => h) (.inl ⟨_, Tryd.underlying5⟩) ty5_ok (hval 0 5 v0 rfl rfl) h0
  obtain ⟨x1, r1, g1⟩ := arg_one (g := G.none) (fun _ _ h => h) (.inl ⟨_, Tryd.underlying5⟩) ty5_ok (hval 1 5 v1 rfl rfl) h1
  obtain ⟨x2, r2, g2⟩ := arg_agg (g := G.none) (fun _ _ h => h) (.inr ⟨_, _, Tryd.underlying22⟩) ty22_ok (hval 2 22 v2 rfl rfl) h2
  obtain ⟨x3, r3, g3⟩ := arg_one (g := G.none) (fun _ _ h => h) (.inr (.inr (.inr ⟨_, Tryd.underlying23⟩))) ty23_ok (hval 3 23 v3 rfl rfl) h3
  obtain ⟨x4, r4, g4⟩ := arg_one (g := G.none) (fun _ _ h => h) (.inl ⟨_, Tryd.underlying5⟩) ty5_ok (hval 4 5 v4 rfl rfl) h4
  obtain ⟨x5, r5, g5⟩ := arg_one (g := G.none) (fun _ _ h => h) (.inl ⟨_, Tryd.underlying3⟩) ty3_ok (hval 5 3 v5 rfl rfl) h5
  exact law_calls hW' (walk x0 x1 x2 x3 x4 x5 g0 g1 g2 g3 g4 g5) (LRel.more r0.head1 (.more r1.head1 (.more r2 (.more r3.head1 (.more r4.head1 (.more r5.head1 (LRel.nil))))))) (gl_of_laid hL) (by kernel_rfl) (by kernel_rfl) rfl Tryd.underlying4 rfl rfl
set_option maxRecDepth 100000 in
theorem door_met (os : Os) (args : Array Value) : laidMetH Tryd.prog [("lyceum/syntax.rows", Rows.laid_lyceum_syntax_rows)] ((World.doorLaid Tryd.prog 400 os).forCall (fun _ _ => 0) ⟨#[], args, []⟩).memory :=
  laidMetH_of_parts3 (fuel := 8) (laidMet_of_run' 8 (by kernel_rfl) (by kernel_rfl)) (by kernel_rfl) (by kernel_rfl)
set_option maxRecDepth 100000 in
theorem lifted (os : Os) (started : os.Started) (H : Type) (enc : TypeId × Value → H) :
    ReturnsInHanded {} Tryd.checked os 8 .any (fun w args => (Rows.traceWrongSpec.pre enc Tryd.prog Tryd.f8 [] false w args ∧ laidMetH Tryd.prog [("lyceum/syntax.rows", Rows.laid_lyceum_syntax_rows)] w) ∧ sizedMet enc Tryd.prog Tryd.f8 (OpenSpec.ofChange Rows.traceWrongSpec) false w args) (Rows.traceWrongSpec.post enc Tryd.prog Tryd.f8 false true false false) := by
  refine returnsInHanded_of_change_and (C := Tryd.checked) (X := fun w _ => laidMetH Tryd.prog [("lyceum/syntax.rows", Rows.laid_lyceum_syntax_rows)] w) (fun _ _ _ hh h => h.of_heap hh) own started (by kernel_rfl) Tryd.func8
    (ChangeSpec.witness_shaped (enc := enc) (C := Tryd.checked) (os := os) (X := fun w _ => laidMetH Tryd.prog [("lyceum/syntax.rows", Rows.laid_lyceum_syntax_rows)] w) false (World.doorLaid Tryd.prog 400 os) #[.int .u8 0, .int .u8 0, .agg #[.int .u8 0, .int .u8 0, .int .u8 0], .slice none 0 0, .int .u8 0, .int .i64 0] 8 rfl (World.shaped_of_RefB (by kernel_rfl) (by kernel_rfl)) (by kernel_rfl) (by kernel_rfl) (by kernel_rfl) (door_met os _)) ?_
  intro W base args ds gs before hval hW _ _ hL _
  exact contract H enc W base args ds gs before hval hW hL
set_option maxRecDepth 100000 in
theorem over : Rows.traceWrongRow.holds Tryd.pinned (OpenSpec.ofChange Rows.traceWrongSpec) :=
  OpenClaim.holds_of_wide 8 Tryd.f8 rfl rfl rfl rfl rfl rfl rfl ⟨rfl, rfl, rfl, rfl, rfl⟩ rfl rfl rfl rfl rfl (by kernel_rfl) Tryd.func8 (by kernel_rfl) (of_decide_eq_true (by kernel_rfl))
    (by unfold Func.isWrapper; first | (rw [if_pos (by decide +kernel)]; kernel_rfl) | (rw [if_neg (by decide +kernel)]; exact ⟨rfl, rfl⟩))
    (fun os started H enc _ => lifted os started H enc)
set_option maxRecDepth 100000 in
theorem proved : Rows.TraceWrongCardSaid :=
  Claim7.holds_tied_plain_at .later [] [.data] true (true, "8c893e796ee2002d6eaa8a7f1ed6fe1f57a67936e9bf89397b742a618015e4b4") false
    over (fun _ h => by cases h) (by kernel_rfl) (fun _ h => by cases h) traceWrong_row_tie rfl ⟨rfl, rfl⟩ (by kernel_rfl) rfl
    (fun f fn hf hfn => by
      obtain rfl : f = 8 := Option.some.inj ((show Tryd.prog.funcNamed "lyceum/lyceumlaw13.TraceWrong" = some 8 by kernel_rfl).symm.trans hf) |>.symm
      obtain rfl : fn = Tryd.f8 := (Option.some.inj (Tryd.func8.symm.trans hfn)).symm
      exact ⟨by kernel_rfl, fun j t ht => by
        rw [Tryd.params8] at ht
        have hm : t ∈ [5, 5, 22, 23, 5, 3] := by simpa using Array.mem_of_getElem? ht
        have hall : ([5, 5, 22, 23, 5, 3].all fun u => !Tryd.prog.wantsStandIn u) = true := by kernel_rfl
        exact (show Tryd.prog.wantsStandIn t = false by simpa using List.all_eq_true.1 hall t hm)⟩)
    (by kernel_rfl)
end Go.Proofs.YtjflngchbeegcaaDoor.traceWrong

