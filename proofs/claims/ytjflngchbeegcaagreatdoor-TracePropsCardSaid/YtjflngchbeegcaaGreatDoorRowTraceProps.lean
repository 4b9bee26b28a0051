/- The law TraceProps: what its walk gives, brought to the row's form. -/
import Derived.Test.YtjflngchbeegcaaGreatDoorRows
import Derived.Test.YtjflngchbeegcaaGreatDoorTie
import Derived.Test.YtjflngchbeegcaaGreatDoorCards
import Derived.SevenTiedAt
import Derived.LaidMore
import Derived.Stop.Joined
import Derived.WalkKit
import Derived.ProofKit
import Derived.OpenShut
import Derived.Test.YtjflngchbeegcaaGreatDoorK8
set_option linter.unusedSimpArgs false
set_option linter.unusedVariables false
namespace Go.Proofs.YtjflngchbeegcaaGreatDoor.traceProps
open Go.ChangeShapes Go.WideShapes Go.ChangeAt Go.RowKit Go.Vsi
set_option linter.unusedVariables false
theorem own : ownKnob Tryz.prog.godebug = none := by kernel_rfl
def ty5 : Ty := (.int .u8)
theorem ty5_ok : TyOk Tryz.prog 5 ty5 := tyOf_ok Tryz.T_ok 12 5 _ (by kernel_rfl)
def ty64 : Ty := (repTy 3 (.int .u8))
theorem ty64_ok : TyOk Tryz.prog 64 ty64 := tyOf_ok Tryz.T_ok 12 64 _ (by kernel_rfl)
def ty65 : Ty := (.sl (.int .u8))
theorem ty65_ok : TyOk Tryz.prog 65 ty65 := tyOf_ok Tryz.T_ok 12 65 _ (by kernel_rfl)
def ty66 : Ty := (.int .u16)
theorem ty66_ok : TyOk Tryz.prog 66 ty66 := tyOf_ok Tryz.T_ok 12 66 _ (by kernel_rfl)
/-- the walk, over the arguments as they read -/
theorem walk (x0 : ty5.I) (x1 : ty5.I) (x2 : ty64.I) (x3 : ty65.I) (x4 : ty66.I) (g0 : ty5.good x0) (g1 : ty5.good x1) (g2 : ty64.good x2) (g3 : ty65.good x3) (g4 : ty66.good x4) : VDet Tryz.prog 5 [.int .u8 x0, .int .u8 x1, .agg (ty64.enc x2), .sl none (List.length (α := Ty.I (.int .u8)) x3) (List.flatMap (α := Ty.I (.int .u8)) (Ty.enc (.int .u8)) x3), .int .u16 x4] [] (.bool true) := by
  obtain ⟨a, rfl, ha⟩ := u8_nat g0
  obtain ⟨b, rfl, hb⟩ := u8_nat g1
  obtain ⟨x, hx, hx'⟩ := u8_nat g2.1
  obtain ⟨y, hy, hy'⟩ := u8_nat g2.2.1
  obtain ⟨z, hz, hz'⟩ := u8_nat g2.2.2.1
  obtain ⟨c, rfl, hc1, hc2⟩ := bytes_nat g3
  obtain ⟨t, rfl, ht⟩ := u16_nat g4
  have := props_c a b x y z c t ha hb hx' hy' hz' hc1 hc2 ht []
  rw [← hx, ← hy, ← hz] at this
  exact bytes_cast c (fun v => VDet Tryz.prog 5 [.int .u8 a, .int .u8 b, .agg (ty64.enc x2), v, .int .u16 t] [] (.bool true)) this
set_option maxRecDepth 100000 in
theorem contract (H : Type) (enc : TypeId × Value → H) (W : World) (base : Nat) (args : Array Value) (ds gs : List (DataW H)) (before : List MemPlace)
    (hval : ∀ (j : Nat) t v, Tryz.f5.params[j]? = some t → args[j]? = some v → Value.okWide Tryz.prog W .any base t v)
    (hW : DataW.Whole enc Tryz.prog Tryz.f5.params.toList Rows.tracePropsSpec.vars false W args.toList ds gs before) (hL : laidMetH Tryz.prog [("lyceum/syntax.rows", Rows.laid_lyceum_syntax_rows), ("lyceum/truth.patterns", Rows.laid_lyceum_truth_patterns)] W) :
    Calls Tryz.prog 5 args W fun e W' => ∃ v, e = .returned v ∧ Rows.tracePropsSpec.post enc Tryz.prog Tryz.f5 false true false false W args v W' := by
  have hW' := hW
  obtain ⟨p, q, hA0, hV, rfl, hfz, hnd⟩ := hW
  have hA : DataW.TrodAll enc Tryz.prog W 0 (fun _ => true) true Tryz.f5.params.toList args.toList ds p := hA0
  rw [Tryz.params5] at hA hval
  obtain ⟨v0, vs0, d0, ds0, p0, q0, hargs, rfl, rfl, h0, s0⟩ := trodAll_cons hA
  obtain ⟨v1, vs1, d1, ds1, p1, q1, rfl, rfl, rfl, h1, s1⟩ := trodAll_cons s0
  obtain ⟨v2, vs2, d2, ds2, p2, q2, rfl, rfl, rfl, h2, s2⟩ := trodAll_cons s1
  obtain ⟨v3, vs3, d3, ds3, p3, q3, rfl, rfl, rfl, h3, s3⟩ := trodAll_cons s2
  obtain ⟨v4, vs4, d4, ds4, p4, q4, rfl, rfl, rfl, h4, s4⟩ := trodAll_cons s3
  obtain ⟨rfl, rfl, rfl⟩ := trodAll_nil s4
  obtain rfl : args = #[v0, v1, v2, v3, v4] := by cases args; simp_all
  obtain ⟨rfl, rfl⟩ := trodVars_none hV
  obtain ⟨x0, r0, g0⟩ := arg_one (g := G.none) (fun _ _ h => h) (.inl ⟨_, Tryz.underlying5⟩) ty5_ok (hval 0 5 v0 rfl rfl) h0
  obtain ⟨x1, r1, g1⟩ := arg_one (g := G.none) (fun _ _ h => h) (.inl ⟨_, Tryz.underlying5⟩) ty5_ok (hval 1 5 v1 rfl rfl) h1
  obtain ⟨x2, r2, g2⟩ := arg_agg (g := G.none) (fun _ _ h => h) (.inr ⟨_, _, Tryz.underlying64⟩) ty64_ok (hval 2 64 v2 rfl rfl) h2
  obtain ⟨x3, r3, g3⟩ := arg_one (g := G.none) (fun _ _ h => h) (.inr (.inr (.inr ⟨_, Tryz.underlying65⟩))) ty65_ok (hval 3 65 v3 rfl rfl) h3
  obtain ⟨x4, r4, g4⟩ := arg_one (g := G.none) (fun _ _ h => h) (.inl ⟨_, Tryz.underlying66⟩) ty66_ok (hval 4 66 v4 rfl rfl) h4
  exact law_calls hW' (walk x0 x1 x2 x3 x4 g0 g1 g2 g3 g4) (LRel.more r0.head1 (.more r1.head1 (.more r2 (.more r3.head1 (.more r4.head1 (LRel.nil)))))) (gl_of_laid hL) (by kernel_rfl) (by kernel_rfl) rfl Tryz.underlying4 rfl rfl
set_option maxRecDepth 100000 in
theorem door_met (os : Os) (args : Array Value) : laidMetH Tryz.prog [("lyceum/syntax.rows", Rows.laid_lyceum_syntax_rows), ("lyceum/truth.patterns", Rows.laid_lyceum_truth_patterns)] ((World.doorLaid Tryz.prog 400 os).forCall (fun _ _ => 0) ⟨#[], args, []⟩).memory :=
  laidMetH_of_parts3 (fuel := 8) (laidMet_of_run' 8 (by kernel_rfl) (by kernel_rfl)) (by kernel_rfl) (by kernel_rfl)
set_option maxRecDepth 100000 in
theorem lifted (os : Os) (started : os.Started) (H : Type) (enc : TypeId × Value → H) :
    ReturnsInHanded {} Tryz.checked os 5 .any (fun w args => (Rows.tracePropsSpec.pre enc Tryz.prog Tryz.f5 [] false w args ∧ laidMetH Tryz.prog [("lyceum/syntax.rows", Rows.laid_lyceum_syntax_rows), ("lyceum/truth.patterns", Rows.laid_lyceum_truth_patterns)] w) ∧ sizedMet enc Tryz.prog Tryz.f5 (OpenSpec.ofChange Rows.tracePropsSpec) false w args) (Rows.tracePropsSpec.post enc Tryz.prog Tryz.f5 false true false false) := by
  refine returnsInHanded_of_change_and (C := Tryz.checked) (X := fun w _ => laidMetH Tryz.prog [("lyceum/syntax.rows", Rows.laid_lyceum_syntax_rows), ("lyceum/truth.patterns", Rows.laid_lyceum_truth_patterns)] w) (fun _ _ _ hh h => h.of_heap hh) own started (by kernel_rfl) Tryz.func5
    (ChangeSpec.witness_shaped (enc := enc) (C := Tryz.checked) (os := os) (X := fun w _ => laidMetH Tryz.prog [("lyceum/syntax.rows", Rows.laid_lyceum_syntax_rows), ("lyceum/truth.patterns", Rows.laid_lyceum_truth_patterns)] w) false (World.doorLaid Tryz.prog 400 os) #[.int .u8 0, .int .u8 0, .agg #[.int .u8 0, .int .u8 0, .int .u8 0], .slice none 0 0, .int .u16 0] 8 rfl (World.shaped_of_RefB (by kernel_rfl) (by kernel_rfl)) (by kernel_rfl) (by kernel_rfl) (by kernel_rfl) (door_met os _)) ?_
  intro W base args ds gs before hval hW _ _ hL _
  exact contract H enc W base args ds gs before hval hW hL
set_option maxRecDepth 100000 in
theorem over : Rows.tracePropsRow.holds Tryz.pinned (OpenSpec.ofChange Rows.tracePropsSpec) :=
  OpenClaim.holds_of_wide 5 Tryz.f5 rfl rfl rfl rfl rfl rfl rfl ⟨rfl, rfl, rfl, rfl, rfl⟩ rfl rfl rfl rfl rfl (by kernel_rfl) Tryz.func5 (by kernel_rfl) (of_decide_eq_true (by kernel_rfl))
    (by unfold Func.isWrapper; first | (rw [if_pos (by decide +kernel)]; kernel_rfl) | (rw [if_neg (by decide +kernel)]; exact ⟨rfl, rfl⟩))
    (fun os started H enc _ => lifted os started H enc)
set_option maxRecDepth 100000 in
theorem proved : Rows.TracePropsCardSaid :=
  Claim7.holds_tied_plain_at .later [] [.data, .data] true (true, "d47cf70d7d7df1faded069dc3ec7ff427ae391a75cc225bbfc46227e2e82996f") false
    over (fun _ h => by cases h) (by kernel_rfl) (fun _ h => by cases h) traceProps_row_tie rfl ⟨rfl, rfl⟩ (by kernel_rfl) rfl
    (fun f fn hf hfn => by
      obtain rfl : f = 5 := Option.some.inj ((show Tryz.prog.funcNamed "lyceum/lyceumlaw13.TraceProps" = some 5 by kernel_rfl).symm.trans hf) |>.symm
      obtain rfl : fn = Tryz.f5 := (Option.some.inj (Tryz.func5.symm.trans hfn)).symm
      exact ⟨by kernel_rfl, fun j t ht => by
        rw [Tryz.params5] at ht
        have hm : t ∈ [5, 5, 64, 65, 66] := by simpa using Array.mem_of_getElem? ht
        have hall : ([5, 5, 64, 65, 66].all fun u => !Tryz.prog.wantsStandIn u) = true := by kernel_rfl
        exact (show Tryz.prog.wantsStandIn t = false by simpa using List.all_eq_true.1 hall t hm)⟩)
    (by kernel_rfl)
end Go.Proofs.YtjflngchbeegcaaGreatDoor.traceProps

