/- The law TraceCompares: what its walk gives, brought to the row's form. -/
import Derived.Test.YtjflngchbeegcaaGreatDoorRows
import Derived.Test.YtjflngchbeegcaaGreatDoorTie
import Derived.Test.YtjflngchbeegcaaGreatDoorCards
import Derived.SevenTiedAt
import Derived.LaidMore
import Derived.Stop.Joined
import Derived.WalkKit
import Derived.ProofKit
import Derived.OpenShut
import Derived.Test.YtjflngchbeegcaaGreatDoorK12
set_option linter.unusedSimpArgs false
set_option linter.unusedVariables false
namespace Go.Proofs.YtjflngchbeegcaaGreatDoor.traceCompares
open Go.ChangeShapes Go.WideShapes Go.ChangeAt Go.RowKit Go.Vsi
set_option linter.unusedVariables false
theorem own : ownKnob Tryz.prog.godebug = none := by kernel_rfl
def ty3 : Ty := (.int .i64)
theorem ty3_ok : TyOk Tryz.prog 3 ty3 := tyOf_ok Tryz.T_ok 12 3 _ (by kernel_rfl)
def ty27 : Ty := (.pair (.int .u8) (.pair (.int .i64) (.pair (.sl (.int .i64)) (.pair (.int .i64) (.pair (.sl (.pair (.str) (.pair (.int .i64) (.pair (.int .i64) .unit)))) (.pair (.sl (.pair (.str) (.pair (.int .i64) (.pair (.sl (.int .i64)) .unit)))) (.pair (.sl (.pair (.str) (.pair (.int .i64) .unit))) .unit)))))))
theorem ty27_ok : TyOk Tryz.prog 27 ty27 := tyOf_ok Tryz.T_ok 12 27 _ (by kernel_rfl)
def ty28 : Ty := (.sl (.str))
theorem ty28_ok : TyOk Tryz.prog 28 ty28 := tyOf_ok Tryz.T_ok 12 28 _ (by kernel_rfl)
theorem md_tys : P10.C.MdTys Tryz.prog 27 24 56 22 := ⟨⟨_, _, _, _, _, _, _, _, Tryz.underlying27, rfl, rfl⟩, Tryz.underlying24, ⟨_, _, _, _, Tryz.underlying56, rfl, rfl⟩, ⟨_, Tryz.underlying22, by kernel_rfl⟩⟩
theorem walk (x0 : ty27.I) (x1 : ty27.I) (x2 : ty28.I) (x3 : ty3.I) (x4 : ty3.I) (g0 : ty27.good x0) (g1 : ty27.good x1) (g2 : ty28.good x2) (g3 : ty3.good x3) (g4 : ty3.good x4) (f0 : P10.C.fitM x0) (f1 : P10.C.fitM x1) : VDet Tryz.prog 3 [.agg (ty27.enc x0), .agg (ty27.enc x1), .sl none (List.length (α := Ty.I (.str)) x2) (List.flatMap (α := Ty.I (.str)) (Ty.enc (.str)) x2), .int .i64 x3, .int .i64 x4] [] (.bool true) := by
  exact P10.C.mdl_compares x0 x1 x2 g0 g1 (fun c hc => g2.2 c hc) f0 f1 x3 x4 []
set_option maxRecDepth 100000 in
set_option maxRecDepth 100000 in
theorem contract (H : Type) (enc : TypeId × Value → H) (W : World) (base : Nat) (args : Array Value) (ds gs : List (DataW H)) (before : List MemPlace)
    (hval : ∀ (j : Nat) t v, Tryz.f3.params[j]? = some t → args[j]? = some v → Value.okWide Tryz.prog W .any base t v)
    (hW : DataW.Whole enc Tryz.prog Tryz.f3.params.toList Rows.traceComparesSpec.vars false W args.toList ds gs before) (hL : laidMetH Tryz.prog [("lyceum/syntax.rows", Rows.laid_lyceum_syntax_rows)] W) (hS : (DataW.weightsEach Tryz.prog (Tryz.f3.params.toList ++ Rows.traceComparesSpec.plain.varTypes Tryz.prog) (ds ++ gs)).all (· ≤ reachBytes) = true) :
    Calls Tryz.prog 3 args W fun e W' => ∃ v, e = .returned v ∧ Rows.traceComparesSpec.post enc Tryz.prog Tryz.f3 false true false false W args v W' := by
  have hW' := hW
  obtain ⟨p, q, hA0, hV, rfl, hfz, hnd⟩ := hW
  have hA : DataW.TrodAll enc Tryz.prog W 0 (fun _ => true) true Tryz.f3.params.toList args.toList ds p := hA0
  rw [Tryz.params3] at hA hval hS
  obtain ⟨v0, vs0, d0, ds0, p0, q0, hargs, rfl, rfl, h0, s0⟩ := trodAll_cons hA
  obtain ⟨v1, vs1, d1, ds1, p1, q1, rfl, rfl, rfl, h1, s1⟩ := trodAll_cons s0
  obtain ⟨v2, vs2, d2, ds2, p2, q2, rfl, rfl, rfl, h2, s2⟩ := trodAll_cons s1
  obtain ⟨v3, vs3, d3, ds3, p3, q3, rfl, rfl, rfl, h3, s3⟩ := trodAll_cons s2
  obtain ⟨v4, vs4, d4, ds4, p4, q4, rfl, rfl, rfl, h4, s4⟩ := trodAll_cons s3
  obtain ⟨rfl, rfl, rfl⟩ := trodAll_nil s4
  obtain rfl : args = #[v0, v1, v2, v3, v4] := by cases args; simp_all
  obtain ⟨rfl, rfl⟩ := trodVars_none hV
  obtain ⟨x0, r0, g0, e0⟩ := arg_aggD (g := G.none) (fun _ _ h => h) (.inl ⟨_, Tryz.underlying27⟩) ty27_ok (hval 0 27 v0 rfl rfl) h0
  have f0 : P10.C.fitM x0 := P10.C.md_fit md_tys e0 fun w hw => by
    have hq := List.all_eq_true.1 hS w (by simp only [List.cons_append, List.nil_append, DataW.weightsEach, List.mem_append]; simp [hw])
    exact of_decide_eq_true hq
  obtain ⟨x1, r1, g1, e1⟩ := arg_aggD (g := G.none) (fun _ _ h => h) (.inl ⟨_, Tryz.underlying27⟩) ty27_ok (hval 1 27 v1 rfl rfl) h1
  have f1 : P10.C.fitM x1 := P10.C.md_fit md_tys e1 fun w hw => by
    have hq := List.all_eq_true.1 hS w (by simp only [List.cons_append, List.nil_append, DataW.weightsEach, List.mem_append]; simp [hw])
    exact of_decide_eq_true hq
  obtain ⟨x2, r2, g2⟩ := arg_one (g := G.none) (fun _ _ h => h) (.inr (.inr (.inr ⟨_, Tryz.underlying28⟩))) ty28_ok (hval 2 28 v2 rfl rfl) h2
  obtain ⟨x3, r3, g3⟩ := arg_one (g := G.none) (fun _ _ h => h) (.inl ⟨_, Tryz.underlying3⟩) ty3_ok (hval 3 3 v3 rfl rfl) h3
  obtain ⟨x4, r4, g4⟩ := arg_one (g := G.none) (fun _ _ h => h) (.inl ⟨_, Tryz.underlying3⟩) ty3_ok (hval 4 3 v4 rfl rfl) h4
  exact law_calls hW' (walk x0 x1 x2 x3 x4 g0 g1 g2 g3 g4 f0 f1) (LRel.more r0 (.more r1 (.more r2.head1 (.more r3.head1 (.more r4.head1 (LRel.nil)))))) (gl_of_laid hL) (by kernel_rfl) (by kernel_rfl) rfl Tryz.underlying4 rfl rfl
set_option maxRecDepth 100000 in
theorem door_met (os : Os) (args : Array Value) : laidMetH Tryz.prog [("lyceum/syntax.rows", Rows.laid_lyceum_syntax_rows)] ((World.doorLaid Tryz.prog 400 os).forCall (fun _ _ => 0) ⟨#[], args, []⟩).memory :=
  laidMetH_of_parts3 (fuel := 8) (laidMet_of_run' 8 (by kernel_rfl) (by kernel_rfl)) (by kernel_rfl) (by kernel_rfl)
set_option maxRecDepth 100000 in
theorem lifted (os : Os) (started : os.Started) (H : Type) (enc : TypeId × Value → H) :
    ReturnsInHanded {} Tryz.checked os 3 .any (fun w args => (Rows.traceComparesSpec.pre enc Tryz.prog Tryz.f3 [] false w args ∧ laidMetH Tryz.prog [("lyceum/syntax.rows", Rows.laid_lyceum_syntax_rows)] w) ∧ sizedMet enc Tryz.prog Tryz.f3 (OpenSpec.ofChange Rows.traceComparesSpec) false w args) (Rows.traceComparesSpec.post enc Tryz.prog Tryz.f3 false true false false) := by
  refine returnsInHanded_of_change_and (C := Tryz.checked) (X := fun w _ => laidMetH Tryz.prog [("lyceum/syntax.rows", Rows.laid_lyceum_syntax_rows)] w) (fun _ _ _ hh h => h.of_heap hh) own started (by kernel_rfl) Tryz.func3
    (ChangeSpec.witness_shaped (enc := enc) (C := Tryz.checked) (os := os) (X := fun w _ => laidMetH Tryz.prog [("lyceum/syntax.rows", Rows.laid_lyceum_syntax_rows)] w) false (World.doorLaid Tryz.prog 400 os) #[.agg #[.int .u8 0, .int .i64 0, .slice none 0 0, .int .i64 0, .slice none 0 0, .slice none 0 0, .slice none 0 0], .agg #[.int .u8 0, .int .i64 0, .slice none 0 0, .int .i64 0, .slice none 0 0, .slice none 0 0, .slice none 0 0], .slice none 0 0, .int .i64 0, .int .i64 0] 8 rfl (World.shaped_of_RefB (by kernel_rfl) (by kernel_rfl)) (by kernel_rfl) (by kernel_rfl) (by kernel_rfl) (door_met os _)) ?_
  intro W base args ds gs before hval hW _ hS hL _
  exact contract H enc W base args ds gs before hval hW hL hS
set_option maxRecDepth 100000 in
theorem over : Rows.traceComparesRow.holds Tryz.pinned (OpenSpec.ofChange Rows.traceComparesSpec) :=
  OpenClaim.holds_of_wide 3 Tryz.f3 rfl rfl rfl rfl rfl rfl rfl ⟨rfl, rfl, rfl, rfl, rfl⟩ rfl rfl rfl rfl rfl (by kernel_rfl) Tryz.func3 (by kernel_rfl) (of_decide_eq_true (by kernel_rfl))
    (by unfold Func.isWrapper; first | (rw [if_pos (by decide +kernel)]; kernel_rfl) | (rw [if_neg (by decide +kernel)]; exact ⟨rfl, rfl⟩))
    (fun os started H enc _ => lifted os started H enc)
set_option maxRecDepth 100000 in
theorem proved : Rows.TraceComparesCardSaid :=
  Claim7.holds_tied_plain_at .later [] [.data] true (true, "d47cf70d7d7df1faded069dc3ec7ff427ae391a75cc225bbfc46227e2e82996f") false
    over (fun _ h => by cases h) (by kernel_rfl) (fun _ h => by cases h) traceCompares_row_tie rfl ⟨rfl, rfl⟩ (by kernel_rfl) rfl
    (fun f fn hf hfn => by
      obtain rfl : f = 3 := Option.some.inj ((show Tryz.prog.funcNamed "lyceum/lyceumlaw13.TraceCompares" = some 3 by kernel_rfl).symm.trans hf) |>.symm
      obtain rfl : fn = Tryz.f3 := (Option.some.inj (Tryz.func3.symm.trans hfn)).symm
      exact ⟨by kernel_rfl, fun j t ht => by
        rw [Tryz.params3] at ht
        have hm : t ∈ [27, 27, 28, 3, 3] := by simpa using Array.mem_of_getElem? ht
        have hall : ([27, 27, 28, 3, 3].all fun u => !Tryz.prog.wantsStandIn u) = true := by kernel_rfl
        exact (show Tryz.prog.wantsStandIn t = false by simpa using List.all_eq_true.1 hall t hm)⟩)
    (by kernel_rfl)
end Go.Proofs.YtjflngchbeegcaaGreatDoor.traceCompares

