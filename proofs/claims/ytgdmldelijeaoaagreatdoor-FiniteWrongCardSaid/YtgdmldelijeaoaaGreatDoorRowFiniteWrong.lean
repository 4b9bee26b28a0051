/- The law FiniteWrong: what its walk gives, brought to the row's form. -/
import Derived.Test.YtgdmldelijeaoaaGreatDoorRows
import Derived.Test.YtgdmldelijeaoaaGreatDoorTie
import Derived.Test.YtgdmldelijeaoaaGreatDoorCards
import Derived.SevenTiedAt
import Derived.LaidMore
import Derived.Stop.Joined
import Derived.WalkKit
import Derived.ProofKit
import Derived.OpenShut
import Derived.Test.YtgdmldelijeaoaaGreatDoorK13
set_option linter.unusedSimpArgs false
set_option linter.unusedVariables false
namespace Go.Proofs.YtgdmldelijeaoaaGreatDoor.finiteWrong
open Go.ChangeShapes Go.WideShapes Go.ChangeAt Go.RowKit Go.Vsi
set_option linter.unusedVariables false
theorem own : ownKnob Tryz.prog.godebug = none := by kernel_rfl
def ty3 : Ty := (.int .i64)
theorem ty3_ok : TyOk Tryz.prog 3 ty3 := tyOf_ok Tryz.T_ok 12 3 _ (by kernel_rfl)
def ty5 : Ty := (.int .u8)
theorem ty5_ok : TyOk Tryz.prog 5 ty5 := tyOf_ok Tryz.T_ok 12 5 _ (by kernel_rfl)
def ty22 : Ty := (.sl (.int .u8))
theorem ty22_ok : TyOk Tryz.prog 22 ty22 := tyOf_ok Tryz.T_ok 12 22 _ (by kernel_rfl)
def ty47 : Ty := (repTy 8 (.int .u16))
theorem ty47_ok : TyOk Tryz.prog 47 ty47 := tyOf_ok Tryz.T_ok 12 47 _ (by kernel_rfl)
theorem walk (x0 : ty5.I) (x1 : ty47.I) (x2 : ty22.I) (x3 : ty5.I) (x4 : ty3.I) (g0 : ty5.good x0) (g1 : ty47.good x1) (g2 : ty22.good x2) (g3 : ty5.good x3) (g4 : ty3.good x4) : VDet Tryz.prog 11 [.int .u8 x0, .agg (ty47.enc x1), .sl none (List.length (α := Ty.I (.int .u8)) x2) (List.flatMap (α := Ty.I (.int .u8)) (Ty.enc (.int .u8)) x2), .int .u8 x3, .int .i64 x4] [] (.bool true) := by
  obtain ⟨k, rfl, hk⟩ := u8_nat g0
  obtain ⟨l, rfl, hl1, hl2⟩ := bytes_nat g2
  obtain ⟨wh, rfl, hwh⟩ := u8_nat g3
  obtain ⟨w, hw, he⟩ := words8 g1
  have := wrong_law k hk w hw l hl1 hl2 wh hwh x4 (wf_i64 g4) []
  have he2 : ty47.enc x1 = cW w := he
  rw [← he2] at this
  exact bytes_cast l (fun v => VDet Tryz.prog 11 [.int .u8 k, .agg (ty47.enc x1), v, .int .u8 wh, .int .i64 x4] [] (.bool true)) this
set_option maxRecDepth 100000 in
set_option maxRecDepth 100000 in
theorem contract (H : Type) (enc : TypeId × Value → H) (W : World) (base : Nat) (args : Array Value) (ds gs : List (DataW H)) (before : List MemPlace)
    (hval : ∀ (j : Nat) t v, Tryz.f11.params[j]? = some t → args[j]? = some v → Value.okWide Tryz.prog W .any base t v)
    (hW : DataW.Whole enc Tryz.prog Tryz.f11.params.toList Rows.finiteWrongSpec.vars false W args.toList ds gs before) (hL : laidMetH Tryz.prog [("lyceum/syntax.rows", Rows.laid_lyceum_syntax_rows)] W) :
    Calls Tryz.prog 11 args W fun e W' => ∃ v, e = .returned v ∧ Rows.finiteWrongSpec.post enc Tryz.prog Tryz.f11 false true false false W args v W' := by
  have hW' := hW
  obtain ⟨p, q, hA0, hV, rfl, hfz, hnd⟩ := hW
  have hA : DataW.TrodAll enc Tryz.prog W 0 (fun _ => true) true Tryz.f11.params.toList args.toList ds p := hA0
  rw [Tryz.params11] at hA hval
  obtain ⟨v0, vs0, d0, ds0, p0, q0, hargs, rfl, rfl, h0, s0⟩ := trodAll_cons hA
  obtain ⟨v1, vs1, d1, ds1, p1, q1, rfl, rfl, rfl, h1, s1⟩ := trodAll_cons s0
  obtain ⟨v2, vs2, d2, ds2, p2, q2, rfl, rfl, rfl, h2, s2⟩ := trodAll_cons s1
  obtain ⟨v3, vs3, d3, ds3, p3, q3, rfl, rfl, rfl, h3, s3⟩ := trodAll_cons s2
  obtain ⟨v4, vs4, d4, ds4, p4, q4, rfl, rfl, rfl, h4, s4⟩ := trodAll_cons s3
  obtain ⟨rfl, rfl, rfl⟩ := trodAll_nil s4
  obtain rfl : args = #[v0, v1, v2, v3, v4] := by cases args; simp_all
  obtain ⟨rfl, rfl⟩ := trodVars_none hV
  obtain ⟨x0, r0, g0⟩ := arg_one (g := G.none) (fun _ _ h => h) (.inl ⟨_, Tryz.underlying5⟩) ty5_ok (hval 0 5 v0 rfl rfl) h0
  obtain ⟨x1, r1, g1⟩ := arg_agg (g := G.none) (fun _ _ h => h) (.inr ⟨_, _, Tryz.underlying47⟩) ty47_ok (hval 1 47 v1 rfl rfl) h1
  obtain ⟨x2, r2, g2⟩ := arg_one (g := G.none) (fun _ _ h => h) (.inr (.inr (.inr ⟨_, Tryz.underlying22⟩))) ty22_ok (hval 2 22 v2 rfl rfl) h2
  obtain ⟨x3, r3, g3⟩ := arg_one (g := G.none) (fun _ _ h => h) (.inl ⟨_, Tryz.underlying5⟩) ty5_ok (hval 3 5 v3 rfl rfl) h3
  obtain ⟨x4, r4, g4⟩ := arg_one (g := G.none) (fun _ _ h => h) (.inl ⟨_, Tryz.underlying3⟩) ty3_ok (hval 4 3 v4 rfl rfl) h4
  exact law_calls hW' (walk x0 x1 x2 x3 x4 g0 g1 g2 g3 g4) (LRel.more r0.head1 (.more r1 (.more r2.head1 (.more r3.head1 (.more r4.head1 (LRel.nil)))))) (gl_of_laid hL) (by kernel_rfl) (by kernel_rfl) rfl Tryz.underlying4 rfl rfl
set_option maxRecDepth 100000 in
theorem door_met (os : Os) (args : Array Value) : laidMetH Tryz.prog [("lyceum/syntax.rows", Rows.laid_lyceum_syntax_rows)] ((World.doorLaid Tryz.prog 400 os).forCall (fun _ _ => 0) ⟨#[], args, []⟩).memory :=
  laidMetH_of_parts3 (fuel := 8) (laidMet_of_run' 8 (by kernel_rfl) (by kernel_rfl)) (by kernel_rfl) (by kernel_rfl)
set_option maxRecDepth 100000 in
theorem lifted (os : Os) (started : os.Started) (H : Type) (enc : TypeId × Value → H) :
    ReturnsInHanded {} Tryz.checked os 11 .any (fun w args => (Rows.finiteWrongSpec.pre enc Tryz.prog Tryz.f11 [] false w args ∧ laidMetH Tryz.prog [("lyceum/syntax.rows", Rows.laid_lyceum_syntax_rows)] w) ∧ sizedMet enc Tryz.prog Tryz.f11 (OpenSpec.ofChange Rows.finiteWrongSpec) false w args) (Rows.finiteWrongSpec.post enc Tryz.prog Tryz.f11 false true false false) := by
  refine returnsInHanded_of_change_and (C := Tryz.checked) (X := fun w _ => laidMetH Tryz.prog [("lyceum/syntax.rows", Rows.laid_lyceum_syntax_rows)] w) (fun _ _ _ hh h => h.of_heap hh) own started (by kernel_rfl) Tryz.func11
    (ChangeSpec.witness_shaped (enc := enc) (C := Tryz.checked) (os := os) (X := fun w _ => laidMetH Tryz.prog [("lyceum/syntax.rows", Rows.laid_lyceum_syntax_rows)] w) false (World.doorLaid Tryz.prog 400 os) #[.int .u8 0, .agg #[.int .u16 0, .int .u16 0, .int .u16 0, .int .u16 0, .int .u16 0, .int .u16 0, .int .u16 0, .int .u16 0], .slice none 0 0, .int .u8 0, .int .i64 0] 8 rfl (World.shaped_of_RefB (by kernel_rfl) (by kernel_rfl)) (by kernel_rfl) (by kernel_rfl) (by kernel_rfl) (door_met os _)) ?_
  intro W base args ds gs before hval hW _ _ hL _
  exact contract H enc W base args ds gs before hval hW hL
set_option maxRecDepth 100000 in
theorem over : Rows.finiteWrongRow.holds Tryz.pinned (OpenSpec.ofChange Rows.finiteWrongSpec) :=
  OpenClaim.holds_of_wide 11 Tryz.f11 rfl rfl rfl rfl rfl rfl rfl ⟨rfl, rfl, rfl, rfl, rfl⟩ rfl rfl rfl rfl rfl (by kernel_rfl) Tryz.func11 (by kernel_rfl) (of_decide_eq_true (by kernel_rfl))
    (by unfold Func.isWrapper; first | (rw [if_pos (by decide +kernel)]; kernel_rfl) | (rw [if_neg (by decide +kernel)]; exact ⟨rfl, rfl⟩))
    (fun os started H enc _ => lifted os started H enc)
set_option maxRecDepth 100000 in
theorem proved : Rows.FiniteWrongCardSaid :=
  Claim7.holds_tied_plain_at .later [] [.data] true (true, "32d8bcf38d8dbb4816f659fbc0a624916388770a4af72ab98c9ec5c1af1897c4") false
    over (fun _ h => by cases h) (by kernel_rfl) (fun _ h => by cases h) finiteWrong_row_tie rfl ⟨rfl, rfl⟩ (by kernel_rfl) rfl
    (fun f fn hf hfn => by
      obtain rfl : f = 11 := Option.some.inj ((show Tryz.prog.funcNamed "lyceum/lyceumlaw11.FiniteWrong" = some 11 by kernel_rfl).symm.trans hf) |>.symm
      obtain rfl : fn = Tryz.f11 := (Option.some.inj (Tryz.func11.symm.trans hfn)).symm
      exact ⟨by kernel_rfl, fun j t ht => by
        rw [Tryz.params11] at ht
        have hm : t ∈ [5, 47, 22, 5, 3] := by simpa using Array.mem_of_getElem? ht
        have hall : ([5, 47, 22, 5, 3].all fun u => !Tryz.prog.wantsStandIn u) = true := by kernel_rfl
        exact (show Tryz.prog.wantsStandIn t = false by simpa using List.all_eq_true.1 hall t hm)⟩)
    (by kernel_rfl)
end Go.Proofs.YtgdmldelijeaoaaGreatDoor.finiteWrong

