/- The law FormPlaces: what its walk gives, brought to the row's form. -/
import Derived.Test.YtejegcmnddedmaaGreatDoorRows
import Derived.Test.YtejegcmnddedmaaGreatDoorTie
import Derived.Test.YtejegcmnddedmaaGreatDoorCards
import Derived.SevenTiedAt
import Derived.LaidMore
import Derived.Stop.Joined
import Derived.WalkKit
import Derived.ProofKit
import Derived.OpenShut
import Derived.Test.YtejegcmnddedmaaGreatDoorK11
set_option linter.unusedSimpArgs false
set_option linter.unusedVariables false
namespace Go.Proofs.YtejegcmnddedmaaGreatDoor.formPlaces
open Go.ChangeShapes Go.WideShapes Go.ChangeAt Go.RowKit Go.Vsi
set_option linter.unusedVariables false
theorem own : ownKnob Tryz.prog.godebug = none := by kernel_rfl
def ty25 : Ty := .fo
theorem ty25_ok : TyOk Tryz.prog 25 ty25 := tyOf_ok zgo 12 25 _ (by kernel_rfl)
def ty29 : Ty := (.sl (.int .i64))
theorem ty29_ok : TyOk Tryz.prog 29 ty29 := tyOf_ok zgo 12 29 _ (by kernel_rfl)
theorem fo_tys : FoTys Tryz.prog 25 36 23 22 := ⟨⟨_, _, _, _, _, Tryz.underlying25, rfl, rfl, rfl⟩, ⟨_, _, _, _, Tryz.underlying36, rfl, rfl⟩, Tryz.underlying22, Tryz.underlying23, by kernel_rfl, by kernel_rfl⟩
theorem walk (x0 : ty25.I) (x1 : ty25.I) (x2 : ty29.I) (g0 : ty25.good x0) (g1 : ty25.good x1) (g2 : ty29.good x2) (f0 : Fo.fit x0) (f1 : Fo.fit x1) : VDet Tryz.prog 4 [.agg (ty25.enc x0), .agg (ty25.enc x1), .sl none (List.length (α := Ty.I (.int .i64)) x2) (List.flatMap (α := Ty.I (.int .i64)) (Ty.enc (.int .i64)) x2)] [] (.bool true) := by
  exact formPlaces_c x0 x1 g0 g1 f0 f1 x2 (zao g2.1) []
set_option maxRecDepth 100000 in
set_option maxRecDepth 100000 in
theorem contract (H : Type) (enc : TypeId × Value → H) (W : World) (base : Nat) (args : Array Value) (ds gs : List (DataW H)) (before : List MemPlace)
    (hval : ∀ (j : Nat) t v, Tryz.f4.params[j]? = some t → args[j]? = some v → Value.okWide Tryz.prog W .any base t v)
    (hW : DataW.Whole enc Tryz.prog Tryz.f4.params.toList Rows.formPlacesSpec.vars false W args.toList ds gs before) (hL : laidMetH Tryz.prog [("lyceum/syntax.rows", Rows.laid_lyceum_syntax_rows)] W) (hS : (DataW.weightsEach Tryz.prog (Tryz.f4.params.toList ++ Rows.formPlacesSpec.plain.varTypes Tryz.prog) (ds ++ gs)).all (· ≤ reachBytes) = true) :
    Calls Tryz.prog 4 args W fun e W' => ∃ v, e = .returned v ∧ Rows.formPlacesSpec.post enc Tryz.prog Tryz.f4 false true false false W args v W' := by
  have hW' := hW
  obtain ⟨p, q, hA0, hV, rfl, hfz, hnd⟩ := hW
  have hA : DataW.TrodAll enc Tryz.prog W 0 (fun _ => true) true Tryz.f4.params.toList args.toList ds p := hA0
  rw [Tryz.params4] at hA hval hS
  obtain ⟨v0, vs0, d0, ds0, p0, q0, hargs, rfl, rfl, h0, s0⟩ := trodAll_cons hA
  obtain ⟨v1, vs1, d1, ds1, p1, q1, rfl, rfl, rfl, h1, s1⟩ := trodAll_cons s0
  obtain ⟨v2, vs2, d2, ds2, p2, q2, rfl, rfl, rfl, h2, s2⟩ := trodAll_cons s1
  obtain ⟨rfl, rfl, rfl⟩ := trodAll_nil s2
  obtain rfl : args = #[v0, v1, v2] := by cases args; simp_all
  obtain ⟨rfl, rfl⟩ := trodVars_none hV
  obtain ⟨x0, r0, g0, e0⟩ := arg_aggD (g := G.none) (fun _ _ h => h) (.inl ⟨_, Tryz.underlying25⟩) ty25_ok (hval 0 25 v0 rfl rfl) h0
  have f0 : Fo.fit x0 := fo_fit fo_tys e0 fun w hw => by
    have hq := yao.1 hS w (by simp only [ycc, yc9, DataW.weightsEach, ybd]; simp [hw])
    exact of_decide_eq_true hq
  obtain ⟨x1, r1, g1, e1⟩ := arg_aggD (g := G.none) (fun _ _ h => h) (.inl ⟨_, Tryz.underlying25⟩) ty25_ok (hval 1 25 v1 rfl rfl) h1
  have f1 : Fo.fit x1 := fo_fit fo_tys e1 fun w hw => by
    have hq := yao.1 hS w (by simp only [ycc, yc9, DataW.weightsEach, ybd]; simp [hw])
    exact of_decide_eq_true hq
  obtain ⟨x2, r2, g2⟩ := arg_one (g := G.none) (fun _ _ h => h) (.inr (.inr (.inr ⟨_, Tryz.underlying29⟩))) ty29_ok (hval 2 29 v2 rfl rfl) h2
  exact law_calls hW' (walk x0 x1 x2 g0 g1 g2 f0 f1) (LRel.more r0 (.more r1 (.more r2.head1 (LRel.nil)))) (gl_of_laid hL) (by kernel_rfl) (by kernel_rfl) rfl Tryz.underlying4 rfl rfl
set_option maxRecDepth 100000 in
theorem door_met (os : Os) (args : Array Value) : laidMetH Tryz.prog [("lyceum/syntax.rows", Rows.laid_lyceum_syntax_rows)] ((World.doorLaid Tryz.prog 400 os).forCall (fun _ _ => 0) ⟨#[], args, []⟩).memory :=
  laidMetH_of_parts3 (fuel := 8) (laidMet_of_run' 8 (by kernel_rfl) (by kernel_rfl)) (by kernel_rfl) (by kernel_rfl)
set_option maxRecDepth 100000 in
theorem lifted (os : Os) (started : os.Started) (H : Type) (enc : TypeId × Value → H) :
    ReturnsInHanded {} Tryz.checked os 4 .any (fun w args => (Rows.formPlacesSpec.pre enc Tryz.prog Tryz.f4 [] false w args ∧ laidMetH Tryz.prog [("lyceum/syntax.rows", Rows.laid_lyceum_syntax_rows)] w) ∧ sizedMet enc Tryz.prog Tryz.f4 (OpenSpec.ofChange Rows.formPlacesSpec) false w args) (Rows.formPlacesSpec.post enc Tryz.prog Tryz.f4 false true false false) := by
  refine returnsInHanded_of_change_and (C := Tryz.checked) (X := fun w _ => laidMetH Tryz.prog [("lyceum/syntax.rows", Rows.laid_lyceum_syntax_rows)] w) (fun _ _ _ hh h => h.of_heap hh) own started (by kernel_rfl) Tryz.func4
    (ChangeSpec.witness_shaped (enc := enc) (C := Tryz.checked) (os := os) (X := fun w _ => laidMetH Tryz.prog [("lyceum/syntax.rows", Rows.laid_lyceum_syntax_rows)] w) false (World.doorLaid Tryz.prog 400 os) #[.agg #[.int .u8 0, .string .empty, .slice none 0 0, .slice none 0 0], .agg #[.int .u8 0, .string .empty, .slice none 0 0, .slice none 0 0], .slice none 0 0] 8 rfl (World.shaped_of_RefB (by kernel_rfl) (by kernel_rfl)) (by kernel_rfl) (by kernel_rfl) (by kernel_rfl) (door_met os _)) ?_
  intro W base args ds gs before hval hW _ hS hL _
  exact contract H enc W base args ds gs before hval hW hL hS
set_option maxRecDepth 100000 in
theorem over : Rows.formPlacesRow.holds Tryz.pinned (OpenSpec.ofChange Rows.formPlacesSpec) :=
  OpenClaim.holds_of_wide 4 Tryz.f4 rfl rfl rfl rfl rfl rfl rfl ⟨rfl, rfl, rfl, rfl, rfl⟩ rfl rfl rfl rfl rfl (by kernel_rfl) Tryz.func4 (by kernel_rfl) (of_decide_eq_true (by kernel_rfl))
    (by unfold Func.isWrapper; first | (rw [if_pos (by decide +kernel)]; kernel_rfl) | (rw [if_neg (by decide +kernel)]; exact ⟨rfl, rfl⟩))
    (fun os started H enc _ => lifted os started H enc)
set_option maxRecDepth 100000 in
theorem proved : Rows.FormPlacesCardSaid :=
  Claim7.holds_tied_plain_at .later [] [.data] true (true, "9dd9d1b14c03f26929c627de83a0f21d6f56830cde16cff7cd7f87444910c75f") false
    over (fun _ h => by cases h) (by kernel_rfl) (fun _ h => by cases h) formPlaces_row_tie rfl ⟨rfl, rfl⟩ (by kernel_rfl) rfl
    (fun f fn hf hfn => by
      obtain rfl : f = 4 := Option.some.inj ((show Tryz.prog.funcNamed "lyceum/lyceumlaw02.FormPlaces" = some 4 by kernel_rfl).symm.trans hf) |>.symm
      obtain rfl : fn = Tryz.f4 := (Option.some.inj (Tryz.func4.symm.trans hfn)).symm
      exact ⟨by kernel_rfl, fun j t ht => by
        rw [Tryz.params4] at ht
        have hm : t ∈ [25, 25, 29] := by simpa using Array.mem_of_getElem? ht
        have hall : ([25, 25, 29].all fun u => !Tryz.prog.wantsStandIn u) = true := by kernel_rfl
        exact (show Tryz.prog.wantsStandIn t = false by simpa using yao.1 hall t hm)⟩)
    (by kernel_rfl)
end Go.Proofs.YtejegcmnddedmaaGreatDoor.formPlaces

