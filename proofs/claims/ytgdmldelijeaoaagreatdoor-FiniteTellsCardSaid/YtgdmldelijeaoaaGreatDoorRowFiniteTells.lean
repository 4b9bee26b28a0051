/- The law FiniteTells: what its walk gives, brought to the row's form. -/
import Derived.Test.YtgdmldelijeaoaaGreatDoorRows
import Derived.Test.YtgdmldelijeaoaaGreatDoorTie
import Derived.Test.YtgdmldelijeaoaaGreatDoorCards
import Derived.SevenTiedAt
import Derived.LaidMore
import Derived.Stop.Joined
import Derived.WalkKit
import Derived.ProofKit
import Derived.OpenShut
import Derived.Test.YtgdmldelijeaoaaGreatDoorK14
set_option linter.unusedSimpArgs false
set_option linter.unusedVariables false
namespace Go.Proofs.YtgdmldelijeaoaaGreatDoor.finiteTells
open Go.ChangeShapes Go.WideShapes Go.ChangeAt Go.RowKit Go.Vsi
set_option linter.unusedVariables false
theorem own : ownKnob Tryz.prog.godebug = none := by kernel_rfl
def ty29 : Ty := .fo
theorem ty29_ok : TyOk Tryz.prog 29 ty29 := zhg zgq 12 29 _ (by kernel_rfl)
def ty37 : Ty := (.pair (.int .u8) (.pair (.int .i64) (.pair (.sl (.int .i64)) (.pair (.int .i64) (.pair (.sl (.pair (.str) (.pair (.int .i64) (.pair (.int .i64) .unit)))) (.pair (.sl (.pair (.str) (.pair (.int .i64) (.pair (.sl (.int .i64)) .unit)))) (.pair (.sl (.pair (.str) (.pair (.int .i64) .unit))) .unit)))))))
theorem ty37_ok : TyOk Tryz.prog 37 ty37 := zhg zgq 12 37 _ (by kernel_rfl)
def ty51 : Ty := .tm
theorem ty51_ok : TyOk Tryz.prog 51 ty51 := zhg zgq 12 51 _ (by kernel_rfl)
theorem walk (x0 : ty37.I) (x1 : ty29.I) (x2 : ty51.I) (g0 : ty37.good x0) (g1 : ty29.good x1) (g2 : ty51.good x2) : VDet Tryz.prog 9 [.agg (ty37.enc x0), .agg (ty29.enc x1), .agg (ty51.enc x2)] [] (.bool true) := by
  exact mdl_tells x0 g0 x1 g1 x2 g2 []
set_option maxRecDepth 100000 in
set_option maxRecDepth 100000 in
theorem contract (H : Type) (enc : TypeId × Value → H) (W : World) (base : Nat) (args : Array Value) (ds gs : List (DataW H)) (before : List MemPlace)
    (hval : ∀ (j : Nat) t v, Tryz.f9.params[j]? = some t → args[j]? = some v → Value.okWide Tryz.prog W .any base t v)
    (hW : DataW.Whole enc Tryz.prog Tryz.f9.params.toList Rows.finiteTellsSpec.vars false W args.toList ds gs before) (hL : laidMetH Tryz.prog [("lyceum/syntax.rows", Rows.laid_lyceum_syntax_rows)] W) :
    Calls Tryz.prog 9 args W fun e W' => ∃ v, e = .returned v ∧ Rows.finiteTellsSpec.post enc Tryz.prog Tryz.f9 false true false false W args v W' := by
  have hW' := hW
  obtain ⟨p, q, hA0, hV, rfl, hfz, hnd⟩ := hW
  have hA : DataW.TrodAll enc Tryz.prog W 0 (fun _ => true) true Tryz.f9.params.toList args.toList ds p := hA0
  rw [Tryz.params9] at hA hval
  obtain ⟨v0, vs0, d0, ds0, p0, q0, hargs, rfl, rfl, h0, s0⟩ := trodAll_cons hA
  obtain ⟨v1, vs1, d1, ds1, p1, q1, rfl, rfl, rfl, h1, s1⟩ := trodAll_cons s0
  obtain ⟨v2, vs2, d2, ds2, p2, q2, rfl, rfl, rfl, h2, s2⟩ := trodAll_cons s1
  obtain ⟨rfl, rfl, rfl⟩ := trodAll_nil s2
  obtain rfl : args = #[v0, v1, v2] := by cases args; simp_all
  obtain ⟨rfl, rfl⟩ := trodVars_none hV
  obtain ⟨x0, r0, g0⟩ := arg_agg (g := G.none) (fun _ _ h => h) (.inl ⟨_, Tryz.underlying37⟩) ty37_ok (hval 0 37 v0 rfl rfl) h0
  obtain ⟨x1, r1, g1⟩ := arg_agg (g := G.none) (fun _ _ h => h) (.inl ⟨_, Tryz.underlying29⟩) ty29_ok (hval 1 29 v1 rfl rfl) h1
  obtain ⟨x2, r2, g2⟩ := arg_agg (g := G.none) (fun _ _ h => h) (.inl ⟨_, Tryz.underlying51⟩) ty51_ok (hval 2 51 v2 rfl rfl) h2
  exact law_calls hW' (walk x0 x1 x2 g0 g1 g2) (LRel.more r0 (.more r1 (.more r2 (LRel.nil)))) (gl_of_laid hL) (by kernel_rfl) (by kernel_rfl) rfl Tryz.underlying4 rfl rfl
set_option maxRecDepth 100000 in
theorem door_met (os : Os) (args : Array Value) : laidMetH Tryz.prog [("lyceum/syntax.rows", Rows.laid_lyceum_syntax_rows)] ((World.doorLaid Tryz.prog 400 os).forCall (fun _ _ => 0) ⟨#[], args, []⟩).memory :=
  laidMetH_of_parts3 (fuel := 8) (laidMet_of_run' 8 (by kernel_rfl) (by kernel_rfl)) (by kernel_rfl) (by kernel_rfl)
set_option maxRecDepth 100000 in
theorem lifted (os : Os) (started : os.Started) (H : Type) (enc : TypeId × Value → H) :
    ReturnsInHanded {} Tryz.checked os 9 .any (fun w args => (Rows.finiteTellsSpec.pre enc Tryz.prog Tryz.f9 [] false w args ∧ laidMetH Tryz.prog [("lyceum/syntax.rows", Rows.laid_lyceum_syntax_rows)] w) ∧ sizedMet enc Tryz.prog Tryz.f9 (OpenSpec.ofChange Rows.finiteTellsSpec) false w args) (Rows.finiteTellsSpec.post enc Tryz.prog Tryz.f9 false true false false) := by
  refine returnsInHanded_of_change_and (C := Tryz.checked) (X := fun w _ => laidMetH Tryz.prog [("lyceum/syntax.rows", Rows.laid_lyceum_syntax_rows)] w) (fun _ _ _ hh h => h.of_heap hh) own started (by kernel_rfl) Tryz.func9
    (ChangeSpec.witness_shaped (enc := enc) (C := Tryz.checked) (os := os) (X := fun w _ => laidMetH Tryz.prog [("lyceum/syntax.rows", Rows.laid_lyceum_syntax_rows)] w) false (World.doorLaid Tryz.prog 400 os) #[.agg #[.int .u8 0, .int .i64 0, .slice none 0 0, .int .i64 0, .slice none 0 0, .slice none 0 0, .slice none 0 0], .agg #[.int .u8 0, .string .empty, .slice none 0 0, .slice none 0 0], .agg #[.bool false, .string .empty, .slice none 0 0]] 8 rfl (World.shaped_of_RefB (by kernel_rfl) (by kernel_rfl)) (by kernel_rfl) (by kernel_rfl) (by kernel_rfl) (door_met os _)) ?_
  intro W base args ds gs before hval hW _ _ hL _
  exact contract H enc W base args ds gs before hval hW hL
theorem and2 {a b : Bool} (h : a = true) (k : b = true) : (a && b) = true := by rw [h, k]; rfl
set_option maxRecDepth 100000 in
theorem jf0 : (Rows.finiteTellsRow.wf (OpenSpec.ofChange Rows.finiteTellsSpec)) = true := by kernel_rfl
set_option maxRecDepth 100000 in
theorem jf1 : (laidOutB Tryz.prog) = true := by kernel_rfl
set_option maxRecDepth 100000 in
theorem jf2 : (mapsRowed Tryz.prog) = true := by kernel_rfl
set_option maxRecDepth 100000 in
theorem jf3 : (Tryz.f9.params.all (Tryz.prog.readableRec ·)) = true := by kernel_rfl
set_option maxRecDepth 100000 in
theorem jf4 : (namedTie Tryz.prog Rows.finiteTellsRow.named Rows.finiteTellsSpec.vars) = true := by kernel_rfl
set_option maxRecDepth 100000 in
theorem jf5 : (Rows.finiteTellsRow.stops == []) = true := by kernel_rfl
set_option maxRecDepth 100000 in
theorem jf6 : (Tryz.prog.stops == []) = true := by kernel_rfl
set_option maxRecDepth 100000 in
theorem jf7 : (Rows.finiteTellsRow.knobs == []) = true := by kernel_rfl
set_option maxRecDepth 100000 in
theorem jf8 : (Tryz.prog.stopKnobs == []) = true := by kernel_rfl
set_option maxRecDepth 100000 in
theorem jf9 : (Rows.finiteTellsRow.inPlace == Tryz.prog.inPlace 9) = true := by kernel_rfl
set_option maxRecDepth 100000 in
theorem jf10 : (Rows.finiteTellsRow.unfollowed == Tryz.prog.unfollowed 9) = true := by kernel_rfl
set_option maxRecDepth 100000 in
theorem jf11 : (Rows.finiteTellsRow.recurses == Tryz.prog.recurses 9) = true := by kernel_rfl
set_option maxRecDepth 100000 in
theorem jf12 : (Rows.finiteTellsRow.named == Tryz.prog.varsNamed 9) = true := by kernel_rfl
set_option maxRecDepth 100000 in
theorem jf13 : (Rows.finiteTellsRow.maps == (Tryz.f9.params.toList ++ Rows.finiteTellsSpec.plain.varTypes Tryz.prog).any (Tryz.prog.mapsRec ·)) = true := by kernel_rfl
set_option maxRecDepth 100000 in
theorem jf14 : (Rows.finiteTellsRow.ifaces == (Tryz.f9.params.toList ++ Rows.finiteTellsSpec.plain.varTypes Tryz.prog).any (Tryz.prog.ifacesRec ·)) = true := by kernel_rfl
set_option maxRecDepth 100000 in
theorem jf15 : (Rows.finiteTellsRow.mapsOut == Tryz.prog.mapsAmong Tryz.f9.resultTypes.toList) = true := by kernel_rfl
set_option maxRecDepth 100000 in
theorem jf16 : (Rows.finiteTellsRow.loops == (Tryz.f9.params.toList ++ Rows.finiteTellsSpec.plain.varTypes Tryz.prog).any (Tryz.prog.loopsFrom ·)) = true := by kernel_rfl
set_option maxRecDepth 100000 in
theorem jf17 : (Rows.finiteTellsRow.wideKeys == (Tryz.f9.params.toList ++ Rows.finiteTellsSpec.plain.varTypes Tryz.prog ++ Tryz.f9.resultTypes.toList).any (Tryz.prog.wideKeysFrom ·)) = true := by kernel_rfl
set_option maxRecDepth 100000 in
theorem jf18 : (Rows.finiteTellsSpec.vars.all (Tryz.prog.varReadable ·)) = true := by kernel_rfl
set_option maxRecDepth 100000 in
theorem jf19 : (Tryz.f9.resultTypes.all (fun t => Tryz.prog.readableRec t && decide (t < Tryz.prog.types.size))) = true := by kernel_rfl
set_option maxRecDepth 100000 in
theorem jf20 : (Rows.finiteTellsRow.ifacesOut == Tryz.f9.resultTypes.toList.any (Tryz.prog.ifacesRec ·)) = true := by kernel_rfl
set_option maxRecDepth 100000 in
theorem jf21 : (Rows.finiteTellsRow.loopsOut == Tryz.f9.resultTypes.toList.any (Tryz.prog.loopsFrom ·)) = true := by kernel_rfl
set_option maxRecDepth 100000 in
theorem jf22 : (Rows.finiteTellsRow.plainKeys == Tryz.prog.plainKeys) = true := by kernel_rfl
set_option maxRecDepth 100000 in
theorem jf23 : (Rows.finiteTellsRow.shortTexts.isNone) = true := by kernel_rfl
set_option maxRecDepth 100000 in
theorem jf24 : (Tryz.prog.stopsHeard) = true := by kernel_rfl
set_option maxRecDepth 100000 in
theorem jf25 : (Tryz.prog.mayEnter) = true := by kernel_rfl
set_option maxRecDepth 100000 in
theorem jf26 : (Rows.finiteTellsRow.lifted == Tryz.prog.liftsFinal) = true := by kernel_rfl
set_option maxRecDepth 100000 in
theorem jf27 : (Tryz.prog.make == some Rows.finiteTellsRow.make) = true := by kernel_rfl
set_option maxRecDepth 100000 in
theorem jf28 : (Rows.finiteTellsRow.kinds == (if Rows.finiteTellsRow.domain.isEmpty then [] else Tryz.f9.params.toList.map fun t => match Tryz.prog.underlying t with | some (.int k) => some k | _ => none)) = true := by kernel_rfl
set_option maxRecDepth 100000 in
theorem jf29 : (Rows.finiteTellsRow.pinned == Rows.finiteTellsRow.pinnedBy) = true := by kernel_rfl
set_option maxRecDepth 100000 in
theorem jf30 : (Rows.finiteTellsRow.veiled == (Tryz.f9.params.toList ++ Rows.finiteTellsSpec.plain.varTypes Tryz.prog ++ Tryz.f9.resultTypes.toList).any (Tryz.prog.veiledRec ·)) = true := by kernel_rfl
set_option maxRecDepth 100000 in
theorem jf31 : (Rows.finiteTellsRow.veiledFits Tryz.prog Tryz.f9.params.toList (Tryz.f9.params.toList ++ Rows.finiteTellsSpec.plain.varTypes Tryz.prog ++ Tryz.f9.resultTypes.toList)) = true := by kernel_rfl
set_option maxRecDepth 100000 in
theorem jfs : joinedFacts Tryz.prog 9 Tryz.f9 Rows.finiteTellsSpec Rows.finiteTellsRow = true := by
  unfold joinedFacts
  exact and2 (and2 (and2 (and2 (and2 (and2 (and2 (and2 (and2 (and2 (and2 (and2 (and2 (and2 (and2 (and2 (and2 (and2 (and2 (and2 (and2 (and2 (and2 (and2 (and2 (and2 (and2 (and2 (and2 (and2 (and2 jf0 jf1) jf2) jf3) jf4) jf5) jf6) jf7) jf8) jf9) jf10) jf11) jf12) jf13) jf14) jf15) jf16) jf17) jf18) jf19) jf20) jf21) jf22) jf23) jf24) jf25) jf26) jf27) jf28) jf29) jf30) jf31
set_option maxRecDepth 100000 in
theorem wrp : (Tryz.f9).isWrapper Tryz.prog Rows.finiteTellsRow.wrapper Rows.finiteTellsRow.mainSum := by unfold Func.isWrapper; first | (rw [if_pos (by decide +kernel)]; kernel_rfl) | (rw [if_neg (by decide +kernel)]; exact ⟨rfl, rfl⟩)
set_option maxRecDepth 100000 in
theorem ins : (Tryz.f9).isInstance Tryz.prog Rows.finiteTellsRow.origin Rows.finiteTellsRow.targs := of_decide_eq_true (by kernel_rfl)
set_option maxRecDepth 100000 in
theorem over : Rows.finiteTellsRow.holds Tryz.pinned (OpenSpec.ofChange Rows.finiteTellsSpec) :=
  OpenClaim.holds_of_wide 9 Tryz.f9 rfl rfl rfl rfl rfl rfl rfl ⟨rfl, rfl, rfl, rfl, rfl⟩ rfl rfl rfl rfl rfl (by kernel_rfl) Tryz.func9 jfs ins wrp
    (fun os started H enc _ => lifted os started H enc)
set_option maxRecDepth 100000 in
theorem pw : Rows.finiteTellsRow.wfByText (OpenSpec.ofChange Rows.finiteTellsSpec) = true := by kernel_rfl
set_option maxRecDepth 100000 in
theorem pm : Tryz.prog.mainIs = some (true, "32d8bcf38d8dbb4816f659fbc0a624916388770a4af72ab98c9ec5c1af1897c4".toList) := by kernel_rfl
set_option maxRecDepth 100000 in
theorem pn : Tryz.prog.funcNamed "lyceum/lyceumlaw11.FiniteTells" = some 9 := by kernel_rfl
set_option maxRecDepth 100000 in
theorem pl : false = Tryz.prog.looks [] := by kernel_rfl
set_option maxRecDepth 100000 in
theorem pa : ([37, 29, 51].all fun u => !Tryz.prog.wantsStandIn u) = true := by kernel_rfl
set_option maxRecDepth 100000 in
theorem pg : false = Rows.finiteTellsRow.goesBy Tryz.prog := by kernel_rfl
set_option maxRecDepth 100000 in
theorem proved : Rows.FiniteTellsCardSaid :=
  Claim7.holds_tied_plain_at .later [] [.data] true (true, "32d8bcf38d8dbb4816f659fbc0a624916388770a4af72ab98c9ec5c1af1897c4") false
    over (fun _ h => by cases h) pw (fun _ h => by cases h) finiteTells_row_tie rfl ⟨rfl, rfl⟩ pm rfl
    (fun f fn hf hfn => by
      obtain rfl : f = 9 := Option.some.inj ((pn).symm.trans hf) |>.symm
      obtain rfl : fn = Tryz.f9 := (Option.some.inj (Tryz.func9.symm.trans hfn)).symm
      exact ⟨pl, fun j t ht => by
        rw [Tryz.params9] at ht
        have hm : t ∈ [37, 29, 51] := by simpa using Array.mem_of_getElem? ht
        have hall : ([37, 29, 51].all fun u => !Tryz.prog.wantsStandIn u) = true := pa
        exact (show Tryz.prog.wantsStandIn t = false by simpa using yao.1 hall t hm)⟩)
    pg
end Go.Proofs.YtgdmldelijeaoaaGreatDoor.finiteTells

