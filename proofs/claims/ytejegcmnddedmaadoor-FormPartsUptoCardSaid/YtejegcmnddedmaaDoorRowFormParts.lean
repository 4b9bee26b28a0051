/- The law FormParts: what its walk gives, brought to the row's form. -/
import Derived.Test.YtejegcmnddedmaaDoorRows
import Derived.Test.YtejegcmnddedmaaDoorTie
import Derived.Test.YtejegcmnddedmaaDoorCards
import Derived.SevenTiedAt
import Derived.LaidMore
import Derived.Stop.Joined
import Derived.WalkKit
import Derived.ProofKit
import Derived.OpenShut
import Derived.JoinedCond
import Derived.Deep.DeepHandedRow
import Derived.Test.YtejegcmnddedmaaDoorK10
set_option linter.unusedSimpArgs false
set_option linter.unusedVariables false
namespace Go.Proofs.YtejegcmnddedmaaDoor.formParts
open Go.ChangeShapes Go.WideShapes Go.ChangeAt Go.RowKit Go.Vsi
set_option linter.unusedVariables false
theorem own : ownKnob Tryd.prog.godebug = none := by kernel_rfl
def ty25 : Ty := .fo
theorem ty25_ok : TyOk Tryd.prog 25 ty25 := tyOf_ok Tryd.T_ok 12 25 _ (by kernel_rfl)
theorem isBulk {H : Type} : IsBulk (H := H) Rows.uptoBulk Rows.uptoBulkAll where
  str b := by rw [Rows.uptoBulk]
  pos d := by
    cases d with
    | lit x => cases x <;> simp [Rows.uptoBulk]
    | _ => simp [Rows.uptoBulk]
  slice e s := by rw [Rows.uptoBulk]
  agg l := by rw [Rows.uptoBulk]
  nil := by rw [Rows.uptoBulkAll]
  cons d l := by rw [Rows.uptoBulkAll]
theorem seq_len {H : Type} {x : ty25.I} {d : DataW H} (h : ty25.dat x d) : Fo.blk x ≤ Rows.uptoBulk d := fo_blk isBulk h
theorem walk (x0 : ty25.I) (g0 : ty25.good x0) (hb : Fo.blk x0 ≤ 1048576) : VDet Tryd.prog 5 [.agg (ty25.enc x0)] [] (.bool true) :=
  formParts_up x0 g0 hb []
set_option maxRecDepth 100000 in
set_option maxRecDepth 100000 in
theorem contract (H : Type) (enc : TypeId × Value → H) (W : World) (base : Nat) (args : Array Value) (ds gs : List (DataW H)) (before : List MemPlace)
    (hval : ∀ (j : Nat) t v, Tryd.f5.params[j]? = some t → args[j]? = some v → Value.okWide Tryd.prog W .any base t v)
    (hW : DataW.Whole enc Tryd.prog Tryd.f5.params.toList Rows.formPartsSpec.vars false W args.toList ds gs before) (hL : laidMetH Tryd.prog [("lyceum/syntax.rows", Rows.laid_lyceum_syntax_rows)] W) (hk : Rows.uptoSmall H (ds ++ gs) = true) :
    Calls Tryd.prog 5 args W fun e W' => ∃ v, e = .returned v ∧ Rows.formPartsSpec.post enc Tryd.prog Tryd.f5 false true false false W args v W' := by
  have hW' := hW
  obtain ⟨p, q, hA0, hV, rfl, hfz, hnd⟩ := hW
  have hA : DataW.TrodAll enc Tryd.prog W 0 (fun _ => true) true Tryd.f5.params.toList args.toList ds p := hA0
  rw [Tryd.params5] at hA hval
  obtain ⟨v0, vs0, d0, ds0, p0, q0, hargs, rfl, rfl, h0, s0⟩ := trodAll_cons hA
  obtain ⟨rfl, rfl, rfl⟩ := trodAll_nil s0
  obtain rfl : args = #[v0] := by cases args; simp_all
  obtain ⟨rfl, rfl⟩ := trodVars_none hV
  obtain ⟨x0, r0, g0, e0⟩ := arg_aggD (g := G.none) (fun _ _ h => h) (.inl ⟨_, Tryd.underlying25⟩) ty25_ok (hval 0 25 v0 rfl rfl) h0
  exact law_calls hW' (walk x0 g0 (by
    have h1 := seq_len e0
    have h2 : Rows.uptoBulkAll [d0] ≤ 1048576 := of_decide_eq_true hk
    have h3 : Rows.uptoBulkAll [d0] = Rows.uptoBulk d0 := by simp only [Rows.uptoBulkAll, ybt]
    rw [h3] at h2
    exact ybd h1 h2)) (LRel.more r0 (LRel.nil)) (gl_of_laid hL) (by kernel_rfl) (by kernel_rfl) rfl Tryd.underlying4 rfl rfl
theorem reads (os : Os) {H : Type} (enc : TypeId × Value → H) : ∃ places, DataW.whole enc Tryd.prog ((World.doorLaid Tryd.prog 400 os).forCall (fun _ _ => 0) ⟨#[], #[.agg #[.int .u8 0, .string .empty, .slice none 0 0, .slice none 0 0]], []⟩).memory Tryd.f5.params.toList Rows.formPartsSpec.vars false (#[.agg #[.int .u8 0, .string .empty, .slice none 0 0, .slice none 0 0]] : Array Value).toList 8 = some ([.agg [.lit (.int .u8 0), .lit (.string []), .nil, .nil]], [], places) :=
  ⟨[], by kernel_rfl⟩
set_option maxRecDepth 100000 in
theorem laid_met (os : Os) : laidMet Tryd.prog Rows.formPartsUptoRow.laid ((World.doorLaid Tryd.prog 400 os).forCall (fun _ _ => 0) ⟨#[], #[.agg #[.int .u8 0, .string .empty, .slice none 0 0, .slice none 0 0]], []⟩).memory :=
  laidMet_of_run' 8 (by kernel_rfl) (by kernel_rfl)
set_option maxRecDepth 100000 in
theorem liftedUpto (os : Os) (started : os.Started) (H : Type) (enc : TypeId × Value → H) (F : Stop.Interp) :
    ReturnsInHanded {} Tryd.checked os 5 .any ((Rows.OpenSpec.upto Rows.formPartsSpec).preRow enc Tryd.prog Tryd.f5 Rows.formPartsUptoRow.domain false Rows.formPartsUptoRow.laid) (((Rows.OpenSpec.upto Rows.formPartsSpec).at F).post enc Tryd.prog Tryd.f5 false true false false) := by
  obtain ⟨places, hx⟩ := reads os enc
  refine returnsInHanded_of_row (C := Tryd.checked) (s := Rows.OpenSpec.upto Rows.formPartsSpec) own started (by kernel_rfl) Tryd.func5
    (witness_row_at (enc := enc) (C := Tryd.checked) false (World.doorLaid Tryd.prog 400 os) #[.agg #[.int .u8 0, .string .empty, .slice none 0 0, .slice none 0 0]] rfl (by kernel_rfl) (by kernel_rfl) (by kernel_rfl)
      (OpenSpec.preRow_of_cond 8 hx (by kernel_rfl) (fun k hk => by cases hk; kernel_rfl) (by kernel_rfl) (laid_met os))) ?_
  intro W base args ds gs before hval hW _ hcond _ hL _ _
  exact contract H enc W base args ds gs before hval hW hL (hcond _ rfl)
set_option maxRecDepth 100000 in
theorem over : Rows.FormPartsUptoSaid :=
  OpenClaim.holds_of_cond 5 Tryd.f5 rfl rfl rfl rfl rfl rfl rfl ⟨rfl, rfl, rfl, rfl, rfl⟩ rfl rfl rfl rfl rfl (by kernel_rfl) Tryd.func5 (by kernel_rfl) (of_decide_eq_true (by kernel_rfl))
    (by unfold Func.isWrapper; first | (rw [if_pos (by decide +kernel)]; kernel_rfl) | (rw [if_neg (by decide +kernel)]; exact ⟨rfl, rfl⟩))
    (fun os started H enc _ F => by rw [OpenClaim.pre_eq_preRow]; exact liftedUpto os started H enc F)
set_option maxRecDepth 100000 in
theorem proved : Rows.FormPartsUptoCardSaid :=
  Claim7.holds_tied_plain_at .later [] [.data] true (true, "a21d596a057142331e9222cda5903ab5932bdefd0dc4cf2b12a1771f52b713b4") false
    over (fun _ h => by cases h) (by kernel_rfl) (fun _ h => by cases h) formPartsUpto_row_tie rfl ⟨rfl, rfl⟩ (by kernel_rfl) rfl
    (fun f fn hf hfn => by
      obtain rfl : f = 5 := Option.some.inj ((show Tryd.prog.funcNamed "lyceum/lyceumlaw02.FormParts" = some 5 by kernel_rfl).symm.trans hf) |>.symm
      obtain rfl : fn = Tryd.f5 := (Option.some.inj (Tryd.func5.symm.trans hfn)).symm
      exact ⟨by kernel_rfl, fun j t ht => by
        rw [Tryd.params5] at ht
        have hm : t ∈ [25] := by simpa using Array.mem_of_getElem? ht
        have hall : ([25].all fun u => !Tryd.prog.wantsStandIn u) = true := by kernel_rfl
        exact (show Tryd.prog.wantsStandIn t = false by simpa using yao.1 hall t hm)⟩)
    (by kernel_rfl)
end Go.Proofs.YtejegcmnddedmaaDoor.formParts

