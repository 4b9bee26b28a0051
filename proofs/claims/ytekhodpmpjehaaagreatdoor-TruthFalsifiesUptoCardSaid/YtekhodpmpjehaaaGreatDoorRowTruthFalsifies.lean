/- The law TruthFalsifies: what its walk gives, brought to the row's form. -/
import Derived.Test.YtekhodpmpjehaaaGreatDoorRows
import Derived.Test.YtekhodpmpjehaaaGreatDoorTie
import Derived.Test.YtekhodpmpjehaaaGreatDoorCards
import Derived.SevenTiedAt
import Derived.LaidMore
import Derived.Stop.Joined
import Derived.WalkKit
import Derived.ProofKit
import Derived.OpenShut
import Derived.JoinedCond
import Derived.Deep.DeepHandedRow
import Derived.Test.YtekhodpmpjehaaaGreatDoorK10
set_option linter.unusedSimpArgs false
set_option linter.unusedVariables false
namespace Go.Proofs.YtekhodpmpjehaaaGreatDoor.truthFalsifies
open Go.ChangeShapes Go.WideShapes Go.ChangeAt Go.RowKit Go.Vsi
set_option linter.unusedVariables false
theorem own : ownKnob Tryz.prog.godebug = none := by kernel_rfl
def ty24 : Ty := (.pair (.sl .fo) (.pair (.sl .fo) .unit))
theorem ty24_ok : TyOk Tryz.prog 24 ty24 := zf4 zfm 12 24 _ (by kernel_rfl)
theorem isBulk {H : Type} : IsBulk (H := H) Rows.uptoBulk Rows.uptoBulkAll where
  str b := by rw [Rows.uptoBulk]
  pos d := by
    cases d with
    | lit x => cases x <;> simp [Rows.uptoBulk]
    | _ => simp [Rows.uptoBulk]
  slice e s := by rw [Rows.uptoBulk]
  agg l := by rw [Rows.uptoBulk]
  nil := by rw [Rows.uptoBulkAll]
  cons d l := by rw [Rows.uptoBulkAll]
theorem seq_len {H : Type} {x : ty24.I} {d : DataW H} (h : ty24.dat x d) : List.length (α := Fo) x.1 + List.length (α := Fo) x.2.1 ≤ Rows.uptoBulk d := by
  obtain ⟨L, R, u⟩ := x

  obtain ⟨d0, ds1, rfl, h0, h⟩ := h
  obtain ⟨d1, ds2, rfl, h1, h⟩ := h
  have k0 := sl_len isBulk h0
  have k1 := sl_len isBulk h1
  have e := (isBulk (H := H)).agg (d0 :: d1 :: ds2)
  rw [(isBulk (H := H)).cons, (isBulk (H := H)).cons] at e
  show List.length (α := Fo) L + List.length (α := Fo) R ≤ _
  have k0 : List.length (α := Fo) L ≤ Rows.uptoBulk d0 := k0
  have k1 : List.length (α := Fo) R ≤ Rows.uptoBulk d1 := k1
  omega
theorem walk (x0 : ty24.I) (g0 : ty24.good x0) (hb : List.length (α := Fo) x0.1 + List.length (α := Fo) x0.2.1 ≤ 1048576) : VDet Tryz.prog 3 [.agg (ty24.enc x0)] [] (.bool true) := by
  obtain ⟨L, R, u⟩ := x0
  obtain ⟨gL, gR, -⟩ := g0
  exact falsifies_c L R (zda _ fun x hx => gL.2 x hx) (zda _ fun x hx => gR.2 x hx) hb []
set_option maxRecDepth 100000 in
set_option maxRecDepth 100000 in
theorem contract (H : Type) (enc : TypeId × Value → H) (W : World) (base : Nat) (args : Array Value) (ds gs : List (DataW H)) (before : List MemPlace)
    (hval : ∀ (j : Nat) t v, Tryz.f3.params[j]? = some t → args[j]? = some v → Value.okWide Tryz.prog W .any base t v)
    (hW : DataW.Whole enc Tryz.prog Tryz.f3.params.toList Rows.truthFalsifiesSpec.vars false W args.toList ds gs before) (hL : laidMetH Tryz.prog [("math/bits.deBruijn64tab", Rows.laid_math_bits_deBruijn64tab), ("lyceum/syntax.rows", Rows.laid_lyceum_syntax_rows), ("lyceum/truth.patterns", Rows.laid_lyceum_truth_patterns)] W) (hk : Rows.uptoSmall H (ds ++ gs) = true) :
    Calls Tryz.prog 3 args W fun e W' => ∃ v, e = .returned v ∧ Rows.truthFalsifiesSpec.post enc Tryz.prog Tryz.f3 false true false false W args v W' := by
  have hW' := hW
  obtain ⟨p, q, hA0, hV, rfl, hfz, hnd⟩ := hW
  have hA : DataW.TrodAll enc Tryz.prog W 0 (fun _ => true) true Tryz.f3.params.toList args.toList ds p := hA0
  rw [Tryz.params3] at hA hval
  obtain ⟨v0, vs0, d0, ds0, p0, q0, hargs, rfl, rfl, h0, s0⟩ := trodAll_cons hA
  obtain ⟨rfl, rfl, rfl⟩ := trodAll_nil s0
  obtain rfl : args = #[v0] := by cases args; simp_all
  obtain ⟨rfl, rfl⟩ := trodVars_none hV
  obtain ⟨x0, r0, g0, e0⟩ := arg_aggD (g := G.none) (fun _ _ h => h) (.inl ⟨_, Tryz.underlying24⟩) ty24_ok (hval 0 24 v0 rfl rfl) h0
  exact law_calls hW' (walk x0 g0 (by
    have h1 := seq_len e0
    have h2 : Rows.uptoBulkAll [d0] ≤ 1048576 := of_decide_eq_true hk
    have h3 : Rows.uptoBulkAll [d0] = Rows.uptoBulk d0 := by simp only [Rows.uptoBulkAll, Nat.add_zero]
    rw [h3] at h2
    exact Nat.le_trans h1 h2)) (LRel.more r0 (LRel.nil)) (gl_of_laid hL) (by kernel_rfl) (by kernel_rfl) rfl Tryz.underlying4 rfl rfl
theorem reads (os : Os) {H : Type} (enc : TypeId × Value → H) : ∃ places, DataW.whole enc Tryz.prog ((World.doorLaid Tryz.prog 400 os).forCall (fun _ _ => 0) ⟨#[], #[.agg #[.slice none 0 0, .slice none 0 0]], []⟩).memory Tryz.f3.params.toList Rows.truthFalsifiesSpec.vars false (#[.agg #[.slice none 0 0, .slice none 0 0]] : Array Value).toList 8 = some ([.agg [.nil, .nil]], [], places) :=
  ⟨[], by kernel_rfl⟩
set_option maxRecDepth 100000 in
theorem laid_met (os : Os) : laidMet Tryz.prog Rows.truthFalsifiesUptoRow.laid ((World.doorLaid Tryz.prog 400 os).forCall (fun _ _ => 0) ⟨#[], #[.agg #[.slice none 0 0, .slice none 0 0]], []⟩).memory :=
  laidMet_of_run' 8 (by kernel_rfl) (by kernel_rfl)
set_option maxRecDepth 100000 in
theorem liftedUpto (os : Os) (started : os.Started) (H : Type) (enc : TypeId × Value → H) (F : Stop.Interp) :
    ReturnsInHanded {} Tryz.checked os 3 .any ((Rows.OpenSpec.upto Rows.truthFalsifiesSpec).preRow enc Tryz.prog Tryz.f3 Rows.truthFalsifiesUptoRow.domain false Rows.truthFalsifiesUptoRow.laid) (((Rows.OpenSpec.upto Rows.truthFalsifiesSpec).at F).post enc Tryz.prog Tryz.f3 false true false false) := by
  obtain ⟨places, hx⟩ := reads os enc
  refine returnsInHanded_of_row (C := Tryz.checked) (s := Rows.OpenSpec.upto Rows.truthFalsifiesSpec) own started (by kernel_rfl) Tryz.func3
    (witness_row_at (enc := enc) (C := Tryz.checked) false (World.doorLaid Tryz.prog 400 os) #[.agg #[.slice none 0 0, .slice none 0 0]] rfl (by kernel_rfl) (by kernel_rfl) (by kernel_rfl)
      (OpenSpec.preRow_of_cond 8 hx (by kernel_rfl) (fun k hk => by cases hk; kernel_rfl) (by kernel_rfl) (laid_met os))) ?_
  intro W base args ds gs before hval hW _ hcond _ hL _ _
  exact contract H enc W base args ds gs before hval hW hL (hcond _ rfl)
set_option maxRecDepth 100000 in
theorem over : Rows.TruthFalsifiesUptoSaid :=
  OpenClaim.holds_of_cond 3 Tryz.f3 rfl rfl rfl rfl rfl rfl rfl ⟨rfl, rfl, rfl, rfl, rfl⟩ rfl rfl rfl rfl rfl (by kernel_rfl) Tryz.func3 (by kernel_rfl) (of_decide_eq_true (by kernel_rfl))
    (by unfold Func.isWrapper; first | (rw [if_pos (by decide +kernel)]; kernel_rfl) | (rw [if_neg (by decide +kernel)]; exact ⟨rfl, rfl⟩))
    (fun os started H enc _ F => by rw [OpenClaim.pre_eq_preRow]; exact liftedUpto os started H enc F)
set_option maxRecDepth 100000 in
theorem proved : Rows.TruthFalsifiesUptoCardSaid :=
  Claim7.holds_tied_plain_at .later [] [.data, .data, .data] true (true, "a6637be5577dffdf1a35b195ce76ab875f1a511a9962f1996221516297b43516") false
    over (fun _ h => by cases h) (by kernel_rfl) (fun _ h => by cases h) truthFalsifiesUpto_row_tie rfl ⟨rfl, rfl⟩ (by kernel_rfl) rfl
    (fun f fn hf hfn => by
      obtain rfl : f = 3 := Option.some.inj ((show Tryz.prog.funcNamed "lyceum/lyceumlaw10.TruthFalsifies" = some 3 by kernel_rfl).symm.trans hf) |>.symm
      obtain rfl : fn = Tryz.f3 := (Option.some.inj (Tryz.func3.symm.trans hfn)).symm
      exact ⟨by kernel_rfl, fun j t ht => by
        rw [Tryz.params3] at ht
        have hm : t ∈ [24] := by simpa using Array.mem_of_getElem? ht
        have hall : ([24].all fun u => !Tryz.prog.wantsStandIn u) = true := by kernel_rfl
        exact (show Tryz.prog.wantsStandIn t = false by simpa using List.all_eq_true.1 hall t hm)⟩)
    (by kernel_rfl)
end Go.Proofs.YtekhodpmpjehaaaGreatDoor.truthFalsifies

