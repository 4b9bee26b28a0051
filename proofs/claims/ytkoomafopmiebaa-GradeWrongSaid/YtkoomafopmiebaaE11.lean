/- A text of the proof: E11. -/
import Derived.Test.YtkoomafopmiebaaE10
set_option linter.unusedSimpArgs false
set_option linter.unusedVariables false
namespace Go.Vsi

def Closed (H : Heap) : Prop := ∀ (i : Nat) B, H[i]? = some B → B.below H.length

theorem closed_of {g : G} {w : World} {H : Heap} (h : HRel g w (Hp.of H)) : Closed H := fun i B hi => by
  have hn : g.n = H.length := by rw [h.n]; simp [Hp.of]
  rw [← hn]
  exact (h.rel i B (by simpa [Hp.of, Hp.all] using hi)).belowB

mutual
theorem below_mono {m n : Nat} (hmn : m ≤ n) : ∀ (v : AV), below m v → below n v
  | .bool _, _ => by simp [below]
  | .int _ _, _ => by simp [below]
  | .str _, _ => by simp [below]
  | .nilp, _ => by simp [below]
  | .ptr _ _, h => by simp only [below] at h ⊢; omega
  | .rptr l, h => by simp only [below] at h ⊢; exact belowL_mono hmn l h
  | .nilf, _ => by simp [below]
  | .clo _ fs cs, h => by simp only [below] at h ⊢; exact ⟨belowL_mono hmn fs h.1, belowL_mono hmn cs h.2⟩
  | .nili, _ => by simp [below]
  | .ifc _ v, h => by simp only [below] at h ⊢; exact below_mono hmn v h
  | .nils, _ => by simp [below]
  | .sl tok _ l, h => by simp only [below] at h ⊢; exact ⟨fun t e => Nat.lt_of_lt_of_le (h.1 t e) hmn, belowL_mono hmn l h.2⟩
  | .ms _ _ _, h => by simp only [below] at h ⊢; omega
  | .sx _ l, h => by simp only [below] at h ⊢; exact belowL_mono hmn l h
  | .rmp ks vs, h => by simp only [below] at h ⊢; exact ⟨belowL_mono hmn ks h.1, belowL_mono hmn vs h.2⟩
  | .nilm, _ => by simp [below]
  | .mp _, h => by simp only [below] at h ⊢; omega
  | .agg l, h => by simp only [below] at h ⊢; exact belowL_mono hmn l h
  | .tup l, h => by simp only [below] at h ⊢; exact belowL_mono hmn l h
  | .junk, _ => by simp [below]
theorem belowL_mono {m n : Nat} (hmn : m ≤ n) : ∀ (l : List AV), belowL m l → belowL n l
  | [], _ => by simp [belowL]
  | v :: l, h => by simp only [belowL] at h ⊢; exact ⟨below_mono hmn v h.1, belowL_mono hmn l h.2⟩
end
theorem Blk.below_mono {m n : Nat} (hmn : m ≤ n) {B : Blk} (h : B.below m) : B.below n := by
  cases B with
  | box t l => exact belowL_mono hmn l h
  | mp ks vs => exact ⟨belowL_mono hmn ks h.1, belowL_mono hmn vs h.2⟩
  | _ => trivial

def belowE (n : Nat) : Env → Prop
  | [] => True
  | (_, v) :: e => below n v ∧ belowE n e
def belowH (n : Nat) : Heap → Prop
  | [] => True
  | B :: H => B.below n ∧ belowH n H
theorem belowE_get {n : Nat} : ∀ {env : Env}, belowE n env → ∀ s, below n (get env s)
  | [], _, s => by simp [get, below]
  | (i, v) :: e, h, s => by
    by_cases hs : i = s
    · subst hs; rw [get_put_same]; exact h.1
    · rw [get_put_ne _ _ hs]; exact belowE_get h.2 s
theorem belowH_get {n : Nat} : ∀ {H : Heap}, belowH n H → ∀ {i : Nat} {B : Blk}, H[i]? = some B → B.below n
  | [], _, i, B, hi => by simp at hi
  | C :: H, h, i, B, hi => by
    cases i with
    | zero => simp at hi; subst hi; exact h.1
    | succ i => exact belowH_get h.2 (by simpa using hi)

section
variable {P : Program} {N : Nat} {Q : Exit → Env → Hp → Prop} {env : Env} {hp hp' : Hp}

/-- this abstract state says less than that one -/
def Less (env : Env) (hp : Hp) (env' : Env) (hp' : Hp) : Prop :=
  ∀ (g : G) (w : World) (a : Act), HRel g w hp → ERel N g w env a → ∃ g', HRel g' w hp' ∧ ERel N g' w env' a ∧ Ext g w g' w

/-- blocks of the call's own are let go -/
theorem HRel.cutLoc {g : G} {w : World} {base loc0 ex : Heap} {k k0 : Nat} (h : HRel g w ⟨base, k, loc0 ++ ex⟩) (hk : loc0.length = k0) (hb : Closed base) (hl : belowH (base.length + k0) loc0) :
    HRel (g.cut (base.length + k0)) w ⟨base, k0, loc0⟩ := by
  have hall : (⟨base, k, loc0 ++ ex⟩ : Hp).all = (base ++ loc0) ++ ex := by simp [Hp.all]
  have hsub : ∀ (i : Nat) B, (base ++ loc0)[i]? = some B → (⟨base, k, loc0 ++ ex⟩ : Hp).all[i]? = some B := fun i B hi => by
    rw [hall, List.getElem?_append_left (List.getElem?_eq_some_iff.1 hi).1, hi]
  refine ⟨rfl, hk, fun i B hi => (h.rel i B (hsub i B hi)).cut ?_, h.lt, fun i hi => ?_, fun i j B C b hi hj h1 h2 => h.inj i j B C b (hsub _ _ hi) (hsub _ _ hj) h1 h2⟩
  · have hi' : (base ++ loc0)[i]? = some B := hi
    rcases Nat.lt_or_ge i base.length with hlt | hge
    · rw [List.getElem?_append_left hlt] at hi'
      exact Blk.below_mono (Nat.le_add_right _ _) (hb i B hi')
    · rw [List.getElem?_append_right hge] at hi'
      exact belowH_get hl hi'
  · have hd := h.pend i hi.1
    have hlt : i < (base ++ loc0).length := by simp only [List.length_append, hk]; exact hi.2
    rw [hall, List.getElem?_append_left hlt] at hd
    exact hd

/-- a loop over what a head says: I n env hp; at the round's end the state may say more, and may hold more blocks of the call's own -/
theorem vw_for {c : Code} {base : Heap} {k0 : Nat} (I : Nat → Env → Heap → Prop) (hcl : Closed base) (n0 : Nat) (env0 : Env) (loc0 : Heap) (h0 : I n0 env0 loc0) (hsub : subEnv env env0)
    (round : ∀ n env loc, I n env loc → VW P N c (thenQ (fun env' hp' => ∃ m env'' loc'' k' ex, m < n ∧ I m env'' loc'' ∧ subEnv env' env'' ∧ hp' = ⟨base, k', loc'' ++ ex⟩ ∧ loc''.length = k0 ∧ belowH (base.length + k0) loc'' ∧ belowE (base.length + k0) env'') Q) env ⟨base, k0, loc⟩) :
    VW P N (.loop c) Q env ⟨base, k0, loc0⟩ := by
  refine vw_env ?_ (subEnv_get hsub)
  intro g w a hH hE
  let J : Nat → Act → World → Prop := fun n a' w' => ∃ env' loc' g', I n env' loc' ∧ HRel g' w' ⟨base, k0, loc'⟩ ∧ ERel N g' w' env' a' ∧ Ext g w g' w' ∧ a'.defers = a.defers
  refine wp_loop (fun a' w' => ∃ n, J n a' w') (fun a' w' => by classical exact if h : ∃ n, J n a' w' then Classical.choose (least h) else 0) ⟨n0, env0, loc0, g, h0, hH, hE, Ext.refl g w, rfl⟩ ?_
  intro a1 w1 hex
  have hJ := (Classical.choose_spec (least hex)).1
  obtain ⟨env1, loc1, g1, hI1, hH1, hE1, hx1, hd1⟩ := hJ
  refine Code.wp_mono ?_ (round _ env1 loc1 hI1 g1 w1 a1 hH1 hE1)
  rintro e a2 w2 ⟨env2, hp2, g2, q, hH2, hE2, hx2, hd2⟩
  cases e with
  | normal =>
    obtain ⟨m, env3, loc3, k', ex, hm, hIm, hs, rfl, hk, hbl, hbe⟩ := q
    have hcut := hH2.cutLoc hk hcl hbl
    have hgn : g.n ≤ base.length + k0 := by rw [hH.n]; exact Nat.le_refl _
    have hxc := (hx1.trans hx2).cut hgn
    have hEc : ERel N (g2.cut (base.length + k0)) w2 env3 a2 := ⟨hE2.1, fun s => VRel.cut _ _ (subEnv_get hs s _ _ _ (hE2.2 s)) (belowE_get hbe s)⟩
    have hJm : J m a2 w2 := ⟨env3, loc3, _, hIm, hcut, hEc, hxc, hd2.trans hd1⟩
    have hex2 : ∃ n, J n a2 w2 := ⟨m, hJm⟩
    refine ⟨hex2, ?_⟩
    simp only [hex, hex2, dif_pos]
    exact Nat.lt_of_le_of_lt ((Classical.choose_spec (least hex2)).2 m hJm) hm
  | exit i => exact ⟨env2, hp2, g2, q, hH2, hE2, hx1.trans hx2, hd2.trans hd1⟩
  | goto l => exact ⟨env2, hp2, g2, q, hH2, hE2, hx1.trans hx2, hd2.trans hd1⟩
  | ret => exact ⟨env2, hp2, g2, q, hH2, hE2, hx1.trans hx2, hd2.trans hd1⟩
  | panic ch => exact ⟨env2, hp2, g2, q, hH2, hE2, hx1.trans hx2, hd2.trans hd1⟩
  | outgrown => exact ⟨env2, hp2, g2, q, hH2, hE2, hx1.trans hx2, hd2.trans hd1⟩

/-- as vcall_of, with what is known of the heap that comes in -/
theorem vcall_ofc {T : TypeId → Option TI} (hT : TOk P T) {f : FuncId} {fn : Func} {c : Code} {args : List AV} {H : Heap} {R : AV → Heap → Prop} (hf : P.funcs[f]? = some fn) (hnm : (fn.name == "runtime.NumGoroutine") = false) (hb : fn.body = some c)
    (hN : args.length ≤ fn.ntmps) (h : Closed H → belowL H.length args → VW P fn.ntmps c (Ends T fn.results.toList H R) (argEnv 0 args) (Hp.of H)) : VCall P f args H R := by
  refine ⟨⟨fn, hf, hnm, by simp [hb]⟩, fun g w as hH hl => ?_⟩
  have hgn : g.n = H.length := by rw [hH.n]; simp [Hp.of]
  exact (vcall_of hT hf hnm hb hN (h (closed_of hH) (hgn ▸ LRel.below _ _ hl))).2 g w as hH hl
end
end Go.Vsi
