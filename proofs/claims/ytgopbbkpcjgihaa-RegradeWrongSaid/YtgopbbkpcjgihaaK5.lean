/- A text of the proof: the parts R12, R13, R14, R16, R19, R20. -/
import Derived.Test.YtgopbbkpcjgihaaK4
set_option linter.unusedSimpArgs false
set_option linter.unusedVariables false
/-! text R12 -/
namespace Go.Vsi

theorem HRel.newTok [Glob] {g : G} {w : World} {hp : Hp} (h : HRel g w hp) (e : TypeId) (sz len : Nat) (Tk0 : Tk) (hl : Tk0.len = len) (hs : Tk0.sz = sz)
    (hb : (Tk0.base = none ∧ len = 0 ∧ Tk0.cap = 0) ∨ ∃ b cs, Tk0.base = some b ∧ w.heap[b]? = some (.cells cs e (0, 0)) ∧ cs.size = Tk0.cap * sz ∧ Tk0.cap ≤ maxLen ∧ len ≤ cs.size ∧ ∀ o, len ≤ o → g.own b o)
    (hinj : ∀ (i : Nat) B b, hp.all[i]? = some B → Tk0.base = some b → locs g i B ≠ some b) :
    ∃ g', g'.ok g.n ∧ g'.tk g.n = Tk0 ∧ HRel g' w ⟨hp.base, hp.k + 1, hp.loc ++ [.tok e sz len]⟩ ∧ Ext g w g' w := by
  let g' : G := { n := g.n + 1, blk := g.blk, tk := fun i => if i = g.n then Tk0 else g.tk i, own := g.own, pend := g.pend }
  have htk' : ∀ i, i < g.n → g'.tk i = g.tk i := fun i hi => by
    show (if i = g.n then _ else _) = _
    rw [if_neg (by omega)]
  have htk : g'.tk g.n = Tk0 := by show (if g.n = g.n then _ else _) = _; rw [if_pos rfl]
  have hnp : ¬ g.pend g.n := fun hp' => Nat.lt_irrefl g.n (by have := (List.getElem?_eq_some_iff.1 (h.pend _ hp')).1; rw [Hp.all_length h] at this; exact this)
  have hx : Ext g w g' w := ⟨Nat.le_succ _, fun _ _ h => h, fun i hi => ⟨Nat.lt_succ_of_lt hi.1, hi.2⟩, fun _ _ => rfl, fun i hi => .inl (htk' i hi.1), fun _ _ _ h => h, rfl, rfl, rfl, (by first | exact Nat.le_refl _ | exact Nat.le_succ _ | (simp; done)), Nat.le_refl _, fun _ _ _ => rfl, fun _ ds _ _ hb => ⟨ds, hb, rfl, fun _ _ => rfl⟩⟩
  have hlen := Hp.all_length h
  have hall : (⟨hp.base, hp.k + 1, hp.loc ++ [.tok e sz len]⟩ : Hp).all = hp.all ++ [.tok e sz len] := by simp [Hp.all]
  have key : ∀ (i : Nat) (B : Blk), (hp.all ++ [.tok e sz len])[i]? = some B → (i < g.n ∧ hp.all[i]? = some B) ∨ (i = g.n ∧ B = .tok e sz len) := by
    intro i B hi
    rcases Nat.lt_or_ge i hp.all.length with hlt | hge
    · rw [List.getElem?_append_left hlt] at hi
      exact .inl ⟨by omega, hi⟩
    · rw [List.getElem?_append_right hge] at hi
      have h0 : i = hp.all.length := by
        have := (List.getElem?_eq_some_iff.1 hi).1
        simp at this; omega
      subst h0
      simp at hi
      exact .inr ⟨hlen, hi.symm⟩
  refine ⟨g', ⟨Nat.lt_succ_self _, hnp⟩, htk, ⟨?_, by simp [h.k], ?_, h.lt, fun i hi => ?_, ?_, fun pp hpp => MRel.ext hx _ _ _ (h.glob pp hpp)⟩, hx⟩
  · show g.n + 1 = _
    rw [h.n]; simp [Nat.add_assoc]
  · intro i B hi
    rw [hall] at hi
    rcases key i B hi with ⟨h1, h2⟩ | ⟨rfl, rfl⟩
    · exact (h.rel i B h2).keep hx (at_ok h h2) (fun _ _ => rfl) (htk' i h1) (fun _ _ _ ho => ho)
    · refine ⟨by rw [htk]; exact hl, by rw [htk]; exact hs, ?_⟩
      rw [htk]
      exact hb
  · have := h.pend i hi
    rw [hall, List.getElem?_append_left (List.getElem?_eq_some_iff.1 this).1, this]
  · intro i j B C b hi hj hb hc
    rw [hall] at hi hj
    have hold : ∀ (i : Nat) (B : Blk), i < g.n → hp.all[i]? = some B → locs g' i B = locs g i B := fun i B hi hB => locs_keep hx (at_ok h hB) (htk' i hi)
    rcases key i B hi with ⟨i1, i2⟩ | ⟨rfl, rfl⟩
    · rw [hold i B i1 i2] at hb
      rcases key j C hj with ⟨j1, j2⟩ | ⟨rfl, rfl⟩
      · rw [hold j C j1 j2] at hc
        exact h.inj i j B C b i2 j2 hb hc
      · simp only [locs, htk] at hc
        exact absurd hb (hinj i B b i2 hc)
    · simp only [locs, htk] at hb
      rcases key j C hj with ⟨j1, j2⟩ | ⟨rfl, rfl⟩
      · rw [hold j C j1 j2] at hc
        exact absurd hc (hinj j C b j2 hb)
      · rfl

structure RoundT {σ : Type} (inv : σ → Prop) (ms : σ → Nat) (st : σ → RE) (lc : σ → Heap) (bk : RE) (n0 : Nat) (base : Heap) (k : Nat) (t : Nat) (e : TypeId) (sz : Nat) (num : σ → Nat) (cl : σ → List AV) (m : Nat) (top bot : RE) (base' : Heap) (loc' : Heap) : Prop where
  h : ∃ s' x n l L, inv s' ∧ ms s' < m ∧ subR n0 top bot (st s') ∧ subR n0 top bot bk ∧ base' = base ∧ rget2 top bot t = some (.v (.sl (some (n0 + x)) n l)) ∧ n = num s' ∧ l = cl s' ∧ k ≤ x ∧ lget loc' x = some (.tok e sz L) ∧ L = l.length ∧ (∃ ex, loc' = lc s' ++ ex) ∧ belowRE n0 (n0 + k) (st s') ∧ belowH (n0 + k) (lc s') ∧ belowL (n0 + k) (cl s')

def roundTQ {σ : Type} (inv : σ → Prop) (ms : σ → Nat) (st : σ → RE) (lc : σ → Heap) (bk : RE) (n0 : Nat) (base : Heap) (k : Nat) (t : Nat) (e : TypeId) (sz : Nat) (num : σ → Nat) (cl : σ → List AV) (m : Nat) (Q : QR) : QR := fun x top bot base' k' loc' => match x with
  | .normal => RoundT inv ms st lc bk n0 base k t e sz num cl m top bot base' loc'
  | x => Q x top bot base' k' loc'

section
variable {P : Program} {N : FN} {n0 : Nat} {T : TypeId → Option TI} {kn : TypeId → Nat}
theorem loop_T [Glob] (he : Env0 P T kn) (hm : P.follows .mixedOrders = true) {σ : Type} (inv : σ → Prop) (ms : σ → Nat) (st : σ → RE) (lc : σ → Heap) (bk : RE) (s0 : σ) (t : Nat) (e : TypeId) (sz : Nat) (num : σ → Nat) (cl : σ → List AV) {c : Code} {Q : QR} {top bot : RE} {base : Heap} {k : Nat} {loc : Heap}
    (hn : base.length = n0) (hcl : Closed base) (ts : List Nat) (hbk : pickO ts top bot = some bk) (h0 : inv s0) (hst : subR n0 top bot (st s0)) (hloc : loc = lc s0) (hlen : ∀ s, inv s → (lc s).length = k)
    (hv : rget2 top bot t = some (.v .nils)) (hnum : num s0 = 0) (hcl0 : cl s0 = [])
    (round : ∀ s, inv s → wpC P kn T N n0 c (roundTQ inv ms st lc bk n0 base k t e sz num cl (ms s) Q) ((t, .v (.sl (some (n0 + k)) (num s) (cl s))) :: st s) bk base (k + 1) (lc s ++ [.tok e sz (cl s).length])) : LoopN P kn T N n0 c Q top bot base k loc := by
  refine ⟨?_⟩
  subst hloc hn
  intro g w a hH hE
  have hgn : g.n = base.length + k := by rw [hH.n]
  have hbkb : ∀ s v, rgetO bk s = some v → below (base.length + k) (tr base.length v) := by
    intro s v hv
    have h1 := rget2_get (n0 := base.length) (pickO_get hbk hv)
    have h2 := VRel.below _ _ (hE.rel s)
    rw [h1, hgn] at h2
    exact h2
  let tv : σ → RG := fun s => .v (.sl (some (base.length + k)) (num s) (cl s))
  let J : Nat → Act → World → Prop := fun n a' w' => ∃ s g', inv s ∧ ms s = n ∧ HRel g' w' ⟨base, k + 1, lc s ++ [.tok e sz (cl s).length]⟩ ∧ ERel N g' w' (trE base.length (((t, tv s) :: st s) ++ bk)) a' ∧ Ext g w g' w' ∧ DRel w a.defers g' w' a'.defers
  have hget : ∀ (l bk : RE) (s : Nat), get (trE base.length (l ++ bk)) s = match rgetO l s with
      | some v => tr base.length v
      | none => match rgetO bk s with
        | some v => tr base.length v
        | none => .junk := by
    intro l bk s
    rw [trE_append]
    cases hl : rgetO l s with
    | some v => simp only; exact rgetO_get hl _
    | none =>
      simp only
      rw [rgetO_none hl]
      cases hb : rgetO bk s with
      | some v => simp only; have := rgetO_get (n0 := base.length) hb []; simpa using this
      | none => simp only; have := rgetO_none (n0 := base.length) hb []; simp only [List.append_nil] at this; rw [this]; rfl
  have hgetT : ∀ (s : σ) (u : Nat), get (trE base.length (((t, tv s) :: st s) ++ bk)) u = if t = u then .sl (some (base.length + k)) (num s) (cl s) else get (trE base.length (st s ++ bk)) u := by
    intro s u
    by_cases hu : t = u
    · subst hu
      rw [if_pos rfl]
      simp only [List.cons_append, trE]
      rw [get_put_same]
      rfl
    · rw [if_neg hu]
      simp only [List.cons_append, trE]
      rw [get_put_ne _ _ hu]
  -- the owner of the nil slice
  obtain ⟨g1, f1, f2, f3, f4⟩ := hH.nilTok e sz
  simp only at f3
  have hnil : VRel g1 w (.sl (some (base.length + k)) 0 []) (a.tmps.getD t undef) := by
    have h1 := hE.rel t
    rw [rget2_get hv] at h1
    simp only [tr, VRel] at h1
    rw [h1]
    simp only [VRel]
    refine ⟨none, 0, rfl, Nat.le_refl _, .inl trivial, fun u hu => ?_⟩
    cases hu
    rw [← hgn]
    refine ⟨f1, by simp, fun _ => ?_⟩
    rw [f2]
    simp
  refine LoopWp.inv (fun a' w' => ∃ n, J n a' w') (fun a' w' => by classical exact if h : ∃ n, J n a' w' then Classical.choose (least h) else 0) ⟨ms s0, s0, g1, h0, rfl, ?_, ⟨hE.1, fun s => ?_, fun i hi => f4.ok i (hE.ro i hi), fun p hp => MRel.ext f4 _ _ _ (hE.glob p hp)⟩, f4, DRel.refl _ _ _ _⟩ ?_
  · rw [hcl0]; exact f3
  · rw [hgetT]
    by_cases hs : t = s
    · subst hs
      rw [if_pos rfl, hnum, hcl0]
      exact hnil
    · rw [if_neg hs, hget]
      cases hl : rgetO (st s0) s with
      | some v => simp only; exact VRel.ext f4 _ _ (subR_get hst hl _ _ _ (hE.rel s))
      | none =>
        simp only
        cases hb : rgetO bk s with
        | some v => simp only; rw [← rget2_get (n0 := base.length) (pickO_get hbk hb)]; exact VRel.ext f4 _ _ (hE.rel s)
        | none => simp [VRel]
  intro a1 w1 hex
  have hJ := (Classical.choose_spec (least hex)).1
  obtain ⟨s1, g2, hI1, hms1, hH1, hE1, hx1, hd1⟩ := hJ
  have hr := wpC_sound he hm c _ _ _ _ _ _ rfl (round s1 hI1) g2 w1 a1 hH1 hE1
  rw [hE.fo hx1] at hr
  refine Code.wpIn_mono ?_ hr
  rintro ex a2 w2 ⟨env2, hp2, g3, ⟨top2, bot2, base2, k2, loc2, hap, rfl, hn2, q⟩, hH2, hE2, hx2, hd2⟩
  have other : ex ≠ .normal → Q ex top2 bot2 base2 k2 loc2 → Lift N (LS base.length Q) g w a.defers ex a2 w2 := fun _ hq =>
    ⟨env2, _, g3, ⟨top2, bot2, base2, k2, loc2, hap, rfl, hn2, hq⟩, hH2, hE2, hx1.trans hx2, hd1.trans hx2 hx1.size hd2⟩
  cases ex with
  | normal =>
    obtain ⟨s', x, n, l, L, hi', hms', hsub, hsb, rfl, hsl, rfl, rfl, hkx, hx, rfl, ⟨lx, rfl⟩, hb1, hb2, hb3⟩ := q
    have hlc := hlen s' hi'
    have hcut := hH2.cutLoc hlc hcl hb2
    have hxc := (hx1.trans hx2).cut (n := base2.length + k) (Nat.le_of_eq hgn)
    -- the block that the slice is cut from
    have hxat : (⟨base2, k2, lc s' ++ lx⟩ : Hp).all[base2.length + x]? = some (.tok e sz (cl s').length) := at_loc hx
    obtain ⟨b1, b2, b3⟩ := hH2.rel _ _ hxat
    have hnc : (g3.cut (base2.length + k)).n = base2.length + k := rfl
    obtain ⟨g4, p1, p2, p3, p4⟩ := hcut.newTok e sz (cl s').length (g3.tk (base2.length + x)) b1 b2 b3 (fun i B b hB hbb hloc => by
      have hlt : i < (base2 ++ lc s').length := (List.getElem?_eq_some_iff.1 hB).1
      have hB2 : (⟨base2, k2, lc s' ++ lx⟩ : Hp).all[i]? = some B := by
        have e0 : (⟨base2, k2, lc s' ++ lx⟩ : Hp).all = (base2 ++ lc s') ++ lx := by simp [Hp.all]
        rw [e0, List.getElem?_append_left hlt]
        exact hB
      have hl1 : locs g3 i B = some b := by rw [← hloc]; cases B <;> rfl
      have := hH2.inj i (base2.length + x) B _ b hB2 hxat hl1 (by simp only [locs]; exact hbb)
      simp only [List.length_append, hlc] at hlt
      omega)
    rw [hnc] at p1 p2
    simp only at p3
    have hxe := hxc.trans p4
    have hval : ∀ v c, VRel g3 w2 v c → below (base2.length + k) v → VRel g4 w2 v c := fun v c h1 h2 => VRel.ext p4 _ _ (VRel.cut _ _ h1 h2)
    have hE3 : ERel N g4 w2 (trE base2.length (((t, tv s') :: st s') ++ bk)) a2 := by
      refine ⟨hE2.1, fun s => ?_, fun i hi => hxe.ok i (hE.ro i hi), fun p hp => MRel.ext hxe _ _ _ (hE.glob p hp)⟩
      have h2 := hap s _ _ _ (hE2.rel s)
      rw [hgetT]
      by_cases hs : t = s
      · subst hs
        rw [if_pos rfl]
        rw [rget2_get hsl] at h2
        simp only [tr, VRel] at h2 ⊢
        obtain ⟨A, cap, q1, q2, q3, q4⟩ := h2
        refine ⟨A, cap, q1, q2, ?_, fun u hu => ?_⟩
        · rcases q3 with q3 | ⟨b, o, q3, q5⟩
          · exact .inl q3
          · exact .inr ⟨b, o, q3, MRel.ext p4 _ _ _ (MRel.cut _ _ _ q5 hb3)⟩
        · cases hu
          obtain ⟨u1, u2, u3⟩ := q4 _ rfl
          refine ⟨p1, ?_, ?_⟩
          · rw [p2]; exact u2
          · rw [p2]; exact u3
      · rw [if_neg hs, hget]
        cases hl : rgetO (st s') s with
        | some v => simp only; exact hval _ _ (subR_get hsub hl _ _ _ h2) (belowRE_get hb1 hl)
        | none =>
          simp only
          cases hb : rgetO bk s with
          | none => simp [VRel]
          | some v => simp only; exact hval _ _ (subR_get hsb hb _ _ _ h2) (hbkb s v hb)
    have hex2 : ∃ m, m < ms s1 ∧ J m a2 w2 := by
      refine ⟨ms s', hms', s', g4, hi', rfl, p3, hE3, hxe, ?_⟩
      obtain ⟨rs, d1, d2, d3⟩ := hd1.trans hx2 hx1.size hd2
      have hdc : DRel w a.defers (g3.cut (base2.length + k)) w2 a2.defers := ⟨rs, d1, d2, d3⟩
      exact hdc.ext p4
    obtain ⟨m, hmlt, hJm⟩ := hex2
    have hex2 : ∃ n, J n a2 w2 := ⟨m, hJm⟩
    refine ⟨hex2, ?_⟩
    simp only [hex, hex2, dif_pos]
    refine Nat.lt_of_le_of_lt ((Classical.choose_spec (least hex2)).2 m hJm) ?_
    rw [hms1] at hmlt
    exact hmlt
  | exit i => exact other (by simp) q
  | goto l => exact other (by simp) q
  | ret => exact other (by simp) q
  | panic ch => exact other (by simp) q
  | outgrown => exact other (by simp) q
end
theorem EqN.remC {m n : Nat} {x y : Int} {k : Int → Prop} (c : Nat) (hx : x = m) (hy : y = n) (h : m % n = c) (a : k c) : EqN (x.tmod y) k := by
  subst hx hy
  refine ⟨c, ?_, a⟩
  rw [Int.tmod_eq_emod_of_nonneg (by omega), ← h]
  simp
theorem EqN.addC {x y : Int} {k : Int → Prop} (m n c : Nat) (hx : x = m) (hy : y = n) (h : m + n = c) (hc : c < 9223372036854775808) (a : k c) : EqN (IntKind.i64.wrap (x + y)) k := by
  subst hx hy
  exact ⟨_, by rw [← Int.natCast_add, h]; exact w64 (by omega), a⟩
theorem EqN.shlC {b : Nat} {x y : Int} {k : Int → Prop} (m n c : Nat) (hx : x = m) (hy : y = n) (hb : Nat.ble 63 b = true) (h : m <<< n = c) (hn : n ≤ 63) (hc : c < 9223372036854775808) (a : k c) : EqN (IntKind.i64.wrap (x * 2 ^ min y.toNat b)) k :=
  EqN.shlN m n hx hy hb hn (h ▸ hc) (h.symm ▸ a)
end Go.Vsi
/-! text R13 -/
namespace Go.Vsi

def G.bare (g : G) : G := { g with own := fun _ _ => False }
theorem bare_extV (g : G) (w : World) : ExtV g w g.bare w :=
  ⟨fun _ h => h, fun _ _ => rfl, fun _ _ => .inl rfl, fun hc _ => ⟨hc, fun q => q⟩, fun hb _ => ⟨hb, fun _ q => q⟩⟩

mutual
inductive Lend (H : Heap) : AV → AV → Prop where
  | refl (v : AV) : Lend H v v
  | ptr {i o : Nat} {t : TypeId} {l l' l'' : List AV} : H[i]? = some (.box t l) → dropC o l = some l' → LendL H l' l'' → Lend H (.ptr i o) (.rptr l'')
  | ms {i o n : Nat} {t : TypeId} {l l' l'' : List AV} : H[i]? = some (.box t l) → dropC o l = some l' → LendL H l' l'' → Lend H (.ms i o n) (.sl none n l'')
  | vs {i n sz : Nat} {e : TypeId} {l l' : List AV} : H[i]? = some (.vec e sz l) → l.length = n * sz → LendL H l l' → Lend H (.vs i n) (.sl none n l')
  | agg {l l' : List AV} : LendL H l l' → Lend H (.agg l) (.agg l')
  | tup {l l' : List AV} : LendL H l l' → Lend H (.tup l) (.tup l')
inductive LendL (H : Heap) : List AV → List AV → Prop where
  | nil : LendL H [] []
  | cons {v v' : AV} {l l' : List AV} : Lend H v v' → LendL H l l' → LendL H (v :: l) (v' :: l')
end
theorem LendL.refl {H : Heap} : ∀ l : List AV, LendL H l l
  | [] => .nil
  | v :: l => .cons (.refl v) (LendL.refl l)

mutual
theorem Lend.rel [Glob] {g : G} {w : World} {H : Heap} (hH : HRel g w (Hp.of H)) : ∀ {v v' : AV}, Lend H v v' → ∀ c, VRel g w v c → VRel g.bare w v' c
  | _, _, .refl v, c, h => VRel.extV (bare_extV _ _) v c h
  | _, _, @Lend.ptr _ i o t l l' l'' h1 h2 h3, c, h => by
    simp only [VRel] at h ⊢
    obtain ⟨hok, rfl⟩ := h
    obtain ⟨cs, e1, e2, e3⟩ := hH.rel i _ (by simpa [Hp.of, Hp.all] using h1)
    obtain ⟨hd1, hd2⟩ := dropC_eq _ _ _ h2
    have e2' := e2.drop o
    rw [hd1] at e2'
    have e4 := LendL.rel hH h3 _ e2'
    refine ⟨_, _, rfl, MRel.mk fun q v hq => ?_⟩
    obtain ⟨c', q1, q2⟩ := e4.get hq
    rw [List.getElem?_drop] at q1
    exact ⟨c', cell_iff.2 ⟨cs, t, _, e1, by simpa using q1⟩, q2, fun ho => ho⟩
  | _, _, @Lend.ms _ i o n t l l' l'' h1 h2 h3, c, h => by
    simp only [VRel] at h ⊢
    obtain ⟨hok, cap, hn, rfl⟩ := h
    obtain ⟨cs, e1, e2, e3⟩ := hH.rel i _ (by simpa [Hp.of, Hp.all] using h1)
    obtain ⟨hd1, hd2⟩ := dropC_eq _ _ _ h2
    have e2' := e2.drop o
    rw [hd1] at e2'
    have e4 := LendL.rel hH h3 _ e2'
    refine ⟨_, _, rfl, hn, .inr ⟨_, _, rfl, MRel.mk fun q v hq => ?_⟩, fun t e => by cases e⟩
    obtain ⟨c', q1, q2⟩ := e4.get hq
    rw [List.getElem?_drop] at q1
    exact ⟨c', cell_iff.2 ⟨cs, t, _, e1, by simpa using q1⟩, q2, fun ho => ho⟩
  | _, _, @Lend.vs _ i n sz e l l' h1 h2 h3, c, h => by
    simp only [VRel] at h ⊢
    obtain ⟨hok, hle, A, cap, rfl, hnc, hA⟩ := h
    obtain ⟨r1, r2, r3⟩ := hH.rel i _ (by simpa [Hp.of, Hp.all] using h1)
    obtain ⟨hA, -⟩ := hA (by rw [r1, r2, h2])
    refine ⟨_, _, rfl, hnc, ?_, fun t e => by cases e⟩
    rcases r3 with ⟨-, q, -⟩ | ⟨b, cs, q1, q2, q3, q4, q5, q6, q7⟩
    · subst q
      cases h3
      exact .inl rfl
    · right
      rw [q1] at hA
      have e4 := LendL.rel hH h3 _ q6
      refine ⟨b, 0, hA, MRel.mk fun q v hq => ?_⟩
      obtain ⟨c', p1, p2⟩ := e4.get hq
      rw [List.getElem?_take] at p1
      split at p1
      · exact ⟨c', cell_iff.2 ⟨cs, e, _, q2, by simpa using p1⟩, p2, fun ho => ho⟩
      · cases p1
  | _, _, .agg h1, c, h => by
    simp only [VRel] at h ⊢
    obtain ⟨cs, hc, e1⟩ := h
    exact ⟨cs, hc, LendL.rel hH h1 _ e1⟩
  | _, _, .tup h1, c, h => by
    simp only [VRel] at h ⊢
    obtain ⟨cs, hc, e1⟩ := h
    exact ⟨cs, hc, LendL.rel hH h1 _ e1⟩
theorem LendL.rel [Glob] {g : G} {w : World} {H : Heap} (hH : HRel g w (Hp.of H)) : ∀ {l l' : List AV}, LendL H l l' → ∀ cs, LRel g w l cs → LRel g.bare w l' cs
  | _, _, .nil, cs, h => by simpa [LRel] using h
  | _, _, .cons h1 h2, cs, h => by
    simp only [LRel] at h ⊢
    obtain ⟨c, r, hc, e1, e2⟩ := h
    exact ⟨c, r, hc, Lend.rel hH h1 _ e1, LendL.rel hH h2 _ e2⟩
end

mutual
def flatV : AV → Bool
  | .bool _ => true
  | .int _ _ => true
  | .str _ => true
  | .nilp => true
  | .nilf => true
  | .nili => true
  | .nils => true
  | .nilm => true
  | .agg l => flatL l
  | .tup l => flatL l
  | _ => false
def flatL : List AV → Bool
  | [] => true
  | v :: l => flatV v && flatL l
end
mutual
theorem flat_rel {g g' : G} {w : World} : ∀ {v : AV}, flatV v = true → ∀ {c}, VRel g' w v c → VRel g w v c
  | .bool _, _, _, h => by simpa [VRel] using h
  | .int _ _, _, _, h => by simpa [VRel] using h
  | .str _, _, _, h => by simpa [VRel] using h
  | .nilp, _, _, h => by simpa [VRel] using h
  | .nilf, _, _, h => by simpa [VRel] using h
  | .nili, _, _, h => by simpa [VRel] using h
  | .nils, _, _, h => by simpa [VRel] using h
  | .nilm, _, _, h => by simpa [VRel] using h
  | .agg l, hf, _, h => by
    simp only [VRel] at h ⊢
    obtain ⟨cs, hc, e⟩ := h
    exact ⟨cs, hc, flat_relL (by simpa [flatV] using hf) e⟩
  | .tup l, hf, _, h => by
    simp only [VRel] at h ⊢
    obtain ⟨cs, hc, e⟩ := h
    exact ⟨cs, hc, flat_relL (by simpa [flatV] using hf) e⟩
theorem flat_relL {g g' : G} {w : World} : ∀ {l : List AV}, flatL l = true → ∀ {cs}, LRel g' w l cs → LRel g w l cs
  | [], _, _, h => by simpa [LRel] using h
  | v :: l, hf, _, h => by
    simp only [flatL, Bool.and_eq_true] at hf
    simp only [LRel] at h ⊢
    obtain ⟨c, r, hc, e1, e2⟩ := h
    exact ⟨c, r, hc, flat_rel hf.1 e1, flat_relL hf.2 e2⟩
end

theorem VDet.lend [Glob] {P : Program} {F : FuncId} {as as' : List AV} {H : Heap} {v : AV} (h : ∀ H, VDet P F as' H v) (hl : LendL H as as') (hv : flatV v = true) : VDet P F as H v := by
  refine ⟨(h []).1, fun g w cs hH hL => ?_⟩
  have hlen : g.n = H.length := by have := hH.n; simpa [Hp.of] using this
  have hH1 : HRel g.bare w (Hp.of (List.replicate H.length .dead)) := by
    have hrep : ∀ (i : Nat) B, (List.replicate H.length Blk.dead)[i]? = some B → B = .dead := fun i B hi => by
      rw [List.getElem?_replicate] at hi
      split at hi
      · cases hi; rfl
      · cases hi
    refine ⟨by simp [Hp.of, G.bare, hlen], rfl, fun i B hi => ?_, fun _ _ q => q.elim, fun i hi => ?_, fun i j B C b hi _ hb _ => ?_, fun p hp => MRel.extV (bare_extV g w) _ _ _ (hH.glob p hp)⟩
    · rw [hrep i B (by simpa [Hp.of, Hp.all] using hi)]; trivial
    · have := hH.pend i hi
      have hi' : i < H.length := by simpa [Hp.of, Hp.all] using (List.getElem?_eq_some_iff.1 this).1
      simp [Hp.of, Hp.all, List.getElem?_replicate, hi']
    · rw [hrep i B (by simpa [Hp.of, Hp.all] using hi)] at hb; cases hb
  refine ((h _).2 g.bare w cs hH1 (LendL.rel hH hl _ hL)).mono ?_
  rintro e w' ⟨r, H', g', c, rfl, ⟨rfl, rfl⟩, -, hv', hx'⟩
  have hsame : ∀ b, b < w.heap.size → w'.heap[b]? = w.heap[b]? := fun b hb => hx'.same b hb fun _ q => q
  have hx : Ext g w g w' := ⟨Nat.le_refl _, fun _ _ h => h, fun _ h => h, fun _ _ => rfl, fun _ _ => .inl rfl, fun _ _ _ h => h, hx'.os, hx'.tape, hx'.output, hx'.drawn, hx'.size, fun b hb _ => hsame b hb, fun b cs t fz hb => ⟨cs, by rw [hsame b (lt_size hb)]; exact hb, rfl, fun _ _ => rfl⟩⟩
  exact ⟨_, H, g, c, rfl, ⟨rfl, rfl⟩, hH.keepAll hx hsame, flat_rel hv hv', hx⟩

theorem MRel.pre {g : G} {w : World} : ∀ {l m : List AV} {b o : Nat}, MRel g w (l ++ m) b o → MRel g w l b o
  | [], _, _, _, _ => by simp [MRel]
  | v :: l, m, b, o, h => by
    simp only [List.cons_append, MRel] at h ⊢
    exact ⟨h.1, MRel.pre h.2⟩
theorem wk_pre (n : Nat) (l m : List AV) : Wk (.sl none n (l ++ m)) (.sl none n l) := fun g w c h => by
  simp only [VRel] at h ⊢
  obtain ⟨A, cap, h1, h2, h3, h4⟩ := h
  refine ⟨A, cap, h1, h2, ?_, fun t e => by cases e⟩
  rcases h3 with h3 | ⟨b, o, h3, h5⟩
  · exact .inl (List.append_eq_nil_iff.1 h3).1
  · exact .inr ⟨b, o, h3, h5.pre⟩
theorem CallN.more [Glob] {P : Program} {F : FuncId} {as : List AV} {n0 : Nat} {base loc : Heap} {k : Nat} {K : AV → Heap → Nat → Heap → Prop} {ι : Type} (v : ι → AV) (X : ι → Heap) (h : VCall P F as (base ++ loc) fun r H' => ∃ s, r = v s ∧ H' = (base ++ loc) ++ X s) (hn : base.length = n0) (loc2 : ι → Heap) (hl : ∀ s, loc ++ X s = loc2 s) (k2 : Nat) (hk : ∀ s, (loc2 s).length = k2) (a : ∀ s, K (v s) base k2 (loc2 s)) : CallN P (.func F) as n0 base k loc K :=
  .gen _ h fun r H' ⟨s, h1, h2⟩ => ⟨base, k2, loc2 s, by rw [h2, ← hl s, List.append_assoc], hk s, hn, h1 ▸ a s⟩
end Go.Vsi
/-! text R14 -/
namespace Go.Vsi

theorem HRel.newTok0 [Glob] {g : G} {w : World} {hp : Hp} (h : HRel g w hp) (e : TypeId) (sz cap : Nat) (cs : Array Value) (hcs : cs.size = cap * sz) (hcap : cap ≤ maxLen) :
    ∃ g', g'.ok g.n ∧ g'.tk g.n = ⟨0, sz, cap, some w.heap.size⟩ ∧ HRel g' (w.drew.alloc (.cells cs e)) ⟨hp.base, hp.k + 1, hp.loc ++ [.tok e sz 0]⟩ ∧ Ext g w g' (w.drew.alloc (.cells cs e)) := by
  let g' : G := { n := g.n + 1, blk := g.blk, tk := fun i => if i = g.n then ⟨0, sz, cap, some w.heap.size⟩ else g.tk i, own := fun b o => g.own b o ∨ b = w.heap.size, pend := g.pend }
  have hok : ∀ i, g.ok i → g'.ok i := fun i hi => ⟨Nat.lt_succ_of_lt hi.1, hi.2⟩
  have htk' : ∀ i, i < g.n → g'.tk i = g.tk i := fun i hi => by
    show (if i = g.n then _ else _) = _
    rw [if_neg (by omega)]
  have htk : g'.tk g.n = ⟨0, sz, cap, some w.heap.size⟩ := by show (if g.n = g.n then _ else _) = _; rw [if_pos rfl]
  have hold : ∀ b, b < w.heap.size → (w.drew.alloc (.cells cs e)).heap[b]? = w.heap[b]? := fun b hb => hao w.drew _ hb
  have hsz : (w.drew.alloc (.cells cs e)).heap.size = w.heap.size + 1 := by show (w.drew.heap.push _).size = _; rw [Array.size_push]; rfl
  have hx : Ext g w g' (w.drew.alloc (.cells cs e)) := by
    refine ⟨Nat.le_succ _, fun _ _ h => h, hok, fun i hi => rfl, fun i hi => .inl (htk' i hi.1), fun b o hb ho => ?_, rfl, rfl, rfl, (by first | exact Nat.le_refl _ | exact Nat.le_succ _ | (simp; done)), ?_, fun b hb _ => hold b hb, fun b ds u fz hb => ⟨ds, ?_, rfl, fun _ _ => rfl⟩⟩
    · rcases ho with ho | ho
      · exact ho
      · omega
    · show w.heap.size ≤ (w.drew.alloc (.cells cs e)).heap.size
      rw [hsz]; omega
    · rw [hold _ (lt_size hb), hb]
  have hokn : g'.ok g.n := ⟨Nat.lt_succ_self _, fun hp' => Nat.lt_irrefl g.n (by have := (List.getElem?_eq_some_iff.1 (h.pend _ hp')).1; rw [Hp.all_length h] at this; exact this)⟩
  have hall : (⟨hp.base, hp.k + 1, hp.loc ++ [.tok e sz 0]⟩ : Hp).all = hp.all ++ [.tok e sz 0] := by simp [Hp.all]
  have hlen := Hp.all_length h
  refine ⟨g', hokn, htk, ⟨?_, by simp [h.k], ?_, ?_, ?_, ?_, fun p hp' => MRel.ext hx _ _ _ (h.glob p hp')⟩, hx⟩
  · show g.n + 1 = _
    rw [h.n]; simp [Nat.add_assoc]
  · intro i C hi
    rw [hall] at hi
    rcases Nat.lt_or_ge i hp.all.length with hlt | hge
    · rw [List.getElem?_append_left hlt] at hi
      have hC := h.rel i C hi
      exact hC.keep hx (at_ok h hi) (fun b hb => hold b (hC.loc_lt hb)) (htk' i (by omega)) (fun _ _ _ ho => .inl ho)
    · rw [List.getElem?_append_right hge] at hi
      have : i = hp.all.length := by
        have := (List.getElem?_eq_some_iff.1 hi).1
        simp at this; omega
      subst this
      simp at hi
      subst hi
      rw [hlen]
      refine ⟨by rw [htk], by rw [htk], .inr ⟨w.heap.size, cs, by rw [htk], heap_alloc_new w.drew _, by rw [htk]; exact hcs, by rw [htk]; exact hcap, Nat.zero_le _, fun o _ => .inr rfl⟩⟩
  · rintro b o (ho | ho)
    · have := h.lt b o ho
      rw [hsz]; omega
    · rw [hsz]; omega
  · intro i hi
    have := h.pend i hi
    rw [hall, List.getElem?_append_left (List.getElem?_eq_some_iff.1 this).1, this]
  · intro i j C D b hi hj hbi hbj
    rw [hall] at hi hj
    have key : ∀ (i : Nat) (C : Blk) (b : Nat), (hp.all ++ [.tok e sz 0])[i]? = some C → locs g' i C = some b →
        (i < hp.all.length ∧ hp.all[i]? = some C ∧ locs g i C = some b ∧ b < w.heap.size) ∨ (i = hp.all.length ∧ b = w.heap.size) := by
      intro i C b hi hb
      rcases Nat.lt_or_ge i hp.all.length with hlt | hge
      · rw [List.getElem?_append_left hlt] at hi
        rw [locs_keep hx (at_ok h hi) (htk' i (by omega))] at hb
        exact .inl ⟨hlt, hi, hb, (h.rel i C hi).loc_lt hb⟩
      · rw [List.getElem?_append_right hge] at hi
        have : i = hp.all.length := by
          have := (List.getElem?_eq_some_iff.1 hi).1
          simp at this; omega
        subst this
        simp at hi
        subst hi
        refine .inr ⟨rfl, ?_⟩
        simp only [locs] at hb
        rw [hlen, htk, Option.some.injEq] at hb
        exact hb.symm
    rcases key i C b hi hbi with ⟨h1, h2, h3, h4⟩ | ⟨h1, h2⟩ <;> rcases key j D b hj hbj with ⟨k1, k2, k3, k4⟩ | ⟨k1, k2⟩
    · exact h.inj i j C D b h2 k2 h3 k3
    · omega
    · omega
    · omega
theorem storeS_box {T : TypeId → Option TI} {t u : TypeId} {loc : Heap} {j o : Nat} {v : AV} {ti : TI} {l l' vs : List AV} (hv : cellsS v = some vs) (ht : T t = some ti) (hs : Nat.beq vs.length ti.sz = true) (hj : lget loc j = some (.box u l)) (hk : setC l o vs = some l') :
    storeS T t loc (some (.lp j o)) (some v) = .upd j (.box u l') none := by
  simp only [storeS, hv, ht, hs, hj, hk]
theorem OrN.natL {i : Int} {k : Nat → Prop} {B : Prop} (h : NatN i k) : OrN (NatN i k) B := .l h
theorem OrN.natR {i c : Int} {k k2 : Nat → Prop} (h : NatN c k2) : OrN (NatN i k) (NatN c k2) := .r h
end Go.Vsi
/-! text R16 -/
namespace Go.Vsi

theorem HRel.split [Glob] {g : G} {w : World} {H loc : Heap} (h : HRel g w (Hp.of (H ++ loc))) : HRel g w ⟨H, loc.length, loc⟩ :=
  ⟨by rw [h.n]; simp [Hp.of], rfl, by simpa [Hp.of, Hp.all] using h.rel, h.lt, by simpa [Hp.of, Hp.all] using h.pend, by simpa [Hp.of, Hp.all] using h.inj, h.glob⟩

theorem HRel.forget [Glob] {g : G} {w : World} {base : Heap} {k : Nat} {loc : Heap} (h : HRel g w ⟨base, k, loc⟩) (j : Nat) : HRel g w ⟨base, k, loc.set j .dead⟩ := by
  have key : ∀ (i : Nat) (B : Blk), (⟨base, k, loc.set j .dead⟩ : Hp).all[i]? = some B → B = .dead ∨ (⟨base, k, loc⟩ : Hp).all[i]? = some B := by
    intro i B hi
    unfold Hp.all at hi ⊢
    simp only at hi ⊢
    rcases Nat.lt_or_ge i base.length with hlt | hge
    · rw [List.getElem?_append_left hlt] at hi ⊢
      exact .inr hi
    · rw [List.getElem?_append_right hge] at hi ⊢
      rw [List.getElem?_set] at hi
      split at hi
      · split at hi
        · cases hi; exact .inl rfl
        · cases hi
      · exact .inr hi
  refine ⟨h.n, by simpa using h.k, fun i B hi => ?_, h.lt, fun i hi => ?_, fun i1 i2 B C b h1 h2 hb hc => ?_, h.glob⟩
  · rcases key i B hi with rfl | h'
    · trivial
    · exact h.rel i B h'
  · have hd := h.pend i hi
    unfold Hp.all at hd ⊢
    simp only at hd ⊢
    rcases Nat.lt_or_ge i base.length with hlt | hge
    · rw [List.getElem?_append_left hlt] at hd ⊢
      exact hd
    · rw [List.getElem?_append_right hge] at hd ⊢
      rw [List.getElem?_set]
      split
      · rename_i e
        rw [if_pos]
        rw [e]
        exact (List.getElem?_eq_some_iff.1 hd).1
      · exact hd
  · rcases key i1 B h1 with rfl | h1'
    · cases hb
    · rcases key i2 C h2 with rfl | h2'
      · cases hc
      · exact h.inj i1 i2 B C b h1' h2' hb hc

mutual
inductive Kp (n0 : Nat) (loc : Heap) (j : Nat) : AV → AV → Prop where
  | low (v : AV) : below n0 v → Kp n0 loc j v v
  | frz {v v' : AV} : Frz n0 (loc.set j .dead) v v' → below n0 v' → Kp n0 loc j v v'
  | ms {o n : Nat} {t : TypeId} {l : List AV} : loc[j]? = some (.box t l) → Kp n0 loc j (.ms (n0 + j) o n) (.ms n0 o n)
  | vs {n sz : Nat} {e : TypeId} {l : List AV} : loc[j]? = some (.vec e sz l) → l.length = n * sz → 0 < n * sz → Kp n0 loc j (.vs (n0 + j) n) (.ms n0 0 n)
  | vv {n sz : Nat} {e : TypeId} {l : List AV} : loc[j]? = some (.vec e sz l) → l.length = n * sz → Kp n0 loc j (.vs (n0 + j) n) (.vs n0 n)
  | agg {l l' : List AV} : KpL n0 loc j l l' → Kp n0 loc j (.agg l) (.agg l')
  | tup {l l' : List AV} : KpL n0 loc j l l' → Kp n0 loc j (.tup l) (.tup l')
  | sl {tok : Option Nat} {n : Nat} {l l' : List AV} : KpL n0 loc j l l' → Kp n0 loc j (.sl tok n l) (.sl none n l')
inductive KpL (n0 : Nat) (loc : Heap) (j : Nat) : List AV → List AV → Prop where
  | nil : KpL n0 loc j [] []
  | cons {v v' : AV} {l l' : List AV} : Kp n0 loc j v v' → KpL n0 loc j l l' → KpL n0 loc j (v :: l) (v' :: l')
end

def G.one (g : G) (n0 : Nat) (loc : Heap) (j b : Nat) : G :=
  { (g.frz n0 (loc.set j .dead)).cut n0 with n := n0 + 1, blk := fun i => if i = n0 then b else g.blk i, tk := fun i => if i = n0 then g.tk (n0 + j) else g.tk i }

theorem one_extV {g : G} {n0 : Nat} {loc : Heap} {j b : Nat} (w : World) : ExtV ((g.frz n0 (loc.set j .dead)).cut n0) w (g.one n0 loc j b) w :=
  ⟨fun i hi => ⟨Nat.lt_succ_of_lt hi.1, hi.2⟩, fun i hi => by
    have : i ≠ n0 := Nat.ne_of_lt hi.1
    show (if i = n0 then b else g.blk i) = g.blk i
    rw [if_neg this], fun i hi => .inl (by
    have : i ≠ n0 := Nat.ne_of_lt hi.1
    show (if i = n0 then g.tk (n0 + j) else g.tk i) = g.tk i
    rw [if_neg this]), fun hc ho => ⟨hc, ho⟩, fun hb ho => ⟨hb, ho⟩⟩

mutual
theorem Kp.rel [Glob] {g : G} {w : World} {base : Heap} {k : Nat} {loc : Heap} {j b : Nat} {B : Blk} (hH : HRel g w ⟨base, k, loc⟩) (hj : loc[j]? = some B) (hb : locs g (base.length + j) B = some b) : ∀ {v v' : AV}, Kp base.length loc j v v' → ∀ c, VRel g w v c → VRel (g.one base.length loc j b) w v' c
  | _, _, .low v hv, c, h => VRel.extV (one_extV w) _ _ (VRel.cut _ _ (VRel.extV (frz_extV g w base.length (loc.set j .dead)) _ _ h) hv)
  | _, _, .frz hf hv, c, h => VRel.extV (one_extV w) _ _ (VRel.cut _ _ (hf.rel (hH.forget j) c h) hv)
  | _, _, @Kp.ms _ _ _ o n t l h1, c, h => by
    rw [hj] at h1
    cases h1
    simp only [locs, Option.some.injEq] at hb
    simp only [VRel] at h ⊢
    obtain ⟨hok, cap, hn, rfl⟩ := h
    refine ⟨⟨Nat.lt_succ_self _, fun q => Nat.lt_irrefl _ q.2⟩, cap, hn, ?_⟩
    have : (g.one base.length loc j b).blk base.length = b := by show (if _ = _ then b else _) = b; rw [if_pos rfl]
    rw [this, hb]
  | _, _, @Kp.vs _ _ _ n sz e l h1 h2 h3, c, h => by
    rw [hj] at h1
    cases h1
    simp only [locs] at hb
    have hat : (⟨base, k, loc⟩ : Hp).all[base.length + j]? = some (.vec e sz l) := at_loc (by rw [lget_eq]; exact hj)
    obtain ⟨q1, q2, q3⟩ := hH.rel _ _ hat
    simp only [VRel] at h ⊢
    obtain ⟨hok, hle, A, cap, rfl, hn, hA⟩ := h
    obtain ⟨r1, r2⟩ := hA (by rw [q1, q2, h2])
    refine ⟨⟨Nat.lt_succ_self _, fun q => Nat.lt_irrefl _ q.2⟩, cap, hn, ?_⟩
    have : (g.one base.length loc j b).blk base.length = b := by show (if _ = _ then b else _) = b; rw [if_pos rfl]
    rw [this, r1, hb]
    rfl
  | _, _, @Kp.vv _ _ _ n sz e l h1 h2, c, h => by
    have hat : (⟨base, k, loc⟩ : Hp).all[base.length + j]? = some (.vec e sz l) := at_loc (by rw [lget_eq]; exact h1)
    obtain ⟨q1, q2, q3⟩ := hH.rel _ _ hat
    have htk : (g.one base.length loc j b).tk base.length = g.tk (base.length + j) := by show (if _ = _ then _ else _) = _; rw [if_pos rfl]
    simp only [VRel] at h ⊢
    obtain ⟨hok, hle, A, cap, rfl, hn, hA⟩ := h
    exact ⟨⟨Nat.lt_succ_self _, fun q => Nat.lt_irrefl _ q.2⟩, by rw [htk]; exact hle, A, cap, rfl, hn, fun e => by rw [htk] at e ⊢; exact hA e⟩
  | _, _, .agg h1, c, h => by
    simp only [VRel] at h ⊢
    obtain ⟨cs, hc, e1⟩ := h
    exact ⟨cs, hc, KpL.rel hH hj hb h1 _ e1⟩
  | _, _, .tup h1, c, h => by
    simp only [VRel] at h ⊢
    obtain ⟨cs, hc, e1⟩ := h
    exact ⟨cs, hc, KpL.rel hH hj hb h1 _ e1⟩
  | _, _, @Kp.sl _ _ _ tok n l l' h1, c, h => by
    simp only [VRel] at h ⊢
    obtain ⟨A, cap, hc, hn, hm, -⟩ := h
    refine ⟨A, cap, hc, hn, ?_, fun t e => by cases e⟩
    rcases hm with rfl | ⟨b', o, hA, hm⟩
    · cases h1; exact .inl rfl
    · exact .inr ⟨b', o, hA, KpL.mrel hH hj hb h1 b' o hm⟩
theorem KpL.rel [Glob] {g : G} {w : World} {base : Heap} {k : Nat} {loc : Heap} {j b : Nat} {B : Blk} (hH : HRel g w ⟨base, k, loc⟩) (hj : loc[j]? = some B) (hb : locs g (base.length + j) B = some b) : ∀ {l l' : List AV}, KpL base.length loc j l l' → ∀ cs, LRel g w l cs → LRel (g.one base.length loc j b) w l' cs
  | _, _, .nil, cs, h => by simpa [LRel] using h
  | _, _, .cons h1 h2, cs, h => by
    simp only [LRel] at h ⊢
    obtain ⟨c, r, hc, e1, e2⟩ := h
    exact ⟨c, r, hc, Kp.rel hH hj hb h1 c e1, KpL.rel hH hj hb h2 r e2⟩
theorem KpL.mrel [Glob] {g : G} {w : World} {base : Heap} {k : Nat} {loc : Heap} {j b : Nat} {B : Blk} (hH : HRel g w ⟨base, k, loc⟩) (hj : loc[j]? = some B) (hb : locs g (base.length + j) B = some b) : ∀ {l l' : List AV}, KpL base.length loc j l l' → ∀ b' o, MRel g w l b' o → MRel (g.one base.length loc j b) w l' b' o
  | _, _, .nil, b', o, h => by simp [MRel]
  | _, _, .cons h1 h2, b', o, h => by
    simp only [MRel] at h ⊢
    obtain ⟨⟨c, e1, e2, e3⟩, e4⟩ := h
    exact ⟨⟨c, e1, Kp.rel hH hj hb h1 c e2, fun q => e3 q.1⟩, KpL.mrel hH hj hb h2 b' (o + 1) e4⟩
end

theorem LRel.spare {g : G} {w : World} {l : List AV} {cs : List Value} (h : LRel g w l (cs.take l.length)) (hl : l.length ≤ cs.length) : LRel g w (l ++ List.replicate (cs.length - l.length) .junk) cs := by
  refine LRel.mk (by simp; omega) fun q v c hv hc => ?_
  rcases Nat.lt_or_ge q l.length with hlt | hge
  · rw [List.getElem?_append_left hlt] at hv
    obtain ⟨c', q1, q2⟩ := h.get hv
    rw [List.getElem?_take, if_pos hlt, hc] at q1
    cases q1
    exact q2
  · rw [List.getElem?_append_right hge, List.getElem?_replicate] at hv
    split at hv
    · cases hv; simp [VRel]
    · cases hv

inductive OneB (n0 : Nat) (loc : Heap) (j : Nat) (t : TypeId) (l' : List AV) : Prop where
  | box {l : List AV} : loc[j]? = some (.box t l) → KpL n0 loc j l l' → OneB n0 loc j t l'
  | vec {l : List AV} {sz : Nat} : loc[j]? = some (.vec t sz l) → 0 < l.length → KpL n0 loc j l l' → OneB n0 loc j t l'

theorem KpL.length {n0 : Nat} {loc : Heap} {j : Nat} : ∀ {l l' : List AV}, KpL n0 loc j l l' → l'.length = l.length
  | _, _, .nil => rfl
  | _, _, .cons _ h => by simp [h.length]

theorem VCall.oneG [Glob] {P : Program} {F : FuncId} {as : List AV} {H : Heap} {ι : Type} {u u' : ι → AV} {loc : ι → Heap} {j : Nat} {Po : ι → Blk → Prop}
    (h : VCall P F as H fun r H' => ∃ i, r = u i ∧ H' = H ++ loc i) (hu : ∀ i, Kp H.length (loc i) j (u i) (u' i))
    (ho : ∀ i (g : G) (w : World), HRel g w ⟨H, (loc i).length, loc i⟩ → ∃ B b, (loc i)[j]? = some B ∧ locs g (H.length + j) B = some b ∧ (∀ o, g.own b o) ∧ ((∀ o, (g.one H.length (loc i) j b).own b o) → ∃ B', Po i B' ∧ BRel (g.one H.length (loc i) j b) w H.length B' ∧ locs (g.one H.length (loc i) j b) H.length B' = some b)) :
    VCall P F as H fun r H' => ∃ i B', r = u' i ∧ Po i B' ∧ H' = H ++ [B'] := by
  refine ⟨h.1, fun g w cs hH hL => (h.2 g w cs hH hL).mono ?_⟩
  rintro e w' ⟨r, H', g', c, rfl, ⟨i, rfl, rfl⟩, hH', hv, hx⟩
  have hs := hH'.split
  have hz : (Hp.of H).all = H := by simp [Hp.of, Hp.all]
  have hfr := HRel.frz (hs.forget j) hH rfl (fun _ _ h => .inl h)
  have hat : ∀ B, (loc i)[j]? = some B → (⟨H, (loc i).length, loc i⟩ : Hp).all[H.length + j]? = some B := fun B hB => at_loc (by rw [lget_eq]; exact hB)
  obtain ⟨B, b, hB, hlb, hown, hmk⟩ := ho i g' w' hs
  have hgn : (g'.one H.length (loc i) j b).n = H.length + 1 := rfl
  have hne : ∀ {q : Nat} {C : Blk} {b' : Nat}, H[q]? = some C → locs g' q C = some b' → b' ≠ b := by
    intro q C b' hq hb' e
    subst e
    have hq' : (⟨H, (loc i).length, loc i⟩ : Hp).all[q]? = some C := by
      unfold Hp.all
      rw [List.getElem?_append_left (List.getElem?_eq_some_iff.1 hq).1, hq]
    have := hs.inj q (H.length + j) C B _ hq' (hat B hB) hb' hlb
    have := (List.getElem?_eq_some_iff.1 hq).1
    omega
  have hlocs : ∀ (q : Nat) C, q < H.length → locs (g'.one H.length (loc i) j b) q C = locs g' q C := by
    intro q C hq
    have e1 : (g'.one H.length (loc i) j b).blk q = g'.blk q := by show (if q = _ then b else _) = _; rw [if_neg (by omega)]
    have e2 : (g'.one H.length (loc i) j b).tk q = g'.tk q := by show (if q = _ then _ else _) = _; rw [if_neg (by omega)]
    cases C <;> simp only [locs, e1, e2]
  have hlocs2 : ∀ (q : Nat) C, locs ((g'.frz H.length ((loc i).set j .dead)).cut H.length) q C = locs g' q C := by
    intro q C
    cases C <;> rfl
  have hown1 : ∀ o, (g'.one H.length (loc i) j b).own b o := fun o => ⟨hown o, fun q C hC hCl e => by
    rw [List.getElem?_set] at hC
    split at hC
    · split at hC
      · cases hC; cases hCl
      · cases hC
    · rename_i hqj
      have h1 := hs.inj (H.length + q) (H.length + j) C B b (show (⟨H, (loc i).length, loc i⟩ : Hp).all[H.length + q]? = some C from at_loc (by rw [lget_eq]; exact hC)) (hat B hB) e hlb
      omega⟩
  obtain ⟨B', hPo, hBr, hlB⟩ := hmk hown1
  have key : ∀ (q : Nat) C, (Hp.of (H ++ [B'])).all[q]? = some C → (q < H.length ∧ H[q]? = some C) ∨ (q = H.length ∧ C = B') := by
    intro q C hq
    simp only [Hp.of, Hp.all, List.append_nil] at hq
    rcases Nat.lt_or_ge q H.length with hlt | hge
    · rw [List.getElem?_append_left hlt] at hq
      exact .inl ⟨hlt, hq⟩
    · rw [List.getElem?_append_right hge] at hq
      have h0 : q = H.length := by
        have := (List.getElem?_eq_some_iff.1 hq).1
        simp at this; omega
      subst h0
      simp at hq
      exact .inr ⟨rfl, hq.symm⟩
  refine ⟨_, _, g'.one H.length (loc i) j b, c, rfl, ⟨i, B', rfl, hPo, rfl⟩, ?_, Kp.rel hs hB hlb (hu i) c hv, ?_⟩
  · refine ⟨by rw [hgn]; simp [Hp.of], rfl, fun q C hq => ?_, fun b' o hb' => hH'.lt b' o hb'.1, fun q hq => ?_, fun q1 q2 C D b' h1 h2 hb1 hb2 => ?_, fun p hp => MRel.extV (one_extV w') _ _ _ (hfr.glob p hp)⟩
    · rcases key q C hq with ⟨hlt, hq'⟩ | ⟨rfl, rfl⟩
      · have hr := hfr.rel q C (by rw [hz]; exact hq')
        refine hr.keepV (one_extV w') (at_ok hfr (by rw [At, hz]; exact hq')) (fun _ _ => rfl) ?_ (fun b' o hb' ho => ho)
        show (if q = _ then _ else _) = _
        rw [if_neg (by omega)]
        rfl
      · exact hBr
    · have := hfr.pend q hq
      rw [hz] at this
      have hlt := (List.getElem?_eq_some_iff.1 this).1
      simp only [Hp.of, Hp.all, List.append_nil]
      rw [List.getElem?_append_left hlt, this]
    · rcases key q1 C h1 with ⟨l1, h1'⟩ | ⟨rfl, rfl⟩ <;> rcases key q2 D h2 with ⟨l2, h2'⟩ | ⟨rfl, rfl⟩
      · rw [hlocs _ _ l1] at hb1
        rw [hlocs _ _ l2] at hb2
        exact hfr.inj q1 q2 C D b' (by rw [hz]; exact h1') (by rw [hz]; exact h2') (by rw [hlocs2]; exact hb1) (by rw [hlocs2]; exact hb2)
      · rw [hlocs _ _ l1] at hb1
        rw [hlB] at hb2
        cases hb2
        exact absurd rfl (hne h1' hb1)
      · rw [hlocs _ _ l2] at hb2
        rw [hlB] at hb1
        cases hb1
        exact absurd rfl (hne h2' hb2)
      · rfl
  · have hgn0 : g.n = H.length := by have := hH.n; simpa [Hp.of] using this
    have hx2 : Ext g w ((g'.frz H.length ((loc i).set j .dead)).cut H.length) w' := hx.frz.cut (by omega)
    refine ⟨by rw [hgn]; omega, hx2.pend, fun q hq => (one_extV w').ok q (hx2.ok q hq), fun q hq => ?_, fun q hq => ?_, fun b' o hb' ho => hx2.own b' o hb' ho, hx2.os, hx2.tape, hx2.output, hx2.drawn, hx2.size, hx2.same, hx2.cells⟩
    · rw [(one_extV w').blk q (hx2.ok q hq), hx2.blk q hq]
    · have h1 := hx2.tk q hq
      have h2 : (g'.one H.length (loc i) j b).tk q = ((g'.frz H.length ((loc i).set j .dead)).cut H.length).tk q := by
        have h3 : q < H.length := (hx2.ok q hq).1
        show (if q = H.length then g'.tk (H.length + j) else g'.tk q) = g'.tk q
        rw [if_neg (Nat.ne_of_lt h3)]
      rw [h2]
      exact h1

theorem VCall.one [Glob] {P : Program} {F : FuncId} {as : List AV} {H : Heap} {ι : Type} {u u' : ι → AV} {loc : ι → Heap} {j : Nat} {t : TypeId} {l' : ι → List AV}
    (h : VCall P F as H fun r H' => ∃ i, r = u i ∧ H' = H ++ loc i) (hu : ∀ i, Kp H.length (loc i) j (u i) (u' i)) (ho : ∀ i, OneB H.length (loc i) j t (l' i)) :
    VCall P F as H fun r H' => ∃ i s, r = u' i ∧ H' = H ++ [.box t (l' i ++ List.replicate s .junk)] := by
  refine VCall.mono (VCall.oneG (Po := fun i B' => ∃ s, B' = .box t (l' i ++ List.replicate s .junk)) h hu fun i g' w' hs => ?_) ?_
  · have hat : ∀ B, (loc i)[j]? = some B → (⟨H, (loc i).length, loc i⟩ : Hp).all[H.length + j]? = some B := fun B hB => at_loc (by rw [lget_eq]; exact hB)
    have hblk : ∀ b, (g'.one H.length (loc i) j b).blk H.length = b := fun b => by show (if _ = _ then b else _) = b; rw [if_pos rfl]
    cases ho i with
    | box h1 h2 =>
      obtain ⟨cs', e1, e2, e3⟩ := hs.rel _ _ (hat _ h1)
      refine ⟨_, g'.blk (H.length + j), h1, rfl, e3, fun hown => ⟨_, ⟨0, rfl⟩, ⟨cs', by rw [hblk]; exact e1, ?_, fun o => by rw [hblk]; exact hown o⟩, congrArg some (hblk _)⟩⟩
      simpa using KpL.rel hs h1 rfl h2 _ e2
    | @vec l sz h1 h3 h2 =>
      obtain ⟨e1, e2, e3⟩ := hs.rel _ _ (hat _ h1)
      rcases e3 with ⟨-, q, -⟩ | ⟨b, cs', p1, p2, p3, p4, p5, p6, p7⟩
      · rw [q] at h3; cases h3
      · refine ⟨_, b, h1, p1, p7, fun hown => ⟨_, ⟨cs'.size - (l' i).length, rfl⟩, ⟨cs', by rw [hblk]; exact p2, ?_, fun o => by rw [hblk]; exact hown o⟩, congrArg some (hblk _)⟩⟩
        have := KpL.rel hs h1 (by exact p1) h2 _ p6
        rw [← h2.length] at this p5
        have h5 := LRel.spare this (by simpa using p5)
        simpa using h5
  · rintro r H' ⟨i, B', rfl, ⟨s, rfl⟩, rfl⟩
    exact ⟨i, s, rfl, rfl⟩

theorem VCall.oneV [Glob] {P : Program} {F : FuncId} {as : List AV} {H : Heap} {u u' : AV} {loc : Heap} {j : Nat} {t : TypeId} {sz : Nat} {l l' : List AV}
    (h : VCall P F as H fun r H' => r = u ∧ H' = H ++ loc) (hu : Kp H.length loc j u u') (ho : loc[j]? = some (.vec t sz l)) (hl0 : 0 < l.length) (hl : KpL H.length loc j l l') :
    VCall P F as H fun r H' => r = u' ∧ H' = H ++ [.vec t sz l'] := by
  refine VCall.mono (VCall.oneG (ι := Unit) (u := fun _ => u) (u' := fun _ => u') (loc := fun _ => loc) (j := j) (Po := fun _ B' => B' = .vec t sz l') (VCall.mono h fun r H' h => ⟨(), h⟩) (fun _ => hu) fun _ g' w' hs => ?_) ?_
  · have hat : ∀ B, loc[j]? = some B → (⟨H, loc.length, loc⟩ : Hp).all[H.length + j]? = some B := fun B hB => at_loc (by rw [lget_eq]; exact hB)
    have htk : ∀ b, (g'.one H.length loc j b).tk H.length = g'.tk (H.length + j) := fun b => by show (if _ = _ then _ else _) = _; rw [if_pos rfl]
    obtain ⟨e1, e2, e3⟩ := hs.rel _ _ (hat _ ho)
    rcases e3 with ⟨-, q, -⟩ | ⟨b, cs', p1, p2, p3, p4, p5, p6, p7⟩
    · rw [q] at hl0; cases hl0
    · refine ⟨_, b, ho, p1, p7, fun hown => ⟨_, rfl, ⟨by rw [htk, e1, hl.length], by rw [htk, e2], .inr ⟨b, cs', by rw [htk]; exact p1, p2, by rw [htk]; exact p3, by rw [htk]; exact p4, by rw [hl.length]; exact p5, ?_, hown⟩⟩, by simp only [locs, htk]; exact p1⟩⟩
      rw [hl.length]
      exact KpL.rel hs ho (by exact p1) hl _ p6
  · rintro r H' ⟨_, B', rfl, rfl, rfl⟩
    exact ⟨rfl, rfl⟩

theorem wk_tokVec (t : Nat) : Wk (.sl (some t) 0 []) (.vs t 0) := fun g w c h => by
  simp only [VRel] at h ⊢
  obtain ⟨A, cap, rfl, hn, -, ht⟩ := h
  obtain ⟨h1, h2, h3⟩ := ht t rfl
  refine ⟨h1, by omega, A, cap, rfl, hn, fun e => ?_⟩
  obtain ⟨q1, q2, -⟩ := h3 (by simpa using e)
  exact ⟨q1, q2⟩
theorem HRel.tokVec [Glob] {g : G} {w : World} {base : Heap} {k : Nat} {loc : Heap} {j : Nat} {e : TypeId} {sz : Nat} (h : HRel g w ⟨base, k, loc⟩) (hj : loc[j]? = some (.tok e sz 0)) : HRel g w ⟨base, k, loc.set j (.vec e sz [])⟩ := by
  have hat : (⟨base, k, loc⟩ : Hp).all[base.length + j]? = some (.tok e sz 0) := at_loc (by rw [lget_eq]; exact hj)
  have key : ∀ (i : Nat) (B : Blk), (⟨base, k, loc.set j (.vec e sz [])⟩ : Hp).all[i]? = some B → (i = base.length + j ∧ B = .vec e sz []) ∨ (⟨base, k, loc⟩ : Hp).all[i]? = some B := by
    intro i B hi
    unfold Hp.all at hi ⊢
    simp only at hi ⊢
    rcases Nat.lt_or_ge i base.length with hlt | hge
    · rw [List.getElem?_append_left hlt] at hi ⊢
      exact .inr hi
    · rw [List.getElem?_append_right hge] at hi ⊢
      rw [List.getElem?_set] at hi
      split at hi
      · rename_i e1
        split at hi
        · cases hi; exact .inl ⟨by omega, rfl⟩
        · cases hi
      · exact .inr hi
  refine ⟨h.n, by simpa using h.k, fun i B hi => ?_, h.lt, fun i hi => ?_, fun i1 i2 B C b h1 h2 hb hc => ?_, h.glob⟩
  · rcases key i B hi with ⟨rfl, rfl⟩ | h'
    · obtain ⟨e1, e2, e3⟩ := h.rel _ _ hat
      refine ⟨e1, e2, ?_⟩
      rcases e3 with ⟨q1, -, q3⟩ | ⟨b, cs, q1, q2, q3, q4, q5, q6⟩
      · exact .inl ⟨q1, rfl, q3⟩
      · exact .inr ⟨b, cs, q1, q2, q3, q4, by simp, by simp [LRel], fun o => q6 o (Nat.zero_le _)⟩
    · exact h.rel i B h'
  · have hd := h.pend i hi
    unfold Hp.all at hd ⊢
    simp only at hd ⊢
    rcases Nat.lt_or_ge i base.length with hlt | hge
    · rw [List.getElem?_append_left hlt] at hd ⊢
      exact hd
    · rw [List.getElem?_append_right hge] at hd ⊢
      rw [List.getElem?_set]
      split
      · rename_i e1
        rw [← e1, hj] at hd
        cases hd
      · exact hd
  · have key2 : ∀ (i : Nat) (B : Blk), (⟨base, k, loc.set j (.vec e sz [])⟩ : Hp).all[i]? = some B → ∀ b, locs g i B = some b → ∃ B', (⟨base, k, loc⟩ : Hp).all[i]? = some B' ∧ locs g i B' = some b := by
      intro i B hi b hb
      rcases key i B hi with ⟨rfl, rfl⟩ | h'
      · exact ⟨_, hat, hb⟩
      · exact ⟨B, h', hb⟩
    obtain ⟨B', p1, p2⟩ := key2 i1 B h1 b hb
    obtain ⟨C', p3, p4⟩ := key2 i2 C h2 b hc
    exact h.inj i1 i2 B' C' b p1 p3 p2 p4
section
variable {P : Program} {N : FN} {n0 : Nat} {T : TypeId → Option TI} {kn : TypeId → Nat}
theorem LoopN.tokVec [Glob] (t j : Nat) (e : TypeId) (sz : Nat) {c : Code} {Q : QR} {top bot : RE} {base : Heap} {k : Nat} {loc loc' : Heap} (hv : rget2 top bot t = some (.v (.sl (some (n0 + j)) 0 []))) (hl : lget loc j = some (.tok e sz 0)) (hs : lset loc j (.vec e sz []) = some loc')
    (h : LoopN P kn T N n0 c Q ((t, .v (.vs (n0 + j) 0)) :: top) bot base k loc') : LoopN P kn T N n0 c Q top bot base k loc := by
  refine ⟨fun g w a hH hE => ?_⟩
  obtain ⟨e1, -⟩ := lset_eq _ _ _ _ hs
  subst e1
  rw [lget_eq] at hl
  refine h.h g w a (hH.tokVec hl) ⟨hE.1, fun s => ?_, hE.ro, hE.glob⟩
  simp only [List.cons_append, trE]
  by_cases hs : t = s
  · subst hs
    rw [get_put_same]
    have h0 := hE.rel t
    rw [rget2_get hv] at h0
    exact wk_tokVec _ _ _ _ h0
  · rw [get_put_ne _ _ hs]
    exact hE.rel s
structure RoundK {σ : Type} (inv : σ → Prop) (ms : σ → Nat) (st : σ → RE) (lc : σ → Heap) (bk : RE) (n0 : Nat) (base : σ → Heap) (lens : σ → Nat) (m : Nat) (top bot : RE) (base' : Heap) (loc' : Heap) : Prop where
  h : ∃ s', inv s' ∧ ms s' < m ∧ subR n0 top bot (st s') ∧ ((bot = bk ∧ disjK top bk = true) ∨ subR n0 top bot bk) ∧ base' = base s' ∧ ∃ ex, loc' = lc s' ++ ex ∧ (ex = [] ∨ belowRE n0 (n0 + lens s') (st s') ∧ belowH (n0 + lens s') (lc s'))
def roundK {σ : Type} (inv : σ → Prop) (ms : σ → Nat) (st : σ → RE) (lc : σ → Heap) (bk : RE) (n0 : Nat) (base : σ → Heap) (lens : σ → Nat) (m : Nat) (Q : QR) : QR := fun e top bot base' k' loc' => match e with
  | .normal => RoundK inv ms st lc bk n0 base lens m top bot base' loc'
  | e => Q e top bot base' k' loc'
theorem loop_K [Glob] (he : Env0 P T kn) (hm : P.follows .mixedOrders = true) {σ : Type} (inv : σ → Prop) (ms : σ → Nat) (st : σ → RE) (bs lc : σ → Heap) (lens : σ → Nat) (bk : RE) (s0 : σ) {c : Code} {Q : QR} {top bot : RE} {base : Heap} {k : Nat} {loc : Heap}
    (hn : ∀ s, inv s → (bs s).length = n0) (hcl : ∀ s, inv s → Closed (bs s)) (ts : List Nat) (hbk : pickO ts top bot = some bk) (h0 : inv s0) (hst : subR n0 top bot (st s0)) (hbase : base = bs s0) (hloc : loc = lc s0) (hk0 : k = lens s0) (hmono : ∀ s, inv s → lens s0 ≤ lens s) (hlen : ∀ s, inv s → (lc s).length = lens s)
    (round : ∀ s, inv s → wpC P kn T N n0 c (roundK inv ms st lc bk n0 bs lens (ms s) Q) (st s) bk (bs s) (lens s) (lc s)) : LoopN P kn T N n0 c Q top bot base k loc := by
  refine ⟨?_⟩
  subst hloc hbase hk0
  intro g w a hH hE
  have hbkb : ∀ s v, rgetO bk s = some v → below (n0 + lens s0) (tr n0 v) := by
    intro s v hv
    have h1 := rget2_get (n0 := n0) (pickO_get hbk hv)
    have h2 := VRel.below _ _ (hE.rel s)
    rw [h1, hH.n] at h2
    simp only [hn s0 h0] at h2
    exact h2
  let J : Nat → Act → World → Prop := fun n a' w' => ∃ s g', inv s ∧ ms s = n ∧ HRel g' w' ⟨bs s, lens s, lc s⟩ ∧ ERel N g' w' (trE n0 (st s ++ bk)) a' ∧ Ext g w g' w' ∧ DRel w a.defers g' w' a'.defers
  have hget : ∀ (l bk : RE) (s : Nat), get (trE n0 (l ++ bk)) s = match rgetO l s with
      | some v => tr n0 v
      | none => match rgetO bk s with
        | some v => tr n0 v
        | none => .junk := by
    intro l bk s
    rw [trE_append]
    cases hl : rgetO l s with
    | some v => simp only; exact rgetO_get hl _
    | none =>
      simp only
      rw [rgetO_none hl]
      cases hb : rgetO bk s with
      | some v => simp only; have := rgetO_get (n0 := n0) hb []; simpa using this
      | none => simp only; have := rgetO_none (n0 := n0) hb []; simp only [List.append_nil] at this; rw [this]; rfl
  refine LoopWp.inv (fun a' w' => ∃ n, J n a' w') (fun a' w' => by classical exact if h : ∃ n, J n a' w' then Classical.choose (least h) else 0) ⟨ms s0, s0, g, h0, rfl, hH, ⟨hE.1, fun s => ?_, hE.ro, hE.glob⟩, Ext.refl g w, DRel.refl _ _ _ _⟩ ?_
  · rw [hget]
    cases hl : rgetO (st s0) s with
    | some v => simp only; exact subR_get hst hl _ _ _ (hE.rel s)
    | none =>
      simp only
      cases hb : rgetO bk s with
      | some v => simp only; rw [← rget2_get (n0 := n0) (pickO_get hbk hb)]; exact hE.rel s
      | none => simp [VRel]
  intro a1 w1 hex
  have hJ := (Classical.choose_spec (least hex)).1
  obtain ⟨s1, g1, hI1, hms1, hH1, hE1, hx1, hd1⟩ := hJ
  have hr := wpC_sound he hm c _ _ _ _ _ _ (hn s1 hI1) (round s1 hI1) g1 w1 a1 hH1 hE1
  rw [hE.fo hx1] at hr
  refine Code.wpIn_mono ?_ hr
  rintro e a2 w2 ⟨env2, hp2, g2, ⟨top2, bot2, base2, k2, loc2, hap, rfl, hn2, q⟩, hH2, hE2, hx2, hd2⟩
  have other : e ≠ .normal → Q e top2 bot2 base2 k2 loc2 → Lift N (LS n0 Q) g w a.defers e a2 w2 := fun _ hq =>
    ⟨env2, _, g2, ⟨top2, bot2, base2, k2, loc2, hap, rfl, hn2, hq⟩, hH2, hE2, hx1.trans hx2, hd1.trans hx2 hx1.size hd2⟩
  cases e with
  | normal =>
    obtain ⟨s', hi', hms', hsub, hbk', rfl, ex, rfl, hbel⟩ := q
    have hns := hn s' hi'
    have hE3 : ERel N g2 w2 (trE n0 (st s' ++ bk)) a2 := by
      refine ⟨hE2.1, fun s => ?_, hE2.ro, hE2.glob⟩
      have h2 := hap s _ _ _ (hE2.rel s)
      rw [hget]
      cases hl : rgetO (st s') s with
      | some v => simp only; exact subR_get hsub hl _ _ _ h2
      | none =>
        simp only
        cases hb : rgetO bk s with
        | none => simp [VRel]
        | some v =>
          simp only
          rcases hbk' with ⟨rfl, hdj⟩ | hsb
          · rw [hget, disjK_none hdj hb] at h2
            simp only [hb] at h2
            exact h2
          · exact subR_get hsb hb _ _ _ h2
    have hlc := hlen s' hi'
    have hex2 : ∃ m, m < ms s1 ∧ J m a2 w2 := by
      rcases hbel with rfl | ⟨hb1, hb2⟩
      · have hk2 : k2 = lens s' := by have := hH2.k; simp only [List.append_nil] at this; omega
        subst hk2
        rw [List.append_nil] at hH2
        exact ⟨ms s', hms', s', g2, hi', rfl, hH2, hE3, hx1.trans hx2, hd1.trans hx2 hx1.size hd2⟩
      · have hcut := hH2.cutLoc hlc (hcl s' hi') (by rw [hns]; exact hb2)
        have hgn : g.n ≤ (bs s').length + lens s' := by rw [hH.n, hns]; simp only [hn s0 h0]; have := hmono s' hi'; omega
        have hxc := (hx1.trans hx2).cut hgn
        refine ⟨ms s', hms', s', g2.cut ((bs s').length + lens s'), hi', rfl, hcut, ⟨hE3.1, fun s => VRel.cut _ _ (hE3.rel s) ?_, fun i hi => ?_, glob_cut hE3.glob⟩, hxc, ?_⟩
        · rw [hget]
          rw [hns]
          cases hl : rgetO (st s') s with
          | some v => simp only; exact belowRE_get hb1 hl
          | none =>
            simp only
            cases hb : rgetO bk s with
            | some v => simp only; exact below_mono (Nat.add_le_add_left (hmono s' hi') _) _ (hbkb s v hb)
            | none => simp [below]
        · have h1 := hE.ro i hi
          exact ⟨Nat.lt_of_lt_of_le h1.1 hgn, fun q => (hE3.ro i hi).2 q.1⟩
        · obtain ⟨rs, d1, d2, d3⟩ := hd1.trans hx2 hx1.size hd2
          exact ⟨rs, d1, d2, d3⟩
    obtain ⟨m, hmlt, hJm⟩ := hex2
    have hex2 : ∃ n, J n a2 w2 := ⟨m, hJm⟩
    refine ⟨hex2, ?_⟩
    simp only [hex, hex2, dif_pos]
    refine Nat.lt_of_le_of_lt ((Classical.choose_spec (least hex2)).2 m hJm) ?_
    rw [hms1] at hmlt
    exact hmlt
  | exit i => exact other (by simp) q
  | goto l => exact other (by simp) q
  | ret => exact other (by simp) q
  | panic ch => exact other (by simp) q
  | outgrown => exact other (by simp) q
end
theorem WkL.mrel {g : G} {w : World} : ∀ {l l' : List AV} {b o : Nat}, WkL l l' → MRel g w l b o → MRel g w l' b o
  | [], [], _, _, _, h => h
  | v :: l, v' :: l', b, o, hw, h => by
    simp only [MRel] at h ⊢
    obtain ⟨⟨c, h1, h2, h3⟩, h4⟩ := h
    exact ⟨⟨c, h1, hw.1 _ _ _ h2, h3⟩, WkL.mrel hw.2 h4⟩
  | [], _ :: _, _, _, hw, _ => hw.elim
  | _ :: _, [], _, _, hw, _ => hw.elim
theorem WkL.id : ∀ l : List AV, WkL l l
  | [] => trivial
  | v :: l => ⟨Wk.refl v, WkL.id l⟩
theorem WkL.app : ∀ {a a' b b' : List AV}, WkL a a' → WkL b b' → WkL (a ++ b) (a' ++ b')
  | [], [], _, _, _, h => h
  | _ :: _, _ :: _, _, _, h1, h => ⟨h1.1, WkL.app h1.2 h⟩
  | [], _ :: _, _, _, h1, _ => h1.elim
  | _ :: _, [], _, _, h1, _ => h1.elim
theorem wk_slL {tok : Option Nat} {n : Nat} {l l' : List AV} (h : WkL l l') : Wk (.sl tok n l) (.sl none n l') := fun g w c hr => by
  simp only [VRel] at hr ⊢
  obtain ⟨A, cap, h1, h2, h3, -⟩ := hr
  refine ⟨A, cap, h1, h2, ?_, fun t e => by cases e⟩
  rcases h3 with h3 | ⟨b, o, h3, h4⟩
  · subst h3
    cases l' with
    | nil => exact .inl rfl
    | cons v l' => exact h.elim
  · exact .inr ⟨b, o, h3, h.mrel h4⟩
theorem Wk.trans {a b c : AV} (h : Wk a b) (k : Wk b c) : Wk a c := fun g w x hx => k g w x (h g w x hx)
end Go.Vsi
/-! text R19 -/
namespace Go.Vsi

def shR (K : Nat) : RE → RE
  | [] => []
  | (i, v) :: l => match v with
    | .lp j o => (i, .lp (K + j) o) :: shR K l
    | v => (i, v) :: shR K l
theorem shR_tr (n0 K : Nat) : ∀ l : RE, trE n0 (shR K l) = trE (n0 + K) l
  | [] => rfl
  | (i, .lp j o) :: l => by simp only [shR, trE, shR_tr n0 K l, tr, Nat.add_assoc]
  | (i, .v a) :: l => by simp only [shR, trE, shR_tr n0 K l, tr]
  | (i, .lit b) :: l => by simp only [shR, trE, shR_tr n0 K l, tr]
inductive WkB : Blk → Blk → Prop where
  | refl (B : Blk) : WkB B B
  | box {t : TypeId} {l l' : List AV} (h : WkL l l') : WkB (.box t l) (.box t l')
  | vec {e : TypeId} {sz : Nat} {l l' : List AV} (h : WkL l l') : WkB (.vec e sz l) (.vec e sz l')
theorem WkL.len : ∀ {l l' : List AV}, WkL l l' → l'.length = l.length
  | [], [], _ => rfl
  | _ :: _, _ :: _, h => by simp [WkL.len h.2]
  | [], _ :: _, h => h.elim
  | _ :: _, [], h => h.elim
theorem WkB.rel {g : G} {w : World} {i : Nat} {B C : Blk} (h : WkB B C) (hB : BRel g w i B) : BRel g w i C := by
  cases h with
  | refl => exact hB
  | box h =>
    obtain ⟨cs, h1, h2, h3⟩ := hB
    exact ⟨cs, h1, WkL.rel h h2, h3⟩
  | vec h =>
    have hl := WkL.len h
    obtain ⟨h1, h2, h3⟩ := hB
    refine ⟨by rw [hl]; exact h1, h2, ?_⟩
    rcases h3 with ⟨q1, q2, q3⟩ | ⟨b, cs, q1, q2, q3, q4, q5, q6, q7⟩
    · subst q2
      exact .inl ⟨q1, List.length_eq_zero_iff.1 hl, q3⟩
    · exact .inr ⟨b, cs, q1, q2, q3, q4, by rw [hl]; exact q5, by rw [hl]; exact WkL.rel h q6, q7⟩
theorem WkB.locs {g : G} {i : Nat} {B C : Blk} (h : WkB B C) : Vsi.locs g i C = Vsi.locs g i B := by
  cases h <;> rfl
inductive WkH : Heap → Heap → Prop where
  | nil : WkH [] []
  | cons {B C : Blk} {H I : Heap} : WkB B C → WkH H I → WkH (B :: H) (C :: I)
theorem WkH.refl : ∀ H : Heap, WkH H H
  | [] => .nil
  | B :: H => .cons (.refl B) (WkH.refl H)
theorem WkH.of_eq {H I : Heap} (h : H = I) : WkH H I := h ▸ WkH.refl H
theorem WkH.app : ∀ {A B C D : Heap}, WkH A B → WkH C D → WkH (A ++ C) (B ++ D)
  | _, _, _, _, .nil, h => h
  | _, _, _, _, .cons h1 h2, h => .cons h1 (WkH.app h2 h)
theorem WkH.get : ∀ {H I : Heap}, WkH H I → ∀ {i : Nat} {C : Blk}, I[i]? = some C → ∃ B, H[i]? = some B ∧ WkB B C
  | _, _, .nil, i, C, h => by cases h
  | _, _, .cons h1 h2, 0, C, h => by
    simp only [List.getElem?_cons_zero, Option.some.injEq] at h
    subst h
    exact ⟨_, rfl, h1⟩
  | _, _, .cons h1 h2, i + 1, C, h => by
    simp only [List.getElem?_cons_succ] at h ⊢
    exact WkH.get h2 h
theorem WkH.get' : ∀ {H I : Heap}, WkH H I → ∀ {i : Nat} {B : Blk}, H[i]? = some B → ∃ C, I[i]? = some C ∧ WkB B C
  | _, _, .nil, i, C, h => by cases h
  | _, _, .cons h1 h2, 0, C, h => by
    simp only [List.getElem?_cons_zero, Option.some.injEq] at h
    subst h
    exact ⟨_, rfl, h1⟩
  | _, _, .cons h1 h2, i + 1, C, h => by
    simp only [List.getElem?_cons_succ] at h ⊢
    exact WkH.get' h2 h
theorem WkH.len : ∀ {H I : Heap}, WkH H I → I.length = H.length
  | _, _, .nil => rfl
  | _, _, .cons _ h => by simp [h.len]
theorem HRel.wkH [Glob] {g : G} {w : World} {H I : Heap} (h : HRel g w (Hp.of H)) (hw : WkH H I) : HRel g w (Hp.of I) := by
  have hz : ∀ H : Heap, (Hp.of H).all = H := fun H => by simp [Hp.of, Hp.all]
  refine ⟨by rw [h.n]; simp [Hp.of, hw.len], rfl, fun i C hi => ?_, h.lt, fun i hi => ?_, fun i j B C b h1 h2 hb hc => ?_, h.glob⟩
  · rw [hz] at hi
    obtain ⟨B, hB, hBC⟩ := hw.get hi
    exact hBC.rel (h.rel i B (by rw [hz]; exact hB))
  · have := h.pend i hi
    rw [hz] at this ⊢
    obtain ⟨C, hC, hBC⟩ := hw.get' this
    cases hBC
    exact hC
  · rw [hz] at h1 h2
    obtain ⟨B', hB', q1⟩ := hw.get h1
    obtain ⟨C', hC', q2⟩ := hw.get h2
    rw [q1.locs] at hb
    rw [q2.locs] at hc
    exact h.inj i j B' C' b (by rw [hz]; exact hB') (by rw [hz]; exact hC') hb hc

structure RoundX {σ : Type} (inv : σ → Prop) (ms : σ → Nat) (st : σ → RE) (L : σ → Heap) (bk : RE) (n0 n1 : Nat) (base : Heap) (m : Nat) (top bot : RE) (base' : Heap) (loc' : Heap) : Prop where
  h : ∃ s', inv s' ∧ ms s' < m ∧ subR n1 top bot (reB n0 (st s')) ∧ ((bot = reB n0 bk ∧ disjK top (reB n0 bk) = true) ∨ subR n1 top bot (reB n0 bk)) ∧ ∃ ex, WkH (base' ++ loc') ((base ++ L s') ++ ex) ∧ (ex = [] ∨ belowRE n0 (n0 + (L s').length) (st s') ∧ belowH (n0 + (L s').length) (L s'))
structure LeftX (Q : QR) (e : Exit) (n0 K : Nat) (base : Heap) (top bot : RE) (base' : Heap) (k' : Nat) (loc' : Heap) : Prop where
  h : ∃ l0 top2 bot2, base' = base ++ l0 ∧ l0.length = K ∧ trE n0 top2 = trE (n0 + K) top ∧ trE n0 bot2 = trE (n0 + K) bot ∧ Q e top2 bot2 base (K + k') (l0 ++ loc')
theorem LeftX.of {Q : QR} {e : Exit} {n0 K : Nat} {base : Heap} {top bot : RE} {base' : Heap} {k' : Nat} {loc' : Heap} (l0 : Heap) (h1 : base' = base ++ l0) (h2 : l0.length = K) (h : Q e (shR K top) (shR K bot) base (K + k') (l0 ++ loc')) : LeftX Q e n0 K base top bot base' k' loc' :=
  ⟨l0, _, _, h1, h2, shR_tr _ _ _, shR_tr _ _ _, h⟩
theorem LeftX.ofB {Q : QR} {e : Exit} {n0 K : Nat} {base : Heap} {top bot : RE} {base' : Heap} {k' : Nat} {loc' : Heap} (l0 : Heap) (bot2 : RE) (h1 : base' = base ++ l0) (h2 : l0.length = K) (h3 : trE n0 bot2 = trE (n0 + K) bot) (h : Q e (shR K top) bot2 base (K + k') (l0 ++ loc')) : LeftX Q e n0 K base top bot base' k' loc' :=
  ⟨l0, _, _, h1, h2, shR_tr _ _ _, h3, h⟩
def roundX {σ : Type} (inv : σ → Prop) (ms : σ → Nat) (st : σ → RE) (L : σ → Heap) (bk : RE) (n0 K : Nat) (base : Heap) (m : Nat) (Q : QR) : QR := fun e top bot base' k' loc' => match e with
  | .normal => RoundX inv ms st L bk n0 (n0 + K) base m top bot base' loc'
  | e => LeftX Q e n0 K base top bot base' k' loc'
section
variable {P : Program} {N : FN} {n0 : Nat} {T : TypeId → Option TI} {kn : TypeId → Nat}
theorem loop_X [Glob] (he : Env0 P T kn) (hm : P.follows .mixedOrders = true) {σ : Type} (inv : σ → Prop) (ms : σ → Nat) (st : σ → RE) (L : σ → Heap) (bk : RE) (s0 : σ) {c : Code} {Q : QR} {top bot : RE} {base : Heap} {k : Nat} {loc : Heap}
    (hn : base.length = n0) (hcl : Closed base) (ts : List Nat) (hbk : pickO ts top bot = some bk) (h0 : inv s0) (hst : subR n0 top bot (st s0)) (hloc : loc = L s0) (hmono : ∀ s, inv s → (L s0).length ≤ (L s).length)
    (round : ∀ s, inv s → wpC P kn T N (n0 + (L s).length) c (roundX inv ms st L bk n0 (L s).length base (ms s) Q) (reB n0 (st s)) (reB n0 bk) (base ++ L s) 0 []) : LoopN P kn T N n0 c Q top bot base k loc := by
  refine ⟨?_⟩
  subst hloc
  intro g w a hH hE
  have hk0 : k = (L s0).length := hH.k.symm
  subst hk0
  have hbkb : ∀ s v, rgetO bk s = some v → below (n0 + (L s0).length) (tr n0 v) := by
    intro s v hv
    have h1 := rget2_get (n0 := n0) (pickO_get hbk hv)
    have h2 := VRel.below _ _ (hE.rel s)
    rw [h1, hH.n] at h2
    simp only [hn] at h2
    exact h2
  let J : Nat → Act → World → Prop := fun n a' w' => ∃ s g', inv s ∧ ms s = n ∧ HRel g' w' ⟨base, (L s).length, L s⟩ ∧ ERel N g' w' (trE n0 (st s ++ bk)) a' ∧ Ext g w g' w' ∧ DRel w a.defers g' w' a'.defers
  have hget : ∀ (l bk : RE) (s : Nat), get (trE n0 (l ++ bk)) s = match rgetO l s with
      | some v => tr n0 v
      | none => match rgetO bk s with
        | some v => tr n0 v
        | none => .junk := by
    intro l bk s
    rw [trE_append]
    cases hl : rgetO l s with
    | some v => simp only; exact rgetO_get hl _
    | none =>
      simp only
      rw [rgetO_none hl]
      cases hb : rgetO bk s with
      | some v => simp only; have := rgetO_get (n0 := n0) hb []; simpa using this
      | none => simp only; have := rgetO_none (n0 := n0) hb []; simp only [List.append_nil] at this; rw [this]; rfl
  have hgetO : ∀ (l : RE) (s : Nat), (∀ v, rgetO l s = some v → ∃ v', rgetO (reB n0 l) s = some v' ∧ ∀ n1, tr n1 v' = tr n0 v) ∧ (rgetO l s = none → rgetO (reB n0 l) s = none) := by
    intro l s
    induction l with
    | nil => exact ⟨fun v h => (by cases h), fun _ => rfl⟩
    | cons x l ih =>
      obtain ⟨i, v0⟩ := x
      have key : ∃ v', reB n0 ((i, v0) :: l) = (i, v') :: reB n0 l ∧ ∀ n1, tr n1 v' = tr n0 v0 := by
        cases v0 with
        | v a => exact ⟨.v a, rfl, fun _ => rfl⟩
        | lp j o => exact ⟨.v (.ptr (n0 + j) o), rfl, fun _ => rfl⟩
        | lit b => exact ⟨.lit b, rfl, fun _ => rfl⟩
      obtain ⟨v', k1, k2⟩ := key
      rw [k1]
      simp only [rgetO]
      cases hb : Nat.beq i s with
      | true => exact ⟨fun v h => (by cases h; exact ⟨v', rfl, k2⟩), fun h => (by cases h)⟩
      | false => exact ih
  refine LoopWp.inv (fun a' w' => ∃ n, J n a' w') (fun a' w' => by classical exact if h : ∃ n, J n a' w' then Classical.choose (least h) else 0) ⟨ms s0, s0, g, h0, rfl, hH, ⟨hE.1, fun s => ?_, hE.ro, hE.glob⟩, Ext.refl g w, DRel.refl _ _ _ _⟩ ?_
  · rw [hget]
    cases hl : rgetO (st s0) s with
    | some v => simp only; exact subR_get hst hl _ _ _ (hE.rel s)
    | none =>
      simp only
      cases hb : rgetO bk s with
      | some v => simp only; rw [← rget2_get (n0 := n0) (pickO_get hbk hb)]; exact hE.rel s
      | none => simp [VRel]
  intro a1 w1 hex
  have hJ := (Classical.choose_spec (least hex)).1
  obtain ⟨s1, g1, hI1, hms1, hH1, hE1, hx1, hd1⟩ := hJ
  have hH1' : HRel g1 w1 ⟨base ++ L s1, 0, []⟩ := hH1.of
  have hE1' : ERel N g1 w1 (trE (n0 + (L s1).length) (reB n0 (st s1) ++ reB n0 bk)) a1 := by
    rw [trE_append, reB_tr, reB_tr, ← trE_append]
    exact hE1
  have hr := wpC_sound he hm c _ _ _ _ _ _ (by rw [List.length_append, hn]) (round s1 hI1) g1 w1 a1 hH1' hE1'
  rw [hE.fo hx1] at hr
  refine Code.wpIn_mono ?_ hr
  rintro e a2 w2 ⟨env2, hp2, g2, ⟨top2, bot2, base2, k2, loc2, hap, rfl, hn2, q⟩, hH2, hE2, hx2, hd2⟩
  have other : e ≠ .normal → LeftX Q e n0 (L s1).length base top2 bot2 base2 k2 loc2 → Lift N (LS n0 Q) g w a.defers e a2 w2 := fun _ hq => by
    obtain ⟨l0, top3, bot3, rfl, hl0, t1, t2, hq⟩ := hq
    have hk2 := hH2.k
    simp only at hk2
    subst hk2
    have hsp := hH2.of
    simp only [Hp.all, List.append_assoc] at hsp
    have hsp2 := hsp.split
    rw [List.length_append, hl0] at hsp2
    refine ⟨env2, _, g2, ⟨_, _, base, _, l0 ++ loc2, fun s => ?_, rfl, hn, hq⟩, hsp2, hE2, hx1.trans hx2, hd1.trans hx2 hx1.size hd2⟩
    have := hap s
    rwa [trE_append, t1, t2, ← trE_append]
  cases e with
  | normal =>
    obtain ⟨s', hi', hms', hsub, hbk', ex, hbl, hbel⟩ := q
    have hHs : HRel g2 w2 ⟨base, (L s' ++ ex).length, L s' ++ ex⟩ := by
      have h := hH2.of
      simp only [Hp.all] at h
      have h := h.wkH hbl
      rw [List.append_assoc] at h
      exact h.split
    have hE3 : ERel N g2 w2 (trE n0 (st s' ++ bk)) a2 := by
      refine ⟨hE2.1, fun s => ?_, hE2.ro, hE2.glob⟩
      have h2 := hap s _ _ _ (hE2.rel s)
      rw [hget]
      cases hl : rgetO (st s') s with
      | some v =>
        simp only
        obtain ⟨v', e1, e2⟩ := (hgetO (st s') s).1 v hl
        have := subR_get hsub e1 _ _ _ h2
        rwa [e2] at this
      | none =>
        simp only
        cases hb : rgetO bk s with
        | none => simp [VRel]
        | some v =>
          simp only
          obtain ⟨v', e1, e2⟩ := (hgetO bk s).1 v hb
          rcases hbk' with ⟨rfl, hdj⟩ | hsb
          · have hno := disjK_none hdj e1
            rw [trE_append, rgetO_none hno] at h2
            have h3 := rgetO_get (n0 := n0 + (L s1).length) e1 []
            rw [List.append_nil] at h3
            rw [h3, e2] at h2
            exact h2
          · have := subR_get hsb e1 _ _ _ h2
            rwa [e2] at this
    have hex2 : ∃ m, m < ms s1 ∧ J m a2 w2 := by
      rcases hbel with rfl | ⟨hb1, hb2⟩
      · rw [List.append_nil] at hHs
        exact ⟨ms s', hms', s', g2, hi', rfl, hHs, hE3, hx1.trans hx2, hd1.trans hx2 hx1.size hd2⟩
      · have hcut := hHs.cutLoc rfl hcl (by rw [hn]; exact hb2)
        have hgn : g.n ≤ base.length + (L s').length := by rw [hH.n]; simp only; have := hmono s' hi'; omega
        have hxc := (hx1.trans hx2).cut hgn
        refine ⟨ms s', hms', s', g2.cut (base.length + (L s').length), hi', rfl, hcut, ⟨hE3.1, fun s => VRel.cut _ _ (hE3.rel s) ?_, fun i hi => ?_, glob_cut hE3.glob⟩, hxc, ?_⟩
        · rw [hget, hn]
          cases hl : rgetO (st s') s with
          | some v => simp only; exact belowRE_get hb1 hl
          | none =>
            simp only
            cases hb : rgetO bk s with
            | some v => simp only; exact below_mono (Nat.add_le_add_left (hmono s' hi') _) _ (hbkb s v hb)
            | none => simp [below]
        · have h1 := hE.ro i hi
          exact ⟨Nat.lt_of_lt_of_le h1.1 hgn, fun q => (hE3.ro i hi).2 q.1⟩
        · obtain ⟨rs, d1, d2, d3⟩ := hd1.trans hx2 hx1.size hd2
          exact ⟨rs, d1, d2, d3⟩
    obtain ⟨m, hmlt, hJm⟩ := hex2
    have hex2 : ∃ n, J n a2 w2 := ⟨m, hJm⟩
    refine ⟨hex2, ?_⟩
    simp only [hex, hex2, dif_pos]
    refine Nat.lt_of_le_of_lt ((Classical.choose_spec (least hex2)).2 m hJm) ?_
    rw [hms1] at hmlt
    exact hmlt
  | exit i => exact other (by simp) q
  | goto l => exact other (by simp) q
  | ret => exact other (by simp) q
  | panic ch => exact other (by simp) q
  | outgrown => exact other (by simp) q
end
end Go.Vsi
/-! text R20 -/
namespace Go.Vsi
theorem LoopN.wkH [Glob] {P : Program} {kn : TypeId → Nat} {T : TypeId → Option TI} {N : FN} {n0 : Nat} {c : Code} {Q : QR} {top bot : RE} {base : Heap} {k : Nat} {loc : Heap} (loc' : Heap) (hw : WkH loc loc')
    (h : LoopN P kn T N n0 c Q top bot base k loc') : LoopN P kn T N n0 c Q top bot base k loc := by
  refine ⟨fun g w a hH hE => h.h g w a ?_ hE⟩
  have hk := hH.k
  simp only at hk
  subst hk
  have h1 := hH.of
  simp only [Hp.all] at h1
  have h2 := (h1.wkH (.app (.refl base) hw)).split
  rw [hw.len] at h2
  exact h2
end Go.Vsi
