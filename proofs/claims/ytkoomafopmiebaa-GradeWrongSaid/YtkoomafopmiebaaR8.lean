/- A text of the proof: R8. -/
import Derived.Test.YtkoomafopmiebaaR7
import Derived.IntWalk
set_option linter.unusedSimpArgs false
set_option linter.unusedVariables false
namespace Go.Vsi

/-! ### lists of encoded elements -/
theorem flat_drop {α : Type} {f : α → List AV} {sz : Nat} (hsz : ∀ x, (f x).length = sz) : ∀ (l : List α) (m : Nat) (x : α), l[m]? = some x → ∃ r, (l.flatMap f).drop (m * sz) = f x ++ r
  | [], m, x, h => by simp at h
  | y :: l, 0, x, h => by simp at h; subst h; exact ⟨l.flatMap f, by simp⟩
  | y :: l, m + 1, x, h => by
    obtain ⟨r, hr⟩ := flat_drop hsz l m x (by simpa using h)
    refine ⟨r, ?_⟩
    rw [List.flatMap_cons, show (m + 1) * sz = (f y).length + m * sz by rw [hsz, Nat.add_mul]; omega, ← List.drop_drop, List.drop_left, hr]

theorem SegN.nth {α : Type} {f : α → List AV} {sz : Nat} {l : List α} {i : Int} {k : List AV → Prop} (d : α) (m : Nat) (hi : i = m) (hm : m < l.length) (hsz : ∀ x, (f x).length = sz) (h : k (f (l.getD m d))) : SegN (l.flatMap f) (i.toNat * sz) k := by
  refine ⟨_, ?_, h⟩
  have hx : l[m]? = some (l.getD m d) := by simp [List.getElem?_eq_getElem hm]
  obtain ⟨r, hr⟩ := flat_drop hsz l m _ hx
  exact ⟨r, by rw [hi, Int.toNat_natCast, hr]⟩

theorem belowL_append {n : Nat} : ∀ (l m : List AV), belowL n (l ++ m) ↔ belowL n l ∧ belowL n m
  | [], m => by simp [belowL]
  | v :: l, m => by simp [belowL, belowL_append l m, and_assoc]
theorem belowL_flat {α : Type} {f : α → List AV} {n : Nat} (l : List α) (h : ∀ x, belowL n (f x)) : belowL n (l.flatMap f) := by
  induction l with
  | nil => simp [belowL]
  | cons x l ih => simp [belowL_append, h, ih]
theorem flat_length {α : Type} {f : α → List AV} {sz : Nat} (hsz : ∀ x, (f x).length = sz) (l : List α) : (l.flatMap f).length = l.length * sz := by
  induction l with
  | nil => simp
  | cons x l ih => simp [ih, hsz, Nat.add_mul, Nat.add_comm]

theorem w64 {n : Int} (h : -9223372036854775808 ≤ n ∧ n ≤ 9223372036854775807) : IntKind.i64.wrap n = n := IntWalk.i64_in n h

/-! ### integers under their plain names -/
section
variable {k : Int → Prop} {x y : Int}
theorem EqN.i64 (h : -9223372036854775808 ≤ x ∧ x ≤ 9223372036854775807) (a : k x) : EqN (IntKind.i64.wrap x) k := ⟨_, IntWalk.i64_in x h, a⟩
theorem EqN.i32 (h : -2147483648 ≤ x ∧ x ≤ 2147483647) (a : k x) : EqN (IntKind.i32.wrap x) k := ⟨_, IntWalk.i32_in x h, a⟩
theorem EqN.u8 (h : 0 ≤ x ∧ x ≤ 255) (a : k x) : EqN (IntKind.u8.wrap x) k := ⟨_, IntWalk.u8_in x h, a⟩
theorem EqN.u16 (h : 0 ≤ x ∧ x ≤ 65535) (a : k x) : EqN (IntKind.u16.wrap x) k := ⟨_, IntWalk.u16_in x h, a⟩
theorem EqN.u32 (h : 0 ≤ x ∧ x ≤ 4294967295) (a : k x) : EqN (IntKind.u32.wrap x) k := ⟨_, IntWalk.u32_in x h, a⟩
theorem EqN.u64 (h : 0 ≤ x ∧ x ≤ 18446744073709551615) (a : k x) : EqN (IntKind.u64.wrap x) k := ⟨_, IntWalk.u64_in x h, a⟩
theorem EqN.quo (h : 0 ≤ x ∧ x ≤ 9223372036854775807 ∧ 1 ≤ y) (a : k (x / y)) : EqN (IntKind.i64.wrap (x.tdiv y)) k := ⟨_, IntWalk.i64_quo x y h, a⟩
theorem EqN.quo8 (h : 0 ≤ x ∧ x ≤ 255 ∧ 1 ≤ y) (a : k (x / y)) : EqN (IntKind.u8.wrap (x.tdiv y)) k := ⟨_, IntWalk.u8_quo x y h, a⟩
theorem EqN.quou (h : 0 ≤ x ∧ x ≤ 18446744073709551615 ∧ 1 ≤ y) (a : k (x / y)) : EqN (IntKind.u64.wrap (x.tdiv y)) k := ⟨_, IntWalk.u64_quo x y h, a⟩
theorem EqN.rem (h : 0 ≤ x) (a : k (x % y)) : EqN (x.tmod y) k := ⟨_, Int.tmod_eq_emod_of_nonneg h, a⟩
theorem EqN.shr {b : Nat} (m : Nat) (hy : y = m) (hb : m ≤ b) (a : k (x / (2 : Int) ^ m)) : EqN (x.fdiv (2 ^ min y.toNat b)) k := ⟨_, by
  subst hy
  rw [Int.toNat_natCast, Nat.min_eq_left hb, Int.fdiv_eq_ediv_of_nonneg]
  exact Int.pow_nonneg (by omega), a⟩
end

theorem EqN.shrL {k : Int → Prop} {x y : Int} {b : Nat} (m : Nat) (M : Int) (hM : (2 : Int) ^ m = M) (hy : y = m) (hb : Nat.ble m b = true) (a : k (x / M)) : EqN (x.fdiv (2 ^ min y.toNat b)) k := by
  subst hM
  exact EqN.shr m hy (Nat.le_of_ble_eq_true hb) a

theorem EqN.shlU {k : Int → Prop} {x y : Int} {b : Nat} (m : Nat) (M : Int) (hM : (2 : Int) ^ m = M) (hy : y = m) (hb : Nat.ble m b = true) (h : 0 ≤ x * M ∧ x * M ≤ 18446744073709551615) (a : k (x * M)) : EqN (IntKind.u64.wrap (x * 2 ^ min y.toNat b)) k := by
  subst hM hy
  rw [Int.toNat_natCast, Nat.min_eq_left (Nat.le_of_ble_eq_true hb)]
  exact EqN.u64 h a
theorem EqN.shlI {k : Int → Prop} {x y : Int} {b : Nat} (m : Nat) (M : Int) (hM : (2 : Int) ^ m = M) (hy : y = m) (hb : Nat.ble m b = true) (h : -9223372036854775808 ≤ x * M ∧ x * M ≤ 9223372036854775807) (a : k (x * M)) : EqN (IntKind.i64.wrap (x * 2 ^ min y.toNat b)) k := by
  subst hM hy
  rw [Int.toNat_natCast, Nat.min_eq_left (Nat.le_of_ble_eq_true hb)]
  exact EqN.i64 h a

theorem FrzL.refl {n0 : Nat} {loc : Heap} : ∀ l : List AV, FrzL n0 loc l l
  | [] => .nil
  | v :: l => .cons (.refl v) (FrzL.refl l)

theorem OfsN.at_ {i : Int} {n : Nat} {k : Nat → Prop} (h : 0 ≤ i ∧ i < n) (a : k i.toNat) : OfsN i n k := ⟨i.toNat, by omega, by omega, a⟩
theorem NatN.at_ {i : Int} {k : Nat → Prop} (h : 0 ≤ i) (a : k i.toNat) : NatN i k := ⟨i.toNat, by omega, a⟩

theorem VDet.wk {P : Program} {F : FuncId} {as as' : List AV} {H : Heap} {v : AV} (h : VDet P F as' H v) (hw : WkL as as') : VDet P F as H v :=
  ⟨h.1, fun g w cs hH hl => h.2 g w cs hH (hw.rel hl)⟩

theorem map_take_succ {α β : Type} (f : α → β) (l : List α) (d : α) (k : Nat) (h : k < l.length) : (l.take k).map f ++ [f (l.getD k d)] = (l.take (k + 1)).map f := by
  rw [List.take_add_one, List.map_append]
  simp [List.getElem?_eq_getElem h]
theorem foldl_take {α β : Type} (f : β → α → β) (b : β) (l : List α) (d : α) (k : Nat) (h : k < l.length) : (l.take (k + 1)).foldl f b = f ((l.take k).foldl f b) (l.getD k d) := by
  rw [List.take_add_one, List.foldl_append]
  simp [List.getElem?_eq_getElem h]

/-! ### a loop, round by round -/
def rounds (P : Program) (kn : TypeId → Nat) (T : TypeId → Option TI) (N n0 : Nat) (c : Code) (Q : QR) (n : Nat) : RE → RE → Heap → Nat → Heap → Prop :=
  @Nat.rec (fun _ => RE → RE → Heap → Nat → Heap → Prop) (fun _ _ _ _ _ => False)
    (fun _ ih top bot base k loc => wpC P kn T N n0 c (fun e top bot base k loc => match e with
      | .normal => ih top bot base k loc
      | e => Q e top bot base k loc) top bot base k loc) n

section
variable {P : Program} {N : Nat} {n0 : Nat} {T : TypeId → Option TI} {kn : TypeId → Nat}
theorem rounds_code (he : Env0 P T kn) (hm : P.follows .mixedOrders = true) {c : Code} {Q : QR} {g0 : G} {w0 : World} {ds : List Deferred} : ∀ (n : Nat) (top bot : RE) (base : Heap) (k : Nat) (loc : Heap) (g : G) (w : World) (a : Act), base.length = n0 → HRel g w ⟨base, k, loc⟩ → ERel N g w (trE n0 (top ++ bot)) a → Ext g0 w0 g w → a.defers = ds →
    rounds P kn T N n0 c Q n top bot base k loc → LoopWp P c (Lift N (LS n0 Q) g0 w0 ds) a w
  | 0, _, _, _, _, _, _, _, _, _, _, _, _, _, h => h.elim
  | n + 1, top, bot, base, k, loc, g, w, a, hn, hH, hE, hx, hd, h => by
    have hw := wpC_sound he hm c _ top bot base k loc hn h g w a hH hE
    refine LoopWp.peel (Code.wp_mono ?_ hw)
    rintro e a2 w2 ⟨env2, hp2, g2, ⟨top2, bot2, base2, k2, loc2, hap, rfl, hn2, q⟩, hH2, hE2, hx2, hd2⟩
    have other : e ≠ .normal → Q e top2 bot2 base2 k2 loc2 → Lift N (LS n0 Q) g0 w0 ds e a2 w2 := fun _ hq =>
      ⟨env2, _, g2, ⟨top2, bot2, base2, k2, loc2, hap, rfl, hn2, hq⟩, hH2, hE2, hx.trans hx2, hd2.trans hd⟩
    cases e with
    | normal => exact rounds_code he hm n _ _ _ _ _ g2 w2 a2 hn2 hH2 ⟨hE2.1, fun s => hap s _ _ _ (hE2.2 s)⟩ (hx.trans hx2) (hd2.trans hd) q
    | exit i => exact other (by simp) q
    | goto l => exact other (by simp) q
    | ret => exact other (by simp) q
    | panic ch => exact other (by simp) q
    | outgrown => exact other (by simp) q

theorem LoopN.rounds (he : Env0 P T kn) (hm : P.follows .mixedOrders = true) (n : Nat) {c : Code} {Q : QR} {top bot : RE} {base : Heap} {k : Nat} {loc : Heap} (hn : base.length = n0) (h : rounds P kn T N n0 c Q n top bot base k loc) : LoopN P kn T N n0 c Q top bot base k loc :=
  ⟨fun g w a hH hE => (rounds_code he hm n top bot base k loc g w a hn hH hE (Ext.refl g w) rfl h)⟩

/-- before a loop: a nil slice gets a token of its own -/
theorem LoopN.tok (t : Nat) (e : TypeId) (sz : Nat) {c : Code} {Q : QR} {top bot : RE} {base : Heap} {k : Nat} {loc loc' : Heap} (hn : base.length = n0) (hv : rget2 top bot t = some (.v .nils)) (hl : snocC loc (.tok e sz 0) = some loc')
    (h : LoopN P kn T N n0 c Q ((t, .v (.sl (some (n0 + k)) 0 [])) :: top) bot base (k + 1) loc') : LoopN P kn T N n0 c Q top bot base k loc := by
  refine ⟨fun g w a hH hE => ?_⟩
  obtain ⟨g1, f1, f2, f3, f4⟩ := hH.nilTok e sz
  have hgn := hH.n
  simp only at hgn
  rw [snocC_eq _ _ _ hl] at h
  refine LoopWp.mono (h.h g1 w a f3 ⟨hE.1, fun s => ?_⟩) (fun _ _ _ hl => Lift.of_later f4 hl)
  simp only [List.cons_append, trE]
  by_cases hs : t = s
  · subst hs
    rw [get_put_same]
    have h0 := hE.2 t
    rw [rget2_get hv] at h0
    simp only [tr, VRel] at h0 ⊢
    refine ⟨none, 0, h0, Nat.le_refl _, .inl trivial, fun t ht => ?_⟩
    cases ht
    rw [← hn, ← hgn]
    refine ⟨f1, by simp, fun _ => ?_⟩
    rw [f2]
    simp
  · rw [get_put_ne _ _ hs]
    exact VRel.ext f4 _ _ (hE.2 s)

/-- before a loop: a nil slice in a box gets a token of its own -/
theorem LoopN.tokB (i j : Nat) (e : TypeId) (sz : Nat) {c : Code} {Q : QR} {top bot : RE} {base : Heap} {k : Nat} {loc loc1 loc' : Heap} {bt : TypeId} {l l' : List AV} (hn : base.length = n0) (hb : lget loc i = some (.box bt l)) (hv : lget l j = some .nils) (hs : lset l j (.sl (some (n0 + k)) 0 []) = some l') (hl : snocC loc (.tok e sz 0) = some loc1) (h1 : lset loc1 i (.box bt l') = some loc')
    (h : LoopN P kn T N n0 c Q top bot base (k + 1) loc') : LoopN P kn T N n0 c Q top bot base k loc := by
  refine ⟨fun g w a hH hE => ?_⟩
  rw [snocC_eq _ _ _ hl] at h1
  obtain ⟨g1, f3, f4⟩ := hH.tokBox (at_loc hb) hv (by rw [← hn] at hs; exact hs) (put_loc h1)
  exact LoopWp.mono (h.h g1 w a f3 ⟨hE.1, fun s => VRel.ext f4 _ _ (hE.2 s)⟩) (fun _ _ _ hl => Lift.of_later f4 hl)

/-- one round, then the loop again -/
theorem LoopN.once (he : Env0 P T kn) (hm : P.follows .mixedOrders = true) {c : Code} {Q : QR} {top bot : RE} {base : Heap} {k : Nat} {loc : Heap} (hn : base.length = n0)
    (h : wpC P kn T N n0 c (fun e top bot base k loc => match e with
      | .normal => LoopN P kn T N n0 c Q top bot base k loc
      | e => Q e top bot base k loc) top bot base k loc) : LoopN P kn T N n0 c Q top bot base k loc := by
  refine ⟨fun g w a hH hE => ?_⟩
  refine LoopWp.peel (Code.wp_mono ?_ (wpC_sound he hm c _ top bot base k loc hn h g w a hH hE))
  rintro e a2 w2 ⟨env2, hp2, g2, ⟨top2, bot2, base2, k2, loc2, hap, rfl, hn2, q⟩, hH2, hE2, hx2, hd2⟩
  have other : e ≠ .normal → Q e top2 bot2 base2 k2 loc2 → Lift N (LS n0 Q) g w a.defers e a2 w2 := fun _ hq =>
    ⟨env2, _, g2, ⟨top2, bot2, base2, k2, loc2, hap, rfl, hn2, hq⟩, hH2, hE2, hx2, hd2⟩
  cases e with
  | normal =>
    have := q.h g2 w2 a2 hH2 ⟨hE2.1, fun s => hap s _ _ _ (hE2.2 s)⟩
    exact LoopWp.mono this (fun e a3 w3 hl => by rw [hd2] at hl; exact Lift.of_later hx2 hl)
  | exit i => exact other (by simp) q
  | goto l => exact other (by simp) q
  | ret => exact other (by simp) q
  | panic ch => exact other (by simp) q
  | outgrown => exact other (by simp) q
end
end Go.Vsi
