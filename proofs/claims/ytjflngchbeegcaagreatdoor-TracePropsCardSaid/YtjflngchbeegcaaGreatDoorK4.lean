/- A text of the proof: the parts R8, R9, R10, R11, R12, R13, R14, B0, B1, B2, B3. -/
import Derived.IntWalk
import Derived.RowKit
import Derived.RowKit3
import Derived.WideKeyArgs
import Derived.OpenShut
import Derived.Test.YtjflngchbeegcaaGreatDoorK3
set_option linter.unusedSimpArgs false
set_option linter.unusedVariables false
/-! text R8 -/
namespace Go.Vsi

/-! ### lists of encoded elements -/
theorem flat_drop {α : Type} {f : α → List AV} {sz : Nat} (hsz : ∀ x, (f x).length = sz) : ∀ (l : List α) (m : Nat) (x : α), l[m]? = some x → ∃ r, (l.flatMap f).drop (m * sz) = f x ++ r
  | [], m, x, h => by simp at h
  | y :: l, 0, x, h => by simp at h; subst h; exact ⟨l.flatMap f, by simp⟩
  | y :: l, m + 1, x, h => by
    obtain ⟨r, hr⟩ := flat_drop hsz l m x (by simpa using h)
    refine ⟨r, ?_⟩
    rw [List.flatMap_cons, show (m + 1) * sz = (f y).length + m * sz by rw [hsz, Nat.add_mul]; omega, ← List.drop_drop, List.drop_left, hr]

theorem SegN.nth {α : Type} {f : α → List AV} {sz : Nat} {l : List α} {i : Int} {k : List AV → Prop} (d : α) (m : Nat) (hi : i = m) (hm : m < l.length) (hsz : ∀ x, (f x).length = sz) (h : k (f (l.getD m d))) : SegN (l.flatMap f) (i.toNat * sz) k := by
  refine ⟨_, ?_, h⟩
  have hx : l[m]? = some (l.getD m d) := by simp [List.getElem?_eq_getElem hm]
  obtain ⟨r, hr⟩ := flat_drop hsz l m _ hx
  exact ⟨r, by rw [hi, Int.toNat_natCast, hr]⟩

theorem belowL_append {n : Nat} : ∀ (l m : List AV), belowL n (l ++ m) ↔ belowL n l ∧ belowL n m
  | [], m => by simp [belowL]
  | v :: l, m => by simp [belowL, belowL_append l m, and_assoc]
theorem belowL_flat {α : Type} {f : α → List AV} {n : Nat} (l : List α) (h : ∀ x, belowL n (f x)) : belowL n (l.flatMap f) := by
  induction l with
  | nil => simp [belowL]
  | cons x l ih => simp [belowL_append, h, ih]
theorem flat_length {α : Type} {f : α → List AV} {sz : Nat} (hsz : ∀ x, (f x).length = sz) (l : List α) : (l.flatMap f).length = l.length * sz := by
  induction l with
  | nil => simp
  | cons x l ih => simp [ih, hsz, Nat.add_mul, Nat.add_comm]

theorem w64 {n : Int} (h : -9223372036854775808 ≤ n ∧ n ≤ 9223372036854775807) : IntKind.i64.wrap n = n := IntWalk.i64_in n h

/-! ### integers under their plain names -/
section
variable {k : Int → Prop} {x y : Int}
theorem EqN.i64 (h : -9223372036854775808 ≤ x ∧ x ≤ 9223372036854775807) (a : k x) : EqN (IntKind.i64.wrap x) k := ⟨_, IntWalk.i64_in x h, a⟩
theorem EqN.i32 (h : -2147483648 ≤ x ∧ x ≤ 2147483647) (a : k x) : EqN (IntKind.i32.wrap x) k := ⟨_, IntWalk.i32_in x h, a⟩
theorem EqN.u8 (h : 0 ≤ x ∧ x ≤ 255) (a : k x) : EqN (IntKind.u8.wrap x) k := ⟨_, IntWalk.u8_in x h, a⟩
theorem EqN.u16 (h : 0 ≤ x ∧ x ≤ 65535) (a : k x) : EqN (IntKind.u16.wrap x) k := ⟨_, IntWalk.u16_in x h, a⟩
theorem EqN.u32 (h : 0 ≤ x ∧ x ≤ 4294967295) (a : k x) : EqN (IntKind.u32.wrap x) k := ⟨_, IntWalk.u32_in x h, a⟩
theorem EqN.u64 (h : 0 ≤ x ∧ x ≤ 18446744073709551615) (a : k x) : EqN (IntKind.u64.wrap x) k := ⟨_, IntWalk.u64_in x h, a⟩
theorem EqN.quo (h : 0 ≤ x ∧ x ≤ 9223372036854775807 ∧ 1 ≤ y) (a : k (x / y)) : EqN (IntKind.i64.wrap (x.tdiv y)) k := ⟨_, IntWalk.i64_quo x y h, a⟩
theorem EqN.quo8 (h : 0 ≤ x ∧ x ≤ 255 ∧ 1 ≤ y) (a : k (x / y)) : EqN (IntKind.u8.wrap (x.tdiv y)) k := ⟨_, IntWalk.u8_quo x y h, a⟩
theorem EqN.quou (h : 0 ≤ x ∧ x ≤ 18446744073709551615 ∧ 1 ≤ y) (a : k (x / y)) : EqN (IntKind.u64.wrap (x.tdiv y)) k := ⟨_, IntWalk.u64_quo x y h, a⟩
theorem EqN.rem (h : 0 ≤ x) (a : k (x % y)) : EqN (x.tmod y) k := ⟨_, Int.tmod_eq_emod_of_nonneg h, a⟩
theorem EqN.shr {b : Nat} (m : Nat) (hy : y = m) (hb : m ≤ b) (a : k (x / (2 : Int) ^ m)) : EqN (x.fdiv (2 ^ min y.toNat b)) k := ⟨_, by
  subst hy
  rw [Int.toNat_natCast, Nat.min_eq_left hb, Int.fdiv_eq_ediv_of_nonneg]
  exact Int.pow_nonneg (by omega), a⟩
end

theorem EqN.shrL {k : Int → Prop} {x y : Int} {b : Nat} (m : Nat) (M : Int) (hM : (2 : Int) ^ m = M) (hy : y = m) (hb : Nat.ble m b = true) (a : k (x / M)) : EqN (x.fdiv (2 ^ min y.toNat b)) k := by
  subst hM
  exact EqN.shr m hy (Nat.le_of_ble_eq_true hb) a

theorem EqN.shlU {k : Int → Prop} {x y : Int} {b : Nat} (m : Nat) (M : Int) (hM : (2 : Int) ^ m = M) (hy : y = m) (hb : Nat.ble m b = true) (h : 0 ≤ x * M ∧ x * M ≤ 18446744073709551615) (a : k (x * M)) : EqN (IntKind.u64.wrap (x * 2 ^ min y.toNat b)) k := by
  subst hM hy
  rw [Int.toNat_natCast, Nat.min_eq_left (Nat.le_of_ble_eq_true hb)]
  exact EqN.u64 h a
theorem EqN.shlI {k : Int → Prop} {x y : Int} {b : Nat} (m : Nat) (M : Int) (hM : (2 : Int) ^ m = M) (hy : y = m) (hb : Nat.ble m b = true) (h : -9223372036854775808 ≤ x * M ∧ x * M ≤ 9223372036854775807) (a : k (x * M)) : EqN (IntKind.i64.wrap (x * 2 ^ min y.toNat b)) k := by
  subst hM hy
  rw [Int.toNat_natCast, Nat.min_eq_left (Nat.le_of_ble_eq_true hb)]
  exact EqN.i64 h a

theorem FrzL.refl {n0 : Nat} {loc : Heap} : ∀ l : List AV, FrzL n0 loc l l
  | [] => .nil
  | v :: l => .cons (.refl v) (FrzL.refl l)

theorem OfsN.at_ {i : Int} {n : Nat} {k : Nat → Prop} (h : 0 ≤ i ∧ i < n) (a : k i.toNat) : OfsN i n k := ⟨i.toNat, by omega, by omega, a⟩
theorem NatN.at_ {i : Int} {k : Nat → Prop} (h : 0 ≤ i) (a : k i.toNat) : NatN i k := ⟨i.toNat, by omega, a⟩

theorem VDet.wk [Glob] {P : Program} {F : FuncId} {as as' : List AV} {H : Heap} {v : AV} (h : VDet P F as' H v) (hw : WkL as as') : VDet P F as H v :=
  ⟨h.1, fun g w cs hH hl => h.2 g w cs hH (hw.rel hl)⟩

theorem map_take_succ {α β : Type} (f : α → β) (l : List α) (d : α) (k : Nat) (h : k < l.length) : (l.take k).map f ++ [f (l.getD k d)] = (l.take (k + 1)).map f := by
  rw [List.take_add_one, List.map_append]
  simp [List.getElem?_eq_getElem h]
theorem foldl_take {α β : Type} (f : β → α → β) (b : β) (l : List α) (d : α) (k : Nat) (h : k < l.length) : (l.take (k + 1)).foldl f b = f ((l.take k).foldl f b) (l.getD k d) := by
  rw [List.take_add_one, List.foldl_append]
  simp [List.getElem?_eq_getElem h]

/-! ### a loop, round by round -/
def rounds [Glob] (P : Program) (kn : TypeId → Nat) (T : TypeId → Option TI) (N : FN) (n0 : Nat) (c : Code) (Q : QR) (n : Nat) : RE → RE → Heap → Nat → Heap → Prop :=
  @Nat.rec (fun _ => RE → RE → Heap → Nat → Heap → Prop) (fun _ _ _ _ _ => False)
    (fun _ ih top bot base k loc => wpC P kn T N n0 c (fun e top bot base k loc => match e with
      | .normal => ih top bot base k loc
      | e => Q e top bot base k loc) top bot base k loc) n

section
variable {P : Program} {N : FN} {n0 : Nat} {T : TypeId → Option TI} {kn : TypeId → Nat}
theorem rounds_code [Glob] (he : Env0 P T kn) (hm : P.follows .mixedOrders = true) {c : Code} {Q : QR} {g0 : G} {w0 : World} {ds : List Deferred} : ∀ (n : Nat) (top bot : RE) (base : Heap) (k : Nat) (loc : Heap) (g : G) (w : World) (a : Act), base.length = n0 → HRel g w ⟨base, k, loc⟩ → ERel N g w (trE n0 (top ++ bot)) a → Ext g0 w0 g w → DRel w0 ds g w a.defers →
    rounds P kn T N n0 c Q n top bot base k loc → LoopWp (N.fo g) P c (Lift N (LS n0 Q) g0 w0 ds) a w
  | 0, _, _, _, _, _, _, _, _, _, _, _, _, _, h => h.elim
  | n + 1, top, bot, base, k, loc, g, w, a, hn, hH, hE, hx, hd, h => by
    have hw := wpC_sound he hm c _ top bot base k loc hn h g w a hH hE
    refine LoopWp.peel (Code.wpIn_mono ?_ hw)
    rintro e a2 w2 ⟨env2, hp2, g2, ⟨top2, bot2, base2, k2, loc2, hap, rfl, hn2, q⟩, hH2, hE2, hx2, hd2⟩
    have other : e ≠ .normal → Q e top2 bot2 base2 k2 loc2 → Lift N (LS n0 Q) g0 w0 ds e a2 w2 := fun _ hq =>
      ⟨env2, _, g2, ⟨top2, bot2, base2, k2, loc2, hap, rfl, hn2, hq⟩, hH2, hE2, hx.trans hx2, hd.trans hx2 hx.size hd2⟩
    cases e with
    | normal =>
      have := rounds_code he hm n _ _ _ _ _ g2 w2 a2 hn2 hH2 ⟨hE2.1, fun s => hap s _ _ _ (hE2.rel s), hE2.ro, hE2.glob⟩ (hx.trans hx2) (hd.trans hx2 hx.size hd2) q
      rw [hE.fo hx2] at this
      exact this
    | exit i => exact other (by simp) q
    | goto l => exact other (by simp) q
    | ret => exact other (by simp) q
    | panic ch => exact other (by simp) q
    | outgrown => exact other (by simp) q

theorem LoopN.rounds [Glob] (he : Env0 P T kn) (hm : P.follows .mixedOrders = true) (n : Nat) {c : Code} {Q : QR} {top bot : RE} {base : Heap} {k : Nat} {loc : Heap} (hn : base.length = n0) (h : rounds P kn T N n0 c Q n top bot base k loc) : LoopN P kn T N n0 c Q top bot base k loc :=
  ⟨fun g w a hH hE => (rounds_code he hm n top bot base k loc g w a hn hH hE (Ext.refl g w) (DRel.refl _ _ _ _) h)⟩

/-- before a loop: a nil slice gets a token of its own -/
theorem LoopN.tok [Glob] (t : Nat) (e : TypeId) (sz : Nat) {c : Code} {Q : QR} {top bot : RE} {base : Heap} {k : Nat} {loc loc' : Heap} (hn : base.length = n0) (hv : rget2 top bot t = some (.v .nils)) (hl : snocC loc (.tok e sz 0) = some loc')
    (h : LoopN P kn T N n0 c Q ((t, .v (.sl (some (n0 + k)) 0 [])) :: top) bot base (k + 1) loc') : LoopN P kn T N n0 c Q top bot base k loc := by
  refine ⟨fun g w a hH hE => ?_⟩
  obtain ⟨g1, f1, f2, f3, f4⟩ := hH.nilTok e sz
  have hgn := hH.n
  simp only at hgn
  rw [snocC_eq _ _ _ hl] at h
  have hE' := hE.ext f4
  rw [← hE.fo f4]
  refine LoopWp.mono (h.h g1 w a f3 ⟨hE.1, fun s => ?_, hE'.ro, hE'.glob⟩) (fun _ _ _ hl => Lift.of_later f4 (DRel.refl _ _ _ _) hl)
  simp only [List.cons_append, trE]
  by_cases hs : t = s
  · subst hs
    rw [get_put_same]
    have h0 := hE.rel t
    rw [rget2_get hv] at h0
    simp only [tr, VRel] at h0 ⊢
    refine ⟨none, 0, h0, Nat.le_refl _, .inl trivial, fun t ht => ?_⟩
    cases ht
    rw [← hn, ← hgn]
    refine ⟨f1, by simp, fun _ => ?_⟩
    rw [f2]
    simp
  · rw [get_put_ne _ _ hs]
    exact VRel.ext f4 _ _ (hE.rel s)

/-- before a loop: a nil slice in a box gets a token of its own -/
theorem LoopN.tokB [Glob] (i j : Nat) (e : TypeId) (sz : Nat) {c : Code} {Q : QR} {top bot : RE} {base : Heap} {k : Nat} {loc loc1 loc' : Heap} {bt : TypeId} {l l' : List AV} (hn : base.length = n0) (hb : lget loc i = some (.box bt l)) (hv : lget l j = some .nils) (hs : lset l j (.sl (some (n0 + k)) 0 []) = some l') (hl : snocC loc (.tok e sz 0) = some loc1) (h1 : lset loc1 i (.box bt l') = some loc')
    (h : LoopN P kn T N n0 c Q top bot base (k + 1) loc') : LoopN P kn T N n0 c Q top bot base k loc := by
  refine ⟨fun g w a hH hE => ?_⟩
  rw [snocC_eq _ _ _ hl] at h1
  obtain ⟨g1, f3, f4⟩ := hH.tokBox (at_loc hb) hv (by rw [← hn] at hs; exact hs) (put_loc h1)
  rw [← hE.fo f4]
  exact LoopWp.mono (h.h g1 w a f3 (hE.ext f4)) (fun _ _ _ hl => Lift.of_later f4 (DRel.refl _ _ _ _) hl)

/-- one round, then the loop again -/
theorem LoopN.once [Glob] (he : Env0 P T kn) (hm : P.follows .mixedOrders = true) {c : Code} {Q : QR} {top bot : RE} {base : Heap} {k : Nat} {loc : Heap} (hn : base.length = n0)
    (h : wpC P kn T N n0 c (fun e top bot base k loc => match e with
      | .normal => LoopN P kn T N n0 c Q top bot base k loc
      | e => Q e top bot base k loc) top bot base k loc) : LoopN P kn T N n0 c Q top bot base k loc := by
  refine ⟨fun g w a hH hE => ?_⟩
  refine LoopWp.peel (Code.wpIn_mono ?_ (wpC_sound he hm c _ top bot base k loc hn h g w a hH hE))
  rintro e a2 w2 ⟨env2, hp2, g2, ⟨top2, bot2, base2, k2, loc2, hap, rfl, hn2, q⟩, hH2, hE2, hx2, hd2⟩
  have other : e ≠ .normal → Q e top2 bot2 base2 k2 loc2 → Lift N (LS n0 Q) g w a.defers e a2 w2 := fun _ hq =>
    ⟨env2, _, g2, ⟨top2, bot2, base2, k2, loc2, hap, rfl, hn2, hq⟩, hH2, hE2, hx2, hd2⟩
  cases e with
  | normal =>
    have := q.h g2 w2 a2 hH2 ⟨hE2.1, fun s => hap s _ _ _ (hE2.rel s), hE2.ro, hE2.glob⟩
    rw [hE.fo hx2] at this
    exact LoopWp.mono this (fun e a3 w3 hl => Lift.of_later hx2 hd2 hl)
  | exit i => exact other (by simp) q
  | goto l => exact other (by simp) q
  | ret => exact other (by simp) q
  | panic ch => exact other (by simp) q
  | outgrown => exact other (by simp) q
end
end Go.Vsi
/-! text R9 -/
namespace Go.Vsi
theorem SubN.flat {α : Type} {f : α → List AV} {sz : Nat} {l : List α} {lo n : Nat} {k : List AV → Prop} (hsz : ∀ x, (f x).length = sz) (h : lo + n ≤ l.length) (a : k (((l.drop lo).take n).flatMap f)) : SubN (l.flatMap f) (lo * sz) (n * sz) k := by
  have key : ∀ (l : List α) (m : Nat), (l.flatMap f).drop (m * sz) = (l.drop m).flatMap f := by
    intro l
    induction l with
    | nil => intro m; simp
    | cons x l ih =>
      intro m
      cases m with
      | zero => simp
      | succ m =>
        rw [List.flatMap_cons, show (m + 1) * sz = (f x).length + m * sz by rw [hsz, Nat.add_mul]; omega, ← List.drop_drop, List.drop_left, ih]
        rfl
  refine ⟨_, ⟨⟨((l.drop lo).drop n).flatMap f, ?_⟩, ?_⟩, a⟩
  · rw [key, ← List.flatMap_append, List.take_append_drop]
  · rw [flat_length hsz, List.length_take, List.length_drop, Nat.min_eq_left (by omega)]
theorem allOne_append : ∀ {l m : List AV}, allOne l = true → allOne m = true → allOne (l ++ m) = true
  | [], _, _, h => h
  | v :: l, m, h1, h2 => by
    simp only [List.cons_append, allOne] at h1 ⊢
    split at h1
    · exact allOne_append h1 h2
    · cases h1
theorem allOne_flat {α : Type} {f : α → List AV} (h : ∀ x, allOne (f x) = true) : ∀ l : List α, allOne (l.flatMap f) = true
  | [] => rfl
  | x :: l => by rw [List.flatMap_cons]; exact allOne_append (h x) (allOne_flat h l)
end Go.Vsi
/-! text R10 -/
namespace Go.Vsi

/-! ### lemmas for the nodes of a walk: bits of natural numbers -/
theorem bits_of (op : BinOp) (m n r : Nat) (hr : r < 9223372036854775808)
    (h : (match op with
      | .and => BitVec.ofInt 64 (m : Int) &&& BitVec.ofInt 64 (n : Int)
      | .or => BitVec.ofInt 64 (m : Int) ||| BitVec.ofInt 64 (n : Int)
      | .xor => BitVec.ofInt 64 (m : Int) ^^^ BitVec.ofInt 64 (n : Int)
      | _ => BitVec.ofInt 64 (m : Int) &&& ~~~BitVec.ofInt 64 (n : Int)).toNat = r) : bits op .i64 m n = (r : Int) := by
  unfold bits
  have h2 : IntKind.i64.wrap (r : Int) = r := w64 (by omega)
  rw [← h2, ← h]
  cases op <;> rfl
theorem ofInt64 (m : Nat) (h : m < 9223372036854775808) : (BitVec.ofInt 64 (m : Int)).toNat = m := by
  rw [BitVec.toNat_ofInt]
  have : ((m : Int) % ((2 ^ 64 : Nat) : Int)) = m := by
    rw [Int.emod_eq_of_lt (by omega) (by have : (2 ^ 64 : Nat) = 18446744073709551616 := rfl; omega)]
  rw [this]; simp
section
variable {x y : Int} {k : Int → Prop}
theorem EqN.and (m n : Nat) (hx : x = m) (hy : y = n) (h : m < 9223372036854775808 ∧ n < 9223372036854775808) (a : k ((m &&& n : Nat) : Int)) : EqN (bits .and .i64 x y) k := by
  subst hx hy
  refine ⟨_, bits_of .and m n _ (Nat.lt_of_le_of_lt Nat.and_le_left h.1) ?_, a⟩
  simp only [BitVec.toNat_and, ofInt64 m h.1, ofInt64 n h.2]
theorem EqN.or (m n : Nat) (hx : x = m) (hy : y = n) (h : m < 9223372036854775808 ∧ n < 9223372036854775808) (a : k ((m ||| n : Nat) : Int)) : EqN (bits .or .i64 x y) k := by
  subst hx hy
  refine ⟨_, bits_of .or m n _ (Nat.or_lt_two_pow (n := 63) h.1 h.2) ?_, a⟩
  simp only [BitVec.toNat_or, ofInt64 m h.1, ofInt64 n h.2]
theorem EqN.xor (m n : Nat) (hx : x = m) (hy : y = n) (h : m < 9223372036854775808 ∧ n < 9223372036854775808) (a : k ((m ^^^ n : Nat) : Int)) : EqN (bits .xor .i64 x y) k := by
  subst hx hy
  refine ⟨_, bits_of .xor m n _ (Nat.xor_lt_two_pow (n := 63) h.1 h.2) ?_, a⟩
  simp only [BitVec.toNat_xor, ofInt64 m h.1, ofInt64 n h.2]
theorem andNot_nat (m n : Nat) (hm : m < 9223372036854775808) (hn : n < 9223372036854775808) : (BitVec.ofInt 64 (m : Int) &&& ~~~BitVec.ofInt 64 (n : Int)).toNat = m ^^^ (m &&& n) := by
  apply Nat.eq_of_testBit_eq
  intro i
  rw [BitVec.toNat_and, ofInt64 m hm, Nat.testBit_and, Nat.testBit_xor, Nat.testBit_and]
  by_cases hi : i < 64
  · have : (~~~BitVec.ofInt 64 (n : Int)).toNat.testBit i = !n.testBit i := by
      have h1 : (~~~BitVec.ofInt 64 (n : Int)).toNat.testBit i = (~~~BitVec.ofInt 64 (n : Int)).getLsbD i := rfl
      have h2 : (BitVec.ofInt 64 (n : Int)).getLsbD i = (BitVec.ofInt 64 (n : Int)).toNat.testBit i := rfl
      rw [h1, BitVec.getLsbD_not, h2, ofInt64 n hn]
      simp [hi]
    rw [this]
    cases m.testBit i <;> cases n.testBit i <;> rfl
  · have : m.testBit i = false := Nat.testBit_lt_two_pow (Nat.lt_of_lt_of_le hm (Nat.le_trans (by decide : 9223372036854775808 ≤ 2 ^ 64) (Nat.pow_le_pow_right (by decide) (by omega))))
    rw [this]; rfl
theorem EqN.andNot (m n : Nat) (hx : x = m) (hy : y = n) (h : m < 9223372036854775808 ∧ n < 9223372036854775808) (a : k ((m ^^^ (m &&& n) : Nat) : Int)) : EqN (bits .andNot .i64 x y) k := by
  subst hx hy
  exact ⟨_, bits_of .andNot m n _ (Nat.xor_lt_two_pow (n := 63) h.1 (Nat.lt_of_le_of_lt Nat.and_le_left h.1)) (andNot_nat m n h.1 h.2), a⟩
theorem EqN.shrN {b : Nat} (m n : Nat) (hx : x = m) (hy : y = n) (hb : Nat.ble 63 b = true) (h : n ≤ 63) (a : k ((m >>> n : Nat) : Int)) : EqN (x.fdiv (2 ^ min y.toNat b)) k := by
  subst hx hy
  refine ⟨_, ?_, a⟩
  rw [Int.toNat_natCast, Nat.min_eq_left (Nat.le_trans h (Nat.le_of_ble_eq_true hb)), Nat.shiftRight_eq_div_pow]
  have : ((2 : Int) ^ n) = ((2 ^ n : Nat) : Int) := by simp
  rw [this, Int.fdiv_eq_ediv_of_nonneg _ (Int.natCast_nonneg _)]
  simp
theorem EqN.shlN {b : Nat} (m n : Nat) (hx : x = m) (hy : y = n) (hb : Nat.ble 63 b = true) (h : n ≤ 63) (hr : m <<< n < 9223372036854775808) (a : k ((m <<< n : Nat) : Int)) : EqN (IntKind.i64.wrap (x * 2 ^ min y.toNat b)) k := by
  subst hx hy
  refine ⟨_, ?_, a⟩
  rw [Int.toNat_natCast, Nat.min_eq_left (Nat.le_trans h (Nat.le_of_ble_eq_true hb))]
  rw [Nat.shiftLeft_eq] at hr ⊢
  have : ((2 : Int) ^ n) = ((2 ^ n : Nat) : Int) := by simp
  rw [this, ← Int.natCast_mul]
  exact w64 (by omega)
/-- a sum, a difference, a remainder of natural numbers -/
theorem EqN.addN (m n : Nat) (hx : x = m) (hy : y = n) (h : m + n < 9223372036854775808) (a : k ((m + n : Nat) : Int)) : EqN (IntKind.i64.wrap (x + y)) k := by
  subst hx hy
  exact ⟨_, by rw [← Int.natCast_add]; exact w64 (by omega), a⟩
theorem EqN.subN (m n : Nat) (hx : x = m) (hy : y = n) (h : n ≤ m ∧ m < 9223372036854775808) (a : k ((m - n : Nat) : Int)) : EqN (IntKind.i64.wrap (x - y)) k := by
  subst hx hy
  exact ⟨_, by rw [← Int.natCast_sub h.1]; exact w64 (by omega), a⟩
theorem EqN.mulN (m n : Nat) (hx : x = m) (hy : y = n) (h : m * n < 9223372036854775808) (a : k ((m * n : Nat) : Int)) : EqN (IntKind.i64.wrap (x * y)) k := by
  subst hx hy
  exact ⟨_, by rw [← Int.natCast_mul]; exact w64 (by omega), a⟩
theorem EqN.remN (m n : Nat) (hx : x = m) (hy : y = n) (a : k ((m % n : Nat) : Int)) : EqN (x.tmod y) k := by
  subst hx hy
  exact ⟨_, by rw [Int.tmod_eq_emod_of_nonneg (by omega)]; simp, a⟩
end

theorem IfN.id {b : Bool} {A B : Prop} (h : IfN b A B) : IfN b A B := h
theorem EqN.id {x : Int} {k : Int → Prop} (h : EqN x k) : EqN x k := h
theorem PtrN.id {n0 : Nat} {base : Heap} {i : Nat} {kl : Nat → Prop} {kb : Blk → Prop} (h : PtrN n0 base i kl kb) : PtrN n0 base i kl kb := h
theorem CallN.id [Glob] {P : Program} {F : Fn} {as : List AV} {n0 : Nat} {base : Heap} {k : Nat} {loc : Heap} {K : AV → Heap → Nat → Heap → Prop} (h : CallN P F as n0 base k loc K) : CallN P F as n0 base k loc K := h
theorem CallD.id [Glob] {W : List Nat} {P : Program} {F : Fn} {as : List AV} {n0 : Nat} {base loc0 b1 loc : Heap} {K : AV → Prop} {K3 : AV → Heap → Nat → Heap → Prop} (h : CallD W P F as n0 base loc0 b1 loc K K3) : CallD W P F as n0 base loc0 b1 loc K K3 := h

/-! ### memory -/
theorem at_loc' {base loc : Heap} {j : Nat} {B : Blk} (X : Heap) (h : lget loc j = some B) : ((base ++ loc) ++ X)[base.length + j]? = some B := by
  rw [lget_eq] at h
  have hj := (List.getElem?_eq_some_iff.1 h).1
  rw [List.append_assoc, List.getElem?_append_right (Nat.le_add_right ..), Nat.add_sub_cancel_left, List.getElem?_append_left hj]
  exact h
/-- .. and whatever its owners have used since -/
theorem at_tq {base loc l1 : Heap} {j : Nat} {B : Blk} (X : Heap) {W : List Nat} (hq : Tq W loc l1) (h : lget loc j = some B) (hB : B.isTok = false) (hw : inW W j = false) : ((base ++ l1) ++ X)[base.length + j]? = some B := at_loc' X (hq.get h hB hw)
theorem at_loc0 {base loc : Heap} {j : Nat} {B : Blk} (h : lget loc j = some B) : (base ++ loc)[base.length + j]? = some B := by
  have := at_loc' (base := base) [] h
  rwa [List.append_nil] at this
theorem set_loc' {base loc : Heap} {j : Nat} {B : Blk} : (base ++ loc).set (base.length + j) B = base ++ loc.set j B := by
  rw [List.set_append_right _ _ (Nat.le_add_right ..), Nat.add_sub_cancel_left]
theorem set_base' {base loc : Heap} {i : Nat} {B B' : Blk} (h : base[i]? = some B') : (base ++ loc).set i B = base.set i B ++ loc :=
  List.set_append_left _ _ (List.getElem?_eq_some_iff.1 h).1
theorem at_base' {base loc : Heap} {i : Nat} {B : Blk} (h : base[i]? = some B) : (base ++ loc)[i]? = some B := by
  rw [List.getElem?_append_left (List.getElem?_eq_some_iff.1 h).1]; exact h
theorem at_set {base : Heap} {i : Nat} {B B' : Blk} (h : base[i]? = some B') : (base.set i B)[i]? = some B := by
  rw [List.getElem?_set_self (List.getElem?_eq_some_iff.1 h).1]
theorem at_setNe {base : Heap} {i j : Nat} {B B' : Blk} (hij : i ≠ j) (h : base[j]? = some B') : (base.set i B)[j]? = some B' := by
  rw [List.getElem?_set_ne hij]; exact h

theorem cst0 : (0 : Int) = ((0 : Nat) : Int) := rfl
theorem cst1 : (1 : Int) = ((1 : Nat) : Int) := rfl
theorem cst2 : (2 : Int) = ((2 : Nat) : Int) := rfl
theorem cst3 : (3 : Int) = ((3 : Nat) : Int) := rfl
theorem cst4 : (4 : Int) = ((4 : Nat) : Int) := rfl
theorem cst5 : (5 : Int) = ((5 : Nat) : Int) := rfl
theorem cst6 : (6 : Int) = ((6 : Nat) : Int) := rfl
theorem cst7 : (7 : Int) = ((7 : Nat) : Int) := rfl
theorem cst8 : (8 : Int) = ((8 : Nat) : Int) := rfl
theorem cst14 : (14 : Int) = ((14 : Nat) : Int) := rfl
theorem cst15 : (15 : Int) = ((15 : Nat) : Int) := rfl
theorem cst25 : (25 : Int) = ((25 : Nat) : Int) := rfl
theorem cst30 : (30 : Int) = ((30 : Nat) : Int) := rfl
theorem cst31 : (31 : Int) = ((31 : Nat) : Int) := rfl
/-! ### bounds -/
theorem bnd_andl {m n B : Nat} (h : m < B) : m &&& n < B := Nat.lt_of_le_of_lt Nat.and_le_left h
theorem bnd_andr {m n B : Nat} (h : n < B) : m &&& n < B := Nat.lt_of_le_of_lt Nat.and_le_right h
theorem bnd_or {m n : Nat} (h1 : m < 9223372036854775808) (h2 : n < 9223372036854775808) : m ||| n < 9223372036854775808 := Nat.or_lt_two_pow (n := 63) h1 h2
theorem bnd_or31 {m n : Nat} (h1 : m < 2147483648) (h2 : n < 2147483648) : m ||| n < 2147483648 := Nat.or_lt_two_pow (n := 31) h1 h2
theorem bnd_xor {m n : Nat} (h1 : m < 9223372036854775808) (h2 : n < 9223372036854775808) : m ^^^ n < 9223372036854775808 := Nat.xor_lt_two_pow (n := 63) h1 h2
theorem bnd_xor31 {m n : Nat} (h1 : m < 2147483648) (h2 : n < 2147483648) : m ^^^ n < 2147483648 := Nat.xor_lt_two_pow (n := 31) h1 h2
theorem bnd_shr {m n B : Nat} (h : m < B) : m >>> n < B := by
  rw [Nat.shiftRight_eq_div_pow]; exact Nat.lt_of_le_of_lt (Nat.div_le_self _ _) h
theorem bnd_shl {m n : Nat} (h1 : m < 2147483648) (h2 : n ≤ 31) : m <<< n < 9223372036854775808 := by
  rw [Nat.shiftLeft_eq]
  have : 2 ^ n ≤ 2 ^ 31 := Nat.pow_le_pow_right (by decide) h2
  have h3 : m * 2 ^ n ≤ m * 2 ^ 31 := Nat.mul_le_mul_left _ this
  have : (2 : Nat) ^ 31 = 2147483648 := rfl
  omega
theorem bnd_mod {m n B : Nat} (h : m < B) : m % n < B := Nat.lt_of_le_of_lt (Nat.mod_le _ _) h

theorem VCall.mono [Glob] {P : Program} {F : FuncId} {as : List AV} {H : Heap} {R R' : AV → Heap → Prop} (h : VCall P F as H R) (hr : ∀ r H', R r H' → R' r H') : VCall P F as H R' :=
  ⟨h.1, fun g w a hH hl => (h.2 g w a hH hl).mono fun e w' ⟨r, H', g', c, h1, h2, h3⟩ => ⟨r, H', g', c, h1, hr r H' h2, h3⟩⟩
/-! ### calls that change one block -/
def setR (H : Heap) (i : Nat) (B : Blk) (v : AV) : AV → Heap → Prop := fun r H' => H' = H.set i B ∧ r = v
theorem EndN.setB {H loc : Heap} {i : Nat} {B : Blk} {u v : AV} (hB : B.below H.length) (hb : below H.length v) (hw : Wk u v) : EndN H (H.set i B) loc u (setR H i B v) :=
  .cut (by simp) (fun j C hj => by
    rw [List.getElem?_set] at hj
    split at hj
    · split at hj
      · simp only [Option.some.injEq] at hj; subst hj; exact .inr hB
      · cases hj
    · exact .inl hj) ⟨u, v, .refl u, hw, hb, rfl, rfl⟩
section
variable {P : Program} {n0 : Nat} {base loc : Heap} {k : Nat} {K : AV → Heap → Nat → Heap → Prop}
/-- the block lies ahead of the call's own memory -/
theorem CallN.setB [Glob] {F : FuncId} {as : List AV} (i : Nat) (B B0 : Blk) (v : AV) (base2 : Heap) (hi : base[i]? = some B0) (hn : base.length = n0) (hk : loc.length = k) (h : VCall P F as (base ++ loc) (setR (base ++ loc) i B v)) (hb : base.set i B = base2) (a : K v base2 k loc) : CallN P (.func F) as n0 base k loc K :=
  .gen _ h fun r H' hr => by
    obtain ⟨rfl, rfl⟩ := hr
    exact ⟨base2, k, loc, by rw [← hb, set_base' hi], hk, by rw [← hb]; simpa using hn, a⟩
/-- .. or is of the own memory -/
theorem CallN.setL [Glob] {F : FuncId} {as : List AV} (j : Nat) (B : Blk) (v : AV) (loc2 : Heap) (hn : base.length = n0) (hk : loc2.length = k) (h : VCall P F as (base ++ loc) (setR (base ++ loc) (base.length + j) B v)) (hl : loc.set j B = loc2) (a : K v base k loc2) : CallN P (.func F) as n0 base k loc K :=
  .gen _ h fun r H' hr => by
    obtain ⟨rfl, rfl⟩ := hr
    exact ⟨base, k, loc2, by rw [← hl, set_loc'], hk, hn, a⟩
theorem CallD.setB [Glob] {W : List Nat} {F : FuncId} {as : List AV} {loc0 b1 : Heap} {K : AV → Prop} {K3 : AV → Heap → Nat → Heap → Prop} (i : Nat) (B B0 : Blk) (v : AV) (b2 : Heap) (hi : b1[i]? = some B0) (hn : b1.length = n0) (hk : loc.length = k) (h : VCall P F as (b1 ++ loc) (setR (b1 ++ loc) i B v)) (hb : b1.set i B = b2) (a : K3 v b2 k loc) : CallD W P (.func F) as n0 base loc0 b1 loc K K3 :=
  .fix v b2 loc k (VCall.mono h fun r H' hr => by
    obtain ⟨rfl, rfl⟩ := hr
    exact ⟨rfl, by rw [← hb, set_base' hi]⟩) (by rw [← hb]; simpa using hn) hk a
end
theorem EndN.same {H loc : Heap} {i : Nat} {B : Blk} {u v : AV} (hi : H[i]? = some B) (hb : below H.length v) (hw : Wk u v) : EndN H H loc u (setR H i B v) :=
  .cut rfl (fun _ _ h => .inl h) ⟨u, v, .refl u, hw, hb, by
    obtain ⟨h1, h2⟩ := List.getElem?_eq_some_iff.1 hi
    rw [← h2]; exact (List.set_getElem_self h1).symm, rfl⟩
end Go.Vsi
/-! text R11 -/
namespace Go.Vsi

/-! ### rounds of loops over functions -/
def reB (n0 : Nat) : RE → RE
  | [] => []
  | (t, .lit b) :: l => (t, .lit b) :: reB n0 l
  | (t, v) :: l => (t, .v (tr n0 v)) :: reB n0 l
theorem reB_tr (n0 n1 : Nat) : ∀ l : RE, trE n1 (reB n0 l) = trE n0 l
  | [] => rfl
  | (t, .lit b) :: l => by simp only [reB, trE, reB_tr n0 n1 l]; rfl
  | (t, .v a) :: l => by simp only [reB, trE, reB_tr n0 n1 l]; rfl
  | (t, .lp j o) :: l => by simp only [reB, trE, reB_tr n0 n1 l]; rfl
def parRE : List Tmp → List AV → RE → RE
  | p :: ps, v :: vs, re => parRE ps vs ((p, .v v) :: re)
  | _, _, re => re
theorem parRE_tr (n1 : Nat) : ∀ (ps : List Tmp) (vs : List AV) (re : RE), trE n1 (parRE ps vs re) = parEnv ps vs (trE n1 re)
  | [], _, re => by simp [parRE, parEnv]
  | _ :: _, [], re => by simp [parRE, parEnv]
  | p :: ps, v :: vs, re => by
    simp only [parRE, parEnv, parRE_tr n1 ps vs]
    rfl

/-- the end of a round, on the walk's side -/
def rndQ (H : Heap) (i : Nat) (env : Env) (L : LCode) (R : AV → Heap → Prop) : QR := fun e _ _ base _ _ => RndEnd H i env L R e base
/-- the assignment of a round's values is done: the body follows -/
structure RndB [Glob] (P : Program) (kn : TypeId → Nat) (T : TypeId → Option TI) (H : Heap) (i : Nat) (env : Env) (L : LCode) (R : AV → Heap → Prop) (top bot : RE) (base : Heap) (k : Nat) (loc : Heap) : Prop where
  h : ∃ jp base1, base[i]? = some (.loop .ready jp env L) ∧ base.set i (.loop .busy jp env L) = base1 ∧ wpC P kn T ⟨L.N, some i⟩ H.length L.body (rndQ H i env L R) top bot base1 k loc

section
variable {P : Program} {T : TypeId → Option TI} {kn : TypeId → Nat}
theorem round_R [Glob] (he : Env0 P T kn) (hm : P.follows .mixedOrders = true) {i n0 : Nat} {H : Heap} {jp0 : Option Code} {bk : RE} {L : LCode} {as : List AV} {R : AV → Heap → Prop} (hi : H[i]? = some (.loop .ready jp0 (trE n0 bk) L)) (hps : ∀ p ∈ L.ps.toList, p < L.N) (hlen : as.length = L.ps.size)
    (h : wpC P kn T ⟨L.N, some i⟩ H.length L.assign (fun e top bot base k loc => match e with
      | .normal => RndB P kn T H i (trE n0 bk) L R top bot base k loc
      | _ => False) (parRE L.ps.toList as (reB n0 bk)) [] H 0 []) : VYield P i as H R := by
  refine vround (env := trE n0 bk) hi hps hlen ?_
  have hw := wpC_sound he hm L.assign _ _ _ _ _ _ rfl h
  rw [List.append_nil, parRE_tr, reB_tr] at hw
  refine vw_mono hw ?_
  rintro e env1 hp1 ⟨top, bot, base, k, loc, hap, rfl, hbl, hq⟩
  cases e with
  | normal =>
    obtain ⟨jp, base1, h1, h2, h3⟩ := hq
    refine ⟨rfl, jp, h1, ?_⟩
    subst h2
    refine vw_env (vw_mono (wpC_sound he hm L.body _ _ _ _ _ _ (by simpa using hbl) h3) ?_) hap
    rintro e env3 hp3 ⟨top3, bot3, base3, k3, loc3, -, rfl, -, hq3⟩
    exact hq3
  | exit i => exact hq.elim
  | goto i => exact hq.elim
  | ret => exact hq.elim
  | panic i => exact hq.elim
  | outgrown => exact hq.elim
end

theorem CallN.fix [Glob] {P : Program} {F : Fn} {as : List AV} {n0 : Nat} {base loc : Heap} {k : Nat} {K : AV → Heap → Nat → Heap → Prop} (v : AV) (b2 loc2 : Heap) (k2 : Nat) (h : VFn P F as (base ++ loc) fun r H' => r = v ∧ H' = b2 ++ loc2) (hb : b2.length = n0) (hk : loc2.length = k2) (a : K v b2 k2 loc2) : CallN P F as n0 base k loc K :=
  .genF _ h fun r H' hr => by
    obtain ⟨rfl, rfl⟩ := hr
    exact ⟨b2, k2, loc2, rfl, hk, hb, a⟩

/-! ### the memory ahead of a call and behind it -/
theorem low_loc {base l l' : Heap} (h : ∀ B ∈ l', B.below (base ++ l).length) : ∀ (j : Nat) B, (base ++ l')[j]? = some B → (base ++ l)[j]? = some B ∨ B.below (base ++ l).length := fun j B hj => by
  by_cases hb : j < base.length
  · rw [List.getElem?_append_left hb] at hj ⊢
    exact .inl hj
  · rw [List.getElem?_append_right (by omega)] at hj
    exact .inr (h B (List.mem_of_getElem? hj))
theorem closed_loc {base l : Heap} (hc : Closed base) (h : ∀ B ∈ l, B.below (base ++ l).length) : Closed (base ++ l) := fun j B hj => by
  by_cases hb : j < base.length
  · rw [List.getElem?_append_left hb] at hj
    exact Blk.below_mono (by simp) (hc j B hj)
  · rw [List.getElem?_append_right (by omega)] at hj
    exact h B (List.mem_of_getElem? hj)
theorem get_below {n0 n : Nat} : ∀ {l : RE}, belowRE n0 n l → ∀ s, below n (get (trE n0 l) s)
  | [], _, _ => by simp [trE, get, below]
  | (i, v) :: l, h, s => by
    by_cases hs : i = s
    · subst hs
      simp only [trE]
      rw [get_put_same]
      exact h.1
    · simp only [trE]
      rw [get_put_ne _ _ hs]
      exact get_below h.2 s

/-- a call that lays new memory -/
theorem CallD.grow [Glob] {W : List Nat} {P : Program} {F : FuncId} {as : List AV} {n0 : Nat} {base loc0 b1 loc : Heap} {K : AV → Prop} {K3 : AV → Heap → Nat → Heap → Prop} (v : AV) (X loc2 : Heap) (k2 : Nat) (h : VCall P F as (b1 ++ loc) fun r H' => r = v ∧ H' = (b1 ++ loc) ++ X) (hn : b1.length = n0) (hl : loc ++ X = loc2) (hk : loc2.length = k2) (a : K3 v b1 k2 loc2) : CallD W P (.func F) as n0 base loc0 b1 loc K K3 :=
  .fix v b1 loc2 k2 (VCall.mono h fun r H' hr => ⟨hr.1, by rw [hr.2, List.append_assoc, hl]⟩) hn hk a
theorem CallN.grow [Glob] {P : Program} {F : FuncId} {as : List AV} {n0 : Nat} {base loc : Heap} {k : Nat} {K : AV → Heap → Nat → Heap → Prop} (v : AV) (X loc2 : Heap) (k2 : Nat) (h : VCall P F as (base ++ loc) fun r H' => r = v ∧ H' = (base ++ loc) ++ X) (hn : base.length = n0) (hl : loc ++ X = loc2) (hk : loc2.length = k2) (a : K v base k2 loc2) : CallN P (.func F) as n0 base k loc K :=
  .fix v base loc2 k2 (VCall.mono h fun r H' hr => ⟨hr.1, by rw [hr.2, List.append_assoc, hl]⟩) hn hk a

theorem LoopN.base_eq [Glob] {P : Program} {kn : TypeId → Nat} {T : TypeId → Option TI} {N : FN} {n0 : Nat} {c : Code} {Q : QR} {top bot : RE} {base : Heap} {k : Nat} {loc : Heap} (base2 : Heap) (e : base = base2) (h : LoopN P kn T N n0 c Q top bot base2 k loc) : LoopN P kn T N n0 c Q top bot base k loc := e ▸ h
end Go.Vsi
/-! text R12 -/
namespace Go.Vsi

/-! ### loops that build a slice by cutting and appending: its owner is renewed at each round's end -/
/-- one more owner behind the memory: what it owns is no other block's -/
theorem HRel.newTok [Glob] {g : G} {w : World} {hp : Hp} (h : HRel g w hp) (e : TypeId) (sz len : Nat) (Tk0 : Tk) (hl : Tk0.len = len) (hs : Tk0.sz = sz)
    (hb : (Tk0.base = none ∧ len = 0 ∧ Tk0.cap = 0) ∨ ∃ b cs, Tk0.base = some b ∧ w.heap[b]? = some (.cells cs e (0, 0)) ∧ cs.size = Tk0.cap * sz ∧ Tk0.cap ≤ maxLen ∧ len ≤ cs.size ∧ ∀ o, len ≤ o → g.own b o)
    (hinj : ∀ (i : Nat) B b, hp.all[i]? = some B → Tk0.base = some b → locs g i B ≠ some b) :
    ∃ g', g'.ok g.n ∧ g'.tk g.n = Tk0 ∧ HRel g' w ⟨hp.base, hp.k + 1, hp.loc ++ [.tok e sz len]⟩ ∧ Ext g w g' w := by
  let g' : G := { n := g.n + 1, blk := g.blk, tk := fun i => if i = g.n then Tk0 else g.tk i, own := g.own, pend := g.pend }
  have htk' : ∀ i, i < g.n → g'.tk i = g.tk i := fun i hi => by
    show (if i = g.n then _ else _) = _
    rw [if_neg (by omega)]
  have htk : g'.tk g.n = Tk0 := by show (if g.n = g.n then _ else _) = _; rw [if_pos rfl]
  have hnp : ¬ g.pend g.n := fun hp' => Nat.lt_irrefl g.n (by have := (List.getElem?_eq_some_iff.1 (h.pend _ hp')).1; rw [Hp.all_length h] at this; exact this)
  have hx : Ext g w g' w := ⟨Nat.le_succ _, fun _ _ h => h, fun i hi => ⟨Nat.lt_succ_of_lt hi.1, hi.2⟩, fun _ _ => rfl, fun i hi => .inl (htk' i hi.1), fun _ _ _ h => h, rfl, rfl, rfl, Nat.le_refl _, fun _ _ _ => rfl, fun _ ds _ _ hb => ⟨ds, hb, rfl, fun _ _ => rfl⟩⟩
  have hlen := Hp.all_length h
  have hall : (⟨hp.base, hp.k + 1, hp.loc ++ [.tok e sz len]⟩ : Hp).all = hp.all ++ [.tok e sz len] := by simp [Hp.all]
  have key : ∀ (i : Nat) (B : Blk), (hp.all ++ [.tok e sz len])[i]? = some B → (i < g.n ∧ hp.all[i]? = some B) ∨ (i = g.n ∧ B = .tok e sz len) := by
    intro i B hi
    rcases Nat.lt_or_ge i hp.all.length with hlt | hge
    · rw [List.getElem?_append_left hlt] at hi
      exact .inl ⟨by omega, hi⟩
    · rw [List.getElem?_append_right hge] at hi
      have h0 : i = hp.all.length := by
        have := (List.getElem?_eq_some_iff.1 hi).1
        simp at this; omega
      subst h0
      simp at hi
      exact .inr ⟨hlen, hi.symm⟩
  refine ⟨g', ⟨Nat.lt_succ_self _, hnp⟩, htk, ⟨?_, by simp [h.k], ?_, h.lt, fun i hi => ?_, ?_, fun pp hpp => MRel.ext hx _ _ _ (h.glob pp hpp)⟩, hx⟩
  · show g.n + 1 = _
    rw [h.n]; simp [Nat.add_assoc]
  · intro i B hi
    rw [hall] at hi
    rcases key i B hi with ⟨h1, h2⟩ | ⟨rfl, rfl⟩
    · exact (h.rel i B h2).keep hx (at_ok h h2) (fun _ _ => rfl) (htk' i h1) (fun _ _ _ ho => ho)
    · refine ⟨by rw [htk]; exact hl, by rw [htk]; exact hs, ?_⟩
      rw [htk]
      exact hb
  · have := h.pend i hi
    rw [hall, List.getElem?_append_left (List.getElem?_eq_some_iff.1 this).1, this]
  · intro i j B C b hi hj hb hc
    rw [hall] at hi hj
    have hold : ∀ (i : Nat) (B : Blk), i < g.n → hp.all[i]? = some B → locs g' i B = locs g i B := fun i B hi hB => locs_keep hx (at_ok h hB) (htk' i hi)
    rcases key i B hi with ⟨i1, i2⟩ | ⟨rfl, rfl⟩
    · rw [hold i B i1 i2] at hb
      rcases key j C hj with ⟨j1, j2⟩ | ⟨rfl, rfl⟩
      · rw [hold j C j1 j2] at hc
        exact h.inj i j B C b i2 j2 hb hc
      · simp only [locs, htk] at hc
        exact absurd hb (hinj i B b i2 hc)
    · simp only [locs, htk] at hb
      rcases key j C hj with ⟨j1, j2⟩ | ⟨rfl, rfl⟩
      · rw [hold j C j1 j2] at hc
        exact absurd hc (hinj j C b j2 hb)
      · rfl

/-- the round's end: the slice has an owner of its own, behind the loop's memory -/
structure RoundT {σ : Type} (inv : σ → Prop) (ms : σ → Nat) (st : σ → RE) (lc : σ → Heap) (bk : RE) (n0 : Nat) (base : Heap) (k : Nat) (t : Nat) (e : TypeId) (sz : Nat) (num : σ → Nat) (cl : σ → List AV) (m : Nat) (top bot : RE) (base' : Heap) (loc' : Heap) : Prop where
  h : ∃ s' x n l L, inv s' ∧ ms s' < m ∧ subR n0 top bot (st s') ∧ subR n0 top bot bk ∧ base' = base ∧ rget2 top bot t = some (.v (.sl (some (n0 + x)) n l)) ∧ n = num s' ∧ l = cl s' ∧ k ≤ x ∧ lget loc' x = some (.tok e sz L) ∧ L = l.length ∧ (∃ ex, loc' = lc s' ++ ex) ∧ belowRE n0 (n0 + k) (st s') ∧ belowH (n0 + k) (lc s') ∧ belowL (n0 + k) (cl s')

def roundTQ {σ : Type} (inv : σ → Prop) (ms : σ → Nat) (st : σ → RE) (lc : σ → Heap) (bk : RE) (n0 : Nat) (base : Heap) (k : Nat) (t : Nat) (e : TypeId) (sz : Nat) (num : σ → Nat) (cl : σ → List AV) (m : Nat) (Q : QR) : QR := fun x top bot base' k' loc' => match x with
  | .normal => RoundT inv ms st lc bk n0 base k t e sz num cl m top bot base' loc'
  | x => Q x top bot base' k' loc'

section
variable {P : Program} {N : FN} {n0 : Nat} {T : TypeId → Option TI} {kn : TypeId → Nat}
theorem loop_T [Glob] (he : Env0 P T kn) (hm : P.follows .mixedOrders = true) {σ : Type} (inv : σ → Prop) (ms : σ → Nat) (st : σ → RE) (lc : σ → Heap) (bk : RE) (s0 : σ) (t : Nat) (e : TypeId) (sz : Nat) (num : σ → Nat) (cl : σ → List AV) {c : Code} {Q : QR} {top bot : RE} {base : Heap} {k : Nat} {loc : Heap}
    (hn : base.length = n0) (hcl : Closed base) (ts : List Nat) (hbk : pickO ts top bot = some bk) (h0 : inv s0) (hst : subR n0 top bot (st s0)) (hloc : loc = lc s0) (hlen : ∀ s, inv s → (lc s).length = k)
    (hv : rget2 top bot t = some (.v .nils)) (hnum : num s0 = 0) (hcl0 : cl s0 = [])
    (round : ∀ s, inv s → wpC P kn T N n0 c (roundTQ inv ms st lc bk n0 base k t e sz num cl (ms s) Q) ((t, .v (.sl (some (n0 + k)) (num s) (cl s))) :: st s) bk base (k + 1) (lc s ++ [.tok e sz (cl s).length])) : LoopN P kn T N n0 c Q top bot base k loc := by
  refine ⟨?_⟩
  subst hloc hn
  intro g w a hH hE
  have hgn : g.n = base.length + k := by rw [hH.n]
  have hbkb : ∀ s v, rgetO bk s = some v → below (base.length + k) (tr base.length v) := by
    intro s v hv
    have h1 := rget2_get (n0 := base.length) (pickO_get hbk hv)
    have h2 := VRel.below _ _ (hE.rel s)
    rw [h1, hgn] at h2
    exact h2
  let tv : σ → RG := fun s => .v (.sl (some (base.length + k)) (num s) (cl s))
  let J : Nat → Act → World → Prop := fun n a' w' => ∃ s g', inv s ∧ ms s = n ∧ HRel g' w' ⟨base, k + 1, lc s ++ [.tok e sz (cl s).length]⟩ ∧ ERel N g' w' (trE base.length (((t, tv s) :: st s) ++ bk)) a' ∧ Ext g w g' w' ∧ DRel w a.defers g' w' a'.defers
  have hget : ∀ (l bk : RE) (s : Nat), get (trE base.length (l ++ bk)) s = match rgetO l s with
      | some v => tr base.length v
      | none => match rgetO bk s with
        | some v => tr base.length v
        | none => .junk := by
    intro l bk s
    rw [trE_append]
    cases hl : rgetO l s with
    | some v => simp only; exact rgetO_get hl _
    | none =>
      simp only
      rw [rgetO_none hl]
      cases hb : rgetO bk s with
      | some v => simp only; have := rgetO_get (n0 := base.length) hb []; simpa using this
      | none => simp only; have := rgetO_none (n0 := base.length) hb []; simp only [List.append_nil] at this; rw [this]; rfl
  have hgetT : ∀ (s : σ) (u : Nat), get (trE base.length (((t, tv s) :: st s) ++ bk)) u = if t = u then .sl (some (base.length + k)) (num s) (cl s) else get (trE base.length (st s ++ bk)) u := by
    intro s u
    by_cases hu : t = u
    · subst hu
      rw [if_pos rfl]
      simp only [List.cons_append, trE]
      rw [get_put_same]
      rfl
    · rw [if_neg hu]
      simp only [List.cons_append, trE]
      rw [get_put_ne _ _ hu]
  -- the owner of the nil slice
  obtain ⟨g1, f1, f2, f3, f4⟩ := hH.nilTok e sz
  simp only at f3
  have hnil : VRel g1 w (.sl (some (base.length + k)) 0 []) (a.tmps.getD t undef) := by
    have h1 := hE.rel t
    rw [rget2_get hv] at h1
    simp only [tr, VRel] at h1
    rw [h1]
    simp only [VRel]
    refine ⟨none, 0, rfl, Nat.le_refl _, .inl trivial, fun u hu => ?_⟩
    cases hu
    rw [← hgn]
    refine ⟨f1, by simp, fun _ => ?_⟩
    rw [f2]
    simp
  refine LoopWp.inv (fun a' w' => ∃ n, J n a' w') (fun a' w' => by classical exact if h : ∃ n, J n a' w' then Classical.choose (least h) else 0) ⟨ms s0, s0, g1, h0, rfl, ?_, ⟨hE.1, fun s => ?_, fun i hi => f4.ok i (hE.ro i hi), fun p hp => MRel.ext f4 _ _ _ (hE.glob p hp)⟩, f4, DRel.refl _ _ _ _⟩ ?_
  · rw [hcl0]; exact f3
  · rw [hgetT]
    by_cases hs : t = s
    · subst hs
      rw [if_pos rfl, hnum, hcl0]
      exact hnil
    · rw [if_neg hs, hget]
      cases hl : rgetO (st s0) s with
      | some v => simp only; exact VRel.ext f4 _ _ (subR_get hst hl _ _ _ (hE.rel s))
      | none =>
        simp only
        cases hb : rgetO bk s with
        | some v => simp only; rw [← rget2_get (n0 := base.length) (pickO_get hbk hb)]; exact VRel.ext f4 _ _ (hE.rel s)
        | none => simp [VRel]
  intro a1 w1 hex
  have hJ := (Classical.choose_spec (least hex)).1
  obtain ⟨s1, g2, hI1, hms1, hH1, hE1, hx1, hd1⟩ := hJ
  have hr := wpC_sound he hm c _ _ _ _ _ _ rfl (round s1 hI1) g2 w1 a1 hH1 hE1
  rw [hE.fo hx1] at hr
  refine Code.wpIn_mono ?_ hr
  rintro ex a2 w2 ⟨env2, hp2, g3, ⟨top2, bot2, base2, k2, loc2, hap, rfl, hn2, q⟩, hH2, hE2, hx2, hd2⟩
  have other : ex ≠ .normal → Q ex top2 bot2 base2 k2 loc2 → Lift N (LS base.length Q) g w a.defers ex a2 w2 := fun _ hq =>
    ⟨env2, _, g3, ⟨top2, bot2, base2, k2, loc2, hap, rfl, hn2, hq⟩, hH2, hE2, hx1.trans hx2, hd1.trans hx2 hx1.size hd2⟩
  cases ex with
  | normal =>
    obtain ⟨s', x, n, l, L, hi', hms', hsub, hsb, rfl, hsl, rfl, rfl, hkx, hx, rfl, ⟨lx, rfl⟩, hb1, hb2, hb3⟩ := q
    have hlc := hlen s' hi'
    have hcut := hH2.cutLoc hlc hcl hb2
    have hxc := (hx1.trans hx2).cut (n := base2.length + k) (Nat.le_of_eq hgn)
    -- the block that the slice is cut from
    have hxat : (⟨base2, k2, lc s' ++ lx⟩ : Hp).all[base2.length + x]? = some (.tok e sz (cl s').length) := at_loc hx
    obtain ⟨b1, b2, b3⟩ := hH2.rel _ _ hxat
    have hnc : (g3.cut (base2.length + k)).n = base2.length + k := rfl
    obtain ⟨g4, p1, p2, p3, p4⟩ := hcut.newTok e sz (cl s').length (g3.tk (base2.length + x)) b1 b2 b3 (fun i B b hB hbb hloc => by
      have hlt : i < (base2 ++ lc s').length := (List.getElem?_eq_some_iff.1 hB).1
      have hB2 : (⟨base2, k2, lc s' ++ lx⟩ : Hp).all[i]? = some B := by
        have e0 : (⟨base2, k2, lc s' ++ lx⟩ : Hp).all = (base2 ++ lc s') ++ lx := by simp [Hp.all]
        rw [e0, List.getElem?_append_left hlt]
        exact hB
      have hl1 : locs g3 i B = some b := by rw [← hloc]; cases B <;> rfl
      have := hH2.inj i (base2.length + x) B _ b hB2 hxat hl1 (by simp only [locs]; exact hbb)
      simp only [List.length_append, hlc] at hlt
      omega)
    rw [hnc] at p1 p2
    simp only at p3
    have hxe := hxc.trans p4
    have hval : ∀ v c, VRel g3 w2 v c → below (base2.length + k) v → VRel g4 w2 v c := fun v c h1 h2 => VRel.ext p4 _ _ (VRel.cut _ _ h1 h2)
    have hE3 : ERel N g4 w2 (trE base2.length (((t, tv s') :: st s') ++ bk)) a2 := by
      refine ⟨hE2.1, fun s => ?_, fun i hi => hxe.ok i (hE.ro i hi), fun p hp => MRel.ext hxe _ _ _ (hE.glob p hp)⟩
      have h2 := hap s _ _ _ (hE2.rel s)
      rw [hgetT]
      by_cases hs : t = s
      · subst hs
        rw [if_pos rfl]
        rw [rget2_get hsl] at h2
        simp only [tr, VRel] at h2 ⊢
        obtain ⟨A, cap, q1, q2, q3, q4⟩ := h2
        refine ⟨A, cap, q1, q2, ?_, fun u hu => ?_⟩
        · rcases q3 with q3 | ⟨b, o, q3, q5⟩
          · exact .inl q3
          · exact .inr ⟨b, o, q3, MRel.ext p4 _ _ _ (MRel.cut _ _ _ q5 hb3)⟩
        · cases hu
          obtain ⟨u1, u2, u3⟩ := q4 _ rfl
          refine ⟨p1, ?_, ?_⟩
          · rw [p2]; exact u2
          · rw [p2]; exact u3
      · rw [if_neg hs, hget]
        cases hl : rgetO (st s') s with
        | some v => simp only; exact hval _ _ (subR_get hsub hl _ _ _ h2) (belowRE_get hb1 hl)
        | none =>
          simp only
          cases hb : rgetO bk s with
          | none => simp [VRel]
          | some v => simp only; exact hval _ _ (subR_get hsb hb _ _ _ h2) (hbkb s v hb)
    have hex2 : ∃ m, m < ms s1 ∧ J m a2 w2 := by
      refine ⟨ms s', hms', s', g4, hi', rfl, p3, hE3, hxe, ?_⟩
      obtain ⟨rs, d1, d2, d3⟩ := hd1.trans hx2 hx1.size hd2
      have hdc : DRel w a.defers (g3.cut (base2.length + k)) w2 a2.defers := ⟨rs, d1, d2, d3⟩
      exact hdc.ext p4
    obtain ⟨m, hmlt, hJm⟩ := hex2
    have hex2 : ∃ n, J n a2 w2 := ⟨m, hJm⟩
    refine ⟨hex2, ?_⟩
    simp only [hex, hex2, dif_pos]
    refine Nat.lt_of_le_of_lt ((Classical.choose_spec (least hex2)).2 m hJm) ?_
    rw [hms1] at hmlt
    exact hmlt
  | exit i => exact other (by simp) q
  | goto l => exact other (by simp) q
  | ret => exact other (by simp) q
  | panic ch => exact other (by simp) q
  | outgrown => exact other (by simp) q
end
/-! ### sums, remainders, shifts under their given names -/
theorem EqN.remC {m n : Nat} {x y : Int} {k : Int → Prop} (c : Nat) (hx : x = m) (hy : y = n) (h : m % n = c) (a : k c) : EqN (x.tmod y) k := by
  subst hx hy
  refine ⟨c, ?_, a⟩
  rw [Int.tmod_eq_emod_of_nonneg (by omega), ← h]
  simp
theorem EqN.addC {x y : Int} {k : Int → Prop} (m n c : Nat) (hx : x = m) (hy : y = n) (h : m + n = c) (hc : c < 9223372036854775808) (a : k c) : EqN (IntKind.i64.wrap (x + y)) k := by
  subst hx hy
  exact ⟨_, by rw [← Int.natCast_add, h]; exact w64 (by omega), a⟩
theorem EqN.shlC {b : Nat} {x y : Int} {k : Int → Prop} (m n c : Nat) (hx : x = m) (hy : y = n) (hb : Nat.ble 63 b = true) (h : m <<< n = c) (hn : n ≤ 63) (hc : c < 9223372036854775808) (a : k c) : EqN (IntKind.i64.wrap (x * 2 ^ min y.toNat b)) k :=
  EqN.shlN m n hx hy hb hn (h ▸ hc) (h.symm ▸ a)
end Go.Vsi
/-! text R13 -/
namespace Go.Vsi

/-! ### own memory is lent for a call that reads -/
def G.bare (g : G) : G := { g with own := fun _ _ => False }
theorem bare_extV (g : G) (w : World) : ExtV g w g.bare w :=
  ⟨fun _ h => h, fun _ _ => rfl, fun _ _ => .inl rfl, fun hc _ => ⟨hc, fun q => q⟩, fun hb _ => ⟨hb, fun _ q => q⟩⟩

mutual
inductive Lend (H : Heap) : AV → AV → Prop where
  | refl (v : AV) : Lend H v v
  | ptr {i o : Nat} {t : TypeId} {l l' l'' : List AV} : H[i]? = some (.box t l) → dropC o l = some l' → LendL H l' l'' → Lend H (.ptr i o) (.rptr l'')
  | ms {i o n : Nat} {t : TypeId} {l l' l'' : List AV} : H[i]? = some (.box t l) → dropC o l = some l' → LendL H l' l'' → Lend H (.ms i o n) (.sl none n l'')
  | agg {l l' : List AV} : LendL H l l' → Lend H (.agg l) (.agg l')
  | tup {l l' : List AV} : LendL H l l' → Lend H (.tup l) (.tup l')
inductive LendL (H : Heap) : List AV → List AV → Prop where
  | nil : LendL H [] []
  | cons {v v' : AV} {l l' : List AV} : Lend H v v' → LendL H l l' → LendL H (v :: l) (v' :: l')
end
theorem LendL.refl {H : Heap} : ∀ l : List AV, LendL H l l
  | [] => .nil
  | v :: l => .cons (.refl v) (LendL.refl l)

mutual
theorem Lend.rel [Glob] {g : G} {w : World} {H : Heap} (hH : HRel g w (Hp.of H)) : ∀ {v v' : AV}, Lend H v v' → ∀ c, VRel g w v c → VRel g.bare w v' c
  | _, _, .refl v, c, h => VRel.extV (bare_extV _ _) v c h
  | _, _, @Lend.ptr _ i o t l l' l'' h1 h2 h3, c, h => by
    simp only [VRel] at h ⊢
    obtain ⟨hok, rfl⟩ := h
    obtain ⟨cs, e1, e2, e3⟩ := hH.rel i _ (by simpa [Hp.of, Hp.all] using h1)
    obtain ⟨hd1, hd2⟩ := dropC_eq _ _ _ h2
    have e2' := e2.drop o
    rw [hd1] at e2'
    have e4 := LendL.rel hH h3 _ e2'
    refine ⟨_, _, rfl, MRel.mk fun q v hq => ?_⟩
    obtain ⟨c', q1, q2⟩ := e4.get hq
    rw [List.getElem?_drop] at q1
    exact ⟨c', cell_iff.2 ⟨cs, t, _, e1, by simpa using q1⟩, q2, fun ho => ho⟩
  | _, _, @Lend.ms _ i o n t l l' l'' h1 h2 h3, c, h => by
    simp only [VRel] at h ⊢
    obtain ⟨hok, cap, hn, rfl⟩ := h
    obtain ⟨cs, e1, e2, e3⟩ := hH.rel i _ (by simpa [Hp.of, Hp.all] using h1)
    obtain ⟨hd1, hd2⟩ := dropC_eq _ _ _ h2
    have e2' := e2.drop o
    rw [hd1] at e2'
    have e4 := LendL.rel hH h3 _ e2'
    refine ⟨_, _, rfl, hn, .inr ⟨_, _, rfl, MRel.mk fun q v hq => ?_⟩, fun t e => by cases e⟩
    obtain ⟨c', q1, q2⟩ := e4.get hq
    rw [List.getElem?_drop] at q1
    exact ⟨c', cell_iff.2 ⟨cs, t, _, e1, by simpa using q1⟩, q2, fun ho => ho⟩
  | _, _, .agg h1, c, h => by
    simp only [VRel] at h ⊢
    obtain ⟨cs, hc, e1⟩ := h
    exact ⟨cs, hc, LendL.rel hH h1 _ e1⟩
  | _, _, .tup h1, c, h => by
    simp only [VRel] at h ⊢
    obtain ⟨cs, hc, e1⟩ := h
    exact ⟨cs, hc, LendL.rel hH h1 _ e1⟩
theorem LendL.rel [Glob] {g : G} {w : World} {H : Heap} (hH : HRel g w (Hp.of H)) : ∀ {l l' : List AV}, LendL H l l' → ∀ cs, LRel g w l cs → LRel g.bare w l' cs
  | _, _, .nil, cs, h => by simpa [LRel] using h
  | _, _, .cons h1 h2, cs, h => by
    simp only [LRel] at h ⊢
    obtain ⟨c, r, hc, e1, e2⟩ := h
    exact ⟨c, r, hc, Lend.rel hH h1 _ e1, LendL.rel hH h2 _ e2⟩
end

mutual
/-- a value that points to no memory -/
def flatV : AV → Bool
  | .bool _ => true
  | .int _ _ => true
  | .str _ => true
  | .nilp => true
  | .nilf => true
  | .nili => true
  | .nils => true
  | .nilm => true
  | .agg l => flatL l
  | .tup l => flatL l
  | _ => false
def flatL : List AV → Bool
  | [] => true
  | v :: l => flatV v && flatL l
end
mutual
theorem flat_rel {g g' : G} {w : World} : ∀ {v : AV}, flatV v = true → ∀ {c}, VRel g' w v c → VRel g w v c
  | .bool _, _, _, h => by simpa [VRel] using h
  | .int _ _, _, _, h => by simpa [VRel] using h
  | .str _, _, _, h => by simpa [VRel] using h
  | .nilp, _, _, h => by simpa [VRel] using h
  | .nilf, _, _, h => by simpa [VRel] using h
  | .nili, _, _, h => by simpa [VRel] using h
  | .nils, _, _, h => by simpa [VRel] using h
  | .nilm, _, _, h => by simpa [VRel] using h
  | .agg l, hf, _, h => by
    simp only [VRel] at h ⊢
    obtain ⟨cs, hc, e⟩ := h
    exact ⟨cs, hc, flat_relL (by simpa [flatV] using hf) e⟩
  | .tup l, hf, _, h => by
    simp only [VRel] at h ⊢
    obtain ⟨cs, hc, e⟩ := h
    exact ⟨cs, hc, flat_relL (by simpa [flatV] using hf) e⟩
theorem flat_relL {g g' : G} {w : World} : ∀ {l : List AV}, flatL l = true → ∀ {cs}, LRel g' w l cs → LRel g w l cs
  | [], _, _, h => by simpa [LRel] using h
  | v :: l, hf, _, h => by
    simp only [flatL, Bool.and_eq_true] at hf
    simp only [LRel] at h ⊢
    obtain ⟨c, r, hc, e1, e2⟩ := h
    exact ⟨c, r, hc, flat_rel hf.1 e1, flat_relL hf.2 e2⟩
end

theorem VDet.lend [Glob] {P : Program} {F : FuncId} {as as' : List AV} {H : Heap} {v : AV} (h : ∀ H, VDet P F as' H v) (hl : LendL H as as') (hv : flatV v = true) : VDet P F as H v := by
  refine ⟨(h []).1, fun g w cs hH hL => ?_⟩
  have hlen : g.n = H.length := by have := hH.n; simpa [Hp.of] using this
  have hH1 : HRel g.bare w (Hp.of (List.replicate H.length .dead)) := by
    have hrep : ∀ (i : Nat) B, (List.replicate H.length Blk.dead)[i]? = some B → B = .dead := fun i B hi => by
      rw [List.getElem?_replicate] at hi
      split at hi
      · cases hi; rfl
      · cases hi
    refine ⟨by simp [Hp.of, G.bare, hlen], rfl, fun i B hi => ?_, fun _ _ q => q.elim, fun i hi => ?_, fun i j B C b hi _ hb _ => ?_, fun p hp => MRel.extV (bare_extV g w) _ _ _ (hH.glob p hp)⟩
    · rw [hrep i B (by simpa [Hp.of, Hp.all] using hi)]; trivial
    · have := hH.pend i hi
      have hi' : i < H.length := by simpa [Hp.of, Hp.all] using (List.getElem?_eq_some_iff.1 this).1
      simp [Hp.of, Hp.all, List.getElem?_replicate, hi']
    · rw [hrep i B (by simpa [Hp.of, Hp.all] using hi)] at hb; cases hb
  refine ((h _).2 g.bare w cs hH1 (LendL.rel hH hl _ hL)).mono ?_
  rintro e w' ⟨r, H', g', c, rfl, ⟨rfl, rfl⟩, -, hv', hx'⟩
  have hsame : ∀ b, b < w.heap.size → w'.heap[b]? = w.heap[b]? := fun b hb => hx'.same b hb fun _ q => q
  have hx : Ext g w g w' := ⟨Nat.le_refl _, fun _ _ h => h, fun _ h => h, fun _ _ => rfl, fun _ _ => .inl rfl, fun _ _ _ h => h, hx'.os, hx'.tape, hx'.output, hx'.size, fun b hb _ => hsame b hb, fun b cs t fz hb => ⟨cs, by rw [hsame b (lt_size hb)]; exact hb, rfl, fun _ _ => rfl⟩⟩
  exact ⟨_, H, g, c, rfl, ⟨rfl, rfl⟩, hH.keepAll hx hsame, flat_rel hv hv', hx⟩

/-- what lies behind the cells of a slice need not be known -/
theorem MRel.pre {g : G} {w : World} : ∀ {l m : List AV} {b o : Nat}, MRel g w (l ++ m) b o → MRel g w l b o
  | [], _, _, _, _ => by simp [MRel]
  | v :: l, m, b, o, h => by
    simp only [List.cons_append, MRel] at h ⊢
    exact ⟨h.1, MRel.pre h.2⟩
theorem wk_pre (n : Nat) (l m : List AV) : Wk (.sl none n (l ++ m)) (.sl none n l) := fun g w c h => by
  simp only [VRel] at h ⊢
  obtain ⟨A, cap, h1, h2, h3, h4⟩ := h
  refine ⟨A, cap, h1, h2, ?_, fun t e => by cases e⟩
  rcases h3 with h3 | ⟨b, o, h3, h5⟩
  · exact .inl (List.append_eq_nil_iff.1 h3).1
  · exact .inr ⟨b, o, h3, h5.pre⟩
/-- a call that lays new memory, one of a family -/
theorem CallN.more [Glob] {P : Program} {F : FuncId} {as : List AV} {n0 : Nat} {base loc : Heap} {k : Nat} {K : AV → Heap → Nat → Heap → Prop} {ι : Type} (v : ι → AV) (X : ι → Heap) (h : VCall P F as (base ++ loc) fun r H' => ∃ s, r = v s ∧ H' = (base ++ loc) ++ X s) (hn : base.length = n0) (loc2 : ι → Heap) (hl : ∀ s, loc ++ X s = loc2 s) (k2 : Nat) (hk : ∀ s, (loc2 s).length = k2) (a : ∀ s, K (v s) base k2 (loc2 s)) : CallN P (.func F) as n0 base k loc K :=
  .gen _ h fun r H' ⟨s, h1, h2⟩ => ⟨base, k2, loc2 s, by rw [h2, ← hl s, List.append_assoc], hk s, hn, h1 ▸ a s⟩
end Go.Vsi
/-! text R14 -/
namespace Go.Vsi

/-- a new owner of new memory, of which nothing is used yet -/
theorem HRel.newTok0 [Glob] {g : G} {w : World} {hp : Hp} (h : HRel g w hp) (e : TypeId) (sz cap : Nat) (cs : Array Value) (hcs : cs.size = cap * sz) (hcap : cap ≤ maxLen) :
    ∃ g', g'.ok g.n ∧ g'.tk g.n = ⟨0, sz, cap, some w.heap.size⟩ ∧ HRel g' (w.drew.alloc (.cells cs e)) ⟨hp.base, hp.k + 1, hp.loc ++ [.tok e sz 0]⟩ ∧ Ext g w g' (w.drew.alloc (.cells cs e)) := by
  let g' : G := { n := g.n + 1, blk := g.blk, tk := fun i => if i = g.n then ⟨0, sz, cap, some w.heap.size⟩ else g.tk i, own := fun b o => g.own b o ∨ b = w.heap.size, pend := g.pend }
  have hok : ∀ i, g.ok i → g'.ok i := fun i hi => ⟨Nat.lt_succ_of_lt hi.1, hi.2⟩
  have htk' : ∀ i, i < g.n → g'.tk i = g.tk i := fun i hi => by
    show (if i = g.n then _ else _) = _
    rw [if_neg (by omega)]
  have htk : g'.tk g.n = ⟨0, sz, cap, some w.heap.size⟩ := by show (if g.n = g.n then _ else _) = _; rw [if_pos rfl]
  have hold : ∀ b, b < w.heap.size → (w.drew.alloc (.cells cs e)).heap[b]? = w.heap[b]? := fun b hb => hao w.drew _ hb
  have hsz : (w.drew.alloc (.cells cs e)).heap.size = w.heap.size + 1 := by show (w.drew.heap.push _).size = _; rw [Array.size_push]; rfl
  have hx : Ext g w g' (w.drew.alloc (.cells cs e)) := by
    refine ⟨Nat.le_succ _, fun _ _ h => h, hok, fun i hi => rfl, fun i hi => .inl (htk' i hi.1), fun b o hb ho => ?_, rfl, rfl, rfl, ?_, fun b hb _ => hold b hb, fun b ds u fz hb => ⟨ds, ?_, rfl, fun _ _ => rfl⟩⟩
    · rcases ho with ho | ho
      · exact ho
      · omega
    · show w.heap.size ≤ (w.drew.alloc (.cells cs e)).heap.size
      rw [hsz]; omega
    · rw [hold _ (lt_size hb), hb]
  have hokn : g'.ok g.n := ⟨Nat.lt_succ_self _, fun hp' => Nat.lt_irrefl g.n (by have := (List.getElem?_eq_some_iff.1 (h.pend _ hp')).1; rw [Hp.all_length h] at this; exact this)⟩
  have hall : (⟨hp.base, hp.k + 1, hp.loc ++ [.tok e sz 0]⟩ : Hp).all = hp.all ++ [.tok e sz 0] := by simp [Hp.all]
  have hlen := Hp.all_length h
  refine ⟨g', hokn, htk, ⟨?_, by simp [h.k], ?_, ?_, ?_, ?_, fun p hp' => MRel.ext hx _ _ _ (h.glob p hp')⟩, hx⟩
  · show g.n + 1 = _
    rw [h.n]; simp [Nat.add_assoc]
  · intro i C hi
    rw [hall] at hi
    rcases Nat.lt_or_ge i hp.all.length with hlt | hge
    · rw [List.getElem?_append_left hlt] at hi
      have hC := h.rel i C hi
      exact hC.keep hx (at_ok h hi) (fun b hb => hold b (hC.loc_lt hb)) (htk' i (by omega)) (fun _ _ _ ho => .inl ho)
    · rw [List.getElem?_append_right hge] at hi
      have : i = hp.all.length := by
        have := (List.getElem?_eq_some_iff.1 hi).1
        simp at this; omega
      subst this
      simp at hi
      subst hi
      rw [hlen]
      refine ⟨by rw [htk], by rw [htk], .inr ⟨w.heap.size, cs, by rw [htk], heap_alloc_new w.drew _, by rw [htk]; exact hcs, by rw [htk]; exact hcap, Nat.zero_le _, fun o _ => .inr rfl⟩⟩
  · rintro b o (ho | ho)
    · have := h.lt b o ho
      rw [hsz]; omega
    · rw [hsz]; omega
  · intro i hi
    have := h.pend i hi
    rw [hall, List.getElem?_append_left (List.getElem?_eq_some_iff.1 this).1, this]
  · intro i j C D b hi hj hbi hbj
    rw [hall] at hi hj
    have key : ∀ (i : Nat) (C : Blk) (b : Nat), (hp.all ++ [.tok e sz 0])[i]? = some C → locs g' i C = some b →
        (i < hp.all.length ∧ hp.all[i]? = some C ∧ locs g i C = some b ∧ b < w.heap.size) ∨ (i = hp.all.length ∧ b = w.heap.size) := by
      intro i C b hi hb
      rcases Nat.lt_or_ge i hp.all.length with hlt | hge
      · rw [List.getElem?_append_left hlt] at hi
        rw [locs_keep hx (at_ok h hi) (htk' i (by omega))] at hb
        exact .inl ⟨hlt, hi, hb, (h.rel i C hi).loc_lt hb⟩
      · rw [List.getElem?_append_right hge] at hi
        have : i = hp.all.length := by
          have := (List.getElem?_eq_some_iff.1 hi).1
          simp at this; omega
        subst this
        simp at hi
        subst hi
        refine .inr ⟨rfl, ?_⟩
        simp only [locs] at hb
        rw [hlen, htk, Option.some.injEq] at hb
        exact hb.symm
    rcases key i C b hi hbi with ⟨h1, h2, h3, h4⟩ | ⟨h1, h2⟩ <;> rcases key j D b hj hbj with ⟨k1, k2, k3, k4⟩ | ⟨k1, k2⟩
    · exact h.inj i j C D b h2 k2 h3 k3
    · omega
    · omega
    · omega
/-- a store at an offset that does not compute -/
theorem storeS_box {T : TypeId → Option TI} {t u : TypeId} {loc : Heap} {j o : Nat} {v : AV} {ti : TI} {l l' vs : List AV} (hv : cellsS v = some vs) (ht : T t = some ti) (hs : Nat.beq vs.length ti.sz = true) (hj : lget loc j = some (.box u l)) (hk : setC l o vs = some l') :
    storeS T t loc (some (.lp j o)) (some v) = .upd j (.box u l') none := by
  simp only [storeS, hv, ht, hs, hj, hk]
end Go.Vsi
/-! text B0 -/
namespace Go.Vsi
open Go.ChangeShapes Go.WideShapes

/-! ### terms and formulas: the two types that name themselves -/
inductive Tm where
  | mk (v : Bool) (nm : ByteArray) (args : List Tm)
inductive Fo where
  | mk (op : Nat) (nm : ByteArray) (args : List Tm) (sub : List Fo)
mutual
def Tm.cells : Tm → List AV
  | .mk v s l => [.bool v, .str s, .sl none l.length (Tm.cellsL l)]
def Tm.cellsL : List Tm → List AV
  | [] => []
  | x :: l => x.cells ++ Tm.cellsL l
end
mutual
def Fo.cells : Fo → List AV
  | .mk op s l m => [.int .u8 op, .str s, .sl none l.length (Tm.cellsL l), .sl none m.length (Fo.cellsL m)]
def Fo.cellsL : List Fo → List AV
  | [] => []
  | x :: l => x.cells ++ Fo.cellsL l
end
theorem Tm.cellsL_eq : ∀ l : List Tm, Tm.cellsL l = l.flatMap Tm.cells
  | [] => rfl
  | x :: l => by rw [Tm.cellsL, Tm.cellsL_eq l, List.flatMap_cons]
theorem Fo.cellsL_eq : ∀ l : List Fo, Fo.cellsL l = l.flatMap Fo.cells
  | [] => rfl
  | x :: l => by rw [Fo.cellsL, Fo.cellsL_eq l, List.flatMap_cons]
theorem Tm.cells_mk (v : Bool) (s : ByteArray) (l : List Tm) : (Tm.mk v s l).cells = [.bool v, .str s, .sl none l.length (l.flatMap Tm.cells)] := by
  rw [← Tm.cellsL_eq]
  unfold Tm.cells
  rfl
theorem Fo.cells_mk (op : Nat) (s : ByteArray) (l : List Tm) (m : List Fo) : (Fo.mk op s l m).cells = [.int .u8 op, .str s, .sl none l.length (l.flatMap Tm.cells), .sl none m.length (m.flatMap Fo.cells)] := by
  rw [← Tm.cellsL_eq, ← Fo.cellsL_eq]
  unfold Fo.cells
  rfl
mutual
def Tm.good : Tm → Prop
  | .mk _ s l => s.size ≤ maxLen ∧ l.length ≤ maxLen ∧ Tm.goodL l
def Tm.goodL : List Tm → Prop
  | [] => True
  | x :: l => x.good ∧ Tm.goodL l
end
mutual
def Fo.good : Fo → Prop
  | .mk op s l m => op ≤ 255 ∧ s.size ≤ maxLen ∧ l.length ≤ maxLen ∧ Tm.goodL l ∧ m.length ≤ maxLen ∧ Fo.goodL m
def Fo.goodL : List Fo → Prop
  | [] => True
  | x :: l => x.good ∧ Fo.goodL l
end
theorem Tm.goodL_of : ∀ l : List Tm, (∀ x ∈ l, x.good) → Tm.goodL l
  | [], _ => trivial
  | x :: l, h => ⟨h x (List.mem_cons_self ..), Tm.goodL_of l fun y hy => h y (List.mem_cons_of_mem _ hy)⟩
theorem Fo.goodL_of : ∀ l : List Fo, (∀ x ∈ l, x.good) → Fo.goodL l
  | [], _ => trivial
  | x :: l, h => ⟨h x (List.mem_cons_self ..), Fo.goodL_of l fun y hy => h y (List.mem_cons_of_mem _ hy)⟩
theorem Tm.goodL_mem : ∀ {l : List Tm}, Tm.goodL l → ∀ x ∈ l, x.good
  | y :: l, h, x, hx => by
    rcases List.mem_cons.1 hx with rfl | hx
    · exact h.1
    · exact Tm.goodL_mem h.2 x hx
theorem Fo.goodL_mem : ∀ {l : List Fo}, Fo.goodL l → ∀ x ∈ l, x.good
  | y :: l, h, x, hx => by
    rcases List.mem_cons.1 hx with rfl | hx
    · exact h.1
    · exact Fo.goodL_mem h.2 x hx

/-! ### arguments that read as data, as abstract values -/
inductive Ty where
  | int (k : IntKind)
  | bool
  | str
  | sl (e : Ty)
  | unit
  | pair (a b : Ty)
  | tm
  | fo

def Ty.I : Ty → Type
  | .int _ => Int
  | .bool => Bool
  | .str => ByteArray
  | .sl e => List e.I
  | .unit => Unit
  | .pair a b => a.I × b.I
  | .tm => Tm
  | .fo => Fo
def Ty.sz : Ty → Nat
  | .unit => 0
  | .pair a b => a.sz + b.sz
  | .tm => 3
  | .fo => 4
  | _ => 1
def Ty.enc : (τ : Ty) → τ.I → List AV
  | .int k, n => [.int k n]
  | .bool, b => [.bool b]
  | .str, s => [.str s]
  | .sl e, l => [.sl none (List.length (α := e.I) l) (List.flatMap (α := e.I) e.enc l)]
  | .unit, _ => []
  | .pair a b, p => a.enc p.1 ++ b.enc p.2
  | .tm, x => Tm.cells x
  | .fo, x => Fo.cells x
def Ty.good : (τ : Ty) → τ.I → Prop
  | .int k, n => (Lit.int k n).wf = true
  | .bool, _ => True
  | .str, s => ByteArray.size s ≤ maxLen
  | .sl e, l => List.length (α := e.I) l ≤ maxLen ∧ ∀ x, List.Mem (α := e.I) x l → e.good x
  | .unit, _ => True
  | .pair a b, p => a.good p.1 ∧ b.good p.2
  | .tm, x => Tm.good x
  | .fo, x => Fo.good x
theorem Ty.enc_length : ∀ (τ : Ty) (x : τ.I), (τ.enc x).length = τ.sz
  | .int _, _ => rfl
  | .bool, _ => rfl
  | .str, _ => rfl
  | .sl _, _ => rfl
  | .unit, _ => rfl
  | .pair a b, p => by
    simp only [Ty.enc, List.length_append, Ty.sz]
    rw [Ty.enc_length a, Ty.enc_length b]
  | .tm, .mk _ _ _ => by simp [Ty.enc, Tm.cells, Ty.sz]
  | .fo, .mk _ _ _ _ => by simp [Ty.enc, Fo.cells, Ty.sz]

def repTy : Nat → Ty → Ty
  | 0, _ => .unit
  | n + 1, τ => .pair τ (repTy n τ)

section
variable {P : Program}
mutual
inductive TyOk (P : Program) : TypeId → Ty → Prop where
  | int {t : TypeId} {k : IntKind} : P.underlying t = some (.int k) → TyOk P t (.int k)
  | bool {t : TypeId} : P.underlying t = some .bool → TyOk P t .bool
  | str {t : TypeId} : P.underlying t = some .string → TyOk P t .str
  | sl {t e : TypeId} {τ : Ty} : P.underlying t = some (.slice e) → P.cellsOf e = τ.sz → 0 < τ.sz → TyOk P e τ → TyOk P t (.sl τ)
  | st {t : TypeId} {fs : Array Field} {τ : Ty} : P.underlying t = some (.struct fs) → P.cellsOf t = τ.sz → FldOk P fs.toList 0 τ → TyOk P t τ
  | arr {t e : TypeId} {n : Nat} {τ : Ty} : P.underlying t = some (.array n e) → P.cellsOf e = τ.sz → TyOk P e τ → P.cellsOf t = n * τ.sz → TyOk P t (repTy n τ)
  | tm {t : TypeId} {fs : Array Field} {f1 f2 f3 : Field} : P.underlying t = some (.struct fs) → P.cellsOf t = 3 → fs.toList = [f1, f2, f3] → (f1.offset = 0 ∧ f2.offset = 1 ∧ f3.offset = 2) → (P.cellsOf f1.type = 1 ∧ P.cellsOf f2.type = 1 ∧ P.cellsOf f3.type = 1) → P.underlying f1.type = some .bool → P.underlying f2.type = some .string → P.underlying f3.type = some (.slice t) → TyOk P t .tm
  | fo {t u : TypeId} {fs : Array Field} {f1 f2 f3 f4 : Field} : P.underlying t = some (.struct fs) → P.cellsOf t = 4 → fs.toList = [f1, f2, f3, f4] → (f1.offset = 0 ∧ f2.offset = 1 ∧ f3.offset = 2 ∧ f4.offset = 3) → (P.cellsOf f1.type = 1 ∧ P.cellsOf f2.type = 1 ∧ P.cellsOf f3.type = 1 ∧ P.cellsOf f4.type = 1) → P.underlying f1.type = some (.int .u8) → P.underlying f2.type = some .string → P.underlying f3.type = some (.slice u) → P.underlying f4.type = some (.slice t) → P.cellsOf u = 3 → TyOk P u .tm → TyOk P t .fo
inductive FldOk (P : Program) : List Field → Nat → Ty → Prop where
  | nil {off : Nat} : FldOk P [] off .unit
  | cons {f : Field} {fs : List Field} {off : Nat} {a b : Ty} : f.offset = off → P.cellsOf f.type = a.sz → TyOk P f.type a → FldOk P fs (off + a.sz) b → FldOk P (f :: fs) off (.pair a b)
end

/-- nothing is owned -/
def G.none : G := { n := 0, blk := fun _ => 0, tk := fun _ => ⟨0, 0, 0, .none⟩, own := fun _ _ => False, pend := fun _ => False }
theorem hrel_none [Glob] (w : World) (hg : ∀ p ∈ Glob.gl, MRel G.none w p.2 p.1 0) : HRel G.none w (Hp.of []) :=
  ⟨rfl, rfl, fun i B h => by simp [Hp.of, Hp.all] at h, fun b o h => h.elim, fun i h => h.elim, fun i j B C b h => by simp [Hp.of, Hp.all] at h, hg⟩

variable {H : Type} {enc : TypeId × Value → H} {W : World} {sp : Nat → Bool}

theorem cells_mrel {w : World} {g : G} (hg : ∀ b o, ¬ g.own b o) {a : Addr} {n : Nat} {cs : List Value} {l : List AV} (hsp : a.spot = .none) (hc : w.cells? 0 a n = some cs) (hl : LRel g w l cs) : MRel g w l a.block a.off := by
  obtain ⟨-, h2, h3⟩ := World.cells?_some hc
  refine MRel.mk fun j v hj => ?_
  obtain ⟨c, h4, h5⟩ := hl.get hj
  have hlt : j < n := by rw [← h2, hl.length]; exact (List.getElem?_eq_some_iff.1 hj).1
  have h6 := h3 j hlt
  rw [h4] at h6
  refine ⟨c, ?_, h5, hg _ _⟩
  obtain ⟨b, o, s⟩ := a
  simp only at hsp
  subst hsp
  rw [Addr.add_lit] at h6
  exact h6

theorem flds_rel {g : G} {n : Nat} (ih : ∀ {t : TypeId} {τ : Ty} {cs : List Value} {z : DataW H × List MemPlace}, TyOk P t τ → DataW.trod enc P W 0 sp true n t cs = some z → ∃ x : τ.I, LRel g W (τ.enc x) cs ∧ τ.good x ∧ cs.length = τ.sz) {cs : List Value} :
    ∀ {fs : List Field} {off : Nat} {τ : Ty}, FldOk P fs off τ → (∀ f, f ∈ fs → ∃ z, DataW.trod enc P W 0 sp true n f.type ((cs.drop f.offset).take (P.cellsOf f.type)) = some z) → off + τ.sz = cs.length → ∃ x : τ.I, LRel g W (τ.enc x) (cs.drop off) ∧ τ.good x
  | [], off, _, .nil, _, hlen => by
    refine ⟨(), ?_, trivial⟩
    simp only [Ty.sz, Nat.add_zero] at hlen
    rw [List.drop_of_length_le (by omega)]
    simp [Ty.enc, LRel]
  | f :: fs, off, _, @FldOk.cons _ _ _ _ a b h1 h2 h3 h4, hr, hlen => by
    obtain ⟨z, hz⟩ := hr f (by simp)
    obtain ⟨x, e1, e2, e3⟩ := ih h3 hz
    simp only [Ty.sz] at hlen
    obtain ⟨y, e4, e5⟩ := flds_rel ih h4 (fun f hf => hr f (by simp [hf])) (by omega)
    refine ⟨(x, y), ?_, e2, e5⟩
    rw [h1, h2] at e1
    have : cs.drop off = (cs.drop off).take a.sz ++ cs.drop (off + a.sz) := by
      rw [← List.drop_drop, List.take_append_drop]
    rw [this]
    exact e1.append e4

theorem rep_rel {g : G} {n : Nat} {e : TypeId} {τ : Ty} (he : TyOk P e τ) (ih : ∀ {t : TypeId} {τ : Ty} {cs : List Value} {z : DataW H × List MemPlace}, TyOk P t τ → DataW.trod enc P W 0 sp true n t cs = some z → ∃ x : τ.I, LRel g W (τ.enc x) cs ∧ τ.good x ∧ cs.length = τ.sz) {cs : List Value} :
    ∀ (m off : Nat), (∀ i, i < m → ∃ z, DataW.trod enc P W 0 sp true n e ((cs.drop (off + i * τ.sz)).take τ.sz) = some z) → off + m * τ.sz = cs.length → ∃ x : (repTy m τ).I, LRel g W ((repTy m τ).enc x) (cs.drop off) ∧ (repTy m τ).good x
  | 0, off, _, hlen => by
    refine ⟨(), ?_, trivial⟩
    rw [List.drop_of_length_le (by omega)]
    simp [repTy, Ty.enc, LRel]
  | m + 1, off, hr, hlen => by
    obtain ⟨z, hz⟩ := hr 0 (by omega)
    simp only [Nat.zero_mul, Nat.add_zero] at hz
    obtain ⟨x, e1, e2, e3⟩ := ih he hz
    obtain ⟨y, e4, e5⟩ := rep_rel he ih m (off + τ.sz) (fun i hi => by
      have := hr (i + 1) (by omega)
      rwa [show off + (i + 1) * τ.sz = off + τ.sz + i * τ.sz by rw [Nat.add_mul]; omega] at this) (by rw [Nat.add_mul] at hlen; omega)
    refine ⟨(x, y), ?_, e2, e5⟩
    have : cs.drop off = (cs.drop off).take τ.sz ++ cs.drop (off + τ.sz) := by
      rw [← List.drop_drop, List.take_append_drop]
    rw [this]
    exact e1.append e4

theorem repTy_sz (τ : Ty) : ∀ m, (repTy m τ).sz = m * τ.sz
  | 0 => by simp [repTy, Ty.sz]
  | m + 1 => by simp [repTy, Ty.sz, repTy_sz τ m, Nat.add_mul, Nat.add_comm]

/-- a row of elements -/
theorem row_mrel {g : G} (hg : ∀ b o, ¬ g.own b o) {τ : Ty} (h0 : 0 < τ.sz) {a : Addr} : ∀ (m : Nat) (q : Nat), (∀ i, i < m → ∃ (x : τ.I) (cs : List Value), W.cells? 0 (a.add ((q + i) * τ.sz)) τ.sz = some cs ∧ LRel g W (τ.enc x) cs ∧ τ.good x) →
    ∃ l : List τ.I, l.length = m ∧ (∀ x ∈ l, τ.good x) ∧ MRel g W (l.flatMap τ.enc) a.block (a.off + q * τ.sz)
  | 0, q, _ => ⟨[], rfl, by simp, by simp [MRel]⟩
  | m + 1, q, h => by
    obtain ⟨x, cs, e1, e2, e3⟩ := h 0 (by omega)
    obtain ⟨l, f1, f2, f3⟩ := row_mrel hg h0 m (q + 1) (fun i hi => by
      have := h (i + 1) (by omega)
      rwa [show q + (i + 1) = q + 1 + i by omega] at this)
    refine ⟨x :: l, by simp [f1], by
      intro y hy
      cases hy with
      | head => exact e3
      | tail _ hm => exact f2 y hm, ?_⟩
    simp only [Nat.add_zero] at e1
    have hsp : (a.add (q * τ.sz)).spot = .none := by
      have h3 := (World.cells?_some e1).2.2 0 h0
      have hl := (World.cells?_some e1).2.1
      have : cs[0]? = some (cs[0]'(by omega)) := List.getElem?_eq_getElem (by omega)
      rw [this] at h3
      have := World.cell?_spot h3
      simpa [Addr.add] using this
    have hm := cells_mrel hg hsp e1 e2
    have hb : (a.add (q * τ.sz)).block = a.block ∧ (a.add (q * τ.sz)).off = a.off + q * τ.sz := by
      unfold Addr.add
      split
      · rename_i hz; rw [hz]; exact ⟨rfl, rfl⟩
      · exact ⟨rfl, rfl⟩
    rw [hb.1, hb.2] at hm
    rw [List.flatMap_cons]
    refine MRel.mk fun j v hj => ?_
    rcases Nat.lt_or_ge j (τ.enc x).length with hlt | hge
    · rw [List.getElem?_append_left hlt] at hj
      exact hm.at_ hj
    · rw [List.getElem?_append_right hge] at hj
      have := f3.at_ hj
      rw [Ty.enc_length] at this hge
      rwa [show a.off + (q + 1) * τ.sz + (j - τ.sz) = a.off + q * τ.sz + j by rw [Nat.add_mul]; omega] at this

theorem trod_ty {g : G} (hg : ∀ b o, ¬ g.own b o) : ∀ (fuel : Nat) {t : TypeId} {τ : Ty} {cs : List Value} {z : DataW H × List MemPlace}, TyOk P t τ → DataW.trod enc P W 0 sp true fuel t cs = some z → ∃ x : τ.I, LRel g W (τ.enc x) cs ∧ τ.good x ∧ cs.length = τ.sz := by
  intro fuel
  induction fuel with
  | zero => intro t τ cs z _ h; simp [DataW.trod] at h
  | succ fuel ih =>
    intro t τ cs z ho h
    cases ho with
    | int ht =>
      obtain ⟨n, rfl, -, hw⟩ := DataW.trod_int ht h
      exact ⟨n, by simp [Ty.enc, LRel, VRel], hw, rfl⟩
    | bool ht =>
      obtain ⟨b, rfl, -⟩ := DataW.trod_bool ht h
      exact ⟨b, by simp [Ty.enc, LRel, VRel], trivial, rfl⟩
    | str ht =>
      obtain ⟨s, rfl, -, hw⟩ := DataW.trod_string ht h
      exact ⟨s, by simp [Ty.enc, LRel, VRel], hw, rfl⟩
    | @sl _ e τ ht hc h0 he =>
      rcases DataW.trod_slice ht h with ⟨rfl, -⟩ | ⟨a, len, cap, elems, rest, n, hn, rfl, -, -, hlc, hcm, hel, hget, -⟩
      · refine ⟨([] : List τ.I), ?_, ⟨Nat.zero_le _, fun x hx => by cases hx⟩, rfl⟩
        simp only [Ty.enc, LRel]
        refine ⟨_, _, rfl, ?_, rfl⟩
        simp only [VRel]
        exact ⟨.none, 0, rfl, Nat.le_refl _, .inl rfl, fun t h => by cases h⟩
      · cases hn
        obtain ⟨l, f1, f2, f3⟩ := row_mrel hg h0 (a := a) len 0 (fun i hi => by
          have hgi := hget i hi
          rw [hc] at hgi
          have : elems[i]? = some (elems[i]'(by omega)) := List.getElem?_eq_getElem (by omega)
          rw [this] at hgi
          obtain ⟨cs, hcs, htr⟩ := Option.bind_eq_some_iff.1 hgi
          obtain ⟨x, e1, e2, -⟩ := ih he htr
          exact ⟨x, cs, by simpa using hcs, e1, e2⟩)
        refine ⟨l, ?_, ⟨by rw [f1]; omega, f2⟩, rfl⟩
        simp only [Ty.enc, LRel]
        refine ⟨_, _, rfl, ?_, rfl⟩
        simp only [VRel]
        refine ⟨some a, cap, by rw [f1], by rw [f1]; exact hlc, ?_, fun t h => by cases h⟩
        by_cases hl0 : len = 0
        · left
          have : l = [] := List.eq_nil_of_length_eq_zero (by omega)
          rw [this]; rfl
        · right
          have hgi := hget 0 (by omega)
          have : elems[0]? = some (elems[0]'(by omega)) := List.getElem?_eq_getElem (by omega)
          rw [this] at hgi
          obtain ⟨cs, hcs, htr⟩ := Option.bind_eq_some_iff.1 hgi
          rw [hc] at hcs
          have h3 := (World.cells?_some hcs).2.2 0 h0
          have hl := (World.cells?_some hcs).2.1
          have e0 : cs[0]? = some (cs[0]'(by omega)) := List.getElem?_eq_getElem (by omega)
          rw [e0] at h3
          have hsp : a.spot = .none := by
            have := World.cell?_spot h3
            simpa [Addr.add] using this
          obtain ⟨b, o, s⟩ := a
          simp only at hsp
          subst hsp
          exact ⟨b, o, rfl, by simpa using f3⟩
    | @st _ fs τ ht hc hf =>
      obtain ⟨xs, n, hn, -, hlen, hxl, hget⟩ := DataW.trod_struct ht h
      cases hn
      obtain ⟨x, e1, e2⟩ := flds_rel ih hf (fun f hfm => by
        obtain ⟨i, hi⟩ := List.getElem?_of_mem hfm
        have hg' := hget i f (by simpa using hi)
        have hlt : i < xs.length := by
          rw [hxl]
          have := (List.getElem?_eq_some_iff.1 hi).1
          simpa using this
        rw [List.getElem?_eq_getElem hlt] at hg'
        exact ⟨_, hg'⟩) (by rw [hlen, hc]; omega)
      exact ⟨x, by simpa using e1, e2, by rw [hlen, hc]⟩
    | @tm _ fs f1 f2 f3 ht hc hfs ho1 hc1 h1 h2 h3 =>
      have self : TyOk P t .tm := .tm ht hc hfs ho1 hc1 h1 h2 h3
      obtain ⟨xs, n, hn, -, hlen, hxl, hget⟩ := DataW.trod_struct ht h
      cases hn
      have hf : FldOk P fs.toList 0 (.pair .bool (.pair .str (.pair (.sl .tm) .unit))) := by
        rw [hfs]
        exact .cons ho1.1 hc1.1 (.bool h1) (.cons ho1.2.1 hc1.2.1 (.str h2) (.cons ho1.2.2 hc1.2.2 (.sl h3 hc (by decide) self) .nil))
      obtain ⟨x, e1, e2⟩ := flds_rel ih hf (fun f hfm => by
        obtain ⟨i, hi⟩ := List.getElem?_of_mem hfm
        have hg' := hget i f (by simpa using hi)
        have hlt : i < xs.length := by
          rw [hxl]
          have := (List.getElem?_eq_some_iff.1 hi).1
          simpa using this
        rw [List.getElem?_eq_getElem hlt] at hg'
        exact ⟨_, hg'⟩) (by rw [hlen, hc]; rfl)
      obtain ⟨v, s, l, u⟩ := x
      refine ⟨Tm.mk v s l, ?_, ⟨e2.2.1, e2.2.2.1.1, Tm.goodL_of l e2.2.2.1.2⟩, by rw [hlen, hc]; rfl⟩
      have he : Ty.enc .tm (Tm.mk v s l) = Ty.enc (.pair .bool (.pair .str (.pair (.sl .tm) .unit))) (v, s, l, u) := by
        exact Tm.cells_mk v s l
      rw [he]
      simpa using e1
    | @fo _ u fs f1 f2 f3 f4 ht hc hfs ho1 hc1 h1 h2 h3 h4 hcu hu =>
      have self : TyOk P t .fo := .fo ht hc hfs ho1 hc1 h1 h2 h3 h4 hcu hu
      obtain ⟨xs, n, hn, -, hlen, hxl, hget⟩ := DataW.trod_struct ht h
      cases hn
      have hf : FldOk P fs.toList 0 (.pair (.int .u8) (.pair .str (.pair (.sl .tm) (.pair (.sl .fo) .unit)))) := by
        rw [hfs]
        exact .cons ho1.1 hc1.1 (.int h1) (.cons ho1.2.1 hc1.2.1 (.str h2) (.cons ho1.2.2.1 hc1.2.2.1 (.sl h3 hcu (by decide) hu) (.cons ho1.2.2.2 hc1.2.2.2 (.sl h4 hc (by decide) self) .nil)))
      obtain ⟨x, e1, e2⟩ := flds_rel ih hf (fun f hfm => by
        obtain ⟨i, hi⟩ := List.getElem?_of_mem hfm
        have hg' := hget i f (by simpa using hi)
        have hlt : i < xs.length := by
          rw [hxl]
          have := (List.getElem?_eq_some_iff.1 hi).1
          simpa using this
        rw [List.getElem?_eq_getElem hlt] at hg'
        exact ⟨_, hg'⟩) (by rw [hlen, hc]; rfl)
      obtain ⟨op, s, l, m, w⟩ := x
      change Int at op
      have hop : 0 ≤ op ∧ op ≤ 255 := by simpa [Lit.wf, IntKind.min, IntKind.max, IntKind.signed, IntKind.bits] using (show (Lit.int .u8 op).wf = true from e2.1)
      refine ⟨Fo.mk op.toNat s l m, ?_, ⟨by omega, e2.2.1, e2.2.2.1.1, Tm.goodL_of l e2.2.2.1.2, e2.2.2.2.1.1, Fo.goodL_of m e2.2.2.2.1.2⟩, by rw [hlen, hc]; rfl⟩
      have he : Ty.enc .fo (Fo.mk op.toNat s l m) = Ty.enc (.pair (.int .u8) (.pair .str (.pair (.sl .tm) (.pair (.sl .fo) .unit)))) (op, s, l, m, w) := by
        refine (Fo.cells_mk op.toNat s l m).trans ?_
        rw [show ((op.toNat : Nat) : Int) = op by omega]
        rfl
      rw [he]
      simpa using e1
    | @arr _ e n τ ht hc he hn =>
      obtain ⟨xs, m, hm, -, hlen, hxl, hget⟩ := DataW.trod_array ht h
      cases hm
      obtain ⟨x, e1, e2⟩ := rep_rel he ih n 0 (fun i hi => by
        have hg' := hget i hi
        rw [List.getElem?_eq_getElem (by omega), hc] at hg'
        exact ⟨_, by simpa using hg'⟩) (by rw [hlen, hn]; omega)
      exact ⟨x, by simpa using e1, e2, by rw [hlen, hn, repTy_sz]⟩
end
end Go.Vsi
/-! text B1 -/
namespace Go.Vsi
open Go.ChangeShapes Go.WideShapes

/-- the type of a row of the table, as far as it is plain -/
def tyFlds (ty : TypeId → Option Ty) (szOf : TypeId → Option Nat) : List (TypeId × Nat × Nat × Bool) → Nat → Option Ty
  | [], _ => some .unit
  | (ft, o, sz, _) :: fs, off => match Nat.beq o off with
    | true => match ty ft with
      | some a => match Nat.beq sz a.sz with
        | true => match tyFlds ty szOf fs (off + a.sz) with
          | some b => some (.pair a b)
          | none => none
        | false => none
      | none => none
    | false => none
def szT (T : TypeId → Option TI) (t : TypeId) : Option Nat := match T t with
  | some ti => some ti.sz
  | none => none
def kindT (T : TypeId → Option TI) (t : TypeId) : Option TK := match T t with
  | some ti => some ti.kind
  | none => none
def isSlT (T : TypeId → Option TI) (t e : TypeId) : Bool := match kindT T t with
  | some (.sl e') => Nat.beq e' e
  | _ => false
def isBlT (T : TypeId → Option TI) (t : TypeId) : Bool := match kindT T t with
  | some .bool => true
  | _ => false
def isStT (T : TypeId → Option TI) (t : TypeId) : Bool := match kindT T t with
  | some .str => true
  | _ => false
def isU8T (T : TypeId → Option TI) (t : TypeId) : Bool := match kindT T t with
  | some (.int .u8) => true
  | _ => false
def offOk : List (TypeId × Nat × Nat × Bool) → Nat → Bool
  | [], _ => true
  | (_, o, sz, _) :: fs, n => (Nat.beq o n && Nat.beq sz 1) && offOk fs (n + 1)
/-- a type like that of the terms -/
def tmT (T : TypeId → Option TI) (t : TypeId) : Bool := match kindT T t with
  | some (.st [(a, x1), (b, x2), (c, x3)]) => match szT T t with
    | some 3 => offOk [(a, x1), (b, x2), (c, x3)] 0 && (isBlT T a && (isStT T b && isSlT T c t))
    | _ => false
  | _ => false
/-- a type like that of the formulas -/
def foT (T : TypeId → Option TI) (t : TypeId) : Bool := match kindT T t with
  | some (.st [(a, x1), (b, x2), (c, x3), (d, x4)]) => match szT T t with
    | some 4 => match kindT T c with
      | some (.sl u) => tmT T u && (offOk [(a, x1), (b, x2), (c, x3), (d, x4)] 0 && (isU8T T a && (isStT T b && isSlT T d t)))
      | _ => false
    | _ => false
  | _ => false
def tyOf (T : TypeId → Option TI) : Nat → TypeId → Option Ty
  | 0, _ => none
  | n + 1, t => match tmT T t with
    | true => some .tm
    | false => match foT T t with
    | true => some .fo
    | false => match T t with
    | some ti => match ti.kind with
      | .int k => some (.int k)
      | .bool => some .bool
      | .str => some .str
      | .sl e => match tyOf T n e with
        | some τ => match szT T e with
          | some s => match Nat.beq s τ.sz with
            | true => match τ.sz with
              | 0 => none
              | _ + 1 => some (.sl τ)
            | false => none
          | none => none
        | none => none
      | .st fs => match tyFlds (tyOf T n) (szT T) fs 0 with
        | some τ => match Nat.beq ti.sz τ.sz with
          | true => some τ
          | false => none
        | none => none
      | .arr m e => match tyOf T n e with
        | some τ => match szT T e with
          | some s => match Nat.beq s τ.sz with
            | true => match Nat.beq ti.sz (m * τ.sz) with
              | true => some (repTy m τ)
              | false => none
            | false => none
          | none => none
        | none => none
      | _ => none
    | none => none

section
variable {P : Program} {T : TypeId → Option TI}
theorem cellsOf_of {t : TypeId} {i : TypeInfo} (h : P.info? t = some i) : P.cellsOf t = i.size := by simp [Program.cellsOf, h]
theorem szT_cells (hT : TOk P T) {t : TypeId} {s : Nat} (h : szT T t = some s) : P.cellsOf t = s := by
  unfold szT at h
  split at h
  · rename_i ti ht
    simp only [Option.some.injEq] at h; subst h
    obtain ⟨d, i, -, h2, -, h4, -⟩ := tiOf_some (hT _ _ ht)
    rw [cellsOf_of h2, h4]
  · cases h

theorem kindT_some (hT : TOk P T) {t : TypeId} {k : TK} (h : kindT T t = some k) : ∃ d, P.underlying t = some d ∧ tkOf P d = k := by
  unfold kindT at h
  split at h
  · rename_i ti ht
    simp only [Option.some.injEq] at h; subst h
    obtain ⟨d, i, h1, -, h3, -⟩ := tiOf_some (hT _ _ ht)
    exact ⟨d, h1, h3.symm⟩
  · cases h
theorem isSlT_ok (hT : TOk P T) {t e : TypeId} (h : isSlT T t e = true) : P.underlying t = some (.slice e) := by
  unfold isSlT at h
  split at h
  · rename_i e' hk
    obtain ⟨d, h1, h2⟩ := kindT_some hT hk
    obtain rfl := Nat.eq_of_beq_eq_true h
    have hd : d = .slice e' := by cases d <;> simp [tkOf] at h2; rw [h2]
    exact hd ▸ h1
  · cases h
theorem isBlT_ok (hT : TOk P T) {t : TypeId} (h : isBlT T t = true) : P.underlying t = some .bool := by
  unfold isBlT at h
  split at h
  · rename_i hk
    obtain ⟨d, h1, h2⟩ := kindT_some hT hk
    have hd : d = .bool := by cases d <;> simp [tkOf] at h2; rfl
    exact hd ▸ h1
  · cases h
theorem isStT_ok (hT : TOk P T) {t : TypeId} (h : isStT T t = true) : P.underlying t = some .string := by
  unfold isStT at h
  split at h
  · rename_i hk
    obtain ⟨d, h1, h2⟩ := kindT_some hT hk
    have hd : d = .string := by cases d <;> simp [tkOf] at h2; rfl
    exact hd ▸ h1
  · cases h
theorem isU8T_ok (hT : TOk P T) {t : TypeId} (h : isU8T T t = true) : P.underlying t = some (.int .u8) := by
  unfold isU8T at h
  split at h
  · rename_i hk
    obtain ⟨d, h1, h2⟩ := kindT_some hT hk
    have hd : d = .int .u8 := by cases d <;> simp [tkOf] at h2; rw [h2]
    exact hd ▸ h1
  · cases h
theorem isz_cells (t : TypeId) : P.cellsOf t = isz P t := by
  unfold Program.cellsOf isz
  cases P.info? t <;> rfl
theorem tmT_ok (hT : TOk P T) {t : TypeId} (h : tmT T t = true) : TyOk P t .tm ∧ P.cellsOf t = 3 := by
  unfold tmT at h
  split at h
  · rename_i a x1 b x2 c x3 hk
    split at h
    · rename_i hs
      have hc := szT_cells hT hs
      obtain ⟨d, h1, h2⟩ := kindT_some hT hk
      obtain ⟨fields, rfl, hfs⟩ := st_field_of h2.symm
      simp only [Bool.and_eq_true, offOk] at h
      obtain ⟨⟨⟨o1, s1⟩, ⟨o2, s2⟩, ⟨o3, s3⟩, -⟩, g1, g2, g3⟩ := h
      match hl : fields.toList, hfs with
      | [f1, f2, f3], hfs =>
        simp only [List.map_cons, List.map_nil, List.cons.injEq, Prod.mk.injEq, and_true] at hfs
        obtain ⟨⟨rfl, rfl, rfl⟩, ⟨rfl, rfl, rfl⟩, ⟨rfl, rfl, rfl⟩⟩ := hfs
        exact ⟨.tm h1 hc hl ⟨Nat.eq_of_beq_eq_true o1, Nat.eq_of_beq_eq_true o2, Nat.eq_of_beq_eq_true o3⟩ ⟨by rw [isz_cells]; exact Nat.eq_of_beq_eq_true s1, by rw [isz_cells]; exact Nat.eq_of_beq_eq_true s2, by rw [isz_cells]; exact Nat.eq_of_beq_eq_true s3⟩ (isBlT_ok hT g1) (isStT_ok hT g2) (isSlT_ok hT g3), hc⟩
      | [], hfs => simp at hfs
      | [_], hfs => simp at hfs
      | [_, _], hfs => simp at hfs
      | _ :: _ :: _ :: _ :: _, hfs => simp at hfs
    · cases h
  · cases h
theorem foT_ok (hT : TOk P T) {t : TypeId} (h : foT T t = true) : TyOk P t .fo := by
  unfold foT at h
  split at h
  · rename_i a x1 b x2 c x3 d x4 hk
    split at h
    · rename_i hs
      split at h
      · rename_i u hu
        have hc := szT_cells hT hs
        obtain ⟨e, h1, h2⟩ := kindT_some hT hk
        obtain ⟨fields, rfl, hfs⟩ := st_field_of h2.symm
        obtain ⟨e2, h3, h4⟩ := kindT_some hT hu
        have hd : e2 = .slice u := by cases e2 <;> simp [tkOf] at h4; rw [h4]
        subst hd
        simp only [Bool.and_eq_true, offOk] at h
        obtain ⟨gu, ⟨⟨o1, s1⟩, ⟨o2, s2⟩, ⟨o3, s3⟩, ⟨o4, s4⟩, -⟩, g1, g2, g3⟩ := h
        obtain ⟨gu1, gu2⟩ := tmT_ok hT gu
        match hl : fields.toList, hfs with
        | [f1, f2, f3, f4], hfs =>
          simp only [List.map_cons, List.map_nil, List.cons.injEq, Prod.mk.injEq, and_true] at hfs
          obtain ⟨⟨rfl, rfl, rfl⟩, ⟨rfl, rfl, rfl⟩, ⟨rfl, rfl, rfl⟩, ⟨rfl, rfl, rfl⟩⟩ := hfs
          exact .fo h1 hc hl ⟨Nat.eq_of_beq_eq_true o1, Nat.eq_of_beq_eq_true o2, Nat.eq_of_beq_eq_true o3, Nat.eq_of_beq_eq_true o4⟩ ⟨by rw [isz_cells]; exact Nat.eq_of_beq_eq_true s1, by rw [isz_cells]; exact Nat.eq_of_beq_eq_true s2, by rw [isz_cells]; exact Nat.eq_of_beq_eq_true s3, by rw [isz_cells]; exact Nat.eq_of_beq_eq_true s4⟩ (isU8T_ok hT g1) (isStT_ok hT g2) h3 (isSlT_ok hT g3) gu2 gu1
        | [], hfs => simp at hfs
        | [_], hfs => simp at hfs
        | [_, _], hfs => simp at hfs
        | [_, _, _], hfs => simp at hfs
        | _ :: _ :: _ :: _ :: _ :: _, hfs => simp at hfs
      · cases h
    · cases h
  · cases h

theorem tyFlds_ok {ty : TypeId → Option Ty} {szOf : TypeId → Option Nat} (hty : ∀ t τ, ty t = some τ → TyOk P t τ) : ∀ {fs : List Field} {off : Nat} {τ : Ty}, tyFlds ty szOf (fs.map fun f => (f.type, f.offset, isz P f.type, f.name == "_")) off = some τ → (∀ f ∈ fs, P.cellsOf f.type = isz P f.type) → FldOk P fs off τ
  | [], off, τ, h, _ => by simp only [List.map_nil, tyFlds, Option.some.injEq] at h; subst h; exact .nil
  | f :: fs, off, τ, h, hc => by
    simp only [List.map_cons, tyFlds] at h
    split at h
    · rename_i ho
      split at h
      · rename_i a ha
        split at h
        · rename_i hs
          split at h
          · rename_i b hb
            simp only [Option.some.injEq] at h; subst h
            exact .cons (Nat.eq_of_beq_eq_true ho) (by rw [hc f (by simp)]; exact Nat.eq_of_beq_eq_true hs) (hty _ _ ha) (tyFlds_ok hty hb fun g hg => hc g (by simp [hg]))
          · cases h
        · cases h
      · cases h
    · cases h

theorem tyOf_ok (hT : TOk P T) : ∀ (n : Nat) (t : TypeId) (τ : Ty), tyOf T n t = some τ → TyOk P t τ
  | 0, _, _, h => by cases h
  | n + 1, t, τ, h => by
    simp only [tyOf] at h
    cases htm : tmT T t with
    | true =>
      simp only [htm, Option.some.injEq] at h; subst h
      exact (tmT_ok hT htm).1
    | false =>
    cases hfo : foT T t with
    | true =>
      simp only [htm, hfo, Option.some.injEq] at h; subst h
      exact foT_ok hT hfo
    | false =>
    simp only [htm, hfo] at h
    split at h
    case h_2 => cases h
    rename_i ti ht
    obtain ⟨d, i, e1, e2, e3, e4, -⟩ := tiOf_some (hT _ _ ht)
    split at h
    · rename_i k hk
      simp only [Option.some.injEq] at h; subst h
      rw [hk] at e3
      have hd : d = .int k := by cases d <;> simp [tkOf] at e3; rw [e3]
      subst hd; exact .int e1
    · rename_i hk
      simp only [Option.some.injEq] at h; subst h
      rw [hk] at e3
      have hd : d = .bool := by cases d <;> simp [tkOf] at e3; rfl
      subst hd; exact .bool e1
    · rename_i hk
      simp only [Option.some.injEq] at h; subst h
      rw [hk] at e3
      have hd : d = .string := by cases d <;> simp [tkOf] at e3; rfl
      subst hd; exact .str e1
    · rename_i e hk
      rw [hk] at e3
      have hd : d = .slice e := by cases d <;> simp [tkOf] at e3; rw [e3]
      subst hd
      split at h
      · rename_i τ' hτ
        split at h
        · rename_i s hs
          split at h
          · rename_i hb
            split at h
            · cases h
            · rename_i q hq
              simp only [Option.some.injEq] at h; subst h
              exact .sl e1 (by rw [szT_cells hT hs]; exact Nat.eq_of_beq_eq_true hb) (by omega) (tyOf_ok hT n e τ' hτ)
          · cases h
        · cases h
      · cases h
    · rename_i fs hk
      rw [hk] at e3
      obtain ⟨fields, rfl, hfs⟩ := st_field_of e3
      split at h
      · rename_i τ' hτ
        split at h
        · rename_i hb
          simp only [Option.some.injEq] at h; subst h
          rw [hfs] at hτ
          refine .st e1 (by rw [cellsOf_of e2, ← e4]; exact Nat.eq_of_beq_eq_true hb) (tyFlds_ok (tyOf_ok hT n) hτ fun f _ => ?_)
          unfold Program.cellsOf isz
          cases P.info? f.type <;> rfl
        · cases h
      · cases h
    · rename_i m e hk
      rw [hk] at e3
      have hd : d = .array m e := by cases d <;> simp [tkOf] at e3; rw [e3.1, e3.2]
      subst hd
      split at h
      · rename_i τ' hτ
        split at h
        · rename_i s hs
          split at h
          · rename_i hb
            split at h
            · rename_i hz
              simp only [Option.some.injEq] at h; subst h
              exact .arr e1 (by rw [szT_cells hT hs]; exact Nat.eq_of_beq_eq_true hb) (tyOf_ok hT n e τ' hτ) (by rw [cellsOf_of e2, ← e4]; exact Nat.eq_of_beq_eq_true hz)
            · cases h
          · cases h
        · cases h
      · cases h
    · cases h

/-! ### one argument -/
variable {H : Type} {enc : TypeId × Value → H} {W : World} {sp : Nat → Bool} {r : Reach} {b0 : Nat}

theorem arg_agg {g : G} (hg : ∀ b o, ¬ g.own b o) {t : TypeId} {τ : Ty} {v : Value} {d : DataW H} {ps : List MemPlace} (hd : (∃ fs, P.underlying t = some (.struct fs)) ∨ ∃ n e, P.underlying t = some (.array n e)) (ht : TyOk P t τ) (hval : Value.okWide P W r b0 t v) (h : DataW.Trod enc P W 0 sp true t v d ps) :
    ∃ x : τ.I, VRel g W (.agg (τ.enc x)) v ∧ τ.good x := by
  obtain ⟨fuel, hf⟩ := h
  obtain ⟨x, h1, h2, -⟩ := trod_ty hg fuel ht hf
  have : ∃ cs, v = .agg cs := by
    unfold Value.okWide at hval
    rcases hd with ⟨fs, hd⟩ | ⟨n, e, hd⟩
    · rw [hd] at hval; obtain ⟨cs, h, -⟩ := hval; exact ⟨cs, h⟩
    · rw [hd] at hval; obtain ⟨cs, h, -⟩ := hval; exact ⟨cs, h⟩
  obtain ⟨cs, rfl⟩ := this
  refine ⟨x, ?_, h2⟩
  simp only [VRel]
  exact ⟨cs, rfl, h1⟩
theorem arg_one {g : G} (hg : ∀ b o, ¬ g.own b o) {t : TypeId} {τ : Ty} {v : Value} {d : DataW H} {ps : List MemPlace} (hd : (∃ k, P.underlying t = some (.int k)) ∨ P.underlying t = some .bool ∨ P.underlying t = some .string ∨ ∃ e, P.underlying t = some (.slice e)) (ht : TyOk P t τ) (hval : Value.okWide P W r b0 t v) (h : DataW.Trod enc P W 0 sp true t v d ps) :
    ∃ x : τ.I, LRel g W (τ.enc x) [v] ∧ τ.good x := by
  obtain ⟨fuel, hf⟩ := h
  obtain ⟨x, h1, h2, -⟩ := trod_ty hg fuel ht hf
  have : v.cells.toList = [v] := by
    unfold Value.okWide at hval
    rcases hd with ⟨k, hd⟩ | hd | hd | ⟨e, hd⟩ <;> rw [hd] at hval <;> cases v <;> simp_all [Value.cells, Cell.okWide, Cell.ok]
  rw [this] at h1
  exact ⟨x, h1, h2⟩

/-! ### a law's row -/
theorem post_of_ext {f : Func} {s : ChangeSpec} {again : Bool} {W W' : World} {args : Array Value} {v : Value} {ds gs : List (DataW H)} {before : List MemPlace} {g g' : G} {tb : TypeId}
    (hW : DataW.Whole enc P f.params.toList s.vars false W args.toList ds gs before) (hx : Ext g W g' W') (hg : ∀ b o, ¬ g.own b o)
    (hl : laidOutB P = true) (hr : f.params.all (fun t => P.readableRec t && decide (t < P.types.size)) = true)
    (hres : f.resultTypes = #[tb]) (htb : P.underlying tb = some .bool) (hv : v = .bool true) (hvars : s.vars = []) (hfn : s.fn H (ds ++ gs) = { results := [.lit (.bool true)], args := ds }) :
    s.post enc P f false true false again W args v W' := by
  subst hv
  have hb : ∀ p ∈ before, p.block < W.heap.size := fun p hp => hW.lt p hp
  have hheap : ∀ b, b < W.heap.size → W'.heap[b]? = W.heap[b]? := fun b hb => hx.same b hb fun o => hg b o
  obtain ⟨p, q, hA, hV, hpq, hfz, hnd⟩ := id hW
  rw [hvars] at hV
  obtain ⟨rfl, rfl⟩ : gs = [] ∧ q = [] := by
    cases gs with
    | nil => exact ⟨rfl, hV⟩
    | cons g gs => exact hV.elim
  rw [List.append_nil] at hpq
  subst hpq
  have hsame : ∀ pl ∈ before, W.sameAt W' pl := by
    intro pl hpl
    have h1 := hheap pl.block (hb pl hpl)
    cases pl with
    | cell b o =>
      simp only [MemPlace.block] at h1
      simp [World.sameAt, World.cell?, h1]
    | map b =>
      simp only [MemPlace.block] at h1
      simp [World.sameAt, h1]
  have hargs : ∀ sp : Nat → Bool, (∀ p ∈ before, sp p.block = true) → DataW.TrodAll enc P W' 0 sp true f.params.toList args.toList ds before := by
    intro sp hsp
    have key : ∀ (ts : List TypeId) (vs : List Value) (ds : List (DataW H)) (ps : List MemPlace), (∀ t ∈ ts, P.readableRec t = true ∧ t < P.types.size) → (∀ p ∈ ps, W.sameAt W' p) → (∀ p ∈ ps, sp p.block = true) → DataW.TrodAll enc P W 0 (fun _ => true) true ts vs ds ps → DataW.TrodAll enc P W' 0 sp true ts vs ds ps := by
      intro ts
      induction ts with
      | nil => intro vs ds ps _ _ _ h; cases vs <;> cases ds <;> exact h
      | cons t ts ih =>
        intro vs ds ps h1 h2 h3 h
        cases vs with
        | nil => exact h.elim
        | cons v vs =>
        cases ds with
        | nil => exact h.elim
        | cons d ds =>
        obtain ⟨p1, q1, e1, e2, rfl⟩ := h
        obtain ⟨r1, r2⟩ := h1 t (by simp)
        exact ⟨p1, q1, Go.WideElems.Trod_stays hl r1 r2 e1 (fun p hp => h2 p (by simp [hp])) (fun p hp => h3 p (by simp [hp])), ih vs ds q1 (fun t ht => h1 t (by simp [ht])) (fun p hp => h2 p (by simp [hp])) (fun p hp => h3 p (by simp [hp])) e2, rfl⟩
    refine key _ _ _ _ (fun t ht => ?_) hsame hsp hA
    rw [Array.all_eq_true] at hr
    obtain ⟨i, hi, rfl⟩ := List.getElem_of_mem ht
    have := hr i (by simpa using hi)
    simpa using this
  have hresT : ∀ (b : Nat) (sp : Nat → Bool) (hd : Bool), DataW.TrodAll enc P W' b sp hd f.resultTypes.toList ((Value.bool true).resultList f.resultTypes.size) (s.fn H (ds ++ [])).results [] := by
    intro b sp hd
    rw [hfn, hres]
    exact ⟨[], [], Go.RowKit.shut_bool htb true, rfl, rfl⟩
  have hold : ∀ p ∈ before, (fun b => decide (b < W.heap.size)) p.block = true := fun p hp => by simpa using hb p hp
  have hvarsT : ∀ sp : Nat → Bool, DataW.TrodVars enc P W' sp s.vars (s.fn H (ds ++ [])).vars [] := by
    intro sp
    rw [hvars, hfn]
    rfl
  have hargs' : ∀ sp : Nat → Bool, (∀ p ∈ before, sp p.block = true) → DataW.TrodAll enc P W' 0 sp true f.params.toList args.toList (s.fn H (ds ++ [])).args before := by
    intro sp hsp
    rw [hfn]
    exact hargs sp hsp
  have hk : W.keptBut W' (· ∈ before) := by
    refine ⟨hx.os, hx.output, fun i hi => ?_⟩
    rw [hheap i hi]
    cases hh : W.heap[i]? with
    | none => trivial
    | some o => cases o <;> simp
  refine ⟨ds, [], before, [], before, [], hW, hresT _ _ _, hargs' _ hold, hvarsT _, World.keptBut_mono (fun p hp => ⟨hp, ?_⟩) hk, fun _ => ?_⟩
  · simp [hp]
  · refine ⟨Go.RowKit.ok_one hres rfl (Go.RowKit.okWide_bool_mk htb true), _, _, ([] ++ before) ++ [], ⟨[] ++ before, [], trodAll_append (hargs' _ (fun _ _ => rfl)) (hresT _ _ _), hvarsT _, rfl, ?_, ?_⟩, ?_⟩
    · intro b off hp
      have hp' : MemPlace.cell b off ∈ before := by simpa using hp
      have := hheap b (hb _ hp')
      unfold World.frozen?
      simp only [this]
      exact hfz b off hp'
    · intro ha; cases ha
    · intro p hp _
      simpa using hp

/-- from the walk to the row's step -/
theorem law_calls [Glob] {f : Func} {F : FuncId} {s : ChangeSpec} {again : Bool} {W : World} {args : Array Value} {ds gs : List (DataW H)} {before : List MemPlace} {as : List AV} {tb : TypeId}
    (hW : DataW.Whole enc P f.params.toList s.vars false W args.toList ds gs before) (hd : VDet P F as [] (.bool true)) (has : LRel G.none W as args.toList) (hgl : ∀ p ∈ Glob.gl, MRel G.none W p.2 p.1 0)
    (hl : laidOutB P = true) (hr : f.params.all (fun t => P.readableRec t && decide (t < P.types.size)) = true)
    (hres : f.resultTypes = #[tb]) (htb : P.underlying tb = some .bool) (hvars : s.vars = []) (hfn : s.fn H (ds ++ gs) = { results := [.lit (.bool true)], args := ds }) :
    Calls P F args W fun e W' => ∃ v, e = .returned v ∧ s.post enc P f false true false again W args v W' := by
  refine (hd.2 G.none W args (hrel_none W hgl) has).mono ?_
  rintro e W' ⟨r, H', g', c, rfl, ⟨-, rfl⟩, -, hv, hx⟩
  simp only [VRel] at hv
  subst hv
  exact ⟨_, rfl, post_of_ext hW hx (fun _ _ h => h) hl hr hres htb rfl hvars hfn⟩
end
end Go.Vsi
/-! text B2 -/
namespace Go.Vsi
theorem LRel.head1 {g : G} {w : World} {a : AV} {v : Value} (h : LRel g w [a] [v]) : VRel g w a v := by
  simp only [LRel] at h
  obtain ⟨c, r, e, h1, h2⟩ := h
  cases e
  exact h1
theorem LRel.more {g : G} {w : World} {a : AV} {v : Value} {l : List AV} {vs : List Value} (h : VRel g w a v) (t : LRel g w l vs) : LRel g w (a :: l) (v :: vs) := by
  simp only [LRel]
  exact ⟨v, vs, rfl, h, t⟩
theorem LRel.nil {g : G} {w : World} : LRel g w [] [] := by simp only [LRel]
theorem wf_u8 {n : Int} (h : (Lit.int .u8 n).wf = true) : 0 ≤ n ∧ n ≤ 255 := by simpa [Lit.wf, IntKind.min, IntKind.max, IntKind.signed, IntKind.bits] using h
theorem wf_u16 {n : Int} (h : (Lit.int .u16 n).wf = true) : 0 ≤ n ∧ n ≤ 65535 := by simpa [Lit.wf, IntKind.min, IntKind.max, IntKind.signed, IntKind.bits] using h
theorem wf_u32 {n : Int} (h : (Lit.int .u32 n).wf = true) : 0 ≤ n ∧ n ≤ 4294967295 := by simpa [Lit.wf, IntKind.min, IntKind.max, IntKind.signed, IntKind.bits] using h
theorem wf_u64 {n : Int} (h : (Lit.int .u64 n).wf = true) : 0 ≤ n ∧ n ≤ 18446744073709551615 := by simpa [Lit.wf, IntKind.min, IntKind.max, IntKind.signed, IntKind.bits] using h
theorem wf_i32 {n : Int} (h : (Lit.int .i32 n).wf = true) : -2147483648 ≤ n ∧ n ≤ 2147483647 := by simpa [Lit.wf, IntKind.min, IntKind.max, IntKind.signed, IntKind.bits] using h
theorem wf_i64 {n : Int} (h : (Lit.int .i64 n).wf = true) : -9223372036854775808 ≤ n ∧ n ≤ 9223372036854775807 := by simpa [Lit.wf, IntKind.min, IntKind.max, IntKind.signed, IntKind.bits] using h
theorem wf_i8 {n : Int} (h : (Lit.int .i8 n).wf = true) : -128 ≤ n ∧ n ≤ 127 := by simpa [Lit.wf, IntKind.min, IntKind.max, IntKind.signed, IntKind.bits] using h
theorem wf_i16 {n : Int} (h : (Lit.int .i16 n).wf = true) : -32768 ≤ n ∧ n ≤ 32767 := by simpa [Lit.wf, IntKind.min, IntKind.max, IntKind.signed, IntKind.bits] using h
theorem maxLen_le {n : Nat} (h : n ≤ maxLen) : n ≤ 9223372036854775807 := by simp only [maxLen] at h; omega
end Go.Vsi
/-! text B3 -/
namespace Go.Vsi
open Go.ChangeShapes Go.WideShapes

/-! ### a package variable's cells, read off what is laid -/
variable {H : Type}
mutual
inductive DatOf : DataW H → List AV → Prop where
  | int (k : IntKind) (n : Int) : DatOf (.lit (.int k n)) [.int k n]
  | bool (b : Bool) : DatOf (.lit (.bool b)) [.bool b]
  | agg {ds : List (DataW H)} {l : List AV} (h : DatsOf ds l) : DatOf (.agg ds) l
inductive DatsOf : List (DataW H) → List AV → Prop where
  | nil : DatsOf [] []
  | cons {d : DataW H} {ds : List (DataW H)} {l l' : List AV} (h : DatOf d l) (h' : DatsOf ds l') : DatsOf (d :: ds) (l ++ l')
end
mutual
theorem DatOf.det {d : DataW H} {l l' : List AV} : DatOf d l → DatOf d l' → l = l'
  | .int _ _, .int _ _ => rfl
  | .bool _, .bool _ => rfl
  | .agg h, .agg h' => h.det h'
theorem DatsOf.det {d : List (DataW H)} {l l' : List AV} : DatsOf d l → DatsOf d l' → l = l'
  | .nil, .nil => rfl
  | .cons h t, .cons h' t' => by rw [h.det h', t.det t']
end
def PlTy : Ty → Prop
  | .int _ => True
  | .bool => True
  | .unit => True
  | .pair a b => PlTy a ∧ PlTy b
  | _ => False
theorem PlTy.rep {τ : Ty} : ∀ {n : Nat}, 0 < n → PlTy (repTy n τ) → PlTy τ
  | _ + 1, _, h => h.1

section
variable {P : Program} {enc : TypeId × Value → H} {W : World} {sp : Nat → Bool} {hd : Bool}
theorem flds_dat {g : G} {n : Nat} (ih : ∀ {t : TypeId} {τ : Ty} {cs : List Value} {z : DataW H × List MemPlace}, PlTy τ → TyOk P t τ → DataW.trod enc P W 0 sp hd n t cs = some z → ∃ l, DatOf z.1 l ∧ LRel g W l cs) {cs : List Value} :
    ∀ {fs : List Field} {off : Nat} {τ : Ty} (xs : List (DataW H × List MemPlace)), PlTy τ → FldOk P fs off τ → xs.length = fs.length → (∀ (i : Nat) f x, fs[i]? = some f → xs[i]? = some x → DataW.trod enc P W 0 sp hd n f.type ((cs.drop f.offset).take (P.cellsOf f.type)) = some x) → off + τ.sz = cs.length → ∃ l, DatsOf (xs.map (·.1)) l ∧ LRel g W l (cs.drop off)
  | [], off, .unit, xs, _, .nil, hl, _, hlen => by
    obtain rfl := List.eq_nil_of_length_eq_zero hl
    refine ⟨[], .nil, ?_⟩
    simp only [Ty.sz, Nat.add_zero] at hlen
    rw [List.drop_of_length_le (by omega)]
    simp [LRel]
  | f :: fs, off, .pair a b, x :: xs, hp, .cons h1 h2 h3 h4, hl, hr, hlen => by
    have hz := hr 0 f x rfl rfl
    obtain ⟨l, e1, e2⟩ := ih hp.1 h3 hz
    simp only [Ty.sz] at hlen
    obtain ⟨l', e3, e4⟩ := flds_dat ih xs hp.2 h4 (by simpa using hl) (fun i f x hf hx => hr (i + 1) f x (by simpa using hf) (by simpa using hx)) (by omega)
    refine ⟨l ++ l', .cons e1 e3, ?_⟩
    rw [h1, h2] at e2
    have : cs.drop off = (cs.drop off).take a.sz ++ cs.drop (off + a.sz) := by
      rw [← List.drop_drop, List.take_append_drop]
    rw [this]
    exact e2.append e4
theorem rep_dat {g : G} {n : Nat} {e : TypeId} {τ : Ty} (he : TyOk P e τ) (hp : PlTy τ) (ih : ∀ {t : TypeId} {τ : Ty} {cs : List Value} {z : DataW H × List MemPlace}, PlTy τ → TyOk P t τ → DataW.trod enc P W 0 sp hd n t cs = some z → ∃ l, DatOf z.1 l ∧ LRel g W l cs) {cs : List Value} :
    ∀ (xs : List (DataW H × List MemPlace)) (off : Nat), (∀ (i : Nat) x, xs[i]? = some x → DataW.trod enc P W 0 sp hd n e ((cs.drop (off + i * τ.sz)).take τ.sz) = some x) → off + xs.length * τ.sz = cs.length → ∃ l, DatsOf (xs.map (·.1)) l ∧ LRel g W l (cs.drop off)
  | [], off, _, hlen => by
    refine ⟨[], .nil, ?_⟩
    simp only [List.length_nil, Nat.zero_mul, Nat.add_zero] at hlen
    rw [List.drop_of_length_le (by omega)]
    simp [LRel]
  | x :: xs, off, hr, hlen => by
    have hz := hr 0 x rfl
    simp only [Nat.zero_mul, Nat.add_zero] at hz
    obtain ⟨l, e1, e2⟩ := ih hp he hz
    obtain ⟨l', e3, e4⟩ := rep_dat he hp ih xs (off + τ.sz) (fun i x hx => by
      have := hr (i + 1) x (by simpa using hx)
      rwa [show off + (i + 1) * τ.sz = off + τ.sz + i * τ.sz by rw [Nat.add_mul]; omega] at this) (by rw [List.length_cons, Nat.add_mul] at hlen; omega)
    refine ⟨l ++ l', .cons e1 e3, ?_⟩
    have : cs.drop off = (cs.drop off).take τ.sz ++ cs.drop (off + τ.sz) := by
      rw [← List.drop_drop, List.take_append_drop]
    rw [this]
    exact e2.append e4
theorem trod_dat {g : G} : ∀ (fuel : Nat) {t : TypeId} {τ : Ty} {cs : List Value} {z : DataW H × List MemPlace}, PlTy τ → TyOk P t τ → DataW.trod enc P W 0 sp hd fuel t cs = some z → ∃ l, DatOf z.1 l ∧ LRel g W l cs := by
  intro fuel
  induction fuel with
  | zero => intro t τ cs z _ _ h; simp [DataW.trod] at h
  | succ fuel ih =>
    intro t τ cs z hp ho h
    cases ho with
    | int ht =>
      obtain ⟨n, rfl, rfl, hw⟩ := DataW.trod_int ht h
      exact ⟨_, .int _ n, by simp [LRel, VRel]⟩
    | bool ht =>
      obtain ⟨b, rfl, rfl⟩ := DataW.trod_bool ht h
      exact ⟨_, .bool b, by simp [LRel, VRel]⟩
    | str ht => exact hp.elim
    | tm _ _ _ _ _ _ _ _ => exact hp.elim
    | fo _ _ _ _ _ _ _ _ _ _ _ => exact hp.elim
    | sl _ _ _ _ => exact hp.elim
    | @st _ fs τ ht hc hf =>
      obtain ⟨xs, n, hn, rfl, hlen, hxl, hget⟩ := DataW.trod_struct ht h
      cases hn
      obtain ⟨l, e1, e2⟩ := flds_dat ih xs hp hf (by simpa using hxl) (fun i f x hfi hx => by
        have hg' := hget i f (by simpa using hfi)
        rw [hx] at hg'
        exact hg') (by rw [hlen, hc]; omega)
      exact ⟨l, .agg e1, by simpa using e2⟩
    | @arr _ e n τ ht hc he hn =>
      obtain ⟨xs, m, hm, rfl, hlen, hxl, hget⟩ := DataW.trod_array ht h
      cases hm
      by_cases h0 : 0 < n
      · obtain ⟨l, e1, e2⟩ := rep_dat he (PlTy.rep h0 hp) ih xs 0 (fun i x hx => by
          have hlt := (List.getElem?_eq_some_iff.1 hx).1
          have hg' := hget i (by omega)
          rw [hx, hc] at hg'
          simpa using hg') (by rw [hlen, hn, hxl]; omega)
        exact ⟨l, .agg e1, by simpa using e2⟩
      · have hn0 : n = 0 := by omega
        subst hn0
        obtain rfl := List.eq_nil_of_length_eq_zero hxl
        refine ⟨[], .agg .nil, ?_⟩
        have : cs = [] := List.eq_nil_of_length_eq_zero (by rw [hlen, hn]; omega)
        rw [this]; simp [LRel]
end
end Go.Vsi
