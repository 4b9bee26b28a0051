/- A text of the proof: R2. -/
import Derived.Test.YtkoomafopmiebaaR1
set_option linter.unusedSimpArgs false
set_option linter.unusedVariables false
namespace Go.Vsi

/-- a tree of choices comes to a leaf -/
inductive Res (n0 : Nat) (base : Heap) : SR → SR → Prop where
  | refl (s : SR) : Res n0 base s s
  | side {p : Prop} {s r : SR} : p → Res n0 base s r → Res n0 base (.side p s) r
  | ptrL {i j : Nat} {kl kb r} : i = n0 + j → Res n0 base (kl j) r → Res n0 base (.ptr i kl kb) r
  | ptrB {i : Nat} {B kl kb r} : base[i]? = some B → Res n0 base (kb B) r → Res n0 base (.ptr i kl kb) r
  | seg {l o l' k r} : Seg l o l' → Res n0 base (k l') r → Res n0 base (.seg l o k) r
  | eqv {x y : Int} {k r} : x = y → Res n0 base (k y) r → Res n0 base (.eqv x k) r
  | sub {l o n l' k r} : SubL l o n l' → Res n0 base (k l') r → Res n0 base (.sub l o n k) r
  | nat {i : Int} {m : Nat} {k r} : i = (m : Int) → Res n0 base (k m) r → Res n0 base (.nat i k) r
  | byte {s : ByteArray} {i : Int} {b : UInt8} {k r} : s[i.toNat]? = some b → Res n0 base (k b) r → Res n0 base (.byte s i k) r
  | orl {a b r} : Res n0 base a r → Res n0 base (.or a b) r
  | orr {a b r} : Res n0 base b r → Res n0 base (.or a b) r
  | ofs {i : Int} {n m : Nat} {k r} : i = (m : Int) → m < n → Res n0 base (k m) r → Res n0 base (.ofs i n k) r

def leaf : SR → Bool
  | .reg _ | .mem _ | .box _ _ | .upd _ _ _ | .updB _ _ _ | .blk _ _ | .call _ _ => true
  | _ => false

section
variable {P : Program} {N : Nat}

def LeafOk (P : Program) (N n0 : Nat) (base : Heap) (k : Nat) (loc : Heap) (env : Env) (o : Oper) : SR → Prop
  | .reg v => ∀ hp, Step P N hp env o (tr n0 v) hp
  | .mem v => ∀ X : Heap, Step P N ⟨base, k + X.length, loc ++ X⟩ env o (tr n0 v) ⟨base, k + X.length, loc ++ X⟩
  | .box t l => AOk P N (.box t l) env o
  | .upd j B none => ∀ loc', lset loc j B = some loc' → StepU P N ⟨base, k, loc⟩ env o ⟨base, k, loc'⟩
  | .upd j B (some v) => ∀ loc', lset loc j B = some loc' → Step P N ⟨base, k, loc⟩ env o (tr n0 v) ⟨base, k, loc'⟩
  | .updB i B none => StepU P N ⟨base, k, loc⟩ env o ⟨base.set i B, k, loc⟩
  | .updB i B (some v) => Step P N ⟨base, k, loc⟩ env o (tr n0 v) ⟨base.set i B, k, loc⟩
  | .blk B v => Step P N ⟨base, k, loc⟩ env o (tr n0 (v k)) ⟨base, k + 1, loc ++ [B]⟩
  | .call F as => ∃ f xs ts fs cs ws, o.op = .call { callee := .value f, args := (xs : List Operand).toArray, argTypes := ts } ∧ ev env f = .clo (.func F) fs cs ∧ (fs ++ ws) ++ cs = as ∧
      ∀ g w a, ERel N g w env a → LRel g w ws (xs.map a.eval)
  | _ => True

variable {n0 : Nat} {base : Heap} {k : Nat} {loc : Heap} {top bot : RE} {o : Oper} {T : TypeId → Option TI} {kn : TypeId → Nat} {r : SR}

theorem av_ev {x : Operand} {v : AV} (h : av n0 top bot x = v) (hv : v ≠ .junk) : ev (trE n0 (top ++ bot)) x = v := by
  unfold av at h
  cases he : evR top bot x with
  | none => simp only [he] at h; exact absurd h.symm hv
  | some w => simp only [he] at h; rw [evR_ev he, h]

theorem res_reg {v : RG} (h : Res n0 base (.reg v) r) : r = .reg v := by cases h; rfl
theorem res_mem {v : RG} (h : Res n0 base (.mem v) r) : r = .mem v := by cases h; rfl
theorem res_fail (h : Res n0 base .fail r) (hl : leaf r = true) : False := by cases h; cases hl
theorem res_ofV {w : Option AV} (h : Res n0 base (ofV w) r) (hl : leaf r = true) : ∃ v, w = some v ∧ r = .reg (.v v) := by
  cases w with
  | none => exact (res_fail h hl).elim
  | some v => exact ⟨v, rfl, res_reg h⟩
theorem res_memV {w : Option AV} (h : Res n0 base (memV w) r) (hl : leaf r = true) : ∃ v, w = some v ∧ r = .mem (.v v) := by
  cases w with
  | none => exact (res_fail h hl).elim
  | some v => exact ⟨v, rfl, res_mem h⟩
theorem res_side {p : Prop} {s : SR} (h : Res n0 base (.side p s) r) (hl : leaf r = true) : p ∧ Res n0 base s r := by
  cases h with
  | refl => cases hl
  | side h1 h2 => exact ⟨h1, h2⟩
theorem res_eqv {x : Int} {k : Int → SR} (h : Res n0 base (.eqv x k) r) (hl : leaf r = true) : Res n0 base (k x) r := by
  cases h with
  | refl => cases hl
  | eqv h1 h2 => subst h1; exact h2
theorem res_ofI {w : Option AV} (h : Res n0 base (ofI w) r) (hl : leaf r = true) : ∃ v, w = some v ∧ r = .reg (.v v) := by
  cases w with
  | none => exact (res_fail h hl).elim
  | some v => cases v with
    | int k x => exact ⟨_, rfl, res_reg (res_eqv h hl)⟩
    | _ => exact ⟨_, rfl, res_reg h⟩
theorem res_sub {l : List AV} {o n : Nat} {k : List AV → SR} (h : Res n0 base (.sub l o n k) r) (hl : leaf r = true) : ∃ l', SubL l o n l' ∧ Res n0 base (k l') r := by
  cases h with
  | refl => cases hl
  | sub h1 h2 => exact ⟨_, h1, h2⟩
theorem res_nat {i : Int} {k : Nat → SR} (h : Res n0 base (.nat i k) r) (hl : leaf r = true) : ∃ m : Nat, i = (m : Int) ∧ Res n0 base (k m) r := by
  cases h with
  | refl => cases hl
  | nat h1 h2 => exact ⟨_, h1, h2⟩
theorem res_byte {s : ByteArray} {i : Int} {k : UInt8 → SR} (h : Res n0 base (.byte s i k) r) (hl : leaf r = true) : ∃ b, s[i.toNat]? = some b ∧ Res n0 base (k b) r := by
  cases h with
  | refl => cases hl
  | byte h1 h2 => exact ⟨_, h1, h2⟩
theorem res_or {a b : SR} (h : Res n0 base (.or a b) r) (hl : leaf r = true) : Res n0 base a r ∨ Res n0 base b r := by
  cases h with
  | refl => cases hl
  | orl h => exact .inl h
  | orr h => exact .inr h
theorem res_withV {v : Option AV} {k : AV → SR} (h : Res n0 base (withV v k) r) (hl : leaf r = true) : ∃ a, v = some a ∧ Res n0 base (k a) r := by
  cases v with
  | none => exact (res_fail h hl).elim
  | some a => exact ⟨a, rfl, h⟩
theorem res_withL {α : Type} {v : Option (List α)} {k : List α → SR} (h : Res n0 base (withL v k) r) (hl : leaf r = true) : ∃ a, v = some a ∧ Res n0 base (k a) r := by
  cases v with
  | none => exact (res_fail h hl).elim
  | some a => exact ⟨a, rfl, h⟩
theorem res_seg {l : List AV} {o : Nat} {k : List AV → SR} (h : Res n0 base (.seg l o k) r) (hl : leaf r = true) : ∃ l', Seg l o l' ∧ Res n0 base (k l') r := by
  cases h with
  | refl => cases hl
  | seg h1 h2 => exact ⟨_, h1, h2⟩
theorem res_ofs {i : Int} {n : Nat} {k : Nat → SR} (h : Res n0 base (.ofs i n k) r) (hl : leaf r = true) : ∃ m : Nat, i = (m : Int) ∧ m < n ∧ Res n0 base (k m) r := by
  cases h with
  | refl => cases hl
  | ofs h1 h2 h3 => exact ⟨_, h1, h2, h3⟩
theorem res_ptr {i : Nat} {kl kb} (h : Res n0 base (.ptr i kl kb) r) (hl : leaf r = true) : (∃ j, i = n0 + j ∧ Res n0 base (kl j) r) ∨ (∃ B, base[i]? = some B ∧ Res n0 base (kb B) r) := by
  cases h with
  | refl => cases hl
  | ptrL h1 h2 => exact .inl ⟨_, h1, h2⟩
  | ptrB h1 h2 => exact .inr ⟨_, h1, h2⟩

theorem nf_ne {v : AV} : nf v = some v := by cases v <;> rfl

theorem leaf_move {x : Operand} (ho : o.op = .move x ∨ o.op = .assign x) (h : Res n0 base (moveS (evR top bot x)) r) (hl : leaf r = true) : LeafOk P N n0 base k loc (trE n0 (top ++ bot)) o r := by
  cases he : evR top bot x with
  | none => rw [he] at h; exact (res_fail h hl).elim
  | some v =>
    rw [he] at h
    have := res_reg h
    subst this
    intro hp
    rcases ho with ho | ho
    · exact st_move ho (by rw [evR_ev he]; exact nf_ne)
    · exact st_assign ho (by rw [evR_ev he]; exact nf_ne)

theorem ofV_step {w : Option AV} (h : Res n0 base (ofV w) r) (hl : leaf r = true) (hs : ∀ v, w = some v → ∀ hp, Step P N hp (trE n0 (top ++ bot)) o v hp) : LeafOk P N n0 base k loc (trE n0 (top ++ bot)) o r := by
  obtain ⟨v, h1, rfl⟩ := res_ofV h hl
  exact fun hp => hs v h1 hp

theorem ofI_step {w : Option AV} (h : Res n0 base (ofI w) r) (hl : leaf r = true) (hs : ∀ v, w = some v → ∀ hp, Step P N hp (trE n0 (top ++ bot)) o v hp) : LeafOk P N n0 base k loc (trE n0 (top ++ bot)) o r := by
  obtain ⟨v, h1, rfl⟩ := res_ofI h hl
  exact fun hp => hs v h1 hp

theorem intS_sound {op : BinOp} {t u : TypeId} {x y : Operand} {kk kk' : IntKind} {m n : Int} {s : SR} (ho : o.op = .binOp op t x y u)
    (hx : ev (trE n0 (top ++ bot)) x = .int kk m) (hy : ev (trE n0 (top ++ bot)) y = .int kk' n) (hs : intS op kk m kk' n = some s) (h : Res n0 base s r) (hl : leaf r = true) : LeafOk P N n0 base k loc (trE n0 (top ++ bot)) o r := by
  cases op <;> simp only [intS, reduceCtorEq] at hs
  case quo =>
    cases hk : ikEq kk kk' with
    | false => simp [hk] at hs
    | true =>
      simp only [hk, Option.some.injEq] at hs; subst hs
      obtain rfl := ikEq_spec hk
      obtain ⟨h1, h2⟩ := res_side h hl
      have := res_reg (res_eqv h2 hl); subst this
      exact fun hp => st_quo ho hx hy h1
  case rem =>
    cases hk : ikEq kk kk' with
    | false => simp [hk] at hs
    | true =>
      simp only [hk, Option.some.injEq] at hs; subst hs
      obtain rfl := ikEq_spec hk
      obtain ⟨h1, h2⟩ := res_side h hl
      have := res_reg (res_eqv h2 hl); subst this
      exact fun hp => st_rem ho hx hy h1
  case shl =>
    simp only [Option.some.injEq] at hs; subst hs
    obtain ⟨h1, h2⟩ := res_side h hl
    have := res_reg (res_eqv h2 hl); subst this
    exact fun hp => st_shl ho hx hy h1
  case shr =>
    simp only [Option.some.injEq] at hs; subst hs
    obtain ⟨h1, h2⟩ := res_side h hl
    have := res_reg (res_eqv h2 hl); subst this
    exact fun hp => st_shr ho hx hy h1

theorem leaf_bin (hT : TOk P T) (hkq : ∀ t n, kn t = n + 2 → P.stoodInHeld t = false ∧ P.eqGuardType P.depth t = false) {op : BinOp} {t u : TypeId} {x y : Operand} (ho : o.op = .binOp op t x y u) (h : Res n0 base (binS kn T op t (av n0 top bot x) (av n0 top bot y)) r) (hl : leaf r = true) : LeafOk P N n0 base k loc (trE n0 (top ++ bot)) o r := by
  generalize hx : av n0 top bot x = vx at h
  generalize hy : av n0 top bot y = vy at h
  unfold binS at h
  split at h
  · rename_i kk m kk' n
    have hx' := av_ev hx (by simp)
    have hy' := av_ev hy (by simp)
    cases hi : intS op kk m kk' n with
    | some s =>
      simp only [hi] at h
      exact intS_sound ho hx' hy' hi h hl
    | none =>
      simp only [hi] at h
      cases hk : ikEq kk kk' with
      | false => simp only [hk] at h; exact (res_fail h hl).elim
      | true =>
        simp only [hk] at h
        obtain rfl := ikEq_spec hk
        exact ofI_step h hl fun v hv hp => st_int ho hx' hy' hv
  · exact ofV_step h hl fun v hv hp => st_str ho (av_ev hx (by simp)) (av_ev hy (by simp)) hv
  · cases hb : isBoolT T t with
    | false => simp only [hb] at h; exact (res_fail h hl).elim
    | true => simp only [hb] at h; exact ofV_step h hl fun v hv hp => st_bool hT ho (av_ev hx (by simp)) (av_ev hy (by simp)) hb hv
  · split at h
    · rename_i q hq
      split at h
      · rename_i b hb
        split at h
        · have := res_reg h; subst this
          exact fun hp => st_eqAgg hT hkq (.inl rfl) ho (av_ev hx (by simp)) (av_ev hy (by simp)) hq hb
        · have := res_reg h; subst this
          exact fun hp => st_eqAgg hT hkq (.inr rfl) ho (av_ev hx (by simp)) (av_ev hy (by simp)) hq hb
        · exact (res_fail h hl).elim
      · exact (res_fail h hl).elim
    · exact (res_fail h hl).elim
  · exact (res_fail h hl).elim

theorem leaf_field (hT : TOk P T) {s : TypeId} {x : Operand} {f : Nat} (ho : o.op = .fieldAddr s x f) (h : Res n0 base (fieldS T s f (evR top bot x)) r) (hl : leaf r = true) : LeafOk P N n0 base k loc (trE n0 (top ++ bot)) o r := by
  cases he : evR top bot x with
  | none => rw [he] at h; exact (res_fail h hl).elim
  | some v =>
    rw [he] at h
    have hx := evR_ev (n0 := n0) he
    cases v with
    | lp j k =>
      simp only [fieldS] at h
      cases hs : T s with
      | none => simp only [hs] at h; exact (res_fail h hl).elim
      | some ti =>
        simp only [hs] at h
        split at h
        · rename_i fs hk
          split at h
          · rename_i hlg
            have := res_reg h; subst this
            exact fun hp => st_fieldAddr hT ho hs hk hlg hx
          · exact (res_fail h hl).elim
        · exact (res_fail h hl).elim
    | v a =>
      simp only [fieldS] at h
      refine ofV_step h hl fun v hv hp => ?_
      refine stepV_sound hT ho ?_
      simp only [stepV]
      rw [hx]
      exact hv
    | lit b => exact (res_fail h hl).elim

theorem leaf_load (hT : TOk P T) {t : TypeId} {x : Operand} (hn : base.length = n0) (ho : o.op = .load t x) (h : Res n0 base (loadS T t loc (evR top bot x)) r) (hl : leaf r = true) : LeafOk P N n0 base k loc (trE n0 (top ++ bot)) o r := by
  have key : ∀ (i o' : Nat) (u : TypeId) (l l' : List AV) (ti : TI), ev (trE n0 (top ++ bot)) x = .ptr i o' → (base ++ loc)[i]? = some (.box u l) → dropC o' l = some l' → T t = some ti → Res n0 base (memV (loadC ti l')) r → LeafOk P N n0 base k loc (trE n0 (top ++ bot)) o r := by
    intro i o' u l l' ti hx hat hd ht h
    obtain ⟨v, h1, rfl⟩ := res_memV h hl
    intro X
    refine st_load hT ho ht hx (u := u) (l := l) ?_ hd h1
    unfold At Hp.all
    simp only
    rw [← List.append_assoc, List.getElem?_append_left (List.getElem?_eq_some_iff.1 hat).1, hat]
  have keyL : ∀ (j o' : Nat), ev (trE n0 (top ++ bot)) x = .ptr (n0 + j) o' → Res n0 base (match lget loc j with
      | some (.box _ l) => match dropC o' l with
        | some l' => match T t with
          | some ti => memV (loadC ti l')
          | none => .fail
        | none => .fail
      | _ => .fail) r → LeafOk P N n0 base k loc (trE n0 (top ++ bot)) o r := by
    intro j o' hx h
    split at h
    · rename_i u l hg
      split at h
      · rename_i l' hd
        split at h
        · rename_i ti ht
          refine key (n0 + j) o' u l l' ti hx ?_ hd ht h
          rw [lget_eq] at hg
          rw [List.getElem?_append_right (by omega), hn, Nat.add_sub_cancel_left, hg]
        · exact (res_fail h hl).elim
      · exact (res_fail h hl).elim
    · exact (res_fail h hl).elim
  cases he : evR top bot x with
  | none => rw [he] at h; exact (res_fail h hl).elim
  | some v =>
    rw [he] at h
    have hx := evR_ev (n0 := n0) he
    cases v with
    | lp j o' => exact keyL j o' hx h
    | lit b => exact (res_fail h hl).elim
    | v a =>
      cases a <;> simp only [loadS] at h <;> try exact (res_fail h hl).elim
      case ptr i o' =>
        rcases res_ptr h hl with ⟨j, rfl, h3⟩ | ⟨B, hb, h3⟩
        · exact keyL j o' hx h3
        · split at h3
          · rename_i u l
            split at h3
            · rename_i l' hd
              split at h3
              · rename_i ti ht
                refine key i o' u l l' ti hx ?_ hd ht h3
                rw [List.getElem?_append_left (List.getElem?_eq_some_iff.1 hb).1, hb]
              · exact (res_fail h3 hl).elim
            · exact (res_fail h3 hl).elim
          · exact (res_fail h3 hl).elim
      case rptr l =>
        split at h
        · rename_i ti ht
          obtain ⟨v, h1, rfl⟩ := res_memV h hl
          exact fun X => st_load_r hT ho ht hx h1
        · exact (res_fail h hl).elim

theorem leaf_store (hT : TOk P T) {t : TypeId} {x y : Operand} (hn : base.length = n0) (ho : o.op = .store t x y) (h : Res n0 base (storeS T t loc (evR top bot x) (avF n0 top bot y)) r) (hl : leaf r = true) : LeafOk P N n0 base k loc (trE n0 (top ++ bot)) o r := by
  unfold storeS at h
  cases hey : avF n0 top bot y with
  | none => simp only [hey] at h; exact (res_fail h hl).elim
  | some vy =>
  simp only [hey] at h
  split at h
  · exact (res_fail h hl).elim
  rename_i vs hvs
  obtain ⟨hc, hone⟩ := cellsS_spec hvs
  have hy : ev (trE n0 (top ++ bot)) y = vy := av_ev (avF_av hey) (by rintro rfl; cases hvs)
  split at h
  · exact (res_fail h hl).elim
  rename_i ti ht
  split at h
  · exact (res_fail h hl).elim
  rename_i hsz
  have keyL : ∀ (j o' : Nat), ev (trE n0 (top ++ bot)) x = .ptr (n0 + j) o' → Res n0 base (match lget loc j with
            | some (.box u l) => match setC l o' vs with
              | some l' => .upd j (.box u l') none
              | none => .fail
            | _ => .fail) r → LeafOk P N n0 base k loc (trE n0 (top ++ bot)) o r := by
    intro j o' hx h
    split at h
    · rename_i u l hg
      split at h
      · rename_i l' hs
        have : r = .upd j (.box u l') none := by cases h; rfl
        subst this
        intro loc' hloc'
        refine st_store hT ho ht hx (u := u) (l := l) ?_ hy hc hone hsz hs ?_
        · rw [← hn]; exact at_loc hg
        · rw [← hn]; exact put_loc hloc'
      · exact (res_fail h hl).elim
    · exact (res_fail h hl).elim
  split at h
  · rename_i j o' hex
    exact keyL j o' (evR_ev hex) h
  · rename_i i o' hex
    have hx := evR_ev (n0 := n0) hex
    rcases res_ptr h hl with ⟨j, rfl, h3⟩ | ⟨B, hb, h3⟩
    · exact keyL j o' hx h3
    · split at h3
      · rename_i u l
        split at h3
        · rename_i l' hs
          have : r = .updB i (.box u l') none := by cases h3; rfl
          subst this
          exact st_store hT ho ht hx (at_base hb) hy hc hone hsz hs (put_base hb)
        · exact (res_fail h3 hl).elim
      · exact (res_fail h3 hl).elim
  · exact (res_fail h hl).elim

theorem leaf_alloc (hT : TOk P T) {t : TypeId} (ho : o.op = .alloc t) (h : Res n0 base (allocS T t) r) (hl : leaf r = true) : LeafOk P N n0 base k loc (trE n0 (top ++ bot)) o r := by
  unfold allocS at h
  split at h
  · rename_i ti ht
    split at h
    · rename_i z hz
      have : r = .box t z := by cases h; rfl
      subst this
      intro g w a hE
      obtain ⟨d, i, h1, h2, h3, h4, h5, h6⟩ := tiOf_some (hT _ _ ht)
      rw [hz] at h6
      cases hiz : i.zero with
      | none => rw [hiz] at h6; cases h6
      | some zv =>
      rw [hiz] at h6
      simp only [Option.map_some, Option.some.injEq] at h6
      refine ⟨t, z, zv.cells, rfl, by rw [h6]; exact av1s_rel g w _, ?_⟩
      simp [execOp, ho, Instr.alloc, zeroValue, typeInfo, h2, hiz, newVar, newRow]
    · exact (res_fail h hl).elim
  · exact (res_fail h hl).elim

theorem leaf_box {t : TypeId} {x : Operand} (ho : o.op = .box t x) (h : Res n0 base (boxS t (av n0 top bot x)) r) (hl : leaf r = true) : LeafOk P N n0 base k loc (trE n0 (top ++ bot)) o r := by
  unfold boxS at h
  split at h
  · rename_i l hb
    have : r = .box t l := by cases h; rfl
    subst this
    obtain ⟨hc, hone⟩ := boxC_spec hb
    intro g w a hE
    have hx : ev (trE n0 (top ++ bot)) x = av n0 top bot x := av_ev rfl (by intro e; rw [e] at hb; cases hb)
    have hr := ev_rel hE x
    rw [hx] at hr
    refine ⟨t, l, (a.eval x).cells, rfl, by rw [← hc]; exact hr.cells hone, ?_⟩
    simp [execOp, ho, Instr.box, newVar, newRow]
  · exact (res_fail h hl).elim

theorem leaf_index (hT : TOk P T) {t : TypeId} {x y : Operand} (ho : o.op = .indexAddr t x y) (h : Res n0 base (indexS T t (evR top bot x) (av n0 top bot y)) r) (hl : leaf r = true) : LeafOk P N n0 base k loc (trE n0 (top ++ bot)) o r := by
  unfold indexS at h
  split at h
  · rename_i kk i hy
    have hy := av_ev hy (by simp)
    split at h
    · rename_i ti ht
      split at h
      · rename_i e hk
        split at h
        · rename_i ei he
          split at h
          · rename_i b o' n hex
            have hx := evR_ev (n0 := n0) hex
            rcases res_ptr h hl with ⟨j, rfl, h'⟩ | ⟨B, -, h'⟩
            · obtain ⟨m, rfl, h2, h3⟩ := res_ofs h' hl
              have := res_reg h3; subst this
              exact fun hp => st_index_ms hT ho ht hk he hx hy (by omega) (by omega)
            · obtain ⟨m, rfl, h2, h3⟩ := res_ofs h' hl
              have := res_reg h3; subst this
              exact fun hp => st_index_ms hT ho ht hk he hx hy (by omega) (by omega)
          · rename_i a _ hex
            have hx := evR_ev (n0 := n0) hex
            split at h
            · rename_i n l hs
              obtain ⟨h1, h2⟩ := res_side h hl
              obtain ⟨l', h3, h4⟩ := res_seg h2 hl
              obtain ⟨h5, h6⟩ := res_side h4 hl
              have := res_reg h6; subst this
              exact fun hp => st_indexS hT ho ht hk he (by rw [hx]; exact hs) hy h1.1 h1.2 h3 h5
            · exact (res_fail h hl).elim
          · exact (res_fail h hl).elim
        · exact (res_fail h hl).elim
      · rename_i n e hk
        split at h
        · rename_i ei he
          split at h
          · rename_i j o' hex
            have hx := evR_ev (n0 := n0) hex
            obtain ⟨m, rfl, h2, h3⟩ := res_ofs h hl
            have := res_reg h3; subst this
            exact fun hp => st_indexAddr_arr hT ho ht hk he hx hy (by omega) (by omega)
          · rename_i b o' hex
            have hx := evR_ev (n0 := n0) hex
            obtain ⟨m, rfl, h2, h3⟩ := res_ofs h hl
            have := res_reg h3; subst this
            exact fun hp => st_indexAddr_arr hT ho ht hk he hx hy (by omega) (by omega)
          · rename_i l hex
            have hx := evR_ev (n0 := n0) hex
            obtain ⟨h1, h2⟩ := res_side h hl
            obtain ⟨l', h3, h4⟩ := res_seg h2 hl
            have := res_reg h4; subst this
            exact fun hp => st_indexAddr_arr_r hT ho ht hk he hx hy h1.1 h1.2 h3
          · exact (res_fail h hl).elim
        · exact (res_fail h hl).elim
      · exact (res_fail h hl).elim
    · exact (res_fail h hl).elim
  · exact (res_fail h hl).elim

/-- plain values of operands: they are known, or nothing is known of them -/
theorem av_wk {g : G} {w : World} {a : Act} (hE : ERel N g w (trE n0 (top ++ bot)) a) (x : Operand) : VRel g w (av n0 top bot x) (a.eval x) := by
  unfold av
  cases he : evR top bot x with
  | none => simp [VRel]
  | some v =>
    simp only
    rw [← evR_ev he]
    exact ev_rel hE x
theorem avL_rel {g : G} {w : World} {a : Act} (hE : ERel N g w (trE n0 (top ++ bot)) a) : ∀ l : List Operand, LRel g w (avL n0 top bot l) (l.map a.eval)
  | [] => by simp [LRel, avL]
  | x :: l => by
    simp only [List.map_cons, avL, LRel]
    exact ⟨_, _, rfl, av_wk hE x, avL_rel hE l⟩
theorem avP_map : ∀ l : List (Nat × Operand), avP n0 top bot l = l.map fun p => (p.1, av n0 top bot p.2)
  | [] => rfl
  | (i, x) :: l => by simp [avP, avP_map l]
theorem avP_rel {g : G} {w : World} {a : Act} (hE : ERel N g w (trE n0 (top ++ bot)) a) (parts : List (Nat × Operand)) : ∀ (j : Nat) p q, (avP n0 top bot parts)[j]? = some p → (parts.map fun (p : Nat × Operand) => (p.1, a.eval p.2))[j]? = some q → p.1 = q.1 ∧ VRel g w p.2 q.2 := by
  intro j p q h1 h2
  rw [avP_map] at h1
  simp only [List.getElem?_map, Option.map_eq_some_iff] at h1 h2
  obtain ⟨x, hx, rfl⟩ := h1
  obtain ⟨y, hy, rfl⟩ := h2
  rw [hx] at hy
  cases hy
  exact ⟨rfl, av_wk hE _⟩
theorem allOA_ev : ∀ {l : List (Nat × Operand)}, allOA (avP n0 top bot l) = true → evParts (trE n0 (top ++ bot)) l = avP n0 top bot l
  | [], _ => rfl
  | (i, x) :: l, h => by
    simp only [avP, allOA] at h
    simp only [avP, evParts]
    cases hv : oneOrAgg (av n0 top bot x) with
    | false => simp [hv] at h
    | true =>
      simp only [hv] at h
      rw [allOA_ev h, av_ev rfl (by intro e; rw [e] at hv; cases hv)]

theorem leaf_build (hT : TOk P T) (hkn : ∀ t n, kn t = n + 1 → fieldsKnown P t = true) {t : TypeId} {ps : List (Nat × Operand)} (ho : o.op = .build t ps.toArray) (h : Res n0 base (buildS T t kn (avP n0 top bot ps)) r) (hl : leaf r = true) : LeafOk P N n0 base k loc (trE n0 (top ++ bot)) o r := by
  unfold buildS at h
  split at h
  · exact (res_fail h hl).elim
  rename_i h1
  split at h
  · rename_i ti ht
    split at h
    · rename_i z hz
      split at h
      · rename_i fs hk
        split at h
        · rename_i hknt
          split at h
          · rename_i l hfill
            have := res_reg h; subst this
            rw [← allOA_ev h1] at hfill
            exact fun hp => st_build hT ho ht hk hz (hkn _ _ hknt) (by rw [allOA_ev h1]; exact h1) hfill
          · exact (res_fail h hl).elim
        · exact (res_fail h hl).elim
      · rename_i n e hk
        split at h
        · rename_i ei he
          split at h
          · rename_i l hfill
            have := res_reg h; subst this
            rw [← allOA_ev h1] at hfill
            exact fun hp => st_buildArr hT ho ht hk he hz (by rw [allOA_ev h1]; exact h1) hfill
          · exact (res_fail h hl).elim
        · exact (res_fail h hl).elim
      · exact (res_fail h hl).elim
    · exact (res_fail h hl).elim
  · exact (res_fail h hl).elim

theorem leaf_buildSlice (hT : TOk P T) {t : TypeId} {n : Nat} {ps : List (Nat × Operand)} (ho : o.op = .buildSlice t n ps.toArray) (h : Res n0 base (buildSliceS T t n (avP n0 top bot ps)) r) (hl : leaf r = true) : LeafOk P N n0 base k loc (trE n0 (top ++ bot)) o r := by
  unfold buildSliceS at h
  split at h
  · exact (res_fail h hl).elim
  rename_i h1
  split at h
  · rename_i ti ht
    split at h
    · rename_i e hk
      split at h
      · rename_i ei he
        split at h
        · rename_i z hz
          split at h
          · rename_i hzl
            split at h
            · rename_i hsm
              split at h
              case h_2 => exact (res_fail h hl).elim
              rename_i zs hzs
              have hzs := repO_eq hzs
              subst hzs
              split at h
              · rename_i l hfill
                have := res_mem h; subst this
                rw [← allOA_ev h1] at hfill
                exact fun X => st_buildSliceX hT ho ht hk he hz hzl hsm (by rw [allOA_ev h1]; exact h1) hfill
              · exact (res_fail h hl).elim
            · exact (res_fail h hl).elim
          · exact (res_fail h hl).elim
        · exact (res_fail h hl).elim
      · exact (res_fail h hl).elim
    · exact (res_fail h hl).elim
  · exact (res_fail h hl).elim

theorem leaf_fieldPart (hT : TOk P T) {s : TypeId} {x : Operand} {f : Nat} (ho : o.op = .field s x f) (h : Res n0 base (ofV (fieldPartV T s f (av n0 top bot x))) r) (hl : leaf r = true) : LeafOk P N n0 base k loc (trE n0 (top ++ bot)) o r := by
  refine ofV_step h hl fun v hv hp => ?_
  generalize hx : av n0 top bot x = vx at hv
  unfold fieldPartV at hv
  split at hv
  · have hx' := av_ev hx (by simp)
    split at hv
    · rename_i ti ht
      split at hv
      · rename_i fs hk
        split at hv
        · rename_i hlg
          split at hv
          · rename_i fi hfi
            split at hv
            · rename_i l' hd
              exact st_field hT ho ht hk hlg hx' hfi hd hv
            · cases hv
          · cases hv
        · cases hv
      · cases hv
    · cases hv
  · cases hv

theorem leaf_func {fn : Fn} {fs cs : List Operand} (ho : o.op = .makeFunc fn fs.toArray cs.toArray) (h : Res n0 base (.reg (.v (.clo fn (avL n0 top bot fs) (avL n0 top bot cs)))) r) : LeafOk P N n0 base k loc (trE n0 (top ++ bot)) o r := by
  have := res_reg h; subst this
  exact fun hp => Step.pure fun g w a hH hE => by
    refine ⟨.func fn (fs.map a.eval).toArray (cs.map a.eval).toArray, ?_, ?_⟩
    · simp [execOp, ho, Instr.makeFunc]
    · simp only [tr, VRel]
      exact ⟨_, _, rfl, avL_rel hE fs, avL_rel hE cs⟩

theorem leaf_nil {x : Operand} (ho : o.op = .nilCheck x) (h : Res n0 base (nilS (evR top bot x)) r) (hl : leaf r = true) : LeafOk P N n0 base k loc (trE n0 (top ++ bot)) o r := by
  unfold nilS at h
  split at h
  · rename_i j o' hex
    have := res_reg h; subst this
    exact fun hp => st_nilcheck ho (evR_ev hex)
  · rename_i hex
    have := res_reg h; subst this
    exact fun hp => st_nilcheck ho (evR_ev (n0 := n0) hex)
  · rename_i hex
    have := res_reg h; subst this
    exact fun hp => st_nilcheck_r ho (evR_ev (n0 := n0) hex)
  · rename_i hex
    have := res_reg h; subst this
    exact fun hp => st_nilcheck_f ho (evR_ev (n0 := n0) hex)
  · exact (res_fail h hl).elim
theorem leaf_not {t : TypeId} {x : Operand} (ho : o.op = .unOp .not t x) (h : Res n0 base (notS (av n0 top bot x)) r) (hl : leaf r = true) : LeafOk P N n0 base k loc (trE n0 (top ++ bot)) o r := by
  unfold notS at h
  split at h
  · rename_i b hx
    have := res_reg h; subst this
    exact fun hp => st_not ho (av_ev hx (by simp))
  · exact (res_fail h hl).elim
theorem leaf_neg {t : TypeId} {x : Operand} (ho : o.op = .unOp .neg t x) (h : Res n0 base (negS (av n0 top bot x)) r) (hl : leaf r = true) : LeafOk P N n0 base k loc (trE n0 (top ++ bot)) o r := by
  unfold negS at h
  split at h
  · rename_i kk n hx
    have := res_reg (res_eqv h hl); subst this
    exact fun hp => st_neg ho (av_ev hx (by simp))
  · exact (res_fail h hl).elim
theorem leaf_extract {x : Operand} {i : Nat} (ho : o.op = .extract x i) (h : Res n0 base (extractS i (av n0 top bot x)) r) (hl : leaf r = true) : LeafOk P N n0 base k loc (trE n0 (top ++ bot)) o r := by
  unfold extractS at h
  split at h
  · rename_i l hx
    split at h
    · rename_i v hv
      have := res_reg h; subst this
      exact fun hp => st_extract ho (av_ev hx (by simp)) hv
    · exact (res_fail h hl).elim
  · exact (res_fail h hl).elim
theorem leaf_call {f : Operand} {xs : List Operand} (h : Res n0 base (callS (avL n0 top bot xs) (av n0 top bot f)) r) (hl : leaf r = true) :
    ∃ F as, r = .call F as ∧ ∃ fs cs, ev (trE n0 (top ++ bot)) f = .clo (.func F) fs cs ∧ (fs ++ avL n0 top bot xs) ++ cs = as := by
  unfold callS at h
  split at h
  · rename_i F fs cs hf
    split at h
    · rename_i l1 h1
      split at h
      · rename_i l2 h2
        have : r = .call F l2 := by cases h; rfl
        subst this
        exact ⟨_, _, rfl, fs, cs, av_ev hf (by simp), by rw [appO_eq h2, appO_eq h1]⟩
      · exact (res_fail h hl).elim
    · exact (res_fail h hl).elim
  · exact (res_fail h hl).elim

theorem leaf_len (hT : TOk P T) {t : TypeId} {x : Operand} (ho : o.op = .call { callee := .builtin .len, args := #[x], argTypes := #[t] }) (h : Res n0 base (lenS T t (av n0 top bot x)) r) (hl : leaf r = true) : LeafOk P N n0 base k loc (trE n0 (top ++ bot)) o r := by
  unfold lenS at h
  split at h
  · rename_i ti ht
    split at h
    · rename_i e hk
      split at h
      · rename_i b o' n hx
        have := res_reg h; subst this
        exact fun hp => st_len_ms hT ho ht hk (av_ev hx (by simp))
      · split at h
        · rename_i n l hs
          have := res_reg h; subst this
          exact fun hp => st_lenS (l := l) hT ho ht hk (by rw [av_ev rfl (by intro e; rw [e] at hs; cases hs)]; exact hs)
        · exact (res_fail h hl).elim
    · rename_i hk
      split at h
      · rename_i s hx
        have := res_reg h; subst this
        exact fun hp => st_len_str hT ho ht hk (av_ev hx (by simp))
      · exact (res_fail h hl).elim
    · exact (res_fail h hl).elim
  · exact (res_fail h hl).elim

theorem bd_of {x : Option Operand} {d : Nat} {kk : Nat → SR} (h : Res n0 base (bdS (avO n0 top bot x) d kk) r) (hl : leaf r = true) : ∃ m, Bd (trE n0 (top ++ bot)) x d m ∧ Res n0 base (kk m) r := by
  cases x with
  | none => exact ⟨d, rfl, h⟩
  | some y =>
    simp only [avO, bdS] at h
    generalize hy : av n0 top bot y = vy at h
    cases vy <;> simp only at h <;> try exact (res_fail h hl).elim
    obtain ⟨m, rfl, h2⟩ := res_nat h hl
    exact ⟨m, ⟨_, av_ev hy (by simp)⟩, h2⟩

theorem leaf_slice (hT : TOk P T) {t : TypeId} {x : Operand} {low high max : Option Operand} (ho : o.op = .slice t x low high max) (h : Res n0 base (sliceS T t (av n0 top bot x) (avO n0 top bot low) (avO n0 top bot high) (avO n0 top bot max)) r) (hl : leaf r = true) : LeafOk P N n0 base k loc (trE n0 (top ++ bot)) o r := by
  generalize hx : av n0 top bot x = a at h
  unfold sliceS at h
  split at h
  · rename_i ti ht
    split at h
    · rename_i e hk
      split at h
      · rename_i ei he
        split at h
        · rename_i n l hs
          have hx' := av_ev hx (by rintro rfl; cases hs)
          split at h
          · rename_i hmx
            have : max = none := by cases max <;> simp [avO] at hmx; rfl
            subst this
            obtain ⟨lo, hlo, h⟩ := bd_of h hl
            obtain ⟨hi, hhi, h⟩ := bd_of h hl
            obtain ⟨h1, h⟩ := res_side h hl
            obtain ⟨l', h2, h⟩ := res_sub h hl
            have := res_reg h; subst this
            exact fun hp => st_sliceS hT ho ht hk he (by rw [hx']; exact hs) hlo hhi h1.1 h1.2 h2
          · rename_i km m hmx
            obtain ⟨ym, rfl, hym⟩ : ∃ ym, max = some ym ∧ av n0 top bot ym = .int km m := by
              cases max <;> simp [avO] at hmx; exact ⟨_, rfl, hmx⟩
            split at h
            · rename_i kh hh hhx
              obtain ⟨yh, rfl, hyh⟩ : ∃ yh, high = some yh ∧ av n0 top bot yh = .int kh hh := by
                cases high <;> simp [avO] at hhx; exact ⟨_, rfl, hhx⟩
              obtain ⟨lo, hlo, h⟩ := bd_of h hl
              obtain ⟨hi, rfl, h⟩ := res_nat h hl
              obtain ⟨⟨rfl, h1, h1'⟩, h3⟩ := res_side h hl
              obtain ⟨l', h2, h4⟩ := res_sub h3 hl
              have := res_reg h4; subst this
              exact fun hp => st_sliceX hT ho ht hk he (by rw [hx']; exact hs) hlo rfl (av_ev hyh (by simp)) (av_ev hym (by simp)) h1 h1' h2
            · exact (res_fail h hl).elim
          · exact (res_fail h hl).elim
        · exact (res_fail h hl).elim
      · exact (res_fail h hl).elim
    · rename_i hk
      split at h
      · rename_i s
        have hx' := av_ev hx (by simp)
        split at h
        · rename_i hmx
          have : max = none := by cases max <;> simp [avO] at hmx; rfl
          subst this
          obtain ⟨lo, hlo, h⟩ := bd_of h hl
          obtain ⟨hi, hhi, h⟩ := bd_of h hl
          obtain ⟨h1, h⟩ := res_side h hl
          have := res_reg h; subst this
          exact fun hp => st_sliceStr hT ho ht hk hx' hlo hhi h1.1 h1.2
        · exact (res_fail h hl).elim
      · exact (res_fail h hl).elim
    · exact (res_fail h hl).elim
  · exact (res_fail h hl).elim

theorem leaf_indexV (hT : TOk P T) {t : TypeId} {x y : Operand} (ho : o.op = .index t x y) (h : Res n0 base (indexV T t (av n0 top bot x) (av n0 top bot y)) r) (hl : leaf r = true) : LeafOk P N n0 base k loc (trE n0 (top ++ bot)) o r := by
  unfold indexV at h
  split at h
  · rename_i ti ht
    split at h
    · rename_i hk
      split at h
      · rename_i s hx
        split at h
        · rename_i kk i hy
          obtain ⟨h1, h⟩ := res_side h hl
          obtain ⟨b, h2, h⟩ := res_byte h hl
          have := res_reg h; subst this
          exact fun hp => st_indexStr hT ho ht hk (av_ev hx (by simp)) (av_ev hy (by simp)) h1 h2
        · exact (res_fail h hl).elim
      · exact (res_fail h hl).elim
    · exact (res_fail h hl).elim
  · exact (res_fail h hl).elim

theorem leaf_make (hT : TOk P T) (hn : base.length = n0) {t : TypeId} {x y : Operand} (ho : o.op = .makeSlice t x y) (h : Res n0 base (makeS n0 T t (av n0 top bot x) (av n0 top bot y)) r) (hl : leaf r = true) : LeafOk P N n0 base k loc (trE n0 (top ++ bot)) o r := by
  unfold makeS at h
  split at h
  · rename_i ti ht
    split at h
    · rename_i e hk
      split at h
      · rename_i ei he
        split at h
        · rename_i z hz
          split at h
          · rename_i hzl
            have hzl := Nat.eq_of_beq_eq_true hzl
            split at h
            · rename_i kx i hx
              split at h
              · rename_i ky c hy
                obtain ⟨n, rfl, h⟩ := res_nat h hl
                obtain ⟨⟨rfl, h1, h2⟩, h3⟩ := res_side h hl
                have hx' := av_ev hx (by simp)
                have hy' := av_ev hy (by simp)
                rcases res_or h3 hl with h | h
                · have := res_mem h; subst this
                  exact fun X => st_makeX hT ho ht hk he hz hzl hx' hy' h1 h2
                · have : r = .blk (.box e (repC n z)) fun k => .v (.ms (n0 + k) 0 n) := by cases h; rfl
                  subst this
                  rw [← hn] at hx' hy' ⊢
                  exact st_makeB hT ho ht hk he hz hzl hx' hy' h1 h2
              · exact (res_fail h hl).elim
            · exact (res_fail h hl).elim
          · exact (res_fail h hl).elim
        · exact (res_fail h hl).elim
      · exact (res_fail h hl).elim
    · exact (res_fail h hl).elim
  · exact (res_fail h hl).elim

theorem leaf_append (hT : TOk P T) (hn : base.length = n0) {t : TypeId} {x y : Operand} (ho : o.op = .call { callee := .builtin .append, args := #[x, y], argTypes := #[t, t] }) (h : Res n0 base (appendS n0 T t loc (av n0 top bot x) (av n0 top bot y)) r) (hl : leaf r = true) : LeafOk P N n0 base k loc (trE n0 (top ++ bot)) o r := by
  unfold appendS at h
  split at h
  case h_2 => exact (res_fail h hl).elim
  rename_i m l2 hs
  have hy : slOf (ev (trE n0 (top ++ bot)) y) = some (m, l2) := by rw [av_ev rfl (by intro e; rw [e] at hs; cases hs)]; exact hs
  split at h
  case h_2 => exact (res_fail h hl).elim
  rename_i ti ht
  split at h
  case h_2 => exact (res_fail h hl).elim
  rename_i e hk
  split at h
  case h_2 => exact (res_fail h hl).elim
  rename_i ei he
  split at h
  case h_2 => exact (res_fail h hl).elim
  rename_i z hz
  split at h
  case h_2 => exact (res_fail h hl).elim
  rename_i hzl
  have hzl := Nat.eq_of_beq_eq_true hzl
  split at h
  · exact (res_fail h hl).elim
  rename_i sz hsz
  split at h
  · rename_i tk n l hx
    have hx' := av_ev hx (by simp)
    rcases res_ptr h hl with ⟨j, rfl, h⟩ | ⟨B, hb, h⟩
    · split at h
      · rename_i e' sz' L hg
        split at h
        · rename_i he'
          have he' := Nat.eq_of_beq_eq_true he'
          subst he'
          split at h
          · rename_i hsz'
            have hsz' := Nat.eq_of_beq_eq_true hsz'
            subst hsz'
            obtain ⟨hA, h⟩ := res_side h hl
            have : r = .upd j (.tok e' (sz + 1) (l ++ l2).length) (some (.v (.sl (some (n0 + j)) (n + m) (l ++ l2)))) := by cases h; rfl
            subst this
            intro loc' hl'
            rw [List.length_append] at hl'
            refine st_append_t hT ho ht hk he hz hsz hzl hx' hy ?_ hA.L hA.one hA.l2 hA.bytes hA.max ?_
            · rw [← hn]; exact at_loc hg
            · rw [← hn]; exact put_loc hl'
          · exact (res_fail h hl).elim
        · exact (res_fail h hl).elim
      · exact (res_fail h hl).elim
    · split at h
      · rename_i e' sz' L
        split at h
        · rename_i he'
          have he' := Nat.eq_of_beq_eq_true he'
          subst he'
          split at h
          · rename_i hsz'
            have hsz' := Nat.eq_of_beq_eq_true hsz'
            subst hsz'
            obtain ⟨hA, h⟩ := res_side h hl
            have : r = .updB tk (.tok e' (sz + 1) (l ++ l2).length) (some (.v (.sl (some tk) (n + m) (l ++ l2)))) := by cases h; rfl
            subst this
            simp only [LeafOk, List.length_append]
            exact st_append_t hT ho ht hk he hz hsz hzl hx' hy (at_base hb) hA.L hA.one hA.l2 hA.bytes hA.max (put_base hb)
          · exact (res_fail h hl).elim
        · exact (res_fail h hl).elim
      · exact (res_fail h hl).elim
  · rename_i n l hx
    have hx' := av_ev hx (by simp)
    rcases res_or h hl with h | h
    · obtain ⟨hA, h⟩ := res_side h hl
      have : r = .blk (.tok e (sz + 1) (l ++ l2).length) fun k => .v (.sl (some (n0 + k)) (n + m) (l ++ l2)) := by cases h; rfl
      subst this
      rw [← hn] at hx' hy ⊢
      simp only [LeafOk, List.length_append]
      exact st_append_x hT ho ht hk he hz hsz hzl (.inl hx') hy hA.l hA.l2 hA.m0 hA.bytes hA.max
    · obtain ⟨rfl, h3⟩ := res_side h hl
      have := res_reg h3; subst this
      exact fun hp => st_append_0 hT ho ht hk he hx' rfl hy
  · rename_i hx
    have hx' := av_ev hx (by simp)
    rcases res_or h hl with h | h
    · obtain ⟨hA, h⟩ := res_side h hl
      have : r = .blk (.tok e (sz + 1) (([] : List AV) ++ l2).length) fun k => .v (.sl (some (n0 + k)) (0 + m) ([] ++ l2)) := by cases h; rfl
      subst this
      rw [← hn] at hx' hy ⊢
      simp only [LeafOk, List.length_append]
      exact st_append_x hT ho ht hk he hz hsz hzl (.inr ⟨hx', rfl, rfl⟩) hy hA.l hA.l2 hA.m0 hA.bytes hA.max
    · obtain ⟨rfl, h3⟩ := res_side h hl
      have := res_reg h3; subst this
      exact fun hp => st_append_0 hT ho ht hk he hx' rfl hy
  · rename_i n l hx
    obtain ⟨rfl, h3⟩ := res_side h hl
    have := res_reg h3; subst this
    exact fun hp => st_append_0 hT ho ht hk he (av_ev hx (by simp [tr])) rfl hy
  · exact (res_fail h hl).elim
end
end Go.Vsi
