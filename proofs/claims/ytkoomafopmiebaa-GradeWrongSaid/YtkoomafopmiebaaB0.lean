/- A text of the proof: B0. -/
import Derived.Test.YtkoomafopmiebaaR8
import Derived.RowKit
import Derived.RowKit3
import Derived.WideKeyArgs
import Derived.OpenShut
set_option linter.unusedSimpArgs false
set_option linter.unusedVariables false
namespace Go.Vsi
open Go.ChangeShapes Go.WideShapes

/-! ### arguments that read as data, as abstract values -/
inductive Ty where
  | int (k : IntKind)
  | bool
  | str
  | sl (e : Ty)
  | unit
  | pair (a b : Ty)

def Ty.I : Ty → Type
  | .int _ => Int
  | .bool => Bool
  | .str => ByteArray
  | .sl e => List e.I
  | .unit => Unit
  | .pair a b => a.I × b.I
def Ty.sz : Ty → Nat
  | .unit => 0
  | .pair a b => a.sz + b.sz
  | _ => 1
def Ty.enc : (τ : Ty) → τ.I → List AV
  | .int k, n => [.int k n]
  | .bool, b => [.bool b]
  | .str, s => [.str s]
  | .sl e, l => [.sl none (List.length (α := e.I) l) (List.flatMap (α := e.I) e.enc l)]
  | .unit, _ => []
  | .pair a b, p => a.enc p.1 ++ b.enc p.2
def Ty.good : (τ : Ty) → τ.I → Prop
  | .int k, n => (Lit.int k n).wf = true
  | .bool, _ => True
  | .str, s => ByteArray.size s ≤ maxLen
  | .sl e, l => List.length (α := e.I) l ≤ maxLen ∧ ∀ x, List.Mem (α := e.I) x l → e.good x
  | .unit, _ => True
  | .pair a b, p => a.good p.1 ∧ b.good p.2
theorem Ty.enc_length : ∀ (τ : Ty) (x : τ.I), (τ.enc x).length = τ.sz
  | .int _, _ => rfl
  | .bool, _ => rfl
  | .str, _ => rfl
  | .sl _, _ => rfl
  | .unit, _ => rfl
  | .pair a b, p => by
    simp only [Ty.enc, List.length_append, Ty.sz]
    rw [Ty.enc_length a, Ty.enc_length b]

def repTy : Nat → Ty → Ty
  | 0, _ => .unit
  | n + 1, τ => .pair τ (repTy n τ)

section
variable {P : Program}
mutual
inductive TyOk (P : Program) : TypeId → Ty → Prop where
  | int {t : TypeId} {k : IntKind} : P.underlying t = some (.int k) → TyOk P t (.int k)
  | bool {t : TypeId} : P.underlying t = some .bool → TyOk P t .bool
  | str {t : TypeId} : P.underlying t = some .string → TyOk P t .str
  | sl {t e : TypeId} {τ : Ty} : P.underlying t = some (.slice e) → P.cellsOf e = τ.sz → 0 < τ.sz → TyOk P e τ → TyOk P t (.sl τ)
  | st {t : TypeId} {fs : Array Field} {τ : Ty} : P.underlying t = some (.struct fs) → P.cellsOf t = τ.sz → FldOk P fs.toList 0 τ → TyOk P t τ
  | arr {t e : TypeId} {n : Nat} {τ : Ty} : P.underlying t = some (.array n e) → P.cellsOf e = τ.sz → TyOk P e τ → P.cellsOf t = n * τ.sz → TyOk P t (repTy n τ)
inductive FldOk (P : Program) : List Field → Nat → Ty → Prop where
  | nil {off : Nat} : FldOk P [] off .unit
  | cons {f : Field} {fs : List Field} {off : Nat} {a b : Ty} : f.offset = off → P.cellsOf f.type = a.sz → TyOk P f.type a → FldOk P fs (off + a.sz) b → FldOk P (f :: fs) off (.pair a b)
end

/-- nothing is owned -/
def G.none : G := { n := 0, blk := fun _ => 0, tk := fun _ => ⟨0, 0, 0, .none⟩, own := fun _ _ => False, pend := fun _ => False }
theorem hrel_none (w : World) : HRel G.none w (Hp.of []) :=
  ⟨rfl, rfl, fun i B h => by simp [Hp.of, Hp.all] at h, fun b o h => h.elim, fun i h => h.elim, fun i j B C b h => by simp [Hp.of, Hp.all] at h⟩

variable {H : Type} {enc : TypeId × Value → H} {W : World} {sp : Nat → Bool}

theorem cells_mrel {w : World} {g : G} (hg : ∀ b o, ¬ g.own b o) {a : Addr} {n : Nat} {cs : List Value} {l : List AV} (hsp : a.spot = .none) (hc : w.cells? 0 a n = some cs) (hl : LRel g w l cs) : MRel g w l a.block a.off := by
  obtain ⟨-, h2, h3⟩ := World.cells?_some hc
  refine MRel.mk fun j v hj => ?_
  obtain ⟨c, h4, h5⟩ := hl.get hj
  have hlt : j < n := by rw [← h2, hl.length]; exact (List.getElem?_eq_some_iff.1 hj).1
  have h6 := h3 j hlt
  rw [h4] at h6
  refine ⟨c, ?_, h5, hg _ _⟩
  obtain ⟨b, o, s⟩ := a
  simp only at hsp
  subst hsp
  rw [Addr.add_lit] at h6
  exact h6

theorem flds_rel {g : G} {n : Nat} (ih : ∀ {t : TypeId} {τ : Ty} {cs : List Value} {z : DataW H × List MemPlace}, TyOk P t τ → DataW.trod enc P W 0 sp true n t cs = some z → ∃ x : τ.I, LRel g W (τ.enc x) cs ∧ τ.good x ∧ cs.length = τ.sz) {cs : List Value} :
    ∀ {fs : List Field} {off : Nat} {τ : Ty}, FldOk P fs off τ → (∀ f, f ∈ fs → ∃ z, DataW.trod enc P W 0 sp true n f.type ((cs.drop f.offset).take (P.cellsOf f.type)) = some z) → off + τ.sz = cs.length → ∃ x : τ.I, LRel g W (τ.enc x) (cs.drop off) ∧ τ.good x
  | [], off, _, .nil, _, hlen => by
    refine ⟨(), ?_, trivial⟩
    simp only [Ty.sz, Nat.add_zero] at hlen
    rw [List.drop_of_length_le (by omega)]
    simp [Ty.enc, LRel]
  | f :: fs, off, _, @FldOk.cons _ _ _ _ a b h1 h2 h3 h4, hr, hlen => by
    obtain ⟨z, hz⟩ := hr f (by simp)
    obtain ⟨x, e1, e2, e3⟩ := ih h3 hz
    simp only [Ty.sz] at hlen
    obtain ⟨y, e4, e5⟩ := flds_rel ih h4 (fun f hf => hr f (by simp [hf])) (by omega)
    refine ⟨(x, y), ?_, e2, e5⟩
    rw [h1, h2] at e1
    have : cs.drop off = (cs.drop off).take a.sz ++ cs.drop (off + a.sz) := by
      rw [← List.drop_drop, List.take_append_drop]
    rw [this]
    exact e1.append e4

theorem rep_rel {g : G} {n : Nat} {e : TypeId} {τ : Ty} (he : TyOk P e τ) (ih : ∀ {t : TypeId} {τ : Ty} {cs : List Value} {z : DataW H × List MemPlace}, TyOk P t τ → DataW.trod enc P W 0 sp true n t cs = some z → ∃ x : τ.I, LRel g W (τ.enc x) cs ∧ τ.good x ∧ cs.length = τ.sz) {cs : List Value} :
    ∀ (m off : Nat), (∀ i, i < m → ∃ z, DataW.trod enc P W 0 sp true n e ((cs.drop (off + i * τ.sz)).take τ.sz) = some z) → off + m * τ.sz = cs.length → ∃ x : (repTy m τ).I, LRel g W ((repTy m τ).enc x) (cs.drop off) ∧ (repTy m τ).good x
  | 0, off, _, hlen => by
    refine ⟨(), ?_, trivial⟩
    rw [List.drop_of_length_le (by omega)]
    simp [repTy, Ty.enc, LRel]
  | m + 1, off, hr, hlen => by
    obtain ⟨z, hz⟩ := hr 0 (by omega)
    simp only [Nat.zero_mul, Nat.add_zero] at hz
    obtain ⟨x, e1, e2, e3⟩ := ih he hz
    obtain ⟨y, e4, e5⟩ := rep_rel he ih m (off + τ.sz) (fun i hi => by
      have := hr (i + 1) (by omega)
      rwa [show off + (i + 1) * τ.sz = off + τ.sz + i * τ.sz by rw [Nat.add_mul]; omega] at this) (by rw [Nat.add_mul] at hlen; omega)
    refine ⟨(x, y), ?_, e2, e5⟩
    have : cs.drop off = (cs.drop off).take τ.sz ++ cs.drop (off + τ.sz) := by
      rw [← List.drop_drop, List.take_append_drop]
    rw [this]
    exact e1.append e4

theorem repTy_sz (τ : Ty) : ∀ m, (repTy m τ).sz = m * τ.sz
  | 0 => by simp [repTy, Ty.sz]
  | m + 1 => by simp [repTy, Ty.sz, repTy_sz τ m, Nat.add_mul, Nat.add_comm]

/-- a row of elements -/
theorem row_mrel {g : G} (hg : ∀ b o, ¬ g.own b o) {τ : Ty} (h0 : 0 < τ.sz) {a : Addr} : ∀ (m : Nat) (q : Nat), (∀ i, i < m → ∃ (x : τ.I) (cs : List Value), W.cells? 0 (a.add ((q + i) * τ.sz)) τ.sz = some cs ∧ LRel g W (τ.enc x) cs ∧ τ.good x) →
    ∃ l : List τ.I, l.length = m ∧ (∀ x ∈ l, τ.good x) ∧ MRel g W (l.flatMap τ.enc) a.block (a.off + q * τ.sz)
  | 0, q, _ => ⟨[], rfl, by simp, by simp [MRel]⟩
  | m + 1, q, h => by
    obtain ⟨x, cs, e1, e2, e3⟩ := h 0 (by omega)
    obtain ⟨l, f1, f2, f3⟩ := row_mrel hg h0 m (q + 1) (fun i hi => by
      have := h (i + 1) (by omega)
      rwa [show q + (i + 1) = q + 1 + i by omega] at this)
    refine ⟨x :: l, by simp [f1], by
      intro y hy
      cases hy with
      | head => exact e3
      | tail _ hm => exact f2 y hm, ?_⟩
    simp only [Nat.add_zero] at e1
    have hsp : (a.add (q * τ.sz)).spot = .none := by
      have h3 := (World.cells?_some e1).2.2 0 h0
      have hl := (World.cells?_some e1).2.1
      have : cs[0]? = some (cs[0]'(by omega)) := List.getElem?_eq_getElem (by omega)
      rw [this] at h3
      have := World.cell?_spot h3
      simpa [Addr.add] using this
    have hm := cells_mrel hg hsp e1 e2
    have hb : (a.add (q * τ.sz)).block = a.block ∧ (a.add (q * τ.sz)).off = a.off + q * τ.sz := by
      unfold Addr.add
      split
      · rename_i hz; rw [hz]; exact ⟨rfl, rfl⟩
      · exact ⟨rfl, rfl⟩
    rw [hb.1, hb.2] at hm
    rw [List.flatMap_cons]
    refine MRel.mk fun j v hj => ?_
    rcases Nat.lt_or_ge j (τ.enc x).length with hlt | hge
    · rw [List.getElem?_append_left hlt] at hj
      exact hm.at_ hj
    · rw [List.getElem?_append_right hge] at hj
      have := f3.at_ hj
      rw [Ty.enc_length] at this hge
      rwa [show a.off + (q + 1) * τ.sz + (j - τ.sz) = a.off + q * τ.sz + j by rw [Nat.add_mul]; omega] at this

theorem trod_ty {g : G} (hg : ∀ b o, ¬ g.own b o) : ∀ (fuel : Nat) {t : TypeId} {τ : Ty} {cs : List Value} {z : DataW H × List MemPlace}, TyOk P t τ → DataW.trod enc P W 0 sp true fuel t cs = some z → ∃ x : τ.I, LRel g W (τ.enc x) cs ∧ τ.good x ∧ cs.length = τ.sz := by
  intro fuel
  induction fuel with
  | zero => intro t τ cs z _ h; simp [DataW.trod] at h
  | succ fuel ih =>
    intro t τ cs z ho h
    cases ho with
    | int ht =>
      obtain ⟨n, rfl, -, hw⟩ := DataW.trod_int ht h
      exact ⟨n, by simp [Ty.enc, LRel, VRel], hw, rfl⟩
    | bool ht =>
      obtain ⟨b, rfl, -⟩ := DataW.trod_bool ht h
      exact ⟨b, by simp [Ty.enc, LRel, VRel], trivial, rfl⟩
    | str ht =>
      obtain ⟨s, rfl, -, hw⟩ := DataW.trod_string ht h
      exact ⟨s, by simp [Ty.enc, LRel, VRel], hw, rfl⟩
    | @sl _ e τ ht hc h0 he =>
      rcases DataW.trod_slice ht h with ⟨rfl, -⟩ | ⟨a, len, cap, elems, rest, n, hn, rfl, -, -, hlc, hcm, hel, hget, -⟩
      · refine ⟨([] : List τ.I), ?_, ⟨Nat.zero_le _, fun x hx => by cases hx⟩, rfl⟩
        simp only [Ty.enc, LRel]
        refine ⟨_, _, rfl, ?_, rfl⟩
        simp only [VRel]
        exact ⟨.none, 0, rfl, Nat.le_refl _, .inl rfl, fun t h => by cases h⟩
      · cases hn
        obtain ⟨l, f1, f2, f3⟩ := row_mrel hg h0 (a := a) len 0 (fun i hi => by
          have hgi := hget i hi
          rw [hc] at hgi
          have : elems[i]? = some (elems[i]'(by omega)) := List.getElem?_eq_getElem (by omega)
          rw [this] at hgi
          obtain ⟨cs, hcs, htr⟩ := Option.bind_eq_some_iff.1 hgi
          obtain ⟨x, e1, e2, -⟩ := ih he htr
          exact ⟨x, cs, by simpa using hcs, e1, e2⟩)
        refine ⟨l, ?_, ⟨by rw [f1]; omega, f2⟩, rfl⟩
        simp only [Ty.enc, LRel]
        refine ⟨_, _, rfl, ?_, rfl⟩
        simp only [VRel]
        refine ⟨some a, cap, by rw [f1], by rw [f1]; exact hlc, ?_, fun t h => by cases h⟩
        by_cases hl0 : len = 0
        · left
          have : l = [] := List.eq_nil_of_length_eq_zero (by omega)
          rw [this]; rfl
        · right
          have hgi := hget 0 (by omega)
          have : elems[0]? = some (elems[0]'(by omega)) := List.getElem?_eq_getElem (by omega)
          rw [this] at hgi
          obtain ⟨cs, hcs, htr⟩ := Option.bind_eq_some_iff.1 hgi
          rw [hc] at hcs
          have h3 := (World.cells?_some hcs).2.2 0 h0
          have hl := (World.cells?_some hcs).2.1
          have e0 : cs[0]? = some (cs[0]'(by omega)) := List.getElem?_eq_getElem (by omega)
          rw [e0] at h3
          have hsp : a.spot = .none := by
            have := World.cell?_spot h3
            simpa [Addr.add] using this
          obtain ⟨b, o, s⟩ := a
          simp only at hsp
          subst hsp
          exact ⟨b, o, rfl, by simpa using f3⟩
    | @st _ fs τ ht hc hf =>
      obtain ⟨xs, n, hn, -, hlen, hxl, hget⟩ := DataW.trod_struct ht h
      cases hn
      obtain ⟨x, e1, e2⟩ := flds_rel ih hf (fun f hfm => by
        obtain ⟨i, hi⟩ := List.getElem?_of_mem hfm
        have hg' := hget i f (by simpa using hi)
        have hlt : i < xs.length := by
          rw [hxl]
          have := (List.getElem?_eq_some_iff.1 hi).1
          simpa using this
        rw [List.getElem?_eq_getElem hlt] at hg'
        exact ⟨_, hg'⟩) (by rw [hlen, hc]; omega)
      exact ⟨x, by simpa using e1, e2, by rw [hlen, hc]⟩
    | @arr _ e n τ ht hc he hn =>
      obtain ⟨xs, m, hm, -, hlen, hxl, hget⟩ := DataW.trod_array ht h
      cases hm
      obtain ⟨x, e1, e2⟩ := rep_rel he ih n 0 (fun i hi => by
        have hg' := hget i hi
        rw [List.getElem?_eq_getElem (by omega), hc] at hg'
        exact ⟨_, by simpa using hg'⟩) (by rw [hlen, hn]; omega)
      exact ⟨x, by simpa using e1, e2, by rw [hlen, hn, repTy_sz]⟩
end
end Go.Vsi
