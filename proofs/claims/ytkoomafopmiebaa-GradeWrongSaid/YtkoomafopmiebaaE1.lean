/- A text of the proof: E1. -/
import Derived.WalkKit
import Derived.Scope
set_option linter.unusedSimpArgs false
set_option linter.unusedVariables false
namespace Go.Vsi

inductive AV where
  | bool (b : Bool)
  | int (k : IntKind) (n : Int)
  | str (s : ByteArray)
  | nilp
  | ptr (i o : Nat)
  | rptr (l : List AV)
  | nilf
  | clo (fn : Fn) (fs cs : List AV)
  | nili
  | ifc (t : TypeId) (v : AV)
  | nils
  | sl (tok : Option Nat) (n : Nat) (l : List AV)
  | sx (n : Nat) (l : List AV)
  | ms (i o n : Nat)
  | nilm
  | mp (i : Nat)
  | rmp (ks vs : List AV)
  | agg (l : List AV)
  | tup (l : List AV)
  | junk
  deriving Inhabited

structure Tk where
  len : Nat
  sz : Nat
  cap : Nat
  base : Option Nat

structure G where
  n : Nat
  blk : Nat → Nat
  tk : Nat → Tk
  own : Nat → Nat → Prop
  pend : Nat → Prop

def G.ok (g : G) (i : Nat) : Prop := i < g.n ∧ ¬ g.pend i

def tokIs (g : G) (t : Nat) (n len : Nat) (A : Option Addr) (cap : Nat) : Prop :=
  g.ok t ∧ len ≤ (g.tk t).len ∧ ((g.tk t).len = len → A = (g.tk t).base.map (fun b => ⟨b, 0, none⟩) ∧ cap = (g.tk t).cap ∧ len = n * (g.tk t).sz)

mutual
def VRel (g : G) (w : World) : AV → Value → Prop
  | .bool b, c => c = .bool b
  | .int k x, c => c = .int k x
  | .str s, c => c = .string s
  | .nilp, c => c = .pointer none
  | .ptr i o, c => g.ok i ∧ c = .pointer (some ⟨g.blk i, o, none⟩)
  | .rptr l, c => ∃ b o, c = .pointer (some ⟨b, o, none⟩) ∧ MRel g w l b o
  | .nilf, c => c = .nilFunc
  | .clo fn fs cs, c => ∃ f' c', c = .func fn f' c' ∧ LRel g w fs f'.toList ∧ LRel g w cs c'.toList
  | .nili, c => c = .nilIface
  | .ifc t v, c => ∃ v', c = .iface t v' ∧ VRel g w v v'
  | .nils, c => c = .slice none 0 0
  | .sl tok n l, c => ∃ A cap, c = .slice A n cap ∧ n ≤ cap ∧ (l = [] ∨ ∃ b o, A = some ⟨b, o, none⟩ ∧ MRel g w l b o) ∧
      (∀ t, tok = some t → tokIs g t n l.length A cap)
  | .sx n l, c => ∃ A, c = .slice A n n ∧ (l = [] ∨ ∃ b o, A = some ⟨b, o, none⟩ ∧ MRel g w l b o)
  | .ms i o n, c => g.ok i ∧ ∃ cap, n ≤ cap ∧ c = .slice (some ⟨g.blk i, o, none⟩) n cap
  | .nilm, c => c = .map none
  | .mp i, c => g.ok i ∧ c = .map (some (g.blk i))
  | .rmp ks vs, c => ∃ b es clk, c = .map (some b) ∧ w.heap[b]? = some (.map es clk) ∧ (∀ o, ¬ g.own b o) ∧ LRel g w ks (es.toList.map (·.key)) ∧ LRel g w vs (es.toList.map (·.val))
  | .agg l, c => ∃ cs, c = .agg cs ∧ LRel g w l cs.toList
  | .tup l, c => ∃ cs, c = .tuple cs ∧ LRel g w l cs.toList
  | .junk, _ => True
def LRel (g : G) (w : World) : List AV → List Value → Prop
  | [], cs => cs = []
  | v :: l, cs => ∃ c r, cs = c :: r ∧ VRel g w v c ∧ LRel g w l r
def MRel (g : G) (w : World) : List AV → Nat → Nat → Prop
  | [], _, _ => True
  | v :: l, b, o => (∃ c, w.cell? ⟨b, o, none⟩ = some c ∧ VRel g w v c ∧ ¬ g.own b o) ∧ MRel g w l b (o + 1)
end

/-- from (g, w) on, only what is owned has been written -/
structure Ext (g : G) (w : World) (g' : G) (w' : World) : Prop where
  n : g.n ≤ g'.n
  pend : ∀ i, i < g.n → g.pend i → g'.pend i
  ok : ∀ i, g.ok i → g'.ok i
  blk : ∀ i, g.ok i → g'.blk i = g.blk i
  tk : ∀ i, g.ok i → g'.tk i = g.tk i ∨ (g.tk i).len < (g'.tk i).len
  own : ∀ b o, b < w.heap.size → g'.own b o → g.own b o
  os : w'.os = w.os
  tape : w'.tape = w.tape
  output : w'.output = w.output
  size : w.heap.size ≤ w'.heap.size
  same : ∀ b, b < w.heap.size → (∀ o, ¬ g.own b o) → w'.heap[b]? = w.heap[b]?
  cells : ∀ (b : Nat) cs t fz, w.heap[b]? = some (.cells cs t fz) → ∃ cs', w'.heap[b]? = some (.cells cs' t fz) ∧ cs'.size = cs.size ∧ ∀ o : Nat, ¬ g.own b o → cs'[o]? = cs[o]?

theorem lt_size {w : World} {b : Nat} {o : Obj} (h : w.heap[b]? = some o) : b < w.heap.size := by
  rcases Nat.lt_or_ge b w.heap.size with h1 | h1
  · exact h1
  · rw [Array.getElem?_eq_none h1] at h; cases h

theorem cell_iff {w : World} {b o : Nat} {c : Value} : w.cell? ⟨b, o, none⟩ = some c ↔ ∃ cs t fz, w.heap[b]? = some (.cells cs t fz) ∧ cs[o]? = some c := by
  unfold World.cell?
  simp only
  constructor
  · intro h
    split at h
    · rename_i cs t fz hh
      exact ⟨cs, t, fz, hh, by simpa using h⟩
    · cases h
  · rintro ⟨cs, t, fz, h1, h2⟩
    simp [h1, h2]

theorem Ext.cell {g g' : G} {w w' : World} (h : Ext g w g' w') {b o : Nat} {c : Value} (hc : w.cell? ⟨b, o, none⟩ = some c) (ho : ¬ g.own b o) :
    w'.cell? ⟨b, o, none⟩ = some c ∧ ¬ g'.own b o := by
  obtain ⟨cs, t, fz, h1, h2⟩ := cell_iff.1 hc
  obtain ⟨cs', h3, _, h5⟩ := h.cells b cs t fz h1
  exact ⟨cell_iff.2 ⟨cs', t, fz, h3, by rw [h5 o ho, h2]⟩, fun hh => ho (h.own b o (lt_size h1) hh)⟩

theorem Ext.refl (g : G) (w : World) : Ext g w g w :=
  ⟨Nat.le_refl _, fun _ _ h => h, fun _ h => h, fun _ _ => rfl, fun _ _ => .inl rfl, fun _ _ _ h => h, rfl, rfl, rfl, Nat.le_refl _, fun _ _ _ => rfl, fun _ cs _ _ h => ⟨cs, h, rfl, fun _ _ => rfl⟩⟩

theorem Ext.trans {g g' g'' : G} {w w' w'' : World} (h : Ext g w g' w') (k : Ext g' w' g'' w'') : Ext g w g'' w'' := by
  refine ⟨Nat.le_trans h.n k.n, fun i hi hq => k.pend i (Nat.lt_of_lt_of_le hi h.n) (h.pend i hi hq), fun i hi => k.ok i (h.ok i hi), fun i hi => ?_, fun i hi => ?_, fun b o hb ho => h.own b o hb (k.own b o (Nat.lt_of_lt_of_le hb h.size) ho), k.os.trans h.os, k.tape.trans h.tape, k.output.trans h.output, Nat.le_trans h.size k.size, fun b hb ho => ?_, fun b cs t fz hb => ?_⟩
  · rw [k.blk i (h.ok i hi), h.blk i hi]
  · rcases h.tk i hi with e | e <;> rcases k.tk i (h.ok i hi) with e' | e'
    · exact .inl (e'.trans e)
    · exact .inr (e ▸ e')
    · exact .inr (e' ▸ e)
    · exact .inr (Nat.lt_trans e e')
  · rw [k.same b (Nat.lt_of_lt_of_le hb h.size) (fun o hh => ho o (h.own b o hb hh)), h.same b hb ho]
  · obtain ⟨cs', h1, h2, h3⟩ := h.cells b cs t fz hb
    obtain ⟨cs'', k1, k2, k3⟩ := k.cells b cs' t fz h1
    exact ⟨cs'', k1, k2.trans h2, fun o ho => by rw [k3 o (fun hh => ho (h.own b o (lt_size hb) hh)), h3 o ho]⟩

/-- what a value's reading hangs on -/
structure ExtV (g : G) (w : World) (g' : G) (w' : World) : Prop where
  ok : ∀ i, g.ok i → g'.ok i
  blk : ∀ i, g.ok i → g'.blk i = g.blk i
  tk : ∀ i, g.ok i → g'.tk i = g.tk i ∨ (g.tk i).len < (g'.tk i).len
  cell : ∀ {b o : Nat} {c : Value}, w.cell? ⟨b, o, none⟩ = some c → ¬ g.own b o → w'.cell? ⟨b, o, none⟩ = some c ∧ ¬ g'.own b o
  same : ∀ {b : Nat} {x : Obj}, w.heap[b]? = some x → (∀ o, ¬ g.own b o) → w'.heap[b]? = some x ∧ ∀ o, ¬ g'.own b o
theorem Ext.v {g g' : G} {w w' : World} (h : Ext g w g' w') : ExtV g w g' w' := ⟨h.ok, h.blk, h.tk, fun hc ho => h.cell hc ho, fun hb ho => ⟨by rw [h.same _ (lt_size hb) ho]; exact hb, fun o q => ho o (h.own _ o (lt_size hb) q)⟩⟩

mutual
theorem VRel.extV {g g' : G} {w w' : World} (h : ExtV g w g' w') : ∀ (v : AV) (c : Value), VRel g w v c → VRel g' w' v c
  | .bool _, _, hv => by simpa [VRel] using hv
  | .int _ _, _, hv => by simpa [VRel] using hv
  | .str _, _, hv => by simpa [VRel] using hv
  | .nilp, _, hv => by simpa [VRel] using hv
  | .ptr i o, _, hv => by
    simp only [VRel] at hv ⊢
    exact ⟨h.ok _ hv.1, by rw [h.blk i hv.1]; exact hv.2⟩
  | .rptr l, _, hv => by
    simp only [VRel] at hv ⊢
    obtain ⟨b, o, hc, hm⟩ := hv
    exact ⟨b, o, hc, MRel.extV h l b o hm⟩
  | .nilf, _, hv => by simpa [VRel] using hv
  | .clo fn fs cs, _, hv => by
    simp only [VRel] at hv ⊢
    obtain ⟨f', c', hc, h1, h2⟩ := hv
    exact ⟨f', c', hc, LRel.extV h fs _ h1, LRel.extV h cs _ h2⟩
  | .nili, _, hv => by simpa [VRel] using hv
  | .ifc t v, _, hv => by
    simp only [VRel] at hv ⊢
    obtain ⟨v', hc, h1⟩ := hv
    exact ⟨v', hc, VRel.extV h v _ h1⟩
  | .nils, _, hv => by simpa [VRel] using hv
  | .sl tok n l, _, hv => by
    simp only [VRel] at hv ⊢
    obtain ⟨A, cap, hc, hn, hm, ht⟩ := hv
    refine ⟨A, cap, hc, hn, ?_, fun t e => ?_⟩
    · rcases hm with hm | ⟨b, o, hA, hm⟩
      · exact .inl hm
      · exact .inr ⟨b, o, hA, MRel.extV h l b o hm⟩
    · obtain ⟨h1, h0, h2⟩ := ht t e
      rcases h.tk t h1 with e | e
      · exact ⟨h.ok _ h1, by rw [e]; exact h0, fun hl => by rw [e] at hl ⊢; exact h2 hl⟩
      · exact ⟨h.ok _ h1, by omega, fun hl => by omega⟩
  | .sx n l, _, hv => by
    simp only [VRel] at hv ⊢
    obtain ⟨A, hc, hm⟩ := hv
    refine ⟨A, hc, ?_⟩
    rcases hm with hm | ⟨b, o, hA, hm⟩
    · exact .inl hm
    · exact .inr ⟨b, o, hA, MRel.extV h l b o hm⟩
  | .rmp ks vs, _, hv => by
    simp only [VRel] at hv ⊢
    obtain ⟨b, es, clk, hc, hb, ho, h1, h2⟩ := hv
    obtain ⟨q1, q2⟩ := h.same hb ho
    exact ⟨b, es, clk, hc, q1, q2, LRel.extV h ks _ h1, LRel.extV h vs _ h2⟩
  | .ms i o n, _, hv => by
    simp only [VRel] at hv ⊢
    obtain ⟨h1, cap, hn, hc⟩ := hv
    exact ⟨h.ok _ h1, cap, hn, by rw [h.blk i h1]; exact hc⟩
  | .nilm, _, hv => by simpa [VRel] using hv
  | .mp i, _, hv => by
    simp only [VRel] at hv ⊢
    exact ⟨h.ok _ hv.1, by rw [h.blk i hv.1]; exact hv.2⟩
  | .agg l, _, hv => by
    simp only [VRel] at hv ⊢
    obtain ⟨cs, hc, h1⟩ := hv
    exact ⟨cs, hc, LRel.extV h l _ h1⟩
  | .tup l, _, hv => by
    simp only [VRel] at hv ⊢
    obtain ⟨cs, hc, h1⟩ := hv
    exact ⟨cs, hc, LRel.extV h l _ h1⟩
  | .junk, _, _ => by simp [VRel]
theorem LRel.extV {g g' : G} {w w' : World} (h : ExtV g w g' w') : ∀ (l : List AV) (cs : List Value), LRel g w l cs → LRel g' w' l cs
  | [], _, hv => by simpa [LRel] using hv
  | v :: l, _, hv => by
    simp only [LRel] at hv ⊢
    obtain ⟨c, r, hc, h1, h2⟩ := hv
    exact ⟨c, r, hc, VRel.extV h v c h1, LRel.extV h l r h2⟩
theorem MRel.extV {g g' : G} {w w' : World} (h : ExtV g w g' w') : ∀ (l : List AV) (b o : Nat), MRel g w l b o → MRel g' w' l b o
  | [], _, _, _ => by simp [MRel]
  | v :: l, b, o, hv => by
    simp only [MRel] at hv ⊢
    obtain ⟨⟨c, h1, h2, h3⟩, h4⟩ := hv
    obtain ⟨h5, h6⟩ := h.cell h1 h3
    exact ⟨⟨c, h5, VRel.extV h v c h2, h6⟩, MRel.extV h l b (o + 1) h4⟩
end

theorem VRel.ext {g g' : G} {w w' : World} (h : Ext g w g' w') (v : AV) (c : Value) : VRel g w v c → VRel g' w' v c := VRel.extV h.v v c
theorem LRel.ext {g g' : G} {w w' : World} (h : Ext g w g' w') (l : List AV) (cs : List Value) : LRel g w l cs → LRel g' w' l cs := LRel.extV h.v l cs
theorem MRel.ext {g g' : G} {w w' : World} (h : Ext g w g' w') (l : List AV) (b o : Nat) : MRel g w l b o → MRel g' w' l b o := MRel.extV h.v l b o

/-! ### the abstract heap -/
inductive Blk where
  | box (t : TypeId) (l : List AV)
  | tok (e : TypeId) (sz len : Nat)
  | mp (ks vs : List AV)
  | dead
  deriving Inhabited

abbrev Heap := List Blk

def locs (g : G) (i : Nat) : Blk → Option Nat
  | .box _ _ => some (g.blk i)
  | .tok _ _ _ => (g.tk i).base
  | .mp _ _ => some (g.blk i)
  | .dead => none

def BRel (g : G) (w : World) (i : Nat) : Blk → Prop
  | .box t l => ∃ cs, w.heap[g.blk i]? = some (.cells cs t (0, 0)) ∧ LRel g w l cs.toList ∧ ∀ o, g.own (g.blk i) o
  | .tok e sz len => (g.tk i).len = len ∧ (g.tk i).sz = sz ∧
    (((g.tk i).base = none ∧ len = 0 ∧ (g.tk i).cap = 0) ∨
     ∃ b cs, (g.tk i).base = some b ∧ w.heap[b]? = some (.cells cs e (0, 0)) ∧ cs.size = (g.tk i).cap * sz ∧ (g.tk i).cap ≤ maxLen ∧ len ≤ cs.size ∧ ∀ o, len ≤ o → g.own b o)
  | .mp ks vs => ∃ es clk, w.heap[g.blk i]? = some (.map es clk) ∧ LRel g w ks (es.toList.map (·.key)) ∧ LRel g w vs (es.toList.map (·.val)) ∧ ∀ o, g.own (g.blk i) o
  | .dead => True

/-- the abstract heap as a body sees it: what was there when the call began, and its own blocks -/
structure Hp where
  base : Heap
  k : Nat
  loc : Heap

def Hp.all (hp : Hp) : Heap := hp.base ++ hp.loc
def Hp.of (H : Heap) : Hp := ⟨H, 0, []⟩

def lget {α : Type} : List α → Nat → Option α
  | [], _ => none
  | x :: l, n => match n with
    | 0 => some x
    | m + 1 => lget l m

theorem lget_eq {α : Type} : ∀ (l : List α) (n : Nat), lget l n = l[n]?
  | [], n => by simp [lget]
  | x :: l, 0 => by simp [lget]
  | x :: l, n + 1 => by simp [lget, lget_eq l n]

structure HRel (g : G) (w : World) (hp : Hp) : Prop where
  n : g.n = hp.base.length + hp.k
  k : hp.loc.length = hp.k
  rel : ∀ i B, hp.all[i]? = some B → BRel g w i B
  lt : ∀ b o, g.own b o → b < w.heap.size
  pend : ∀ i, g.pend i → hp.all[i]? = some .dead
  inj : ∀ i j B C b, hp.all[i]? = some B → hp.all[j]? = some C → locs g i B = some b → locs g j C = some b → i = j

theorem HRel.of {g : G} {w : World} {hp : Hp} (h : HRel g w hp) : HRel g w (Hp.of hp.all) :=
  ⟨by rw [h.n]; simp [Hp.of, Hp.all, h.k], rfl, by simpa [Hp.of, Hp.all] using h.rel, h.lt, by simpa [Hp.of, Hp.all] using h.pend, by simpa [Hp.of, Hp.all] using h.inj⟩

/-- block i of the abstract heap -/
def At (hp : Hp) (i : Nat) (B : Blk) : Prop := hp.all[i]? = some B
theorem at_loc {base : Heap} {k : Nat} {loc : Heap} {j : Nat} {B : Blk} (h : lget loc j = some B) : At ⟨base, k, loc⟩ (base.length + j) B := by
  rw [lget_eq] at h
  unfold At Hp.all
  simp only
  rw [List.getElem?_append_right (by omega)]
  simpa using h
theorem at_base {base : Heap} {k : Nat} {loc : Heap} {i : Nat} {B : Blk} (h : base[i]? = some B) : At ⟨base, k, loc⟩ i B := by
  unfold At Hp.all
  simp only
  have hl := (List.getElem?_eq_some_iff.1 h).1
  rw [List.getElem?_append_left hl, h]

/-! ### temporaries -/
abbrev Env := List (Nat × AV)

def get : Env → Nat → AV
  | [], _ => .junk
  | (i, v) :: e, j => match Nat.beq i j with
    | true => v
    | false => get e j

def ERel (N : Nat) (g : G) (w : World) (env : Env) (a : Act) : Prop :=
  a.tmps.size = N ∧ ∀ s, VRel g w (get env s) (a.tmps.getD s undef)

theorem ERel.ext {N : Nat} {g g' : G} {w w' : World} {env : Env} {a : Act} (h : Ext g w g' w') (he : ERel N g w env a) : ERel N g' w' env a :=
  ⟨he.1, fun s => VRel.ext h _ _ (he.2 s)⟩

theorem get_put_same (env : Env) (d : Nat) (v : AV) : get ((d, v) :: env) d = v := by simp [get]
theorem get_put_ne (env : Env) {d s : Nat} (v : AV) (h : d ≠ s) : get ((d, v) :: env) s = get env s := by
  have : Nat.beq d s = false := by
    cases hb : Nat.beq d s
    · rfl
    · exact absurd (Nat.eq_of_beq_eq_true hb) h
  simp [get, this]

theorem ERel.put {N : Nat} {g : G} {w : World} {env : Env} {a : Act} (he : ERel N g w env a) {d : Nat} (hd : Nat.blt d N = true) {v : AV} {c : Value} (hv : VRel g w v c) :
    ERel N g w ((d, v) :: env) (a.put (some d) c) := by
  have hlt : d < N := by simp [Nat.blt] at hd; omega
  obtain ⟨h1, h2⟩ := he
  refine ⟨by simp [Act.put, h1], fun s => ?_⟩
  by_cases hs : d = s
  · subst hs
    rw [get_put_same]
    have : (a.put (some d) c).tmps.getD d undef = c := by
      simp [Act.put, Array.getD, h1, hlt]
    rw [this]; exact hv
  · rw [get_put_ne env v hs]
    have : (a.put (some d) c).tmps.getD s undef = a.tmps.getD s undef := by
      simp [Act.put, Array.getElem?_setIfInBounds_ne hs]
    rw [this]; exact h2 s

/-- Q, lifted to frames and worlds -/
def Lift (N : Nat) (Q : Exit → Env → Hp → Prop) (g : G) (w : World) (ds : List Deferred) : Exit → Act → World → Prop :=
  fun e a' w' => ∃ env' H' g', Q e env' H' ∧ HRel g' w' H' ∧ ERel N g' w' env' a' ∧ Ext g w g' w' ∧ a'.defers = ds

def VW (P : Program) (N : Nat) (c : Code) (Q : Exit → Env → Hp → Prop) (env : Env) (H : Hp) : Prop :=
  ∀ g w a, HRel g w H → ERel N g w env a → c.wp P (Lift N Q g w a.defers) a w

def VO (P : Program) (N : Nat) (all : List Oper) (rest : List Oper) (Q : Env → Hp → Prop) (env : Env) (H : Hp) : Prop :=
  ∀ (g0 : G) (w0 : World) (g : G) (w : World) (a : Act) (Qc : Exit → Act → World → Prop), HRel g w H → ERel N g w env a → Ext g0 w0 g w →
    (∀ env' H' g' a' w', Q env' H' → HRel g' w' H' → ERel N g' w' env' a' → Ext g0 w0 g' w' → a'.defers = a.defers → Qc .normal a' w') →
    wpList P all.toArray Qc rest a w

def CallOk (P : Program) (f : FuncId) : Prop := ∃ fn, P.funcs[f]? = some fn ∧ (fn.name == "runtime.NumGoroutine") = false ∧ fn.body.isNone = false

def VCall (P : Program) (f : FuncId) (args : List AV) (H : Heap) (R : AV → Heap → Prop) : Prop :=
  CallOk P f ∧ ∀ (g : G) (w : World) (as : Array Value), HRel g w (Hp.of H) → LRel g w args as.toList →
    Calls P f as w fun e w' => ∃ r H' g' c, e = .returned c ∧ R r H' ∧ HRel g' w' (Hp.of H') ∧ VRel g' w' r c ∧ Ext g w g' w'

section
variable {P : Program} {N : Nat} {Q : Exit → Env → Hp → Prop} {env : Env} {H : Hp}

theorem Lift.mono {Q' : Exit → Env → Hp → Prop} {g : G} {w : World} {ds : List Deferred} (h : ∀ e env H, Q e env H → Q' e env H) {e : Exit} {a : Act} {w' : World} (hl : Lift N Q g w ds e a w') : Lift N Q' g w ds e a w' := by
  obtain ⟨env', H', g', q, r⟩ := hl
  exact ⟨env', H', g', h _ _ _ q, r⟩

theorem VW.mono {Q' : Exit → Env → Hp → Prop} {c : Code} (hv : VW P N c Q env H) (h : ∀ e env H, Q e env H → Q' e env H) : VW P N c Q' env H :=
  fun g w a hH hE => Code.wp_mono (fun _ _ _ hl => Lift.mono h hl) (hv g w a hH hE)

theorem vw_skip (h : Q .normal env H) : VW P N .skip Q env H :=
  fun g w _ hH hE => wp_skip ⟨env, H, g, h, hH, hE, Ext.refl g w, rfl⟩
theorem vw_label {l : Nat} (h : Q .normal env H) : VW P N (.label l) Q env H :=
  fun g w _ hH hE => wp_label ⟨env, H, g, h, hH, hE, Ext.refl g w, rfl⟩
theorem vw_exit {id : Nat} (h : Q (.exit id) env H) : VW P N (.exit id) Q env H :=
  fun g w _ hH hE => wp_exit ⟨env, H, g, h, hH, hE, Ext.refl g w, rfl⟩
theorem vw_ret (h : Q .ret env H) : VW P N .ret Q env H :=
  fun g w _ hH hE => wp_ret ⟨env, H, g, h, hH, hE, Ext.refl g w, rfl⟩

/-- from (g, w) on the same may be said from an earlier (g0, w0) -/
theorem Lift.of_later {g0 g : G} {w0 w : World} {ds : List Deferred} (hx : Ext g0 w0 g w) {e : Exit} {a : Act} {w' : World} (hl : Lift N Q g w ds e a w') : Lift N Q g0 w0 ds e a w' := by
  obtain ⟨env', H', g', q, h1, h2, h3, h4⟩ := hl
  exact ⟨env', H', g', q, h1, h2, hx.trans h3, h4⟩

def thenQ (K : Env → Hp → Prop) (Q : Exit → Env → Hp → Prop) : Exit → Env → Hp → Prop
  | .normal, env, H => K env H
  | e, env, H => Q e env H

theorem vw_seq {x y : Code} (h : VW P N x (thenQ (VW P N y Q) Q) env H) : VW P N (.seq x y) Q env H := by
  intro g w a hH hE
  refine wp_seq (Code.wp_mono ?_ (h g w a hH hE))
  rintro e a' w' ⟨env', H', g', q, h1, h2, h3, h4⟩
  cases e with
  | normal =>
    have := q g' w' a' h1 h2
    refine Code.wp_mono (fun e a2 w2 hl => ?_) this
    rw [h4] at hl
    exact Lift.of_later h3 hl
  | exit id => exact ⟨env', H', g', q, h1, h2, h3, h4⟩
  | goto l => exact ⟨env', H', g', q, h1, h2, h3, h4⟩
  | ret => exact ⟨env', H', g', q, h1, h2, h3, h4⟩
  | panic ch => exact ⟨env', H', g', q, h1, h2, h3, h4⟩
  | outgrown => exact ⟨env', H', g', q, h1, h2, h3, h4⟩

def blockQ (id : Nat) (Q : Exit → Env → Hp → Prop) : Exit → Env → Hp → Prop
  | .exit i, env, H => match Nat.beq i id with
    | true => Q .normal env H
    | false => Q (.exit i) env H
  | e, env, H => Q e env H

theorem vw_block {id : Nat} {c : Code} (h : VW P N c (blockQ id Q) env H) : VW P N (.block id c) Q env H := by
  intro g w a hH hE
  refine wp_block (Code.wp_mono ?_ (h g w a hH hE))
  rintro e a' w' ⟨env', H', g', q, r⟩
  cases e with
  | exit i =>
    simp only [Exit.inBlock]
    simp only [blockQ] at q
    by_cases hi : i = id
    · subst hi
      simp only [Nat.beq_refl] at q
      rw [if_pos rfl]
      exact ⟨env', H', g', q, r⟩
    · have hb : Nat.beq i id = false := by
        cases hb : Nat.beq i id
        · rfl
        · exact absurd (Nat.eq_of_beq_eq_true hb) hi
      simp only [hb] at q
      rw [if_neg hi]
      exact ⟨env', H', g', q, r⟩
  | normal => exact ⟨env', H', g', q, r⟩
  | goto l => exact ⟨env', H', g', q, r⟩
  | ret => exact ⟨env', H', g', q, r⟩
  | panic ch => exact ⟨env', H', g', q, r⟩
  | outgrown => exact ⟨env', H', g', q, r⟩

def noGotoQ (Q : Exit → Env → Hp → Prop) : Exit → Env → Hp → Prop
  | .goto _, _, _ => False
  | e, env, H => Q e env H

def avc : Value → AV
  | .int k n => .int k n
  | .bool b => .bool b
  | .string s => .str s
  | .pointer none => .nilp
  | .slice none 0 0 => .nils
  | .map none => .nilm
  | .nilFunc => .nilf
  | .nilIface => .nili
  | _ => .junk

def ev (env : Env) : Operand → AV
  | .tmp t => get env t
  | .const v => avc v
  | .func f => .clo (.func f) [] []
  | .global _ => .junk

theorem avc_rel (g : G) (w : World) (v : Value) : VRel g w (avc v) v := by
  unfold avc
  split <;> simp [VRel]
theorem ev_rel {N : Nat} {g : G} {w : World} {env : Env} {a : Act} (he : ERel N g w env a) (x : Operand) : VRel g w (ev env x) (a.eval x) := by
  cases x with
  | tmp t => exact he.2 t
  | func f => simp [ev, VRel, Act.eval, LRel]
  | global g => simp [ev, VRel]
  | const v => exact avc_rel g w v

theorem vw_cond {c : Operand} {x y : Code} {b : Bool} (hc : ev env c = .bool b) (ht : b = true → VW P N x Q env H) (hf : b = false → VW P N y Q env H) : VW P N (.cond c x y) Q env H := by
  intro g w a hH hE
  have hr := ev_rel hE c
  rw [hc] at hr
  simp only [VRel] at hr
  refine wp_cond_split hr (fun h => ht h g w a hH hE) (fun h => hf h g w a hH hE)

theorem vw_region {id : Nat} {l : List Oper} (h : VO P N l l (Q .normal) env H) : VW P N (.region id l.toArray false) Q env H := by
  intro g w a hH hE
  refine wp_region_lit (h g w g w a _ hH hE (Ext.refl g w) ?_)
  intro env' H' g' a' w' q h1 h2 h3 h4
  exact ⟨env', H', g', q, h1, h2, h3, h4⟩
end
end Go.Vsi
