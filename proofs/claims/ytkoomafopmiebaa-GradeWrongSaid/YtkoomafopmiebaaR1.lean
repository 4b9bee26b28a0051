/- A text of the proof: R1. -/
import Derived.Test.YtkoomafopmiebaaE19
set_option linter.unusedSimpArgs false
set_option linter.unusedVariables false
namespace Go.Vsi

/-! ### the walk as a computed statement: registers, steps -/
inductive RG where
  | v (a : AV)
  | lp (j o : Nat)
  | lit (b : Bool)
  deriving Inhabited

abbrev RE := List (Nat × RG)

def tr (n0 : Nat) : RG → AV
  | .v a => a
  | .lp j o => .ptr (n0 + j) o
  | .lit b => .bool b
def trE (n0 : Nat) : RE → Env
  | [] => []
  | (i, v) :: l => (i, tr n0 v) :: trE n0 l

def rgetO : RE → Nat → Option RG
  | [], _ => none
  | (i, v) :: l, t => match Nat.beq i t with
    | true => some v
    | false => rgetO l t
def rget2 (top bot : RE) (t : Nat) : Option RG := match rgetO top t with
  | some v => some v
  | none => rgetO bot t

theorem trE_append (n0 : Nat) : ∀ a b : RE, trE n0 (a ++ b) = trE n0 a ++ trE n0 b
  | [], _ => rfl
  | (i, v) :: l, b => by simp [trE, trE_append n0 l b]
theorem rgetO_get {n0 : Nat} {t : Nat} : ∀ {l : RE} {v : RG}, rgetO l t = some v → ∀ r : Env, get (trE n0 l ++ r) t = tr n0 v
  | [], _, h, _ => by simp [rgetO] at h
  | (i, w) :: l, v, h, r => by
    simp only [rgetO] at h
    simp only [trE, List.cons_append]
    cases hb : Nat.beq i t with
    | true => simp only [hb, Option.some.injEq] at h; subst h; simp [get, hb]
    | false => simp only [hb] at h; simp only [get, hb]; exact rgetO_get h r
theorem rgetO_none {n0 : Nat} {t : Nat} : ∀ {l : RE}, rgetO l t = none → ∀ r : Env, get (trE n0 l ++ r) t = get r t
  | [], _, _ => by simp [trE]
  | (i, w) :: l, h, r => by
    simp only [rgetO] at h
    simp only [trE, List.cons_append]
    cases hb : Nat.beq i t with
    | true => simp [hb] at h
    | false => simp only [hb] at h; simp only [get, hb]; exact rgetO_none h r
theorem rget2_get {n0 : Nat} {top bot : RE} {t : Nat} {v : RG} (h : rget2 top bot t = some v) : get (trE n0 (top ++ bot)) t = tr n0 v := by
  unfold rget2 at h
  rw [trE_append]
  cases hx : rgetO top t with
  | some w =>
    simp only [hx, Option.some.injEq] at h; subst h
    exact rgetO_get hx _
  | none =>
    simp only [hx] at h
    rw [rgetO_none hx]
    have := rgetO_get (n0 := n0) h []
    simpa using this

def evR (top bot : RE) : Operand → Option RG
  | .tmp t => rget2 top bot t
  | .const v => match nf (avc v) with
    | some (.bool b) => some (.lit b)
    | some a => some (.v a)
    | none => none
  | .func f => some (.v (.clo (.func f) [] []))
  | .global _ => none
theorem evR_const {top bot : RE} {c : Value} {v : RG} (h : evR top bot (.const c) = some v) (n0 : Nat) : avc c = tr n0 v := by
  simp only [evR] at h
  split at h
  · rename_i b hb; simp only [Option.some.injEq] at h; subst h; rw [nf_spec hb]; rfl
  · rename_i a _ ha; simp only [Option.some.injEq] at h; subst h; rw [nf_spec ha]; rfl
  · cases h
theorem evR_ev {n0 : Nat} {top bot : RE} {x : Operand} {v : RG} (h : evR top bot x = some v) : ev (trE n0 (top ++ bot)) x = tr n0 v := by
  cases x with
  | tmp t => exact rget2_get h
  | const c => exact evR_const h n0
  | func f => simp only [evR, Option.some.injEq] at h; subst h; rfl
  | global g => cases h

/-- what one operation comes to -/
inductive SR where
  | fail
  | reg (v : RG)
  | mem (v : RG)
  | box (t : TypeId) (l : List AV)
  | upd (j : Nat) (B : Blk) (v : Option RG)
  | updB (i : Nat) (B : Blk) (v : Option RG)
  | blk (B : Blk) (v : Nat → RG)
  | side (p : Prop) (s : SR)
  | ptr (i : Nat) (kl : Nat → SR) (kb : Blk → SR)
  | seg (l : List AV) (o : Nat) (k : List AV → SR)
  | ofs (i : Int) (n : Nat) (k : Nat → SR)
  | eqv (x : Int) (k : Int → SR)
  | sub (l : List AV) (o n : Nat) (k : List AV → SR)
  | nat (i : Int) (k : Nat → SR)
  | byte (s : ByteArray) (i : Int) (k : UInt8 → SR)
  | or (a b : SR)
  | call (f : FuncId) (as : List AV)

def ofV : Option AV → SR
  | some v => .reg (.v v)
  | none => .fail
/-- an integer, under whatever name -/
def ofI : Option AV → SR
  | some (.int k x) => .eqv x fun y => .reg (.v (.int k y))
  | some v => .reg (.v v)
  | none => .fail
def memV : Option AV → SR
  | some v => .mem (.v v)
  | none => .fail

/-- the plain value of an operand -/
def av (n0 : Nat) (top bot : RE) (x : Operand) : AV := match evR top bot x with
  | some v => tr n0 v
  | none => .junk

/-- .. laid open -/
def avF (n0 : Nat) (top bot : RE) (x : Operand) : Option AV := match evR top bot x with
  | some (.v a) => some a
  | some (.lp j o) => some (.ptr (n0 + j) o)
  | some (.lit b) => some (.bool b)
  | none => none
theorem avF_av {n0 : Nat} {top bot : RE} {x : Operand} {a : AV} (h : avF n0 top bot x = some a) : av n0 top bot x = a := by
  unfold avF at h
  unfold av
  cases he : evR top bot x with
  | none => simp [he] at h
  | some v => cases v <;> simp only [he, Option.some.injEq] at h <;> subst h <;> rfl
def withV (v : Option AV) (k : AV → SR) : SR := match v with
  | some a => k a
  | none => .fail
def withL {α : Type} (v : Option (List α)) (k : List α → SR) : SR := match v with
  | some a => k a
  | none => .fail

def intS : BinOp → IntKind → Int → IntKind → Int → Option SR
  | .quo, k, m, k', n => match ikEq k k' with
    | true => some (.side (n ≠ 0) (.eqv (k.wrap (m.tdiv n)) fun y => .reg (.v (.int k y))))
    | false => none
  | .rem, k, m, k', n => match ikEq k k' with
    | true => some (.side (n ≠ 0) (.eqv (m.tmod n) fun y => .reg (.v (.int k y))))
    | false => none
  | .shl, k, m, _, n => some (.side (0 ≤ n) (.eqv (k.wrap (m * 2 ^ min n.toNat k.bits)) fun y => .reg (.v (.int k y))))
  | .shr, k, m, _, n => some (.side (0 ≤ n) (.eqv (m.fdiv (2 ^ min n.toNat k.bits)) fun y => .reg (.v (.int k y))))
  | _, _, _, _, _ => none

def binS (kn : TypeId → Nat) (T : TypeId → Option TI) (op : BinOp) (t : TypeId) (a b : AV) : SR :=
  match a, b with
  | .int k m, .int k' n => match intS op k m k' n with
    | some s => s
    | none => match ikEq k k' with
      | true => ofI (intBin op k m n)
      | false => .fail
  | .str a, .str b => ofV (strBin op a b)
  | .bool a, .bool b => match isBoolT T t with
    | true => ofV (boolBin op a b)
    | false => .fail
  | .agg l, .agg m => match kn t with
    | _ + 2 => match eqV kn T 20 t (.agg l) (.agg m) with
      | some b => match op with
        | .eql => .reg (.v (.bool b))
        | .neq => .reg (.v (.bool (!b)))
        | _ => .fail
      | none => .fail
    | _ => .fail
  | _, _ => .fail

def moveS : Option RG → SR
  | some v => .reg v
  | none => .fail

def fieldS (T : TypeId → Option TI) (s : TypeId) (f : Nat) : Option RG → SR
  | some (.lp j o) => match T s with
    | some ti => match ti.kind with
      | .st fs => match lget fs f with
        | some (_, off, _ + 1, _) => .reg (.lp j (o + off))
        | _ => .fail
      | _ => .fail
    | none => .fail
  | some (.v a) => ofV (fieldV T s f a)
  | _ => .fail

def loadS (T : TypeId → Option TI) (t : TypeId) (loc : Heap) : Option RG → SR
  | some (.lp j o) => match lget loc j with
    | some (.box _ l) => match dropC o l with
      | some l' => match T t with
        | some ti => memV (loadC ti l')
        | none => .fail
      | none => .fail
    | _ => .fail
  | some (.v (.rptr l)) => match T t with
    | some ti => memV (loadC ti l)
    | none => .fail
  | some (.v (.ptr i o)) => .ptr i (fun j => match lget loc j with
      | some (.box _ l) => match dropC o l with
        | some l' => match T t with
          | some ti => memV (loadC ti l')
          | none => .fail
        | none => .fail
      | _ => .fail) (fun B => match B with
        | .box _ l => match dropC o l with
          | some l' => match T t with
            | some ti => memV (loadC ti l')
            | none => .fail
          | none => .fail
        | _ => .fail)
  | _ => .fail

/-- the cells of a value that is stored -/
def cellsS (v : AV) : Option (List AV) := match v with
  | .agg l => match allOne l with
    | true => some l
    | false => none
  | .tup _ | .junk => none
  | v => some [v]
theorem cellsS_spec {v : AV} {l : List AV} (h : cellsS v = some l) : v.cells = l ∧ allOne l = true := by
  cases v <;> simp only [cellsS, Option.some.injEq, reduceCtorEq] at h
  case agg m =>
    cases hm : allOne m with
    | true => simp only [hm, Option.some.injEq] at h; subst h; exact ⟨rfl, hm⟩
    | false => simp [hm] at h
  all_goals subst h; exact ⟨rfl, rfl⟩

def storeS (T : TypeId → Option TI) (t : TypeId) (loc : Heap) (p : Option RG) (v : Option AV) : SR :=
  match v with
  | none => .fail
  | some v => match cellsS v with
    | none => .fail
    | some vs => match T t with
      | none => .fail
      | some ti => match Nat.beq vs.length ti.sz with
        | false => .fail
        | true => match p with
          | some (.lp j o) => match lget loc j with
            | some (.box u l) => match setC l o vs with
              | some l' => .upd j (.box u l') none
              | none => .fail
            | _ => .fail
          | some (.v (.ptr i o)) => .ptr i (fun j => match lget loc j with
            | some (.box u l) => match setC l o vs with
              | some l' => .upd j (.box u l') none
              | none => .fail
            | _ => .fail) (fun B => match B with
            | .box u l => match setC l o vs with
              | some l' => .updB i (.box u l') none
              | none => .fail
            | _ => .fail)
          | _ => .fail

def allocS (T : TypeId → Option TI) (t : TypeId) : SR := match T t with
  | some ti => match ti.zero with
    | some z => .box t z
    | none => .fail
  | none => .fail
/-- the cells of a value that gets a box -/
def boxC (v : AV) : Option (List AV) := match v with
  | .agg l => some l
  | .tup _ | .junk => none
  | v => some [v]
theorem boxC_spec {v : AV} {l : List AV} (h : boxC v = some l) : v.cells = l ∧ (v.one = true ∨ ∃ l, v = .agg l) := by
  cases v <;> simp only [boxC, Option.some.injEq, reduceCtorEq] at h
  all_goals subst h
  case agg m => exact ⟨rfl, .inr ⟨m, rfl⟩⟩
  all_goals exact ⟨rfl, .inl rfl⟩
def boxS (t : TypeId) (v : AV) : SR := match boxC v with
  | some l => .box t l
  | none => .fail

def indexS (T : TypeId → Option TI) (t : TypeId) (x : Option RG) (y : AV) : SR := match y with
  | .int _ i => match T t with
    | some ti => match ti.kind with
      | .sl e => match T e with
        | some ei => match x with
          | some (.v (.ms b o n)) => .ptr b (fun j => .ofs i n fun m => .reg (.lp j (o + m * ei.sz))) (fun _ => .ofs i n fun m => .reg (.v (.ptr b (o + m * ei.sz))))
          | some (.v a) => match slOf a with
            | some (n, l) => .side (0 ≤ i ∧ i < n) (.seg l (i.toNat * ei.sz) fun l' => .side (l' ≠ []) (.reg (.v (.rptr l'))))
            | none => .fail
          | _ => .fail
        | none => .fail
      | .arr n e => match T e with
        | some ei => match x with
          | some (.lp j o) => .ofs i n fun m => .reg (.lp j (o + m * ei.sz))
          | some (.v (.ptr b o)) => .ofs i n fun m => .reg (.v (.ptr b (o + m * ei.sz)))
          | some (.v (.rptr l)) => .side (0 ≤ i ∧ i < n) (.seg l (i.toNat * ei.sz) fun l' => .reg (.v (.rptr l')))
          | _ => .fail
        | none => .fail
      | _ => .fail
    | none => .fail
  | _ => .fail

/-- the operands' plain values -/
def avL (n0 : Nat) (top bot : RE) : List Operand → List AV
  | [] => []
  | x :: l => av n0 top bot x :: avL n0 top bot l
def avP (n0 : Nat) (top bot : RE) : List (Nat × Operand) → List (Nat × AV)
  | [] => []
  | (i, x) :: l => (i, av n0 top bot x) :: avP n0 top bot l
def avLF (n0 : Nat) (top bot : RE) : List Operand → Option (List AV)
  | [] => some []
  | x :: l => match avF n0 top bot x with
    | some a => match avLF n0 top bot l with
      | some r => some (a :: r)
      | none => none
    | none => none
def avPF (n0 : Nat) (top bot : RE) : List (Nat × Operand) → Option (List (Nat × AV))
  | [] => some []
  | (i, x) :: l => match avF n0 top bot x with
    | some a => match avPF n0 top bot l with
      | some r => some ((i, a) :: r)
      | none => none
    | none => none
theorem avLF_eq {n0 : Nat} {top bot : RE} : ∀ {l : List Operand} {r : List AV}, avLF n0 top bot l = some r → avL n0 top bot l = r
  | [], r, h => by simp only [avLF, Option.some.injEq] at h; exact h
  | x :: l, r, h => by
    simp only [avLF] at h
    split at h
    · rename_i a ha
      split at h
      · rename_i r' hr
        simp only [Option.some.injEq] at h; subst h
        simp only [avL]; rw [avF_av ha, avLF_eq hr]
      · cases h
    · cases h
theorem avPF_eq {n0 : Nat} {top bot : RE} : ∀ {l : List (Nat × Operand)} {r : List (Nat × AV)}, avPF n0 top bot l = some r → avP n0 top bot l = r
  | [], r, h => by simp only [avPF, Option.some.injEq] at h; exact h
  | (i, x) :: l, r, h => by
    simp only [avPF] at h
    split at h
    · rename_i a ha
      split at h
      · rename_i r' hr
        simp only [Option.some.injEq] at h; subst h
        simp only [avP]; rw [avF_av ha, avPF_eq hr]
      · cases h
    · cases h
def appO : List AV → List AV → Option (List AV)
  | [], m => some m
  | x :: l, m => match appO l m with
    | some r => some (x :: r)
    | none => none
theorem appO_eq : ∀ {l m r : List AV}, appO l m = some r → r = l ++ m
  | [], m, r, h => by simp only [appO, Option.some.injEq] at h; exact h.symm
  | x :: l, m, r, h => by
    simp only [appO] at h
    split at h
    · rename_i r' hr
      simp only [Option.some.injEq] at h; subst h
      rw [appO_eq hr]; rfl
    · cases h
def repO : Nat → List AV → Option (List AV)
  | 0, _ => some []
  | n + 1, z => match repO n z with
    | some r => appO z r
    | none => none
theorem repO_eq : ∀ {n : Nat} {z r : List AV}, repO n z = some r → r = repC n z
  | 0, z, r, h => by simp only [repO, Option.some.injEq] at h; exact h.symm
  | n + 1, z, r, h => by
    simp only [repO] at h
    split at h
    · rename_i r' hr
      rw [appO_eq h, repO_eq hr]; rfl
    · cases h
def appL : List AV → List AV → List AV
  | [], m => m
  | x :: l, m => x :: appL l m
theorem appL_eq : ∀ l m, appL l m = l ++ m
  | [], _ => rfl
  | x :: l, m => by simp [appL, appL_eq l m]

def buildS (T : TypeId → Option TI) (t : TypeId) (kn : TypeId → Nat) (parts : List (Nat × AV)) : SR := match allOA parts with
  | false => .fail
  | true => match T t with
    | some ti => match ti.zero with
      | some z => match ti.kind with
        | .st fs => match kn t with
          | _ + 1 => match fillC (stPlace fs) z parts with
            | some l => .reg (.v (.agg l))
            | none => .fail
          | 0 => .fail
        | .arr _ e => match T e with
          | some ei => match fillC (arrPlace ei.sz) z parts with
            | some l => .reg (.v (.agg l))
            | none => .fail
          | none => .fail
        | _ => .fail
      | none => .fail
    | none => .fail

def buildSliceS (T : TypeId → Option TI) (t : TypeId) (n : Nat) (parts : List (Nat × AV)) : SR := match allOA parts with
  | false => .fail
  | true => match T t with
    | some ti => match ti.kind with
      | .sl e => match T e with
        | some ei => match ei.zero with
          | some z => match Nat.beq z.length ei.sz with
            | true => match Nat.ble (n * ei.sz) 16777216 with
              | true => match repO n z with
                | some zs => match fillC (arrPlace ei.sz) zs parts with
                  | some l => .mem (.v (.sx n l))
                  | none => .fail
                | none => .fail
              | false => .fail
            | false => .fail
          | none => .fail
        | none => .fail
      | _ => .fail
    | none => .fail

def fieldPartV (T : TypeId → Option TI) (s : TypeId) (f : Nat) : AV → Option AV
  | .agg l => match T s with
    | some ti => match ti.kind with
      | .st fs => match lget fs f with
        | some (ft, off, _, _) => match T ft with
          | some fi => match dropC off l with
            | some l' => loadC fi l'
            | none => none
          | none => none
        | none => none
      | _ => none
    | none => none
  | _ => none

def nilS : Option RG → SR
  | some (.lp j o) => .reg (.lp j o)
  | some (.v (.ptr i k)) => .reg (.v (.ptr i k))
  | some (.v (.rptr l)) => .reg (.v (.rptr l))
  | some (.v (.clo (.func f) fs cs)) => .reg (.v (.clo (.func f) fs cs))
  | _ => .fail
def notS : AV → SR
  | .bool b => .reg (.v (.bool (!b)))
  | _ => .fail
def negS : AV → SR
  | .int k n => .eqv (k.wrap (0 - n)) fun y => .reg (.v (.int k y))
  | _ => .fail
def extractS (i : Nat) : AV → SR
  | .tup l => match lget l i with
    | some v => .reg (.v v)
    | none => .fail
  | _ => .fail
def callS (as : List AV) : AV → SR
  | .clo (.func f) fs cs => match appO fs as with
    | some l => match appO l cs with
      | some l => .call f l
      | none => .fail
    | none => .fail
  | _ => .fail

/-- the length of a slice or a string -/
def lenS (T : TypeId → Option TI) (t : TypeId) (a : AV) : SR := match T t with
  | some ti => match ti.kind with
    | .sl _ => match a with
      | .ms _ _ n => .reg (.v (.int .i64 n))
      | a => match slOf a with
        | some (n, _) => .reg (.v (.int .i64 n))
        | none => .fail
    | .str => match a with
      | .str s => .reg (.v (.int .i64 s.size))
      | _ => .fail
    | _ => .fail
  | none => .fail

/-- a bound of a slice expression -/
def bdS (v : Option AV) (d : Nat) (k : Nat → SR) : SR := match v with
  | none => k d
  | some (.int _ i) => .nat i k
  | _ => .fail
def avO (n0 : Nat) (top bot : RE) : Option Operand → Option AV
  | none => none
  | some x => some (av n0 top bot x)

def sliceS (T : TypeId → Option TI) (t : TypeId) (a : AV) (low high max : Option AV) : SR := match T t with
  | some ti => match ti.kind with
    | .sl e => match T e with
      | some ei => match slOf a with
        | some (n, l) => match max with
          | none => bdS low 0 fun lo => bdS high n fun hi => .side (lo ≤ hi ∧ hi ≤ n) (.sub l (lo * ei.sz) ((hi - lo) * ei.sz) fun l' => .reg (.v (.sl none (hi - lo) l')))
          | some (.int _ m) => match high with
            | some (.int _ h) => bdS low 0 fun lo => .nat h fun hi => .side (m = h ∧ lo ≤ hi ∧ hi ≤ n) (.sub l (lo * ei.sz) ((hi - lo) * ei.sz) fun l' => .reg (.v (.sx (hi - lo) l')))
            | _ => .fail
          | _ => .fail
        | none => .fail
      | none => .fail
    | .str => match a with
      | .str s => match max with
        | none => bdS low 0 fun lo => bdS high s.size fun hi => .side (lo ≤ hi ∧ hi ≤ s.size) (.reg (.v (.str (s.extract lo hi))))
        | _ => .fail
      | _ => .fail
    | _ => .fail
  | none => .fail

def indexV (T : TypeId → Option TI) (t : TypeId) (a y : AV) : SR := match T t with
  | some ti => match ti.kind with
    | .str => match a with
      | .str s => match y with
        | .int _ i => .side (0 ≤ i) (.byte s i fun b => .reg (.v (.int .u8 b.toNat)))
        | _ => .fail
      | _ => .fail
    | _ => .fail
  | none => .fail

def makeS (n0 : Nat) (T : TypeId → Option TI) (t : TypeId) (x y : AV) : SR := match T t with
  | some ti => match ti.kind with
    | .sl e => match T e with
      | some ei => match ei.zero with
        | some z => match Nat.beq z.length ei.sz with
          | true => match x with
            | .int _ i => match y with
              | .int _ c => .nat i fun n => .side (c = i ∧ i ≤ 9223372036854775807 ∧ n * ei.bytes ≤ 281474976710656)
                  (.or (.mem (.v (.sx n (repC n z)))) (.blk (.box e (repC n z)) fun k => .v (.ms (n0 + k) 0 n)))
              | _ => .fail
            | _ => .fail
          | false => .fail
        | none => .fail
      | none => .fail
    | _ => .fail
  | none => .fail

/-- what append asks -/
structure AppT (L n m sz bytes : Nat) (l l2 : List AV) : Prop where
  L : L = l.length
  one : allOne l2 = true
  l2 : l2.length = m * sz
  bytes : (n + m) * bytes ≤ 140737488355328
  max : n + m ≤ maxLen
structure AppX (n m sz bytes : Nat) (l l2 : List AV) : Prop where
  m0 : 0 < m
  l : l.length = n * sz
  l2 : l2.length = m * sz
  bytes : (n + m) * bytes ≤ 140737488355328
  max : n + m ≤ maxLen

def appendS (n0 : Nat) (T : TypeId → Option TI) (t : TypeId) (loc : Heap) (x y : AV) : SR := match slOf y with
  | some (m, l2) => match T t with
    | some ti => match ti.kind with
      | .sl e => match T e with
        | some ei => match ei.zero with
          | some z => match Nat.beq z.length ei.sz with
            | true => match ei.sz with
              | 0 => .fail
              | sz + 1 => match x with
                | .sl (some tk) n l => .ptr tk (fun j => match lget loc j with
                    | some (.tok e' sz' L) => match Nat.beq e' e with
                      | true => match Nat.beq sz' (sz + 1) with
                        | true => .side (AppT L n m (sz + 1) ei.bytes l l2) (.upd j (.tok e (sz + 1) (l ++ l2).length) (some (.v (.sl (some tk) (n + m) (l ++ l2)))))
                        | false => .fail
                      | false => .fail
                    | _ => .fail) (fun B => match B with
                    | .tok e' sz' L => match Nat.beq e' e with
                      | true => match Nat.beq sz' (sz + 1) with
                        | true => .side (AppT L n m (sz + 1) ei.bytes l l2) (.updB tk (.tok e (sz + 1) (l ++ l2).length) (some (.v (.sl (some tk) (n + m) (l ++ l2)))))
                        | false => .fail
                      | false => .fail
                    | _ => .fail)
                | .sx n l => .or (.side (AppX n m (sz + 1) ei.bytes l l2) (.blk (.tok e (sz + 1) (l ++ l2).length) fun k => .v (.sl (some (n0 + k)) (n + m) (l ++ l2)))) (.side (m = 0) (.reg (.v (.sx n l))))
                | .nils => .or (.side (AppX 0 m (sz + 1) ei.bytes [] l2) (.blk (.tok e (sz + 1) (([] : List AV) ++ l2).length) fun k => .v (.sl (some (n0 + k)) (0 + m) ([] ++ l2)))) (.side (m = 0) (.reg (.v .nils)))
                | .sl none n l => .side (m = 0) (.reg (.v (.sl none n l)))
                | _ => .fail
            | false => .fail
          | none => .fail
        | none => .fail
      | _ => .fail
    | none => .fail
  | none => .fail

def stepS (kn : TypeId → Nat) (T : TypeId → Option TI) (n0 : Nat) (top bot : RE) (loc : Heap) : Op → SR
  | .move x => moveS (evR top bot x)
  | .assign x => moveS (evR top bot x)
  | .binOp op t x y _ => binS kn T op t (av n0 top bot x) (av n0 top bot y)
  | .unOp .not _ x => notS (av n0 top bot x)
  | .unOp .neg _ x => negS (av n0 top bot x)
  | .convert s t x => ofI (convV T s t (av n0 top bot x))
  | .extract x i => extractS i (av n0 top bot x)
  | .fieldAddr s x f => fieldS T s f (evR top bot x)
  | .field s x f => ofV (fieldPartV T s f (av n0 top bot x))
  | .nilCheck x => nilS (evR top bot x)
  | .load t x => loadS T t loc (evR top bot x)
  | .store t x y => storeS T t loc (evR top bot x) (avF n0 top bot y)
  | .alloc t => allocS T t
  | .box t x => withV (avF n0 top bot x) fun v => boxS t v
  | .build t ⟨ps⟩ => withL (avPF n0 top bot ps) fun l => buildS T t kn l
  | .buildSlice t n ⟨ps⟩ => withL (avPF n0 top bot ps) fun l => buildSliceS T t n l
  | .indexAddr t x y => indexS T t (evR top bot x) (av n0 top bot y)
  | .makeFunc fn ⟨fs⟩ ⟨cs⟩ => withL (avLF n0 top bot fs) fun fs => withL (avLF n0 top bot cs) fun cs => .reg (.v (.clo fn fs cs))
  | .slice t x low high max => sliceS T t (av n0 top bot x) (avO n0 top bot low) (avO n0 top bot high) (avO n0 top bot max)
  | .index t x y => indexV T t (av n0 top bot x) (av n0 top bot y)
  | .makeSlice t x y => makeS n0 T t (av n0 top bot x) (av n0 top bot y)
  | .call { callee := .builtin .len, args := ⟨[x]⟩, argTypes := ⟨[t]⟩ } => lenS T t (av n0 top bot x)
  | .call { callee := .builtin .append, args := ⟨[x, y]⟩, argTypes := ⟨[t, u]⟩ } => match Nat.beq t u with
    | true => appendS n0 T t loc (av n0 top bot x) (av n0 top bot y)
    | false => .fail
  | .call { callee := .builtin .min, args := ⟨[x, y]⟩, .. } => ofV (minV (av n0 top bot x) (av n0 top bot y))
  | .call { callee := .builtin .max, args := ⟨[x, y]⟩, .. } => ofV (maxV (av n0 top bot x) (av n0 top bot y))
  | .call { callee := .value f, args := ⟨xs⟩, .. } => withL (avLF n0 top bot xs) fun as => callS as (av n0 top bot f)
  | _ => .fail
end Go.Vsi
